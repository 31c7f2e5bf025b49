import Derived.Test.YteafkdcppbemdaaDoorQ8
namespace Go.Proofs.YteafkdcppbemdaaDoor.Q
theorem lives_true : L5_lives.f 60 = some true := by decide +kernel
end Go.Proofs.YteafkdcppbemdaaDoor.Q
