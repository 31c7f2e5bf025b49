import Derived.Test.YteafkdcppbemdaaDoorPlainB
import Derived.Test.YteafkdcppbemdaaDoorGivenD
namespace Go.Proofs.YteafkdcppbemdaaDoor.Q
open Go.RowKit Go.Proofs.YteafkdcppbemdaaDoorW.PrintWords Go.Proofs.YteafkdcppbemdaaDoorW.PrintLast Go.Proofs.YteafkdcppbemdaaDoorW.PrintMore
set_option linter.unusedVariables false
set_option linter.unusedSimpArgs false

theorem bs_data (l : List UInt8) : (bs l).data.toList = l := by simp [bs]
theorem bs_of (s : ByteArray) : bs s.data.toList = s := by simp [bs]
theorem bs_inj {a b : ByteArray} (h : a.data.toList = b.data.toList) : a = b := by rw [← bs_of a, ← bs_of b, h]
theorem extract_bs (s : ByteArray) (i j : Nat) : s.extract i j = bs ((s.data.toList.drop i).take (j - i)) := by
  apply bs_inj
  rw [bs_data, ByteArray.data_extract, Array.toList_extract, List.extract_eq_take_drop]
theorem extract_list (s : ByteArray) (i : Nat) : (s.extract i s.size).data.toList = s.data.toList.drop i := by
  rw [extract_bs, bs_data, List.take_of_length_le (by rw [List.length_drop, data_length]; omega)]
theorem extract_size (s : ByteArray) (i : Nat) (h : i ≤ s.size) : (s.extract i s.size).size = s.size - i := by
  rw [← data_length, extract_list, List.length_drop, data_length]
def cv (t : Tk) : S38 := ⟨bs t.text, bs t.before⟩
theorem w64 {x : Int} (h0 : 0 ≤ x) (h1 : x ≤ 9223372036854775807) : wrap64 x = x := by unfold wrap64; omega
end Go.Proofs.YteafkdcppbemdaaDoor.Q
