import Derived.Test.YteafkdcppbemdaaDoorPlainC
import Derived.Test.YteafkdcppbemdaaDoorLives
import Derived.Test.YteafkdcppbemdaaDoorQ10
namespace Go.Proofs.YteafkdcppbemdaaDoor.Q
open Go.RowKit Go.Proofs.YteafkdcppbemdaaDoorW.PrintWords Go.Proofs.YteafkdcppbemdaaDoorW.PrintLast Go.Proofs.YteafkdcppbemdaaDoorW.PrintMore
set_option linter.unusedVariables false
set_option linter.unusedSimpArgs false

theorem lives_all (k : Nat) (hk : 60 ≤ k) : L5_lives.f k = some true := at_rounds (g := fun k => L5_lives.f k) (fun k => L5_lives.mono k) hk lives_true
theorem blank_true {s : ByteArray} {c : Bool} (h : s.size ≤ 8192) (hb : blankSt false s.data.toList = some c) : lex_Blank.f s = some true := by
  have hs : skip false s.data.toList = s.size := by
    have := skip_of s.data.toList [] false (.inl ⟨rfl, c, hb⟩)
    rwa [List.append_nil, data_length] at this
  unfold lex_Blank.f lex_blanks.f
  rw [if_pos (by omega), if_pos (by omega), Option.bind_some, hs]
  simp
theorem bs_append (a b : List UInt8) : bs a ++ bs b = bs (a ++ b) := by
  apply bs_inj; rw [ByteArray.data_append, Array.toList_append, bs_data, bs_data, bs_data]
theorem lives_ev : Ev (fun k => L5_lives.f k) true := ⟨60, fun k hk => lives_all k hk⟩
end Go.Proofs.YteafkdcppbemdaaDoor.Q
