import Derived.Test.YteafkdcppbemdaaDoorGivenW
import Derived.Test.YteafkdcppbemdaaDoorGivenA
import Derived.Test.YteafkdcppbemdaaDoorShelf
namespace Go.Proofs.YteafkdcppbemdaaDoor.Q
open Go.RowKit Go.Proofs.YteafkdcppbemdaaDoorW.PrintWords Go.Proofs.YteafkdcppbemdaaDoorW.PrintLast Go.Proofs.YteafkdcppbemdaaDoorW.PrintMore
set_option linter.unusedVariables false
set_option linter.unusedSimpArgs false

/-! ### Text -/
def textB (l : List S38) : List UInt8 := l.flatMap fun t => t.f1.data.toList ++ t.f0.data.toList
theorem textB_take (l : List S38) (k : Nat) (h : k < l.length) : textB (l.take (k + 1)) = textB (l.take k) ++ ((rd_T38 l (k : Int)).f1.data.toList ++ (rd_T38 l (k : Int)).f0.data.toList) := by
  have e : rd_T38 l (k : Int) = l[k] := by simp [rd_T38, List.getElem?_eq_getElem h]
  rw [List.take_succ_eq_append_getElem h, textB, List.flatMap_append, e]
  simp [textB]
theorem textB_le (l : List S38) (k : Nat) : (textB (l.take k)).length ≤ (textB l).length := by
  have h : textB l = textB (l.take k) ++ textB (l.drop k) := by rw [textB, textB, textB, ← List.flatMap_append, List.take_append_drop]
  rw [h, List.length_append]; omega
def lex_Text.f (l0 : List S38) (a1 : ByteArray) : Option ByteArray := if (textB l0).length ≤ 140737488355328 ∧ a1.size ≤ 140737488355328 then some (bs (textB l0) ++ a1) else none
theorem byteCells_append (a b : List UInt8) : Lib.byteCells (a ++ b) = Lib.byteCells a ++ Lib.byteCells b := by simp [Lib.byteCells]
theorem strCells_eq (s : ByteArray) : Lib.strCells s = Lib.byteCells s.data.toList := rfl
theorem isBuilder_alloc {T e : TypeId} {B b : Nat} {bs : List Value} {w : World} (h : Lib.IsBuilder T e B b bs w) (o : Obj) : Lib.IsBuilder T e B b bs (w.alloc o) := by
  have all : ∀ p, Lib.BuilderAt T e B b p bs w → Lib.BuilderAt T e B b p bs (w.alloc o) := fun p ⟨h1, v, h2, h3, h4⟩ =>
    ⟨h1, v, (Lib.alloc_old w o b (Array.getElem?_eq_some_iff.1 h2).1).trans h2, h3.alloc o, h4⟩
  exact h.imp (all _) (all _)
theorem isBuilder_lt {T e : TypeId} {B b : Nat} {bs : List Value} {w : World} (h : Lib.IsBuilder T e B b bs w) : b + 1 ≤ w.heap.size := by
  have all : ∀ p, Lib.BuilderAt T e B b p bs w → b + 1 ≤ w.heap.size := fun p ⟨h1, v, h2, h3, h4⟩ => (Array.getElem?_eq_some_iff.1 h2).1
  exact h.elim (all _) (all _)
theorem below_more {B : Nat} {w w1 w2 : World} {o : Obj} (h : Below B w w1) (h' : Below B (w1.alloc o) w2) (hB : B ≤ w1.heap.size) : Below B w w2 := (h.alloc hB o).trans h'
set_option maxHeartbeats 2000000 in
set_option maxRecDepth 100000 in
theorem lex_Text.calls (A0 : Option Addr) (c0 : Nat) (l0 : List S38) (a1 r : ByteArray) (w : World) (hr0 : Kd.C k38 w A0 l0.length l0) (hc0 : l0.length ≤ c0) (h : lex_Text.f l0 a1 = some r) :
    Calls Tryd.prog 21 #[.slice A0 l0.length c0, .string a1] w fun e w' => e = .returned (.string r) ∧ Below w.heap.size w w' := by
  unfold lex_Text.f at h
  by_cases hl : (textB l0).length ≤ 140737488355328 ∧ a1.size ≤ 140737488355328
  · rw [if_pos hl] at h
    obtain rfl := Option.some.inj h
    clear h
    have hmax := Kd.C_max hr0
    have HR := Lib.hid hr0
    clear hr0
    go_enter Tryd.func21, Tryd.ntmps21
    go_wp2
    go_loopw [10] (fun v wr => ∃ k : Nat, k ≤ l0.length ∧ v = .int .i64 k ∧ Hid (Lib.IsBuilder 61 5 w.heap.size w.heap.size (Lib.byteCells (textB (l0.take k))) wr) ∧ Hid (Below w.heap.size w wr)) (fun v _ => l0.length - (intOf v).toNat)
    case atStart => exact ⟨0, by omega, rfl, Lib.hid (Lib.fresh_isBuilder 61 5 w), Lib.hid ((Below.refl _ _).alloc (Nat.le_refl _) _)⟩
    case round =>
      obtain ⟨k, hk, rfl, HI, HB⟩ := hrel
      by_cases hlt : k < l0.length
      · have hlt' : (k : Int) < (l0.length : Int) := by omega
        obtain ⟨ad, e, hx0, hx1⟩ := at_T38 HR.out (k : Int) (by omega) hlt'
        subst e
        simp only [Int.toNat_natCast] at hx0 hx1
        replace hx0 := (HB.out.cell (World.block_lt_of_cell? w _ hx0)).trans hx0
        replace hx1 := (HB.out.cell (World.block_lt_of_cell? w _ hx1)).trans hx1
        have hlen : (Lib.byteCells (textB (l0.take k))).length + ((rd_T38 l0 (k : Int)).f1 ++ (rd_T38 l0 (k : Int)).f0).size ≤ 140737488355328 := by
          have h1 := textB_take l0 k hlt
          have h2 := textB_le l0 (k + 1)
          rw [h1] at h2
          simp only [List.length_append, data_length] at h2
          have h3 : ((rd_T38 l0 (k : Int)).f1 ++ (rd_T38 l0 (k : Int)).f0).size = (rd_T38 l0 (k : Int)).f1.size + (rd_T38 l0 (k : Int)).f0.size := ByteArray.size_append
          rw [Lib.byteCells_length, h3]
          have h6 := hl.1
          omega
        have hsz : w.heap.size + 1 ≤ wr.heap.size := isBuilder_lt HI.out
        have hcat : (rd_T38 l0 (k : Int)).f1.size + (rd_T38 l0 (k : Int)).f0.size ≤ 140737488355328 := by
          have h3 : ((rd_T38 l0 (k : Int)).f1 ++ (rd_T38 l0 (k : Int)).f0).size = (rd_T38 l0 (k : Int)).f1.size + (rd_T38 l0 (k : Int)).f0.size := ByteArray.size_append
          omega
        have HT : Hid (Lib.byteCells (textB (l0.take k)) ++ Lib.strCells ((rd_T38 l0 (k : Int)).f1 ++ (rd_T38 l0 (k : Int)).f0) = Lib.byteCells (textB (l0.take (k + 1)))) := Lib.hid (by
          rw [textB_take l0 k hlt, byteCells_append, strCells_eq, ByteArray.data_append, Array.toList_append])
        go_wp2_with (go_at_call 36; refine (writeString_any w.heap.size w.heap.size (Lib.byteCells (textB (l0.take k))) _ _ (isBuilder_alloc HI.out _) hlen (by simp; omega)).mono ?_)
        rintro e w1 ⟨rfl, hi, hb⟩
        have HI1 := Lib.hid hi
        have HB1 := Lib.hid (below_more HB.out hb (by omega))
        clear hi hb HI HB
        go_wp2
        go_roundw
        case rel => exact ⟨k + 1, by omega, by go_num, Lib.hid (by rw [← HT.out]; exact .inr HI1.out), HB1⟩
        case measure => simp [intOf]; omega
      · have hlt' : decide ((k : Int) < (l0.length : Int)) = false := by simp; omega
        have hk' : l0.take k = l0 := List.take_of_length_le (by omega)
        have HI1 : Hid (Lib.IsBuilder 61 5 w.heap.size w.heap.size (Lib.byteCells (textB l0)) wr) := Lib.hid (by have := HI.out; rwa [hk'] at this)
        have hsz : w.heap.size + 1 ≤ wr.heap.size := isBuilder_lt HI.out
        clear hk'
        go_wp2_with (go_at_call 37; refine (Tryd.Builder_String_any w.heap.size w.heap.size (textB l0) _ HI1.out (by omega)).mono ?_)
        rintro e w1 ⟨rfl, hb⟩
        have HB1 := Lib.hid (HB.out.trans hb)
        clear hb HB
        go_wp2
        go_ret
        exact ⟨rfl, HB1.out⟩
  · rw [if_neg hl] at h; cases h
end Go.Proofs.YteafkdcppbemdaaDoor.Q
