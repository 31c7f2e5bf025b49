import Derived.Test.YteafkdcppbemdaaDoorPlainF
import Derived.Test.YteafkdcppbemdaaDoorPlainES
namespace Go.Proofs.YteafkdcppbemdaaDoor.Q
open Go.RowKit Go.Proofs.YteafkdcppbemdaaDoorW.PrintWords Go.Proofs.YteafkdcppbemdaaDoorW.PrintLast Go.Proofs.YteafkdcppbemdaaDoorW.PrintMore
set_option linter.unusedVariables false
set_option linter.unusedSimpArgs false

/-! ### A token stands before what ends it -/
def Sep (h : UInt8) : Prop := isEi h = false ∧ isDi h = false ∧ h ≠ 61 ∧ h ≠ 62
theorem look_sep {t : List UInt8} {h : UInt8} (hs : Sep h) (hl : lookB t none = true) : lookB t (some h) = true := by
  obtain ⟨h1, h2, h3, h4⟩ := hs
  cases t with
  | nil => exact hl
  | cons c w =>
    simp only [lookB] at hl ⊢
    split
    · rename_i g1; rw [if_pos g1] at hl; simp only [Bool.and_eq_true] at hl ⊢; exact ⟨hl.1, by simp [h1]⟩
    · rename_i g1; rw [if_neg g1] at hl
      split
      · rename_i g2; rw [if_pos g2] at hl; simp only [Bool.and_eq_true] at hl ⊢; exact ⟨hl.1, by simp [h2]⟩
      · rename_i g2; rw [if_neg g2] at hl
        match w, hl with
        | [], hl => simp only [signB, Bool.and_eq_true] at hl ⊢; exact ⟨hl.1, by simp [h3, h4]⟩
        | [d], hl => exact hl
        | _ :: _ :: _, hl => cases hl
theorem sep_blank {h : UInt8} (hh : ¬ nb h) : Sep h := by
  have h' : h = 32 ∨ h = 10 ∨ h = 35 := by
    by_cases a : h = 32
    · exact .inl a
    · by_cases b : h = 10
      · exact .inr (.inl b)
      · by_cases d : h = 35
        · exact .inr (.inr d)
        · exact absurd ⟨a, b, d⟩ hh
  rcases h' with rfl | rfl | rfl <;> exact ⟨by decide, by decide, by decide, by decide⟩
/-- TWO TEXTS THAT ARE READ, with a line's end between them. -/
theorem reads_join {l m : List UInt8} {ts us : List Tk} {e f : List UInt8} (h1 : Reads l ts e) (h2 : Reads m us f) :
    (us = [] ∧ Reads (l ++ 10 :: m) ts (e ++ 10 :: f)) ∨ ∃ u us', us = u :: us' ∧ Reads (l ++ 10 :: m) (ts ++ ⟨u.text, e ++ 10 :: u.before⟩ :: us') f := by
  induction h1 with
  | @done l c hb =>
    cases h2 with
    | @done m c' hb' =>
      refine .inl ⟨rfl, .done (c := c') ?_⟩
      rw [blankSt_append, hb]; simp only [Option.bind_some, blankSt]; exact hb'
    | @step b t r ts e hb' ht hl hr =>
      refine .inr ⟨_, _, rfl, ?_⟩
      have e1 : l ++ 10 :: (b ++ (t ++ r)) = (l ++ 10 :: b) ++ (t ++ r) := by simp
      rw [e1]
      refine .step ?_ ht hl hr
      rw [blankSt_append, hb]; simp only [Option.bind_some, blankSt]; exact hb'
  | @step b t r ts e hb ht hl hr ih =>
    have e1 : b ++ (t ++ r) ++ 10 :: m = b ++ (t ++ (r ++ 10 :: m)) := by simp
    have hl' : lookB t (r ++ 10 :: m).head? = true := by
      cases r with
      | nil => exact look_sep ⟨by decide, by decide, by decide, by decide⟩ hl
      | cons c r => exact hl
    rw [e1]
    rcases ih with ⟨hu, hi⟩ | ⟨u, us', hu, hi⟩
    · exact .inl ⟨hu, .step hb ht hl' hi⟩
    · exact .inr ⟨u, us', hu, .step hb ht hl' hi⟩
end Go.Proofs.YteafkdcppbemdaaDoor.Q
