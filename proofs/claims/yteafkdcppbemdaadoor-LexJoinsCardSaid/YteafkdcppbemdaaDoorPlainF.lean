import Derived.Test.YteafkdcppbemdaaDoorPlainFZ
import Derived.Test.YteafkdcppbemdaaDoorPlainCS
namespace Go.Proofs.YteafkdcppbemdaaDoor.Q
open Go.RowKit Go.Proofs.YteafkdcppbemdaaDoorW.PrintWords Go.Proofs.YteafkdcppbemdaaDoorW.PrintLast Go.Proofs.YteafkdcppbemdaaDoorW.PrintMore
set_option linter.unusedVariables false
set_option linter.unusedSimpArgs false

def textT (ts : List Tk) : List UInt8 := ts.flatMap fun t => t.before ++ t.text
theorem textB_cv (ts : List Tk) : textB (ts.map cv) = textT ts := by
  simp only [textB, textT, List.flatMap_map, cv, bs_data]
theorem Reads.text {l : List UInt8} {ts : List Tk} {e : List UInt8} (h : Reads l ts e) : textT ts ++ e = l := by
  induction h with
  | done _ => rfl
  | step hb ht hl hr ih => rw [← ih]; simp [textT]
theorem Reads.end_ {l : List UInt8} {ts : List Tk} {e : List UInt8} (h : Reads l ts e) : ∃ c, blankSt false e = some c := by
  induction h with
  | done h => exact ⟨_, h⟩
  | step hb ht hl hr ih => exact ih
theorem look_none {t : List UInt8} {h : Option UInt8} (hl : lookB t h = true) : lookB t none = true := by
  cases t with
  | nil => exact hl
  | cons c w =>
    simp only [lookB] at hl ⊢
    split
    · rename_i h1; rw [if_pos h1] at hl; simp only [Bool.and_eq_true] at hl ⊢; exact ⟨hl.1, rfl⟩
    · rename_i h1; rw [if_neg h1] at hl
      split
      · rename_i h2; rw [if_pos h2] at hl; simp only [Bool.and_eq_true] at hl ⊢; exact ⟨hl.1, rfl⟩
      · rename_i h2; rw [if_neg h2] at hl
        match w, hl with
        | [], hl => simp only [signB, Bool.and_eq_true] at hl ⊢; exact ⟨hl.1, by simp⟩
        | [d], hl => exact hl
        | _ :: _ :: _, hl => cases hl
theorem Reads.each {l : List UInt8} {ts : List Tk} {e : List UInt8} (h : Reads l ts e) : ∀ t ∈ ts, Reads (t.before ++ t.text) [t] [] ∧ blankSt false t.before = some false ∧ t.before.length + t.text.length ≤ l.length := by
  induction h with
  | done _ => intro t ht; cases ht
  | @step b t r ts e hb ht hl hr ih =>
    intro u hu
    rcases List.mem_cons.1 hu with rfl | hu
    · refine ⟨?_, hb, by simp⟩
      have := Reads.step (r := []) hb ht (look_none hl) (.done (c := false) rfl)
      simpa using this
    · obtain ⟨h1, h2, h3⟩ := ih u hu
      exact ⟨h1, h2, by simp; omega⟩
theorem scan_ok {s : ByteArray} {ts : List Tk} {e : List UInt8} (hs : s.size ≤ 8192) (hr : Reads s.data.toList ts e) (k : Nat) (hk : 8193 < k) : lex_Scan.f k s = some (ts.map cv, bs e, -1) := by
  have hlen : s.data.toList.length = s.size := data_length s
  have := hr.length_le
  unfold lex_Scan.f
  rw [if_neg (by omega)]
  exact scan_reads hr k s [] 0 hs (by omega) (by simp) (by simp; omega) (by omega)
theorem rd_map (ts : List Tk) (j : Nat) (h : j < ts.length) : rd_T38 (ts.map cv) (j : Int) = cv ts[j] := by
  simp [rd_T38, List.getElem?_eq_getElem h]
theorem text_ok {ts : List Tk} {e : List UInt8} {l : List UInt8} (h : textT ts ++ e = l) (hl : l.length ≤ 8192) : lex_Text.f (ts.map cv) (bs e) = some (bs l) := by
  rw [← h, List.length_append] at hl
  unfold lex_Text.f
  rw [textB_cv, if_pos ⟨by omega, by rw [size_mk]; omega⟩, bs_append, h]
end Go.Proofs.YteafkdcppbemdaaDoor.Q
