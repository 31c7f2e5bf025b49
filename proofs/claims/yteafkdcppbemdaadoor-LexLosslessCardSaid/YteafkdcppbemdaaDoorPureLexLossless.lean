import Derived.Test.YteafkdcppbemdaaDoorPlainD
import Derived.Test.YteafkdcppbemdaaDoorLives
import Derived.Test.YteafkdcppbemdaaDoorQ16
namespace Go.Proofs.YteafkdcppbemdaaDoor.Q
open Go.RowKit Go.Proofs.YteafkdcppbemdaaDoorW.PrintWords Go.Proofs.YteafkdcppbemdaaDoorW.PrintLast Go.Proofs.YteafkdcppbemdaaDoorW.PrintMore
set_option linter.unusedVariables false
set_option linter.unusedSimpArgs false

theorem lives_all (k : Nat) (hk : 60 ≤ k) : splicerylaw05_lives.f k = some true := at_rounds (g := fun k => splicerylaw05_lives.f k) (fun k => splicerylaw05_lives.mono k) hk lives_true
theorem blank_true {s : ByteArray} {c : Bool} (h : s.size ≤ 8192) (hb : blankSt false s.data.toList = some c) : lex_Blank.f s = some true := by
  have hs : skip false s.data.toList = s.size := by
    have := skip_of s.data.toList [] false (.inl ⟨rfl, c, hb⟩)
    rwa [List.append_nil, data_length] at this
  unfold lex_Blank.f lex_blanks.f
  rw [if_pos (by omega), if_pos (by omega), Option.bind_some, hs]
  simp
def textT (ts : List Tk) : List UInt8 := ts.flatMap fun t => t.before ++ t.text
theorem textB_cv (ts : List Tk) : textB (ts.map cv) = textT ts := by
  simp only [textB, textT, List.flatMap_map, cv, bs_data]
theorem Reads.text {l : List UInt8} {ts : List Tk} {e : List UInt8} (h : Reads l ts e) : textT ts ++ e = l := by
  induction h with
  | done _ => rfl
  | step hb ht hl hr ih => rw [← ih]; simp [textT]
theorem Reads.end_ {l : List UInt8} {ts : List Tk} {e : List UInt8} (h : Reads l ts e) : ∃ c, blankSt false e = some c := by
  induction h with
  | done h => exact ⟨_, h⟩
  | step hb ht hl hr ih => exact ih
theorem look_none {t : List UInt8} {h : Option UInt8} (hl : lookB t h = true) : lookB t none = true := by
  cases t with
  | nil => exact hl
  | cons c w =>
    simp only [lookB] at hl ⊢
    split
    · rename_i h1; rw [if_pos h1] at hl; simp only [Bool.and_eq_true] at hl ⊢; exact ⟨hl.1, rfl⟩
    · rename_i h1; rw [if_neg h1] at hl
      split
      · rename_i h2; rw [if_pos h2] at hl; simp only [Bool.and_eq_true] at hl ⊢; exact ⟨hl.1, rfl⟩
      · rename_i h2; rw [if_neg h2] at hl
        match w, hl with
        | [], hl => simp only [signB, Bool.and_eq_true] at hl ⊢; exact ⟨hl.1, by simp⟩
        | [d], hl => exact hl
        | _ :: _ :: _, hl => cases hl
theorem Reads.each {l : List UInt8} {ts : List Tk} {e : List UInt8} (h : Reads l ts e) : ∀ t ∈ ts, Reads (t.before ++ t.text) [t] [] ∧ blankSt false t.before = some false ∧ t.before.length + t.text.length ≤ l.length := by
  induction h with
  | done _ => intro t ht; cases ht
  | @step b t r ts e hb ht hl hr ih =>
    intro u hu
    rcases List.mem_cons.1 hu with rfl | hu
    · refine ⟨?_, hb, by simp⟩
      have := Reads.step (r := []) hb ht (look_none hl) (.done (c := false) rfl)
      simpa using this
    · obtain ⟨h1, h2, h3⟩ := ih u hu
      exact ⟨h1, h2, by simp; omega⟩
theorem bs_append (a b : List UInt8) : bs a ++ bs b = bs (a ++ b) := by
  apply bs_inj; rw [ByteArray.data_append, Array.toList_append, bs_data, bs_data, bs_data]
theorem scan_ok {s : ByteArray} {ts : List Tk} {e : List UInt8} (hs : s.size ≤ 8192) (hr : Reads s.data.toList ts e) (k : Nat) (hk : 8193 < k) : lex_Scan.f k s = some (ts.map cv, bs e, -1) := by
  have hlen : s.data.toList.length = s.size := data_length s
  have := hr.length_le
  unfold lex_Scan.f
  rw [if_neg (by omega)]
  exact scan_reads hr k s [] 0 hs (by omega) (by simp) (by simp; omega) (by omega)
theorem rd_map (ts : List Tk) (j : Nat) (h : j < ts.length) : rd_T38 (ts.map cv) (j : Int) = cv ts[j] := by
  simp [rd_T38, List.getElem?_eq_getElem h]
theorem text_ok {ts : List Tk} {e : List UInt8} {l : List UInt8} (h : textT ts ++ e = l) (hl : l.length ≤ 8192) : lex_Text.f (ts.map cv) (bs e) = some (bs l) := by
  rw [← h, List.length_append] at hl
  unfold lex_Text.f
  rw [textB_cv, if_pos ⟨by omega, by rw [size_mk]; omega⟩, bs_append, h]

section
variable (x5 : List ByteArray) (x6 : Int) (ts : List Tk) (K : Nat) (h6 : wrap64 (x6 + 1) = x6 + 1)
  (hts : ∀ t ∈ ts, Reads (t.before ++ t.text) [t] [] ∧ blankSt false t.before = some false ∧ t.before.length + t.text.length ≤ 8192) (hlen : ts.length ≤ 8192)
  (H : ∀ k, K < k → splicerylaw05_LexLossless.l0 k x5 (x6 + 1) = some true)
include h6 hts hlen H
theorem loss_inner : ∀ (d j : Nat), j + d = ts.length → ∀ k, K + 8200 + 2 * d < k → splicerylaw05_LexLossless.l1 k x5 x6 (ts.map cv) (j : Int) = some true := by
  intro d
  induction d with
  | zero =>
    intro j hj k hk
    obtain ⟨k, rfl⟩ : ∃ q, k = q + 1 := ⟨k - 1, by omega⟩
    simp only [splicerylaw05_LexLossless.l1]
    rw [if_neg (by rw [List.length_map]; omega), h6]
    exact H k (by omega)
  | succ d ih =>
    intro j hj k hk
    obtain ⟨k, rfl⟩ : ∃ q, k = q + 2 := ⟨k - 2, by omega⟩
    have hlt : j < ts.length := by omega
    obtain ⟨g1, g2, g3⟩ := hts ts[j] (List.getElem_mem hlt)
    have hw : wrap64 ((j : Int) + 1) = ((j + 1 : Nat) : Int) := by rw [w64 (by omega) (by omega)]; omega
    have hsz : (bs (ts[j].before ++ ts[j].text)).size ≤ 8192 := by rw [size_mk, List.length_append]; exact g3
    have hsc := scan_ok hsz (by rw [bs_data]; exact g1) (k + 1) (by omega)
    have hbl : lex_Blank.f (bs ts[j].before) = some true := blank_true (by rw [size_mk]; omega) (by rw [bs_data]; exact g2)
    simp only [splicerylaw05_LexLossless.l1]
    rw [if_pos (by rw [List.length_map]; omega), if_pos (by omega), rd_map ts j hlt]
    rw [if_pos (show (cv ts[j]).f1.size + (cv ts[j]).f0.size ≤ 9223372036854775807 by simp only [cv, size_mk]; omega)]
    rw [show (cv ts[j]).f1 ++ (cv ts[j]).f0 = bs (ts[j].before ++ ts[j].text) from bs_append _ _, hsc, Option.bind_some]
    dsimp only
    rw [if_pos rfl, if_pos (toList_bs []), if_pos (show (([ts[j]].map cv).length : Int) = 1 from rfl), if_pos (show (0 : Int) < (([ts[j]].map cv).length : Int) from Int.zero_lt_one)]
    have he : rd_T38 ([ts[j]].map cv) 0 = cv ts[j] := rd_map [ts[j]] 0 (by simp)
    show (if (!((rd_T38 ([ts[j]].map cv) 0).f0.toList == (cv ts[j]).f0.toList) || !((rd_T38 ([ts[j]].map cv) 0).f1.toList == (cv ts[j]).f1.toList)) = true then _ else _) = _
    rw [he, if_neg (by simp), show (cv ts[j]).f1 = bs ts[j].before from rfl, hbl, Option.bind_some]
    simp only [splicerylaw05_LexLossless.j3]
    rw [if_neg (by decide), hw]
    exact ih (j + 1) (by omega) k (by omega)
end
theorem loss_round (s : ByteArray) (x5 : List ByteArray) (i : Nat) (hi : i < 2) (h5 : rdOf ByteArray.empty x5 (i : Int) = s) (h5l : x5.length = 2) (K : Nat) (H : ∀ k, K < k → splicerylaw05_LexLossless.l0 k x5 ((i : Int) + 1) = some true) :
    ∀ k, K + 40000 < k → splicerylaw05_LexLossless.l0 k x5 (i : Int) = some true := by
  intro k hk
  obtain ⟨k, rfl⟩ : ∃ q, k = q + 1 := ⟨k - 1, by omega⟩
  have hw : wrap64 ((i : Int) + 1) = (i : Int) + 1 := w64 (by omega) (by omega)
  obtain ⟨r, hr, hf⟩ := scan_tells s
  simp only [splicerylaw05_LexLossless.l0]
  rw [if_pos (by omega), if_pos (by omega), if_pos (by omega), h5, hf k (by omega), Option.bind_some, hw]
  have z : (⟨#[]⟩ : ByteArray).toList = [] := toList_bs []
  cases hr with
  | long h => dsimp only; rw [if_neg (by decide), if_neg (by decide), if_pos z]; exact H k (by omega)
  | @bad n h hb => dsimp only; rw [if_neg (show ¬ (n : Int) = -1 by omega), if_neg (show ¬ (([] : List S38).length : Int) > 0 by decide), if_pos z]; exact H k (by omega)
  | @ok ts e h hb =>
    have htx := hb.text
    have hl : s.data.toList.length ≤ 8192 := by rw [data_length]; exact h
    obtain ⟨c, hc⟩ := hb.end_
    have hel : e.length ≤ 8192 := by rw [← htx, List.length_append] at hl; omega
    have htl := hb.length_le
    dsimp only
    rw [if_pos rfl, text_ok htx hl, Option.bind_some, if_pos (by rw [toList_bs, ByteArray.toList_eq]), blank_true (s := bs e) (by rw [size_mk]; exact hel) (by rw [bs_data]; exact hc), Option.bind_some]
    obtain ⟨k, rfl⟩ : ∃ q, k = q + 1 := ⟨k - 1, by omega⟩
    simp only [splicerylaw05_LexLossless.j1]
    rw [if_neg (by decide)]
    refine loss_inner x5 (i : Int) ts K hw (fun t ht => ?_) (by omega) H ts.length 0 (by omega) k (by omega)
    obtain ⟨a, b, d⟩ := hb.each t ht
    exact ⟨a, b, by omega⟩
theorem LexLossless_pure : splicerylaw05_LexLossless.Pure := by
  intro l0 a1 hm h8 hwf ha
  have hI : ∀ x ∈ l0, I64 x := fun x hx => i64_of_wf (hwf x hx)
  obtain ⟨s, hs, hsf⟩ := sample_tells l0 hI (by omega)
  have e2 : ∀ k, 100 < k → splicerylaw05_LexLossless.l0 k [s, a1] ((1 : Int) + 1) = some true := by
    intro k hk
    obtain ⟨k, rfl⟩ : ∃ q, k = q + 1 := ⟨k - 1, by omega⟩
    simp only [splicerylaw05_LexLossless.l0]
    rw [if_neg (by decide), lives_all k (by omega), Option.bind_some]
  have e1 := loss_round a1 [s, a1] 1 (by omega) rfl rfl 100 e2
  have e0 := loss_round s [s, a1] 0 (by omega) rfl rfl _ e1
  refine ⟨100000, ?_⟩
  unfold splicerylaw05_LexLossless.f
  rw [hsf 100000 (by omega), Option.bind_some]
  exact e0 100000 (by omega)
end Go.Proofs.YteafkdcppbemdaaDoor.Q
