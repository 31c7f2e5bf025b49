import Derived.Test.YteafkdcppbemdaaDoorPlainC
namespace Go.Proofs.YteafkdcppbemdaaDoor.Q
open Go.RowKit Go.Proofs.YteafkdcppbemdaaDoorW.PrintWords Go.Proofs.YteafkdcppbemdaaDoorW.PrintLast Go.Proofs.YteafkdcppbemdaaDoorW.PrintMore
set_option linter.unusedVariables false
set_option linter.unusedSimpArgs false

section
variable {s : ByteArray} {acc : List S38} {at_ n : Nat} (hs : s.size ≤ 8192) (ha : at_ ≤ s.size) (hn : skip false (s.data.toList.drop at_) = n)
include hs ha hn
theorem scan_done (k : Nat) (h : at_ + n = s.size) : lex_Scan.l0 (k + 1) s acc (at_ : Int) = some (acc, s.extract at_ s.size, -1) := by
  have hb : lex_blanks.f (s.extract (at_ : Int).toNat s.size) = some (n : Int) := by
    unfold lex_blanks.f
    rw [Int.toNat_natCast, if_pos (by rw [extract_size s at_ ha]; omega), extract_list, hn]
  simp only [lex_Scan.l0]
  rw [if_pos (by omega), if_pos (by omega), hb, Option.bind_some]
  rw [w64 (by omega) (by omega), if_pos (by omega), if_pos (by omega), if_pos (by omega)]
  rw [show ((at_ : Int) + (n : Int)).toNat = s.size by omega, Int.toNat_natCast]
theorem scan_step (k : Nat) (h : at_ + n < s.size) : lex_Scan.l0 (k + 1) s acc (at_ : Int) =
    if 0 < tokZ (s.data.toList.drop (at_ + n)) then (if acc.length < 4398046511104 then lex_Scan.l0 k s (acc ++ [⟨s.extract (at_ + n) (at_ + n + (tokZ (s.data.toList.drop (at_ + n))).toNat), s.extract at_ (at_ + n)⟩]) ((at_ + n + (tokZ (s.data.toList.drop (at_ + n))).toNat : Nat) : Int) else none)
    else some ([], ⟨#[]⟩, ((at_ + n : Nat) : Int)) := by
  have hb : lex_blanks.f (s.extract (at_ : Int).toNat s.size) = some (n : Int) := by
    unfold lex_blanks.f
    rw [Int.toNat_natCast, if_pos (by rw [extract_size s at_ ha]; omega), extract_list, hn]
  have ht := tok_nonneg (s.data.toList.drop (at_ + n))
  rw [List.length_drop, data_length] at ht
  obtain ⟨m, hm⟩ : ∃ m : Nat, tokZ (s.data.toList.drop (at_ + n)) = m := ⟨(tokZ (s.data.toList.drop (at_ + n))).toNat, by omega⟩
  have e1 : ((at_ : Int) + (n : Int)) = ((at_ + n : Nat) : Int) := by omega
  have htok : lex_token.f (s.extract (((at_ + n : Nat) : Int)).toNat s.size) = some (m : Int) := by
    unfold lex_token.f
    rw [Int.toNat_natCast, if_pos (by rw [extract_size s _ (by omega)]; omega), extract_list, hm]
  simp only [lex_Scan.l0]
  rw [if_pos (by omega), if_pos (by omega), hb, Option.bind_some]
  rw [w64 (by omega) (by omega), if_pos (by omega), if_pos (by omega), if_neg (by omega), if_pos (by omega), e1, htok, hm, Option.bind_some]
  by_cases h0 : (m : Int) > 0
  · rw [if_pos h0, if_pos (show (0 : Int) < m from h0), w64 (by omega) (by omega), if_pos (by omega), if_pos (by omega)]
    rw [show (((at_ + n : Nat) : Int) + (m : Int)) = ((at_ + n + m : Nat) : Int) by omega]
    simp only [Int.toNat_natCast]
  · rw [if_neg h0, if_neg (show ¬ (0 : Int) < m from h0)]
end
theorem scan_reads {l : List UInt8} {ts : List Tk} {e : List UInt8} (hr : Reads l ts e) : ∀ (k : Nat) (s : ByteArray) (acc : List S38) (at_ : Nat), s.size ≤ 8192 → at_ ≤ s.size → s.data.toList.drop at_ = l → acc.length + ts.length ≤ 4398046511104 → ts.length < k →
    lex_Scan.l0 k s acc (at_ : Int) = some (acc ++ ts.map cv, bs e, -1) := by
  induction hr with
  | @done l c hb =>
    intro k s acc at_ hs ha hd hl hk
    obtain ⟨k, rfl⟩ : ∃ m, k = m + 1 := ⟨k - 1, by omega⟩
    have hn : skip false (s.data.toList.drop at_) = l.length := by
      rw [hd]; have := skip_of l [] false (.inl ⟨rfl, c, hb⟩); rwa [List.append_nil] at this
    have hlen : l.length = s.size - at_ := by rw [← hd, List.length_drop, data_length]
    rw [scan_done hs ha hn k (by omega)]
    rw [List.map_nil, List.append_nil, ← hd, ← extract_list, bs_of]
  | @step b t r ts e hb ht hl hr ih =>
    intro k s acc at_ hs ha hd hlen hk
    obtain ⟨k, rfl⟩ : ∃ m, k = m + 1 := ⟨k - 1, by simp at hk; omega⟩
    simp only [List.length_cons] at hlen hk
    obtain ⟨c, w, rfl⟩ : ∃ c w, t = c :: w := by cases t with | nil => exact absurd rfl ht | cons c w => exact ⟨c, w, rfl⟩
    have hn : skip false (s.data.toList.drop at_) = b.length := by
      rw [hd]; exact skip_of b _ false (.inr ⟨hb, c, w ++ r, rfl, look_nb hl⟩)
    have hsz : b.length + ((c :: w).length + r.length) = s.size - at_ := by rw [← List.length_append, ← List.length_append, ← hd, List.length_drop, data_length]
    have hwl : (c :: w).length = w.length + 1 := rfl
    have hd2 : s.data.toList.drop (at_ + b.length) = (c :: w) ++ r := by rw [← List.drop_drop, hd, List.drop_left]
    have htk : tokZ (s.data.toList.drop (at_ + b.length)) = ((c :: w).length : Int) := by rw [hd2]; exact (tok_iff _ _ ht).2 hl
    rw [scan_step hs ha hn k (by omega), htk, if_pos (by omega), if_pos (by omega), Int.toNat_natCast]
    have hd3 : s.data.toList.drop (at_ + b.length + (c :: w).length) = r := by rw [← List.drop_drop, hd2, List.drop_left]
    rw [ih k s _ _ hs (by omega) hd3 (by simp; omega) (by omega)]
    have e1 : s.extract (at_ + b.length) (at_ + b.length + (c :: w).length) = bs (c :: w) := by rw [extract_bs, hd2, Nat.add_sub_cancel_left, List.take_left]
    have e2 : s.extract at_ (at_ + b.length) = bs b := by rw [extract_bs, hd, Nat.add_sub_cancel_left, List.take_left]
    rw [e1, e2]
    simp [cv]
theorem scan_fails {l : List UInt8} {n : Nat} (hr : Fails l n) : ∀ (k : Nat) (s : ByteArray) (acc : List S38) (at_ : Nat), s.size ≤ 8192 → at_ ≤ s.size → s.data.toList.drop at_ = l → acc.length + l.length ≤ 4398046511104 → l.length < k →
    lex_Scan.l0 k s acc (at_ : Int) = some ([], ⟨#[]⟩, ((at_ + n : Nat) : Int)) := by
  induction hr with
  | @here b c r hb hc h0 =>
    intro k s acc at_ hs ha hd hl hk
    obtain ⟨k, rfl⟩ : ∃ m, k = m + 1 := ⟨k - 1, by omega⟩
    have hn : skip false (s.data.toList.drop at_) = b.length := by
      rw [hd]; exact skip_of b _ false (.inr ⟨hb, c, r, rfl, hc⟩)
    have hsz : b.length + (c :: r).length = s.size - at_ := by rw [← List.length_append, ← hd, List.length_drop, data_length]
    have hwl : (c :: r).length = r.length + 1 := rfl
    have hd2 : s.data.toList.drop (at_ + b.length) = c :: r := by rw [← List.drop_drop, hd, List.drop_left]
    rw [scan_step hs ha hn k (by omega), hd2, h0, if_neg (by omega)]
  | @step b t r n hb ht hl hr ih =>
    intro k s acc at_ hs ha hd hlen hk
    obtain ⟨k, rfl⟩ : ∃ m, k = m + 1 := ⟨k - 1, by omega⟩
    obtain ⟨c, w, rfl⟩ : ∃ c w, t = c :: w := by cases t with | nil => exact absurd rfl ht | cons c w => exact ⟨c, w, rfl⟩
    have hn : skip false (s.data.toList.drop at_) = b.length := by
      rw [hd]; exact skip_of b _ false (.inr ⟨hb, c, w ++ r, rfl, look_nb hl⟩)
    have hsz : b.length + ((c :: w).length + r.length) = s.size - at_ := by rw [← List.length_append, ← List.length_append, ← hd, List.length_drop, data_length]
    have hwl : (c :: w).length = w.length + 1 := rfl
    simp only [List.length_append] at hlen hk
    have hd2 : s.data.toList.drop (at_ + b.length) = (c :: w) ++ r := by rw [← List.drop_drop, hd, List.drop_left]
    have htk : tokZ (s.data.toList.drop (at_ + b.length)) = ((c :: w).length : Int) := by rw [hd2]; exact (tok_iff _ _ ht).2 hl
    rw [scan_step hs ha hn k (by omega), htk, if_pos (by omega), if_pos (by omega), Int.toNat_natCast]
    have hd3 : s.data.toList.drop (at_ + b.length + (c :: w).length) = r := by rw [← List.drop_drop, hd2, List.drop_left]
    rw [ih k s _ _ hs (by omega) hd3 (by simp; omega) (by omega)]
    rw [show at_ + b.length + (c :: w).length + n = at_ + (b.length + (c :: w).length + n) by omega]
theorem Reads.length_le {l : List UInt8} {ts : List Tk} {e : List UInt8} (h : Reads l ts e) : ts.length ≤ l.length := by
  induction h with
  | done _ => simp
  | @step b t r ts e hb ht hl hr ih =>
    have : t.length ≠ 0 := by cases t with | nil => exact absurd rfl ht | cons c w => simp
    simp only [List.length_cons, List.length_append]; omega
/-- What Scan tells of a text, as one of three. -/
inductive ScanIs (s : ByteArray) : (List S38 × ByteArray × Int) → Prop
  | long : 8192 < s.size → ScanIs s ([], ⟨#[]⟩, 8192)
  | ok {ts e} : s.size ≤ 8192 → Reads s.data.toList ts e → ScanIs s (ts.map cv, bs e, -1)
  | bad {n : Nat} : s.size ≤ 8192 → Fails s.data.toList n → ScanIs s ([], ⟨#[]⟩, (n : Int))
theorem scan_tells (s : ByteArray) : ∃ r, ScanIs s r ∧ ∀ k, 8193 < k → lex_Scan.f k s = some r := by
  by_cases hs : 8192 < s.size
  · exact ⟨_, .long hs, fun k _ => if_pos (by omega)⟩
  · have hs' : s.size ≤ 8192 := by omega
    have hlen : s.data.toList.length = s.size := data_length s
    rcases total _ s.data.toList (Nat.le_refl _) with ⟨ts, e, hr⟩ | ⟨n, hf⟩
    · refine ⟨_, .ok hs' hr, fun k hk => ?_⟩
      have := hr.length_le
      unfold lex_Scan.f
      rw [if_neg (by omega)]
      exact scan_reads hr k s [] 0 hs' (by omega) (by simp) (by simp; omega) (by omega)
    · refine ⟨_, .bad hs' hf, fun k hk => ?_⟩
      unfold lex_Scan.f
      rw [if_neg (by omega)]
      have := scan_fails hf k s [] 0 hs' (by omega) (by simp) (by simp; omega) (by omega)
      simpa using this
end Go.Proofs.YteafkdcppbemdaaDoor.Q
