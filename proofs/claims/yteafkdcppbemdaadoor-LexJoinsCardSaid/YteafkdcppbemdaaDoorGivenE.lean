import Derived.Test.YteafkdcppbemdaaDoorGivenA
import Derived.Test.YteafkdcppbemdaaDoorQ7
namespace Go.Proofs.YteafkdcppbemdaaDoor.Q
open Go.RowKit Go.Proofs.YteafkdcppbemdaaDoorW.PrintWords Go.Proofs.YteafkdcppbemdaaDoorW.PrintLast Go.Proofs.YteafkdcppbemdaaDoorW.PrintMore
set_option linter.unusedVariables false
set_option linter.unusedSimpArgs false

/-! ### Word -/
theorem toList_bs (l : List UInt8) : (bs l).toList = l := by rw [ByteArray.toList_eq]; simp [bs]
def keysB : List ByteArray := keywordsL.map bs
theorem keys_at (i : Nat) (h : i < 27) : (rdOf ByteArray.empty keysB (i : Int)).toList = keywordsL.getD i [] := by
  match i, h with
  | 0, _ => exact toList_bs _
  | 1, _ => exact toList_bs _
  | 2, _ => exact toList_bs _
  | 3, _ => exact toList_bs _
  | 4, _ => exact toList_bs _
  | 5, _ => exact toList_bs _
  | 6, _ => exact toList_bs _
  | 7, _ => exact toList_bs _
  | 8, _ => exact toList_bs _
  | 9, _ => exact toList_bs _
  | 10, _ => exact toList_bs _
  | 11, _ => exact toList_bs _
  | 12, _ => exact toList_bs _
  | 13, _ => exact toList_bs _
  | 14, _ => exact toList_bs _
  | 15, _ => exact toList_bs _
  | 16, _ => exact toList_bs _
  | 17, _ => exact toList_bs _
  | 18, _ => exact toList_bs _
  | 19, _ => exact toList_bs _
  | 20, _ => exact toList_bs _
  | 21, _ => exact toList_bs _
  | 22, _ => exact toList_bs _
  | 23, _ => exact toList_bs _
  | 24, _ => exact toList_bs _
  | 25, _ => exact toList_bs _
  | 26, _ => exact toList_bs _
  | n + 27, h => omega
theorem keys_drop (i : Nat) (h : i < 27) : keywordsL.drop i = keywordsL.getD i [] :: keywordsL.drop (i + 1) := by
  match i, h with
  | 0, _ => rfl
  | 1, _ => rfl
  | 2, _ => rfl
  | 3, _ => rfl
  | 4, _ => rfl
  | 5, _ => rfl
  | 6, _ => rfl
  | 7, _ => rfl
  | 8, _ => rfl
  | 9, _ => rfl
  | 10, _ => rfl
  | 11, _ => rfl
  | 12, _ => rfl
  | 13, _ => rfl
  | 14, _ => rfl
  | 15, _ => rfl
  | 16, _ => rfl
  | 17, _ => rfl
  | 18, _ => rfl
  | 19, _ => rfl
  | 20, _ => rfl
  | 21, _ => rfl
  | 22, _ => rfl
  | 23, _ => rfl
  | 24, _ => rfl
  | 25, _ => rfl
  | 26, _ => rfl
  | n + 27, h => omega
theorem index_keys (s : ByteArray) : ∀ (d i k : Nat), i + d = 27 → d < k → ∃ r : Int, slices_Index_string_string.l0 k keysB s 27 (i : Int) = some r ∧ (decide (r ≥ 0)) = (keywordsL.drop i).contains s.data.toList
  | 0, i, k, hi, hk => by
    obtain ⟨k, rfl⟩ : ∃ m, k = m + 1 := ⟨k - 1, by omega⟩
    obtain rfl : i = 27 := by omega
    exact ⟨-1, by simp only [slices_Index_string_string.l0]; rw [if_neg (by omega)], rfl⟩
  | d + 1, i, k, hi, hk => by
    obtain ⟨k, rfl⟩ : ∃ m, k = m + 1 := ⟨k - 1, by omega⟩
    have hlt : i < 27 := by omega
    have hlen : (keysB.length : Int) = 27 := rfl
    have hw : wrap64 ((i : Int) + 1) = ((i + 1 : Nat) : Int) := by unfold wrap64; omega
    rw [keys_drop i hlt, List.contains_cons]
    have ha := keys_at i hlt
    have hs : s.toList = s.data.toList := ByteArray.toList_eq s
    simp only [slices_Index_string_string.l0]
    rw [if_pos (show (i : Int) < 27 by omega), if_pos (show (0 : Int) ≤ i by omega), if_pos (show (i : Int) < (keysB.length : Int) by omega), ha, hs]
    by_cases he : s.data.toList = keywordsL.getD i []
    · rw [if_pos he]
      exact ⟨_, rfl, by rw [he]; simp⟩
    · rw [if_neg he, hw]
      obtain ⟨r, h1, h2⟩ := index_keys s d (i + 1) k (by omega) (by omega)
      exact ⟨r, h1, by rw [h2, beq_eq_false_iff_ne.2 he, Bool.false_or]⟩
def isKey (l : List UInt8) : Bool := keywordsL.contains l
theorem contains_keys (s : ByteArray) : slices_Contains_string_string.f 40 keysB s = some (isKey s.data.toList) := by
  obtain ⟨r, h1, h2⟩ := index_keys s 27 0 40 (by omega) (by omega)
  have : slices_Index_string_string.f 40 keysB s = some r := h1
  unfold slices_Contains_string_string.f
  rw [this]
  simp only [Option.bind_some, h2, List.drop_zero, isKey]
theorem keys_read {w : World} (hG : Glob w) : Kd.C Kd.string w (some ⟨0, 0, none⟩) keysB.length keysB := by
  obtain ⟨t, fr, h⟩ := hG.keywords
  refine ⟨rfl, by decide, fun _ => ⟨_, rfl, fun j p hj => ⟨[.string p], rfl, rfl, ?_⟩⟩⟩
  intro i u hu
  obtain rfl : i = 0 := by
    cases i with
    | zero => rfl
    | succ i => simp at hu
  obtain rfl : Value.string p = u := by simpa using hu
  rw [add_plain]
  simp only [World.cell?, h]
  simp only [keysB, List.getElem?_map] at hj
  obtain ⟨q, hq, rfl⟩ := Option.map_eq_some_iff.1 hj
  have hz : Kd.string.sz = 1 := rfl
  simp [strCells, hz, hq]
def wordB (l : List UInt8) : Bool :=
  match l with
  | [] => false
  | c :: _ => isLetter c.toNat && (tokZ l == l.length) && !isKey l
def lex_Word.f (a0 : ByteArray) : Option Bool := if a0.size ≤ 9223372036854775807 then some (wordB a0.data.toList) else none
set_option maxHeartbeats 1000000 in
set_option maxRecDepth 100000 in
theorem lex_Word.calls (a0 : ByteArray) (r : Bool) (w : World) (hG : Glob w) (h : lex_Word.f a0 = some r) :
    Calls Tryd.prog 23 #[.string a0] w fun e w' => e = .returned (.bool r) ∧ Below w.heap.size w w' := by
  unfold lex_Word.f at h
  by_cases hl : a0.size ≤ 9223372036854775807
  · rw [if_pos hl] at h
    obtain rfl := Option.some.inj h
    clear h
    by_cases hs : 0 < a0.size
    · have hd := drop_at a0 0 hs
      rw [List.drop_zero] at hd
      have hne : a0.toList.isEmpty = false := by rw [ByteArray.toList_eq, hd]; rfl
      by_cases h1 : isLetter (a0[0].toNat : Int) = true
      · have htok : lex_token.f a0 = some (tokZ a0.data.toList) := if_pos ⟨hs, hl⟩
        by_cases h2 : tokZ a0.data.toList = (a0.size : Int)
        · have hlen : ((a0.data.toList.length : Nat) : Int) = (a0.size : Int) := by rw [data_length]
          have HC : Hid ((!isKey a0.data.toList) = wordB a0.data.toList) := Lib.hid (by rw [hd, wordB, ← hd, hlen, h2]; simp [h1])
          have h2b : (tokZ a0.data.toList == (a0.size : Int)) = true := by simpa using h2
          have HT := Lib.hid htok
          clear htok h2 hlen hd
          go_enter Tryd.func23, Tryd.ntmps23
          go_wp2_with (first | (go_at_call 38; refine (letter_any _ _).mono ?_; rintro e w' ⟨rfl, hw⟩; subst hw) | (go_at_call 31; refine (lex_token.calls _ _ _ hG HT.out).mono ?_; rintro e w1 ⟨rfl, hb⟩; have hG1 := hG.below hb; have HB := Lib.hid hb; clear hb) | (go_at_call 39; refine (slices_Contains_string_string.calls 40 _ _ keysB a0 _ _ (keys_read hG1) (by decide) (contains_keys a0)).mono ?_; rintro e w2 ⟨rfl, hdr⟩))
          obtain ⟨m, hdr⟩ := hdr
          subst hdr
          go_ret
          exact ⟨ret_bool HC.out, pw_below_drewN HB.out _⟩
        · have hlen : ((a0.data.toList.length : Nat) : Int) = (a0.size : Int) := by rw [data_length]
          have HC : Hid (false = wordB a0.data.toList) := Lib.hid (by rw [hd, wordB, ← hd, hlen, beq_eq_false_iff_ne.2 h2]; simp)
          have h2b : (tokZ a0.data.toList == (a0.size : Int)) = false := by simpa using h2
          have HT := Lib.hid htok
          clear htok h2 hlen hd
          go_enter Tryd.func23, Tryd.ntmps23
          go_wp2_with (first | (go_at_call 38; refine (letter_any _ _).mono ?_; rintro e w' ⟨rfl, hw⟩; subst hw) | (go_at_call 31; refine (lex_token.calls _ _ _ hG HT.out).mono ?_; rintro e w1 ⟨rfl, hb⟩; have HB := Lib.hid hb; clear hb))
          go_ret
          exact ⟨ret_bool HC.out, HB.out⟩
      · have h1' : isLetter (a0[0].toNat : Int) = false := by simpa using h1
        have HC : Hid (false = wordB a0.data.toList) := Lib.hid (by rw [hd, wordB, h1']; rfl)
        clear h1 hd
        go_enter Tryd.func23, Tryd.ntmps23
        go_wp2_with (first | (go_at_call 38; refine (letter_any _ _).mono ?_; rintro e w' ⟨rfl, hw⟩; subst hw))
        go_ret
        exact ⟨ret_bool HC.out, Below.refl _ _⟩
    · have h0 : a0.data.toList = [] := by apply List.eq_nil_of_length_eq_zero; rw [data_length]; omega
      have hne : a0.toList.isEmpty = true := by rw [ByteArray.toList_eq, h0]; rfl
      have HC : Hid (false = wordB a0.data.toList) := Lib.hid (by rw [h0]; rfl)
      clear h0
      go_enter Tryd.func23, Tryd.ntmps23
      go_wp2
      go_ret
      exact ⟨ret_bool HC.out, Below.refl _ _⟩
  · rw [if_neg hl] at h; cases h
end Go.Proofs.YteafkdcppbemdaaDoor.Q
