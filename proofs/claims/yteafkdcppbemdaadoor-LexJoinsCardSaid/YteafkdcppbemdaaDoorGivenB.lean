import Derived.Test.YteafkdcppbemdaaDoorGivenA
import Derived.Test.YteafkdcppbemdaaDoorShelf
import Derived.Lib.IndexBytes
namespace Go.Proofs.YteafkdcppbemdaaDoor.Q
open Go.RowKit Go.Proofs.YteafkdcppbemdaaDoorW.PrintWords Go.Proofs.YteafkdcppbemdaaDoorW.PrintLast Go.Proofs.YteafkdcppbemdaaDoorW.PrintMore
set_option linter.unusedVariables false
set_option linter.unusedSimpArgs false

/-! ### blanks -/
def skip : Bool → List UInt8 → Nat
  | _, [] => 0
  | cm, c :: r => if c = 10 then skip false r + 1 else if c = 35 then skip true r + 1 else if c ≠ 32 ∧ cm = false then 0 else skip cm r + 1
theorem skip_le : ∀ (l : List UInt8) (b : Bool), skip b l ≤ l.length
  | [], b => by simp [skip]
  | c :: r, b => by
    have h1 := skip_le r true; have h2 := skip_le r false; have h3 := skip_le r b
    simp only [skip, List.length_cons]
    split
    · omega
    · split
      · omega
      · split <;> omega
theorem skip_blank {c : UInt8} {r : List UInt8} (h : c = 32 ∨ c = 10) : skip false (c :: r) = skip false r + 1 := by
  rcases h with rfl | rfl <;> simp [skip]
theorem skip_other {c : UInt8} {r : List UInt8} (h1 : c ≠ 32) (h2 : c ≠ 10) (h3 : c ≠ 35) : skip false (c :: r) = 0 := by simp [skip, h1, h2, h3]
theorem skip_hash_none : ∀ (l : List UInt8), Lib.indexByte l 10 < 0 → skip true l = l.length
  | [], _ => rfl
  | c :: r, h => by
    unfold Lib.indexByte at h
    have hg := Lib.indexByte_ge r 10
    split at h
    · omega
    · rename_i hc
      have hc' : c ≠ 10 := by simpa using hc
      have hr : Lib.indexByte r 10 < 0 := by
        split at h
        · rename_i e; have : Lib.indexByte r 10 = -1 := by simpa using e
          omega
        · omega
      have ih := skip_hash_none r hr
      simp only [skip, if_neg hc', List.length_cons]
      split
      · rw [ih]
      · simp [ih]
theorem skip_hash_some : ∀ (l : List UInt8) (k : Nat), Lib.indexByte l 10 = k → k < l.length ∧ skip true l = k + skip false (l.drop k)
  | [], k, h => by simp [Lib.indexByte] at h
  | c :: r, k, h => by
    unfold Lib.indexByte at h
    have hg := Lib.indexByte_ge r 10
    split at h
    · rename_i hc
      have hc' : c = 10 := by simpa using hc
      obtain rfl : k = 0 := by omega
      subst hc'
      exact ⟨by simp, by simp [skip]⟩
    · rename_i hc
      have hc' : c ≠ 10 := by simpa using hc
      split at h
      · omega
      · rename_i e
        have e' : Lib.indexByte r 10 ≠ -1 := by simpa using e
        obtain ⟨j, rfl⟩ : ∃ j, k = j + 1 := ⟨k - 1, by omega⟩
        obtain ⟨h1, h2⟩ := skip_hash_some r j (by omega)
        refine ⟨by simp; omega, ?_⟩
        simp only [skip, if_neg hc', List.drop_succ_cons]
        split
        · rw [h2]; omega
        · simp [h2]; omega
/-- At a '#': what the search for the line's end tells. -/
theorem hash_none (r : List UInt8) (h : Lib.indexByte (35 :: r) 10 < 0) : skip false (35 :: r) = (35 :: r : List UInt8).length := by
  unfold Lib.indexByte at h
  have hg := Lib.indexByte_ge r 10
  have := skip_hash_none r (by
    simp at h
    split at h <;> omega)
  simp [skip, this]
theorem hash_some (r : List UInt8) (k : Nat) (h : Lib.indexByte (35 :: r) 10 = k) : 0 < k ∧ k < (35 :: r : List UInt8).length ∧ skip false (35 :: r) = k + skip false ((35 :: r : List UInt8).drop k) := by
  unfold Lib.indexByte at h
  have hg := Lib.indexByte_ge r 10
  simp at h
  split at h
  · omega
  · obtain ⟨j, rfl⟩ : ∃ j, k = j + 1 := ⟨k - 1, by omega⟩
    obtain ⟨h1, h2⟩ := skip_hash_some r j (by omega)
    refine ⟨by omega, by simp; omega, ?_⟩
    simp only [List.drop_succ_cons]
    simp [skip, h2]; omega
def lex_blanks.f (a0 : ByteArray) : Option Int := if a0.size ≤ 9223372036854775807 then some (skip false a0.data.toList) else none
theorem byte_ne {c : UInt8} {n : Nat} (hn : n < 256) (h : ¬ (c.toNat : Int) = n) : c ≠ UInt8.ofNat n := by
  intro e; subst e; apply h; simp [UInt8.toNat_ofNat']; omega
theorem byte_eq {c : UInt8} {n : Nat} (h : (c.toNat : Int) = n) : c = UInt8.ofNat n := by
  apply UInt8.toNat_inj.1; have := c.toNat_lt; simp [UInt8.toNat_ofNat']; omega
set_option maxHeartbeats 2000000 in
set_option maxRecDepth 100000 in
theorem lex_blanks.calls (a0 : ByteArray) (r : Int) (w : World) (h : lex_blanks.f a0 = some r) :
    Calls Tryd.prog 30 #[.string a0] w fun e w' => e = .returned (.int .i64 r) ∧ Drawn0 w w' := by
  unfold lex_blanks.f at h
  by_cases hl : a0.size ≤ 9223372036854775807
  · rw [if_pos hl] at h
    obtain rfl := Option.some.inj h
    clear h
    go_enter Tryd.func30, Tryd.ntmps30
    go_wp2
    go_loopw [3] (fun v wr => ∃ k : Nat, k ≤ a0.size ∧ v = .int .i64 k ∧ Hid (k + skip false (a0.data.toList.drop k) = skip false a0.data.toList) ∧ Drawn0 w wr) (fun v _ => a0.size - (intOf v).toNat)
    case atStart => exact ⟨0, by omega, rfl, Lib.hid (by simp), Drawn0.refl _⟩
    case round =>
      obtain ⟨k, hk, rfl, HS, hD⟩ := hrel
      have HD := Lib.hid hD
      clear hD
      by_cases hlt : k < a0.size
      · have hdr := drop_at a0 k hlt
        have hlt' : (k : Int) < (a0.size : Int) := by omega
        by_cases h32 : (a0[k].toNat : Int) = 32
        · have HC : Hid (skip false (a0.data.toList.drop k) = skip false (a0.data.toList.drop (k + 1)) + 1) := Lib.hid (by rw [hdr]; exact skip_blank (.inl (byte_eq h32)))
          have b32 : ((a0[k].toNat : Int) == 32) = true := by simpa using h32
          clear hdr h32
          go_wp2
          go_roundw
          case rel => exact ⟨k + 1, by omega, by go_num, Lib.hid (by have h1 := HS.out; have h2 := HC.out; omega), HD.out⟩
          case measure => simp [intOf]; omega
        · by_cases h10 : (a0[k].toNat : Int) = 10
          · have HC : Hid (skip false (a0.data.toList.drop k) = skip false (a0.data.toList.drop (k + 1)) + 1) := Lib.hid (by rw [hdr]; exact skip_blank (.inr (byte_eq h10)))
            have b32 : ((a0[k].toNat : Int) == 32) = false := by simpa using h32
            have b10 : ((a0[k].toNat : Int) == 10) = true := by simpa using h10
            clear hdr h32 h10
            go_wp2
            go_roundw
            case rel => exact ⟨k + 1, by omega, by go_num, Lib.hid (by have h1 := HS.out; have h2 := HC.out; omega), HD.out⟩
            case measure => simp [intOf]; omega
          · have b32 : ((a0[k].toNat : Int) == 32) = false := by simpa using h32
            have b10 : ((a0[k].toNat : Int) == 10) = false := by simpa using h10
            by_cases h35 : (a0[k].toNat : Int) = 35
            · have b35 : ((a0[k].toNat : Int) == 35) = true := by simpa using h35
              have hc : a0[k] = 35 := byte_eq h35
              rw [hc] at hdr
              have hlen : (a0.data.toList.drop k).length = a0.size - k := by rw [List.length_drop, Array.length_toList]; rfl
              have hcall : ∀ w1 : World, Calls Tryd.prog 41 #[.string (a0.extract k a0.size), .int .u8 10] w1 fun e w' => e = .returned (.int .i64 (Lib.indexByte (a0.data.toList.drop k) 10)) ∧ w1 = w' := fun w1 => (Tryd.strings_IndexByte (a0.extract k a0.size) 10 w1).mono fun e w' h => ⟨by rw [h.1]; congr 3; simp [ByteArray.data_extract, List.take_of_length_le], h.2.symm⟩
              by_cases hn : Lib.indexByte (a0.data.toList.drop k) 10 < 0
              · have HC : Hid ((a0.size : Int) = skip false a0.data.toList) := Lib.hid (by have h1 := HS.out; have h2 := hash_none _ (by rw [← hdr]; exact hn); rw [← hdr, hlen] at h2; omega)
                clear hdr h32 h10 h35 hlen
                go_wp2_with (go_at_call 41; refine (hcall _).mono ?_; rintro e w' ⟨rfl, rfl⟩)
                go_ret
                exact ⟨ret_int HC.out, HD.out⟩
              · obtain ⟨j, hj⟩ : ∃ j : Nat, Lib.indexByte (a0.data.toList.drop k) 10 = j := ⟨(Lib.indexByte (a0.data.toList.drop k) 10).toNat, by omega⟩
                obtain ⟨j0, j1, j2⟩ := hash_some _ j (by rw [← hdr]; exact hj)
                rw [← hdr] at j1 j2
                rw [hlen] at j1
                rw [List.drop_drop] at j2
                have HC := Lib.hid j2
                have hcall2 : ∀ w1 : World, Calls Tryd.prog 41 #[.string (a0.extract k a0.size), .int .u8 10] w1 fun e w' => e = .returned (.int .i64 (j : Int)) ∧ w1 = w' := fun w1 => by rw [← hj]; exact hcall w1
                clear hdr h32 h10 h35 hlen hn hj j2 hcall
                go_wp2_with (go_at_call 41; refine (hcall2 _).mono ?_; rintro e w' ⟨rfl, rfl⟩)
                go_roundw
                case rel => exact ⟨k + j, by omega, by go_num, Lib.hid (by have h1 := HS.out; have h2 := HC.out; omega), HD.out⟩
                case measure => simp [intOf]; omega
            · have b35 : ((a0[k].toNat : Int) == 35) = false := by simpa using h35
              have HC : Hid ((k : Int) = skip false a0.data.toList) := Lib.hid (by have h1 := HS.out; rw [hdr, skip_other (byte_ne (n := 32) (by omega) h32) (byte_ne (n := 10) (by omega) h10) (byte_ne (n := 35) (by omega) h35)] at h1; omega)
              clear hdr h32 h10 h35
              go_wp2
              go_ret
              exact ⟨ret_int HC.out, HD.out⟩
      · have HC : Hid ((k : Int) = skip false a0.data.toList) := Lib.hid (by have h1 := HS.out; rw [drop_past a0 k (by omega)] at h1; simp [skip] at h1; omega)
        have hlt' : decide ((k : Int) < (a0.size : Int)) = false := by simp; omega
        go_wp2
        go_ret
        exact ⟨ret_int HC.out, HD.out⟩
  · rw [if_neg hl] at h; cases h
end Go.Proofs.YteafkdcppbemdaaDoor.Q
