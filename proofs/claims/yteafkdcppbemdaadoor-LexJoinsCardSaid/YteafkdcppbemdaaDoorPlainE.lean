import Derived.Test.YteafkdcppbemdaaDoorPlainC
import Derived.Test.YteafkdcppbemdaaDoorGivenE
import Derived.Test.YteafkdcppbemdaaDoorQ4
import Derived.Test.YteafkdcppbemdaaDoorQ5
import Derived.Test.YteafkdcppbemdaaDoorQ6
namespace Go.Proofs.YteafkdcppbemdaaDoor.Q
open Go.RowKit Go.Proofs.YteafkdcppbemdaaDoorW.PrintWords Go.Proofs.YteafkdcppbemdaaDoorW.PrintLast Go.Proofs.YteafkdcppbemdaaDoorW.PrintMore
set_option linter.unusedVariables false
set_option linter.unusedSimpArgs false

/-! ### The reference's parts say what lex's parts say -/
theorem Ev.at {α : Type} {g : Nat → Option α} {r : α} (h : Ev g r) : ∃ K, ∀ k, K < k → g k = some r := by
  obtain ⟨K, h⟩ := h
  exact ⟨K, fun k hk => h k (by omega)⟩
theorem bt_list (s : ByteArray) (i : Nat) (c : UInt8) (r : List UInt8) (h : s.data.toList.drop i = c :: r) : i < s.size ∧ bt s (i : Int) = (c.toNat : Int) := by
  have hlt : i < s.size := by
    have : (s.data.toList.drop i).length = r.length + 1 := by rw [h]; rfl
    rw [List.length_drop, data_length] at this; omega
  refine ⟨hlt, ?_⟩
  rw [drop_at s i hlt] at h
  obtain ⟨h1, _⟩ := List.cons.inj h
  rw [← h1]; simp [bt, hlt]
theorem drop_succ {s : ByteArray} {i : Nat} {c : UInt8} {r : List UInt8} (h : s.data.toList.drop i = c :: r) : s.data.toList.drop (i + 1) = r := by
  rw [← List.drop_drop, h]; rfl
def kindZ (c : UInt8) : Int := if isLe c then 1 else if isDi c then 2 else 0
theorem ref_kind (c : UInt8) : Ev (fun k => R5_Kind.f k (c.toNat : Int)) (kindZ c) := by
  refine ⟨1, fun k hk => ?_⟩
  obtain ⟨k, rfl⟩ : ∃ m, k = m + 1 := ⟨k - 1, by omega⟩
  have e : ∀ b : Bool, b = isLe c → R5_Kind.j0 (k + 1) (c.toNat : Int) b = some (kindZ c) := by
    intro b hb
    simp only [R5_Kind.j0, kindZ, ← hb]
    cases b with
    | true => rfl
    | false =>
      rw [if_neg (by decide)]
      simp only [isDi, isDigit]
      by_cases h1 : (c.toNat : Int) ≥ 48 <;> by_cases h2 : (c.toNat : Int) ≤ 57 <;> simp [h1, h2]
  dsimp only
  unfold R5_Kind.f
  by_cases h1 : (c.toNat : Int) ≥ 97
  · rw [if_pos h1]
    by_cases h2 : (c.toNat : Int) ≤ 122
    · rw [if_pos h2]; exact e _ (by simp [isLe, isLetter, h1, h2])
    · rw [if_neg h2, if_pos (show (c.toNat : Int) ≥ 65 by omega)]
      exact e _ (by simp [isLe, isLetter, h1, h2]; omega)
  · rw [if_neg h1]
    by_cases h3 : (c.toNat : Int) ≥ 65
    · rw [if_pos h3]; exact e _ (by simp [isLe, isLetter, h1, h3])
    · rw [if_neg h3]; exact e _ (by simp [isLe, isLetter, h1, h3])
theorem ref_skip (s : ByteArray) (hs : s.size ≤ 9223372036854775000) : ∀ (l : List UInt8) (i : Nat) (cm : Bool), s.data.toList.drop i = l → i ≤ s.size → Ev (fun k => R5_skip.l0 k s (i : Int) cm) ((i + skip cm l : Nat) : Int)
  | [], i, cm, h, hi => by
    have : s.size ≤ i := by
      have : (s.data.toList.drop i).length = 0 := by rw [h]; rfl
      rw [List.length_drop, data_length] at this; omega
    refine Ev.step (f := fun _ => some (i : Int)) (fun k => ?_) (Ev.now _)
    simp only [R5_skip.l0]
    rw [if_neg (by omega)]
  | c :: l, i, cm, h, hi => by
    obtain ⟨hlt, hb⟩ := bt_list s i c l h
    have hd := drop_succ h
    have hw : wrap64 ((i : Int) + 1) = ((i + 1 : Nat) : Int) := by rw [w64 (by omega) (by omega)]; omega
    by_cases h1 : c = 10
    · have ih := ref_skip s hs l (i + 1) false hd (by omega)
      rw [show i + skip cm (c :: l) = i + 1 + skip false l by simp only [skip, if_pos h1]; omega]
      refine Ev.step (fun k => ?_) ih
      simp only [R5_skip.l0]
      rw [if_pos (by omega), if_pos (by omega), hb, if_pos (by rw [h1]; rfl), hw]
    · have n1 : ¬ (c.toNat : Int) = 10 := fun e => h1 (byte_eq (n := 10) e)
      by_cases h2 : c = 35
      · have ih := ref_skip s hs l (i + 1) true hd (by omega)
        rw [show i + skip cm (c :: l) = i + 1 + skip true l by simp only [skip, if_neg h1, if_pos h2]; omega]
        refine Ev.step (fun k => ?_) ih
        simp only [R5_skip.l0]
        rw [if_pos (by omega), if_pos (by omega), hb, if_neg n1, if_pos (by rw [h2]; rfl), hw]
      · have n2 : ¬ (c.toNat : Int) = 35 := fun e => h2 (byte_eq (n := 35) e)
        have ih := ref_skip s hs l (i + 1) cm hd (by omega)
        by_cases h3 : c = 32
        · rw [show i + skip cm (c :: l) = i + 1 + skip cm l by simp only [skip, if_neg h1, if_neg h2, if_neg (show ¬ (c ≠ 32 ∧ cm = false) from fun z => z.1 h3)]; omega]
          refine Ev.step (fun k => ?_) ih
          simp only [R5_skip.l0]
          rw [if_pos (by omega), if_pos (by omega), hb, if_neg n1, if_neg n2, if_pos (by rw [h3]; rfl), hw]
        · have n3 : ¬ (c.toNat : Int) = 32 := fun e => h3 (byte_eq (n := 32) e)
          cases cm with
          | true =>
            rw [show i + skip true (c :: l) = i + 1 + skip true l by simp only [skip, if_neg h1, if_neg h2, if_neg (show ¬ (c ≠ 32 ∧ true = false) from fun z => by cases z.2)]; omega]
            refine Ev.step (fun k => ?_) ih
            simp only [R5_skip.l0]
            rw [if_pos (by omega), if_pos (by omega), hb, if_neg n1, if_neg n2, if_neg n3, if_pos trivial, hw]
          | false =>
            rw [show i + skip false (c :: l) = i by rw [skip_other h3 h1 h2]; rfl]
            refine Ev.step (f := fun _ => some (i : Int)) (fun k => ?_) (Ev.now _)
            simp only [R5_skip.l0]
            rw [if_pos (by omega), if_pos (by omega), hb, if_neg n1, if_neg n2, if_neg n3, if_neg (by decide)]
abbrev signsS : ByteArray := ⟨#[40, 41, 123, 125, 91, 93, 44, 58, 46, 61, 43, 45, 42, 47, 37, 60]⟩
theorem ref_sign_loop (x : ByteArray) (c : UInt8) (hx : x.data.toList = [c]) : ∀ (l : List UInt8) (i : Nat), signsS.data.toList.drop i = l → Ev (fun k => R5_Sign.l0 k x signsS (i : Int)) (decide (c ∈ l))
  | [], i, h => by
    have : signsS.size ≤ i := by
      have : (signsS.data.toList.drop i).length = 0 := by rw [h]; rfl
      rw [List.length_drop, data_length] at this; omega
    refine Ev.step (f := fun _ => some false) (fun k => ?_) (Ev.now _)
    simp only [R5_Sign.l0]
    rw [if_neg (by omega)]
  | d :: l, i, h => by
    obtain ⟨hlt, hb⟩ := bt_list signsS i d l h
    have ih := ref_sign_loop x c hx l (i + 1) (drop_succ h)
    have h16 : signsS.size = 16 := rfl
    have hw : wrap64 ((i : Int) + 1) = ((i + 1 : Nat) : Int) := by rw [w64 (by omega) (by omega)]; omega
    obtain ⟨h0, hb0⟩ := bt_list x 0 c [] (by rw [hx]; rfl)
    have hb0' : bt x 0 = (c.toNat : Int) := hb0
    by_cases he : d = c
    · refine Ev.step (f := fun _ => some (decide (c ∈ d :: l))) (fun k => ?_) (Ev.now _)
      simp only [R5_Sign.l0]
      rw [if_pos (by omega), if_pos (by omega), if_pos (by omega), hb, hb0', if_pos (by rw [he])]
      simp [he]
    · rw [show decide (c ∈ d :: l) = decide (c ∈ l) by simp [Ne.symm he]]
      refine Ev.step (fun k => ?_) ih
      simp only [R5_Sign.l0]
      rw [if_pos (by omega), if_pos (by omega), if_pos (by omega), hb, hb0', if_neg (fun e => he (UInt8.toNat_inj.1 (by omega))), hw]
theorem ref_sign_one (c : UInt8) : Ev (fun k => R5_Sign.f k (bs [c])) (decide (c ∈ singles)) := by
  have h := ref_sign_loop (bs [c]) c (bs_data [c]) singles 0 rfl
  refine Ev.congr (f := fun k => R5_Sign.j0 k (bs [c]) false) (fun k => ?_) (Ev.step (fun k => ?_) h)
  · unfold R5_Sign.f
    rw [toList_bs, if_neg (by simp), show ([c] == ([45, 62] : List UInt8)) = false by rw [beq_eq_false_iff_ne]; simp]
  · simp only [R5_Sign.j0]
    rw [if_neg (by decide), if_pos (by rw [size_mk]; rfl)]
    rfl
theorem ref_sign_two (c d : UInt8) : Ev (fun k => R5_Sign.f k (bs [c, d])) (decide ((c = 61 ∧ d = 61) ∨ (c = 45 ∧ d = 62))) := by
  refine ⟨1, fun k hk => ?_⟩
  obtain ⟨k, rfl⟩ : ∃ m, k = m + 1 := ⟨k - 1, by omega⟩
  dsimp only
  unfold R5_Sign.f
  rw [toList_bs]
  by_cases h1 : c = 61 ∧ d = 61
  · rw [if_pos (by rw [h1.1, h1.2])]
    simp [R5_Sign.j0, h1]
  · rw [if_neg (fun e => h1 (by simpa using e))]
    by_cases h2 : c = 45 ∧ d = 62
    · rw [show ([c, d] == ([45, 62] : List UInt8)) = true by rw [h2.1, h2.2]; rfl]
      simp [R5_Sign.j0, h2]
    · rw [show ([c, d] == ([45, 62] : List UInt8)) = false by rw [beq_eq_false_iff_ne]; intro e; exact h2 (by simpa using e)]
      simp only [R5_Sign.j0]
      rw [if_neg (by decide), if_neg (by rw [size_mk]; simp)]
      simp [h1, h2]
def endZ (i : Nat) (l : List UInt8) : Int := if 0 < tokZ l then (i : Int) + tokZ l else -1
theorem ref_end_loop (s : ByteArray) (hs : s.size ≤ 9223372036854775000) (i0 : Nat) (q : Int) (p : Int → Bool) (hq : (q = 1 ∧ p = isEither) ∨ (q = 2 ∧ p = isDigit)) :
    ∀ (l : List UInt8) (i : Nat), s.data.toList.drop i = l → i0 ≤ i → i ≤ s.size →
      Ev (fun k => R5_end.l0 k s (i0 : Int) q (i : Int)) (if ((i - i0 + span p l : Nat) : Int) > 16 then -1 else ((i + span p l : Nat) : Int))
  | [], i, h, h0, hi => by
    have : s.size ≤ i := by
      have : (s.data.toList.drop i).length = 0 := by rw [h]; rfl
      rw [List.length_drop, data_length] at this; omega
    refine Ev.step (f := fun _ => some _) (fun k => ?_) (Ev.now _)
    simp only [R5_end.l0]
    rw [if_neg (by omega), span_nil, w64 (by omega) (by omega)]
    by_cases h16 : (i : Int) - (i0 : Int) > 16
    · rw [if_pos h16, if_pos (by omega)]
    · rw [if_neg h16, if_neg (by omega)]; rfl
  | c :: l, i, h, h0, hi => by
    obtain ⟨hlt, hb⟩ := bt_list s i c l h
    have hd := drop_succ h
    have hw : wrap64 ((i : Int) + 1) = ((i + 1 : Nat) : Int) := by rw [w64 (by omega) (by omega)]; omega
    have hwd : wrap64 ((i : Int) - (i0 : Int)) = (i : Int) - (i0 : Int) := w64 (by omega) (by omega)
    have ih := ref_end_loop s hs i0 q p hq l (i + 1) hd (by omega) (by omega)
    have go : p c.toNat = true → Ev (fun k => (some (kindZ c)).bind fun t137 => (if t137 = 2 then (R5_end.l0 k s (i0 : Int) q (wrap64 ((i : Int) + 1))) else (if t137 = 1 then (if q = 1 then (R5_end.l0 k s (i0 : Int) q (wrap64 ((i : Int) + 1))) else (if (wrap64 ((i : Int) - (i0 : Int))) > 16 then (some (-1)) else (some (i : Int)))) else (if (wrap64 ((i : Int) - (i0 : Int))) > 16 then (some (-1)) else (some (i : Int)))))) (if ((i - i0 + span p (c :: l) : Nat) : Int) > 16 then -1 else ((i + span p (c :: l) : Nat) : Int)) := by
      intro hp
      have e1 : span p (c :: l) = span p l + 1 := span_cons_true p c l hp
      rw [show i - i0 + span p (c :: l) = i + 1 - i0 + span p l by omega, show i + span p (c :: l) = i + 1 + span p l by omega]
      refine Ev.congr (fun k => ?_) ih
      rw [Option.bind_some, hw]
      by_cases hdi : isLe c = true
      · have hk : kindZ c = 1 := if_pos hdi
        rcases hq with ⟨rfl, rfl⟩ | ⟨rfl, rfl⟩
        · rw [hk, if_neg (by decide), if_pos rfl, if_pos rfl]
        · exfalso
          have h1 : isLetter (c.toNat : Int) = true := hdi
          have h2 : isDigit (c.toNat : Int) = true := hp
          simp only [isLetter, isDigit, Bool.or_eq_true, Bool.and_eq_true, decide_eq_true_eq] at h1 h2
          omega
      · have hd2 : isDi c = true := by
          rcases hq with ⟨rfl, rfl⟩ | ⟨rfl, rfl⟩
          · have h1 : isEither (c.toNat : Int) = true := hp
            have h2 : ¬ isLetter (c.toNat : Int) = true := hdi
            simp only [isEither, Bool.or_eq_true] at h1
            exact h1.resolve_left h2
          · exact hp
        have hk : kindZ c = 2 := by simp only [kindZ, hdi, hd2]; rfl
        rw [hk, if_pos rfl]
    have stop : p c.toNat = false → Ev (fun k => (some (kindZ c)).bind fun t137 => (if t137 = 2 then (R5_end.l0 k s (i0 : Int) q (wrap64 ((i : Int) + 1))) else (if t137 = 1 then (if q = 1 then (R5_end.l0 k s (i0 : Int) q (wrap64 ((i : Int) + 1))) else (if (wrap64 ((i : Int) - (i0 : Int))) > 16 then (some (-1)) else (some (i : Int)))) else (if (wrap64 ((i : Int) - (i0 : Int))) > 16 then (some (-1)) else (some (i : Int)))))) (if ((i - i0 + span p (c :: l) : Nat) : Int) > 16 then -1 else ((i + span p (c :: l) : Nat) : Int)) := by
      intro hp
      have e1 : span p (c :: l) = 0 := span_cons_false p c l hp
      rw [e1]
      have fin : (if (wrap64 ((i : Int) - (i0 : Int))) > 16 then (some (-1) : Option Int) else (some (i : Int))) = some (if ((i - i0 + 0 : Nat) : Int) > 16 then -1 else ((i + 0 : Nat) : Int)) := by
        rw [hwd]
        by_cases h16 : (i : Int) - (i0 : Int) > 16
        · rw [if_pos h16, if_pos (by omega)]
        · rw [if_neg h16, if_neg (by omega)]; rfl
      refine Ev.congr (f := fun _ => some _) (fun k => ?_) (Ev.now _)
      rw [Option.bind_some]
      by_cases hdi : isLe c = true
      · have hk : kindZ c = 1 := if_pos hdi
        rcases hq with ⟨rfl, rfl⟩ | ⟨rfl, rfl⟩
        · exfalso
          have h1 : isLetter (c.toNat : Int) = true := hdi
          have h2 : isEither (c.toNat : Int) = false := hp
          simp [isEither, h1] at h2
        · rw [hk, if_neg (by decide), if_pos rfl, if_neg (by decide)]; exact fin
      · have hd2 : ¬ isDi c = true := by
          intro hd2
          have h1 : isDigit (c.toNat : Int) = true := hd2
          rcases hq with ⟨rfl, rfl⟩ | ⟨rfl, rfl⟩
          · have h2 : isEither (c.toNat : Int) = false := hp
            simp [isEither, h1] at h2
          · rw [h1] at hp; cases hp
        have hk : kindZ c = 0 := by simp only [kindZ, if_neg hdi, if_neg hd2]
        rw [hk, if_neg (by decide), if_neg (by decide)]; exact fin
    refine Ev.step (f := fun k => (R5_Kind.f k (c.toNat : Int)).bind fun t137 => (if t137 = 2 then (R5_end.l0 k s (i0 : Int) q (wrap64 ((i : Int) + 1))) else (if t137 = 1 then (if q = 1 then (R5_end.l0 k s (i0 : Int) q (wrap64 ((i : Int) + 1))) else (if (wrap64 ((i : Int) - (i0 : Int))) > 16 then (some (-1)) else (some (i : Int)))) else (if (wrap64 ((i : Int) - (i0 : Int))) > 16 then (some (-1)) else (some (i : Int)))))) (fun k => ?_) (Ev.bind (ref_kind c) ?_)
    · simp only [R5_end.l0]
      rw [if_pos (by omega), if_pos (by omega), hb]
    · cases hp : p c.toNat with
      | true => exact go hp
      | false => exact stop hp
theorem extract_one {s : ByteArray} {i : Nat} {c : UInt8} {r : List UInt8} (h : s.data.toList.drop i = c :: r) : s.extract i (i + 1) = bs [c] := by
  rw [extract_bs, h, Nat.add_sub_cancel_left]; rfl
theorem extract_two {s : ByteArray} {i : Nat} {c d : UInt8} {r : List UInt8} (h : s.data.toList.drop i = c :: d :: r) : s.extract i (i + 2) = bs [c, d] := by
  rw [extract_bs, h, Nat.add_sub_cancel_left]; rfl
theorem ref_end (s : ByteArray) (hs : s.size ≤ 9223372036854775000) (i : Nat) (c : UInt8) (l : List UInt8) (h : s.data.toList.drop i = c :: l) : Ev (fun k => R5_end.f k s (i : Int)) (endZ i (c :: l)) := by
  obtain ⟨hlt, hb⟩ := bt_list s i c l h
  have hd := drop_succ h
  have hw : wrap64 ((i : Int) + 1) = ((i + 1 : Nat) : Int) := by rw [w64 (by omega) (by omega)]; omega
  have hw2 : wrap64 ((i : Int) + 2) = ((i + 2 : Nat) : Int) := by rw [w64 (by omega) (by omega)]; omega
  have word : ∀ (q : Int) (p : Int → Bool), ((q = 1 ∧ p = isEither) ∨ (q = 2 ∧ p = isDigit)) → tokZ (c :: l) = wordLen (1 + span p l) → Ev (fun k => R5_end.l0 k s (i : Int) q (wrap64 ((i : Int) + 1))) (endZ i (c :: l)) := by
    intro q p hq ht
    have hl := ref_end_loop s hs i q p hq l (i + 1) hd (by omega) (by omega)
    rw [hw]
    have e : (if ((i + 1 - i + span p l : Nat) : Int) > 16 then (-1 : Int) else ((i + 1 + span p l : Nat) : Int)) = endZ i (c :: l) := by
      unfold endZ; rw [ht]; unfold wordLen
      by_cases h16 : 1 + span p l > 16
      · rw [if_pos (by omega), if_pos h16, if_neg (by omega)]
      · rw [if_neg (by omega), if_neg h16, if_pos (by omega)]; omega
    rw [← e]; exact hl
  refine Ev.congr (f := fun k => (R5_Kind.f k (c.toNat : Int)).bind fun t136 => (if t136 > 0 then (R5_end.l0 k s (i : Int) t136 (wrap64 ((i : Int) + 1))) else (if (wrap64 ((i : Int) + 1)) < (s.size : Int) then (if (i : Int) ≤ (wrap64 ((i : Int) + 2)) then (if (wrap64 ((i : Int) + 2)) ≤ (s.size : Int) then ((R5_Sign.f k (s.extract (i : Int).toNat ((wrap64 ((i : Int) + 2)) : Int).toNat)).bind fun t138 => (R5_end.j1 k s (i : Int) t138)) else (none)) else (none)) else (R5_end.j1 k s (i : Int) false)))) (fun k => ?_) (Ev.bind (ref_kind c) ?_)
  · unfold R5_end.f
    rw [if_pos (by omega), if_pos (by omega), hb]
  · by_cases h1 : isLe c = true
    · have hk : kindZ c = 1 := if_pos h1
      refine Ev.congr (fun k => ?_) (word 1 isEither (.inl ⟨rfl, rfl⟩) (by rw [tokZ, if_pos (show isLetter (c.toNat : Int) = true from h1)]))
      rw [hk, if_pos (by decide)]
    · by_cases h2 : isDi c = true
      · have hk : kindZ c = 2 := by simp only [kindZ, h1, h2]; rfl
        refine Ev.congr (fun k => ?_) (word 2 isDigit (.inr ⟨rfl, rfl⟩) (by rw [tokZ, if_neg (show ¬ isLetter (c.toNat : Int) = true from h1), if_pos (show isDigit (c.toNat : Int) = true from h2)]))
        rw [hk, if_pos (by decide)]
      · have hk : kindZ c = 0 := by simp only [kindZ, if_neg h1, if_neg h2]
        have ht : tokZ (c :: l) = findSign signsL (c :: l) := by rw [tokZ, if_neg (show ¬ isLetter (c.toNat : Int) = true from h1), if_neg (show ¬ isDigit (c.toNat : Int) = true from h2)]
        have one : (∀ z, l.head? = some z → ¬ ((c = 61 ∧ z = 61) ∨ (c = 45 ∧ z = 62))) → Ev (fun k => R5_end.j1 k s (i : Int) false) (endZ i (c :: l)) := by
          intro hn
          have hf : findSign signsL (c :: l) = if c ∈ singles then 1 else 0 := by
            cases l with
            | nil => exact findSign_one c
            | cons d r => rw [findSign_two, if_neg (hn d rfl)]
          refine Ev.step (f := fun k => (R5_Sign.f k (bs [c])).bind fun t139 => (if t139 = true then (some (wrap64 ((i : Int) + 1))) else (some (-1)))) (fun k => ?_) (Ev.bind (ref_sign_one c) ?_)
          · simp only [R5_end.j1]
            rw [if_neg (by decide), if_pos (by omega), hw, if_pos (by omega), if_pos (by omega), Int.toNat_natCast, Int.toNat_natCast, extract_one h]
          · refine Ev.congr (f := fun _ => some _) (fun k => ?_) (Ev.now _)
            unfold endZ
            rw [ht, hf]
            by_cases hc : c ∈ singles
            · simp only [hc, decide_true, if_true]
              rw [w64 (by omega) (by omega), if_pos (by decide)]
            · simp only [hc, decide_false, if_false]
              rw [if_neg (by decide), if_neg (by decide)]
        rw [hk]
        have hgt : ¬ ((0 : Int) > 0) := by decide
        cases l with
        | nil =>
          have hsz : s.size = i + 1 := by
            have : (s.data.toList.drop i).length = 1 := by rw [h]; rfl
            rw [List.length_drop, data_length] at this; omega
          refine Ev.congr (fun k => ?_) (one (fun z hz => by cases hz))
          rw [if_neg hgt, hw, if_neg (by omega)]
        | cons d r =>
          have hsz : i + 2 ≤ s.size := by
            have : (s.data.toList.drop i).length = r.length + 2 := by rw [h]; rfl
            rw [List.length_drop, data_length] at this; omega
          refine Ev.congr (f := fun k => (R5_Sign.f k (bs [c, d])).bind fun t138 => (R5_end.j1 k s (i : Int) t138)) (fun k => ?_) (Ev.bind (ref_sign_two c d) ?_)
          · rw [if_neg hgt, hw, hw2, if_pos (by omega), if_pos (by omega), if_pos (by omega), Int.toNat_natCast, Int.toNat_natCast, extract_two h]
          · by_cases h3 : (c = 61 ∧ d = 61) ∨ (c = 45 ∧ d = 62)
            · rw [decide_eq_true h3]
              refine Ev.step (f := fun _ => some (endZ i (c :: d :: r))) (fun k => ?_) (Ev.now _)
              simp only [R5_end.j1]
              rw [if_pos trivial, hw2]
              unfold endZ
              rw [ht, findSign_two, if_pos h3, if_pos (by decide)]
              rfl
            · rw [decide_eq_false h3]
              exact one (fun z hz => by cases hz; exact h3)
/-! ### plain, Same -/
theorem plain_loop (ts : List S38) (hl : ts.length ≤ 4398046511104) : ∀ (d i : Nat) (acc : List S56), i + d = ts.length → acc = (ts.take i).map (fun t => ⟨t.f0, t.f1⟩) → Ev (fun k => L5_plain.l0 k ts acc (i : Int)) (ts.map fun t => ⟨t.f0, t.f1⟩) := by
  intro d
  induction d with
  | zero =>
    intro i acc hi ha
    refine Ev.step (f := fun _ => some _) (fun k => ?_) (Ev.now _)
    simp only [L5_plain.l0]
    rw [if_neg (by omega), ha, List.take_of_length_le (by omega)]
  | succ d ih =>
    intro i acc hi ha
    have hw : wrap64 ((i : Int) + 1) = ((i + 1 : Nat) : Int) := by rw [w64 (by omega) (by omega)]; omega
    have hlt : i < ts.length := by omega
    refine Ev.step (fun k => ?_) (ih (i + 1) (acc ++ [⟨ts[i].f0, ts[i].f1⟩]) (by omega) (by rw [ha, List.take_succ_eq_append_getElem hlt, List.map_append]; rfl))
    have hr : rd_T38 ts (i : Int) = ts[i] := by simp [rd_T38, List.getElem?_eq_getElem hlt]
    have hal : acc.length = i := by rw [ha, List.length_map, List.length_take]; omega
    simp only [L5_plain.l0]
    rw [if_pos (by omega), if_pos (by omega), if_pos (by omega), hw, hr]
theorem plain_ev (ts : List S38) (hl : ts.length ≤ 4398046511104) : Ev (fun k => L5_plain.f k ts) (ts.map fun t => ⟨t.f0, t.f1⟩) := plain_loop ts hl ts.length 0 [] (by omega) rfl
end Go.Proofs.YteafkdcppbemdaaDoor.Q
