import Derived.Test.YteafkdcppbemdaaDoorPlainA
namespace Go.Proofs.YteafkdcppbemdaaDoor.Q
set_option linter.unusedVariables false
set_option linter.unusedSimpArgs false

theorem span_eq (p : Int → Bool) : ∀ (w r : List UInt8), span p (w ++ r) = w.length ↔ (w.all (fun c => p c.toNat) = true ∧ r.head?.any (fun c => p c.toNat) = false)
  | [], [] => by simp [span]
  | [], c :: r => by
    by_cases h : p c.toNat = true
    · simp [span_cons_true p c r h, h]
    · have h' : p c.toNat = false := by simpa using h
      simp [span_cons_false p c r h', h']
  | c :: w, r => by
    by_cases h : p c.toNat = true
    · rw [List.cons_append, span_cons_true p c _ h, List.length_cons, List.all_cons, h, Bool.true_and, ← span_eq p w r]; omega
    · have h' : p c.toNat = false := by simpa using h
      rw [List.cons_append, span_cons_false p c _ h', List.all_cons, h']; simp
theorem span_le (p : Int → Bool) (l : List UInt8) : span p l ≤ l.length := (List.takeWhile_sublist _).length_le
theorem wordLen_eq (n m : Nat) (hm : 0 < m) : wordLen n = m ↔ (n = m ∧ m ≤ 16) := by
  unfold wordLen; split <;> omega
def signB (c : UInt8) : List UInt8 → Option UInt8 → Bool
  | [], h => decide (c ∈ singles) && !(decide (c = 61) && decide (h = some 61) || decide (c = 45) && decide (h = some 62))
  | [d], _ => decide ((c = 61 ∧ d = 61) ∨ (c = 45 ∧ d = 62))
  | _ :: _ :: _, _ => false
def lookB : List UInt8 → Option UInt8 → Bool
  | [], _ => false
  | c :: w, h =>
    if isLe c then w.all isEi && decide (w.length + 1 ≤ 16) && !h.any isEi
    else if isDi c then w.all isDi && decide (w.length + 1 ≤ 16) && !h.any isDi
    else signB c w h
theorem tok_iff (t r : List UInt8) (ht : t ≠ []) : tokZ (t ++ r) = (t.length : Int) ↔ lookB t r.head? = true := by
  cases t with
  | nil => exact absurd rfl ht
  | cons c w =>
    rw [List.cons_append, tokZ]
    simp only [lookB]
    by_cases h1 : isLetter (c.toNat : Int) = true
    · have h1' : isLe c = true := h1
      rw [if_pos h1, if_pos h1', List.length_cons, wordLen_eq _ _ (by omega)]
      rw [show (1 + span isEither (w ++ r) = w.length + 1) ↔ span isEither (w ++ r) = w.length from by omega, span_eq]
      simp only [Bool.and_eq_true, decide_eq_true_eq, Bool.not_eq_true', isEi]
      constructor
      · rintro ⟨⟨a, b⟩, c⟩; exact ⟨⟨a, c⟩, b⟩
      · rintro ⟨⟨a, c⟩, b⟩; exact ⟨⟨a, b⟩, c⟩
    · have h1' : ¬ isLe c = true := h1
      rw [if_neg h1, if_neg h1']
      by_cases h2 : isDigit (c.toNat : Int) = true
      · have h2' : isDi c = true := h2
        rw [if_pos h2, if_pos h2', List.length_cons, wordLen_eq _ _ (by omega)]
        rw [show (1 + span isDigit (w ++ r) = w.length + 1) ↔ span isDigit (w ++ r) = w.length from by omega, span_eq]
        simp only [Bool.and_eq_true, decide_eq_true_eq, Bool.not_eq_true', isDi]
        constructor
        · rintro ⟨⟨a, b⟩, c⟩; exact ⟨⟨a, c⟩, b⟩
        · rintro ⟨⟨a, c⟩, b⟩; exact ⟨⟨a, b⟩, c⟩
      · have h2' : ¬ isDi c = true := h2
        rw [if_neg h2, if_neg h2']
        match w, r with
        | [], [] =>
          rw [List.nil_append, findSign_one]
          by_cases h : c ∈ singles <;> simp [h, signB]
        | [], d :: r =>
          rw [List.nil_append, findSign_two]
          by_cases h3 : (c = 61 ∧ d = 61) ∨ (c = 45 ∧ d = 62)
          · rw [if_pos h3]
            rcases h3 with ⟨rfl, rfl⟩ | ⟨rfl, rfl⟩ <;> simp [signB]
          · rw [if_neg h3]
            have h5 : (¬c = 61 ∨ ¬d = 61) ∧ (¬c = 45 ∨ ¬d = 62) := by
              refine ⟨Classical.byContradiction fun h => h3 (.inl ?_), Classical.byContradiction fun h => h3 (.inr ?_)⟩
              · exact ⟨Classical.byContradiction fun z => h (.inl z), Classical.byContradiction fun z => h (.inr z)⟩
              · exact ⟨Classical.byContradiction fun z => h (.inl z), Classical.byContradiction fun z => h (.inr z)⟩
            by_cases h : c ∈ singles <;> simp [signB, h, h5]
        | [d], r =>
          rw [List.cons_append, List.nil_append, findSign_two]
          by_cases h3 : (c = 61 ∧ d = 61) ∨ (c = 45 ∧ d = 62)
          · rw [if_pos h3]; simp [signB, h3]
          · rw [if_neg h3]; by_cases h : c ∈ singles <;> simp [signB, h, h3]
        | d :: e :: w, r =>
          rw [List.cons_append, List.cons_append, findSign_two]
          simp only [List.length_cons, signB]
          constructor
          · intro h
            split at h
            · omega
            · split at h <;> omega
          · intro h; cases h
theorem tok_nonneg (l : List UInt8) : 0 ≤ tokZ l ∧ tokZ l ≤ l.length := by
  cases l with
  | nil => simp [tokZ]
  | cons c r =>
    rw [tokZ]
    have h1 := span_le isEither r; have h2 := span_le isDigit r
    split
    · unfold wordLen; split <;> simp <;> omega
    · split
      · unfold wordLen; split <;> simp <;> omega
      · cases r with
        | nil => rw [findSign_one]; split <;> simp
        | cons d r => rw [findSign_two]; split <;> (try split) <;> simp <;> omega
theorem tok_blank {c : UInt8} (h : ¬ nb c) (r : List UInt8) : tokZ (c :: r) = 0 := by
  have h' : c = 32 ∨ c = 10 ∨ c = 35 := by
    by_cases a : c = 32
    · exact .inl a
    · by_cases b : c = 10
      · exact .inr (.inl b)
      · by_cases d : c = 35
        · exact .inr (.inr d)
        · exact absurd ⟨a, b, d⟩ h
  have all : ∀ c : UInt8, c = 32 ∨ c = 10 ∨ c = 35 → isLetter (c.toNat : Int) = false ∧ isDigit (c.toNat : Int) = false ∧ c ∉ singles ∧ c ≠ 61 ∧ c ≠ 45 := by
    rintro c (rfl | rfl | rfl) <;> decide
  obtain ⟨h1, h2, h3, h4, h5⟩ := all c h'
  rw [tokZ, if_neg (by simp [h1]), if_neg (by simp [h2])]
  cases r with
  | nil => rw [findSign_one, if_neg h3]
  | cons d r => rw [findSign_two, if_neg (by simp [h4, h5]), if_neg h3]

/-! ### What is read -/
structure Tk where
  text : List UInt8
  before : List UInt8
inductive Reads : List UInt8 → List Tk → List UInt8 → Prop
  | done {l c} : blankSt false l = some c → Reads l [] l
  | step {b t r ts e} : blankSt false b = some false → t ≠ [] → lookB t r.head? = true → Reads r ts e → Reads (b ++ (t ++ r)) (⟨t, b⟩ :: ts) e
inductive Fails : List UInt8 → Nat → Prop
  | here {b c r} : blankSt false b = some false → nb c → tokZ (c :: r) = 0 → Fails (b ++ c :: r) b.length
  | step {b t r n} : blankSt false b = some false → t ≠ [] → lookB t r.head? = true → Fails r n → Fails (b ++ (t ++ r)) (b.length + t.length + n)
theorem look_nb {c : UInt8} {w : List UInt8} {h : Option UInt8} (hl : lookB (c :: w) h = true) : nb c := by
  apply Classical.byContradiction
  intro hn
  have : tokZ ((c :: w) ++ h.toList) = ((c :: w).length : Int) := (tok_iff (c :: w) h.toList (by simp)).2 (by cases h <;> simpa using hl)
  rw [List.cons_append, tok_blank hn] at this
  simp at this
  omega
theorem total : ∀ (n : Nat) (l : List UInt8), l.length ≤ n → (∃ ts e, Reads l ts e) ∨ ∃ k, Fails l k
  | 0, l, h => by
    obtain rfl : l = [] := List.eq_nil_of_length_eq_zero (by omega)
    exact .inl ⟨[], [], .done rfl⟩
  | n + 1, l, h => by
    obtain ⟨b, x, rfl, hs, h' | ⟨hb, c, r, rfl, hc⟩⟩ := skip_parts l false
    · obtain ⟨rfl, c, hc⟩ := h'
      exact .inl ⟨[], b ++ [], .done (c := c) (by simpa using hc)⟩
    · have ht := tok_nonneg (c :: r)
      by_cases h0 : tokZ (c :: r) = 0
      · exact .inr ⟨_, .here hb hc h0⟩
      · obtain ⟨k, hk⟩ : ∃ k : Nat, tokZ (c :: r) = k := ⟨(tokZ (c :: r)).toNat, by omega⟩
        have hlen : ((c :: r).take k).length = k := by rw [List.length_take]; omega
        have hne : (c :: r).take k ≠ [] := by intro e; rw [e] at hlen; simp at hlen; omega
        have hsplit : c :: r = (c :: r).take k ++ (c :: r).drop k := (List.take_append_drop k _).symm
        have hl : lookB ((c :: r).take k) ((c :: r).drop k).head? = true := (tok_iff _ _ hne).1 (by rw [← hsplit, hlen, hk])
        have hd : ((c :: r).drop k).length ≤ n := by
          rw [List.length_drop]; rw [List.length_append] at h; simp only [List.length_cons] at h ⊢; omega
        rcases total n ((c :: r).drop k) hd with ⟨ts, e, hr⟩ | ⟨j, hf⟩
        · have h := Reads.step hb hne hl hr
          rw [List.take_append_drop] at h
          exact .inl ⟨_, _, h⟩
        · have h := Fails.step hb hne hl hf
          rw [List.take_append_drop] at h
          exact .inr ⟨_, h⟩
end Go.Proofs.YteafkdcppbemdaaDoor.Q
