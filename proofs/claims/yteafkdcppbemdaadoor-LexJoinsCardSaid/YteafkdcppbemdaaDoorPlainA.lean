import Derived.Test.YteafkdcppbemdaaDoorGivenB
namespace Go.Proofs.YteafkdcppbemdaaDoor.Q
set_option linter.unusedVariables false
set_option linter.unusedSimpArgs false

/-! ### blanks, as a state -/
def blankSt : Bool → List UInt8 → Option Bool
  | cm, [] => some cm
  | cm, c :: r => if c = 10 then blankSt false r else if c = 35 then blankSt true r else if c ≠ 32 ∧ cm = false then none else blankSt cm r
theorem blankSt_append : ∀ (a b : List UInt8) (cm : Bool), blankSt cm (a ++ b) = (blankSt cm a).bind fun c => blankSt c b
  | [], b, cm => rfl
  | c :: a, b, cm => by
    simp only [List.cons_append, blankSt]
    split
    · exact blankSt_append a b false
    · split
      · exact blankSt_append a b true
      · split
        · rfl
        · exact blankSt_append a b cm
def nb (c : UInt8) : Prop := c ≠ 32 ∧ c ≠ 10 ∧ c ≠ 35
/-- A text falls into its blanks and what follows. -/
theorem skip_parts : ∀ (l : List UInt8) (cm : Bool), ∃ b x, l = b ++ x ∧ skip cm l = b.length ∧ ((x = [] ∧ ∃ c, blankSt cm b = some c) ∨ (blankSt cm b = some false ∧ ∃ c r, x = c :: r ∧ nb c))
  | [], cm => ⟨[], [], rfl, rfl, .inl ⟨rfl, cm, rfl⟩⟩
  | c :: l, cm => by
    by_cases h1 : c = 10
    · obtain ⟨b, x, rfl, h, h'⟩ := skip_parts l false
      exact ⟨c :: b, x, rfl, by simp [skip, h1, h], by simpa [blankSt, h1] using h'⟩
    · by_cases h2 : c = 35
      · obtain ⟨b, x, rfl, h, h'⟩ := skip_parts l true
        exact ⟨c :: b, x, rfl, by simp [skip, h2, h], by simpa [blankSt, h2] using h'⟩
      · by_cases h3 : c ≠ 32 ∧ cm = false
        · exact ⟨[], c :: l, rfl, by simp [skip, h1, h2, h3], .inr ⟨by rw [h3.2]; rfl, c, l, rfl, h3.1, h1, h2⟩⟩
        · obtain ⟨b, x, rfl, h, h'⟩ := skip_parts l cm
          exact ⟨c :: b, x, rfl, by simp only [skip, if_neg h1, if_neg h2, if_neg h3, h, List.length_cons], by simpa only [blankSt, if_neg h1, if_neg h2, if_neg h3] using h'⟩
theorem skip_of : ∀ (b x : List UInt8) (cm : Bool), ((x = [] ∧ ∃ c, blankSt cm b = some c) ∨ (blankSt cm b = some false ∧ ∃ c r, x = c :: r ∧ nb c)) → skip cm (b ++ x) = b.length
  | [], x, cm, h => by
    rcases h with ⟨rfl, _⟩ | ⟨h, c, r, rfl, h1, h2, h3⟩
    · rfl
    · simp only [blankSt, Option.some.injEq] at h
      simp [skip, h1, h2, h3, h]
  | c :: b, x, cm, h => by
    simp only [List.cons_append, skip, blankSt, List.length_cons] at h ⊢
    by_cases h1 : c = 10
    · rw [if_pos h1]; rw [if_pos h1] at h; rw [skip_of b x false h]
    · rw [if_neg h1]; rw [if_neg h1] at h
      by_cases h2 : c = 35
      · rw [if_pos h2]; rw [if_pos h2] at h; rw [skip_of b x true h]
      · rw [if_neg h2]; rw [if_neg h2] at h
        by_cases h3 : c ≠ 32 ∧ cm = false
        · rw [if_pos h3] at h; simp at h
        · rw [if_neg h3]; rw [if_neg h3] at h; rw [skip_of b x cm h]

/-! ### tokens -/
def singles : List UInt8 := [40, 41, 123, 125, 91, 93, 44, 58, 46, 61, 43, 45, 42, 47, 37, 60]
def isEi (c : UInt8) : Bool := isEither (c.toNat : Int)
def isLe (c : UInt8) : Bool := isLetter (c.toNat : Int)
def isDi (c : UInt8) : Bool := isDigit (c.toNat : Int)
theorem findSign_two (c d : UInt8) (r : List UInt8) : findSign signsL (c :: d :: r) = if (c = 61 ∧ d = 61) ∨ (c = 45 ∧ d = 62) then 2 else if c ∈ singles then 1 else 0 := by
  by_cases h1 : c = 61 ∧ d = 61
  · obtain ⟨rfl, rfl⟩ := h1; rfl
  · by_cases h2 : c = 45 ∧ d = 62
    · obtain ⟨rfl, rfl⟩ := h2; rfl
    · rw [if_neg (by simp [h1, h2])]
      have e1 : hasPre [61, 61] (c :: d :: r) = false := by
        simp only [hasPre, List.isPrefixOf, Bool.and_true, Bool.and_eq_false_imp, beq_iff_eq, beq_eq_false_iff_ne]
        intro a b; exact h1 ⟨a.symm, b.symm⟩
      have e2 : hasPre [45, 62] (c :: d :: r) = false := by
        simp only [hasPre, List.isPrefixOf, Bool.and_true, Bool.and_eq_false_imp, beq_iff_eq, beq_eq_false_iff_ne]
        intro a b; exact h2 ⟨a.symm, b.symm⟩
      have all : ∀ L : List UInt8, findSign (L.map fun z => [z]) (c :: d :: r) = if c ∈ L then 1 else 0 := by
        intro L
        induction L with
        | nil => rfl
        | cons z L ih =>
          by_cases hz : z = c
          · subst hz
            rw [List.map_cons, findSign_yes (by simp [hasPre, List.isPrefixOf])]; simp
          · rw [List.map_cons, findSign_no (by simp [hasPre, List.isPrefixOf, hz]), ih]
            simp [Ne.symm hz]
      show findSign ([61, 61] :: [45, 62] :: singles.map fun z => [z]) _ = _
      rw [findSign_no e1, findSign_no e2, all]
theorem findSign_one (c : UInt8) : findSign signsL [c] = if c ∈ singles then 1 else 0 := by
  have all : ∀ L : List UInt8, findSign (L.map fun z => [z]) [c] = if c ∈ L then 1 else 0 := by
    intro L
    induction L with
    | nil => rfl
    | cons z L ih =>
      by_cases hz : z = c
      · subst hz
        rw [List.map_cons, findSign_yes (by simp [hasPre, List.isPrefixOf])]; simp
      · rw [List.map_cons, findSign_no (by simp [hasPre, List.isPrefixOf, hz]), ih]
        simp [Ne.symm hz]
  show findSign ([61, 61] :: [45, 62] :: singles.map fun z => [z]) _ = _
  rw [findSign_no (by simp [hasPre, List.isPrefixOf]), findSign_no (by simp [hasPre, List.isPrefixOf]), all]
end Go.Proofs.YteafkdcppbemdaaDoor.Q
