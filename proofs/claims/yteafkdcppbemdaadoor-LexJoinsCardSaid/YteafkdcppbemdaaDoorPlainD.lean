import Derived.Test.YteafkdcppbemdaaDoorPlainC
import Derived.Test.YteafkdcppbemdaaDoorQ4
namespace Go.Proofs.YteafkdcppbemdaaDoor.Q
open Go.RowKit Go.Proofs.YteafkdcppbemdaaDoorW.PrintWords Go.Proofs.YteafkdcppbemdaaDoorW.PrintLast Go.Proofs.YteafkdcppbemdaaDoorW.PrintMore
set_option linter.unusedVariables false
set_option linter.unusedSimpArgs false

def I64 (x : Int) : Prop := -9223372036854775808 ≤ x ∧ x ≤ 9223372036854775807
theorem i64_of_wf {x : Int} (h : (Lit.int .i64 x).wf = true) : I64 x := by
  have h' : IntKind.i64.min ≤ x ∧ x ≤ 9223372036854775807 := by simpa [Lit.wf] using h
  exact ⟨Int.le_trans (by decide) h'.1, h'.2⟩
theorem rd_wf {l : List Int} (h : ∀ x ∈ l, I64 x) (i : Int) : I64 (rd l i) := by
  unfold rd
  rw [List.getD_eq_getElem?_getD]
  cases e : l[i.toNat]? with
  | none => exact ⟨by decide, by decide⟩
  | some x => exact h x (List.mem_of_getElem? e)
theorem around_tells (a b : Int) (ha : I64 a) (hb : 0 < b) : ∃ r, R1_Around.f a b = some r ∧ 0 ≤ r ∧ r < b := by
  obtain ⟨h1, h2⟩ := ha
  unfold R1_Around.f
  by_cases h : a < 0
  · rw [if_pos h, if_neg (by omega)]
    have e1 : wrap64 (a + 1) = a + 1 := by unfold wrap64; omega
    have e2 : wrap64 (-(a + 1)) = -(a + 1) := by unfold wrap64; omega
    rw [e1, e2]
    exact ⟨_, rfl, Int.tmod_nonneg _ (by omega), Int.tmod_lt_of_pos _ hb⟩
  · rw [if_neg h, if_neg (by omega)]
    exact ⟨_, rfl, Int.tmod_nonneg _ (by omega), Int.tmod_lt_of_pos _ hb⟩
theorem at_tells (l : List Int) (i b : Int) (hl : ∀ x ∈ l, I64 x) (hb : 0 < b) : ∃ r, R1_At.f l i b = some r ∧ 0 ≤ r ∧ r < b := by
  unfold R1_At.f
  by_cases h1 : i < 0
  · rw [if_pos h1]; exact ⟨0, rfl, by omega, hb⟩
  · rw [if_neg h1]
    by_cases h2 : i ≥ (l.length : Int)
    · rw [if_pos h2]; exact ⟨0, rfl, by omega, hb⟩
    · rw [if_neg h2, if_pos (by omega), if_pos (by omega)]
      obtain ⟨r, hr, h⟩ := around_tells (rd l i) b (rd_wf hl i) hb
      exact ⟨r, by rw [hr]; rfl, h⟩
/-- Blanks in which each comment has its line's end. -/
def GapOk (r : ByteArray) : Prop := blankSt false r.data.toList = some false
abbrev gapsB : List ByteArray := [(⟨#[]⟩ : ByteArray), (⟨#[32]⟩ : ByteArray), (⟨#[10]⟩ : ByteArray), (⟨#[32, 32]⟩ : ByteArray), (⟨#[35, 32, 97, 32, 40, 98, 10]⟩ : ByteArray), (⟨#[32, 35, 10, 32]⟩ : ByteArray), (⟨#[10, 10]⟩ : ByteArray), (⟨#[35, 255, 35, 32, 49, 10]⟩ : ByteArray)]
theorem gapsB_ok (i : Nat) (h : i < 8) : (rdOf ByteArray.empty gapsB (i : Int)).size ≤ 7 ∧ GapOk (rdOf ByteArray.empty gapsB (i : Int)) := by
  match i, h with
  | 0, _ => exact ⟨by decide, by unfold GapOk; decide⟩
  | 1, _ => exact ⟨by decide, by unfold GapOk; decide⟩
  | 2, _ => exact ⟨by decide, by unfold GapOk; decide⟩
  | 3, _ => exact ⟨by decide, by unfold GapOk; decide⟩
  | 4, _ => exact ⟨by decide, by unfold GapOk; decide⟩
  | 5, _ => exact ⟨by decide, by unfold GapOk; decide⟩
  | 6, _ => exact ⟨by decide, by unfold GapOk; decide⟩
  | 7, _ => exact ⟨by decide, by unfold GapOk; decide⟩
  | n + 8, h => omega
theorem gap_append {a b : ByteArray} (ha : GapOk a) (hb : GapOk b) : GapOk (a ++ b) := by
  unfold GapOk at *
  rw [ByteArray.data_append, Array.toList_append, blankSt_append, ha]
  exact hb
theorem pick_tells (x : ByteArray) (a1 : Int) (n : Nat) (hn : 1 ≤ n) (hx : x.size ≤ n) (ho : GapOk x) : ∃ r, (if x.toList = ([] : List UInt8) then (if a1 = 0 then (some x) else (some (⟨#[32]⟩ : ByteArray))) else (some x)) = some r ∧ r.size ≤ n ∧ GapOk r ∧ (a1 ≠ 0 → r.data.toList ≠ []) := by
  by_cases h : x.toList = []
  · rw [if_pos h]
    by_cases h1 : a1 = 0
    · rw [if_pos h1]; exact ⟨x, rfl, hx, ho, fun h => absurd h1 h⟩
    · rw [if_neg h1]; exact ⟨_, rfl, hn, by unfold GapOk; decide, fun _ => by decide⟩
  · rw [if_neg h]; exact ⟨x, rfl, hx, ho, fun _ => by rwa [ByteArray.toList_eq] at h⟩
theorem gap_tells (a0 a1 : Int) (h : I64 a0) : ∃ r, R5_Gap.f a0 a1 = some r ∧ r.size ≤ 14 ∧ GapOk r ∧ (a1 ≠ 0 → r.data.toList ≠ []) := by
  obtain ⟨t, ht, h0, h1⟩ := around_tells a0 1000000 h (by decide)
  have i0 := Int.tmod_nonneg 8 h0
  have i1 := Int.tmod_lt_of_pos t (b := 8) (by decide)
  obtain ⟨i, hi⟩ : ∃ i : Nat, Int.tmod t 8 = i := ⟨(Int.tmod t 8).toNat, by omega⟩
  have d0 : 0 ≤ Int.tdiv t 8 := Int.tdiv_nonneg h0 (by decide)
  have d1 : Int.tdiv t 8 ≤ t := Int.tdiv_le_self 8 h0
  have j0 := Int.tmod_nonneg 8 d0
  have j1 := Int.tmod_lt_of_pos (Int.tdiv t 8) (b := 8) (by decide)
  obtain ⟨j, hj⟩ : ∃ j : Nat, Int.tmod (Int.tdiv t 8) 8 = j := ⟨(Int.tmod (Int.tdiv t 8) 8).toNat, by omega⟩
  have hw : wrap64 (Int.tdiv t 8) = Int.tdiv t 8 := w64 d0 (by omega)
  have hlen : (gapsB.length : Int) = 8 := rfl
  obtain ⟨gi1, gi2⟩ := gapsB_ok i (by omega)
  obtain ⟨gj1, gj2⟩ := gapsB_ok j (by omega)
  unfold R5_Gap.f
  rw [ht, Option.bind_some, Option.bind_some, hw, hi, hj]
  rw [if_pos (by omega), if_pos (show (i : Int) < (gapsB.length : Int) by omega)]
  by_cases h3 : Int.tmod t 3 = 0
  · rw [if_pos h3, if_pos (by omega), if_pos (show (j : Int) < (gapsB.length : Int) by omega), if_pos (show (rdOf ByteArray.empty gapsB (i : Int)).size + (rdOf ByteArray.empty gapsB (j : Int)).size ≤ 9223372036854775807 by omega)]
    exact pick_tells (rdOf ByteArray.empty gapsB (i : Int) ++ rdOf ByteArray.empty gapsB (j : Int)) a1 14 (by decide) (by rw [ByteArray.size_append]; omega) (gap_append gi2 gj2)
  · rw [if_neg h3]
    obtain ⟨r, h1, h2, h3, h4⟩ := pick_tells (rdOf ByteArray.empty gapsB (i : Int)) a1 7 (by decide) gi1 gi2
    exact ⟨r, h1, by omega, h3, h4⟩
abbrev wordsB : List ByteArray := [(⟨#[102]⟩ : ByteArray), (⟨#[120, 49]⟩ : ByteArray), (⟨#[99, 97, 115, 101]⟩ : ByteArray), (⟨#[80, 111, 105, 110, 116]⟩ : ByteArray), (⟨#[97, 86, 101, 114, 121, 76, 111, 110, 103, 78, 97, 109, 101, 49, 50, 51]⟩ : ByteArray), (⟨#[105, 102]⟩ : ByteArray), (⟨#[90, 57]⟩ : ByteArray), (⟨#[110, 111, 116]⟩ : ByteArray)]
abbrev signsB : List ByteArray := [(⟨#[40]⟩ : ByteArray), (⟨#[41]⟩ : ByteArray), (⟨#[123]⟩ : ByteArray), (⟨#[125]⟩ : ByteArray), (⟨#[91]⟩ : ByteArray), (⟨#[93]⟩ : ByteArray), (⟨#[44]⟩ : ByteArray), (⟨#[58]⟩ : ByteArray), (⟨#[46]⟩ : ByteArray), (⟨#[61]⟩ : ByteArray), (⟨#[61, 61]⟩ : ByteArray), (⟨#[45, 62]⟩ : ByteArray), (⟨#[43]⟩ : ByteArray), (⟨#[45]⟩ : ByteArray), (⟨#[42]⟩ : ByteArray), (⟨#[47]⟩ : ByteArray), (⟨#[37]⟩ : ByteArray), (⟨#[60]⟩ : ByteArray)]
abbrev numsB : List ByteArray := [(⟨#[48]⟩ : ByteArray), (⟨#[55]⟩ : ByteArray), (⟨#[52, 50]⟩ : ByteArray), (⟨#[49, 50, 51, 52, 53, 54, 55, 56, 57, 48, 49, 50, 51, 52, 53, 54]⟩ : ByteArray)]
def IsPiece (x : ByteArray) : Prop := x.data.toList ∈ (wordsB ++ numsB ++ signsB).map fun y => y.data.toList
theorem rdOf_mem {l : List ByteArray} (i : Nat) (h : i < l.length) : rdOf ByteArray.empty l (i : Int) ∈ l := by
  have : rdOf ByteArray.empty l (i : Int) = l[i] := by simp [rdOf, List.getElem?_eq_getElem h]
  rw [this]; exact List.getElem_mem h
theorem piece_tells (a0 : Int) (h : I64 a0) : ∃ r, IsPiece r ∧ ∀ k, 0 < k → R5_Piece.f k a0 = some r := by
  obtain ⟨t, ht, h0, h1⟩ := around_tells a0 1000000 h (by decide)
  have d0 : 0 ≤ Int.tdiv t 5 := Int.tdiv_nonneg h0 (by decide)
  have d1 : Int.tdiv t 5 ≤ t := Int.tdiv_le_self 5 h0
  have hw : wrap64 (Int.tdiv t 5) = Int.tdiv t 5 := w64 d0 (by omega)
  have pick : ∀ (l : List ByteArray) (m : Int), (l.length : Int) = m → 0 < m → (∀ x ∈ l, IsPiece x) → ∃ r, IsPiece r ∧ (if 0 ≤ Int.tmod (Int.tdiv t 5) m then (if Int.tmod (Int.tdiv t 5) m < (l.length : Int) then some (rdOf ByteArray.empty l (Int.tmod (Int.tdiv t 5) m)) else none) else none) = some r := by
    intro l m hm hp hl
    have j0 := Int.tmod_nonneg m d0
    have j1 := Int.tmod_lt_of_pos (Int.tdiv t 5) hp
    obtain ⟨j, hj⟩ : ∃ j : Nat, Int.tmod (Int.tdiv t 5) m = j := ⟨(Int.tmod (Int.tdiv t 5) m).toNat, by omega⟩
    rw [hj, if_pos (by omega), if_pos (by omega)]
    exact ⟨_, hl _ (rdOf_mem j (by omega)), rfl⟩
  have mw : ∀ x ∈ wordsB, IsPiece x := fun x hx => List.mem_map_of_mem (List.mem_append.2 (.inl (List.mem_append.2 (.inl hx))))
  have mn : ∀ x ∈ numsB, IsPiece x := fun x hx => List.mem_map_of_mem (List.mem_append.2 (.inl (List.mem_append.2 (.inr hx))))
  have ms : ∀ x ∈ signsB, IsPiece x := fun x hx => List.mem_map_of_mem (List.mem_append.2 (.inr hx))
  have all : ∀ (q : Int) (b : Bool), ∃ r, IsPiece r ∧ ∀ k, R5_Piece.j0 (k + 1) t wordsB signsB q b = some r := by
    intro q b
    obtain ⟨r1, p1, e1⟩ := pick wordsB 8 rfl (by decide) mw
    obtain ⟨r2, p2, e2⟩ := pick numsB 4 rfl (by decide) mn
    obtain ⟨r3, p3, e3⟩ := pick signsB 18 rfl (by decide) ms
    by_cases hb : b = true
    · refine ⟨r1, p1, fun k => ?_⟩
      simp only [R5_Piece.j0]
      rw [if_pos hb, hw, if_neg (show ¬ (wordsB.length : Int) = 0 by decide)]
      exact e1
    · by_cases hq : q = 2
      · refine ⟨r2, p2, fun k => ?_⟩
        simp only [R5_Piece.j0]
        rw [if_neg hb, if_pos hq, hw]
        exact e2
      · refine ⟨r3, p3, fun k => ?_⟩
        simp only [R5_Piece.j0]
        rw [if_neg hb, if_neg hq, hw, if_neg (show ¬ (signsB.length : Int) = 0 by decide)]
        exact e3
  by_cases h5 : Int.tmod t 5 = 0
  · obtain ⟨r, hp, hr⟩ := all (Int.tmod t 5) (Int.tmod t 5 == 0)
    refine ⟨r, hp, fun k hk => ?_⟩
    obtain ⟨k, rfl⟩ : ∃ m, k = m + 1 := ⟨k - 1, by omega⟩
    unfold R5_Piece.f
    rw [ht, Option.bind_some, Option.bind_some, Option.bind_some, if_pos h5]
    exact hr k
  · obtain ⟨r, hp, hr⟩ := all (Int.tmod t 5) (Int.tmod t 5 == 1)
    refine ⟨r, hp, fun k hk => ?_⟩
    obtain ⟨k, rfl⟩ : ∃ m, k = m + 1 := ⟨k - 1, by omega⟩
    unfold R5_Piece.f
    rw [ht, Option.bind_some, Option.bind_some, Option.bind_some, if_neg h5]
    exact hr k
theorem piece_size {x : ByteArray} (h : IsPiece x) : x.size ≤ 16 := by
  rw [← data_length]
  have all : ∀ y ∈ (wordsB ++ numsB ++ signsB).map fun y => y.data.toList, y.length ≤ 16 := by decide
  exact all _ h
/-! ### Sample -/
abbrev tailsB : List ByteArray := [(⟨#[63]⟩ : ByteArray), (⟨#[62]⟩ : ByteArray), (⟨#[9]⟩ : ByteArray), (⟨#[195, 169]⟩ : ByteArray), (⟨#[95]⟩ : ByteArray), (⟨#[33]⟩ : ByteArray), (⟨#[97, 97, 97, 97, 97, 97, 97, 97, 97, 97, 97, 97, 97, 97, 97, 97, 97]⟩ : ByteArray), (⟨#[49, 50, 51, 52, 53, 54, 55, 56, 57, 48, 49, 50, 51, 52, 53, 54, 55]⟩ : ByteArray)]
theorem tails_size (t : Int) (h0 : 0 ≤ t) (h1 : t < 8) : (rdOf ByteArray.empty tailsB t).size ≤ 17 := by
  obtain ⟨i, rfl⟩ : ∃ i : Nat, t = i := ⟨t.toNat, by omega⟩
  have := rdOf_mem (l := tailsB) i (by show i < 8; omega)
  exact (show ∀ y ∈ tailsB, y.size ≤ 17 by decide) _ this
theorem sample_end (l : List Int) (hl : ∀ x ∈ l, I64 x) (k : Nat) (s : ByteArray) (i : Int) (hs : s.size ≤ 4000) : ∃ r, r.size ≤ s.size + 6 ∧ ∀ k, R5_Sample.j1 (k + 1) l s i false = some r := by
  obtain ⟨t, ht, _, _⟩ := at_tells l 0 4 hl (by decide)
  by_cases h : t = 1
  · refine ⟨s ++ (⟨#[32, 35, 32, 101, 110, 100]⟩ : ByteArray), by rw [ByteArray.size_append]; exact Nat.le_refl _, fun k => ?_⟩
    simp only [R5_Sample.j1]
    rw [if_neg (by decide), ht, Option.bind_some, if_pos h, if_pos (by omega)]
  · refine ⟨s, by omega, fun k => ?_⟩
    simp only [R5_Sample.j1]
    rw [if_neg (by decide), ht, Option.bind_some, if_neg h]
theorem sample_loop (l : List Int) (hl : ∀ x ∈ l, I64 x) (hlen : l.length ≤ 9223372036854775000) : ∀ (d m : Nat) (s : ByteArray), m + d = 30 → s.size ≤ 47 * m → ∃ r, r.size ≤ 1500 ∧ ∀ k, 2 * d + 2 < k → R5_Sample.l0 k l s ((2 * m : Nat) : Int) = some r := by
  intro d
  induction d with
  | zero =>
    intro m s hm hs
    obtain ⟨r, h1, h2⟩ := sample_end l hl 0 s ((2 * m : Nat) : Int) (by omega)
    refine ⟨r, by omega, fun k hk => ?_⟩
    obtain ⟨k, rfl⟩ : ∃ q, k = q + 2 := ⟨k - 2, by omega⟩
    have hd : decide (((2 * m : Nat) : Int) < 60) = false := decide_eq_false (by omega)
    simp only [R5_Sample.l0, hd]
    split <;> exact h2 k
  | succ d ih =>
    intro m s hm hs
    have hw1 : wrap64 (((2 * m : Nat) : Int) + 1) = ((2 * m : Nat) : Int) + 1 := w64 (by omega) (by omega)
    have hw2 : wrap64 (((2 * m : Nat) : Int) + 2) = ((2 * (m + 1) : Nat) : Int) := by rw [w64 (by omega) (by omega)]; omega
    by_cases hb : ((2 * m : Nat) : Int) + 1 < (l.length : Int)
    · obtain ⟨g, hg, g1, _⟩ := gap_tells (rd l (((2 * m : Nat) : Int) + 1)) 0 (rd_wf hl _)
      obtain ⟨p, p1, hp⟩ := piece_tells (rd l ((2 * m : Nat) : Int)) (rd_wf hl _)
      obtain ⟨a, ha, a0, a1⟩ := around_tells (rd l ((2 * m : Nat) : Int)) 97 (rd_wf hl _) (by decide)
      obtain ⟨b, hbb, b0, b1⟩ := around_tells (rd l (((2 * m : Nat) : Int) + 1)) 8 (rd_wf hl _) (by decide)
      have p2 := piece_size p1
      have t2 := tails_size b b0 b1
      have hd : decide (((2 * m : Nat) : Int) < 60) = true := decide_eq_true (by omega)
      have z1 : (s ++ g).size = s.size + g.size := ByteArray.size_append
      have z2 : (s ++ g ++ p).size = s.size + g.size + p.size := by rw [ByteArray.size_append, z1]
      have z3 : (s ++ g ++ p ++ rdOf ByteArray.empty tailsB b).size = s.size + g.size + p.size + (rdOf ByteArray.empty tailsB b).size := by rw [ByteArray.size_append, z2]
      by_cases h3 : a = 3
      · obtain ⟨r, r1, r2⟩ := ih (m + 1) (s ++ g ++ p ++ rdOf ByteArray.empty tailsB b) (by omega) (by rw [z3]; omega)
        refine ⟨r, r1, fun k hk => ?_⟩
        obtain ⟨k, rfl⟩ : ∃ q, k = q + 2 := ⟨k - 2, by omega⟩
        simp only [R5_Sample.l0, hd]
        rw [hw1, if_pos hb]
        simp only [R5_Sample.j1]
        rw [if_pos trivial, hw1, hw2, if_pos (by omega), if_pos hb, hg, Option.bind_some, if_pos (by omega), if_pos (by omega), if_pos (by omega), hp k (by omega), Option.bind_some, if_pos (by omega), ha, Option.bind_some, if_pos h3, Option.bind_some, hbb, Option.bind_some, if_pos b0, if_pos (show b < (tailsB.length : Int) from b1)]
        rw [if_pos (show (s ++ g ++ p).size + (rdOf ByteArray.empty tailsB b).size ≤ 9223372036854775807 by omega)]
        exact r2 k (by omega)
      · obtain ⟨r, r1, r2⟩ := ih (m + 1) (s ++ g ++ p) (by omega) (by rw [z2]; omega)
        refine ⟨r, r1, fun k hk => ?_⟩
        obtain ⟨k, rfl⟩ : ∃ q, k = q + 2 := ⟨k - 2, by omega⟩
        simp only [R5_Sample.l0, hd]
        rw [hw1, if_pos hb]
        simp only [R5_Sample.j1]
        rw [if_pos trivial, hw1, hw2, if_pos (by omega), if_pos hb, hg, Option.bind_some, if_pos (by omega), if_pos (by omega), if_pos (by omega), hp k (by omega), Option.bind_some, if_pos (by omega), ha, Option.bind_some, if_neg h3]
        exact r2 k (by omega)
    · obtain ⟨r, h1, h2⟩ := sample_end l hl 0 s ((2 * m : Nat) : Int) (by omega)
      refine ⟨r, by omega, fun k hk => ?_⟩
      obtain ⟨k, rfl⟩ : ∃ q, k = q + 2 := ⟨k - 2, by omega⟩
      simp only [R5_Sample.l0]
      rw [hw1, if_neg hb]
      exact h2 k
theorem sample_tells (l : List Int) (hl : ∀ x ∈ l, I64 x) (hlen : l.length ≤ 9223372036854775000) : ∃ r, r.size ≤ 1500 ∧ ∀ k, 62 < k → R5_Sample.f k l = some r := by
  obtain ⟨r, h1, h2⟩ := sample_loop l hl hlen 30 0 (⟨#[]⟩ : ByteArray) (by omega) (by decide)
  exact ⟨r, h1, fun k hk => h2 k (by omega)⟩
end Go.Proofs.YteafkdcppbemdaaDoor.Q
