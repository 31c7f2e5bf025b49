import Derived.Test.YteafkdcppbemdaaDoorPlainD
import Derived.Test.YteafkdcppbemdaaDoorPlainFZ
import Derived.Test.YteafkdcppbemdaaDoorPlainE
import Derived.Test.YteafkdcppbemdaaDoorQ12
namespace Go.Proofs.YteafkdcppbemdaaDoor.Q
open Go.RowKit Go.Proofs.YteafkdcppbemdaaDoorW.PrintWords Go.Proofs.YteafkdcppbemdaaDoorW.PrintLast Go.Proofs.YteafkdcppbemdaaDoorW.PrintMore
set_option linter.unusedVariables false
set_option linter.unusedSimpArgs false

/-! ### Pieces -/
theorem pieces_loop (l : List Int) (hl : ∀ x ∈ l, I64 x) (hlen : l.length ≤ 9223372036854775000) : ∀ (d i : Nat) (acc : List ByteArray), i + d = 30 → acc.length = i → (∀ x ∈ acc, IsPiece x) → ∃ ws : List ByteArray, ws.length ≤ 30 ∧ (∀ x ∈ ws, IsPiece x) ∧ Ev (fun k => R5_Pieces.l0 k l acc (i : Int)) ws := by
  intro d
  induction d with
  | zero =>
    intro i acc hi ha hp
    refine ⟨acc, by omega, hp, Ev.step (f := fun _ => some _) (fun k => ?_) (Ev.now _)⟩
    simp only [R5_Pieces.l0]
    rw [if_neg (show ¬ (i : Int) < 30 by omega)]
    split <;> rfl
  | succ d ih =>
    intro i acc hi ha hp
    by_cases hlt : (i : Int) < (l.length : Int)
    · obtain ⟨p, p1, hf⟩ := piece_tells (rd l (i : Int)) (rd_wf hl _)
      have hw : wrap64 ((i : Int) + 1) = ((i + 1 : Nat) : Int) := by rw [w64 (by omega) (by omega)]; omega
      obtain ⟨ws, h1, h2, h3⟩ := ih (i + 1) (acc ++ [p]) (by omega) (by simp [ha]) (fun x hx => by
        rcases List.mem_append.1 hx with hx | hx
        · exact hp x hx
        · obtain rfl := List.mem_singleton.1 hx; exact p1)
      have hE : Ev (fun k => R5_Piece.f k (rd l (i : Int))) p := ⟨1, fun k hk => hf k (by omega)⟩
      refine ⟨ws, h1, h2, Ev.step (f := fun k => (R5_Piece.f k (rd l (i : Int))).bind fun t300 => (if acc.length < 8796093022208 then (R5_Pieces.l0 k l (acc ++ [t300]) (wrap64 ((i : Int) + 1))) else (none))) (fun k => ?_) (Ev.bind hE (Ev.congr (fun k => ?_) h3))⟩
      · simp only [R5_Pieces.l0]
        rw [if_pos hlt, if_pos (by omega), if_pos (by omega)]
      · rw [if_pos (by omega), hw]
    · refine ⟨acc, by omega, hp, Ev.step (f := fun _ => some _) (fun k => ?_) (Ev.now _)⟩
      simp only [R5_Pieces.l0]
      rw [if_neg hlt]
theorem pieces_ev (l : List Int) (hl : ∀ x ∈ l, I64 x) (hlen : l.length ≤ 9223372036854775000) : ∃ ws : List ByteArray, ws.length ≤ 30 ∧ (∀ x ∈ ws, IsPiece x) ∧ Ev (fun k => R5_Pieces.f k l) ws := by
  obtain ⟨ws, h1, h2, h3⟩ := pieces_loop l hl hlen 30 0 [] (by omega) rfl (fun x hx => by cases hx)
  exact ⟨ws, h1, h2, h3⟩
/-! ### The usual layout -/
def tightZ (a b : List UInt8) : Bool := decide (b = [41]) || decide (b = [93]) || decide (b = [44]) || decide (b = [46]) || decide (a = [40]) || decide (a = [91]) || decide (a = [46])
theorem tight_tells (a b : ByteArray) : lex_tight.f a b = some (tightZ a.data.toList b.data.toList) := by
  unfold lex_tight.f tightZ
  rw [ByteArray.toList_eq, ByteArray.toList_eq]
  generalize a.data.toList = x
  generalize b.data.toList = y
  by_cases h1 : y = [41]
  · simp [h1]
  · rw [if_neg h1]
    by_cases h2 : y = [93]
    · simp [h2]
    · rw [if_neg h2]
      by_cases h3 : y = [44]
      · simp [h3]
      · rw [if_neg h3]
        by_cases h4 : y = [46]
        · simp [h4]
        · rw [if_neg h4]
          by_cases h5 : x = [40]
          · simp [h5]
          · rw [if_neg h5]
            by_cases h6 : x = [91]
            · simp [h6]
            · rw [if_neg h6]
              by_cases h7 : x = [46] <;> simp [h1, h2, h3, h4, h5, h6, h7]
def wAt (ws : List ByteArray) (i : Nat) : ByteArray := ws.getD i (bs [])
theorem rdOf_wAt (ws : List ByteArray) (i : Nat) : rdOf ByteArray.empty ws (i : Int) = wAt ws i := rfl
def gapAt (ws : List ByteArray) (i : Nat) : ByteArray := if i = 0 ∨ ws.length ≤ i then bs [] else if tightZ (wAt ws (i - 1)).data.toList (wAt ws i).data.toList then bs [] else bs [32]
def usualB (ws : List ByteArray) : List ByteArray := (List.range (ws.length + 1)).map (gapAt ws)
theorem usualB_length (ws : List ByteArray) : (usualB ws).length = ws.length + 1 := by simp [usualB]
theorem usualB_at (ws : List ByteArray) (i : Nat) (h : i ≤ ws.length) : rdOf ByteArray.empty (usualB ws) (i : Int) = gapAt ws i := by
  simp [rdOf, usualB, List.getElem?_range (show i < ws.length + 1 by omega)]
theorem usual_loop (ws : List ByteArray) (hl : ws.length ≤ 9223372036854775000) : ∀ (d i : Nat) (acc : List ByteArray), i + d = max 1 ws.length → 1 ≤ i → acc = (List.range (ws.length + 1)).map (fun j => if j < i then gapAt ws j else bs []) → Ev (fun k => lex_Usual.l0 k ws acc (i : Int)) (usualB ws) := by
  intro d
  induction d with
  | zero =>
    intro i acc hi h1 ha
    refine Ev.step (f := fun _ => some _) (fun k => ?_) (Ev.now _)
    simp only [lex_Usual.l0]
    rw [if_neg (by omega), ha]
    congr 1
    refine List.map_congr_left fun j hj => ?_
    have := List.mem_range.1 hj
    by_cases hji : j < i
    · rw [if_pos hji]
    · rw [if_neg hji]; unfold gapAt; rw [if_pos (.inr (by omega))]
  | succ d ih =>
    intro i acc hi h1 ha
    have hw : wrap64 ((i : Int) + 1) = ((i + 1 : Nat) : Int) := by rw [w64 (by omega) (by omega)]; omega
    have hw1 : wrap64 ((i : Int) - 1) = ((i - 1 : Nat) : Int) := by rw [w64 (by omega) (by omega)]; omega
    have hlt : i < ws.length := by omega
    have hal : acc.length = ws.length + 1 := by rw [ha]; simp
    have hg : gapAt ws i = if tightZ (wAt ws (i - 1)).data.toList (wAt ws i).data.toList then bs [] else bs [32] := by unfold gapAt; rw [if_neg (by omega)]
    by_cases ht : tightZ (wAt ws (i - 1)).data.toList (wAt ws i).data.toList = true
    · refine Ev.step (fun k => ?_) (ih (i + 1) acc (by omega) (by omega) ?_)
      · simp only [lex_Usual.l0]
        rw [if_pos (by omega), hw1, if_pos (by omega), if_pos (by omega), if_pos (by omega), rdOf_wAt, rdOf_wAt, tight_tells, Option.bind_some, if_pos ht, hw]
      · rw [ha]
        refine List.map_congr_left fun j hj => ?_
        by_cases hji : j < i
        · rw [if_pos hji, if_pos (by omega)]
        · rw [if_neg hji]
          by_cases he : j = i
          · subst he; rw [if_pos (by omega), hg, if_pos ht]
          · rw [if_neg (by omega)]
    · refine Ev.step (fun k => ?_) (ih (i + 1) (acc.set i (bs [32])) (by omega) (by omega) ?_)
      · simp only [lex_Usual.l0]
        rw [if_pos (by omega), hw1, if_pos (by omega), if_pos (by omega), if_pos (by omega), rdOf_wAt, rdOf_wAt, tight_tells, Option.bind_some, if_neg ht, if_pos (by omega), hw, Int.toNat_natCast]
        rfl
      · subst ha
        apply List.ext_getElem (by simp)
        intro j h1 h2
        simp only [List.getElem_set, List.getElem_map, List.getElem_range]
        by_cases he : i = j
        · subst he
          rw [if_pos rfl, if_pos (by omega), hg, if_neg ht]
        · rw [if_neg he]
          by_cases hx : j < i
          · rw [if_pos hx, if_pos (by omega)]
          · rw [if_neg hx, if_neg (by omega)]
theorem usual_ev (ws : List ByteArray) (hl : ws.length ≤ 17592186044415) : Ev (fun k => lex_Usual.f k ws) (usualB ws) := by
  have h := usual_loop ws (by omega) (max 1 ws.length - 1) 1 (List.replicate (ws.length + 1) (bs [])) (by omega) (by omega) (by
    apply List.ext_getElem (by simp)
    intro i h1 h2
    simp only [List.getElem_replicate, List.getElem_map, List.getElem_range]
    by_cases hi : i < 1
    · rw [if_pos hi]; unfold gapAt; rw [if_pos (.inl (by omega))]
    · rw [if_neg hi])
  refine Ev.congr (fun k => ?_) h
  unfold lex_Usual.f
  have hw : wrap64 ((ws.length : Int) + 1) = ((ws.length + 1 : Nat) : Int) := by rw [w64 (by omega) (by omega)]; omega
  rw [hw, if_pos (by omega), Int.toNat_natCast, if_pos (by omega)]
  rfl
end Go.Proofs.YteafkdcppbemdaaDoor.Q
