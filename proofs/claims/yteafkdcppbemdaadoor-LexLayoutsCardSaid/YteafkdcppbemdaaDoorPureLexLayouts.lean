import Derived.Test.YteafkdcppbemdaaDoorPlainH
import Derived.Test.YteafkdcppbemdaaDoorQ13
namespace Go.Proofs.YteafkdcppbemdaaDoor.Q
open Go.RowKit Go.Proofs.YteafkdcppbemdaaDoorW.PrintWords Go.Proofs.YteafkdcppbemdaaDoorW.PrintLast Go.Proofs.YteafkdcppbemdaaDoorW.PrintMore
set_option linter.unusedVariables false
set_option linter.unusedSimpArgs false
set_option linter.unusedSectionVars false

def gapOf (x1 : List Int) (i : Nat) : ByteArray := ((spliceryref01_At.f x1 (i : Int) 4000).bind fun t => spliceryref05_Gap.f t (i : Int)).getD (bs [])
theorem gapOf_tells (x1 : List Int) (hl : ∀ x ∈ x1, I64 x) (i : Nat) : ∃ t, spliceryref01_At.f x1 (i : Int) 4000 = some t ∧ spliceryref05_Gap.f t (i : Int) = some (gapOf x1 i) ∧ (gapOf x1 i).size ≤ 14 ∧ GapOk (gapOf x1 i) ∧ (i ≠ 0 → (gapOf x1 i).data.toList ≠ []) := by
  obtain ⟨t, ht, t0, t1⟩ := at_tells x1 (i : Int) 4000 hl (by decide)
  obtain ⟨r, hr, h1, h2, h3⟩ := gap_tells t (i : Int) ⟨by omega, by omega⟩
  have e : gapOf x1 i = r := by unfold gapOf; rw [ht, Option.bind_some, hr]; rfl
  rw [e]
  exact ⟨t, ht, hr, h1, h2, fun hi => h3 (by omega)⟩
def gTk (ws : List ByteArray) (x1 : List Int) (i : Nat) : Tk := ⟨(wAt ws i).data.toList, (gapOf x1 i).data.toList⟩
def uTk (ws : List ByteArray) (i : Nat) : Tk := ⟨(wAt ws i).data.toList, (gapAt ws i).data.toList⟩
theorem cv_gTk (ws x1 i) : cv (gTk ws x1 i) = ⟨wAt ws i, gapOf x1 i⟩ := by simp only [cv, gTk, bs_of]
theorem cv_uTk (ws i) : cv (uTk ws i) = ⟨wAt ws i, gapAt ws i⟩ := by simp only [cv, uTk, bs_of]
theorem piece_look : ∀ y ∈ (wordsB ++ numsB ++ signsB).map (fun y => y.data.toList), y ≠ [] ∧ lookB y none = true := by decide +kernel
theorem tight_look : ∀ a ∈ (wordsB ++ numsB ++ signsB).map (fun y => y.data.toList), ∀ b ∈ (wordsB ++ numsB ++ signsB).map (fun y => y.data.toList), tightZ a b = true → lookB a b.head? = true := by decide +kernel
theorem wAt_piece {ws : List ByteArray} (h : ∀ x ∈ ws, IsPiece x) {i : Nat} (hi : i < ws.length) : IsPiece (wAt ws i) := by
  unfold wAt; rw [List.getD_eq_getElem?_getD, List.getElem?_eq_getElem hi]; exact h _ (List.getElem_mem hi)
/-- Tokens by their places fit together, if each two that are neighbours do. -/
theorem fit_range (tk : Nat → Tk) (e : List UInt8) (n : Nat) (he : ∃ c, blankSt false e = some c)
    (h1 : ∀ i, i < n → blankSt false (tk i).before = some false ∧ (tk i).text ≠ [] ∧ lookB (tk i).text none = true)
    (h2 : ∀ i, i + 1 < n → lookB (tk i).text ((tk (i + 1)).before ++ (tk (i + 1)).text).head? = true) :
    ∀ (d i : Nat), i + d = n → Fit ((List.range' i d).map tk) e
  | 0, i, hi => by simpa [Fit] using he
  | d + 1, i, hi => by
    rw [List.range'_succ, List.map_cons]
    obtain ⟨a, b, c⟩ := h1 i (by omega)
    refine ⟨a, b, ?_, fit_range tk e n he h1 h2 d (i + 1) (by omega)⟩
    cases d with
    | zero =>
      cases e with
      | nil => exact c
      | cons x e => exact look_sep (head_blank he) c
    | succ d =>
      rw [List.range'_succ, List.map_cons]
      have h3 := h2 i (by omega)
      obtain ⟨_, b', _⟩ := h1 (i + 1) (by omega)
      have e1 : textT (tk (i + 1) :: (List.range' (i + 1 + 1) d).map tk) ++ e = ((tk (i + 1)).before ++ (tk (i + 1)).text) ++ (textT ((List.range' (i + 1 + 1) d).map tk) ++ e) := by simp [textT]
      rw [e1]
      have : (tk (i + 1)).before ++ (tk (i + 1)).text ≠ [] := by simp [b']
      generalize (tk (i + 1)).before ++ (tk (i + 1)).text = z at h3 this
      cases z with
      | nil => exact absurd rfl this
      | cons x z => exact h3
def layTwo (U : List Tk) (k : Nat) (t341 : Bool) : Option Bool := (if t341 = true then ((splicerylaw05_plain.f k (U.map cv)).bind fun t342 => ((splicerylaw05_plain.f k (U.map cv)).bind fun t345 => ((spliceryref05_Same.f k t342 t345).bind fun t348 => (if t348 = true then ((splicerylaw05_lives.f k).bind fun t349 => (some t349)) else (some false))))) else (some false))
def layTail (G U : List Tk) (e : ByteArray) (k : Nat) (r r' : List S38 × ByteArray × Int) : Option Bool := (if r.2.2 = (-1) then (if r.2.1.toList = e.toList then ((splicerylaw05_plain.f k r.1).bind fun t335 => ((splicerylaw05_plain.f k (G.map cv)).bind fun t338 => ((spliceryref05_Same.f k t335 t338).bind fun t341 => (if t341 = true then (if r'.2.2 = (-1) then (if r'.2.1.toList = ([] : List UInt8) then ((splicerylaw05_plain.f k r'.1).bind fun t342 => ((splicerylaw05_plain.f k (U.map cv)).bind fun t345 => ((spliceryref05_Same.f k t342 t345).bind fun t348 => (if t348 = true then ((splicerylaw05_lives.f k).bind fun t349 => (some t349)) else (some false))))) else (some false)) else (some false)) else (some false))))) else (some false)) else (some false))
section
variable (x1 : List Int) (hx : ∀ x ∈ x1, I64 x) (x2 : Int) (h2 : I64 x2) (ws : List ByteArray) (hn : ws.length ≤ 30) (hp : ∀ x ∈ ws, IsPiece x)
include hx h2 hn hp
theorem fit_gaps (e : List UInt8) (he : ∃ c, blankSt false e = some c) : Fit ((List.range ws.length).map (gTk ws x1)) e := by
  rw [List.range_eq_range']
  refine fit_range (gTk ws x1) e ws.length he (fun i hi => ?_) (fun i hi => ?_) ws.length 0 (by omega)
  · obtain ⟨_, _, _, _, g, _⟩ := gapOf_tells x1 hx i
    obtain ⟨a, b⟩ := piece_look _ (wAt_piece hp hi)
    exact ⟨g, a, b⟩
  · obtain ⟨_, _, _, _, g, gn⟩ := gapOf_tells x1 hx (i + 1)
    obtain ⟨a, b⟩ := piece_look _ (wAt_piece hp (show i < ws.length by omega))
    have gn' := gn (by omega)
    show lookB (wAt ws i).data.toList ((gapOf x1 (i + 1)).data.toList ++ _).head? = true
    unfold GapOk at g
    generalize (gapOf x1 (i + 1)).data.toList = z at g gn'
    cases z with
    | nil => exact absurd rfl gn'
    | cons c z => exact look_sep (head_blank ⟨_, g⟩) b
theorem gapAt_ok (i : Nat) : blankSt false (gapAt ws i).data.toList = some false ∧ (gapAt ws i).size ≤ 1 := by
  unfold gapAt
  split
  · exact ⟨rfl, by decide⟩
  · split
    · exact ⟨rfl, by decide⟩
    · exact ⟨rfl, by decide⟩
theorem fit_usual : Fit ((List.range ws.length).map (uTk ws)) [] := by
  rw [List.range_eq_range']
  refine fit_range (uTk ws) [] ws.length ⟨false, rfl⟩ (fun i hi => ?_) (fun i hi => ?_) ws.length 0 (by omega)
  · obtain ⟨a, b⟩ := piece_look _ (wAt_piece hp hi)
    exact ⟨(gapAt_ok x1 hx x2 h2 ws hn hp i).1, a, b⟩
  · obtain ⟨a, b⟩ := piece_look _ (wAt_piece hp (show i < ws.length by omega))
    obtain ⟨a', b'⟩ := piece_look _ (wAt_piece hp hi)
    show lookB (wAt ws i).data.toList ((gapAt ws (i + 1)).data.toList ++ (wAt ws (i + 1)).data.toList).head? = true
    unfold gapAt
    rw [if_neg (by omega), Nat.add_sub_cancel]
    by_cases ht : tightZ (wAt ws i).data.toList (wAt ws (i + 1)).data.toList = true
    · rw [if_pos ht, bs_data, List.nil_append]
      exact tight_look _ (wAt_piece hp (show i < ws.length by omega)) _ (wAt_piece hp hi) ht
    · rw [if_neg ht, bs_data]
      exact look_sep (h := 32) (sep_blank (fun z => z.1 rfl)) b
theorem lay_end : Ev (fun k => splicerylaw05_LexLayouts.l0 k x1 x2 ws (((List.range ws.length).map (gTk ws x1)).map cv) (((List.range ws.length).map (uTk ws)).map cv) (usualB ws) ((ws.length : Nat) : Int)) true := by
  obtain ⟨e, he, e1, e2, _⟩ := gap_tells x2 0 h2
  have lg : (textT ((List.range ws.length).map (gTk ws x1))).length ≤ 900 := by
    have := textT_len ((List.range ws.length).map (gTk ws x1)) (fun t ht => by
      obtain ⟨i, hi, rfl⟩ := List.mem_map.1 ht
      obtain ⟨_, _, _, g, _⟩ := gapOf_tells x1 hx i
      have := piece_size (wAt_piece hp (List.mem_range.1 hi))
      show (gapOf x1 i).data.toList.length + (wAt ws i).data.toList.length ≤ 30
      rw [data_length, data_length]; omega)
    simp only [List.length_map, List.length_range] at this; omega
  have lu : (textT ((List.range ws.length).map (uTk ws))).length ≤ 900 := by
    have := textT_len ((List.range ws.length).map (uTk ws)) (fun t ht => by
      obtain ⟨i, hi, rfl⟩ := List.mem_map.1 ht
      have g := (gapAt_ok x1 hx x2 h2 ws hn hp i).2
      have := piece_size (wAt_piece hp (List.mem_range.1 hi))
      show (gapAt ws i).data.toList.length + (wAt ws i).data.toList.length ≤ 30
      rw [data_length, data_length]; omega)
    simp only [List.length_map, List.length_range] at this; omega
  have hg := fit_gaps x1 hx x2 h2 ws hn hp e.data.toList ⟨false, e2⟩
  have hu := fit_usual x1 hx x2 h2 ws hn hp
  generalize hG : (List.range ws.length).map (gTk ws x1) = G at *
  generalize hU : (List.range ws.length).map (uTk ws) = U at *
  have gl : G.length = ws.length := by rw [← hG]; simp
  have ul : U.length = ws.length := by rw [← hU]; simp
  have el : e.data.toList.length ≤ 14 := by rw [data_length]; exact e1
  have t1 : lex_Text.f (G.map cv) e = some (bs (textT G ++ e.data.toList)) := by
    have := text_ok (ts := G) (e := e.data.toList) rfl (by rw [List.length_append]; omega)
    rwa [bs_of] at this
  have t2 : lex_Text.f (U.map cv) (bs []) = some (bs (textT U ++ [])) := text_ok (ts := U) (e := []) rfl (by rw [List.append_nil]; omega)
  have s1 : Ev (fun k => lex_Scan.f k (bs (textT G ++ e.data.toList))) (G.map cv, bs e.data.toList, -1) := ⟨8194, fun k hk => scan_ok (by rw [size_mk, List.length_append]; omega) (by rw [bs_data]; exact reads_fit _ _ hg) k (by omega)⟩
  have s2 : Ev (fun k => lex_Scan.f k (bs (textT U ++ []))) (U.map cv, bs [], -1) := ⟨8194, fun k hk => scan_ok (by rw [size_mk, List.append_nil]; omega) (by rw [bs_data]; exact reads_fit _ _ hu) k (by omega)⟩
  have p1 := plain_cv G (by omega)
  have p2 := plain_cv U (by omega)
  have q1 := same_self (G.map cv') (by rw [List.length_map]; omega)
  have q2 := same_self (U.map cv') (by rw [List.length_map]; omega)
  have hub : rdOf ByteArray.empty (usualB ws) ((ws.length : Nat) : Int) = bs [] := by rw [usualB_at ws _ (Nat.le_refl _)]; unfold gapAt; rw [if_pos (.inr (Nat.le_refl _))]
  rw [bs_of] at s1
  refine Ev.step (f := fun k => (lex_Scan.f k (bs (textT G ++ e.data.toList))).bind fun r => (lex_Scan.f k (bs (textT U ++ []))).bind fun r' => layTail G U e k r r') (fun k => ?_)
    (Ev.bind (f := fun k r => (lex_Scan.f k (bs (textT U ++ []))).bind fun r' => layTail G U e k r r') s1 (Ev.bind (f := fun k r' => layTail G U e k (G.map cv, e, -1) r') s2 ?_))
  · simp only [splicerylaw05_LexLayouts.l0]
    have c1 : ((ws.length : Nat) : Int) < ((usualB ws).length : Int) := by rw [usualB_length]; omega
    have c0 : (0 : Int) ≤ ((ws.length : Nat) : Int) := by omega
    rw [if_neg (by omega), he, Option.bind_some, t1, Option.bind_some]
    simp only [if_pos c0, if_pos c1, hub, t2, Option.bind_some]
    rfl
  · refine Ev.congr (f := fun k => (splicerylaw05_plain.f k (G.map cv)).bind fun t335 => (splicerylaw05_plain.f k (G.map cv)).bind fun t338 => (spliceryref05_Same.f k t335 t338).bind fun t341 => layTwo U k t341) (fun k => ?_)
      (Ev.bind (f := fun k t335 => (splicerylaw05_plain.f k (G.map cv)).bind fun t338 => (spliceryref05_Same.f k t335 t338).bind fun t341 => layTwo U k t341) p1 (Ev.bind (f := fun k t338 => (spliceryref05_Same.f k (G.map cv') t338).bind fun t341 => layTwo U k t341) p1 (Ev.bind (f := fun k t341 => layTwo U k t341) q1 ?_)))
    · unfold layTail
      dsimp only
      rw [if_pos rfl, if_pos rfl]
      have c5 : (bs []).toList = [] := toList_bs []
      simp only [layTwo, c5, eq_self, if_true]
    · refine Ev.congr (f := fun k => (splicerylaw05_plain.f k (U.map cv)).bind fun t335 => (splicerylaw05_plain.f k (U.map cv)).bind fun t338 => (spliceryref05_Same.f k t335 t338).bind fun t341 => (if t341 = true then ((splicerylaw05_lives.f k).bind fun t349 => (some t349)) else (some false))) (fun k => ?_)
        (Ev.bind (f := fun k t335 => (splicerylaw05_plain.f k (U.map cv)).bind fun t338 => (spliceryref05_Same.f k t335 t338).bind fun t341 => (if t341 = true then ((splicerylaw05_lives.f k).bind fun t349 => (some t349)) else (some false))) p2 (Ev.bind (f := fun k t338 => (spliceryref05_Same.f k (U.map cv') t338).bind fun t341 => (if t341 = true then ((splicerylaw05_lives.f k).bind fun t349 => (some t349)) else (some false))) p2 (Ev.bind (f := fun k t341 => (if t341 = true then ((splicerylaw05_lives.f k).bind fun t349 => (some t349)) else (some false))) q2 ?_)))
      · unfold layTwo
        rw [if_pos rfl]
      · exact Ev.congr (fun k => if_pos rfl) (Ev.bind lives_ev (Ev.now true))
theorem lay_loop : ∀ (d i : Nat), i + d = ws.length → Ev (fun k => splicerylaw05_LexLayouts.l0 k x1 x2 ws (((List.range i).map (gTk ws x1)).map cv) (((List.range i).map (uTk ws)).map cv) (usualB ws) (i : Int)) true := by
  intro d
  induction d with
  | zero =>
    intro i hi
    obtain rfl : i = ws.length := by omega
    exact lay_end x1 hx x2 h2 ws hn hp
  | succ d ih =>
    intro i hi
    have hw : wrap64 ((i : Int) + 1) = ((i + 1 : Nat) : Int) := by rw [w64 (by omega) (by omega)]; omega
    obtain ⟨t, h3, h4, _⟩ := gapOf_tells x1 hx i
    refine Ev.step (fun k => ?_) (ih (i + 1) (by omega))
    simp only [splicerylaw05_LexLayouts.l0]
    rw [if_pos (by omega), if_pos (by omega), h3, Option.bind_some, h4, Option.bind_some, if_pos (by simp; omega), if_pos (by rw [usualB_length]; omega), if_pos (by simp; omega), usualB_at ws i (by omega), rdOf_wAt, hw]
    simp only [List.range_succ, List.map_append, List.map_cons, List.map_nil, cv_gTk, cv_uTk]
end
theorem LexLayouts_pure : splicerylaw05_LexLayouts.Pure := by
  intro l0 l1 a2 hm h8 hwf hm1 h81 hwf1 h2
  have hx : ∀ x ∈ l1, I64 x := fun x hx => i64_of_wf (hwf1 x hx)
  obtain ⟨ws, w1, w2, w3⟩ := pieces_ev l0 (fun x hx => i64_of_wf (hwf x hx)) (by omega)
  have hL := lay_loop l1 hx a2 (i64_of_wf h2) ws w1 w2 ws.length 0 (by omega)
  refine Ev.rounds (Ev.bind (f := fun k t304 => (lex_Usual.f k t304).bind fun t307 => (if (t307.length : Int) = (wrap64 ((t304.length : Int) + 1)) then (splicerylaw05_LexLayouts.l0 k l1 a2 t304 ([] : List (S38)) ([] : List (S38)) t307 0) else (some false))) w3
    (Ev.bind (f := fun k t307 => (if (t307.length : Int) = (wrap64 ((ws.length : Int) + 1)) then (splicerylaw05_LexLayouts.l0 k l1 a2 ws ([] : List (S38)) ([] : List (S38)) t307 0) else (some false))) (usual_ev ws (by omega)) (Ev.congr (fun k => ?_) hL)))
  rw [if_pos (by rw [usualB_length, w64 (by omega) (by omega)]; omega)]
  rfl
end Go.Proofs.YteafkdcppbemdaaDoor.Q
