import Derived.Test.YteafkdcppbemdaaDoorRows
import Derived.Test.YteafkdcppbemdaaDoorGivenA
import Derived.Lib.LaidTab
import Derived.LaidMore
import Derived.LaidSub
namespace Go.Proofs.YteafkdcppbemdaaDoor.Q
set_option linter.unusedVariables false
set_option linter.unusedSimpArgs false

theorem gSigns : Tryd.prog.globalNamed "splicery/lex.signs" = some 2 := by kernel_rfl
theorem gKinds : Tryd.prog.globalNamed "splicery/lex.kinds" = some 1 := by kernel_rfl
theorem gKeywords : Tryd.prog.globalNamed "splicery/lex.keywords" = some 0 := by kernel_rfl
theorem tSigns : (Tryd.prog.globals[2]?).map (·.type) = some 74 := by kernel_rfl
theorem tKinds : (Tryd.prog.globals[1]?).map (·.type) = some 73 := by kernel_rfl
theorem tKeywords : (Tryd.prog.globals[0]?).map (·.type) = some 69 := by kernel_rfl
theorem cells9 : Tryd.prog.cellsOf 9 = 1 := by kernel_rfl
theorem cells67 : Tryd.prog.cellsOf 67 = 1 := by kernel_rfl
theorem cells69 : Tryd.prog.cellsOf 69 = 27 := by kernel_rfl
theorem cells72 : Tryd.prog.cellsOf 72 = 2 := by kernel_rfl
theorem cells73 : Tryd.prog.cellsOf 73 = 4 := by kernel_rfl
theorem cells74 : Tryd.prog.cellsOf 74 = 18 := by kernel_rfl

/-- An array's reading, part by part. -/
theorem arr_at {H : Type} {enc : TypeId × Value → H} {P : Program} {w : World} {base : Nat} {sp : Nat → Bool} {held : Bool} {fuel : Nat} {t e : TypeId} {n m : Nat} {cs : List Value} {ds : List (DataW H)} {p : List MemPlace}
    (ht : P.underlying t = some (.array n e)) (hce : P.cellsOf e = m) (hct : P.cellsOf t = n * m)
    (h : DataW.trod enc P w base sp held fuel t cs = some (.agg ds, p)) : cs.length = n * m ∧ ds.length = n ∧ ∃ fuel', ∀ i, i < n → ∃ d q, ds[i]? = some d ∧ DataW.trod enc P w base sp held fuel' e ((cs.drop (i * m)).take m) = some (d, q) := by
  cases fuel with
  | zero => simp [DataW.trod] at h
  | succ fuel =>
    simp only [DataW.trod, ht, hce, hct] at h
    split at h
    · rename_i hl
      obtain ⟨xs, hm, hx⟩ := Option.map_eq_some_iff.1 h
      have hxs : xs.map (·.1) = ds := by
        have := congrArg Prod.fst hx
        simpa using this
      have hxl : xs.length = n := by simpa using Lib.mapM_length hm
      refine ⟨by simpa using hl, by rw [← hxs, List.length_map, hxl], fuel, fun i hi => ?_⟩
      obtain ⟨b, hb, hf⟩ := Lib.mapM_at hm i i (by simp [hi])
      exact ⟨b.1, b.2, by rw [← hxs, List.getElem?_map, hb]; rfl, hf⟩
    · cases h
theorem strs_of {H : Type} {enc : TypeId × Value → H} {P : Program} {w : World} {base : Nat} {sp : Nat → Bool} {held : Bool} {fuel : Nat} {t e : TypeId} {n : Nat} {cs : List Value} {ss : List (List UInt8)} {p : List MemPlace}
    (ht : P.underlying t = some (.array n e)) (he : P.underlying e = some .string) (hce : P.cellsOf e = 1) (hct : P.cellsOf t = n)
    (h : DataW.trod enc P w base sp held fuel t cs = some (.agg (ss.map fun s => .lit (.string s)), p)) : cs = ss.map fun s => Value.string (bs s) := by
  obtain ⟨hl, hd, fuel', hi⟩ := arr_at ht hce (by rw [hct, Nat.mul_one]) h
  simp only [Nat.mul_one, List.length_map] at hl hd hi
  apply List.ext_getElem?
  intro i
  by_cases hlt : i < n
  · obtain ⟨d, q, h1, h2⟩ := hi i hlt
    obtain ⟨s, hc, hx, _⟩ := DataW.trod_string he h2
    simp only [Prod.mk.injEq] at hx
    obtain ⟨rfl, _⟩ := hx
    have c1 : cs[i]? = some (.string s) := by
      have := congrArg (·[0]?) hc
      simpa [List.getElem?_take, List.getElem?_drop] using this
    simp only [List.getElem?_map, Option.map_eq_some_iff, DataW.lit.injEq, Lit.string.injEq] at h1
    obtain ⟨z, hz, rfl⟩ := h1
    rw [c1, List.getElem?_map, hz]
    simp [bs]
  · rw [List.getElem?_eq_none (by omega), List.getElem?_eq_none (by rw [List.length_map]; omega)]
theorem block_of_var {W : World} {n : String} {g : Nat} {cs : Array Value} (hg : Tryd.prog.globalNamed n = some g) (h : W.var? Tryd.prog n = some cs) : BlockIs W g cs := by
  simp only [World.var?, hg, Option.bind_some] at h
  split at h
  · rename_i c e fr hh
    obtain rfl := Option.some.inj h
    exact ⟨e, fr, hh⟩
  · cases h
def laidAll : List (String × DataW Unit) := [("splicery/lex.signs", Rows.laid_splicery_lex_signs), ("splicery/lex.kinds", Rows.laid_splicery_lex_kinds), ("splicery/lex.keywords", Rows.laid_splicery_lex_keywords)]
theorem laid_plain : laidAll.filter (fun x => x.2.handleName?.isNone) = [("splicery/lex.signs", .agg (signsL.map fun s => .lit (.string s))), ("splicery/lex.keywords", .agg (keywordsL.map fun s => .lit (.string s)))] := by kernel_rfl
/-- WHAT THE CONDITION GIVES. -/
theorem of_laid {W : World} (h : laidMetH Tryd.prog laidAll W) : Glob W := by
  have h1 := (laidMetH_iff.1 h).1
  rw [laid_plain] at h1
  obtain ⟨ps, ⟨g, t, cs, fuel, p, q, hg, ht, hv, hd, ⟨g', t', cs', fuel', p', q', hg', ht', hv', hd', _, _⟩, _⟩, _⟩ := h1
  obtain rfl := Option.some.inj (gSigns.symm.trans hg)
  obtain rfl := Option.some.inj (tSigns.symm.trans ht)
  obtain rfl := Option.some.inj (gKeywords.symm.trans hg')
  obtain rfl := Option.some.inj (tKeywords.symm.trans ht')
  have e1 := strs_of Tryd.underlying74 Tryd.underlying9 cells9 cells74 hd
  have e2 := strs_of Tryd.underlying69 Tryd.underlying9 cells9 cells69 hd'
  obtain ⟨g3, t3, cs3, fuel3, p3, hg3, ht3, hv3, hd3⟩ := h.funcs (List.mem_cons_of_mem _ (List.mem_cons_self ..))
  obtain rfl := Option.some.inj (gKinds.symm.trans hg3)
  obtain rfl := Option.some.inj (tKinds.symm.trans ht3)
  have hd4 : DataW.trod (funcToken Tryd.prog) Tryd.prog W 0 (fun _ => true) true fuel3 73 cs3.toList = some (.agg [.agg [.held [115, 112, 108, 105, 99, 101, 114, 121, 47, 108, 101, 120, 46, 108, 101, 116, 116, 101, 114], .held [115, 112, 108, 105, 99, 101, 114, 121, 47, 108, 101, 120, 46, 101, 105, 116, 104, 101, 114]], .agg [.held [115, 112, 108, 105, 99, 101, 114, 121, 47, 108, 101, 120, 46, 100, 105, 103, 105, 116], .held [115, 112, 108, 105, 99, 101, 114, 121, 47, 108, 101, 120, 46, 100, 105, 103, 105, 116]]], p3) := hd3
  obtain ⟨hl, _, f1, hr⟩ := arr_at Tryd.underlying73 cells72 (by rw [cells73]) hd4
  have e3 : cs3.toList = kindCells.toList := by
    obtain ⟨d0, q0, a0, b0⟩ := hr 0 (by decide)
    obtain ⟨d1, q1, a1, b1⟩ := hr 1 (by decide)
    simp only [List.getElem?_cons_zero, List.getElem?_cons_succ, Option.some.injEq] at a0 a1
    subst a0 a1
    obtain ⟨_, _, f2, s0⟩ := arr_at Tryd.underlying72 cells67 (by rw [cells72]) b0
    obtain ⟨_, _, f3, s1⟩ := arr_at Tryd.underlying72 cells67 (by rw [cells72]) b1
    match hcs : cs3.toList, hl with
    | [c0, c1, c2, c3], _ =>
      rw [hcs] at s0 s1
      obtain ⟨x0, y0, z0, t0⟩ := s0 0 (by decide)
      obtain ⟨x1, y1, z1, t1⟩ := s0 1 (by decide)
      obtain ⟨x2, y2, z2, t2⟩ := s1 0 (by decide)
      obtain ⟨x3, y3, z3, t3⟩ := s1 1 (by decide)
      simp only [List.getElem?_cons_zero, List.getElem?_cons_succ, Option.some.injEq] at z0 z1 z2 z3
      subst z0 z1 z2 z3
      obtain rfl := func_of_trod (f0 := 38) Tryd.underlying67 (by kernel_rfl) t0
      obtain rfl := func_of_trod (f0 := 67) Tryd.underlying67 (by kernel_rfl) t1
      obtain rfl := func_of_trod (f0 := 68) Tryd.underlying67 (by kernel_rfl) t2
      obtain rfl := func_of_trod (f0 := 68) Tryd.underlying67 (by kernel_rfl) t3
      rfl
  refine ⟨?_, ?_, ?_⟩
  · have := block_of_var gKeywords hv'
    rwa [show cs' = strCells keywordsL from by rw [strCells, ← e2]] at this
  · have := block_of_var gKinds hv3
    rwa [show cs3 = kindCells from by rw [← Array.toList_inj, e3]] at this
  · have := block_of_var gSigns hv
    rwa [show cs = strCells signsL from by rw [strCells, ← e1]] at this
end Go.Proofs.YteafkdcppbemdaaDoor.Q
