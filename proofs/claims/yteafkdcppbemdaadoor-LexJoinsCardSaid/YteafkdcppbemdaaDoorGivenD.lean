import Derived.Test.YteafkdcppbemdaaDoorGivenB
import Derived.WalkMore
import Derived.Outline
namespace Go.Proofs.YteafkdcppbemdaaDoor.Q
open Go.RowKit Go.Proofs.YteafkdcppbemdaaDoorW.PrintWords Go.Proofs.YteafkdcppbemdaaDoorW.PrintLast Go.Proofs.YteafkdcppbemdaaDoorW.PrintMore
attribute [local go_sem] max2_int min2_int max_two min_two max_three min_three max_four min_four
set_option linter.unusedVariables false
set_option linter.unusedSimpArgs false

/-! ### lex_Scan: function 11 -/
def lex_Scan.l0 : Nat → ByteArray → List (S38) → Int → Option ((List (S38)) × ByteArray × Int)
 | 0, _, _, _ => none
 | k + 1, x0, x5, x6 => if 0 ≤ x6 then (if x6 ≤ (x0.size : Int) then ((lex_blanks.f (x0.extract (x6 : Int).toNat x0.size)).bind fun t102 => (if x6 ≤ (wrap64 (x6 + t102)) then (if (wrap64 (x6 + t102)) ≤ (x0.size : Int) then (if (wrap64 (x6 + t102)) = (x0.size : Int) then (some (x5, x0.extract (x6 : Int).toNat ((wrap64 (x6 + t102)) : Int).toNat, (-1))) else (if 0 ≤ (wrap64 (x6 + t102)) then ((lex_token.f (x0.extract ((wrap64 (x6 + t102)) : Int).toNat x0.size)).bind fun t103 => (if t103 > 0 then (if (wrap64 (x6 + t102)) ≤ (wrap64 ((wrap64 (x6 + t102)) + t103)) then (if (wrap64 ((wrap64 (x6 + t102)) + t103)) ≤ (x0.size : Int) then (if x5.length < 4398046511104 then (lex_Scan.l0 k x0 (x5 ++ [(⟨x0.extract ((wrap64 (x6 + t102)) : Int).toNat ((wrap64 ((wrap64 (x6 + t102)) + t103)) : Int).toNat, x0.extract (x6 : Int).toNat ((wrap64 (x6 + t102)) : Int).toNat⟩ : S38)]) (wrap64 ((wrap64 (x6 + t102)) + t103))) else (none)) else (none)) else (none)) else (some (([] : List (S38)), (⟨#[]⟩ : ByteArray), wrap64 (x6 + t102))))) else (none))) else (none)) else (none))) else (none)) else (none)
def lex_Scan.f (k : Nat) (a0 : ByteArray) : Option ((List (S38)) × ByteArray × Int) := if (a0.size : Int) > 8192 then (some (([] : List (S38)), (⟨#[]⟩ : ByteArray), 8192)) else (lex_Scan.l0 k a0 ([] : List (S38)) 0)
theorem lex_Scan.mono_l : ∀ k, (∀ y0 y1 y2, LeO (lex_Scan.l0 k y0 y1 y2) (lex_Scan.l0 (k + 1) y0 y1 y2))
 | 0 => fun _ _ _ r h => by simp [lex_Scan.l0] at h
 | k + 1 => by
  have ih0 := lex_Scan.mono_l k
  ·intro y0 y1 y2
   unfold lex_Scan.l0
   repeat' first
   | (with_reducible exact ih0 _ _ _)
   | (with_reducible exact LeO.refl _)
   | (with_reducible exact LeO.none _)
   | (with_reducible refine LeO.ite ?_ ?_)
   | (with_reducible refine LeO.bind ?_ (fun _ => ?_))
   | exact ih0 _ _ _
   | exact LeO.none _
   | refine LeO.ite ?_ ?_
   | refine LeO.bind ?_ (fun _ => ?_)
theorem lex_Scan.mono : ∀ a0 k, LeO (lex_Scan.f k a0) (lex_Scan.f (k + 1) a0) := by
 intro a0 k
 have ih0 := lex_Scan.mono_l k
 unfold lex_Scan.f
 repeat' first
   | (with_reducible exact ih0 _ _ _)
   | (with_reducible exact LeO.refl _)
   | (with_reducible exact LeO.none _)
   | (with_reducible refine LeO.ite ?_ ?_)
   | (with_reducible refine LeO.bind ?_ (fun _ => ?_))
   | exact ih0 _ _ _
   | exact LeO.none _
   | refine LeO.ite ?_ ?_
   | refine LeO.bind ?_ (fun _ => ?_)
set_option maxHeartbeats 8000000 in
set_option maxRecDepth 100000 in
theorem lex_Scan.calls (k : Nat) (a0 : ByteArray) (r1 : List (S38)) (r2 : ByteArray) (r3 : Int) (w : World) (hG : Glob w) (h : lex_Scan.f k a0 = some (r1, r2, r3)) :
  Calls Tryd.prog 11 #[.string a0] w fun e w' => ∃ v0_ : Value, e = .returned (.tuple #[v0_, .string r2, .int .i64 r3]) ∧ Kd.R k38 38 w' w.heap.size (fun _ => True) v0_ r1 ∧ Below w.heap.size w w' := by
 have hu38 := Tryd.underlying38
 have HB := Aside0.mk (Below.refl w.heap.size w)
 have HG := Aside0.mk hG
 clear hG
 have H : (if (a0.size : Int) > 8192 then (some (([] : List (S38)), (⟨#[]⟩ : ByteArray), 8192)) else (lex_Scan.l0 k a0 ([] : List (S38)) 0)) = some (r1, r2, r3) := h
 clear h
 by_cases c2 : (a0.size : Int) > 8192
 ·rw [if_pos c2] at H
  have c2b0 : decide (8192 < (a0.size : Int)) = true := decide_eq_true c2
  have c2b1 : decide (8192 < a0.size) = true := decide_eq_true (by omega)
  clear c2
  simp only [Option.some.injEq, Prod.mk.injEq] at H
  obtain ⟨rfl, rfl, rfl⟩ := H
  go_enter Tryd.func11, Tryd.ntmps11
  go_wp2
  go_step3
  go_wp2
  rw [Exit.noGoto_ret]
  go_ret3
  exact ⟨_, by first | rfl | (simp [errW_none, errW_some] <;> rfl) | (simp [*, errW_none, errW_some] <;> rfl), by first | exact Kd.R_nil _ _ _ _ _ | exact Kd.N_nil _ _ _ _ _ | exact Kd.V_nil _ _ _ _ _ | exact Kd.Q_nil _ _ _ _ _ | exact Kd.S_nil _ _ _ _ _, by repeat (first | (with_reducible first | exact HB.out | apply below_alloc | apply pw_below_drewN | apply below_drew1) | exact HB.out)⟩
 ·rw [if_neg c2] at H
  have c2b0 : decide (8192 < (a0.size : Int)) = false := decide_eq_false c2
  have c2b1 : decide (8192 < a0.size) = false := decide_eq_false (by omega)
  clear c2
  have H' := Aside0.mk H
  clear H
  go_enter Tryd.func11, Tryd.ntmps11
  go_wp2
  go_step3
  go_wp2
  go_step3
  go_wp2
  go_loopg [5, 6] k (fun kq v5 v6 w' => ∃ (x5_1 : List (S38)) (x6_1 : Int), v6 = .int .i64 x6_1 ∧ Aside0 (lex_Scan.l0 kq a0 x5_1 x6_1 = some (r1, r2, r3)) ∧ Aside0 (kq ≤ k) ∧ Aside0 (Kd.R k38 38 w' w.heap.size (fun _ => True) v5 x5_1) ∧ Aside0 (Below w.heap.size w w'))
  case atStart => exact ⟨(([] : List (S38))), (0), (by first | rfl | (simp; done) | (simp [*]; done)), H', ⟨Nat.le_refl _⟩, ⟨by first | exact Kd.R_nil _ _ _ _ _ | exact Kd.N_nil _ _ _ _ _ | exact Kd.V_nil _ _ _ _ _ | exact Kd.Q_nil _ _ _ _ _ | exact Kd.S_nil _ _ _ _ _⟩, ⟨by repeat (first | (with_reducible first | exact HB.out | apply below_alloc | apply pw_below_drewN | apply below_drew1) | exact HB.out)⟩⟩
  case round =>
   clear H'
   try clear c1
   try clear c2
   try clear c2b0
   try clear c2b1
   try clear p2
   obtain ⟨x5_1, x6_1, rfl, HA, HK1, HO_5, HB⟩ := hrel
   cases gk with
   | zero => exact absurd HA.out (by simp [lex_Scan.l0])
   | succ k1 =>
    have H := HA.out
    clear HA
    simp only [lex_Scan.l0] at H
    by_cases c3 : 0 ≤ x6_1
    ·rw [if_pos c3] at H
     have c3b0 := eq_true c3
     have c3b1 : decide (0 ≤ x6_1) = true := decide_eq_true c3
     clear c3
     by_cases c4 : x6_1 ≤ (a0.size : Int)
     ·rw [if_pos c4] at H
      have c4b0 := eq_true c4
      have c4b1 : decide (x6_1 ≤ (a0.size : Int)) = true := decide_eq_true c4
      clear c4
      replace H := Option.bind_eq_some_iff.mp H
      obtain ⟨t102, A50, H⟩ := H
      replace H : (if x6_1 ≤ (wrap64 (x6_1 + t102)) then (if (wrap64 (x6_1 + t102)) ≤ (a0.size : Int) then (if (wrap64 (x6_1 + t102)) = (a0.size : Int) then (some (x5_1, a0.extract (x6_1 : Int).toNat ((wrap64 (x6_1 + t102)) : Int).toNat, (-1))) else (if 0 ≤ (wrap64 (x6_1 + t102)) then ((lex_token.f (a0.extract ((wrap64 (x6_1 + t102)) : Int).toNat a0.size)).bind fun t103 => (if t103 > 0 then (if (wrap64 (x6_1 + t102)) ≤ (wrap64 ((wrap64 (x6_1 + t102)) + t103)) then (if (wrap64 ((wrap64 (x6_1 + t102)) + t103)) ≤ (a0.size : Int) then (if x5_1.length < 4398046511104 then (lex_Scan.l0 k1 a0 (x5_1 ++ [(⟨a0.extract ((wrap64 (x6_1 + t102)) : Int).toNat ((wrap64 ((wrap64 (x6_1 + t102)) + t103)) : Int).toNat, a0.extract (x6_1 : Int).toNat ((wrap64 (x6_1 + t102)) : Int).toNat⟩ : S38)]) (wrap64 ((wrap64 (x6_1 + t102)) + t103))) else (none)) else (none)) else (none)) else (some (([] : List (S38)), (⟨#[]⟩ : ByteArray), wrap64 (x6_1 + t102))))) else (none))) else (none)) else (none)) = some (r1, r2, r3) := H
      have A5 := Aside0.mk A50
      clear A50
      have c6b0 := eq_true (of_decide_eq_true (by first | (with_reducible assumption) | assumption) : 0 ≤ x6_1)
      by_cases c7 : x6_1 ≤ (wrap64 (x6_1 + t102))
      ·rw [if_pos c7] at H
       have c7b0 := eq_true c7
       have c7b1 : decide (x6_1 ≤ (wrap64 (x6_1 + t102))) = true := decide_eq_true c7
       by_cases c8 : (wrap64 (x6_1 + t102)) ≤ (a0.size : Int)
       ·rw [if_pos c8] at H
        have c8b0 := eq_true c8
        have c8b1 : decide ((wrap64 (x6_1 + t102)) ≤ (a0.size : Int)) = true := decide_eq_true c8
        by_cases c9 : (wrap64 (x6_1 + t102)) = (a0.size : Int)
        ·rw [if_pos c9] at H
         have c9b0 : ((wrap64 (x6_1 + t102)) == (a0.size : Int)) = true := beq_iff_eq.mpr c9
         have c9b1 : ((wrap64 (x6_1 + t102)) != (a0.size : Int)) = false := bne_eq_false_iff_eq.mpr c9
         clear c9
         simp only [Option.some.injEq, Prod.mk.injEq] at H
         obtain ⟨rfl, rfl, rfl⟩ := H
         go_wp2_with (first | ((with_reducible refine gate_callee (f := 30) rfl ?_); refine goesL_ (some 16) rfl rfl Tryd.func30 (by kernel_rfl) rfl #[.string (a0.extract (x6_1 : Int).toNat a0.size)] rfl (by (try simp only [List.map_toArray, List.map_cons, List.map_nil]); first | done | rfl | (simp only [List.length_drop, List.length_take]; rfl)) ?_; (with_reducible refine (lex_blanks.calls (a0.extract (x6_1 : Int).toNat a0.size) t102 _ A5.out).mono ?_); rintro e w' ⟨rfl, ⟨nd, rfl⟩⟩; refine ⟨_, rfl, ?_⟩))
         first | rw [Exit.noGoto_ret] | skip
         go_ret3
         exact ⟨_, by first | rfl | (simp [errW_none, errW_some] <;> rfl) | (simp [*, errW_none, errW_some] <;> rfl), by (with_reducible repeat (first | apply Kd.R_alloc | apply Kd.R_drewN | apply Kd.R_drew)); exact HO_5.out, by repeat (first | (with_reducible first | exact HB.out | apply below_alloc | apply pw_below_drewN | apply below_drew1) | exact HB.out)⟩
        ·rw [if_neg c9] at H
         have c9b0 : ((wrap64 (x6_1 + t102)) == (a0.size : Int)) = false := beq_eq_false_iff_ne.mpr c9
         have c9b1 : ((wrap64 (x6_1 + t102)) != (a0.size : Int)) = true := bne_iff_ne.mpr c9
         obtain ⟨ji10, hji10⟩ : ∃ j_ : Int, (wrap64 (x6_1 + t102)) = j_ := ⟨_, rfl⟩
         replace H : (if 0 ≤ (ji10) then ((lex_token.f (a0.extract ((ji10) : Int).toNat a0.size)).bind fun t103 => (if t103 > 0 then (if (ji10) ≤ (wrap64 ((ji10) + t103)) then (if (wrap64 ((ji10) + t103)) ≤ (a0.size : Int) then (if x5_1.length < 4398046511104 then (lex_Scan.l0 k1 a0 (x5_1 ++ [(⟨a0.extract ((ji10) : Int).toNat ((wrap64 ((ji10) + t103)) : Int).toNat, a0.extract (x6_1 : Int).toNat ((ji10) : Int).toNat⟩ : S38)]) (wrap64 ((ji10) + t103))) else (none)) else (none)) else (none)) else (some (([] : List (S38)), (⟨#[]⟩ : ByteArray), ji10)))) else (none)) = some (r1, r2, r3) := by first | (rw [hji10] at H; exact H) | (simp only [hji10] at H ⊢; exact H)
         (try rw [hji10] at c7b0)
         (try rw [hji10] at c7b1)
         (try rw [hji10] at c7)
         (try rw [hji10] at c8b0)
         (try rw [hji10] at c8b1)
         (try rw [hji10] at c8)
         (try rw [hji10] at c9b0)
         (try rw [hji10] at c9b1)
         (try rw [hji10] at A5)
         have hji10w : (IntKind.i64.wrap (x6_1 + t102)) = ji10 := (i64_w _).trans hji10
         by_cases c11 : 0 ≤ (ji10)
         ·rw [if_pos c11] at H
          have c11b0 := eq_true c11
          have c11b1 : decide (0 ≤ (ji10)) = true := decide_eq_true c11
          clear c11
          have c12b0 := eq_true (of_decide_eq_true (by first | (with_reducible assumption) | assumption) : (ji10) ≤ (a0.size : Int))
          replace H := Option.bind_eq_some_iff.mp H
          obtain ⟨t103, A130, H⟩ := H
          replace H : (if t103 > 0 then (if (ji10) ≤ (wrap64 ((ji10) + t103)) then (if (wrap64 ((ji10) + t103)) ≤ (a0.size : Int) then (if x5_1.length < 4398046511104 then (lex_Scan.l0 k1 a0 (x5_1 ++ [(⟨a0.extract ((ji10) : Int).toNat ((wrap64 ((ji10) + t103)) : Int).toNat, a0.extract (x6_1 : Int).toNat ((ji10) : Int).toNat⟩ : S38)]) (wrap64 ((ji10) + t103))) else (none)) else (none)) else (none)) else (some (([] : List (S38)), (⟨#[]⟩ : ByteArray), ji10))) = some (r1, r2, r3) := H
          have A13 := Aside0.mk A130
          clear A130
          by_cases c14 : t103 > 0
          ·rw [if_pos c14] at H
           have c14b0 : decide (0 < t103) = true := decide_eq_true c14
           clear c14
           have c15b0 := eq_true (of_decide_eq_true (by first | (with_reducible assumption) | assumption) : 0 ≤ (ji10))
           by_cases c16 : (ji10) ≤ (wrap64 ((ji10) + t103))
           ·rw [if_pos c16] at H
            have c16b0 := eq_true c16
            have c16b1 : decide ((ji10) ≤ (wrap64 ((ji10) + t103))) = true := decide_eq_true c16
            by_cases c17 : (wrap64 ((ji10) + t103)) ≤ (a0.size : Int)
            ·rw [if_pos c17] at H
             have c17b0 := eq_true c17
             have c17b1 : decide ((wrap64 ((ji10) + t103)) ≤ (a0.size : Int)) = true := decide_eq_true c17
             by_cases c18 : x5_1.length < 4398046511104
             ·rw [if_pos c18] at H
              have LMc18 := Aside0.mk c18
              clear c18
              obtain ⟨y104, hy104⟩ : ∃ y_ : List (S38), y_ = (x5_1 ++ [(⟨a0.extract ((ji10) : Int).toNat ((wrap64 ((ji10) + t103)) : Int).toNat, a0.extract (x6_1 : Int).toNat ((ji10) : Int).toNat⟩ : S38)]) := ⟨_, rfl⟩
              replace H : (lex_Scan.l0 k1 a0 y104 (wrap64 ((ji10) + t103))) = some (r1, r2, r3) := by first | (rw [hy104]; with_reducible exact H) | (have H2_ := (Option.bind_some _ _).symm.trans H; rw [hy104]; with_reducible exact H2_) | (have H2_ := (Option.bind_some _ _).symm.trans H; with_reducible exact H2_) | with_reducible exact H | (rw [hy104]; exact H) | exact H
              have Ny104 := Aside0.mk hy104
              clear hy104
              have H' := Aside0.mk H
              clear H
              go_wp2_with (first | ((with_reducible refine gate_callee (f := 30) rfl ?_); refine goesL_ (some 16) rfl rfl Tryd.func30 (by kernel_rfl) rfl #[.string (a0.extract (x6_1 : Int).toNat a0.size)] rfl (by (try simp only [List.map_toArray, List.map_cons, List.map_nil]); first | done | rfl | (simp only [List.length_drop, List.length_take]; rfl)) ?_; (with_reducible refine (lex_blanks.calls (a0.extract (x6_1 : Int).toNat a0.size) t102 _ A5.out).mono ?_); rintro e w' ⟨rfl, ⟨nd, rfl⟩⟩; refine ⟨_, rfl, ?_⟩) | ((with_reducible refine gate_callee (f := 31) rfl ?_); refine goesL_ (some 35) rfl rfl Tryd.func31 (by kernel_rfl) rfl #[.string (a0.extract ((ji10) : Int).toNat a0.size)] rfl (by (try simp only [List.map_toArray, List.map_cons, List.map_nil]); first | done | (simp only [hji10]; rfl) | rfl | (simp only [List.length_drop, List.length_take]; rfl)) ?_; (with_reducible refine (lex_token.calls (a0.extract ((ji10) : Int).toNat a0.size) t103 _ ?side1 A13.out).mono ?_); (case side1 => exact Glob.below HG.out (by repeat (first | (with_reducible first | exact HB.out | apply below_alloc | apply pw_below_drewN | apply below_drew1) | exact HB.out))); rintro e w19 ⟨rfl, hb⟩; refine ⟨_, rfl, ?_⟩; have n0_ := Aside0.mk (Kd.R_below (by (with_reducible repeat (first | apply Kd.R_alloc | apply Kd.R_drewN | apply Kd.R_drew)); exact HO_5.out) hb); have n1_ := Aside0.mk (below_step (by repeat (first | (with_reducible first | exact HB.out | apply below_alloc | apply pw_below_drewN | apply below_drew1) | exact HB.out)) hb); clear HO_5; clear HB; have HO_5 := n0_; have HB := n1_; clear n0_ n1_; (try clear hb); (try clear hb2); (try clear hk); (try clear hi)) | ((with_reducible refine gate_builtin (b := .append) (xs := #[.tmp 38, .tmp 47]) rfl ?_); at_builtin; refine Kd.R_append k38 (w0 := w) w.heap.size rfl (.tmp 38) (.tmp 47) 27 38 (.agg #[(.string ⟨#[]⟩), (.string ⟨#[]⟩)]) 32 rfl Tryd.underlying27 info38 rfl (by decide) (by omega) u5 x5_1 (⟨a0.extract ((ji10) : Int).toNat ((wrap64 ((ji10) + t103)) : Int).toNat, a0.extract (x6_1 : Int).toNat ((ji10) : Int).toNat⟩ : S38) [.string (a0.extract ((ji10) : Int).toNat ((wrap64 ((ji10) + t103)) : Int).toNat), .string (a0.extract (x6_1 : Int).toNat ((ji10) : Int).toNat)] (fun _ => True) (fun _ => False) rfl rfl ?aP (fun _ hk => hk.elim) ?aF ?aO ?aB ?aS ?aL ?_; (case aP => exact k38_mkM _ _ _ (⟨a0.extract ((ji10) : Int).toNat ((wrap64 ((ji10) + t103)) : Int).toNat, a0.extract (x6_1 : Int).toNat ((ji10) : Int).toNat⟩ : S38)); (case aB => exact (by repeat (first | (with_reducible first | exact HB.out | apply below_alloc | apply pw_below_drewN | apply below_drew1) | exact HB.out))); (case aF => exact (fun _ _ => trivial)); (case aO => exact (by (with_reducible repeat (first | apply Kd.R_alloc | apply Kd.R_drewN | apply Kd.R_drew)); exact HO_5.out)); (case aS => exact (below_size (by repeat (first | (with_reducible first | exact HB.out | apply below_alloc | apply pw_below_drewN | apply below_drew1) | exact HB.out)))); (case aL => have := LMc18.out; omega); intro v105 w20 ho hb hg hat; rw [← Ny104.out] at ho; have n0_ := Aside0.mk (hb); have n1_ := Aside0.mk (ho); clear HB; clear HO_5; have HB := n0_; have HO106 := n1_; clear n0_ n1_; clear ho hb hg hat))
              go_roundg k1
              case measure => have := HK1.out; omega
              case rel => exact ⟨(y104), (wrap64 ((ji10) + t103)), (by first | rfl | (simp; done) | (simp only [← hji10] <;> (first | rfl | simp)) | (simp [*]; done)), H', ⟨by have := HK1.out; omega⟩, ⟨by (with_reducible repeat (first | apply Kd.R_alloc | apply Kd.R_drewN | apply Kd.R_drew)); exact HO106.out⟩, ⟨by repeat (first | (with_reducible first | exact HB.out | apply below_alloc | apply pw_below_drewN | apply below_drew1) | exact HB.out)⟩⟩
             ·rw [if_neg c18] at H
              exact absurd H (by simp)
            ·rw [if_neg c17] at H
             exact absurd H (by simp)
           ·rw [if_neg c16] at H
            exact absurd H (by simp)
          ·rw [if_neg c14] at H
           have c14b0 : decide (0 < t103) = false := decide_eq_false c14
           clear c14
           simp only [Option.some.injEq, Prod.mk.injEq] at H
           obtain ⟨rfl, rfl, rfl⟩ := H
           go_wp2_with (first | ((with_reducible refine gate_callee (f := 30) rfl ?_); refine goesL_ (some 16) rfl rfl Tryd.func30 (by kernel_rfl) rfl #[.string (a0.extract (x6_1 : Int).toNat a0.size)] rfl (by (try simp only [List.map_toArray, List.map_cons, List.map_nil]); first | done | rfl | (simp only [List.length_drop, List.length_take]; rfl)) ?_; (with_reducible refine (lex_blanks.calls (a0.extract (x6_1 : Int).toNat a0.size) t102 _ A5.out).mono ?_); rintro e w' ⟨rfl, ⟨nd, rfl⟩⟩; refine ⟨_, rfl, ?_⟩) | ((with_reducible refine gate_callee (f := 31) rfl ?_); refine goesL_ (some 35) rfl rfl Tryd.func31 (by kernel_rfl) rfl #[.string (a0.extract ((ji10) : Int).toNat a0.size)] rfl (by (try simp only [List.map_toArray, List.map_cons, List.map_nil]); first | done | (simp only [hji10]; rfl) | rfl | (simp only [List.length_drop, List.length_take]; rfl)) ?_; (with_reducible refine (lex_token.calls (a0.extract ((ji10) : Int).toNat a0.size) t103 _ ?side1 A13.out).mono ?_); (case side1 => exact Glob.below HG.out (by repeat (first | (with_reducible first | exact HB.out | apply below_alloc | apply pw_below_drewN | apply below_drew1) | exact HB.out))); rintro e w21 ⟨rfl, hb⟩; refine ⟨_, rfl, ?_⟩; have n0_ := Aside0.mk (Kd.R_below (by (with_reducible repeat (first | apply Kd.R_alloc | apply Kd.R_drewN | apply Kd.R_drew)); exact HO_5.out) hb); have n1_ := Aside0.mk (below_step (by repeat (first | (with_reducible first | exact HB.out | apply below_alloc | apply pw_below_drewN | apply below_drew1) | exact HB.out)) hb); clear HO_5; clear HB; have HO_5 := n0_; have HB := n1_; clear n0_ n1_; (try clear hb); (try clear hb2); (try clear hk); (try clear hi)))
           first | rw [Exit.noGoto_ret] | skip
           go_ret3
           exact ⟨_, by first | rfl | (simp [errW_none, errW_some] <;> rfl) | (simp only [← hji10]; first | rfl | (simp [errW_none, errW_some] <;> rfl)) | (simp [*, errW_none, errW_some] <;> rfl), by first | exact Kd.R_nil _ _ _ _ _ | exact Kd.N_nil _ _ _ _ _ | exact Kd.V_nil _ _ _ _ _ | exact Kd.Q_nil _ _ _ _ _ | exact Kd.S_nil _ _ _ _ _, by repeat (first | (with_reducible first | exact HB.out | apply below_alloc | apply pw_below_drewN | apply below_drew1) | exact HB.out)⟩
         ·rw [if_neg c11] at H
          exact absurd H (by simp)
       ·rw [if_neg c8] at H
        exact absurd H (by simp)
      ·rw [if_neg c7] at H
       exact absurd H (by simp)
     ·rw [if_neg c4] at H
      exact absurd H (by simp)
    ·rw [if_neg c3] at H
     exact absurd H (by simp)

end Go.Proofs.YteafkdcppbemdaaDoor.Q
