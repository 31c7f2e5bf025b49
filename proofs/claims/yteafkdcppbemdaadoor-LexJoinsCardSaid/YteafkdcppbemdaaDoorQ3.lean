-- Written by a program of this session (wip/tool).
import Derived.Test.YteafkdcppbemdaaDoorQ0
namespace Go.Proofs.YteafkdcppbemdaaDoor.Q
open Go.RowKit Go.Proofs.YteafkdcppbemdaaDoorW.PrintWords Go.Proofs.YteafkdcppbemdaaDoorW.PrintLast Go.Proofs.YteafkdcppbemdaaDoorW.PrintMore
attribute [local go_sem] max2_int min2_int max_two min_two max_three min_three max_four min_four   -- for this text's walks alone
set_option linter.unusedVariables false
set_option linter.unusedSimpArgs false

/-! ### R1_Around: function 10 -/
def R1_Around.f (a0 : Int) (a1 : Int) : Option (Int) := if a0 < 0 then (if a1 = 0 then (none) else (some (Int.tmod (wrap64 (-(wrap64 (a0 + 1)))) a1))) else (if a1 = 0 then (none) else (some (Int.tmod a0 a1)))
set_option maxHeartbeats 8000000 in
set_option maxRecDepth 100000 in
theorem R1_Around.calls (a0 : Int) (a1 : Int) (r : Int) (w : World) (h : R1_Around.f a0 a1 = some r) :
  Calls Tryd.prog 10 #[.int .i64 a0, .int .i64 a1] w fun e w' => e = .returned (.int .i64 r) ∧ Drawn0 w w' := by
 have H : (if a0 < 0 then (if a1 = 0 then (none) else (some (Int.tmod (wrap64 (-(wrap64 (a0 + 1)))) a1))) else (if a1 = 0 then (none) else (some (Int.tmod a0 a1)))) = some r := h
 clear h
 by_cases c3 : a0 < 0
 ·rw [if_pos c3] at H
  have c3b0 : decide (a0 < 0) = true := decide_eq_true c3
  clear c3
  by_cases c4 : a1 = 0
  ·rw [if_pos c4] at H
   exact absurd H (by simp)
  ·rw [if_neg c4] at H
   have c4b0 : (a1 == 0) = false := beq_eq_false_iff_ne.mpr c4
   have c4b1 : (a1 != 0) = true := bne_iff_ne.mpr c4
   obtain rfl := Option.some.inj H
   go_enter Tryd.func10, Tryd.ntmps10
   go_wp2
   go_ret
   exact ⟨by first | rfl | (simp; done) | (simp [*]; done), by repeat (first | exact Drawn0.refl _ | apply Drawn0.step)⟩
 ·rw [if_neg c3] at H
  have c3b0 : decide (a0 < 0) = false := decide_eq_false c3
  clear c3
  by_cases c5 : a1 = 0
  ·rw [if_pos c5] at H
   exact absurd H (by simp)
  ·rw [if_neg c5] at H
   have c5b0 : (a1 == 0) = false := beq_eq_false_iff_ne.mpr c5
   have c5b1 : (a1 != 0) = true := bne_iff_ne.mpr c5
   obtain rfl := Option.some.inj H
   go_enter Tryd.func10, Tryd.ntmps10
   go_wp2
   go_ret
   exact ⟨by first | rfl | (simp; done) | (simp [*]; done), by repeat (first | exact Drawn0.refl _ | apply Drawn0.step)⟩

/-! ### R5_Gap: function 19 -/
def R5_Gap.f (a0 : Int) (a1 : Int) : Option (ByteArray) := (R1_Around.f a0 1000000).bind fun t101 => ((some (([(⟨#[]⟩ : ByteArray), (⟨#[32]⟩ : ByteArray), (⟨#[10]⟩ : ByteArray), (⟨#[32, 32]⟩ : ByteArray), (⟨#[35, 32, 97, 32, 40, 98, 10]⟩ : ByteArray), (⟨#[32, 35, 10, 32]⟩ : ByteArray), (⟨#[10, 10]⟩ : ByteArray), (⟨#[35, 255, 35, 32, 49, 10]⟩ : ByteArray)] : List ByteArray) : List ByteArray)).bind fun y102 => (if 0 ≤ (Int.tmod t101 8) then (if (Int.tmod t101 8) < (y102.length : Int) then (if (Int.tmod t101 3) = 0 then (if 0 ≤ (Int.tmod (wrap64 (Int.tdiv t101 8)) 8) then (if (Int.tmod (wrap64 (Int.tdiv t101 8)) 8) < (y102.length : Int) then (if (rdOf ByteArray.empty y102 (Int.tmod t101 8)).size + (rdOf ByteArray.empty y102 (Int.tmod (wrap64 (Int.tdiv t101 8)) 8)).size ≤ 9223372036854775807 then (if ((rdOf ByteArray.empty y102 (Int.tmod t101 8)) ++ (rdOf ByteArray.empty y102 (Int.tmod (wrap64 (Int.tdiv t101 8)) 8))).toList = ([] : List UInt8) then (if a1 = 0 then (some ((rdOf ByteArray.empty y102 (Int.tmod t101 8)) ++ (rdOf ByteArray.empty y102 (Int.tmod (wrap64 (Int.tdiv t101 8)) 8)))) else (some (⟨#[32]⟩ : ByteArray))) else (some ((rdOf ByteArray.empty y102 (Int.tmod t101 8)) ++ (rdOf ByteArray.empty y102 (Int.tmod (wrap64 (Int.tdiv t101 8)) 8))))) else (none)) else (none)) else (none)) else (if (rdOf ByteArray.empty y102 (Int.tmod t101 8)).toList = ([] : List UInt8) then (if a1 = 0 then (some (rdOf ByteArray.empty y102 (Int.tmod t101 8))) else (some (⟨#[32]⟩ : ByteArray))) else (some (rdOf ByteArray.empty y102 (Int.tmod t101 8))))) else (none)) else (none)))
set_option maxHeartbeats 8000000 in
set_option maxRecDepth 100000 in
theorem R5_Gap.calls (a0 : Int) (a1 : Int) (r : ByteArray) (w : World) (h : R5_Gap.f a0 a1 = some r) :
  Calls Tryd.prog 19 #[.int .i64 a0, .int .i64 a1] w fun e w' => e = .returned (.string r) ∧ Below w.heap.size w w' := by
 have HB := Aside0.mk (Below.refl w.heap.size w)
 have H : ((R1_Around.f a0 1000000).bind fun t101 => ((some (([(⟨#[]⟩ : ByteArray), (⟨#[32]⟩ : ByteArray), (⟨#[10]⟩ : ByteArray), (⟨#[32, 32]⟩ : ByteArray), (⟨#[35, 32, 97, 32, 40, 98, 10]⟩ : ByteArray), (⟨#[32, 35, 10, 32]⟩ : ByteArray), (⟨#[10, 10]⟩ : ByteArray), (⟨#[35, 255, 35, 32, 49, 10]⟩ : ByteArray)] : List ByteArray) : List ByteArray)).bind fun y102 => (if 0 ≤ (Int.tmod t101 8) then (if (Int.tmod t101 8) < (y102.length : Int) then (if (Int.tmod t101 3) = 0 then (if 0 ≤ (Int.tmod (wrap64 (Int.tdiv t101 8)) 8) then (if (Int.tmod (wrap64 (Int.tdiv t101 8)) 8) < (y102.length : Int) then (if (rdOf ByteArray.empty y102 (Int.tmod t101 8)).size + (rdOf ByteArray.empty y102 (Int.tmod (wrap64 (Int.tdiv t101 8)) 8)).size ≤ 9223372036854775807 then (if ((rdOf ByteArray.empty y102 (Int.tmod t101 8)) ++ (rdOf ByteArray.empty y102 (Int.tmod (wrap64 (Int.tdiv t101 8)) 8))).toList = ([] : List UInt8) then (if a1 = 0 then (some ((rdOf ByteArray.empty y102 (Int.tmod t101 8)) ++ (rdOf ByteArray.empty y102 (Int.tmod (wrap64 (Int.tdiv t101 8)) 8)))) else (some (⟨#[32]⟩ : ByteArray))) else (some ((rdOf ByteArray.empty y102 (Int.tmod t101 8)) ++ (rdOf ByteArray.empty y102 (Int.tmod (wrap64 (Int.tdiv t101 8)) 8))))) else (none)) else (none)) else (none)) else (if (rdOf ByteArray.empty y102 (Int.tmod t101 8)).toList = ([] : List UInt8) then (if a1 = 0 then (some (rdOf ByteArray.empty y102 (Int.tmod t101 8))) else (some (⟨#[32]⟩ : ByteArray))) else (some (rdOf ByteArray.empty y102 (Int.tmod t101 8))))) else (none)) else (none)))) = some r := h
 clear h
 replace H := Option.bind_eq_some_iff.mp H
 obtain ⟨t101, A30, H⟩ := H
 replace H : ((some (([(⟨#[]⟩ : ByteArray), (⟨#[32]⟩ : ByteArray), (⟨#[10]⟩ : ByteArray), (⟨#[32, 32]⟩ : ByteArray), (⟨#[35, 32, 97, 32, 40, 98, 10]⟩ : ByteArray), (⟨#[32, 35, 10, 32]⟩ : ByteArray), (⟨#[10, 10]⟩ : ByteArray), (⟨#[35, 255, 35, 32, 49, 10]⟩ : ByteArray)] : List ByteArray) : List ByteArray)).bind fun y102 => (if 0 ≤ (Int.tmod t101 8) then (if (Int.tmod t101 8) < (y102.length : Int) then (if (Int.tmod t101 3) = 0 then (if 0 ≤ (Int.tmod (wrap64 (Int.tdiv t101 8)) 8) then (if (Int.tmod (wrap64 (Int.tdiv t101 8)) 8) < (y102.length : Int) then (if (rdOf ByteArray.empty y102 (Int.tmod t101 8)).size + (rdOf ByteArray.empty y102 (Int.tmod (wrap64 (Int.tdiv t101 8)) 8)).size ≤ 9223372036854775807 then (if ((rdOf ByteArray.empty y102 (Int.tmod t101 8)) ++ (rdOf ByteArray.empty y102 (Int.tmod (wrap64 (Int.tdiv t101 8)) 8))).toList = ([] : List UInt8) then (if a1 = 0 then (some ((rdOf ByteArray.empty y102 (Int.tmod t101 8)) ++ (rdOf ByteArray.empty y102 (Int.tmod (wrap64 (Int.tdiv t101 8)) 8)))) else (some (⟨#[32]⟩ : ByteArray))) else (some ((rdOf ByteArray.empty y102 (Int.tmod t101 8)) ++ (rdOf ByteArray.empty y102 (Int.tmod (wrap64 (Int.tdiv t101 8)) 8))))) else (none)) else (none)) else (none)) else (if (rdOf ByteArray.empty y102 (Int.tmod t101 8)).toList = ([] : List UInt8) then (if a1 = 0 then (some (rdOf ByteArray.empty y102 (Int.tmod t101 8))) else (some (⟨#[32]⟩ : ByteArray))) else (some (rdOf ByteArray.empty y102 (Int.tmod t101 8))))) else (none)) else (none))) = some r := H
 have A3 := Aside0.mk A30
 clear A30
 obtain ⟨y102, hy102⟩ : ∃ y_ : List ByteArray, y_ = (([(⟨#[]⟩ : ByteArray), (⟨#[32]⟩ : ByteArray), (⟨#[10]⟩ : ByteArray), (⟨#[32, 32]⟩ : ByteArray), (⟨#[35, 32, 97, 32, 40, 98, 10]⟩ : ByteArray), (⟨#[32, 35, 10, 32]⟩ : ByteArray), (⟨#[10, 10]⟩ : ByteArray), (⟨#[35, 255, 35, 32, 49, 10]⟩ : ByteArray)] : List ByteArray)) := ⟨_, rfl⟩
 replace H : (if 0 ≤ (Int.tmod t101 8) then (if (Int.tmod t101 8) < (y102.length : Int) then (if (Int.tmod t101 3) = 0 then (if 0 ≤ (Int.tmod (wrap64 (Int.tdiv t101 8)) 8) then (if (Int.tmod (wrap64 (Int.tdiv t101 8)) 8) < (y102.length : Int) then (if (rdOf ByteArray.empty y102 (Int.tmod t101 8)).size + (rdOf ByteArray.empty y102 (Int.tmod (wrap64 (Int.tdiv t101 8)) 8)).size ≤ 9223372036854775807 then (if ((rdOf ByteArray.empty y102 (Int.tmod t101 8)) ++ (rdOf ByteArray.empty y102 (Int.tmod (wrap64 (Int.tdiv t101 8)) 8))).toList = ([] : List UInt8) then (if a1 = 0 then (some ((rdOf ByteArray.empty y102 (Int.tmod t101 8)) ++ (rdOf ByteArray.empty y102 (Int.tmod (wrap64 (Int.tdiv t101 8)) 8)))) else (some (⟨#[32]⟩ : ByteArray))) else (some ((rdOf ByteArray.empty y102 (Int.tmod t101 8)) ++ (rdOf ByteArray.empty y102 (Int.tmod (wrap64 (Int.tdiv t101 8)) 8))))) else (none)) else (none)) else (none)) else (if (rdOf ByteArray.empty y102 (Int.tmod t101 8)).toList = ([] : List UInt8) then (if a1 = 0 then (some (rdOf ByteArray.empty y102 (Int.tmod t101 8))) else (some (⟨#[32]⟩ : ByteArray))) else (some (rdOf ByteArray.empty y102 (Int.tmod t101 8))))) else (none)) else (none)) = some r := by first | (rw [hy102]; with_reducible exact H) | (have H2_ := (Option.bind_some _ _).symm.trans H; rw [hy102]; with_reducible exact H2_) | (have H2_ := (Option.bind_some _ _).symm.trans H; with_reducible exact H2_) | with_reducible exact H | (rw [hy102]; exact H) | exact H
 have Ny102 := Aside0.mk hy102
 clear hy102
 obtain ⟨ji4, hji4⟩ : ∃ j_ : Int, (Int.tmod t101 8) = j_ := ⟨_, rfl⟩
 replace H : (if 0 ≤ (ji4) then (if (ji4) < (y102.length : Int) then (if (Int.tmod t101 3) = 0 then (if 0 ≤ (Int.tmod (wrap64 (Int.tdiv t101 8)) 8) then (if (Int.tmod (wrap64 (Int.tdiv t101 8)) 8) < (y102.length : Int) then (if (rdOf ByteArray.empty y102 (ji4)).size + (rdOf ByteArray.empty y102 (Int.tmod (wrap64 (Int.tdiv t101 8)) 8)).size ≤ 9223372036854775807 then (if ((rdOf ByteArray.empty y102 (ji4)) ++ (rdOf ByteArray.empty y102 (Int.tmod (wrap64 (Int.tdiv t101 8)) 8))).toList = ([] : List UInt8) then (if a1 = 0 then (some ((rdOf ByteArray.empty y102 (ji4)) ++ (rdOf ByteArray.empty y102 (Int.tmod (wrap64 (Int.tdiv t101 8)) 8)))) else (some (⟨#[32]⟩ : ByteArray))) else (some ((rdOf ByteArray.empty y102 (ji4)) ++ (rdOf ByteArray.empty y102 (Int.tmod (wrap64 (Int.tdiv t101 8)) 8))))) else (none)) else (none)) else (none)) else (if (rdOf ByteArray.empty y102 (ji4)).toList = ([] : List UInt8) then (if a1 = 0 then (some (rdOf ByteArray.empty y102 (ji4))) else (some (⟨#[32]⟩ : ByteArray))) else (some (rdOf ByteArray.empty y102 (ji4))))) else (none)) else (none)) = some r := by first | (rw [hji4] at H; exact H) | (simp only [hji4] at H ⊢; exact H)
 (try rw [hji4] at A3)
 by_cases c5 : 0 ≤ (ji4)
 ·rw [if_pos c5] at H
  have c5b0 : decide (0 ≤ (ji4)) = true := decide_eq_true c5
  clear c5
  by_cases c6 : (ji4) < (y102.length : Int)
  ·rw [if_pos c6] at H
   have c6b0 : decide ((ji4) < (y102.length : Int)) = true := decide_eq_true c6
   clear c6
   by_cases c7 : (Int.tmod t101 3) = 0
   ·rw [if_pos c7] at H
    have c7b0 : ((Int.tmod t101 3) == 0) = true := beq_iff_eq.mpr c7
    have c7b1 : ((Int.tmod t101 3) != 0) = false := bne_eq_false_iff_eq.mpr c7
    clear c7
    obtain ⟨ji8, hji8⟩ : ∃ j_ : Int, (Int.tmod (wrap64 (Int.tdiv t101 8)) 8) = j_ := ⟨_, rfl⟩
    replace H : (if 0 ≤ (ji8) then (if (ji8) < (y102.length : Int) then (if (rdOf ByteArray.empty y102 (ji4)).size + (rdOf ByteArray.empty y102 (ji8)).size ≤ 9223372036854775807 then (if ((rdOf ByteArray.empty y102 (ji4)) ++ (rdOf ByteArray.empty y102 (ji8))).toList = ([] : List UInt8) then (if a1 = 0 then (some ((rdOf ByteArray.empty y102 (ji4)) ++ (rdOf ByteArray.empty y102 (ji8)))) else (some (⟨#[32]⟩ : ByteArray))) else (some ((rdOf ByteArray.empty y102 (ji4)) ++ (rdOf ByteArray.empty y102 (ji8))))) else (none)) else (none)) else (none)) = some r := by first | (rw [hji8] at H; exact H) | (simp only [hji8] at H ⊢; exact H)
    (try rw [hji8] at A3)
    by_cases c9 : 0 ≤ (ji8)
    ·rw [if_pos c9] at H
     have c9b0 : decide (0 ≤ (ji8)) = true := decide_eq_true c9
     clear c9
     by_cases c10 : (ji8) < (y102.length : Int)
     ·rw [if_pos c10] at H
      have c10b0 : decide ((ji8) < (y102.length : Int)) = true := decide_eq_true c10
      clear c10
      by_cases c11 : (rdOf ByteArray.empty y102 (ji4)).size + (rdOf ByteArray.empty y102 (ji8)).size ≤ 9223372036854775807
      ·rw [if_pos c11] at H
       have c11b0 := eq_true c11
       have c11b1 : decide ((rdOf ByteArray.empty y102 (ji4)).size + (rdOf ByteArray.empty y102 (ji8)).size ≤ 9223372036854775807) = true := decide_eq_true c11
       try have c11b2 : (9223372036854775807 < (rdOf ByteArray.empty y102 (ji4)).size + (rdOf ByteArray.empty y102 (ji8)).size) = False := eq_false (Nat.not_lt.2 c11)
       by_cases c12 : ((rdOf ByteArray.empty y102 (ji4)) ++ (rdOf ByteArray.empty y102 (ji8))).toList = ([] : List UInt8)
       ·rw [if_pos c12] at H
        have c12b0 : (((rdOf ByteArray.empty y102 (ji4)) ++ (rdOf ByteArray.empty y102 (ji8))).toList == ([] : List UInt8)) = true := beq_iff_eq.mpr c12
        have c12b1 : (((rdOf ByteArray.empty y102 (ji4)) ++ (rdOf ByteArray.empty y102 (ji8))).toList != ([] : List UInt8)) = false := bne_eq_false_iff_eq.mpr c12
        clear c12
        by_cases c13 : a1 = 0
        ·rw [if_pos c13] at H
         have c13b0 : (a1 == 0) = true := beq_iff_eq.mpr c13
         have c13b1 : (a1 != 0) = false := bne_eq_false_iff_eq.mpr c13
         clear c13
         obtain rfl := Option.some.inj H
         go_enter Tryd.func19, Tryd.ntmps19
         go_wp2_with (first | ((with_reducible refine gate_callee (f := 10) rfl ?_); refine goesL_ (some 9) rfl rfl Tryd.func10 (by kernel_rfl) rfl #[.int .i64 a0, .int .i64 1000000] rfl (by (try simp only [List.map_toArray, List.map_cons, List.map_nil]); first | done | rfl | (simp only [List.length_drop, List.length_take]; rfl)) ?_; (with_reducible refine (R1_Around.calls a0 1000000 t101 _ A3.out).mono ?_); rintro e w' ⟨rfl, ⟨nd, rfl⟩⟩; refine ⟨_, rfl, ?_⟩) | ((with_reducible refine gate_dst (N := 10) rfl ?_); refine Kd.R_lit Kd.string _ 9 ?hg (N := 10) ?hd (xs := ([(⟨#[]⟩ : ByteArray), (⟨#[32]⟩ : ByteArray), (⟨#[10]⟩ : ByteArray), (⟨#[32, 32]⟩ : ByteArray), (⟨#[35, 32, 97, 32, 40, 98, 10]⟩ : ByteArray), (⟨#[32, 35, 10, 32]⟩ : ByteArray), (⟨#[10, 10]⟩ : ByteArray), (⟨#[35, 255, 35, 32, 49, 10]⟩ : ByteArray)] : List ByteArray)) (inner := [.string (⟨#[]⟩ : ByteArray), .string (⟨#[32]⟩ : ByteArray), .string (⟨#[10]⟩ : ByteArray), .string (⟨#[32, 32]⟩ : ByteArray), .string (⟨#[35, 32, 97, 32, 40, 98, 10]⟩ : ByteArray), .string (⟨#[32, 35, 10, 32]⟩ : ByteArray), .string (⟨#[10, 10]⟩ : ByteArray), .string (⟨#[35, 255, 35, 32, 49, 10]⟩ : ByteArray)]) (ok := fun _ => True) (okp := fun _ => True) ?hr ?hp (fun _ hk => hk) trivial (Below.refl _ _) (Nat.le_refl _) (by simp) ?_; (case hd => rfl); (case hg => rfl); (case hr => first | (go_simp; done) | (go_simp; rfl)); (case hp => exact (Reps.one (show Kd.M Kd.string _ _ _ (⟨#[]⟩ : ByteArray) [.string (⟨#[]⟩ : ByteArray)] from rfl) (Reps.one (show Kd.M Kd.string _ _ _ (⟨#[32]⟩ : ByteArray) [.string (⟨#[32]⟩ : ByteArray)] from rfl) (Reps.one (show Kd.M Kd.string _ _ _ (⟨#[10]⟩ : ByteArray) [.string (⟨#[10]⟩ : ByteArray)] from rfl) (Reps.one (show Kd.M Kd.string _ _ _ (⟨#[32, 32]⟩ : ByteArray) [.string (⟨#[32, 32]⟩ : ByteArray)] from rfl) (Reps.one (show Kd.M Kd.string _ _ _ (⟨#[35, 32, 97, 32, 40, 98, 10]⟩ : ByteArray) [.string (⟨#[35, 32, 97, 32, 40, 98, 10]⟩ : ByteArray)] from rfl) (Reps.one (show Kd.M Kd.string _ _ _ (⟨#[32, 35, 10, 32]⟩ : ByteArray) [.string (⟨#[32, 35, 10, 32]⟩ : ByteArray)] from rfl) (Reps.one (show Kd.M Kd.string _ _ _ (⟨#[10, 10]⟩ : ByteArray) [.string (⟨#[10, 10]⟩ : ByteArray)] from rfl) (Reps.one (show Kd.M Kd.string _ _ _ (⟨#[35, 255, 35, 32, 49, 10]⟩ : ByteArray) [.string (⟨#[35, 255, 35, 32, 49, 10]⟩ : ByteArray)] from rfl) (Reps.none _ _)))))))))); intro v103 w14 ho15 hb hg_ hnew_; clear hg_ hnew_; (first | rw [← Ny102.out] at ho15 | (simp only [Int.reduceToNat] at ho15; rw [← Ny102.out] at ho15)); have n0_ := Aside0.mk (Kd.R_lower ho15 (below_size (by repeat (first | (with_reducible first | exact HB.out | apply below_alloc | apply pw_below_drewN | apply below_drew1) | exact HB.out)))); have n1_ := Aside0.mk (below_step (by repeat (first | (with_reducible first | exact HB.out | apply below_alloc | apply pw_below_drewN | apply below_drew1) | exact HB.out)) hb); clear HB; have HO104 := n0_; have HB := n1_; clear n0_ n1_; clear hb ho15; obtain ⟨Ao16, co16, eo16⟩ := Kd.R_slice HO104.out; subst eo16; have p105 : 0 ≤ ((ji4) : Int) := of_decide_eq_true (by first | (with_reducible assumption) | assumption); have q105 : (ji4) < (y102.length : Int) := of_decide_eq_true (by first | (with_reducible assumption) | assumption); obtain ⟨ad105, e105, hx105_0⟩ := Kd.at_string (Kd.R_reads' HO104.out).2.2 (ji4) p105 q105; cases e105; replace p105 := eq_true p105; replace q105 := eq_true q105; have p106 : 0 ≤ ((ji8) : Int) := of_decide_eq_true (by first | (with_reducible assumption) | assumption); have q106 : (ji8) < (y102.length : Int) := of_decide_eq_true (by first | (with_reducible assumption) | assumption); obtain ⟨ad106, e106, hx106_0⟩ := Kd.at_string (Kd.R_reads' HO104.out).2.2 (ji8) p106 q106; obtain rfl : ad105 = ad106 := (by injection e106); replace p106 := eq_true p106; replace q106 := eq_true q106))
         go_ret
         exact ⟨by first | rfl | (simp [errW_none, errW_some] <;> rfl) | (simp only [← hji4, ← hji8]; first | rfl | (simp [errW_none, errW_some] <;> rfl)) | (simp [*, errW_none, errW_some] <;> rfl), by repeat (first | (with_reducible first | exact HB.out | apply below_alloc | apply pw_below_drewN | apply below_drew1) | exact HB.out)⟩
        ·rw [if_neg c13] at H
         have c13b0 : (a1 == 0) = false := beq_eq_false_iff_ne.mpr c13
         have c13b1 : (a1 != 0) = true := bne_iff_ne.mpr c13
         obtain rfl := Option.some.inj H
         go_enter Tryd.func19, Tryd.ntmps19
         go_wp2_with (first | ((with_reducible refine gate_callee (f := 10) rfl ?_); refine goesL_ (some 9) rfl rfl Tryd.func10 (by kernel_rfl) rfl #[.int .i64 a0, .int .i64 1000000] rfl (by (try simp only [List.map_toArray, List.map_cons, List.map_nil]); first | done | rfl | (simp only [List.length_drop, List.length_take]; rfl)) ?_; (with_reducible refine (R1_Around.calls a0 1000000 t101 _ A3.out).mono ?_); rintro e w' ⟨rfl, ⟨nd, rfl⟩⟩; refine ⟨_, rfl, ?_⟩) | ((with_reducible refine gate_dst (N := 10) rfl ?_); refine Kd.R_lit Kd.string _ 9 ?hg (N := 10) ?hd (xs := ([(⟨#[]⟩ : ByteArray), (⟨#[32]⟩ : ByteArray), (⟨#[10]⟩ : ByteArray), (⟨#[32, 32]⟩ : ByteArray), (⟨#[35, 32, 97, 32, 40, 98, 10]⟩ : ByteArray), (⟨#[32, 35, 10, 32]⟩ : ByteArray), (⟨#[10, 10]⟩ : ByteArray), (⟨#[35, 255, 35, 32, 49, 10]⟩ : ByteArray)] : List ByteArray)) (inner := [.string (⟨#[]⟩ : ByteArray), .string (⟨#[32]⟩ : ByteArray), .string (⟨#[10]⟩ : ByteArray), .string (⟨#[32, 32]⟩ : ByteArray), .string (⟨#[35, 32, 97, 32, 40, 98, 10]⟩ : ByteArray), .string (⟨#[32, 35, 10, 32]⟩ : ByteArray), .string (⟨#[10, 10]⟩ : ByteArray), .string (⟨#[35, 255, 35, 32, 49, 10]⟩ : ByteArray)]) (ok := fun _ => True) (okp := fun _ => True) ?hr ?hp (fun _ hk => hk) trivial (Below.refl _ _) (Nat.le_refl _) (by simp) ?_; (case hd => rfl); (case hg => rfl); (case hr => first | (go_simp; done) | (go_simp; rfl)); (case hp => exact (Reps.one (show Kd.M Kd.string _ _ _ (⟨#[]⟩ : ByteArray) [.string (⟨#[]⟩ : ByteArray)] from rfl) (Reps.one (show Kd.M Kd.string _ _ _ (⟨#[32]⟩ : ByteArray) [.string (⟨#[32]⟩ : ByteArray)] from rfl) (Reps.one (show Kd.M Kd.string _ _ _ (⟨#[10]⟩ : ByteArray) [.string (⟨#[10]⟩ : ByteArray)] from rfl) (Reps.one (show Kd.M Kd.string _ _ _ (⟨#[32, 32]⟩ : ByteArray) [.string (⟨#[32, 32]⟩ : ByteArray)] from rfl) (Reps.one (show Kd.M Kd.string _ _ _ (⟨#[35, 32, 97, 32, 40, 98, 10]⟩ : ByteArray) [.string (⟨#[35, 32, 97, 32, 40, 98, 10]⟩ : ByteArray)] from rfl) (Reps.one (show Kd.M Kd.string _ _ _ (⟨#[32, 35, 10, 32]⟩ : ByteArray) [.string (⟨#[32, 35, 10, 32]⟩ : ByteArray)] from rfl) (Reps.one (show Kd.M Kd.string _ _ _ (⟨#[10, 10]⟩ : ByteArray) [.string (⟨#[10, 10]⟩ : ByteArray)] from rfl) (Reps.one (show Kd.M Kd.string _ _ _ (⟨#[35, 255, 35, 32, 49, 10]⟩ : ByteArray) [.string (⟨#[35, 255, 35, 32, 49, 10]⟩ : ByteArray)] from rfl) (Reps.none _ _)))))))))); intro v103 w17 ho18 hb hg_ hnew_; clear hg_ hnew_; (first | rw [← Ny102.out] at ho18 | (simp only [Int.reduceToNat] at ho18; rw [← Ny102.out] at ho18)); have n0_ := Aside0.mk (Kd.R_lower ho18 (below_size (by repeat (first | (with_reducible first | exact HB.out | apply below_alloc | apply pw_below_drewN | apply below_drew1) | exact HB.out)))); have n1_ := Aside0.mk (below_step (by repeat (first | (with_reducible first | exact HB.out | apply below_alloc | apply pw_below_drewN | apply below_drew1) | exact HB.out)) hb); clear HB; have HO104 := n0_; have HB := n1_; clear n0_ n1_; clear hb ho18; obtain ⟨Ao19, co19, eo19⟩ := Kd.R_slice HO104.out; subst eo19; have p105 : 0 ≤ ((ji4) : Int) := of_decide_eq_true (by first | (with_reducible assumption) | assumption); have q105 : (ji4) < (y102.length : Int) := of_decide_eq_true (by first | (with_reducible assumption) | assumption); obtain ⟨ad105, e105, hx105_0⟩ := Kd.at_string (Kd.R_reads' HO104.out).2.2 (ji4) p105 q105; cases e105; replace p105 := eq_true p105; replace q105 := eq_true q105; have p106 : 0 ≤ ((ji8) : Int) := of_decide_eq_true (by first | (with_reducible assumption) | assumption); have q106 : (ji8) < (y102.length : Int) := of_decide_eq_true (by first | (with_reducible assumption) | assumption); obtain ⟨ad106, e106, hx106_0⟩ := Kd.at_string (Kd.R_reads' HO104.out).2.2 (ji8) p106 q106; obtain rfl : ad105 = ad106 := (by injection e106); replace p106 := eq_true p106; replace q106 := eq_true q106))
         go_ret
         exact ⟨by first | rfl | (simp [errW_none, errW_some] <;> rfl) | (simp only [← hji4, ← hji8]; first | rfl | (simp [errW_none, errW_some] <;> rfl)) | (simp [*, errW_none, errW_some] <;> rfl), by repeat (first | (with_reducible first | exact HB.out | apply below_alloc | apply pw_below_drewN | apply below_drew1) | exact HB.out)⟩
       ·rw [if_neg c12] at H
        have c12b0 : (((rdOf ByteArray.empty y102 (ji4)) ++ (rdOf ByteArray.empty y102 (ji8))).toList == ([] : List UInt8)) = false := beq_eq_false_iff_ne.mpr c12
        have c12b1 : (((rdOf ByteArray.empty y102 (ji4)) ++ (rdOf ByteArray.empty y102 (ji8))).toList != ([] : List UInt8)) = true := bne_iff_ne.mpr c12
        obtain rfl := Option.some.inj H
        go_enter Tryd.func19, Tryd.ntmps19
        go_wp2_with (first | ((with_reducible refine gate_callee (f := 10) rfl ?_); refine goesL_ (some 9) rfl rfl Tryd.func10 (by kernel_rfl) rfl #[.int .i64 a0, .int .i64 1000000] rfl (by (try simp only [List.map_toArray, List.map_cons, List.map_nil]); first | done | rfl | (simp only [List.length_drop, List.length_take]; rfl)) ?_; (with_reducible refine (R1_Around.calls a0 1000000 t101 _ A3.out).mono ?_); rintro e w' ⟨rfl, ⟨nd, rfl⟩⟩; refine ⟨_, rfl, ?_⟩) | ((with_reducible refine gate_dst (N := 10) rfl ?_); refine Kd.R_lit Kd.string _ 9 ?hg (N := 10) ?hd (xs := ([(⟨#[]⟩ : ByteArray), (⟨#[32]⟩ : ByteArray), (⟨#[10]⟩ : ByteArray), (⟨#[32, 32]⟩ : ByteArray), (⟨#[35, 32, 97, 32, 40, 98, 10]⟩ : ByteArray), (⟨#[32, 35, 10, 32]⟩ : ByteArray), (⟨#[10, 10]⟩ : ByteArray), (⟨#[35, 255, 35, 32, 49, 10]⟩ : ByteArray)] : List ByteArray)) (inner := [.string (⟨#[]⟩ : ByteArray), .string (⟨#[32]⟩ : ByteArray), .string (⟨#[10]⟩ : ByteArray), .string (⟨#[32, 32]⟩ : ByteArray), .string (⟨#[35, 32, 97, 32, 40, 98, 10]⟩ : ByteArray), .string (⟨#[32, 35, 10, 32]⟩ : ByteArray), .string (⟨#[10, 10]⟩ : ByteArray), .string (⟨#[35, 255, 35, 32, 49, 10]⟩ : ByteArray)]) (ok := fun _ => True) (okp := fun _ => True) ?hr ?hp (fun _ hk => hk) trivial (Below.refl _ _) (Nat.le_refl _) (by simp) ?_; (case hd => rfl); (case hg => rfl); (case hr => first | (go_simp; done) | (go_simp; rfl)); (case hp => exact (Reps.one (show Kd.M Kd.string _ _ _ (⟨#[]⟩ : ByteArray) [.string (⟨#[]⟩ : ByteArray)] from rfl) (Reps.one (show Kd.M Kd.string _ _ _ (⟨#[32]⟩ : ByteArray) [.string (⟨#[32]⟩ : ByteArray)] from rfl) (Reps.one (show Kd.M Kd.string _ _ _ (⟨#[10]⟩ : ByteArray) [.string (⟨#[10]⟩ : ByteArray)] from rfl) (Reps.one (show Kd.M Kd.string _ _ _ (⟨#[32, 32]⟩ : ByteArray) [.string (⟨#[32, 32]⟩ : ByteArray)] from rfl) (Reps.one (show Kd.M Kd.string _ _ _ (⟨#[35, 32, 97, 32, 40, 98, 10]⟩ : ByteArray) [.string (⟨#[35, 32, 97, 32, 40, 98, 10]⟩ : ByteArray)] from rfl) (Reps.one (show Kd.M Kd.string _ _ _ (⟨#[32, 35, 10, 32]⟩ : ByteArray) [.string (⟨#[32, 35, 10, 32]⟩ : ByteArray)] from rfl) (Reps.one (show Kd.M Kd.string _ _ _ (⟨#[10, 10]⟩ : ByteArray) [.string (⟨#[10, 10]⟩ : ByteArray)] from rfl) (Reps.one (show Kd.M Kd.string _ _ _ (⟨#[35, 255, 35, 32, 49, 10]⟩ : ByteArray) [.string (⟨#[35, 255, 35, 32, 49, 10]⟩ : ByteArray)] from rfl) (Reps.none _ _)))))))))); intro v103 w20 ho21 hb hg_ hnew_; clear hg_ hnew_; (first | rw [← Ny102.out] at ho21 | (simp only [Int.reduceToNat] at ho21; rw [← Ny102.out] at ho21)); have n0_ := Aside0.mk (Kd.R_lower ho21 (below_size (by repeat (first | (with_reducible first | exact HB.out | apply below_alloc | apply pw_below_drewN | apply below_drew1) | exact HB.out)))); have n1_ := Aside0.mk (below_step (by repeat (first | (with_reducible first | exact HB.out | apply below_alloc | apply pw_below_drewN | apply below_drew1) | exact HB.out)) hb); clear HB; have HO104 := n0_; have HB := n1_; clear n0_ n1_; clear hb ho21; obtain ⟨Ao22, co22, eo22⟩ := Kd.R_slice HO104.out; subst eo22; have p105 : 0 ≤ ((ji4) : Int) := of_decide_eq_true (by first | (with_reducible assumption) | assumption); have q105 : (ji4) < (y102.length : Int) := of_decide_eq_true (by first | (with_reducible assumption) | assumption); obtain ⟨ad105, e105, hx105_0⟩ := Kd.at_string (Kd.R_reads' HO104.out).2.2 (ji4) p105 q105; cases e105; replace p105 := eq_true p105; replace q105 := eq_true q105; have p106 : 0 ≤ ((ji8) : Int) := of_decide_eq_true (by first | (with_reducible assumption) | assumption); have q106 : (ji8) < (y102.length : Int) := of_decide_eq_true (by first | (with_reducible assumption) | assumption); obtain ⟨ad106, e106, hx106_0⟩ := Kd.at_string (Kd.R_reads' HO104.out).2.2 (ji8) p106 q106; obtain rfl : ad105 = ad106 := (by injection e106); replace p106 := eq_true p106; replace q106 := eq_true q106))
        go_ret
        exact ⟨by first | rfl | (simp [errW_none, errW_some] <;> rfl) | (simp only [← hji4, ← hji8]; first | rfl | (simp [errW_none, errW_some] <;> rfl)) | (simp [*, errW_none, errW_some] <;> rfl), by repeat (first | (with_reducible first | exact HB.out | apply below_alloc | apply pw_below_drewN | apply below_drew1) | exact HB.out)⟩
      ·rw [if_neg c11] at H
       exact absurd H (by simp)
     ·rw [if_neg c10] at H
      exact absurd H (by simp)
    ·rw [if_neg c9] at H
     exact absurd H (by simp)
   ·rw [if_neg c7] at H
    have c7b0 : ((Int.tmod t101 3) == 0) = false := beq_eq_false_iff_ne.mpr c7
    have c7b1 : ((Int.tmod t101 3) != 0) = true := bne_iff_ne.mpr c7
    by_cases c23 : (rdOf ByteArray.empty y102 (ji4)).toList = ([] : List UInt8)
    ·rw [if_pos c23] at H
     have c23b0 : ((rdOf ByteArray.empty y102 (ji4)).toList == ([] : List UInt8)) = true := beq_iff_eq.mpr c23
     have c23b1 : ((rdOf ByteArray.empty y102 (ji4)).toList != ([] : List UInt8)) = false := bne_eq_false_iff_eq.mpr c23
     clear c23
     by_cases c24 : a1 = 0
     ·rw [if_pos c24] at H
      have c24b0 : (a1 == 0) = true := beq_iff_eq.mpr c24
      have c24b1 : (a1 != 0) = false := bne_eq_false_iff_eq.mpr c24
      clear c24
      obtain rfl := Option.some.inj H
      go_enter Tryd.func19, Tryd.ntmps19
      go_wp2_with (first | ((with_reducible refine gate_callee (f := 10) rfl ?_); refine goesL_ (some 9) rfl rfl Tryd.func10 (by kernel_rfl) rfl #[.int .i64 a0, .int .i64 1000000] rfl (by (try simp only [List.map_toArray, List.map_cons, List.map_nil]); first | done | rfl | (simp only [List.length_drop, List.length_take]; rfl)) ?_; (with_reducible refine (R1_Around.calls a0 1000000 t101 _ A3.out).mono ?_); rintro e w' ⟨rfl, ⟨nd, rfl⟩⟩; refine ⟨_, rfl, ?_⟩) | ((with_reducible refine gate_dst (N := 10) rfl ?_); refine Kd.R_lit Kd.string _ 9 ?hg (N := 10) ?hd (xs := ([(⟨#[]⟩ : ByteArray), (⟨#[32]⟩ : ByteArray), (⟨#[10]⟩ : ByteArray), (⟨#[32, 32]⟩ : ByteArray), (⟨#[35, 32, 97, 32, 40, 98, 10]⟩ : ByteArray), (⟨#[32, 35, 10, 32]⟩ : ByteArray), (⟨#[10, 10]⟩ : ByteArray), (⟨#[35, 255, 35, 32, 49, 10]⟩ : ByteArray)] : List ByteArray)) (inner := [.string (⟨#[]⟩ : ByteArray), .string (⟨#[32]⟩ : ByteArray), .string (⟨#[10]⟩ : ByteArray), .string (⟨#[32, 32]⟩ : ByteArray), .string (⟨#[35, 32, 97, 32, 40, 98, 10]⟩ : ByteArray), .string (⟨#[32, 35, 10, 32]⟩ : ByteArray), .string (⟨#[10, 10]⟩ : ByteArray), .string (⟨#[35, 255, 35, 32, 49, 10]⟩ : ByteArray)]) (ok := fun _ => True) (okp := fun _ => True) ?hr ?hp (fun _ hk => hk) trivial (Below.refl _ _) (Nat.le_refl _) (by simp) ?_; (case hd => rfl); (case hg => rfl); (case hr => first | (go_simp; done) | (go_simp; rfl)); (case hp => exact (Reps.one (show Kd.M Kd.string _ _ _ (⟨#[]⟩ : ByteArray) [.string (⟨#[]⟩ : ByteArray)] from rfl) (Reps.one (show Kd.M Kd.string _ _ _ (⟨#[32]⟩ : ByteArray) [.string (⟨#[32]⟩ : ByteArray)] from rfl) (Reps.one (show Kd.M Kd.string _ _ _ (⟨#[10]⟩ : ByteArray) [.string (⟨#[10]⟩ : ByteArray)] from rfl) (Reps.one (show Kd.M Kd.string _ _ _ (⟨#[32, 32]⟩ : ByteArray) [.string (⟨#[32, 32]⟩ : ByteArray)] from rfl) (Reps.one (show Kd.M Kd.string _ _ _ (⟨#[35, 32, 97, 32, 40, 98, 10]⟩ : ByteArray) [.string (⟨#[35, 32, 97, 32, 40, 98, 10]⟩ : ByteArray)] from rfl) (Reps.one (show Kd.M Kd.string _ _ _ (⟨#[32, 35, 10, 32]⟩ : ByteArray) [.string (⟨#[32, 35, 10, 32]⟩ : ByteArray)] from rfl) (Reps.one (show Kd.M Kd.string _ _ _ (⟨#[10, 10]⟩ : ByteArray) [.string (⟨#[10, 10]⟩ : ByteArray)] from rfl) (Reps.one (show Kd.M Kd.string _ _ _ (⟨#[35, 255, 35, 32, 49, 10]⟩ : ByteArray) [.string (⟨#[35, 255, 35, 32, 49, 10]⟩ : ByteArray)] from rfl) (Reps.none _ _)))))))))); intro v103 w25 ho26 hb hg_ hnew_; clear hg_ hnew_; (first | rw [← Ny102.out] at ho26 | (simp only [Int.reduceToNat] at ho26; rw [← Ny102.out] at ho26)); have n0_ := Aside0.mk (Kd.R_lower ho26 (below_size (by repeat (first | (with_reducible first | exact HB.out | apply below_alloc | apply pw_below_drewN | apply below_drew1) | exact HB.out)))); have n1_ := Aside0.mk (below_step (by repeat (first | (with_reducible first | exact HB.out | apply below_alloc | apply pw_below_drewN | apply below_drew1) | exact HB.out)) hb); clear HB; have HO104 := n0_; have HB := n1_; clear n0_ n1_; clear hb ho26; obtain ⟨Ao27, co27, eo27⟩ := Kd.R_slice HO104.out; subst eo27; have p105 : 0 ≤ ((ji4) : Int) := of_decide_eq_true (by first | (with_reducible assumption) | assumption); have q105 : (ji4) < (y102.length : Int) := of_decide_eq_true (by first | (with_reducible assumption) | assumption); obtain ⟨ad105, e105, hx105_0⟩ := Kd.at_string (Kd.R_reads' HO104.out).2.2 (ji4) p105 q105; cases e105; replace p105 := eq_true p105; replace q105 := eq_true q105))
      go_ret
      exact ⟨by first | rfl | (simp [errW_none, errW_some] <;> rfl) | (simp only [← hji4]; first | rfl | (simp [errW_none, errW_some] <;> rfl)) | (simp [*, errW_none, errW_some] <;> rfl), by repeat (first | (with_reducible first | exact HB.out | apply below_alloc | apply pw_below_drewN | apply below_drew1) | exact HB.out)⟩
     ·rw [if_neg c24] at H
      have c24b0 : (a1 == 0) = false := beq_eq_false_iff_ne.mpr c24
      have c24b1 : (a1 != 0) = true := bne_iff_ne.mpr c24
      obtain rfl := Option.some.inj H
      go_enter Tryd.func19, Tryd.ntmps19
      go_wp2_with (first | ((with_reducible refine gate_callee (f := 10) rfl ?_); refine goesL_ (some 9) rfl rfl Tryd.func10 (by kernel_rfl) rfl #[.int .i64 a0, .int .i64 1000000] rfl (by (try simp only [List.map_toArray, List.map_cons, List.map_nil]); first | done | rfl | (simp only [List.length_drop, List.length_take]; rfl)) ?_; (with_reducible refine (R1_Around.calls a0 1000000 t101 _ A3.out).mono ?_); rintro e w' ⟨rfl, ⟨nd, rfl⟩⟩; refine ⟨_, rfl, ?_⟩) | ((with_reducible refine gate_dst (N := 10) rfl ?_); refine Kd.R_lit Kd.string _ 9 ?hg (N := 10) ?hd (xs := ([(⟨#[]⟩ : ByteArray), (⟨#[32]⟩ : ByteArray), (⟨#[10]⟩ : ByteArray), (⟨#[32, 32]⟩ : ByteArray), (⟨#[35, 32, 97, 32, 40, 98, 10]⟩ : ByteArray), (⟨#[32, 35, 10, 32]⟩ : ByteArray), (⟨#[10, 10]⟩ : ByteArray), (⟨#[35, 255, 35, 32, 49, 10]⟩ : ByteArray)] : List ByteArray)) (inner := [.string (⟨#[]⟩ : ByteArray), .string (⟨#[32]⟩ : ByteArray), .string (⟨#[10]⟩ : ByteArray), .string (⟨#[32, 32]⟩ : ByteArray), .string (⟨#[35, 32, 97, 32, 40, 98, 10]⟩ : ByteArray), .string (⟨#[32, 35, 10, 32]⟩ : ByteArray), .string (⟨#[10, 10]⟩ : ByteArray), .string (⟨#[35, 255, 35, 32, 49, 10]⟩ : ByteArray)]) (ok := fun _ => True) (okp := fun _ => True) ?hr ?hp (fun _ hk => hk) trivial (Below.refl _ _) (Nat.le_refl _) (by simp) ?_; (case hd => rfl); (case hg => rfl); (case hr => first | (go_simp; done) | (go_simp; rfl)); (case hp => exact (Reps.one (show Kd.M Kd.string _ _ _ (⟨#[]⟩ : ByteArray) [.string (⟨#[]⟩ : ByteArray)] from rfl) (Reps.one (show Kd.M Kd.string _ _ _ (⟨#[32]⟩ : ByteArray) [.string (⟨#[32]⟩ : ByteArray)] from rfl) (Reps.one (show Kd.M Kd.string _ _ _ (⟨#[10]⟩ : ByteArray) [.string (⟨#[10]⟩ : ByteArray)] from rfl) (Reps.one (show Kd.M Kd.string _ _ _ (⟨#[32, 32]⟩ : ByteArray) [.string (⟨#[32, 32]⟩ : ByteArray)] from rfl) (Reps.one (show Kd.M Kd.string _ _ _ (⟨#[35, 32, 97, 32, 40, 98, 10]⟩ : ByteArray) [.string (⟨#[35, 32, 97, 32, 40, 98, 10]⟩ : ByteArray)] from rfl) (Reps.one (show Kd.M Kd.string _ _ _ (⟨#[32, 35, 10, 32]⟩ : ByteArray) [.string (⟨#[32, 35, 10, 32]⟩ : ByteArray)] from rfl) (Reps.one (show Kd.M Kd.string _ _ _ (⟨#[10, 10]⟩ : ByteArray) [.string (⟨#[10, 10]⟩ : ByteArray)] from rfl) (Reps.one (show Kd.M Kd.string _ _ _ (⟨#[35, 255, 35, 32, 49, 10]⟩ : ByteArray) [.string (⟨#[35, 255, 35, 32, 49, 10]⟩ : ByteArray)] from rfl) (Reps.none _ _)))))))))); intro v103 w28 ho29 hb hg_ hnew_; clear hg_ hnew_; (first | rw [← Ny102.out] at ho29 | (simp only [Int.reduceToNat] at ho29; rw [← Ny102.out] at ho29)); have n0_ := Aside0.mk (Kd.R_lower ho29 (below_size (by repeat (first | (with_reducible first | exact HB.out | apply below_alloc | apply pw_below_drewN | apply below_drew1) | exact HB.out)))); have n1_ := Aside0.mk (below_step (by repeat (first | (with_reducible first | exact HB.out | apply below_alloc | apply pw_below_drewN | apply below_drew1) | exact HB.out)) hb); clear HB; have HO104 := n0_; have HB := n1_; clear n0_ n1_; clear hb ho29; obtain ⟨Ao30, co30, eo30⟩ := Kd.R_slice HO104.out; subst eo30; have p105 : 0 ≤ ((ji4) : Int) := of_decide_eq_true (by first | (with_reducible assumption) | assumption); have q105 : (ji4) < (y102.length : Int) := of_decide_eq_true (by first | (with_reducible assumption) | assumption); obtain ⟨ad105, e105, hx105_0⟩ := Kd.at_string (Kd.R_reads' HO104.out).2.2 (ji4) p105 q105; cases e105; replace p105 := eq_true p105; replace q105 := eq_true q105))
      go_ret
      exact ⟨by first | rfl | (simp [errW_none, errW_some] <;> rfl) | (simp only [← hji4]; first | rfl | (simp [errW_none, errW_some] <;> rfl)) | (simp [*, errW_none, errW_some] <;> rfl), by repeat (first | (with_reducible first | exact HB.out | apply below_alloc | apply pw_below_drewN | apply below_drew1) | exact HB.out)⟩
    ·rw [if_neg c23] at H
     have c23b0 : ((rdOf ByteArray.empty y102 (ji4)).toList == ([] : List UInt8)) = false := beq_eq_false_iff_ne.mpr c23
     have c23b1 : ((rdOf ByteArray.empty y102 (ji4)).toList != ([] : List UInt8)) = true := bne_iff_ne.mpr c23
     obtain rfl := Option.some.inj H
     go_enter Tryd.func19, Tryd.ntmps19
     go_wp2_with (first | ((with_reducible refine gate_callee (f := 10) rfl ?_); refine goesL_ (some 9) rfl rfl Tryd.func10 (by kernel_rfl) rfl #[.int .i64 a0, .int .i64 1000000] rfl (by (try simp only [List.map_toArray, List.map_cons, List.map_nil]); first | done | rfl | (simp only [List.length_drop, List.length_take]; rfl)) ?_; (with_reducible refine (R1_Around.calls a0 1000000 t101 _ A3.out).mono ?_); rintro e w' ⟨rfl, ⟨nd, rfl⟩⟩; refine ⟨_, rfl, ?_⟩) | ((with_reducible refine gate_dst (N := 10) rfl ?_); refine Kd.R_lit Kd.string _ 9 ?hg (N := 10) ?hd (xs := ([(⟨#[]⟩ : ByteArray), (⟨#[32]⟩ : ByteArray), (⟨#[10]⟩ : ByteArray), (⟨#[32, 32]⟩ : ByteArray), (⟨#[35, 32, 97, 32, 40, 98, 10]⟩ : ByteArray), (⟨#[32, 35, 10, 32]⟩ : ByteArray), (⟨#[10, 10]⟩ : ByteArray), (⟨#[35, 255, 35, 32, 49, 10]⟩ : ByteArray)] : List ByteArray)) (inner := [.string (⟨#[]⟩ : ByteArray), .string (⟨#[32]⟩ : ByteArray), .string (⟨#[10]⟩ : ByteArray), .string (⟨#[32, 32]⟩ : ByteArray), .string (⟨#[35, 32, 97, 32, 40, 98, 10]⟩ : ByteArray), .string (⟨#[32, 35, 10, 32]⟩ : ByteArray), .string (⟨#[10, 10]⟩ : ByteArray), .string (⟨#[35, 255, 35, 32, 49, 10]⟩ : ByteArray)]) (ok := fun _ => True) (okp := fun _ => True) ?hr ?hp (fun _ hk => hk) trivial (Below.refl _ _) (Nat.le_refl _) (by simp) ?_; (case hd => rfl); (case hg => rfl); (case hr => first | (go_simp; done) | (go_simp; rfl)); (case hp => exact (Reps.one (show Kd.M Kd.string _ _ _ (⟨#[]⟩ : ByteArray) [.string (⟨#[]⟩ : ByteArray)] from rfl) (Reps.one (show Kd.M Kd.string _ _ _ (⟨#[32]⟩ : ByteArray) [.string (⟨#[32]⟩ : ByteArray)] from rfl) (Reps.one (show Kd.M Kd.string _ _ _ (⟨#[10]⟩ : ByteArray) [.string (⟨#[10]⟩ : ByteArray)] from rfl) (Reps.one (show Kd.M Kd.string _ _ _ (⟨#[32, 32]⟩ : ByteArray) [.string (⟨#[32, 32]⟩ : ByteArray)] from rfl) (Reps.one (show Kd.M Kd.string _ _ _ (⟨#[35, 32, 97, 32, 40, 98, 10]⟩ : ByteArray) [.string (⟨#[35, 32, 97, 32, 40, 98, 10]⟩ : ByteArray)] from rfl) (Reps.one (show Kd.M Kd.string _ _ _ (⟨#[32, 35, 10, 32]⟩ : ByteArray) [.string (⟨#[32, 35, 10, 32]⟩ : ByteArray)] from rfl) (Reps.one (show Kd.M Kd.string _ _ _ (⟨#[10, 10]⟩ : ByteArray) [.string (⟨#[10, 10]⟩ : ByteArray)] from rfl) (Reps.one (show Kd.M Kd.string _ _ _ (⟨#[35, 255, 35, 32, 49, 10]⟩ : ByteArray) [.string (⟨#[35, 255, 35, 32, 49, 10]⟩ : ByteArray)] from rfl) (Reps.none _ _)))))))))); intro v103 w31 ho32 hb hg_ hnew_; clear hg_ hnew_; (first | rw [← Ny102.out] at ho32 | (simp only [Int.reduceToNat] at ho32; rw [← Ny102.out] at ho32)); have n0_ := Aside0.mk (Kd.R_lower ho32 (below_size (by repeat (first | (with_reducible first | exact HB.out | apply below_alloc | apply pw_below_drewN | apply below_drew1) | exact HB.out)))); have n1_ := Aside0.mk (below_step (by repeat (first | (with_reducible first | exact HB.out | apply below_alloc | apply pw_below_drewN | apply below_drew1) | exact HB.out)) hb); clear HB; have HO104 := n0_; have HB := n1_; clear n0_ n1_; clear hb ho32; obtain ⟨Ao33, co33, eo33⟩ := Kd.R_slice HO104.out; subst eo33; have p105 : 0 ≤ ((ji4) : Int) := of_decide_eq_true (by first | (with_reducible assumption) | assumption); have q105 : (ji4) < (y102.length : Int) := of_decide_eq_true (by first | (with_reducible assumption) | assumption); obtain ⟨ad105, e105, hx105_0⟩ := Kd.at_string (Kd.R_reads' HO104.out).2.2 (ji4) p105 q105; cases e105; replace p105 := eq_true p105; replace q105 := eq_true q105))
     go_ret
     exact ⟨by first | rfl | (simp [errW_none, errW_some] <;> rfl) | (simp only [← hji4]; first | rfl | (simp [errW_none, errW_some] <;> rfl)) | (simp [*, errW_none, errW_some] <;> rfl), by repeat (first | (with_reducible first | exact HB.out | apply below_alloc | apply pw_below_drewN | apply below_drew1) | exact HB.out)⟩
  ·rw [if_neg c6] at H
   exact absurd H (by simp)
 ·rw [if_neg c5] at H
  exact absurd H (by simp)

/-! ### R1_At: function 20 -/
def R1_At.f (l0 : List Int) (a1 : Int) (a2 : Int) : Option (Int) := if a1 < 0 then (some 0) else (if a1 ≥ (l0.length : Int) then (some 0) else (if 0 ≤ a1 then (if a1 < (l0.length : Int) then ((R1_Around.f (rd l0 a1) a2).bind fun t108 => (some t108)) else (none)) else (none)))
set_option maxHeartbeats 8000000 in
set_option maxRecDepth 100000 in
theorem R1_At.calls (A0 : Option Addr) (c0 : Nat) (l0 : List Int) (a1 : Int) (a2 : Int) (r : Int) (w : World) (hr0 : Kd.C (Kd.int .i64) w A0 l0.length l0) (hc0 : l0.length ≤ c0) (h : R1_At.f l0 a1 a2 = some r) :
  Calls Tryd.prog 20 #[.slice A0 l0.length c0, .int .i64 a1, .int .i64 a2] w fun e w' => e = .returned (.int .i64 r) ∧ Drawn0 w w' := by
 have HR0 := Aside0.mk hr0
 have HC0 := Aside0.mk hc0
 clear hr0 hc0
 have H : (if a1 < 0 then (some 0) else (if a1 ≥ (l0.length : Int) then (some 0) else (if 0 ≤ a1 then (if a1 < (l0.length : Int) then ((R1_Around.f (rd l0 a1) a2).bind fun t108 => (some t108)) else (none)) else (none)))) = some r := h
 clear h
 by_cases c4 : a1 < 0
 ·rw [if_pos c4] at H
  have c4b0 : decide (a1 < 0) = true := decide_eq_true c4
  clear c4
  obtain rfl := Option.some.inj H
  go_enter Tryd.func20, Tryd.ntmps20
  go_wp2
  go_ret
  exact ⟨by first | rfl | (simp; done) | (simp [*]; done), by repeat (first | exact Drawn0.refl _ | apply Drawn0.step)⟩
 ·rw [if_neg c4] at H
  have c4b0 : decide (a1 < 0) = false := decide_eq_false c4
  clear c4
  by_cases c5 : a1 ≥ (l0.length : Int)
  ·rw [if_pos c5] at H
   have c5b0 : decide ((l0.length : Int) ≤ a1) = true := decide_eq_true c5
   clear c5
   obtain rfl := Option.some.inj H
   go_enter Tryd.func20, Tryd.ntmps20
   go_wp2
   go_ret
   exact ⟨by first | rfl | (simp; done) | (simp [*]; done), by repeat (first | exact Drawn0.refl _ | apply Drawn0.step)⟩
  ·rw [if_neg c5] at H
   have c5b0 : decide ((l0.length : Int) ≤ a1) = false := decide_eq_false c5
   clear c5
   by_cases c6 : 0 ≤ a1
   ·rw [if_pos c6] at H
    have c6b0 : decide (0 ≤ a1) = true := decide_eq_true c6
    clear c6
    by_cases c7 : a1 < (l0.length : Int)
    ·rw [if_pos c7] at H
     have c7b0 : decide (a1 < (l0.length : Int)) = true := decide_eq_true c7
     clear c7
     replace H := Option.bind_eq_some_iff.mp H
     obtain ⟨t108, A80, H⟩ := H
     replace H : (some t108) = some r := H
     have A8 := Aside0.mk A80
     clear A80
     obtain rfl := Option.some.inj H
     have p107 : 0 ≤ (a1 : Int) := of_decide_eq_true (by first | (with_reducible assumption) | assumption)
     have q107 : a1 < (l0.length : Int) := of_decide_eq_true (by first | (with_reducible assumption) | assumption)
     obtain ⟨ad107, e107, hx107_0⟩ := Kd.at_int HR0.out a1 p107 q107
     cases e107
     replace p107 := eq_true p107
     replace q107 := eq_true q107
     go_enter Tryd.func20, Tryd.ntmps20
     go_wp2_with (first | ((with_reducible refine gate_callee (f := 10) rfl ?_); refine goesL_ (some 20) rfl rfl Tryd.func10 (by kernel_rfl) rfl #[.int .i64 (rd l0 a1), .int .i64 a2] rfl (by (try simp only [List.map_toArray, List.map_cons, List.map_nil]); first | done | rfl | (simp only [List.length_drop, List.length_take]; rfl)) ?_; (with_reducible refine (R1_Around.calls (rd l0 a1) a2 t108 _ A8.out).mono ?_); rintro e w' ⟨rfl, ⟨nd, rfl⟩⟩; refine ⟨_, rfl, ?_⟩))
     go_ret
     exact ⟨by first | rfl | (simp; done) | (simp [*]; done), by repeat (first | exact Drawn0.refl _ | apply Drawn0.step)⟩
    ·rw [if_neg c7] at H
     exact absurd H (by simp)
   ·rw [if_neg c6] at H
    exact absurd H (by simp)

/-! ### R5_Piece: function 29 -/
def R5_Piece.j0 : Nat → Int → List ByteArray → List ByteArray → Int → Bool → Option (ByteArray)
 | 0, _, _, _, _, _ => none
 | k + 1, x3, x4, x5, x11, x12 => if x12 = true then (if (x4.length : Int) = 0 then (none) else (if 0 ≤ (Int.tmod (wrap64 (Int.tdiv x3 5)) (x4.length : Int)) then (if (Int.tmod (wrap64 (Int.tdiv x3 5)) (x4.length : Int)) < (x4.length : Int) then (some (rdOf ByteArray.empty x4 (Int.tmod (wrap64 (Int.tdiv x3 5)) (x4.length : Int)))) else (none)) else (none))) else (if x11 = 2 then ((some (([(⟨#[48]⟩ : ByteArray), (⟨#[55]⟩ : ByteArray), (⟨#[52, 50]⟩ : ByteArray), (⟨#[49, 50, 51, 52, 53, 54, 55, 56, 57, 48, 49, 50, 51, 52, 53, 54]⟩ : ByteArray)] : List ByteArray) : List ByteArray)).bind fun y117 => (if 0 ≤ (Int.tmod (wrap64 (Int.tdiv x3 5)) 4) then (if (Int.tmod (wrap64 (Int.tdiv x3 5)) 4) < (y117.length : Int) then (some (rdOf ByteArray.empty y117 (Int.tmod (wrap64 (Int.tdiv x3 5)) 4))) else (none)) else (none))) else (if (x5.length : Int) = 0 then (none) else (if 0 ≤ (Int.tmod (wrap64 (Int.tdiv x3 5)) (x5.length : Int)) then (if (Int.tmod (wrap64 (Int.tdiv x3 5)) (x5.length : Int)) < (x5.length : Int) then (some (rdOf ByteArray.empty x5 (Int.tmod (wrap64 (Int.tdiv x3 5)) (x5.length : Int)))) else (none)) else (none))))
def R5_Piece.f (k : Nat) (a0 : Int) : Option (ByteArray) := (R1_Around.f a0 1000000).bind fun t109 => ((some (([(⟨#[102]⟩ : ByteArray), (⟨#[120, 49]⟩ : ByteArray), (⟨#[99, 97, 115, 101]⟩ : ByteArray), (⟨#[80, 111, 105, 110, 116]⟩ : ByteArray), (⟨#[97, 86, 101, 114, 121, 76, 111, 110, 103, 78, 97, 109, 101, 49, 50, 51]⟩ : ByteArray), (⟨#[105, 102]⟩ : ByteArray), (⟨#[90, 57]⟩ : ByteArray), (⟨#[110, 111, 116]⟩ : ByteArray)] : List ByteArray) : List ByteArray)).bind fun y110 => ((some (([(⟨#[40]⟩ : ByteArray), (⟨#[41]⟩ : ByteArray), (⟨#[123]⟩ : ByteArray), (⟨#[125]⟩ : ByteArray), (⟨#[91]⟩ : ByteArray), (⟨#[93]⟩ : ByteArray), (⟨#[44]⟩ : ByteArray), (⟨#[58]⟩ : ByteArray), (⟨#[46]⟩ : ByteArray), (⟨#[61]⟩ : ByteArray), (⟨#[61, 61]⟩ : ByteArray), (⟨#[45, 62]⟩ : ByteArray), (⟨#[43]⟩ : ByteArray), (⟨#[45]⟩ : ByteArray), (⟨#[42]⟩ : ByteArray), (⟨#[47]⟩ : ByteArray), (⟨#[37]⟩ : ByteArray), (⟨#[60]⟩ : ByteArray)] : List ByteArray) : List ByteArray)).bind fun y113 => (if (Int.tmod t109 5) = 0 then (R5_Piece.j0 k t109 y110 y113 (Int.tmod t109 5) ((Int.tmod t109 5) == 0)) else (R5_Piece.j0 k t109 y110 y113 (Int.tmod t109 5) ((Int.tmod t109 5) == 1)))))
theorem R5_Piece.mono_l : ∀ k, (∀ y0 y1 y2 y3 y4, LeO (R5_Piece.j0 k y0 y1 y2 y3 y4) (R5_Piece.j0 (k + 1) y0 y1 y2 y3 y4))
 | 0 => fun _ _ _ _ _ r h => by simp [R5_Piece.j0] at h
 | k + 1 => by
  have ih0 := R5_Piece.mono_l k
  ·intro y0 y1 y2 y3 y4
   unfold R5_Piece.j0
   repeat' first
   | (with_reducible exact ih0 _ _ _ _ _)
   | (with_reducible exact LeO.refl _)
   | (with_reducible exact LeO.none _)
   | (with_reducible refine LeO.ite ?_ ?_)
   | (with_reducible refine LeO.bind ?_ (fun _ => ?_))
   | exact ih0 _ _ _ _ _
   | exact LeO.none _
   | refine LeO.ite ?_ ?_
   | refine LeO.bind ?_ (fun _ => ?_)
theorem R5_Piece.mono : ∀ a0 k, LeO (R5_Piece.f k a0) (R5_Piece.f (k + 1) a0) := by
 intro a0 k
 have ih0 := R5_Piece.mono_l k
 unfold R5_Piece.f
 repeat' first
   | (with_reducible exact ih0 _ _ _ _ _)
   | (with_reducible exact LeO.refl _)
   | (with_reducible exact LeO.none _)
   | (with_reducible refine LeO.ite ?_ ?_)
   | (with_reducible refine LeO.bind ?_ (fun _ => ?_))
   | exact ih0 _ _ _ _ _
   | exact LeO.none _
   | refine LeO.ite ?_ ?_
   | refine LeO.bind ?_ (fun _ => ?_)
set_option maxHeartbeats 8000000 in
set_option maxRecDepth 100000 in
theorem R5_Piece.calls (k : Nat) (a0 : Int) (r : ByteArray) (w : World) (h : R5_Piece.f k a0 = some r) :
  Calls Tryd.prog 29 #[.int .i64 a0] w fun e w' => e = .returned (.string r) ∧ Below w.heap.size w w' := by
 have HB := Aside0.mk (Below.refl w.heap.size w)
 have H : ((R1_Around.f a0 1000000).bind fun t109 => ((some (([(⟨#[102]⟩ : ByteArray), (⟨#[120, 49]⟩ : ByteArray), (⟨#[99, 97, 115, 101]⟩ : ByteArray), (⟨#[80, 111, 105, 110, 116]⟩ : ByteArray), (⟨#[97, 86, 101, 114, 121, 76, 111, 110, 103, 78, 97, 109, 101, 49, 50, 51]⟩ : ByteArray), (⟨#[105, 102]⟩ : ByteArray), (⟨#[90, 57]⟩ : ByteArray), (⟨#[110, 111, 116]⟩ : ByteArray)] : List ByteArray) : List ByteArray)).bind fun y110 => ((some (([(⟨#[40]⟩ : ByteArray), (⟨#[41]⟩ : ByteArray), (⟨#[123]⟩ : ByteArray), (⟨#[125]⟩ : ByteArray), (⟨#[91]⟩ : ByteArray), (⟨#[93]⟩ : ByteArray), (⟨#[44]⟩ : ByteArray), (⟨#[58]⟩ : ByteArray), (⟨#[46]⟩ : ByteArray), (⟨#[61]⟩ : ByteArray), (⟨#[61, 61]⟩ : ByteArray), (⟨#[45, 62]⟩ : ByteArray), (⟨#[43]⟩ : ByteArray), (⟨#[45]⟩ : ByteArray), (⟨#[42]⟩ : ByteArray), (⟨#[47]⟩ : ByteArray), (⟨#[37]⟩ : ByteArray), (⟨#[60]⟩ : ByteArray)] : List ByteArray) : List ByteArray)).bind fun y113 => (if (Int.tmod t109 5) = 0 then (R5_Piece.j0 k t109 y110 y113 (Int.tmod t109 5) ((Int.tmod t109 5) == 0)) else (R5_Piece.j0 k t109 y110 y113 (Int.tmod t109 5) ((Int.tmod t109 5) == 1)))))) = some r := h
 clear h
 replace H := Option.bind_eq_some_iff.mp H
 obtain ⟨t109, A20, H⟩ := H
 replace H : ((some (([(⟨#[102]⟩ : ByteArray), (⟨#[120, 49]⟩ : ByteArray), (⟨#[99, 97, 115, 101]⟩ : ByteArray), (⟨#[80, 111, 105, 110, 116]⟩ : ByteArray), (⟨#[97, 86, 101, 114, 121, 76, 111, 110, 103, 78, 97, 109, 101, 49, 50, 51]⟩ : ByteArray), (⟨#[105, 102]⟩ : ByteArray), (⟨#[90, 57]⟩ : ByteArray), (⟨#[110, 111, 116]⟩ : ByteArray)] : List ByteArray) : List ByteArray)).bind fun y110 => ((some (([(⟨#[40]⟩ : ByteArray), (⟨#[41]⟩ : ByteArray), (⟨#[123]⟩ : ByteArray), (⟨#[125]⟩ : ByteArray), (⟨#[91]⟩ : ByteArray), (⟨#[93]⟩ : ByteArray), (⟨#[44]⟩ : ByteArray), (⟨#[58]⟩ : ByteArray), (⟨#[46]⟩ : ByteArray), (⟨#[61]⟩ : ByteArray), (⟨#[61, 61]⟩ : ByteArray), (⟨#[45, 62]⟩ : ByteArray), (⟨#[43]⟩ : ByteArray), (⟨#[45]⟩ : ByteArray), (⟨#[42]⟩ : ByteArray), (⟨#[47]⟩ : ByteArray), (⟨#[37]⟩ : ByteArray), (⟨#[60]⟩ : ByteArray)] : List ByteArray) : List ByteArray)).bind fun y113 => (if (Int.tmod t109 5) = 0 then (R5_Piece.j0 k t109 y110 y113 (Int.tmod t109 5) ((Int.tmod t109 5) == 0)) else (R5_Piece.j0 k t109 y110 y113 (Int.tmod t109 5) ((Int.tmod t109 5) == 1))))) = some r := H
 have A2 := Aside0.mk A20
 clear A20
 obtain ⟨y110, hy110⟩ : ∃ y_ : List ByteArray, y_ = (([(⟨#[102]⟩ : ByteArray), (⟨#[120, 49]⟩ : ByteArray), (⟨#[99, 97, 115, 101]⟩ : ByteArray), (⟨#[80, 111, 105, 110, 116]⟩ : ByteArray), (⟨#[97, 86, 101, 114, 121, 76, 111, 110, 103, 78, 97, 109, 101, 49, 50, 51]⟩ : ByteArray), (⟨#[105, 102]⟩ : ByteArray), (⟨#[90, 57]⟩ : ByteArray), (⟨#[110, 111, 116]⟩ : ByteArray)] : List ByteArray)) := ⟨_, rfl⟩
 replace H : ((some (([(⟨#[40]⟩ : ByteArray), (⟨#[41]⟩ : ByteArray), (⟨#[123]⟩ : ByteArray), (⟨#[125]⟩ : ByteArray), (⟨#[91]⟩ : ByteArray), (⟨#[93]⟩ : ByteArray), (⟨#[44]⟩ : ByteArray), (⟨#[58]⟩ : ByteArray), (⟨#[46]⟩ : ByteArray), (⟨#[61]⟩ : ByteArray), (⟨#[61, 61]⟩ : ByteArray), (⟨#[45, 62]⟩ : ByteArray), (⟨#[43]⟩ : ByteArray), (⟨#[45]⟩ : ByteArray), (⟨#[42]⟩ : ByteArray), (⟨#[47]⟩ : ByteArray), (⟨#[37]⟩ : ByteArray), (⟨#[60]⟩ : ByteArray)] : List ByteArray) : List ByteArray)).bind fun y113 => (if (Int.tmod t109 5) = 0 then (R5_Piece.j0 k t109 y110 y113 (Int.tmod t109 5) ((Int.tmod t109 5) == 0)) else (R5_Piece.j0 k t109 y110 y113 (Int.tmod t109 5) ((Int.tmod t109 5) == 1)))) = some r := by first | (rw [hy110]; with_reducible exact H) | (have H2_ := (Option.bind_some _ _).symm.trans H; rw [hy110]; with_reducible exact H2_) | (have H2_ := (Option.bind_some _ _).symm.trans H; with_reducible exact H2_) | with_reducible exact H | (rw [hy110]; exact H) | exact H
 have Ny110 := Aside0.mk hy110
 clear hy110
 obtain ⟨y113, hy113⟩ : ∃ y_ : List ByteArray, y_ = (([(⟨#[40]⟩ : ByteArray), (⟨#[41]⟩ : ByteArray), (⟨#[123]⟩ : ByteArray), (⟨#[125]⟩ : ByteArray), (⟨#[91]⟩ : ByteArray), (⟨#[93]⟩ : ByteArray), (⟨#[44]⟩ : ByteArray), (⟨#[58]⟩ : ByteArray), (⟨#[46]⟩ : ByteArray), (⟨#[61]⟩ : ByteArray), (⟨#[61, 61]⟩ : ByteArray), (⟨#[45, 62]⟩ : ByteArray), (⟨#[43]⟩ : ByteArray), (⟨#[45]⟩ : ByteArray), (⟨#[42]⟩ : ByteArray), (⟨#[47]⟩ : ByteArray), (⟨#[37]⟩ : ByteArray), (⟨#[60]⟩ : ByteArray)] : List ByteArray)) := ⟨_, rfl⟩
 replace H : (if (Int.tmod t109 5) = 0 then (R5_Piece.j0 k t109 y110 y113 (Int.tmod t109 5) ((Int.tmod t109 5) == 0)) else (R5_Piece.j0 k t109 y110 y113 (Int.tmod t109 5) ((Int.tmod t109 5) == 1))) = some r := by first | (rw [hy113]; with_reducible exact H) | (have H2_ := (Option.bind_some _ _).symm.trans H; rw [hy113]; with_reducible exact H2_) | (have H2_ := (Option.bind_some _ _).symm.trans H; with_reducible exact H2_) | with_reducible exact H | (rw [hy113]; exact H) | exact H
 have Ny113 := Aside0.mk hy113
 clear hy113
 have HC3 := Aside0.mk H
 clear H
 go_enter Tryd.func29, Tryd.ntmps29
 go_upto_if 12 with (first | ((with_reducible refine gate_callee (f := 10) rfl ?_); refine goesL_ (some 7) rfl rfl Tryd.func10 (by kernel_rfl) rfl #[.int .i64 a0, .int .i64 1000000] rfl (by (try simp only [List.map_toArray, List.map_cons, List.map_nil]); first | done | rfl | (simp only [List.length_drop, List.length_take]; rfl)) ?_; (with_reducible refine (R1_Around.calls a0 1000000 t109 _ A2.out).mono ?_); rintro e w' ⟨rfl, ⟨nd, rfl⟩⟩; refine ⟨_, rfl, ?_⟩) | ((with_reducible refine gate_dst (N := 8) rfl ?_); refine Kd.R_lit Kd.string _ 9 ?hg (N := 8) ?hd (xs := ([(⟨#[102]⟩ : ByteArray), (⟨#[120, 49]⟩ : ByteArray), (⟨#[99, 97, 115, 101]⟩ : ByteArray), (⟨#[80, 111, 105, 110, 116]⟩ : ByteArray), (⟨#[97, 86, 101, 114, 121, 76, 111, 110, 103, 78, 97, 109, 101, 49, 50, 51]⟩ : ByteArray), (⟨#[105, 102]⟩ : ByteArray), (⟨#[90, 57]⟩ : ByteArray), (⟨#[110, 111, 116]⟩ : ByteArray)] : List ByteArray)) (inner := [.string (⟨#[102]⟩ : ByteArray), .string (⟨#[120, 49]⟩ : ByteArray), .string (⟨#[99, 97, 115, 101]⟩ : ByteArray), .string (⟨#[80, 111, 105, 110, 116]⟩ : ByteArray), .string (⟨#[97, 86, 101, 114, 121, 76, 111, 110, 103, 78, 97, 109, 101, 49, 50, 51]⟩ : ByteArray), .string (⟨#[105, 102]⟩ : ByteArray), .string (⟨#[90, 57]⟩ : ByteArray), .string (⟨#[110, 111, 116]⟩ : ByteArray)]) (ok := fun _ => True) (okp := fun _ => True) ?hr ?hp (fun _ hk => hk) trivial (Below.refl _ _) (Nat.le_refl _) (by simp) ?_; (case hd => rfl); (case hg => rfl); (case hr => first | (go_simp; done) | (go_simp; rfl)); (case hp => exact (Reps.one (show Kd.M Kd.string _ _ _ (⟨#[102]⟩ : ByteArray) [.string (⟨#[102]⟩ : ByteArray)] from rfl) (Reps.one (show Kd.M Kd.string _ _ _ (⟨#[120, 49]⟩ : ByteArray) [.string (⟨#[120, 49]⟩ : ByteArray)] from rfl) (Reps.one (show Kd.M Kd.string _ _ _ (⟨#[99, 97, 115, 101]⟩ : ByteArray) [.string (⟨#[99, 97, 115, 101]⟩ : ByteArray)] from rfl) (Reps.one (show Kd.M Kd.string _ _ _ (⟨#[80, 111, 105, 110, 116]⟩ : ByteArray) [.string (⟨#[80, 111, 105, 110, 116]⟩ : ByteArray)] from rfl) (Reps.one (show Kd.M Kd.string _ _ _ (⟨#[97, 86, 101, 114, 121, 76, 111, 110, 103, 78, 97, 109, 101, 49, 50, 51]⟩ : ByteArray) [.string (⟨#[97, 86, 101, 114, 121, 76, 111, 110, 103, 78, 97, 109, 101, 49, 50, 51]⟩ : ByteArray)] from rfl) (Reps.one (show Kd.M Kd.string _ _ _ (⟨#[105, 102]⟩ : ByteArray) [.string (⟨#[105, 102]⟩ : ByteArray)] from rfl) (Reps.one (show Kd.M Kd.string _ _ _ (⟨#[90, 57]⟩ : ByteArray) [.string (⟨#[90, 57]⟩ : ByteArray)] from rfl) (Reps.one (show Kd.M Kd.string _ _ _ (⟨#[110, 111, 116]⟩ : ByteArray) [.string (⟨#[110, 111, 116]⟩ : ByteArray)] from rfl) (Reps.none _ _)))))))))); intro v111 w4 ho5 hb hg_ hnew_; clear hg_ hnew_; (first | rw [← Ny110.out] at ho5 | (simp only [Int.reduceToNat] at ho5; rw [← Ny110.out] at ho5)); have n0_ := Aside0.mk (Kd.R_lower ho5 (below_size (by repeat (first | (with_reducible first | exact HB.out | apply below_alloc | apply pw_below_drewN | apply below_drew1) | exact HB.out)))); have n1_ := Aside0.mk (below_step (by repeat (first | (with_reducible first | exact HB.out | apply below_alloc | apply pw_below_drewN | apply below_drew1) | exact HB.out)) hb); clear HB; have HO112 := n0_; have HB := n1_; clear n0_ n1_; clear hb ho5) | ((with_reducible refine gate_dst (N := 9) rfl ?_); refine Kd.R_lit Kd.string _ 9 ?hg (N := 9) ?hd (xs := ([(⟨#[40]⟩ : ByteArray), (⟨#[41]⟩ : ByteArray), (⟨#[123]⟩ : ByteArray), (⟨#[125]⟩ : ByteArray), (⟨#[91]⟩ : ByteArray), (⟨#[93]⟩ : ByteArray), (⟨#[44]⟩ : ByteArray), (⟨#[58]⟩ : ByteArray), (⟨#[46]⟩ : ByteArray), (⟨#[61]⟩ : ByteArray), (⟨#[61, 61]⟩ : ByteArray), (⟨#[45, 62]⟩ : ByteArray), (⟨#[43]⟩ : ByteArray), (⟨#[45]⟩ : ByteArray), (⟨#[42]⟩ : ByteArray), (⟨#[47]⟩ : ByteArray), (⟨#[37]⟩ : ByteArray), (⟨#[60]⟩ : ByteArray)] : List ByteArray)) (inner := [.string (⟨#[40]⟩ : ByteArray), .string (⟨#[41]⟩ : ByteArray), .string (⟨#[123]⟩ : ByteArray), .string (⟨#[125]⟩ : ByteArray), .string (⟨#[91]⟩ : ByteArray), .string (⟨#[93]⟩ : ByteArray), .string (⟨#[44]⟩ : ByteArray), .string (⟨#[58]⟩ : ByteArray), .string (⟨#[46]⟩ : ByteArray), .string (⟨#[61]⟩ : ByteArray), .string (⟨#[61, 61]⟩ : ByteArray), .string (⟨#[45, 62]⟩ : ByteArray), .string (⟨#[43]⟩ : ByteArray), .string (⟨#[45]⟩ : ByteArray), .string (⟨#[42]⟩ : ByteArray), .string (⟨#[47]⟩ : ByteArray), .string (⟨#[37]⟩ : ByteArray), .string (⟨#[60]⟩ : ByteArray)]) (ok := fun _ => True) (okp := fun _ => True) ?hr ?hp (fun _ hk => hk) trivial (Below.refl _ _) (Nat.le_refl _) (by simp) ?_; (case hd => rfl); (case hg => rfl); (case hr => first | (go_simp; done) | (go_simp; rfl)); (case hp => exact (Reps.one (show Kd.M Kd.string _ _ _ (⟨#[40]⟩ : ByteArray) [.string (⟨#[40]⟩ : ByteArray)] from rfl) (Reps.one (show Kd.M Kd.string _ _ _ (⟨#[41]⟩ : ByteArray) [.string (⟨#[41]⟩ : ByteArray)] from rfl) (Reps.one (show Kd.M Kd.string _ _ _ (⟨#[123]⟩ : ByteArray) [.string (⟨#[123]⟩ : ByteArray)] from rfl) (Reps.one (show Kd.M Kd.string _ _ _ (⟨#[125]⟩ : ByteArray) [.string (⟨#[125]⟩ : ByteArray)] from rfl) (Reps.one (show Kd.M Kd.string _ _ _ (⟨#[91]⟩ : ByteArray) [.string (⟨#[91]⟩ : ByteArray)] from rfl) (Reps.one (show Kd.M Kd.string _ _ _ (⟨#[93]⟩ : ByteArray) [.string (⟨#[93]⟩ : ByteArray)] from rfl) (Reps.one (show Kd.M Kd.string _ _ _ (⟨#[44]⟩ : ByteArray) [.string (⟨#[44]⟩ : ByteArray)] from rfl) (Reps.one (show Kd.M Kd.string _ _ _ (⟨#[58]⟩ : ByteArray) [.string (⟨#[58]⟩ : ByteArray)] from rfl) (Reps.one (show Kd.M Kd.string _ _ _ (⟨#[46]⟩ : ByteArray) [.string (⟨#[46]⟩ : ByteArray)] from rfl) (Reps.one (show Kd.M Kd.string _ _ _ (⟨#[61]⟩ : ByteArray) [.string (⟨#[61]⟩ : ByteArray)] from rfl) (Reps.one (show Kd.M Kd.string _ _ _ (⟨#[61, 61]⟩ : ByteArray) [.string (⟨#[61, 61]⟩ : ByteArray)] from rfl) (Reps.one (show Kd.M Kd.string _ _ _ (⟨#[45, 62]⟩ : ByteArray) [.string (⟨#[45, 62]⟩ : ByteArray)] from rfl) (Reps.one (show Kd.M Kd.string _ _ _ (⟨#[43]⟩ : ByteArray) [.string (⟨#[43]⟩ : ByteArray)] from rfl) (Reps.one (show Kd.M Kd.string _ _ _ (⟨#[45]⟩ : ByteArray) [.string (⟨#[45]⟩ : ByteArray)] from rfl) (Reps.one (show Kd.M Kd.string _ _ _ (⟨#[42]⟩ : ByteArray) [.string (⟨#[42]⟩ : ByteArray)] from rfl) (Reps.one (show Kd.M Kd.string _ _ _ (⟨#[47]⟩ : ByteArray) [.string (⟨#[47]⟩ : ByteArray)] from rfl) (Reps.one (show Kd.M Kd.string _ _ _ (⟨#[37]⟩ : ByteArray) [.string (⟨#[37]⟩ : ByteArray)] from rfl) (Reps.one (show Kd.M Kd.string _ _ _ (⟨#[60]⟩ : ByteArray) [.string (⟨#[60]⟩ : ByteArray)] from rfl) (Reps.none _ _)))))))))))))))))))); intro v114 w6 ho7 hb hg_ hnew_; clear hg_ hnew_; (first | rw [← Ny113.out] at ho7 | (simp only [Int.reduceToNat] at ho7; rw [← Ny113.out] at ho7)); have n0_ := Aside0.mk (Kd.R_elder' (by (with_reducible repeat (first | apply Kd.R_alloc | apply Kd.R_drewN | apply Kd.R_drew)); exact HO112.out) (Kd.R_base ho7) hb); have n1_ := Aside0.mk (Kd.R_lower (Kd.R_new' ho7 (Kd.R_lt (by (with_reducible repeat (first | apply Kd.R_alloc | apply Kd.R_drewN | apply Kd.R_drew)); exact HO112.out))) (below_size (by repeat (first | (with_reducible first | exact HB.out | apply below_alloc | apply pw_below_drewN | apply below_drew1) | exact HB.out)))); have n2_ := Aside0.mk (below_step (by repeat (first | (with_reducible first | exact HB.out | apply below_alloc | apply pw_below_drewN | apply below_drew1) | exact HB.out)) hb); clear HO112; clear HB; have HO112 := n0_; have HO115 := n1_; have HB := n2_; clear n0_ n1_ n2_; clear hb ho7))
 (try simp only [Act.put, List.setIfInBounds_toArray, List.set_cons_zero, List.set_cons_succ])
 go_cut [12] (fun v12 wc => ∃ (kq : Nat) (x12_2 : Bool), v12 = .bool x12_2 ∧ Aside0 (R5_Piece.j0 kq t109 y110 y113 (Int.tmod t109 5) x12_2 = some r) ∧ Aside0 (kq ≤ k) ∧ Aside0 (Kd.R Kd.string 9 wc w.heap.size (fun k_ => some k_ ≠ (v114 : Value).ownBlock) v111 y110) ∧ Aside0 (Kd.R Kd.string 9 wc w.heap.size (fun k_ => some k_ ≠ (v111 : Value).ownBlock) v114 y113) ∧ Aside0 (Below w.heap.size w wc))
 case first =>
  have H := HC3.out
  clear HC3
  by_cases c8 : (Int.tmod t109 5) = 0
  ·rw [if_pos c8] at H
   have c8b0 : ((Int.tmod t109 5) == 0) = true := beq_iff_eq.mpr c8
   have c8b1 : ((Int.tmod t109 5) != 0) = false := bne_eq_false_iff_eq.mpr c8
   clear c8
   (first | rw [c8b0] | (simp only [i64_w, i32_w]; rw [c8b0]) | skip)
   have H' := Aside0.mk H
   clear H
   go_wp2
   go_meet
   case rel => exact ⟨_, (((Int.tmod t109 5) == 0)), (by first | rfl | (simp; done) | (simp [*]; done)), H', ⟨by first | omega | exact Nat.le_refl _⟩, ⟨by (with_reducible repeat (first | apply Kd.R_alloc | apply Kd.R_drewN | apply Kd.R_drew)); exact Kd.R_mono HO112.out (fun _ hk => hk.2)⟩, ⟨by (with_reducible repeat (first | apply Kd.R_alloc | apply Kd.R_drewN | apply Kd.R_drew)); exact Kd.R_mono HO115.out (fun _ hk => hk.2)⟩, ⟨by repeat (first | (with_reducible first | exact HB.out | apply below_alloc | apply pw_below_drewN | apply below_drew1) | exact HB.out)⟩⟩
  ·rw [if_neg c8] at H
   have c8b0 : ((Int.tmod t109 5) == 0) = false := beq_eq_false_iff_ne.mpr c8
   have c8b1 : ((Int.tmod t109 5) != 0) = true := bne_iff_ne.mpr c8
   (first | rw [c8b0] | (simp only [i64_w, i32_w]; rw [c8b0]) | skip)
   have H' := Aside0.mk H
   clear H
   go_wp2
   go_meet
   case rel => exact ⟨_, (((Int.tmod t109 5) == 1)), (by first | rfl | (simp; done) | (simp [*]; done)), H', ⟨by first | omega | exact Nat.le_refl _⟩, ⟨by (with_reducible repeat (first | apply Kd.R_alloc | apply Kd.R_drewN | apply Kd.R_drew)); exact Kd.R_mono HO112.out (fun _ hk => hk.2)⟩, ⟨by (with_reducible repeat (first | apply Kd.R_alloc | apply Kd.R_drewN | apply Kd.R_drew)); exact Kd.R_mono HO115.out (fun _ hk => hk.2)⟩, ⟨by repeat (first | (with_reducible first | exact HB.out | apply below_alloc | apply pw_below_drewN | apply below_drew1) | exact HB.out)⟩⟩
 case rest =>
  clear HC3
  try clear c1
  try clear c2
  try clear p2
  try clear c8
  try clear c8b0
  try clear c8b1
  obtain ⟨kq, x12_2, rfl, HA, HJ2, HO_4, HO_5, HB⟩ := hcut
  cases kq with
  | zero => exact absurd HA.out (by simp [R5_Piece.j0])
  | succ kj2 =>
   have H := HA.out
   clear HA
   simp only [R5_Piece.j0] at H
   by_cases c9 : x12_2 = true
   ·subst c9
    have H1 : (if (y110.length : Int) = 0 then (none) else (if 0 ≤ (Int.tmod (wrap64 (Int.tdiv t109 5)) (y110.length : Int)) then (if (Int.tmod (wrap64 (Int.tdiv t109 5)) (y110.length : Int)) < (y110.length : Int) then (some (rdOf ByteArray.empty y110 (Int.tmod (wrap64 (Int.tdiv t109 5)) (y110.length : Int)))) else (none)) else (none))) = some r := by rw [if_pos rfl] at H; exact H
    clear H
    have H := H1
    clear H1
    by_cases c10 : (y110.length : Int) = 0
    ·rw [if_pos c10] at H
     exact absurd H (by simp)
    ·rw [if_neg c10] at H
     have c10b0 : ((y110.length : Int) == 0) = false := beq_eq_false_iff_ne.mpr c10
     have c10b1 : ((y110.length : Int) != 0) = true := bne_iff_ne.mpr c10
     have c10b2 : ¬ (y110 = []) := fun h_ => c10 (by rw [h_]; rfl)
     obtain ⟨ji11, hji11⟩ : ∃ j_ : Int, (Int.tmod (wrap64 (Int.tdiv t109 5)) (y110.length : Int)) = j_ := ⟨_, rfl⟩
     replace H : (if 0 ≤ (ji11) then (if (ji11) < (y110.length : Int) then (some (rdOf ByteArray.empty y110 (ji11))) else (none)) else (none)) = some r := by first | (rw [hji11] at H; exact H) | (simp only [hji11] at H ⊢; exact H)
     by_cases c12 : 0 ≤ (ji11)
     ·rw [if_pos c12] at H
      have c12b0 : decide (0 ≤ (ji11)) = true := decide_eq_true c12
      clear c12
      by_cases c13 : (ji11) < (y110.length : Int)
      ·rw [if_pos c13] at H
       have c13b0 : decide ((ji11) < (y110.length : Int)) = true := decide_eq_true c13
       clear c13
       obtain rfl := Option.some.inj H
       obtain ⟨Ao14, co14, eo14⟩ := Kd.R_slice HO_4.out
       subst eo14
       have p116 : 0 ≤ ((ji11) : Int) := of_decide_eq_true (by first | (with_reducible assumption) | assumption)
       have q116 : (ji11) < (y110.length : Int) := of_decide_eq_true (by first | (with_reducible assumption) | assumption)
       obtain ⟨ad116, e116, hx116_0⟩ := Kd.at_string (Kd.R_reads' HO_4.out).2.2 (ji11) p116 q116
       cases e116
       replace p116 := eq_true p116
       replace q116 := eq_true q116
       go_wp2
       go_ret
       exact ⟨by first | rfl | (simp [errW_none, errW_some] <;> rfl) | (simp only [← hji11]; first | rfl | (simp [errW_none, errW_some] <;> rfl)) | (simp [*, errW_none, errW_some] <;> rfl), by repeat (first | (with_reducible first | exact HB.out | apply below_alloc | apply pw_below_drewN | apply below_drew1) | exact HB.out)⟩
      ·rw [if_neg c13] at H
       exact absurd H (by simp)
     ·rw [if_neg c12] at H
      exact absurd H (by simp)
   ·replace c9 := Bool.eq_false_iff.mpr c9
    subst c9
    have H1 : (if (Int.tmod t109 5) = 2 then ((some (([(⟨#[48]⟩ : ByteArray), (⟨#[55]⟩ : ByteArray), (⟨#[52, 50]⟩ : ByteArray), (⟨#[49, 50, 51, 52, 53, 54, 55, 56, 57, 48, 49, 50, 51, 52, 53, 54]⟩ : ByteArray)] : List ByteArray) : List ByteArray)).bind fun y117 => (if 0 ≤ (Int.tmod (wrap64 (Int.tdiv t109 5)) 4) then (if (Int.tmod (wrap64 (Int.tdiv t109 5)) 4) < (y117.length : Int) then (some (rdOf ByteArray.empty y117 (Int.tmod (wrap64 (Int.tdiv t109 5)) 4))) else (none)) else (none))) else (if (y113.length : Int) = 0 then (none) else (if 0 ≤ (Int.tmod (wrap64 (Int.tdiv t109 5)) (y113.length : Int)) then (if (Int.tmod (wrap64 (Int.tdiv t109 5)) (y113.length : Int)) < (y113.length : Int) then (some (rdOf ByteArray.empty y113 (Int.tmod (wrap64 (Int.tdiv t109 5)) (y113.length : Int)))) else (none)) else (none)))) = some r := by rw [if_neg (show ¬ (false = true) by decide)] at H; exact H
    clear H
    have H := H1
    clear H1
    by_cases c15 : (Int.tmod t109 5) = 2
    ·rw [if_pos c15] at H
     have c15b0 : ((Int.tmod t109 5) == 2) = true := beq_iff_eq.mpr c15
     have c15b1 : ((Int.tmod t109 5) != 2) = false := bne_eq_false_iff_eq.mpr c15
     clear c15
     obtain ⟨y117, hy117⟩ : ∃ y_ : List ByteArray, y_ = (([(⟨#[48]⟩ : ByteArray), (⟨#[55]⟩ : ByteArray), (⟨#[52, 50]⟩ : ByteArray), (⟨#[49, 50, 51, 52, 53, 54, 55, 56, 57, 48, 49, 50, 51, 52, 53, 54]⟩ : ByteArray)] : List ByteArray)) := ⟨_, rfl⟩
     replace H : (if 0 ≤ (Int.tmod (wrap64 (Int.tdiv t109 5)) 4) then (if (Int.tmod (wrap64 (Int.tdiv t109 5)) 4) < (y117.length : Int) then (some (rdOf ByteArray.empty y117 (Int.tmod (wrap64 (Int.tdiv t109 5)) 4))) else (none)) else (none)) = some r := by first | (rw [hy117]; with_reducible exact H) | (have H2_ := (Option.bind_some _ _).symm.trans H; rw [hy117]; with_reducible exact H2_) | (have H2_ := (Option.bind_some _ _).symm.trans H; with_reducible exact H2_) | with_reducible exact H | (rw [hy117]; exact H) | exact H
     have Ny117 := Aside0.mk hy117
     clear hy117
     obtain ⟨ji16, hji16⟩ : ∃ j_ : Int, (Int.tmod (wrap64 (Int.tdiv t109 5)) 4) = j_ := ⟨_, rfl⟩
     replace H : (if 0 ≤ (ji16) then (if (ji16) < (y117.length : Int) then (some (rdOf ByteArray.empty y117 (ji16))) else (none)) else (none)) = some r := by first | (rw [hji16] at H; exact H) | (simp only [hji16] at H ⊢; exact H)
     by_cases c17 : 0 ≤ (ji16)
     ·rw [if_pos c17] at H
      have c17b0 : decide (0 ≤ (ji16)) = true := decide_eq_true c17
      clear c17
      by_cases c18 : (ji16) < (y117.length : Int)
      ·rw [if_pos c18] at H
       have c18b0 : decide ((ji16) < (y117.length : Int)) = true := decide_eq_true c18
       clear c18
       obtain rfl := Option.some.inj H
       go_wp2_with (first | ((with_reducible refine gate_dst (N := 25) rfl ?_); refine Kd.R_lit Kd.string _ 9 ?hg (N := 25) ?hd (xs := ([(⟨#[48]⟩ : ByteArray), (⟨#[55]⟩ : ByteArray), (⟨#[52, 50]⟩ : ByteArray), (⟨#[49, 50, 51, 52, 53, 54, 55, 56, 57, 48, 49, 50, 51, 52, 53, 54]⟩ : ByteArray)] : List ByteArray)) (inner := [.string (⟨#[48]⟩ : ByteArray), .string (⟨#[55]⟩ : ByteArray), .string (⟨#[52, 50]⟩ : ByteArray), .string (⟨#[49, 50, 51, 52, 53, 54, 55, 56, 57, 48, 49, 50, 51, 52, 53, 54]⟩ : ByteArray)]) (ok := fun _ => True) (okp := fun _ => True) ?hr ?hp (fun _ hk => hk) trivial (Below.refl _ _) (Nat.le_refl _) (by simp) ?_; (case hd => rfl); (case hg => rfl); (case hr => first | (go_simp; done) | (go_simp; rfl)); (case hp => exact (Reps.one (show Kd.M Kd.string _ _ _ (⟨#[48]⟩ : ByteArray) [.string (⟨#[48]⟩ : ByteArray)] from rfl) (Reps.one (show Kd.M Kd.string _ _ _ (⟨#[55]⟩ : ByteArray) [.string (⟨#[55]⟩ : ByteArray)] from rfl) (Reps.one (show Kd.M Kd.string _ _ _ (⟨#[52, 50]⟩ : ByteArray) [.string (⟨#[52, 50]⟩ : ByteArray)] from rfl) (Reps.one (show Kd.M Kd.string _ _ _ (⟨#[49, 50, 51, 52, 53, 54, 55, 56, 57, 48, 49, 50, 51, 52, 53, 54]⟩ : ByteArray) [.string (⟨#[49, 50, 51, 52, 53, 54, 55, 56, 57, 48, 49, 50, 51, 52, 53, 54]⟩ : ByteArray)] from rfl) (Reps.none _ _)))))); intro v118 w19 ho20 hb hg_ hnew_; clear hg_ hnew_; (first | rw [← Ny117.out] at ho20 | (simp only [Int.reduceToNat] at ho20; rw [← Ny117.out] at ho20)); have n0_ := Aside0.mk (Kd.R_elder' (by (with_reducible repeat (first | apply Kd.R_alloc | apply Kd.R_drewN | apply Kd.R_drew)); exact HO_4.out) (Kd.R_base ho20) hb); have n1_ := Aside0.mk (Kd.R_elder' (by (with_reducible repeat (first | apply Kd.R_alloc | apply Kd.R_drewN | apply Kd.R_drew)); exact HO_5.out) (Kd.R_base ho20) hb); have n2_ := Aside0.mk (Kd.R_lower (Kd.R_new' (Kd.R_new' ho20 (Kd.R_lt (by (with_reducible repeat (first | apply Kd.R_alloc | apply Kd.R_drewN | apply Kd.R_drew)); exact HO_4.out))) (Kd.R_lt (by (with_reducible repeat (first | apply Kd.R_alloc | apply Kd.R_drewN | apply Kd.R_drew)); exact HO_5.out))) (below_size (by repeat (first | (with_reducible first | exact HB.out | apply below_alloc | apply pw_below_drewN | apply below_drew1) | exact HB.out)))); have n3_ := Aside0.mk (below_step (by repeat (first | (with_reducible first | exact HB.out | apply below_alloc | apply pw_below_drewN | apply below_drew1) | exact HB.out)) hb); clear HO_4; clear HO_5; clear HB; have HO_4 := n0_; have HO_5 := n1_; have HO119 := n2_; have HB := n3_; clear n0_ n1_ n2_ n3_; clear hb ho20; obtain ⟨Ao21, co21, eo21⟩ := Kd.R_slice HO119.out; subst eo21; have p120 : 0 ≤ ((ji16) : Int) := of_decide_eq_true (by first | (with_reducible assumption) | assumption); have q120 : (ji16) < (y117.length : Int) := of_decide_eq_true (by first | (with_reducible assumption) | assumption); obtain ⟨ad120, e120, hx120_0⟩ := Kd.at_string (Kd.R_reads' HO119.out).2.2 (ji16) p120 q120; cases e120; replace p120 := eq_true p120; replace q120 := eq_true q120))
       go_ret
       exact ⟨by first | rfl | (simp [errW_none, errW_some] <;> rfl) | (simp only [← hji16]; first | rfl | (simp [errW_none, errW_some] <;> rfl)) | (simp [*, errW_none, errW_some] <;> rfl), by repeat (first | (with_reducible first | exact HB.out | apply below_alloc | apply pw_below_drewN | apply below_drew1) | exact HB.out)⟩
      ·rw [if_neg c18] at H
       exact absurd H (by simp)
     ·rw [if_neg c17] at H
      exact absurd H (by simp)
    ·rw [if_neg c15] at H
     have c15b0 : ((Int.tmod t109 5) == 2) = false := beq_eq_false_iff_ne.mpr c15
     have c15b1 : ((Int.tmod t109 5) != 2) = true := bne_iff_ne.mpr c15
     by_cases c22 : (y113.length : Int) = 0
     ·rw [if_pos c22] at H
      exact absurd H (by simp)
     ·rw [if_neg c22] at H
      have c22b0 : ((y113.length : Int) == 0) = false := beq_eq_false_iff_ne.mpr c22
      have c22b1 : ((y113.length : Int) != 0) = true := bne_iff_ne.mpr c22
      have c22b2 : ¬ (y113 = []) := fun h_ => c22 (by rw [h_]; rfl)
      obtain ⟨ji23, hji23⟩ : ∃ j_ : Int, (Int.tmod (wrap64 (Int.tdiv t109 5)) (y113.length : Int)) = j_ := ⟨_, rfl⟩
      replace H : (if 0 ≤ (ji23) then (if (ji23) < (y113.length : Int) then (some (rdOf ByteArray.empty y113 (ji23))) else (none)) else (none)) = some r := by first | (rw [hji23] at H; exact H) | (simp only [hji23] at H ⊢; exact H)
      by_cases c24 : 0 ≤ (ji23)
      ·rw [if_pos c24] at H
       have c24b0 : decide (0 ≤ (ji23)) = true := decide_eq_true c24
       clear c24
       by_cases c25 : (ji23) < (y113.length : Int)
       ·rw [if_pos c25] at H
        have c25b0 : decide ((ji23) < (y113.length : Int)) = true := decide_eq_true c25
        clear c25
        obtain rfl := Option.some.inj H
        obtain ⟨Ao26, co26, eo26⟩ := Kd.R_slice HO_5.out
        subst eo26
        have p121 : 0 ≤ ((ji23) : Int) := of_decide_eq_true (by first | (with_reducible assumption) | assumption)
        have q121 : (ji23) < (y113.length : Int) := of_decide_eq_true (by first | (with_reducible assumption) | assumption)
        obtain ⟨ad121, e121, hx121_0⟩ := Kd.at_string (Kd.R_reads' HO_5.out).2.2 (ji23) p121 q121
        cases e121
        replace p121 := eq_true p121
        replace q121 := eq_true q121
        go_wp2
        go_ret
        exact ⟨by first | rfl | (simp [errW_none, errW_some] <;> rfl) | (simp only [← hji23]; first | rfl | (simp [errW_none, errW_some] <;> rfl)) | (simp [*, errW_none, errW_some] <;> rfl), by repeat (first | (with_reducible first | exact HB.out | apply below_alloc | apply pw_below_drewN | apply below_drew1) | exact HB.out)⟩
       ·rw [if_neg c25] at H
        exact absurd H (by simp)
      ·rw [if_neg c24] at H
       exact absurd H (by simp)

end Go.Proofs.YteafkdcppbemdaaDoor.Q
