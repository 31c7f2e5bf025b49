-- Written by a program of this session (wip/tool).
import Derived.Test.YteafkdcppbemdaaDoorQ0
import Derived.Test.YteafkdcppbemdaaDoorQ3
import Derived.Test.YteafkdcppbemdaaDoorQ4
import Derived.Test.YteafkdcppbemdaaDoorQ8
import Derived.Test.YteafkdcppbemdaaDoorQ10
import Derived.Test.YteafkdcppbemdaaDoorGiven
namespace Go.Proofs.YteafkdcppbemdaaDoor.Q
open Go.RowKit Go.Proofs.YteafkdcppbemdaaDoorW.PrintWords Go.Proofs.YteafkdcppbemdaaDoorW.PrintLast Go.Proofs.YteafkdcppbemdaaDoorW.PrintMore
attribute [local go_sem] max2_int min2_int max_two min_two max_three min_three max_four min_four   -- for this text's walks alone
set_option linter.unusedVariables false
set_option linter.unusedSimpArgs false

/-! ### splicerylaw05_LexErrors: function 5 -/
mutual
def splicerylaw05_LexErrors.l0 : Nat → Int → List ByteArray → Int → Option (Bool)
 | 0, _, _, _ => none
 | k + 1, x2, x7, x8 => if x8 < (x7.length : Int) then (if 0 ≤ x8 then ((lex_Scan.f k (rdOf ByteArray.empty x7 x8)).bind fun bt270 => (if bt270.2.2 = (-1) then (splicerylaw05_LexErrors.j1 k x2 x7 x8 (rdOf ByteArray.empty x7 x8) bt270.2.2 true) else (splicerylaw05_LexErrors.j1 k x2 x7 x8 (rdOf ByteArray.empty x7 x8) bt270.2.2 (bt270.2.2 == 8192)))) else (none)) else ((spliceryref01_Around.f x2 5).bind fun t285 => (if 0 ≤ (wrap64 (8190 + t285)) then (if (wrap64 (8190 + t285) : Int).toNat ≤ 281474976710656 then (splicerylaw05_LexErrors.l1 k (wrap64 (8190 + t285)) (List.replicate (wrap64 (8190 + t285) : Int).toNat 0) 0) else (none)) else (none)))
def splicerylaw05_LexErrors.j1 : Nat → Int → List ByteArray → Int → ByteArray → Int → Bool → Option (Bool)
 | 0, _, _, _, _, _, _ => none
 | k + 1, x2, x7, x8, x9, x12, x56 => if x56 = true then (splicerylaw05_LexErrors.l0 k x2 x7 (wrap64 (x8 + 1))) else (if x12 < 0 then (splicerylaw05_LexErrors.j2 k x2 x7 x8 x9 x12 true) else (splicerylaw05_LexErrors.j2 k x2 x7 x8 x9 x12 (decide (x12 ≥ (x9.size : Int)))))
def splicerylaw05_LexErrors.j2 : Nat → Int → List ByteArray → Int → ByteArray → Int → Bool → Option (Bool)
 | 0, _, _, _, _, _, _ => none
 | k + 1, x2, x7, x8, x9, x12, x64 => if x64 = true then (some false) else (if 0 ≤ x12 then (if x12 ≤ (x9.size : Int) then ((lex_Scan.f k (x9.extract 0 (x12 : Int).toNat)).bind fun bt275 => ((lex_Scan.f k (x9.extract (x12 : Int).toNat x9.size)).bind fun bt280 => (if bt275.2.2 = (-1) then (if bt280.2.2 = 0 then (splicerylaw05_LexErrors.l0 k x2 x7 (wrap64 (x8 + 1))) else (if bt280.2.2 = 8192 then (splicerylaw05_LexErrors.l0 k x2 x7 (wrap64 (x8 + 1))) else (some false))) else (some false)))) else (none)) else (none))
def splicerylaw05_LexErrors.l1 : Nat → Int → List Int → Int → Option (Bool)
 | 0, _, _, _ => none
 | k + 1, x19, x20, x21 => if x21 < x19 then (if 0 ≤ x21 then (if x21 < (x20.length : Int) then (splicerylaw05_LexErrors.l1 k x19 (x20.set (x21 : Int).toNat 32) (wrap64 (x21 + 1))) else (none)) else (none)) else ((lex_Scan.f k (strOfNums x20)).bind fun bt290 => (if ((bt290.2.2 == (-1)) == (decide (x19 ≤ 8192))) = true then (if ((bt290.2.2 == 8192) == (decide (x19 > 8192))) = true then (if (bt290.1.length : Int) = 0 then (if bt290.2.2 = (-1) then (if bt290.2.1.toList = (strOfNums x20).toList then ((lex_Blank.f (strOfNums x20)).bind fun t295 => (if (t295 == (decide (x19 ≤ 8192))) = true then ((splicerylaw05_lives.f k).bind fun t296 => (some t296)) else (some false))) else (some false)) else ((lex_Blank.f (strOfNums x20)).bind fun t297 => (if (t297 == (decide (x19 ≤ 8192))) = true then ((splicerylaw05_lives.f k).bind fun t298 => (some t298)) else (some false)))) else (some false)) else (some false)) else (some false)))
end
def splicerylaw05_LexErrors.f (k : Nat) (l0 : List Int) (a1 : ByteArray) (a2 : Int) : Option (Bool) := (spliceryref05_Sample.f k l0).bind fun t264 => (if t264.size + 1 ≤ 9223372036854775807 then ((spliceryref05_Sample.f k l0).bind fun t265 => (if t265.size + 2 ≤ 9223372036854775807 then (if (t265 ++ (⟨#[32, 62]⟩ : ByteArray)).size + a1.size ≤ 9223372036854775807 then (splicerylaw05_LexErrors.l0 k a2 (([t264 ++ (⟨#[63]⟩ : ByteArray), a1, (t265 ++ (⟨#[32, 62]⟩ : ByteArray)) ++ a1] : List ByteArray)) 0) else (none)) else (none))) else (none))
theorem splicerylaw05_LexErrors.mono_l : ∀ k, (∀ y0 y1 y2, LeO (splicerylaw05_LexErrors.l0 k y0 y1 y2) (splicerylaw05_LexErrors.l0 (k + 1) y0 y1 y2)) ∧ (∀ y0 y1 y2 y3 y4 y5, LeO (splicerylaw05_LexErrors.j1 k y0 y1 y2 y3 y4 y5) (splicerylaw05_LexErrors.j1 (k + 1) y0 y1 y2 y3 y4 y5)) ∧ (∀ y0 y1 y2 y3 y4 y5, LeO (splicerylaw05_LexErrors.j2 k y0 y1 y2 y3 y4 y5) (splicerylaw05_LexErrors.j2 (k + 1) y0 y1 y2 y3 y4 y5)) ∧ (∀ y0 y1 y2, LeO (splicerylaw05_LexErrors.l1 k y0 y1 y2) (splicerylaw05_LexErrors.l1 (k + 1) y0 y1 y2))
 | 0 => ⟨fun _ _ _ r h => by simp [splicerylaw05_LexErrors.l0] at h, fun _ _ _ _ _ _ r h => by simp [splicerylaw05_LexErrors.j1] at h, fun _ _ _ _ _ _ r h => by simp [splicerylaw05_LexErrors.j2] at h, fun _ _ _ r h => by simp [splicerylaw05_LexErrors.l1] at h⟩
 | k + 1 => by
  obtain ⟨ih0, ih1, ih2, ih3⟩ := splicerylaw05_LexErrors.mono_l k
  refine ⟨?_, ?_, ?_, ?_⟩
  ·intro y0 y1 y2
   unfold splicerylaw05_LexErrors.l0
   repeat' first
   | (with_reducible exact ih0 _ _ _)
   | (with_reducible exact ih1 _ _ _ _ _ _)
   | (with_reducible exact ih2 _ _ _ _ _ _)
   | (with_reducible exact ih3 _ _ _)
   | (with_reducible exact lex_Scan.mono _ _)
   | (with_reducible exact splicerylaw05_lives.mono _)
   | (with_reducible exact spliceryref05_Sample.mono _ _)
   | (with_reducible exact LeO.refl _)
   | (with_reducible exact LeO.none _)
   | (with_reducible refine LeO.ite ?_ ?_)
   | (with_reducible refine LeO.bind ?_ (fun _ => ?_))
   | exact ih0 _ _ _
   | exact ih1 _ _ _ _ _ _
   | exact ih2 _ _ _ _ _ _
   | exact ih3 _ _ _
   | exact lex_Scan.mono _ _
   | exact splicerylaw05_lives.mono _
   | exact spliceryref05_Sample.mono _ _
   | exact LeO.none _
   | refine LeO.ite ?_ ?_
   | refine LeO.bind ?_ (fun _ => ?_)
  ·intro y0 y1 y2 y3 y4 y5
   unfold splicerylaw05_LexErrors.j1
   repeat' first
   | (with_reducible exact ih0 _ _ _)
   | (with_reducible exact ih1 _ _ _ _ _ _)
   | (with_reducible exact ih2 _ _ _ _ _ _)
   | (with_reducible exact ih3 _ _ _)
   | (with_reducible exact lex_Scan.mono _ _)
   | (with_reducible exact splicerylaw05_lives.mono _)
   | (with_reducible exact spliceryref05_Sample.mono _ _)
   | (with_reducible exact LeO.refl _)
   | (with_reducible exact LeO.none _)
   | (with_reducible refine LeO.ite ?_ ?_)
   | (with_reducible refine LeO.bind ?_ (fun _ => ?_))
   | exact ih0 _ _ _
   | exact ih1 _ _ _ _ _ _
   | exact ih2 _ _ _ _ _ _
   | exact ih3 _ _ _
   | exact lex_Scan.mono _ _
   | exact splicerylaw05_lives.mono _
   | exact spliceryref05_Sample.mono _ _
   | exact LeO.none _
   | refine LeO.ite ?_ ?_
   | refine LeO.bind ?_ (fun _ => ?_)
  ·intro y0 y1 y2 y3 y4 y5
   unfold splicerylaw05_LexErrors.j2
   repeat' first
   | (with_reducible exact ih0 _ _ _)
   | (with_reducible exact ih1 _ _ _ _ _ _)
   | (with_reducible exact ih2 _ _ _ _ _ _)
   | (with_reducible exact ih3 _ _ _)
   | (with_reducible exact lex_Scan.mono _ _)
   | (with_reducible exact splicerylaw05_lives.mono _)
   | (with_reducible exact spliceryref05_Sample.mono _ _)
   | (with_reducible exact LeO.refl _)
   | (with_reducible exact LeO.none _)
   | (with_reducible refine LeO.ite ?_ ?_)
   | (with_reducible refine LeO.bind ?_ (fun _ => ?_))
   | exact ih0 _ _ _
   | exact ih1 _ _ _ _ _ _
   | exact ih2 _ _ _ _ _ _
   | exact ih3 _ _ _
   | exact lex_Scan.mono _ _
   | exact splicerylaw05_lives.mono _
   | exact spliceryref05_Sample.mono _ _
   | exact LeO.none _
   | refine LeO.ite ?_ ?_
   | refine LeO.bind ?_ (fun _ => ?_)
  ·intro y0 y1 y2
   unfold splicerylaw05_LexErrors.l1
   repeat' first
   | (with_reducible exact ih0 _ _ _)
   | (with_reducible exact ih1 _ _ _ _ _ _)
   | (with_reducible exact ih2 _ _ _ _ _ _)
   | (with_reducible exact ih3 _ _ _)
   | (with_reducible exact lex_Scan.mono _ _)
   | (with_reducible exact splicerylaw05_lives.mono _)
   | (with_reducible exact spliceryref05_Sample.mono _ _)
   | (with_reducible exact LeO.refl _)
   | (with_reducible exact LeO.none _)
   | (with_reducible refine LeO.ite ?_ ?_)
   | (with_reducible refine LeO.bind ?_ (fun _ => ?_))
   | exact ih0 _ _ _
   | exact ih1 _ _ _ _ _ _
   | exact ih2 _ _ _ _ _ _
   | exact ih3 _ _ _
   | exact lex_Scan.mono _ _
   | exact splicerylaw05_lives.mono _
   | exact spliceryref05_Sample.mono _ _
   | exact LeO.none _
   | refine LeO.ite ?_ ?_
   | refine LeO.bind ?_ (fun _ => ?_)
theorem splicerylaw05_LexErrors.mono : ∀ a0 a1 a2 k, LeO (splicerylaw05_LexErrors.f k a0 a1 a2) (splicerylaw05_LexErrors.f (k + 1) a0 a1 a2) := by
 intro a0 a1 a2 k
 obtain ⟨ih0, ih1, ih2, ih3⟩ := splicerylaw05_LexErrors.mono_l k
 unfold splicerylaw05_LexErrors.f
 repeat' first
   | (with_reducible exact ih0 _ _ _)
   | (with_reducible exact ih1 _ _ _ _ _ _)
   | (with_reducible exact ih2 _ _ _ _ _ _)
   | (with_reducible exact ih3 _ _ _)
   | (with_reducible exact lex_Scan.mono _ _)
   | (with_reducible exact splicerylaw05_lives.mono _)
   | (with_reducible exact spliceryref05_Sample.mono _ _)
   | (with_reducible exact LeO.refl _)
   | (with_reducible exact LeO.none _)
   | (with_reducible refine LeO.ite ?_ ?_)
   | (with_reducible refine LeO.bind ?_ (fun _ => ?_))
   | exact ih0 _ _ _
   | exact ih1 _ _ _ _ _ _
   | exact ih2 _ _ _ _ _ _
   | exact ih3 _ _ _
   | exact lex_Scan.mono _ _
   | exact splicerylaw05_lives.mono _
   | exact spliceryref05_Sample.mono _ _
   | exact LeO.none _
   | refine LeO.ite ?_ ?_
   | refine LeO.bind ?_ (fun _ => ?_)
set_option maxHeartbeats 8000000 in
set_option maxRecDepth 100000 in
theorem splicerylaw05_LexErrors.calls (k : Nat) (A0 : Option Addr) (c0 : Nat) (l0 : List Int) (a1 : ByteArray) (a2 : Int) (r : Bool) (w : World) (hr0 : Kd.C (Kd.int .i64) w A0 l0.length l0) (hc0 : l0.length ≤ c0) (hG : Glob w) (h : splicerylaw05_LexErrors.f k l0 a1 a2 = some r) :
  Calls Tryd.prog 5 #[.slice A0 l0.length c0, .string a1, .int .i64 a2] w fun e w' => e = .returned (.bool r) ∧ Below w.heap.size w w' := by
 have HR0 := Aside0.mk hr0
 have HC0 := Aside0.mk hc0
 clear hr0 hc0
 have HB := Aside0.mk (Below.refl w.heap.size w)
 have HG := Aside0.mk hG
 clear hG
 have H : ((spliceryref05_Sample.f k l0).bind fun t264 => (if t264.size + 1 ≤ 9223372036854775807 then ((spliceryref05_Sample.f k l0).bind fun t265 => (if t265.size + 2 ≤ 9223372036854775807 then (if (t265 ++ (⟨#[32, 62]⟩ : ByteArray)).size + a1.size ≤ 9223372036854775807 then (splicerylaw05_LexErrors.l0 k a2 (([t264 ++ (⟨#[63]⟩ : ByteArray), a1, (t265 ++ (⟨#[32, 62]⟩ : ByteArray)) ++ a1] : List ByteArray)) 0) else (none)) else (none))) else (none))) = some r := h
 clear h
 replace H := Option.bind_eq_some_iff.mp H
 obtain ⟨t264, A40, H⟩ := H
 replace H : (if t264.size + 1 ≤ 9223372036854775807 then ((spliceryref05_Sample.f k l0).bind fun t265 => (if t265.size + 2 ≤ 9223372036854775807 then (if (t265 ++ (⟨#[32, 62]⟩ : ByteArray)).size + a1.size ≤ 9223372036854775807 then (splicerylaw05_LexErrors.l0 k a2 (([t264 ++ (⟨#[63]⟩ : ByteArray), a1, (t265 ++ (⟨#[32, 62]⟩ : ByteArray)) ++ a1] : List ByteArray)) 0) else (none)) else (none))) else (none)) = some r := H
 have A4 := Aside0.mk A40
 clear A40
 by_cases c5 : t264.size + 1 ≤ 9223372036854775807
 ·rw [if_pos c5] at H
  have c5b0 := eq_true c5
  have c5b1 : decide (t264.size + 1 ≤ 9223372036854775807) = true := decide_eq_true c5
  try have c5b2 : (9223372036854775807 < t264.size + 1) = False := eq_false (Nat.not_lt.2 c5)
  replace H := Option.bind_eq_some_iff.mp H
  obtain ⟨t265, A60, H⟩ := H
  replace H : (if t265.size + 2 ≤ 9223372036854775807 then (if (t265 ++ (⟨#[32, 62]⟩ : ByteArray)).size + a1.size ≤ 9223372036854775807 then (splicerylaw05_LexErrors.l0 k a2 (([t264 ++ (⟨#[63]⟩ : ByteArray), a1, (t265 ++ (⟨#[32, 62]⟩ : ByteArray)) ++ a1] : List ByteArray)) 0) else (none)) else (none)) = some r := H
  have A6 := Aside0.mk A60
  clear A60
  by_cases c7 : t265.size + 2 ≤ 9223372036854775807
  ·rw [if_pos c7] at H
   have c7b0 := eq_true c7
   have c7b1 : decide (t265.size + 2 ≤ 9223372036854775807) = true := decide_eq_true c7
   try have c7b2 : (9223372036854775807 < t265.size + 2) = False := eq_false (Nat.not_lt.2 c7)
   by_cases c8 : (t265 ++ (⟨#[32, 62]⟩ : ByteArray)).size + a1.size ≤ 9223372036854775807
   ·rw [if_pos c8] at H
    have c8b0 := eq_true c8
    have c8b1 : decide ((t265 ++ (⟨#[32, 62]⟩ : ByteArray)).size + a1.size ≤ 9223372036854775807) = true := decide_eq_true c8
    try have c8b2 : (9223372036854775807 < (t265 ++ (⟨#[32, 62]⟩ : ByteArray)).size + a1.size) = False := eq_false (Nat.not_lt.2 c8)
    try simp only [ByteArray.size_append, show (⟨#[32, 62]⟩ : ByteArray).size = 2 from rfl] at c8b0 c8b1 c8b2
    obtain ⟨y266, hy266⟩ : ∃ y_ : List ByteArray, y_ = (([t264 ++ (⟨#[63]⟩ : ByteArray), a1, (t265 ++ (⟨#[32, 62]⟩ : ByteArray)) ++ a1] : List ByteArray)) := ⟨_, rfl⟩
    replace H : (splicerylaw05_LexErrors.l0 k a2 y266 0) = some r := by first | (rw [hy266]; with_reducible exact H) | (have H2_ := (Option.bind_some _ _).symm.trans H; rw [hy266]; with_reducible exact H2_) | (have H2_ := (Option.bind_some _ _).symm.trans H; with_reducible exact H2_) | with_reducible exact H | (rw [hy266]; exact H) | exact H
    have Ny266 := Aside0.mk hy266
    clear hy266
    have H' := Aside0.mk H
    clear H
    go_enter Tryd.func5, Tryd.ntmps5
    go_wp2_with (first | ((with_reducible refine gate_callee (f := 9) rfl ?_); refine goesL_ (some 26) rfl rfl Tryd.func9 (by kernel_rfl) rfl #[.slice A0 l0.length c0] rfl (by (try simp only [List.map_toArray, List.map_cons, List.map_nil]); first | done | rfl | (simp only [List.length_drop, List.length_take]; rfl)) ?_; (with_reducible refine (spliceryref05_Sample.calls k _ _ l0 t264 _ ?side1 ?side2 A4.out).mono ?_); (case side1 => repeat (first | exact HR0.out | (with_reducible refine Kd.C_alloc ?_ _) | (with_reducible refine Kd.C_drewN ?_ _) | (with_reducible refine Kd.C_drew ?_))); (case side2 => exact HC0.out); rintro e w9 ⟨rfl, hb⟩; refine ⟨_, rfl, ?_⟩; have n0_ := Aside0.mk (below_step (by repeat (first | (with_reducible first | exact HB.out | apply below_alloc | apply pw_below_drewN | apply below_drew1) | exact HB.out)) hb); clear HB; have HB := n0_; clear n0_; (try clear hb); (try clear hb2); (try clear hk); (try clear hi)) | ((with_reducible refine gate_callee (f := 9) rfl ?_); refine goesL_ (some 30) rfl rfl Tryd.func9 (by kernel_rfl) rfl #[.slice A0 l0.length c0] rfl (by (try simp only [List.map_toArray, List.map_cons, List.map_nil]); first | done | rfl | (simp only [List.length_drop, List.length_take]; rfl)) ?_; (with_reducible refine (spliceryref05_Sample.calls k _ _ l0 t265 _ ?side1 ?side2 A6.out).mono ?_); (case side1 => repeat (first | exact (Kd.C_below HR0.out HB.out) | (with_reducible refine Kd.C_alloc ?_ _) | (with_reducible refine Kd.C_drewN ?_ _) | (with_reducible refine Kd.C_drew ?_))); (case side2 => exact HC0.out); rintro e w10 ⟨rfl, hb⟩; refine ⟨_, rfl, ?_⟩; have n0_ := Aside0.mk (below_step (by repeat (first | (with_reducible first | exact HB.out | apply below_alloc | apply pw_below_drewN | apply below_drew1) | exact HB.out)) hb); clear HB; have HB := n0_; clear n0_; (try clear hb); (try clear hb2); (try clear hk); (try clear hi)) | ((with_reducible refine gate_dst (N := 34) rfl ?_); (try (refine gate_guard (by rfl) ?_; dsimp only)); refine Kd.R_lit Kd.string _ 9 ?hg (N := 34) ?hd (xs := ([t264 ++ (⟨#[63]⟩ : ByteArray), a1, (t265 ++ (⟨#[32, 62]⟩ : ByteArray)) ++ a1] : List ByteArray)) (inner := [.string (t264 ++ (⟨#[63]⟩ : ByteArray)), .string a1, .string ((t265 ++ (⟨#[32, 62]⟩ : ByteArray)) ++ a1)]) (ok := fun _ => True) (okp := fun _ => True) ?hr ?hp (fun _ hk => hk) trivial (Below.refl _ _) (Nat.le_refl _) (by simp) ?_; (case hd => rfl); (case hg => rfl); (case hr => first | (go_simp; done) | (go_simp; rfl)); (case hp => exact (Reps.one (show Kd.M Kd.string _ _ _ (t264 ++ (⟨#[63]⟩ : ByteArray)) [.string (t264 ++ (⟨#[63]⟩ : ByteArray))] from rfl) (Reps.one (show Kd.M Kd.string _ _ _ a1 [.string a1] from rfl) (Reps.one (show Kd.M Kd.string _ _ _ ((t265 ++ (⟨#[32, 62]⟩ : ByteArray)) ++ a1) [.string ((t265 ++ (⟨#[32, 62]⟩ : ByteArray)) ++ a1)] from rfl) (Reps.none _ _))))); intro v267 w11 ho12 hb hg_ hnew_; clear hg_ hnew_; (first | rw [← Ny266.out] at ho12 | (simp only [Int.reduceToNat] at ho12; rw [← Ny266.out] at ho12)); have n0_ := Aside0.mk (Kd.R_lower ho12 (below_size (by repeat (first | (with_reducible first | exact HB.out | apply below_alloc | apply pw_below_drewN | apply below_drew1) | exact HB.out)))); have n1_ := Aside0.mk (below_step (by repeat (first | (with_reducible first | exact HB.out | apply below_alloc | apply pw_below_drewN | apply below_drew1) | exact HB.out)) hb); clear HB; have HO268 := n0_; have HB := n1_; clear n0_ n1_; clear hb ho12))
    go_loopg [8] k (fun kq v8 w' => ∃ (x8_1 : Int), v8 = .int .i64 x8_1 ∧ Aside0 (splicerylaw05_LexErrors.l0 kq a2 y266 x8_1 = some r) ∧ Aside0 (kq ≤ k) ∧ Aside0 (Kd.R Kd.string 9 w' w.heap.size (fun _ => True) v267 y266) ∧ Aside0 (Below w.heap.size w w'))
    case atStart => exact ⟨(0), (by first | rfl | (simp; done) | (simp [*]; done)), H', ⟨Nat.le_refl _⟩, ⟨by (with_reducible repeat (first | apply Kd.R_alloc | apply Kd.R_drewN | apply Kd.R_drew)); exact HO268.out⟩, ⟨by repeat (first | (with_reducible first | exact HB.out | apply below_alloc | apply pw_below_drewN | apply below_drew1) | exact HB.out)⟩⟩
    case round =>
     clear H'
     try clear p2
     try clear c5
     try clear c5b0
     try clear c5b1
     try clear c5b2
     try clear c7
     try clear c7b0
     try clear c7b1
     try clear c7b2
     try clear c8
     try clear c8b0
     try clear c8b1
     try clear c8b2
     try clear c9
     obtain ⟨x8_1, rfl, HA, HK1, HO_7, HB⟩ := hrel
     cases gk with
     | zero => exact absurd HA.out (by simp [splicerylaw05_LexErrors.l0])
     | succ k1 =>
      have H := HA.out
      clear HA
      simp only [splicerylaw05_LexErrors.l0] at H
      by_cases c13 : x8_1 < (y266.length : Int)
      ·rw [if_pos c13] at H
       have c13b0 : decide (x8_1 < (y266.length : Int)) = true := decide_eq_true c13
       clear c13
       by_cases c14 : 0 ≤ x8_1
       ·rw [if_pos c14] at H
        have c14b0 : decide (0 ≤ x8_1) = true := decide_eq_true c14
        clear c14
        replace H := Option.bind_eq_some_iff.mp H
        obtain ⟨⟨t270, t271, t272⟩, A150, H⟩ := H
        replace H : (if t272 = (-1) then (splicerylaw05_LexErrors.j1 k1 a2 y266 x8_1 (rdOf ByteArray.empty y266 x8_1) t272 true) else (splicerylaw05_LexErrors.j1 k1 a2 y266 x8_1 (rdOf ByteArray.empty y266 x8_1) t272 (t272 == 8192))) = some r := H
        have A15 := Aside0.mk A150
        clear A150
        have HC16 := Aside0.mk H
        clear H
        obtain ⟨Ao17, co17, eo17⟩ := Kd.R_slice HO_7.out
        subst eo17
        have p269 : 0 ≤ (x8_1 : Int) := of_decide_eq_true (by first | (with_reducible assumption) | assumption)
        have q269 : x8_1 < (y266.length : Int) := of_decide_eq_true (by first | (with_reducible assumption) | assumption)
        obtain ⟨ad269, e269, hx269_0⟩ := Kd.at_string (Kd.R_reads' HO_7.out).2.2 x8_1 p269 q269
        cases e269
        replace p269 := eq_true p269
        replace q269 := eq_true q269
        go_upto_region 7 with (first | ((with_reducible refine gate_callee (f := 11) rfl ?_); refine goesL_ (some 47) rfl rfl Tryd.func11 (by kernel_rfl) rfl #[.string (rdOf ByteArray.empty y266 x8_1)] rfl (by (try simp only [List.map_toArray, List.map_cons, List.map_nil]); first | done | rfl | (simp only [List.length_drop, List.length_take]; rfl)) ?_; (with_reducible refine (lex_Scan.calls k1 (rdOf ByteArray.empty y266 x8_1) t270 t271 t272 _ ?side1 A15.out).mono ?_); (case side1 => exact Glob.below HG.out (by repeat (first | (with_reducible first | exact HB.out | apply below_alloc | apply pw_below_drewN | apply below_drew1) | exact HB.out))); rintro e w18 ⟨v273, rfl, ho0, hb⟩; refine ⟨_, rfl, ?_⟩; have n0_ := Aside0.mk (Kd.R_below (by (with_reducible repeat (first | apply Kd.R_alloc | apply Kd.R_drewN | apply Kd.R_drew)); exact HO_7.out) hb); have n1_ := Aside0.mk (Kd.R_lower ho0 (below_size (by repeat (first | (with_reducible first | exact HB.out | apply below_alloc | apply pw_below_drewN | apply below_drew1) | exact HB.out)))); have n2_ := Aside0.mk (below_step (by repeat (first | (with_reducible first | exact HB.out | apply below_alloc | apply pw_below_drewN | apply below_drew1) | exact HB.out)) hb); clear HO_7; clear HB; have HO_7 := n0_; have HO274 := n1_; have HB := n2_; clear n0_ n1_ n2_; (try clear hb); (try clear hb2); (try clear hk); (try clear hi); (try clear ho0)))
        (try simp only [Act.put, List.setIfInBounds_toArray, List.set_cons_zero, List.set_cons_succ])
        go_cut [56] (fun v56 wc => ∃ (kq : Nat) (x56_15 : Bool), v56 = .bool x56_15 ∧ Aside0 (splicerylaw05_LexErrors.j1 kq a2 y266 x8_1 (rdOf ByteArray.empty y266 x8_1) t272 x56_15 = some r) ∧ Aside0 (kq ≤ k1) ∧ Aside0 (Kd.R Kd.string 9 wc w.heap.size (fun _ => True) (.slice (some ad269) y266.length co17) y266) ∧ Aside0 (Below w.heap.size w wc))
        case first =>
         have H := HC16.out
         clear HC16
         by_cases c19 : t272 = (-1)
         ·rw [if_pos c19] at H
          have c19b0 : (t272 == (-1)) = true := beq_iff_eq.mpr c19
          have c19b1 : (t272 != (-1)) = false := bne_eq_false_iff_eq.mpr c19
          clear c19
          (first | rw [c19b0] | (simp only [i64_w, i32_w]; rw [c19b0]) | skip)
          have H' := Aside0.mk H
          clear H
          go_wp2
          go_meet
          case rel => exact ⟨_, (true), (by first | rfl | (simp; done) | (simp [*]; done)), H', ⟨by have := HK1.out; first | omega | exact Nat.le_refl _⟩, ⟨by (with_reducible repeat (first | apply Kd.R_alloc | apply Kd.R_drewN | apply Kd.R_drew)); exact HO_7.out⟩, ⟨by repeat (first | (with_reducible first | exact HB.out | apply below_alloc | apply pw_below_drewN | apply below_drew1) | exact HB.out)⟩⟩
         ·rw [if_neg c19] at H
          have c19b0 : (t272 == (-1)) = false := beq_eq_false_iff_ne.mpr c19
          have c19b1 : (t272 != (-1)) = true := bne_iff_ne.mpr c19
          (first | rw [c19b0] | (simp only [i64_w, i32_w]; rw [c19b0]) | skip)
          have H' := Aside0.mk H
          clear H
          go_wp2
          go_meet
          case rel => exact ⟨_, ((t272 == 8192)), (by first | rfl | (simp; done) | (simp [*]; done)), H', ⟨by have := HK1.out; first | omega | exact Nat.le_refl _⟩, ⟨by (with_reducible repeat (first | apply Kd.R_alloc | apply Kd.R_drewN | apply Kd.R_drew)); exact HO_7.out⟩, ⟨by repeat (first | (with_reducible first | exact HB.out | apply below_alloc | apply pw_below_drewN | apply below_drew1) | exact HB.out)⟩⟩
        case rest =>
         clear HC16
         try clear c1
         try clear p2
         try clear q2
         try clear hx2
         try clear c5
         try clear c5b0
         try clear c5b1
         try clear c5b2
         try clear c7
         try clear c7b0
         try clear c7b1
         try clear c7b2
         try clear c8
         try clear c8b0
         try clear c8b1
         try clear c8b2
         try clear c9
         try clear c11
         try clear c13
         try clear c13b0
         try clear c14
         try clear c14b0
         try clear c19
         try clear c19b0
         try clear c19b1
         try clear hx269_0
         try clear p2
         try clear p269
         try clear q269
         obtain ⟨kq, x56_15, rfl, HA, HJ15, HO_7, HB⟩ := hcut
         cases kq with
         | zero => exact absurd HA.out (by simp [splicerylaw05_LexErrors.j1])
         | succ kj15 =>
          have H := HA.out
          clear HA
          simp only [splicerylaw05_LexErrors.j1] at H
          by_cases c20 : x56_15 = true
          ·subst c20
           have H1 : (splicerylaw05_LexErrors.l0 kj15 a2 y266 (wrap64 (x8_1 + 1))) = some r := by rw [if_pos rfl] at H; exact H
           clear H
           have H := H1
           clear H1
           have H' := Aside0.mk H
           clear H
           go_wp2
           go_roundg kj15
           case measure => have := HK1.out; have := HJ15.out; omega
           case rel => exact ⟨(wrap64 (x8_1 + 1)), (by first | rfl | (simp; done) | (simp [*]; done)), H', ⟨by have := HK1.out; have := HJ15.out; omega⟩, ⟨by (with_reducible repeat (first | apply Kd.R_alloc | apply Kd.R_drewN | apply Kd.R_drew)); exact HO_7.out⟩, ⟨by repeat (first | (with_reducible first | exact HB.out | apply below_alloc | apply pw_below_drewN | apply below_drew1) | exact HB.out)⟩⟩
          ·replace c20 := Bool.eq_false_iff.mpr c20
           subst c20
           have H1 : (if t272 < 0 then (splicerylaw05_LexErrors.j2 kj15 a2 y266 x8_1 (rdOf ByteArray.empty y266 x8_1) t272 true) else (splicerylaw05_LexErrors.j2 kj15 a2 y266 x8_1 (rdOf ByteArray.empty y266 x8_1) t272 (decide (t272 ≥ ((rdOf ByteArray.empty y266 x8_1).size : Int))))) = some r := by rw [if_neg (show ¬ (false = true) by decide)] at H; exact H
           clear H
           have H := H1
           clear H1
           have HC21 := Aside0.mk H
           clear H
           go_upto_region 8 with (fail)
           go_cut [64] (fun v64 wc => ∃ (kq : Nat) (x64_20 : Bool), v64 = .bool x64_20 ∧ Aside0 (splicerylaw05_LexErrors.j2 kq a2 y266 x8_1 (rdOf ByteArray.empty y266 x8_1) t272 x64_20 = some r) ∧ Aside0 (kq ≤ kj15) ∧ Aside0 (Kd.R Kd.string 9 wc w.heap.size (fun _ => True) (.slice (some ad269) y266.length co17) y266) ∧ Aside0 (Below w.heap.size w wc))
           case first =>
            have H := HC21.out
            clear HC21
            by_cases c22 : t272 < 0
            ·rw [if_pos c22] at H
             have c22b0 : decide (t272 < 0) = true := decide_eq_true c22
             clear c22
             (first | rw [c22b0] | (simp only [i64_w, i32_w]; rw [c22b0]) | skip)
             have H' := Aside0.mk H
             clear H
             go_wp2
             go_meet
             case rel => exact ⟨_, (true), (by first | rfl | (simp; done) | (simp [*]; done)), H', ⟨by have := HK1.out; have := HJ15.out; first | omega | exact Nat.le_refl _⟩, ⟨by (with_reducible repeat (first | apply Kd.R_alloc | apply Kd.R_drewN | apply Kd.R_drew)); exact HO_7.out⟩, ⟨by repeat (first | (with_reducible first | exact HB.out | apply below_alloc | apply pw_below_drewN | apply below_drew1) | exact HB.out)⟩⟩
            ·rw [if_neg c22] at H
             have c22b0 : decide (t272 < 0) = false := decide_eq_false c22
             clear c22
             (first | rw [c22b0] | (simp only [i64_w, i32_w]; rw [c22b0]) | skip)
             have H' := Aside0.mk H
             clear H
             go_wp2
             go_meet
             case rel => exact ⟨_, (decide (t272 ≥ ((rdOf ByteArray.empty y266 x8_1).size : Int))), (by first | rfl | (simp; done) | (simp [*]; done)), H', ⟨by have := HK1.out; have := HJ15.out; first | omega | exact Nat.le_refl _⟩, ⟨by (with_reducible repeat (first | apply Kd.R_alloc | apply Kd.R_drewN | apply Kd.R_drew)); exact HO_7.out⟩, ⟨by repeat (first | (with_reducible first | exact HB.out | apply below_alloc | apply pw_below_drewN | apply below_drew1) | exact HB.out)⟩⟩
           case rest =>
            clear HC21
            try clear c1
            try clear c2
            try clear p2
            try clear q2
            try clear hx2
            try clear c5
            try clear c5b0
            try clear c5b1
            try clear c5b2
            try clear p6
            try clear c7
            try clear c7b0
            try clear c7b1
            try clear c7b2
            try clear c8
            try clear c8b0
            try clear c8b1
            try clear c8b2
            try clear c9
            try clear c11
            try clear c13
            try clear c13b0
            try clear c14
            try clear c14b0
            try clear c19
            try clear c19b0
            try clear c19b1
            try clear c20
            try clear c22
            try clear c22b0
            try clear hx269_0
            try clear p2
            try clear p269
            try clear q2
            try clear q269
            obtain ⟨kq, x64_20, rfl, HA, HJ20, HO_7, HB⟩ := hcut
            cases kq with
            | zero => exact absurd HA.out (by simp [splicerylaw05_LexErrors.j2])
            | succ kj20 =>
             have H := HA.out
             clear HA
             simp only [splicerylaw05_LexErrors.j2] at H
             by_cases c23 : x64_20 = true
             ·subst c23
              have H1 : (some false) = some r := by rw [if_pos rfl] at H; exact H
              clear H
              have H := H1
              clear H1
              obtain rfl := Option.some.inj H
              go_wp2
              go_ret
              exact ⟨by first | rfl | (simp [errW_none, errW_some] <;> rfl) | (simp [*, errW_none, errW_some] <;> rfl), by repeat (first | (with_reducible first | exact HB.out | apply below_alloc | apply pw_below_drewN | apply below_drew1) | exact HB.out)⟩
             ·replace c23 := Bool.eq_false_iff.mpr c23
              subst c23
              have H1 : (if 0 ≤ t272 then (if t272 ≤ ((rdOf ByteArray.empty y266 x8_1).size : Int) then ((lex_Scan.f kj20 ((rdOf ByteArray.empty y266 x8_1).extract 0 (t272 : Int).toNat)).bind fun bt275 => ((lex_Scan.f kj20 ((rdOf ByteArray.empty y266 x8_1).extract (t272 : Int).toNat (rdOf ByteArray.empty y266 x8_1).size)).bind fun bt280 => (if bt275.2.2 = (-1) then (if bt280.2.2 = 0 then (splicerylaw05_LexErrors.l0 kj20 a2 y266 (wrap64 (x8_1 + 1))) else (if bt280.2.2 = 8192 then (splicerylaw05_LexErrors.l0 kj20 a2 y266 (wrap64 (x8_1 + 1))) else (some false))) else (some false)))) else (none)) else (none)) = some r := by rw [if_neg (show ¬ (false = true) by decide)] at H; exact H
              clear H
              have H := H1
              clear H1
              by_cases c24 : 0 ≤ t272
              ·rw [if_pos c24] at H
               have c24b0 := eq_true c24
               have c24b1 : decide (0 ≤ t272) = true := decide_eq_true c24
               clear c24
               by_cases c25 : t272 ≤ ((rdOf ByteArray.empty y266 x8_1).size : Int)
               ·rw [if_pos c25] at H
                have c25b0 := eq_true c25
                have c25b1 : decide (t272 ≤ ((rdOf ByteArray.empty y266 x8_1).size : Int)) = true := decide_eq_true c25
                clear c25
                replace H := Option.bind_eq_some_iff.mp H
                obtain ⟨⟨t275, t276, t277⟩, A260, H⟩ := H
                replace H : ((lex_Scan.f kj20 ((rdOf ByteArray.empty y266 x8_1).extract (t272 : Int).toNat (rdOf ByteArray.empty y266 x8_1).size)).bind fun bt280 => (if t277 = (-1) then (if bt280.2.2 = 0 then (splicerylaw05_LexErrors.l0 kj20 a2 y266 (wrap64 (x8_1 + 1))) else (if bt280.2.2 = 8192 then (splicerylaw05_LexErrors.l0 kj20 a2 y266 (wrap64 (x8_1 + 1))) else (some false))) else (some false))) = some r := H
                have A26 := Aside0.mk A260
                clear A260
                have c27b0 := eq_true (of_decide_eq_true (by first | (with_reducible assumption) | assumption) : 0 ≤ t272)
                have c28b0 := eq_true (of_decide_eq_true (by first | (with_reducible assumption) | assumption) : t272 ≤ ((rdOf ByteArray.empty y266 x8_1).size : Int))
                replace H := Option.bind_eq_some_iff.mp H
                obtain ⟨⟨t280, t281, t282⟩, A290, H⟩ := H
                replace H : (if t277 = (-1) then (if t282 = 0 then (splicerylaw05_LexErrors.l0 kj20 a2 y266 (wrap64 (x8_1 + 1))) else (if t282 = 8192 then (splicerylaw05_LexErrors.l0 kj20 a2 y266 (wrap64 (x8_1 + 1))) else (some false))) else (some false)) = some r := H
                have A29 := Aside0.mk A290
                clear A290
                by_cases c30 : t277 = (-1)
                ·rw [if_pos c30] at H
                 have c30b0 : (t277 == (-1)) = true := beq_iff_eq.mpr c30
                 have c30b1 : (t277 != (-1)) = false := bne_eq_false_iff_eq.mpr c30
                 clear c30
                 by_cases c31 : t282 = 0
                 ·rw [if_pos c31] at H
                  have c31b0 : (t282 == 0) = true := beq_iff_eq.mpr c31
                  have c31b1 : (t282 != 0) = false := bne_eq_false_iff_eq.mpr c31
                  clear c31
                  have H' := Aside0.mk H
                  clear H
                  go_wp2_with (first | ((with_reducible refine gate_callee (f := 11) rfl ?_); refine goesL_ (some 69) rfl rfl Tryd.func11 (by kernel_rfl) rfl #[.string ((rdOf ByteArray.empty y266 x8_1).extract 0 (t272 : Int).toNat)] rfl (by (try simp only [List.map_toArray, List.map_cons, List.map_nil]); first | done | rfl | (simp only [List.length_drop, List.length_take]; rfl)) ?_; (with_reducible refine (lex_Scan.calls kj20 ((rdOf ByteArray.empty y266 x8_1).extract 0 (t272 : Int).toNat) t275 t276 t277 _ ?side1 A26.out).mono ?_); (case side1 => exact Glob.below HG.out (by repeat (first | (with_reducible first | exact HB.out | apply below_alloc | apply pw_below_drewN | apply below_drew1) | exact HB.out))); rintro e w32 ⟨v278, rfl, ho0, hb⟩; refine ⟨_, rfl, ?_⟩; have n0_ := Aside0.mk (Kd.R_below (by (with_reducible repeat (first | apply Kd.R_alloc | apply Kd.R_drewN | apply Kd.R_drew)); exact HO_7.out) hb); have n1_ := Aside0.mk (Kd.R_lower ho0 (below_size (by repeat (first | (with_reducible first | exact HB.out | apply below_alloc | apply pw_below_drewN | apply below_drew1) | exact HB.out)))); have n2_ := Aside0.mk (below_step (by repeat (first | (with_reducible first | exact HB.out | apply below_alloc | apply pw_below_drewN | apply below_drew1) | exact HB.out)) hb); clear HO_7; clear HB; have HO_7 := n0_; have HO279 := n1_; have HB := n2_; clear n0_ n1_ n2_; (try clear hb); (try clear hb2); (try clear hk); (try clear hi); (try clear ho0)) | ((with_reducible refine gate_callee (f := 11) rfl ?_); refine goesL_ (some 77) rfl rfl Tryd.func11 (by kernel_rfl) rfl #[.string ((rdOf ByteArray.empty y266 x8_1).extract (t272 : Int).toNat (rdOf ByteArray.empty y266 x8_1).size)] rfl (by (try simp only [List.map_toArray, List.map_cons, List.map_nil]); first | done | rfl | (simp only [List.length_drop, List.length_take]; rfl)) ?_; (with_reducible refine (lex_Scan.calls kj20 ((rdOf ByteArray.empty y266 x8_1).extract (t272 : Int).toNat (rdOf ByteArray.empty y266 x8_1).size) t280 t281 t282 _ ?side1 A29.out).mono ?_); (case side1 => exact Glob.below HG.out (by repeat (first | (with_reducible first | exact HB.out | apply below_alloc | apply pw_below_drewN | apply below_drew1) | exact HB.out))); rintro e w33 ⟨v283, rfl, ho0, hb⟩; refine ⟨_, rfl, ?_⟩; have n0_ := Aside0.mk (Kd.R_below (by (with_reducible repeat (first | apply Kd.R_alloc | apply Kd.R_drewN | apply Kd.R_drew)); exact HO_7.out) hb); have n1_ := Aside0.mk (Kd.R_elder' (by (with_reducible repeat (first | apply Kd.R_alloc | apply Kd.R_drewN | apply Kd.R_drew)); exact HO279.out) (Kd.R_base ho0) hb); have n2_ := Aside0.mk (Kd.R_lower (Kd.R_new' ho0 (Kd.R_lt (by (with_reducible repeat (first | apply Kd.R_alloc | apply Kd.R_drewN | apply Kd.R_drew)); exact HO279.out))) (below_size (by repeat (first | (with_reducible first | exact HB.out | apply below_alloc | apply pw_below_drewN | apply below_drew1) | exact HB.out)))); have n3_ := Aside0.mk (below_step (by repeat (first | (with_reducible first | exact HB.out | apply below_alloc | apply pw_below_drewN | apply below_drew1) | exact HB.out)) hb); clear HO_7; clear HO279; clear HB; have HO_7 := n0_; have HO279 := n1_; have HO284 := n2_; have HB := n3_; clear n0_ n1_ n2_ n3_; (try clear hb); (try clear hb2); (try clear hk); (try clear hi); (try clear ho0)))
                  go_roundg kj20
                  case measure => have := HK1.out; have := HJ15.out; have := HJ20.out; omega
                  case rel => exact ⟨(wrap64 (x8_1 + 1)), (by first | rfl | (simp; done) | (simp [*]; done)), H', ⟨by have := HK1.out; have := HJ15.out; have := HJ20.out; omega⟩, ⟨by (with_reducible repeat (first | apply Kd.R_alloc | apply Kd.R_drewN | apply Kd.R_drew)); exact HO_7.out⟩, ⟨by repeat (first | (with_reducible first | exact HB.out | apply below_alloc | apply pw_below_drewN | apply below_drew1) | exact HB.out)⟩⟩
                 ·rw [if_neg c31] at H
                  have c31b0 : (t282 == 0) = false := beq_eq_false_iff_ne.mpr c31
                  have c31b1 : (t282 != 0) = true := bne_iff_ne.mpr c31
                  by_cases c34 : t282 = 8192
                  ·rw [if_pos c34] at H
                   have c34b0 : (t282 == 8192) = true := beq_iff_eq.mpr c34
                   have c34b1 : (t282 != 8192) = false := bne_eq_false_iff_eq.mpr c34
                   clear c34
                   have H' := Aside0.mk H
                   clear H
                   go_wp2_with (first | ((with_reducible refine gate_callee (f := 11) rfl ?_); refine goesL_ (some 69) rfl rfl Tryd.func11 (by kernel_rfl) rfl #[.string ((rdOf ByteArray.empty y266 x8_1).extract 0 (t272 : Int).toNat)] rfl (by (try simp only [List.map_toArray, List.map_cons, List.map_nil]); first | done | rfl | (simp only [List.length_drop, List.length_take]; rfl)) ?_; (with_reducible refine (lex_Scan.calls kj20 ((rdOf ByteArray.empty y266 x8_1).extract 0 (t272 : Int).toNat) t275 t276 t277 _ ?side1 A26.out).mono ?_); (case side1 => exact Glob.below HG.out (by repeat (first | (with_reducible first | exact HB.out | apply below_alloc | apply pw_below_drewN | apply below_drew1) | exact HB.out))); rintro e w35 ⟨v278, rfl, ho0, hb⟩; refine ⟨_, rfl, ?_⟩; have n0_ := Aside0.mk (Kd.R_below (by (with_reducible repeat (first | apply Kd.R_alloc | apply Kd.R_drewN | apply Kd.R_drew)); exact HO_7.out) hb); have n1_ := Aside0.mk (Kd.R_lower ho0 (below_size (by repeat (first | (with_reducible first | exact HB.out | apply below_alloc | apply pw_below_drewN | apply below_drew1) | exact HB.out)))); have n2_ := Aside0.mk (below_step (by repeat (first | (with_reducible first | exact HB.out | apply below_alloc | apply pw_below_drewN | apply below_drew1) | exact HB.out)) hb); clear HO_7; clear HB; have HO_7 := n0_; have HO279 := n1_; have HB := n2_; clear n0_ n1_ n2_; (try clear hb); (try clear hb2); (try clear hk); (try clear hi); (try clear ho0)) | ((with_reducible refine gate_callee (f := 11) rfl ?_); refine goesL_ (some 77) rfl rfl Tryd.func11 (by kernel_rfl) rfl #[.string ((rdOf ByteArray.empty y266 x8_1).extract (t272 : Int).toNat (rdOf ByteArray.empty y266 x8_1).size)] rfl (by (try simp only [List.map_toArray, List.map_cons, List.map_nil]); first | done | rfl | (simp only [List.length_drop, List.length_take]; rfl)) ?_; (with_reducible refine (lex_Scan.calls kj20 ((rdOf ByteArray.empty y266 x8_1).extract (t272 : Int).toNat (rdOf ByteArray.empty y266 x8_1).size) t280 t281 t282 _ ?side1 A29.out).mono ?_); (case side1 => exact Glob.below HG.out (by repeat (first | (with_reducible first | exact HB.out | apply below_alloc | apply pw_below_drewN | apply below_drew1) | exact HB.out))); rintro e w36 ⟨v283, rfl, ho0, hb⟩; refine ⟨_, rfl, ?_⟩; have n0_ := Aside0.mk (Kd.R_below (by (with_reducible repeat (first | apply Kd.R_alloc | apply Kd.R_drewN | apply Kd.R_drew)); exact HO_7.out) hb); have n1_ := Aside0.mk (Kd.R_elder' (by (with_reducible repeat (first | apply Kd.R_alloc | apply Kd.R_drewN | apply Kd.R_drew)); exact HO279.out) (Kd.R_base ho0) hb); have n2_ := Aside0.mk (Kd.R_lower (Kd.R_new' ho0 (Kd.R_lt (by (with_reducible repeat (first | apply Kd.R_alloc | apply Kd.R_drewN | apply Kd.R_drew)); exact HO279.out))) (below_size (by repeat (first | (with_reducible first | exact HB.out | apply below_alloc | apply pw_below_drewN | apply below_drew1) | exact HB.out)))); have n3_ := Aside0.mk (below_step (by repeat (first | (with_reducible first | exact HB.out | apply below_alloc | apply pw_below_drewN | apply below_drew1) | exact HB.out)) hb); clear HO_7; clear HO279; clear HB; have HO_7 := n0_; have HO279 := n1_; have HO284 := n2_; have HB := n3_; clear n0_ n1_ n2_ n3_; (try clear hb); (try clear hb2); (try clear hk); (try clear hi); (try clear ho0)))
                   go_roundg kj20
                   case measure => have := HK1.out; have := HJ15.out; have := HJ20.out; omega
                   case rel => exact ⟨(wrap64 (x8_1 + 1)), (by first | rfl | (simp; done) | (simp [*]; done)), H', ⟨by have := HK1.out; have := HJ15.out; have := HJ20.out; omega⟩, ⟨by (with_reducible repeat (first | apply Kd.R_alloc | apply Kd.R_drewN | apply Kd.R_drew)); exact HO_7.out⟩, ⟨by repeat (first | (with_reducible first | exact HB.out | apply below_alloc | apply pw_below_drewN | apply below_drew1) | exact HB.out)⟩⟩
                  ·rw [if_neg c34] at H
                   have c34b0 : (t282 == 8192) = false := beq_eq_false_iff_ne.mpr c34
                   have c34b1 : (t282 != 8192) = true := bne_iff_ne.mpr c34
                   obtain rfl := Option.some.inj H
                   go_wp2_with (first | ((with_reducible refine gate_callee (f := 11) rfl ?_); refine goesL_ (some 69) rfl rfl Tryd.func11 (by kernel_rfl) rfl #[.string ((rdOf ByteArray.empty y266 x8_1).extract 0 (t272 : Int).toNat)] rfl (by (try simp only [List.map_toArray, List.map_cons, List.map_nil]); first | done | rfl | (simp only [List.length_drop, List.length_take]; rfl)) ?_; (with_reducible refine (lex_Scan.calls kj20 ((rdOf ByteArray.empty y266 x8_1).extract 0 (t272 : Int).toNat) t275 t276 t277 _ ?side1 A26.out).mono ?_); (case side1 => exact Glob.below HG.out (by repeat (first | (with_reducible first | exact HB.out | apply below_alloc | apply pw_below_drewN | apply below_drew1) | exact HB.out))); rintro e w37 ⟨v278, rfl, ho0, hb⟩; refine ⟨_, rfl, ?_⟩; have n0_ := Aside0.mk (Kd.R_below (by (with_reducible repeat (first | apply Kd.R_alloc | apply Kd.R_drewN | apply Kd.R_drew)); exact HO_7.out) hb); have n1_ := Aside0.mk (Kd.R_lower ho0 (below_size (by repeat (first | (with_reducible first | exact HB.out | apply below_alloc | apply pw_below_drewN | apply below_drew1) | exact HB.out)))); have n2_ := Aside0.mk (below_step (by repeat (first | (with_reducible first | exact HB.out | apply below_alloc | apply pw_below_drewN | apply below_drew1) | exact HB.out)) hb); clear HO_7; clear HB; have HO_7 := n0_; have HO279 := n1_; have HB := n2_; clear n0_ n1_ n2_; (try clear hb); (try clear hb2); (try clear hk); (try clear hi); (try clear ho0)) | ((with_reducible refine gate_callee (f := 11) rfl ?_); refine goesL_ (some 77) rfl rfl Tryd.func11 (by kernel_rfl) rfl #[.string ((rdOf ByteArray.empty y266 x8_1).extract (t272 : Int).toNat (rdOf ByteArray.empty y266 x8_1).size)] rfl (by (try simp only [List.map_toArray, List.map_cons, List.map_nil]); first | done | rfl | (simp only [List.length_drop, List.length_take]; rfl)) ?_; (with_reducible refine (lex_Scan.calls kj20 ((rdOf ByteArray.empty y266 x8_1).extract (t272 : Int).toNat (rdOf ByteArray.empty y266 x8_1).size) t280 t281 t282 _ ?side1 A29.out).mono ?_); (case side1 => exact Glob.below HG.out (by repeat (first | (with_reducible first | exact HB.out | apply below_alloc | apply pw_below_drewN | apply below_drew1) | exact HB.out))); rintro e w38 ⟨v283, rfl, ho0, hb⟩; refine ⟨_, rfl, ?_⟩; have n0_ := Aside0.mk (Kd.R_below (by (with_reducible repeat (first | apply Kd.R_alloc | apply Kd.R_drewN | apply Kd.R_drew)); exact HO_7.out) hb); have n1_ := Aside0.mk (Kd.R_elder' (by (with_reducible repeat (first | apply Kd.R_alloc | apply Kd.R_drewN | apply Kd.R_drew)); exact HO279.out) (Kd.R_base ho0) hb); have n2_ := Aside0.mk (Kd.R_lower (Kd.R_new' ho0 (Kd.R_lt (by (with_reducible repeat (first | apply Kd.R_alloc | apply Kd.R_drewN | apply Kd.R_drew)); exact HO279.out))) (below_size (by repeat (first | (with_reducible first | exact HB.out | apply below_alloc | apply pw_below_drewN | apply below_drew1) | exact HB.out)))); have n3_ := Aside0.mk (below_step (by repeat (first | (with_reducible first | exact HB.out | apply below_alloc | apply pw_below_drewN | apply below_drew1) | exact HB.out)) hb); clear HO_7; clear HO279; clear HB; have HO_7 := n0_; have HO279 := n1_; have HO284 := n2_; have HB := n3_; clear n0_ n1_ n2_ n3_; (try clear hb); (try clear hb2); (try clear hk); (try clear hi); (try clear ho0)))
                   go_ret
                   exact ⟨by first | rfl | (simp [errW_none, errW_some] <;> rfl) | (simp [*, errW_none, errW_some] <;> rfl), by repeat (first | (with_reducible first | exact HB.out | apply below_alloc | apply pw_below_drewN | apply below_drew1) | exact HB.out)⟩
                ·rw [if_neg c30] at H
                 have c30b0 : (t277 == (-1)) = false := beq_eq_false_iff_ne.mpr c30
                 have c30b1 : (t277 != (-1)) = true := bne_iff_ne.mpr c30
                 obtain rfl := Option.some.inj H
                 go_wp2_with (first | ((with_reducible refine gate_callee (f := 11) rfl ?_); refine goesL_ (some 69) rfl rfl Tryd.func11 (by kernel_rfl) rfl #[.string ((rdOf ByteArray.empty y266 x8_1).extract 0 (t272 : Int).toNat)] rfl (by (try simp only [List.map_toArray, List.map_cons, List.map_nil]); first | done | rfl | (simp only [List.length_drop, List.length_take]; rfl)) ?_; (with_reducible refine (lex_Scan.calls kj20 ((rdOf ByteArray.empty y266 x8_1).extract 0 (t272 : Int).toNat) t275 t276 t277 _ ?side1 A26.out).mono ?_); (case side1 => exact Glob.below HG.out (by repeat (first | (with_reducible first | exact HB.out | apply below_alloc | apply pw_below_drewN | apply below_drew1) | exact HB.out))); rintro e w39 ⟨v278, rfl, ho0, hb⟩; refine ⟨_, rfl, ?_⟩; have n0_ := Aside0.mk (Kd.R_below (by (with_reducible repeat (first | apply Kd.R_alloc | apply Kd.R_drewN | apply Kd.R_drew)); exact HO_7.out) hb); have n1_ := Aside0.mk (Kd.R_lower ho0 (below_size (by repeat (first | (with_reducible first | exact HB.out | apply below_alloc | apply pw_below_drewN | apply below_drew1) | exact HB.out)))); have n2_ := Aside0.mk (below_step (by repeat (first | (with_reducible first | exact HB.out | apply below_alloc | apply pw_below_drewN | apply below_drew1) | exact HB.out)) hb); clear HO_7; clear HB; have HO_7 := n0_; have HO279 := n1_; have HB := n2_; clear n0_ n1_ n2_; (try clear hb); (try clear hb2); (try clear hk); (try clear hi); (try clear ho0)) | ((with_reducible refine gate_callee (f := 11) rfl ?_); refine goesL_ (some 77) rfl rfl Tryd.func11 (by kernel_rfl) rfl #[.string ((rdOf ByteArray.empty y266 x8_1).extract (t272 : Int).toNat (rdOf ByteArray.empty y266 x8_1).size)] rfl (by (try simp only [List.map_toArray, List.map_cons, List.map_nil]); first | done | rfl | (simp only [List.length_drop, List.length_take]; rfl)) ?_; (with_reducible refine (lex_Scan.calls kj20 ((rdOf ByteArray.empty y266 x8_1).extract (t272 : Int).toNat (rdOf ByteArray.empty y266 x8_1).size) t280 t281 t282 _ ?side1 A29.out).mono ?_); (case side1 => exact Glob.below HG.out (by repeat (first | (with_reducible first | exact HB.out | apply below_alloc | apply pw_below_drewN | apply below_drew1) | exact HB.out))); rintro e w40 ⟨v283, rfl, ho0, hb⟩; refine ⟨_, rfl, ?_⟩; have n0_ := Aside0.mk (Kd.R_below (by (with_reducible repeat (first | apply Kd.R_alloc | apply Kd.R_drewN | apply Kd.R_drew)); exact HO_7.out) hb); have n1_ := Aside0.mk (Kd.R_elder' (by (with_reducible repeat (first | apply Kd.R_alloc | apply Kd.R_drewN | apply Kd.R_drew)); exact HO279.out) (Kd.R_base ho0) hb); have n2_ := Aside0.mk (Kd.R_lower (Kd.R_new' ho0 (Kd.R_lt (by (with_reducible repeat (first | apply Kd.R_alloc | apply Kd.R_drewN | apply Kd.R_drew)); exact HO279.out))) (below_size (by repeat (first | (with_reducible first | exact HB.out | apply below_alloc | apply pw_below_drewN | apply below_drew1) | exact HB.out)))); have n3_ := Aside0.mk (below_step (by repeat (first | (with_reducible first | exact HB.out | apply below_alloc | apply pw_below_drewN | apply below_drew1) | exact HB.out)) hb); clear HO_7; clear HO279; clear HB; have HO_7 := n0_; have HO279 := n1_; have HO284 := n2_; have HB := n3_; clear n0_ n1_ n2_ n3_; (try clear hb); (try clear hb2); (try clear hk); (try clear hi); (try clear ho0)))
                 go_ret
                 exact ⟨by first | rfl | (simp [errW_none, errW_some] <;> rfl) | (simp [*, errW_none, errW_some] <;> rfl), by repeat (first | (with_reducible first | exact HB.out | apply below_alloc | apply pw_below_drewN | apply below_drew1) | exact HB.out)⟩
               ·rw [if_neg c25] at H
                exact absurd H (by simp)
              ·rw [if_neg c24] at H
               exact absurd H (by simp)
       ·rw [if_neg c14] at H
        exact absurd H (by simp)
      ·rw [if_neg c13] at H
       have c13b0 : decide (x8_1 < (y266.length : Int)) = false := decide_eq_false c13
       clear c13
       replace H := Option.bind_eq_some_iff.mp H
       obtain ⟨t285, A410, H⟩ := H
       replace H : (if 0 ≤ (wrap64 (8190 + t285)) then (if (wrap64 (8190 + t285) : Int).toNat ≤ 281474976710656 then (splicerylaw05_LexErrors.l1 k1 (wrap64 (8190 + t285)) (List.replicate (wrap64 (8190 + t285) : Int).toNat 0) 0) else (none)) else (none)) = some r := H
       have A41 := Aside0.mk A410
       clear A410
       obtain ⟨ji42, hji42⟩ : ∃ j_ : Int, (wrap64 (8190 + t285)) = j_ := ⟨_, rfl⟩
       replace H : (if 0 ≤ (ji42) then (if (ji42 : Int).toNat ≤ 281474976710656 then (splicerylaw05_LexErrors.l1 k1 ji42 (List.replicate (ji42 : Int).toNat 0) 0) else (none)) else (none)) = some r := by first | (rw [hji42] at H; exact H) | (simp only [hji42] at H ⊢; exact H)
       (try rw [hji42] at A41)
       have hji42w : (IntKind.i64.wrap (8190 + t285)) = ji42 := (i64_w _).trans hji42
       by_cases c43 : 0 ≤ (ji42)
       ·rw [if_pos c43] at H
        have c43b0 := eq_true c43
        have c43b1 : decide (0 ≤ (ji42)) = true := decide_eq_true c43
        clear c43
        by_cases c44 : (ji42 : Int).toNat ≤ 281474976710656
        ·rw [if_pos c44] at H
         have c44b0 := eq_true c44
         have c44b1 : decide ((ji42 : Int).toNat ≤ 281474976710656) = true := decide_eq_true c44
         clear c44
         obtain ⟨y286, hy286⟩ : ∃ y_ : List Int, y_ = (List.replicate (ji42 : Int).toNat 0) := ⟨_, rfl⟩
         replace H : (splicerylaw05_LexErrors.l1 k1 ji42 y286 0) = some r := by first | (rw [hy286]; with_reducible exact H) | (have H2_ := (Option.bind_some _ _).symm.trans H; rw [hy286]; with_reducible exact H2_) | (have H2_ := (Option.bind_some _ _).symm.trans H; with_reducible exact H2_) | with_reducible exact H | (rw [hy286]; exact H) | exact H
         have Ny286 := Aside0.mk hy286
         clear hy286
         have H' := Aside0.mk H
         clear H
         obtain ⟨Ao45, co45, eo45⟩ := Kd.R_slice HO_7.out
         subst eo45
         go_wp2_with (first | ((with_reducible refine gate_callee (f := 10) rfl ?_); refine goesL_ (some 92) rfl rfl Tryd.func10 (by kernel_rfl) rfl #[.int .i64 a2, .int .i64 5] rfl (by (try simp only [List.map_toArray, List.map_cons, List.map_nil]); first | done | rfl | (simp only [List.length_drop, List.length_take]; rfl)) ?_; (with_reducible refine (spliceryref01_Around.calls a2 5 t285 _ A41.out).mono ?_); rintro e w' ⟨rfl, ⟨nd, rfl⟩⟩; refine ⟨_, rfl, ?_⟩) | ((with_reducible refine gate_dst (N := 95) rfl ?_); (try (refine gate_guard (by rfl) ?_; dsimp only)); refine Kd.R_make (Kd.int .u8) _ 5 rfl (N := 95) rfl 24 _ _ rfl ji42 rfl rfl Tryd.underlying24 (.int .u8 0) 1 info5 rfl (by decide) (by omega) 0 (ok := fun _ => True) (okp := fun _ => True) rfl (fun _ hk => hk) trivial (of_decide_eq_true (by first | (with_reducible assumption) | assumption)) (Nat.le_trans (Nat.mul_le_mul_right _ (of_decide_eq_true (by first | (with_reducible assumption) | assumption) : ji42.toNat ≤ 281474976710656)) (by omega)) (Below.refl _ _) (Nat.le_refl _) ?_; intro v287 w46 ho47 hb hg_ hnew_; clear hg_ hnew_; (first | rw [← Ny286.out] at ho47 | (simp only [Int.reduceToNat] at ho47; rw [← Ny286.out] at ho47)); have n0_ := Aside0.mk (Kd.R_below (by (with_reducible repeat (first | apply Kd.R_alloc | apply Kd.R_drewN | apply Kd.R_drew)); exact HO_7.out) hb); have n1_ := Aside0.mk (Kd.R_lower ho47 (below_size (by repeat (first | (with_reducible first | exact HB.out | apply below_alloc | apply pw_below_drewN | apply below_drew1) | exact HB.out)))); have n2_ := Aside0.mk (below_step (by repeat (first | (with_reducible first | exact HB.out | apply below_alloc | apply pw_below_drewN | apply below_drew1) | exact HB.out)) hb); clear HO_7; clear HB; have HO_7 := n0_; have HO288 := n1_; have HB := n2_; clear n0_ n1_ n2_; clear hb ho47))
         go_loopg [21] k1 (fun kq v21 w' => ∃ (x20_2 : List Int) (x21_2 : Int), v21 = .int .i64 x21_2 ∧ Aside0 (splicerylaw05_LexErrors.l1 kq ji42 x20_2 x21_2 = some r) ∧ Aside0 (kq ≤ k1) ∧ Aside0 (Kd.R (Kd.int .u8) 5 w' w.heap.size (fun _ => True) v287 x20_2) ∧ Aside0 (Below w.heap.size w w'))
         case atStart => exact ⟨(y286), (0), (by first | rfl | (simp; done) | (simp [*]; done)), H', ⟨Nat.le_refl _⟩, ⟨by (with_reducible repeat (first | apply Kd.R_alloc | apply Kd.R_drewN | apply Kd.R_drew)); exact HO288.out⟩, ⟨by repeat (first | (with_reducible first | exact HB.out | apply below_alloc | apply pw_below_drewN | apply below_drew1) | exact HB.out)⟩⟩
         case round =>
          clear H'
          try clear c1
          try clear c2
          try clear p2
          try clear q2
          try clear hx2
          try clear c3
          try clear c4
          try clear c5
          try clear c5b0
          try clear c5b1
          try clear c5b2
          try clear p6
          try clear c7
          try clear c7b0
          try clear c7b1
          try clear c7b2
          try clear c8
          try clear c8b0
          try clear c8b1
          try clear c8b2
          try clear c9
          try clear c10
          try clear c11
          try clear c13
          try clear c13b0
          try clear c14
          try clear c14b0
          try clear c19
          try clear c19b0
          try clear c19b1
          try clear c20
          try clear c22
          try clear c22b0
          try clear c23
          try clear c24
          try clear c24b0
          try clear c24b1
          try clear c25
          try clear c25b0
          try clear c25b1
          try clear p26
          try clear q26
          try clear hx26
          try clear c27
          try clear c27b0
          try clear c28
          try clear c28b0
          try clear c30
          try clear c30b0
          try clear c30b1
          try clear c31
          try clear c31b0
          try clear c31b1
          try clear c34
          try clear c34b0
          try clear c34b1
          try clear c43
          try clear c43b0
          try clear c43b1
          try clear c44
          try clear c44b0
          try clear c44b1
          try clear hx269_0
          try clear p2
          try clear p269
          try clear p6
          try clear q2
          try clear q269
          obtain ⟨x20_2, x21_2, rfl, HA, HK2, HO_20, HB⟩ := hrel
          cases gk with
          | zero => exact absurd HA.out (by simp [splicerylaw05_LexErrors.l1])
          | succ k2 =>
           have H := HA.out
           clear HA
           simp only [splicerylaw05_LexErrors.l1] at H
           by_cases c48 : x21_2 < ji42
           ·rw [if_pos c48] at H
            have c48b0 : decide (x21_2 < ji42) = true := decide_eq_true c48
            clear c48
            by_cases c49 : 0 ≤ x21_2
            ·rw [if_pos c49] at H
             have c49b0 : decide (0 ≤ x21_2) = true := decide_eq_true c49
             clear c49
             by_cases c50 : x21_2 < (x20_2.length : Int)
             ·rw [if_pos c50] at H
              have c50b0 : decide (x21_2 < (x20_2.length : Int)) = true := decide_eq_true c50
              clear c50
              obtain ⟨y289, hy289⟩ : ∃ y_ : List Int, y_ = (x20_2.set (x21_2 : Int).toNat 32) := ⟨_, rfl⟩
              replace H : (splicerylaw05_LexErrors.l1 k2 ji42 y289 (wrap64 (x21_2 + 1))) = some r := by first | (rw [hy289]; with_reducible exact H) | (have H2_ := (Option.bind_some _ _).symm.trans H; rw [hy289]; with_reducible exact H2_) | (have H2_ := (Option.bind_some _ _).symm.trans H; with_reducible exact H2_) | with_reducible exact H | (rw [hy289]; exact H) | exact H
              have Ny289 := Aside0.mk hy289
              clear hy289
              have H' := Aside0.mk H
              clear H
              have p51 : 0 ≤ (x21_2 : Int) := of_decide_eq_true (by first | (with_reducible assumption) | assumption)
              have q51 : (x21_2 : Int) < ((x20_2.length : Int) : Int) := of_decide_eq_true (by first | (with_reducible assumption) | assumption)
              obtain ⟨go51, co51, eo51, gb51, gl51, cl51, HG51⟩ := Kd.R_form HO_20.out (by omega)
              (first | cases eo51 | (injection eo51 with ea_ en_ ec_; (first | subst ea_ | (injection ea_ with ea_; subst ea_)); subst ec_; clear en_))
              have GB51 := Aside0.mk gb51
              have GG51 := Aside0.mk HG51
              clear gb51 gl51 HG51
              obtain ⟨hx51_0, hf51_0⟩ := Kd.R_celln 0 HO_20.out (x21_2 : Int) p51 q51
              replace p51 := eq_true p51
              replace q51 := eq_true q51
              have HP52 := Kd.R_putg HO_20.out (x21_2 : Int) 32
              go_wp2_with (first | ((with_reducible refine gate_store (t := 5) (p := 103) rfl ?_); refine store_event (t := 5) (p := 103) (v := ?vo_w53) (w1 := (wr.setCell ⟨go51, (x21_2 : Int).toNat, none⟩ (.int .u8 32))) ?hg ?ho ?hn ?hr ?_; (case ho => rfl); (case hg => rfl); (case hn => rfl); (case hr => first | (go_simp; done) | (go_simp; rfl)); intro w53 hw; have hg : wr.grownBy w53 (some go51) := (by rw [hw]; exact HP52.2); have hp_ : Kd.R (Kd.int .u8) 5 w53 w.heap.size (fun _ => True) (.slice (some ⟨go51, 0, none⟩) x20_2.length co51) y289 := (by rw [hw, Ny289.out]; exact HP52.1); clear HP52; have n0_ := Aside0.mk (hp_); have n1_ := Aside0.mk ((by rw [hw]; exact below_set (HB.out) GB51.out : Below w.heap.size w w53)); clear HO_20; clear HB; have HO_20 := n0_; have HB := n1_; clear n0_ n1_; clear hg hw hp_))
              go_roundg k2
              case measure => have := HK1.out; have := HK2.out; omega
              case rel => exact ⟨(y289), (wrap64 (x21_2 + 1)), (by first | rfl | (simp; done) | (simp [*]; done)), H', ⟨by have := HK1.out; have := HK2.out; omega⟩, ⟨by (with_reducible repeat (first | apply Kd.R_alloc | apply Kd.R_drewN | apply Kd.R_drew)); exact HO_20.out⟩, ⟨by repeat (first | (with_reducible first | exact HB.out | apply below_alloc | apply pw_below_drewN | apply below_drew1) | exact HB.out)⟩⟩
             ·rw [if_neg c50] at H
              exact absurd H (by simp)
            ·rw [if_neg c49] at H
             exact absurd H (by simp)
           ·rw [if_neg c48] at H
            have c48b0 : decide (x21_2 < ji42) = false := decide_eq_false c48
            clear c48
            replace H := Option.bind_eq_some_iff.mp H
            obtain ⟨⟨t290, t291, t292⟩, A540, H⟩ := H
            replace H : (if ((t292 == (-1)) == (decide (ji42 ≤ 8192))) = true then (if ((t292 == 8192) == (decide (ji42 > 8192))) = true then (if (t290.length : Int) = 0 then (if t292 = (-1) then (if t291.toList = (strOfNums x20_2).toList then ((lex_Blank.f (strOfNums x20_2)).bind fun t295 => (if (t295 == (decide (ji42 ≤ 8192))) = true then ((splicerylaw05_lives.f k2).bind fun t296 => (some t296)) else (some false))) else (some false)) else ((lex_Blank.f (strOfNums x20_2)).bind fun t297 => (if (t297 == (decide (ji42 ≤ 8192))) = true then ((splicerylaw05_lives.f k2).bind fun t298 => (some t298)) else (some false)))) else (some false)) else (some false)) else (some false)) = some r := H
            have A54 := Aside0.mk A540
            clear A540
            by_cases c55 : ((t292 == (-1)) == (decide (ji42 ≤ 8192))) = true
            ·rw [if_pos c55] at H
             have c55b0 : ((t292 == (-1)) == (decide (ji42 ≤ 8192))) = true := c55
             (try (have c55b1 : decide ((t292 == (-1)) = (decide (ji42 ≤ 8192))) = true := by simpa using c55))
             (try (have c55b2 : ((t292 == (-1)) == (decide (ji42 ≤ 8192))) = true := by simpa using c55))
             clear c55
             by_cases c56 : ((t292 == 8192) == (decide (ji42 > 8192))) = true
             ·rw [if_pos c56] at H
              have c56b0 : ((t292 == 8192) == (decide (ji42 > 8192))) = true := c56
              (try (have c56b1 : decide ((t292 == 8192) = (decide (ji42 > 8192))) = true := by simpa using c56))
              (try (have c56b2 : ((t292 == 8192) == (decide (ji42 > 8192))) = true := by simpa using c56))
              clear c56
              by_cases c57 : (t290.length : Int) = 0
              ·rw [if_pos c57] at H
               have c57b0 : ((t290.length : Int) == 0) = true := beq_iff_eq.mpr c57
               have c57b1 : ((t290.length : Int) != 0) = false := bne_eq_false_iff_eq.mpr c57
               clear c57
               by_cases c58 : t292 = (-1)
               ·rw [if_pos c58] at H
                have c58b0 : (t292 == (-1)) = true := beq_iff_eq.mpr c58
                have c58b1 : (t292 != (-1)) = false := bne_eq_false_iff_eq.mpr c58
                clear c58
                by_cases c59 : t291.toList = (strOfNums x20_2).toList
                ·rw [if_pos c59] at H
                 have c59b0 : (t291.toList == (strOfNums x20_2).toList) = true := beq_iff_eq.mpr c59
                 have c59b1 : (t291.toList != (strOfNums x20_2).toList) = false := bne_eq_false_iff_eq.mpr c59
                 clear c59
                 replace H := Option.bind_eq_some_iff.mp H
                 obtain ⟨t295, A600, H⟩ := H
                 replace H : (if (t295 == (decide (ji42 ≤ 8192))) = true then ((splicerylaw05_lives.f k2).bind fun t296 => (some t296)) else (some false)) = some r := H
                 have A60 := Aside0.mk A600
                 clear A600
                 by_cases c61 : (t295 == (decide (ji42 ≤ 8192))) = true
                 ·rw [if_pos c61] at H
                  have c61b0 : (t295 == (decide (ji42 ≤ 8192))) = true := c61
                  (try (have c61b1 : decide (t295 = (decide (ji42 ≤ 8192))) = true := by simpa using c61))
                  (try (have c61b2 : (t295 == (decide (ji42 ≤ 8192))) = true := by simpa using c61))
                  clear c61
                  replace H := Option.bind_eq_some_iff.mp H
                  obtain ⟨t296, A620, H⟩ := H
                  replace H : (some t296) = some r := H
                  have A62 := Aside0.mk A620
                  clear A620
                  obtain rfl := Option.some.inj H
                  have hz8 : ji42 ≤ 8192 := by
                    by_cases hz : ji42 ≤ 8192
                    · exact hz
                    · exact absurd (show (t292 == -1) = false by simpa [decide_eq_false hz] using c55b0) (by rw [c58b0]; decide)
                  have z1 : decide (ji42 ≤ 8192) = true := decide_eq_true hz8
                  have z2 : decide (ji42 > 8192) = false := decide_eq_false (by omega)
                  have z2' : decide (8192 < ji42) = false := decide_eq_false (by omega)
                  have z4 : (t292 == 8192) = false := by simpa [z2'] using c56b0
                  have z5 : t295 = true := by simpa [z1] using c61b0
                  have hcv63 := own_string (P := Tryd.prog) Tryd.underlying24 Tryd.underlying5 Tryd.underlying9 (Kd.own_of_R HO_20.out)
                  go_wp2_with (first | ((with_reducible refine gate_callee (f := 11) rfl ?_); refine goesL_ (some 107) rfl rfl Tryd.func11 (by kernel_rfl) rfl #[.string (strOfNums x20_2)] rfl (by (try simp only [List.map_toArray, List.map_cons, List.map_nil]); first | done | rfl | (simp only [List.length_drop, List.length_take]; rfl)) ?_; (with_reducible refine (lex_Scan.calls k2 (strOfNums x20_2) t290 t291 t292 _ ?side1 A54.out).mono ?_); (case side1 => exact Glob.below HG.out (by repeat (first | (with_reducible first | exact HB.out | apply below_alloc | apply pw_below_drewN | apply below_drew1) | exact HB.out))); rintro e w64 ⟨v293, rfl, ho0, hb⟩; refine ⟨_, rfl, ?_⟩; have n0_ := Aside0.mk (Kd.R_below (by (with_reducible repeat (first | apply Kd.R_alloc | apply Kd.R_drewN | apply Kd.R_drew)); exact HO_20.out) hb); have n1_ := Aside0.mk (Kd.R_lower ho0 (below_size (by repeat (first | (with_reducible first | exact HB.out | apply below_alloc | apply pw_below_drewN | apply below_drew1) | exact HB.out)))); have n2_ := Aside0.mk (below_step (by repeat (first | (with_reducible first | exact HB.out | apply below_alloc | apply pw_below_drewN | apply below_drew1) | exact HB.out)) hb); clear HO_20; clear HB; have HO_20 := n0_; have HO294 := n1_; have HB := n2_; clear n0_ n1_ n2_; (try clear hb); (try clear hb2); (try clear hk); (try clear hi); (try clear ho0); obtain ⟨Ao65, co65, eo65⟩ := Kd.R_slice HO294.out; subst eo65; have hcv66 := own_string (P := Tryd.prog) Tryd.underlying24 Tryd.underlying5 Tryd.underlying9 (Kd.own_of_R HO_20.out); have hcv67 := own_string (P := Tryd.prog) Tryd.underlying24 Tryd.underlying5 Tryd.underlying9 (Kd.own_of_R HO_20.out)) | (go_at_call 16; (with_reducible refine (lex_Blank.calls (strOfNums x20_2) t295 _ A60.out).mono ?_); rintro e w' ⟨rfl, ⟨nd, rfl⟩⟩) | (go_at_call 15; (with_reducible refine (splicerylaw05_lives.calls k2  t296 _ ?side1 A62.out).mono ?_); (case side1 => exact Glob.below HG.out (by repeat (first | (with_reducible first | exact HB.out | apply below_alloc | apply pw_below_drewN | apply below_drew1) | exact HB.out))); rintro e w68 ⟨rfl, hb⟩; have n0_ := Aside0.mk (Kd.R_below (by (with_reducible repeat (first | apply Kd.R_alloc | apply Kd.R_drewN | apply Kd.R_drew)); exact HO_20.out) hb); have n1_ := Aside0.mk (Kd.R_below (by (with_reducible repeat (first | apply Kd.R_alloc | apply Kd.R_drewN | apply Kd.R_drew)); exact HO294.out) hb); have n2_ := Aside0.mk (below_step (by repeat (first | (with_reducible first | exact HB.out | apply below_alloc | apply pw_below_drewN | apply below_drew1) | exact HB.out)) hb); clear HO_20; clear HO294; clear HB; have HO_20 := n0_; have HO294 := n1_; have HB := n2_; clear n0_ n1_ n2_; (try clear hb); (try clear hb2); (try clear hk); (try clear hi)))
                  go_ret
                  exact ⟨by first | rfl | (simp [errW_none, errW_some] <;> rfl) | (simp only [← hji42]; first | rfl | (simp [errW_none, errW_some] <;> rfl)) | (simp [*, errW_none, errW_some] <;> rfl), by repeat (first | (with_reducible first | exact HB.out | apply below_alloc | apply pw_below_drewN | apply below_drew1) | exact HB.out)⟩
                 ·rw [if_neg c61] at H
                  have c61b0 : (t295 == (decide (ji42 ≤ 8192))) = false := by simpa using c61
                  (try (have c61b1 : decide (t295 = (decide (ji42 ≤ 8192))) = false := by simpa using c61))
                  (try (have c61b2 : (t295 == (decide (ji42 ≤ 8192))) = false := by simpa using c61))
                  (try (have c61b3 : ¬ (t295 = (decide (ji42 ≤ 8192))) := by simpa using c61))
                  clear c61
                  obtain rfl := Option.some.inj H
                  have hz8 : ji42 ≤ 8192 := by
                    by_cases hz : ji42 ≤ 8192
                    · exact hz
                    · exact absurd (show (t292 == -1) = false by simpa [decide_eq_false hz] using c55b0) (by rw [c58b0]; decide)
                  have z1 : decide (ji42 ≤ 8192) = true := decide_eq_true hz8
                  have z2 : decide (ji42 > 8192) = false := decide_eq_false (by omega)
                  have z2' : decide (8192 < ji42) = false := decide_eq_false (by omega)
                  have z4 : (t292 == 8192) = false := by simpa [z2'] using c56b0
                  have z5 : t295 = false := by simpa [z1] using c61b0
                  have hcv69 := own_string (P := Tryd.prog) Tryd.underlying24 Tryd.underlying5 Tryd.underlying9 (Kd.own_of_R HO_20.out)
                  go_wp2_with (first | ((with_reducible refine gate_callee (f := 11) rfl ?_); refine goesL_ (some 107) rfl rfl Tryd.func11 (by kernel_rfl) rfl #[.string (strOfNums x20_2)] rfl (by (try simp only [List.map_toArray, List.map_cons, List.map_nil]); first | done | rfl | (simp only [List.length_drop, List.length_take]; rfl)) ?_; (with_reducible refine (lex_Scan.calls k2 (strOfNums x20_2) t290 t291 t292 _ ?side1 A54.out).mono ?_); (case side1 => exact Glob.below HG.out (by repeat (first | (with_reducible first | exact HB.out | apply below_alloc | apply pw_below_drewN | apply below_drew1) | exact HB.out))); rintro e w70 ⟨v293, rfl, ho0, hb⟩; refine ⟨_, rfl, ?_⟩; have n0_ := Aside0.mk (Kd.R_below (by (with_reducible repeat (first | apply Kd.R_alloc | apply Kd.R_drewN | apply Kd.R_drew)); exact HO_20.out) hb); have n1_ := Aside0.mk (Kd.R_lower ho0 (below_size (by repeat (first | (with_reducible first | exact HB.out | apply below_alloc | apply pw_below_drewN | apply below_drew1) | exact HB.out)))); have n2_ := Aside0.mk (below_step (by repeat (first | (with_reducible first | exact HB.out | apply below_alloc | apply pw_below_drewN | apply below_drew1) | exact HB.out)) hb); clear HO_20; clear HB; have HO_20 := n0_; have HO294 := n1_; have HB := n2_; clear n0_ n1_ n2_; (try clear hb); (try clear hb2); (try clear hk); (try clear hi); (try clear ho0); obtain ⟨Ao71, co71, eo71⟩ := Kd.R_slice HO294.out; subst eo71; have hcv72 := own_string (P := Tryd.prog) Tryd.underlying24 Tryd.underlying5 Tryd.underlying9 (Kd.own_of_R HO_20.out); have hcv73 := own_string (P := Tryd.prog) Tryd.underlying24 Tryd.underlying5 Tryd.underlying9 (Kd.own_of_R HO_20.out)) | (go_at_call 16; (with_reducible refine (lex_Blank.calls (strOfNums x20_2) t295 _ A60.out).mono ?_); rintro e w' ⟨rfl, ⟨nd, rfl⟩⟩))
                  go_ret
                  exact ⟨by first | rfl | (simp [errW_none, errW_some] <;> rfl) | (simp only [← hji42]; first | rfl | (simp [errW_none, errW_some] <;> rfl)) | (simp [*, errW_none, errW_some] <;> rfl), by repeat (first | (with_reducible first | exact HB.out | apply below_alloc | apply pw_below_drewN | apply below_drew1) | exact HB.out)⟩
                ·rw [if_neg c59] at H
                 have c59b0 : (t291.toList == (strOfNums x20_2).toList) = false := beq_eq_false_iff_ne.mpr c59
                 have c59b1 : (t291.toList != (strOfNums x20_2).toList) = true := bne_iff_ne.mpr c59
                 obtain rfl := Option.some.inj H
                 have hz8 : ji42 ≤ 8192 := by
                   by_cases hz : ji42 ≤ 8192
                   · exact hz
                   · exact absurd (show (t292 == -1) = false by simpa [decide_eq_false hz] using c55b0) (by rw [c58b0]; decide)
                 have z1 : decide (ji42 ≤ 8192) = true := decide_eq_true hz8
                 have z2 : decide (ji42 > 8192) = false := decide_eq_false (by omega)
                 have z2' : decide (8192 < ji42) = false := decide_eq_false (by omega)
                 have z4 : (t292 == 8192) = false := by simpa [z2'] using c56b0
                 have hcv74 := own_string (P := Tryd.prog) Tryd.underlying24 Tryd.underlying5 Tryd.underlying9 (Kd.own_of_R HO_20.out)
                 go_wp2_with (first | ((with_reducible refine gate_callee (f := 11) rfl ?_); refine goesL_ (some 107) rfl rfl Tryd.func11 (by kernel_rfl) rfl #[.string (strOfNums x20_2)] rfl (by (try simp only [List.map_toArray, List.map_cons, List.map_nil]); first | done | rfl | (simp only [List.length_drop, List.length_take]; rfl)) ?_; (with_reducible refine (lex_Scan.calls k2 (strOfNums x20_2) t290 t291 t292 _ ?side1 A54.out).mono ?_); (case side1 => exact Glob.below HG.out (by repeat (first | (with_reducible first | exact HB.out | apply below_alloc | apply pw_below_drewN | apply below_drew1) | exact HB.out))); rintro e w75 ⟨v293, rfl, ho0, hb⟩; refine ⟨_, rfl, ?_⟩; have n0_ := Aside0.mk (Kd.R_below (by (with_reducible repeat (first | apply Kd.R_alloc | apply Kd.R_drewN | apply Kd.R_drew)); exact HO_20.out) hb); have n1_ := Aside0.mk (Kd.R_lower ho0 (below_size (by repeat (first | (with_reducible first | exact HB.out | apply below_alloc | apply pw_below_drewN | apply below_drew1) | exact HB.out)))); have n2_ := Aside0.mk (below_step (by repeat (first | (with_reducible first | exact HB.out | apply below_alloc | apply pw_below_drewN | apply below_drew1) | exact HB.out)) hb); clear HO_20; clear HB; have HO_20 := n0_; have HO294 := n1_; have HB := n2_; clear n0_ n1_ n2_; (try clear hb); (try clear hb2); (try clear hk); (try clear hi); (try clear ho0); obtain ⟨Ao76, co76, eo76⟩ := Kd.R_slice HO294.out; subst eo76; have hcv77 := own_string (P := Tryd.prog) Tryd.underlying24 Tryd.underlying5 Tryd.underlying9 (Kd.own_of_R HO_20.out)))
                 go_ret
                 exact ⟨by first | rfl | (simp [errW_none, errW_some] <;> rfl) | (simp only [← hji42]; first | rfl | (simp [errW_none, errW_some] <;> rfl)) | (simp [*, errW_none, errW_some] <;> rfl), by repeat (first | (with_reducible first | exact HB.out | apply below_alloc | apply pw_below_drewN | apply below_drew1) | exact HB.out)⟩
               ·rw [if_neg c58] at H
                have c58b0 : (t292 == (-1)) = false := beq_eq_false_iff_ne.mpr c58
                have c58b1 : (t292 != (-1)) = true := bne_iff_ne.mpr c58
                replace H := Option.bind_eq_some_iff.mp H
                obtain ⟨t297, A780, H⟩ := H
                replace H : (if (t297 == (decide (ji42 ≤ 8192))) = true then ((splicerylaw05_lives.f k2).bind fun t298 => (some t298)) else (some false)) = some r := H
                have A78 := Aside0.mk A780
                clear A780
                by_cases c79 : (t297 == (decide (ji42 ≤ 8192))) = true
                ·rw [if_pos c79] at H
                 have c79b0 : (t297 == (decide (ji42 ≤ 8192))) = true := c79
                 (try (have c79b1 : decide (t297 = (decide (ji42 ≤ 8192))) = true := by simpa using c79))
                 (try (have c79b2 : (t297 == (decide (ji42 ≤ 8192))) = true := by simpa using c79))
                 clear c79
                 replace H := Option.bind_eq_some_iff.mp H
                 obtain ⟨t298, A800, H⟩ := H
                 replace H : (some t298) = some r := H
                 have A80 := Aside0.mk A800
                 clear A800
                 obtain rfl := Option.some.inj H
                 have hz8 : ¬ ji42 ≤ 8192 := by
                   intro hz
                   exact absurd (show (t292 == -1) = true by simpa [decide_eq_true hz] using c55b0) (by rw [c58b0]; decide)
                 have z1 : decide (ji42 ≤ 8192) = false := decide_eq_false hz8
                 have z2 : decide (ji42 > 8192) = true := decide_eq_true (by omega)
                 have z2' : decide (8192 < ji42) = true := decide_eq_true (by omega)
                 have z4 : (t292 == 8192) = true := by simpa [z2'] using c56b0
                 have z5 : t297 = false := by simpa [z1] using c79b0
                 have hcv81 := own_string (P := Tryd.prog) Tryd.underlying24 Tryd.underlying5 Tryd.underlying9 (Kd.own_of_R HO_20.out)
                 go_wp2_with (first | ((with_reducible refine gate_callee (f := 11) rfl ?_); refine goesL_ (some 107) rfl rfl Tryd.func11 (by kernel_rfl) rfl #[.string (strOfNums x20_2)] rfl (by (try simp only [List.map_toArray, List.map_cons, List.map_nil]); first | done | rfl | (simp only [List.length_drop, List.length_take]; rfl)) ?_; (with_reducible refine (lex_Scan.calls k2 (strOfNums x20_2) t290 t291 t292 _ ?side1 A54.out).mono ?_); (case side1 => exact Glob.below HG.out (by repeat (first | (with_reducible first | exact HB.out | apply below_alloc | apply pw_below_drewN | apply below_drew1) | exact HB.out))); rintro e w82 ⟨v293, rfl, ho0, hb⟩; refine ⟨_, rfl, ?_⟩; have n0_ := Aside0.mk (Kd.R_below (by (with_reducible repeat (first | apply Kd.R_alloc | apply Kd.R_drewN | apply Kd.R_drew)); exact HO_20.out) hb); have n1_ := Aside0.mk (Kd.R_lower ho0 (below_size (by repeat (first | (with_reducible first | exact HB.out | apply below_alloc | apply pw_below_drewN | apply below_drew1) | exact HB.out)))); have n2_ := Aside0.mk (below_step (by repeat (first | (with_reducible first | exact HB.out | apply below_alloc | apply pw_below_drewN | apply below_drew1) | exact HB.out)) hb); clear HO_20; clear HB; have HO_20 := n0_; have HO294 := n1_; have HB := n2_; clear n0_ n1_ n2_; (try clear hb); (try clear hb2); (try clear hk); (try clear hi); (try clear ho0); obtain ⟨Ao83, co83, eo83⟩ := Kd.R_slice HO294.out; subst eo83; have hcv84 := own_string (P := Tryd.prog) Tryd.underlying24 Tryd.underlying5 Tryd.underlying9 (Kd.own_of_R HO_20.out)) | (go_at_call 16; (with_reducible refine (lex_Blank.calls (strOfNums x20_2) t297 _ A78.out).mono ?_); rintro e w' ⟨rfl, ⟨nd, rfl⟩⟩) | (go_at_call 15; (with_reducible refine (splicerylaw05_lives.calls k2  t298 _ ?side1 A80.out).mono ?_); (case side1 => exact Glob.below HG.out (by repeat (first | (with_reducible first | exact HB.out | apply below_alloc | apply pw_below_drewN | apply below_drew1) | exact HB.out))); rintro e w85 ⟨rfl, hb⟩; have n0_ := Aside0.mk (Kd.R_below (by (with_reducible repeat (first | apply Kd.R_alloc | apply Kd.R_drewN | apply Kd.R_drew)); exact HO_20.out) hb); have n1_ := Aside0.mk (Kd.R_below (by (with_reducible repeat (first | apply Kd.R_alloc | apply Kd.R_drewN | apply Kd.R_drew)); exact HO294.out) hb); have n2_ := Aside0.mk (below_step (by repeat (first | (with_reducible first | exact HB.out | apply below_alloc | apply pw_below_drewN | apply below_drew1) | exact HB.out)) hb); clear HO_20; clear HO294; clear HB; have HO_20 := n0_; have HO294 := n1_; have HB := n2_; clear n0_ n1_ n2_; (try clear hb); (try clear hb2); (try clear hk); (try clear hi)))
                 go_ret
                 exact ⟨by first | rfl | (simp [errW_none, errW_some] <;> rfl) | (simp only [← hji42]; first | rfl | (simp [errW_none, errW_some] <;> rfl)) | (simp [*, errW_none, errW_some] <;> rfl), by repeat (first | (with_reducible first | exact HB.out | apply below_alloc | apply pw_below_drewN | apply below_drew1) | exact HB.out)⟩
                ·rw [if_neg c79] at H
                 have c79b0 : (t297 == (decide (ji42 ≤ 8192))) = false := by simpa using c79
                 (try (have c79b1 : decide (t297 = (decide (ji42 ≤ 8192))) = false := by simpa using c79))
                 (try (have c79b2 : (t297 == (decide (ji42 ≤ 8192))) = false := by simpa using c79))
                 (try (have c79b3 : ¬ (t297 = (decide (ji42 ≤ 8192))) := by simpa using c79))
                 clear c79
                 obtain rfl := Option.some.inj H
                 have hz8 : ¬ ji42 ≤ 8192 := by
                   intro hz
                   exact absurd (show (t292 == -1) = true by simpa [decide_eq_true hz] using c55b0) (by rw [c58b0]; decide)
                 have z1 : decide (ji42 ≤ 8192) = false := decide_eq_false hz8
                 have z2 : decide (ji42 > 8192) = true := decide_eq_true (by omega)
                 have z2' : decide (8192 < ji42) = true := decide_eq_true (by omega)
                 have z4 : (t292 == 8192) = true := by simpa [z2'] using c56b0
                 have z5 : t297 = true := by simpa [z1] using c79b0
                 have hcv86 := own_string (P := Tryd.prog) Tryd.underlying24 Tryd.underlying5 Tryd.underlying9 (Kd.own_of_R HO_20.out)
                 go_wp2_with (first | ((with_reducible refine gate_callee (f := 11) rfl ?_); refine goesL_ (some 107) rfl rfl Tryd.func11 (by kernel_rfl) rfl #[.string (strOfNums x20_2)] rfl (by (try simp only [List.map_toArray, List.map_cons, List.map_nil]); first | done | rfl | (simp only [List.length_drop, List.length_take]; rfl)) ?_; (with_reducible refine (lex_Scan.calls k2 (strOfNums x20_2) t290 t291 t292 _ ?side1 A54.out).mono ?_); (case side1 => exact Glob.below HG.out (by repeat (first | (with_reducible first | exact HB.out | apply below_alloc | apply pw_below_drewN | apply below_drew1) | exact HB.out))); rintro e w87 ⟨v293, rfl, ho0, hb⟩; refine ⟨_, rfl, ?_⟩; have n0_ := Aside0.mk (Kd.R_below (by (with_reducible repeat (first | apply Kd.R_alloc | apply Kd.R_drewN | apply Kd.R_drew)); exact HO_20.out) hb); have n1_ := Aside0.mk (Kd.R_lower ho0 (below_size (by repeat (first | (with_reducible first | exact HB.out | apply below_alloc | apply pw_below_drewN | apply below_drew1) | exact HB.out)))); have n2_ := Aside0.mk (below_step (by repeat (first | (with_reducible first | exact HB.out | apply below_alloc | apply pw_below_drewN | apply below_drew1) | exact HB.out)) hb); clear HO_20; clear HB; have HO_20 := n0_; have HO294 := n1_; have HB := n2_; clear n0_ n1_ n2_; (try clear hb); (try clear hb2); (try clear hk); (try clear hi); (try clear ho0); obtain ⟨Ao88, co88, eo88⟩ := Kd.R_slice HO294.out; subst eo88; have hcv89 := own_string (P := Tryd.prog) Tryd.underlying24 Tryd.underlying5 Tryd.underlying9 (Kd.own_of_R HO_20.out)) | (go_at_call 16; (with_reducible refine (lex_Blank.calls (strOfNums x20_2) t297 _ A78.out).mono ?_); rintro e w' ⟨rfl, ⟨nd, rfl⟩⟩))
                 go_ret
                 exact ⟨by first | rfl | (simp [errW_none, errW_some] <;> rfl) | (simp only [← hji42]; first | rfl | (simp [errW_none, errW_some] <;> rfl)) | (simp [*, errW_none, errW_some] <;> rfl), by repeat (first | (with_reducible first | exact HB.out | apply below_alloc | apply pw_below_drewN | apply below_drew1) | exact HB.out)⟩
              ·rw [if_neg c57] at H
               have c57b0 : ((t290.length : Int) == 0) = false := beq_eq_false_iff_ne.mpr c57
               have c57b1 : ((t290.length : Int) != 0) = true := bne_iff_ne.mpr c57
               have c57b2 : ¬ (t290 = []) := fun h_ => c57 (by rw [h_]; rfl)
               obtain rfl := Option.some.inj H
               have hcv90 := own_string (P := Tryd.prog) Tryd.underlying24 Tryd.underlying5 Tryd.underlying9 (Kd.own_of_R HO_20.out)
               go_wp2_with (first | ((with_reducible refine gate_callee (f := 11) rfl ?_); refine goesL_ (some 107) rfl rfl Tryd.func11 (by kernel_rfl) rfl #[.string (strOfNums x20_2)] rfl (by (try simp only [List.map_toArray, List.map_cons, List.map_nil]); first | done | rfl | (simp only [List.length_drop, List.length_take]; rfl)) ?_; (with_reducible refine (lex_Scan.calls k2 (strOfNums x20_2) t290 t291 t292 _ ?side1 A54.out).mono ?_); (case side1 => exact Glob.below HG.out (by repeat (first | (with_reducible first | exact HB.out | apply below_alloc | apply pw_below_drewN | apply below_drew1) | exact HB.out))); rintro e w91 ⟨v293, rfl, ho0, hb⟩; refine ⟨_, rfl, ?_⟩; have n0_ := Aside0.mk (Kd.R_below (by (with_reducible repeat (first | apply Kd.R_alloc | apply Kd.R_drewN | apply Kd.R_drew)); exact HO_20.out) hb); have n1_ := Aside0.mk (Kd.R_lower ho0 (below_size (by repeat (first | (with_reducible first | exact HB.out | apply below_alloc | apply pw_below_drewN | apply below_drew1) | exact HB.out)))); have n2_ := Aside0.mk (below_step (by repeat (first | (with_reducible first | exact HB.out | apply below_alloc | apply pw_below_drewN | apply below_drew1) | exact HB.out)) hb); clear HO_20; clear HB; have HO_20 := n0_; have HO294 := n1_; have HB := n2_; clear n0_ n1_ n2_; (try clear hb); (try clear hb2); (try clear hk); (try clear hi); (try clear ho0); obtain ⟨Ao92, co92, eo92⟩ := Kd.R_slice HO294.out; subst eo92))
               go_ret
               exact ⟨by first | rfl | (simp [errW_none, errW_some] <;> rfl) | (simp only [← hji42]; first | rfl | (simp [errW_none, errW_some] <;> rfl)) | (simp [*, errW_none, errW_some] <;> rfl), by repeat (first | (with_reducible first | exact HB.out | apply below_alloc | apply pw_below_drewN | apply below_drew1) | exact HB.out)⟩
             ·rw [if_neg c56] at H
              have c56b0 : ((t292 == 8192) == (decide (ji42 > 8192))) = false := by simpa using c56
              (try (have c56b1 : decide ((t292 == 8192) = (decide (ji42 > 8192))) = false := by simpa using c56))
              (try (have c56b2 : ((t292 == 8192) == (decide (ji42 > 8192))) = false := by simpa using c56))
              (try (have c56b3 : ¬ ((t292 == 8192) = (decide (ji42 > 8192))) := by simpa using c56))
              clear c56
              obtain rfl := Option.some.inj H
              have hcv93 := own_string (P := Tryd.prog) Tryd.underlying24 Tryd.underlying5 Tryd.underlying9 (Kd.own_of_R HO_20.out)
              go_wp2_with (first | ((with_reducible refine gate_callee (f := 11) rfl ?_); refine goesL_ (some 107) rfl rfl Tryd.func11 (by kernel_rfl) rfl #[.string (strOfNums x20_2)] rfl (by (try simp only [List.map_toArray, List.map_cons, List.map_nil]); first | done | rfl | (simp only [List.length_drop, List.length_take]; rfl)) ?_; (with_reducible refine (lex_Scan.calls k2 (strOfNums x20_2) t290 t291 t292 _ ?side1 A54.out).mono ?_); (case side1 => exact Glob.below HG.out (by repeat (first | (with_reducible first | exact HB.out | apply below_alloc | apply pw_below_drewN | apply below_drew1) | exact HB.out))); rintro e w94 ⟨v293, rfl, ho0, hb⟩; refine ⟨_, rfl, ?_⟩; have n0_ := Aside0.mk (Kd.R_below (by (with_reducible repeat (first | apply Kd.R_alloc | apply Kd.R_drewN | apply Kd.R_drew)); exact HO_20.out) hb); have n1_ := Aside0.mk (Kd.R_lower ho0 (below_size (by repeat (first | (with_reducible first | exact HB.out | apply below_alloc | apply pw_below_drewN | apply below_drew1) | exact HB.out)))); have n2_ := Aside0.mk (below_step (by repeat (first | (with_reducible first | exact HB.out | apply below_alloc | apply pw_below_drewN | apply below_drew1) | exact HB.out)) hb); clear HO_20; clear HB; have HO_20 := n0_; have HO294 := n1_; have HB := n2_; clear n0_ n1_ n2_; (try clear hb); (try clear hb2); (try clear hk); (try clear hi); (try clear ho0)))
              go_ret
              exact ⟨by first | rfl | (simp [errW_none, errW_some] <;> rfl) | (simp only [← hji42]; first | rfl | (simp [errW_none, errW_some] <;> rfl)) | (simp [*, errW_none, errW_some] <;> rfl), by repeat (first | (with_reducible first | exact HB.out | apply below_alloc | apply pw_below_drewN | apply below_drew1) | exact HB.out)⟩
            ·rw [if_neg c55] at H
             have c55b0 : ((t292 == (-1)) == (decide (ji42 ≤ 8192))) = false := by simpa using c55
             (try (have c55b1 : decide ((t292 == (-1)) = (decide (ji42 ≤ 8192))) = false := by simpa using c55))
             (try (have c55b2 : ((t292 == (-1)) == (decide (ji42 ≤ 8192))) = false := by simpa using c55))
             (try (have c55b3 : ¬ ((t292 == (-1)) = (decide (ji42 ≤ 8192))) := by simpa using c55))
             clear c55
             obtain rfl := Option.some.inj H
             have hcv95 := own_string (P := Tryd.prog) Tryd.underlying24 Tryd.underlying5 Tryd.underlying9 (Kd.own_of_R HO_20.out)
             go_wp2_with (first | ((with_reducible refine gate_callee (f := 11) rfl ?_); refine goesL_ (some 107) rfl rfl Tryd.func11 (by kernel_rfl) rfl #[.string (strOfNums x20_2)] rfl (by (try simp only [List.map_toArray, List.map_cons, List.map_nil]); first | done | rfl | (simp only [List.length_drop, List.length_take]; rfl)) ?_; (with_reducible refine (lex_Scan.calls k2 (strOfNums x20_2) t290 t291 t292 _ ?side1 A54.out).mono ?_); (case side1 => exact Glob.below HG.out (by repeat (first | (with_reducible first | exact HB.out | apply below_alloc | apply pw_below_drewN | apply below_drew1) | exact HB.out))); rintro e w96 ⟨v293, rfl, ho0, hb⟩; refine ⟨_, rfl, ?_⟩; have n0_ := Aside0.mk (Kd.R_below (by (with_reducible repeat (first | apply Kd.R_alloc | apply Kd.R_drewN | apply Kd.R_drew)); exact HO_20.out) hb); have n1_ := Aside0.mk (Kd.R_lower ho0 (below_size (by repeat (first | (with_reducible first | exact HB.out | apply below_alloc | apply pw_below_drewN | apply below_drew1) | exact HB.out)))); have n2_ := Aside0.mk (below_step (by repeat (first | (with_reducible first | exact HB.out | apply below_alloc | apply pw_below_drewN | apply below_drew1) | exact HB.out)) hb); clear HO_20; clear HB; have HO_20 := n0_; have HO294 := n1_; have HB := n2_; clear n0_ n1_ n2_; (try clear hb); (try clear hb2); (try clear hk); (try clear hi); (try clear ho0)))
             go_ret
             exact ⟨by first | rfl | (simp [errW_none, errW_some] <;> rfl) | (simp only [← hji42]; first | rfl | (simp [errW_none, errW_some] <;> rfl)) | (simp [*, errW_none, errW_some] <;> rfl), by repeat (first | (with_reducible first | exact HB.out | apply below_alloc | apply pw_below_drewN | apply below_drew1) | exact HB.out)⟩
        ·rw [if_neg c44] at H
         exact absurd H (by simp)
       ·rw [if_neg c43] at H
        exact absurd H (by simp)
   ·rw [if_neg c8] at H
    exact absurd H (by simp)
  ·rw [if_neg c7] at H
   exact absurd H (by simp)
 ·rw [if_neg c5] at H
  exact absurd H (by simp)

/-- THE ONE PURE STATEMENT of splicerylaw05_LexErrors: yours. -/
def splicerylaw05_LexErrors.Pure : Prop := ∀ (l0 : List Int) (a1 : ByteArray) (a2 : Int), l0.length ≤ maxLen → l0.length * 8 ≤ 140737488351232 → (∀ x ∈ l0, (Lit.int .i64 x).wf = true) → a1.size ≤ 140737488351232 → (Lit.int .i64 a2).wf = true → ∃ k, splicerylaw05_LexErrors.f k l0 a1 a2 = some true
theorem splicerylaw05_LexErrors.walk (P : splicerylaw05_LexErrors.Pure) (a0 : Option Addr) (len0 cap0 : Nat) (z0 : List Int) (a1 : ByteArray) (a2 : Int) (w : World) (w0 : (a0 = none ∧ len0 = 0 ∧ cap0 = 0 ∧ z0 = []) ∨ ∃ x, a0 = some x ∧ len0 ≤ cap0 ∧ cap0 ≤ maxLen ∧ z0.length = cap0 ∧ (∀ i, i < z0.length → w.cell? (x.add i) = some (.int .i64 (z0.getD i 0))) ∧ ∀ n ∈ z0, (Lit.int .i64 n).wf = true) (y0 : len0 * 8 ≤ 140737488351232) (w1 : a1.size ≤ 140737488351232) (w2 : (Lit.int .i64 a2).wf = true) (hG : Glob w) :
  Calls Tryd.prog 5 #[.slice a0 len0 cap0, .string a1, .int .i64 a2] w fun e w' => e = .returned (.bool true) ∧ Below w.heap.size w w' := by
 obtain ⟨l0, rfl, hr0, hm0, hw0, hc0⟩ := ReadsInt.ofRowC w0
 obtain ⟨k, h⟩ := P l0 a1 a2 hm0 y0 hw0 w1 w2
 refine (splicerylaw05_LexErrors.calls k _ _ l0 a1 a2 true w (Kd.C_of_reads (d := (0 : Int)) (h1 := fun _ => rfl) hr0) hc0 hG h).mono ?_
 rintro e w' ⟨rfl, hd⟩
 exact ⟨rfl, hd⟩

end Go.Proofs.YteafkdcppbemdaaDoor.Q
