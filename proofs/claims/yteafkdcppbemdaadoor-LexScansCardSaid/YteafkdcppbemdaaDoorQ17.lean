-- Written by a program of this session (wip/tool).
import Derived.Test.YteafkdcppbemdaaDoorQ0
import Derived.Test.YteafkdcppbemdaaDoorQ3
import Derived.Test.YteafkdcppbemdaaDoorQ4
import Derived.Test.YteafkdcppbemdaaDoorQ6
import Derived.Test.YteafkdcppbemdaaDoorQ8
import Derived.Test.YteafkdcppbemdaaDoorGiven
import Derived.Test.YteafkdcppbemdaaDoorQ5
import Derived.Lib.ConvBytes
namespace Go.Proofs.YteafkdcppbemdaaDoor.Q
open Go.RowKit Go.Proofs.YteafkdcppbemdaaDoorW.PrintWords Go.Proofs.YteafkdcppbemdaaDoorW.PrintLast Go.Proofs.YteafkdcppbemdaaDoorW.PrintMore
attribute [local go_sem] max2_int min2_int max_two min_two max_three min_three max_four min_four   -- for this text's walks alone
set_option linter.unusedVariables false
set_option linter.unusedSimpArgs false


/-! ### []byte(s) that is written: a block that holds numbers, not frozen where they stand -/
def RowB (w : World) (g : Nat) (y : List Int) : Prop := ∃ cs e fr, w.heap[g]? = some (.cells cs e fr) ∧ y.length ≤ fr.1 ∧ ∀ j, j < y.length → cs[j]? = some (.int .u8 (y.getD j 0))
theorem RowB.drewN {w : World} {g : Nat} {y : List Int} (h : RowB w g y) (n : Nat) : RowB (w.drewN n) g y := h
theorem RowB.drew {w : World} {g : Nat} {y : List Int} (h : RowB w g y) : RowB w.drew g y := h
theorem RowB.below {w w' : World} {g : Nat} {y : List Int} (h : RowB w g y) (hb : Below w.heap.size w w') : RowB w' g y := by
  obtain ⟨cs, e, fr, h1, h2⟩ := h
  exact ⟨cs, e, fr, (hb.block g (Array.getElem?_eq_some_iff.1 h1).1).trans h1, h2⟩
theorem RowB.cell {w : World} {g : Nat} {y : List Int} (h : RowB w g y) (j : Nat) (hj : j < y.length) : w.cell? ⟨g, j, none⟩ = some (.int .u8 (y.getD j 0)) := by
  obtain ⟨cs, e, fr, h1, h2, h3⟩ := h
  simp only [World.cell?, h1]
  exact h3 j hj
theorem RowB.free {w : World} {g : Nat} {y : List Int} (h : RowB w g y) (j : Nat) (hj : j < y.length) : w.frozen? ⟨g, j, none⟩ = false := by
  obtain ⟨cs, e, ⟨lo, hi⟩, h1, h2, h3⟩ := h
  simp only [World.frozen?, h1]
  have h2' : y.length ≤ lo := h2
  rw [decide_eq_false (show ¬ lo ≤ j by omega), Bool.false_and]
theorem RowB.put {w : World} {g : Nat} {y : List Int} (h : RowB w g y) (i : Nat) (x : Int) : RowB (w.setCell ⟨g, i, none⟩ (.int .u8 x)) g (y.set i x) := by
  obtain ⟨cs, e, fr, h1, h2, h3⟩ := h
  refine ⟨cs.setIfInBounds i (.int .u8 x), e, fr, ?_, by rw [List.length_set]; exact h2, fun j hj => ?_⟩
  · unfold World.setCell
    obtain ⟨hl, hv⟩ := Array.getElem?_eq_some_iff.1 h1
    rw [Array.getElem?_modify]
    simp [h1]
  · rw [List.length_set] at hj
    by_cases e : i = j
    · subst e
      have hsz : i < cs.size := by
        have := h3 i hj
        exact (Array.getElem?_eq_some_iff.1 this).1
      rw [Array.getElem?_setIfInBounds_self_of_lt hsz]
      simp [List.getD_eq_getElem?_getD, List.getElem?_set, hj]
    · rw [Array.getElem?_setIfInBounds_ne e, h3 j hj]
      simp [List.getD_eq_getElem?_getD, List.getElem?_set, e]
theorem RowB.back {w : World} {g cap : Nat} {y : List Int} (h : RowB w g y) : (convert 24 9 (.slice (some ⟨g, 0, none⟩) y.length cap)).run Tryd.prog w = .ok (.string (strOfNums y)) w :=
  run_convert_bytes_arg w 24 5 Tryd.underlying24 Tryd.underlying5 g 0 y.length cap y rfl (fun i hi => by rw [Nat.zero_add]; exact h.cell i hi) 9 Tryd.underlying9
theorem row_bytes (W : World) (s : ByteArray) : RowB (Lib.bytesWorld W 5 s) W.heap.size (bytesOf s) := by
  refine ⟨_, _, _, Lib.bytesWorld_at_new W 5 s, ?_, fun j hj => ?_⟩
  · rw [bytesOf_length]; simp only [Lib.bytesCells, Array.size_append, Array.size_map]; show s.size ≤ s.data.size + _; exact Nat.le_add_right _ _
  · have := Lib.bytesWorld_cell W 5 s j (by rwa [bytesOf_length] at hj)
    have this2 : (Lib.bytesCells W 5 s)[j]? = some (Value.int .u8 (s.data.toList.getD j 0).toNat) := by simpa [World.cell?, Lib.bytesWorld_at_new] using this
    rw [this2]
    have h' : j < s.data.toList.length := by rw [bytesOf_length] at hj; rw [data_length]; exact hj
    simp [bytesOf, List.getD_eq_getElem?_getD, List.getElem?_eq_getElem h']
section
variable {P : Program} {ops : Array Oper} {o : Oper} {rest : List Oper} {a : Act} {Q : Exit → Act → World → Prop}
theorem bytes_new {w0 W : World} (base : Nat) (hgd : o.guard = none) {N : Tmp} (hd : o.dst = some N) (src t e : TypeId) (x : Operand) (ho : o.op = .convert src t x) (s : ByteArray) (y : List Int) (hy : y = bytesOf s) (hx : a.eval x = .string s)
    {u : TypeDesc} (h1 : P.underlying src = some u) (h2 : P.underlying t = some (.slice e)) (h3 : P.underlying e = some (.int .u8)) (he : e = 5) (HB : Below base w0 W) (hbase : base ≤ W.heap.size)
    (h : ∀ g cap w1, RowB w1 g y → base ≤ g → Below base w0 w1 → wpList P ops Q rest (a.put o.dst (.slice (some ⟨g, 0, none⟩) y.length cap)) w1) : wpList P ops Q (o :: rest) a W := by
  subst he
  have hr := Lib.run_convert_string_bytes (P := P) W src t 5 s h1 h2 h3
  have hrow := row_bytes W s
  rw [← hy] at hrow
  have hl : y.length = s.size := by rw [hy, bytesOf_length]
  have key := h W.heap.size (grownCap W s.size 0 5) (Lib.bytesWorld W 5 s) hrow hbase (bytes_below HB hbase 5 s)
  rw [hl] at key
  exact Kd.event_run hgd (by simp [execOp, ho, hx, hr]) key
end
/-! ### L5_LexScans: function 3 -/
mutual
def L5_LexScans.l0 : Nat → List ByteArray → Int → Option (Bool)
 | 0, _, _ => none
 | k + 1, x11, x12 => if x12 < (x11.length : Int) then (if 0 ≤ x12 then ((lex_Scan.f k (rdOf ByteArray.empty x11 x12)).bind fun bt222 => ((R5_Scan.f k (rdOf ByteArray.empty x11 x12)).bind fun bt228 => (if bt222.2.2 = bt228.2.2 then (if bt222.2.1.toList = bt228.2.1.toList then ((L5_plain.f k bt222.1).bind fun t233 => ((R5_Same.f k t233 bt228.1).bind fun t236 => (L5_LexScans.j1 k x11 x12 (!t236)))) else (L5_LexScans.j1 k x11 x12 true)) else (L5_LexScans.j1 k x11 x12 true)))) else (none)) else ((L5_lives.f k).bind fun t220 => (some t220))
def L5_LexScans.j1 : Nat → List ByteArray → Int → Bool → Option (Bool)
 | 0, _, _, _ => none
 | k + 1, x11, x12, x84 => if x84 = true then (some false) else (L5_LexScans.l0 k x11 (wrap64 (x12 + 1)))
end
def L5_LexScans.f (k : Nat) (l0 : List Int) (a1 : ByteArray) (a2 : Int) (a3 : Int) : Option (Bool) := (R5_Sample.f k l0).bind fun t210 => (if t210.size + 1 ≤ 9223372036854775807 then (if 5 ≤ 281474976710656 then ((some (bytesOf (t210 ++ (⟨#[32]⟩ : ByteArray)) : List Int)).bind fun y211 => ((R1_Around.f a2 (y211.length : Int)).bind fun t214 => (if 0 ≤ t214 then (if t214 < (y211.length : Int) then (if t210.size + a1.size ≤ 9223372036854775807 then ((R1_Around.f a2 (wrap64 ((t210.size : Int) + 1))).bind fun t216 => (if 0 ≤ t216 then (if t216 ≤ (t210.size : Int) then (L5_LexScans.l0 k (([t210, strOfNums (y211.set (t214 : Int).toNat a3), a1, t210 ++ a1, t210.extract 0 (t216 : Int).toNat, (⟨#[]⟩ : ByteArray)] : List ByteArray)) 0) else (none)) else (none))) else (none)) else (none)) else (none)))) else (none)) else (none))
theorem L5_LexScans.mono_l : ∀ k, (∀ y0 y1, LeO (L5_LexScans.l0 k y0 y1) (L5_LexScans.l0 (k + 1) y0 y1)) ∧ (∀ y0 y1 y2, LeO (L5_LexScans.j1 k y0 y1 y2) (L5_LexScans.j1 (k + 1) y0 y1 y2))
 | 0 => ⟨fun _ _ r h => by simp [L5_LexScans.l0] at h, fun _ _ _ r h => by simp [L5_LexScans.j1] at h⟩
 | k + 1 => by
  obtain ⟨ih0, ih1⟩ := L5_LexScans.mono_l k
  refine ⟨?_, ?_⟩
  ·intro y0 y1
   unfold L5_LexScans.l0
   repeat' first
   | (with_reducible exact ih0 _ _)
   | (with_reducible exact ih1 _ _ _)
   | (with_reducible exact lex_Scan.mono _ _)
   | (with_reducible exact L5_lives.mono _)
   | (with_reducible exact L5_plain.mono _ _)
   | (with_reducible exact R5_Same.mono _ _ _)
   | (with_reducible exact R5_Sample.mono _ _)
   | (with_reducible exact R5_Scan.mono _ _)
   | (with_reducible exact LeO.refl _)
   | (with_reducible exact LeO.none _)
   | (with_reducible refine LeO.ite ?_ ?_)
   | (with_reducible refine LeO.bind ?_ (fun _ => ?_))
   | exact ih0 _ _
   | exact ih1 _ _ _
   | exact lex_Scan.mono _ _
   | exact L5_lives.mono _
   | exact L5_plain.mono _ _
   | exact R5_Same.mono _ _ _
   | exact R5_Sample.mono _ _
   | exact R5_Scan.mono _ _
   | exact LeO.none _
   | refine LeO.ite ?_ ?_
   | refine LeO.bind ?_ (fun _ => ?_)
  ·intro y0 y1 y2
   unfold L5_LexScans.j1
   repeat' first
   | (with_reducible exact ih0 _ _)
   | (with_reducible exact ih1 _ _ _)
   | (with_reducible exact lex_Scan.mono _ _)
   | (with_reducible exact L5_lives.mono _)
   | (with_reducible exact L5_plain.mono _ _)
   | (with_reducible exact R5_Same.mono _ _ _)
   | (with_reducible exact R5_Sample.mono _ _)
   | (with_reducible exact R5_Scan.mono _ _)
   | (with_reducible exact LeO.refl _)
   | (with_reducible exact LeO.none _)
   | (with_reducible refine LeO.ite ?_ ?_)
   | (with_reducible refine LeO.bind ?_ (fun _ => ?_))
   | exact ih0 _ _
   | exact ih1 _ _ _
   | exact lex_Scan.mono _ _
   | exact L5_lives.mono _
   | exact L5_plain.mono _ _
   | exact R5_Same.mono _ _ _
   | exact R5_Sample.mono _ _
   | exact R5_Scan.mono _ _
   | exact LeO.none _
   | refine LeO.ite ?_ ?_
   | refine LeO.bind ?_ (fun _ => ?_)
theorem L5_LexScans.mono : ∀ a0 a1 a2 a3 k, LeO (L5_LexScans.f k a0 a1 a2 a3) (L5_LexScans.f (k + 1) a0 a1 a2 a3) := by
 intro a0 a1 a2 a3 k
 obtain ⟨ih0, ih1⟩ := L5_LexScans.mono_l k
 unfold L5_LexScans.f
 repeat' first
   | (with_reducible exact ih0 _ _)
   | (with_reducible exact ih1 _ _ _)
   | (with_reducible exact lex_Scan.mono _ _)
   | (with_reducible exact L5_lives.mono _)
   | (with_reducible exact L5_plain.mono _ _)
   | (with_reducible exact R5_Same.mono _ _ _)
   | (with_reducible exact R5_Sample.mono _ _)
   | (with_reducible exact R5_Scan.mono _ _)
   | (with_reducible exact LeO.refl _)
   | (with_reducible exact LeO.none _)
   | (with_reducible refine LeO.ite ?_ ?_)
   | (with_reducible refine LeO.bind ?_ (fun _ => ?_))
   | exact ih0 _ _
   | exact ih1 _ _ _
   | exact lex_Scan.mono _ _
   | exact L5_lives.mono _
   | exact L5_plain.mono _ _
   | exact R5_Same.mono _ _ _
   | exact R5_Sample.mono _ _
   | exact R5_Scan.mono _ _
   | exact LeO.none _
   | refine LeO.ite ?_ ?_
   | refine LeO.bind ?_ (fun _ => ?_)
def L5_LexScans.T4 : Bool × List (List Nat × List Nat) := (true, [([], []), ([], []), ([1], [1]), ([], []), ([], []), ([], []), ([4, 5], [4, 5]), ([], []), ([], []), ([], []), ([9], [9]), ([10], [10]), ([8, 11], [8, 11]), ([7, 12], [7, 12]), ([0, 2, 3, 6, 13], [0, 2, 3, 6, 13]), ([14, 12, 0, 1, 2, 3, 4, 5, 6, 7, 8, 9, 10, 11, 12, 13, 14], [14])])
def L5_LexScans.B4 : List Nat := [0, 0, 2, 0, 0, 0, 48, 0, 0, 0, 512, 1536, 3840, 8064, 16383, 32767]
theorem L5_LexScans.tab4 : rtab .any (opsOf Tryd.f3 4) = L5_LexScans.T4 := by kernel_rfl
theorem L5_LexScans.bits4 : waitsOk L5_LexScans.T4.2 L5_LexScans.B4 = true := by kernel_rfl
set_option maxHeartbeats 8000000 in
set_option maxRecDepth 100000 in
theorem L5_LexScans.calls (k : Nat) (A0 : Option Addr) (c0 : Nat) (l0 : List Int) (a1 : ByteArray) (a2 : Int) (a3 : Int) (r : Bool) (w : World) (hr0 : Kd.C (Kd.int .i64) w A0 l0.length l0) (hc0 : l0.length ≤ c0) (hG : Glob w) (h : L5_LexScans.f k l0 a1 a2 a3 = some r) :
  Calls Tryd.prog 3 #[.slice A0 l0.length c0, .string a1, .int .i64 a2, .int .u8 a3] w fun e w' => e = .returned (.bool r) ∧ Below w.heap.size w w' := by
 have HR0 := Aside0.mk hr0
 have HC0 := Aside0.mk hc0
 clear hr0 hc0
 have HB := Aside0.mk (Below.refl w.heap.size w)
 have HG := Aside0.mk hG
 clear hG
 have H : ((R5_Sample.f k l0).bind fun t210 => (if t210.size + 1 ≤ 9223372036854775807 then (if 5 ≤ 281474976710656 then ((some (bytesOf (t210 ++ (⟨#[32]⟩ : ByteArray)) : List Int)).bind fun y211 => ((R1_Around.f a2 (y211.length : Int)).bind fun t214 => (if 0 ≤ t214 then (if t214 < (y211.length : Int) then (if t210.size + a1.size ≤ 9223372036854775807 then ((R1_Around.f a2 (wrap64 ((t210.size : Int) + 1))).bind fun t216 => (if 0 ≤ t216 then (if t216 ≤ (t210.size : Int) then (L5_LexScans.l0 k (([t210, strOfNums (y211.set (t214 : Int).toNat a3), a1, t210 ++ a1, t210.extract 0 (t216 : Int).toNat, (⟨#[]⟩ : ByteArray)] : List ByteArray)) 0) else (none)) else (none))) else (none)) else (none)) else (none)))) else (none)) else (none))) = some r := h
 clear h
 replace H := Option.bind_eq_some_iff.mp H
 obtain ⟨t210, A50, H⟩ := H
 replace H : (if t210.size + 1 ≤ 9223372036854775807 then (if 5 ≤ 281474976710656 then ((some (bytesOf (t210 ++ (⟨#[32]⟩ : ByteArray)) : List Int)).bind fun y211 => ((R1_Around.f a2 (y211.length : Int)).bind fun t214 => (if 0 ≤ t214 then (if t214 < (y211.length : Int) then (if t210.size + a1.size ≤ 9223372036854775807 then ((R1_Around.f a2 (wrap64 ((t210.size : Int) + 1))).bind fun t216 => (if 0 ≤ t216 then (if t216 ≤ (t210.size : Int) then (L5_LexScans.l0 k (([t210, strOfNums (y211.set (t214 : Int).toNat a3), a1, t210 ++ a1, t210.extract 0 (t216 : Int).toNat, (⟨#[]⟩ : ByteArray)] : List ByteArray)) 0) else (none)) else (none))) else (none)) else (none)) else (none)))) else (none)) else (none)) = some r := H
 have A5 := Aside0.mk A50
 clear A50
 by_cases c6 : t210.size + 1 ≤ 9223372036854775807
 ·rw [if_pos c6] at H
  have c6b0 := eq_true c6
  have c6b1 : decide (t210.size + 1 ≤ 9223372036854775807) = true := decide_eq_true c6
  try have c6b2 : (9223372036854775807 < t210.size + 1) = False := eq_false (Nat.not_lt.2 c6)
  by_cases c7 : 5 ≤ 281474976710656
  ·rw [if_pos c7] at H
   have c7b0 := eq_true c7
   have c7b1 : decide (5 ≤ 281474976710656) = true := decide_eq_true c7
   clear c7
   obtain ⟨y211, hy211⟩ : ∃ y_ : List Int, y_ = (bytesOf (t210 ++ (⟨#[32]⟩ : ByteArray))) := ⟨_, rfl⟩
   replace H : ((R1_Around.f a2 (y211.length : Int)).bind fun t214 => (if 0 ≤ t214 then (if t214 < (y211.length : Int) then (if t210.size + a1.size ≤ 9223372036854775807 then ((R1_Around.f a2 (wrap64 ((t210.size : Int) + 1))).bind fun t216 => (if 0 ≤ t216 then (if t216 ≤ (t210.size : Int) then (L5_LexScans.l0 k (([t210, strOfNums (y211.set (t214 : Int).toNat a3), a1, t210 ++ a1, t210.extract 0 (t216 : Int).toNat, (⟨#[]⟩ : ByteArray)] : List ByteArray)) 0) else (none)) else (none))) else (none)) else (none)) else (none))) = some r := by first | (rw [hy211]; with_reducible exact H) | (have H2_ := (Option.bind_some _ _).symm.trans H; rw [hy211]; with_reducible exact H2_) | (have H2_ := (Option.bind_some _ _).symm.trans H; with_reducible exact H2_) | with_reducible exact H | (rw [hy211]; exact H) | exact H
   have Ny211 := Aside0.mk hy211
   clear hy211
   replace H := Option.bind_eq_some_iff.mp H
   obtain ⟨t214, A80, H⟩ := H
   replace H : (if 0 ≤ t214 then (if t214 < (y211.length : Int) then (if t210.size + a1.size ≤ 9223372036854775807 then ((R1_Around.f a2 (wrap64 ((t210.size : Int) + 1))).bind fun t216 => (if 0 ≤ t216 then (if t216 ≤ (t210.size : Int) then (L5_LexScans.l0 k (([t210, strOfNums (y211.set (t214 : Int).toNat a3), a1, t210 ++ a1, t210.extract 0 (t216 : Int).toNat, (⟨#[]⟩ : ByteArray)] : List ByteArray)) 0) else (none)) else (none))) else (none)) else (none)) else (none)) = some r := H
   have A8 := Aside0.mk A80
   clear A80
   by_cases c9 : 0 ≤ t214
   ·rw [if_pos c9] at H
    have c9q := Aside0.mk c9
    have c9b0 : decide (0 ≤ t214) = true := decide_eq_true c9
    clear c9
    by_cases c10 : t214 < (y211.length : Int)
    ·rw [if_pos c10] at H
     have c10q := Aside0.mk c10
     have c10b0 : decide (t214 < (y211.length : Int)) = true := decide_eq_true c10
     clear c10
     obtain ⟨y215, hy215⟩ : ∃ y_ : List Int, y_ = (y211.set (t214 : Int).toNat a3) := ⟨_, rfl⟩
     replace H : (if t210.size + a1.size ≤ 9223372036854775807 then ((R1_Around.f a2 (wrap64 ((t210.size : Int) + 1))).bind fun t216 => (if 0 ≤ t216 then (if t216 ≤ (t210.size : Int) then (L5_LexScans.l0 k (([t210, strOfNums y215, a1, t210 ++ a1, t210.extract 0 (t216 : Int).toNat, (⟨#[]⟩ : ByteArray)] : List ByteArray)) 0) else (none)) else (none))) else (none)) = some r := by first | (rw [hy215]; with_reducible exact H) | (have H2_ := (Option.bind_some _ _).symm.trans H; rw [hy215]; with_reducible exact H2_) | (have H2_ := (Option.bind_some _ _).symm.trans H; with_reducible exact H2_) | with_reducible exact H | (rw [hy215]; exact H) | exact H
     have Ny215 := Aside0.mk hy215
     clear hy215
     by_cases c12 : t210.size + a1.size ≤ 9223372036854775807
     ·rw [if_pos c12] at H
      have c12b0 := eq_true c12
      have c12b1 : decide (t210.size + a1.size ≤ 9223372036854775807) = true := decide_eq_true c12
      try have c12b2 : (9223372036854775807 < t210.size + a1.size) = False := eq_false (Nat.not_lt.2 c12)
      replace H := Option.bind_eq_some_iff.mp H
      obtain ⟨t216, A130, H⟩ := H
      replace H : (if 0 ≤ t216 then (if t216 ≤ (t210.size : Int) then (L5_LexScans.l0 k (([t210, strOfNums y215, a1, t210 ++ a1, t210.extract 0 (t216 : Int).toNat, (⟨#[]⟩ : ByteArray)] : List ByteArray)) 0) else (none)) else (none)) = some r := H
      have A13 := Aside0.mk A130
      clear A130
      by_cases c14 : 0 ≤ t216
      ·rw [if_pos c14] at H
       have c14b0 := eq_true c14
       have c14b1 : decide (0 ≤ t216) = true := decide_eq_true c14
       clear c14
       by_cases c15 : t216 ≤ (t210.size : Int)
       ·rw [if_pos c15] at H
        have c15b0 := eq_true c15
        have c15b1 : decide (t216 ≤ (t210.size : Int)) = true := decide_eq_true c15
        clear c15
        obtain ⟨y217, hy217⟩ : ∃ y_ : List ByteArray, y_ = (([t210, strOfNums y215, a1, t210 ++ a1, t210.extract 0 (t216 : Int).toNat, (⟨#[]⟩ : ByteArray)] : List ByteArray)) := ⟨_, rfl⟩
        replace H : (L5_LexScans.l0 k y217 0) = some r := by first | (rw [hy217]; with_reducible exact H) | (have H2_ := (Option.bind_some _ _).symm.trans H; rw [hy217]; with_reducible exact H2_) | (have H2_ := (Option.bind_some _ _).symm.trans H; with_reducible exact H2_) | with_reducible exact H | (rw [hy217]; exact H) | exact H
        have Ny217 := Aside0.mk hy217
        clear hy217
        have H' := Aside0.mk H
        clear H
        go_enter Tryd.func3, Tryd.ntmps3
        have hl215 : y215.length = y211.length := (by rw [Ny215.out, List.length_set])
        have HL215 := Aside0.mk hl215
        clear hl215
        go_wp2_with (first | ((with_reducible refine gate_callee (f := 9) rfl ?_); refine goesL_ (some 20) rfl rfl Tryd.func9 (by kernel_rfl) rfl #[.slice A0 l0.length c0] rfl (by (try simp only [List.map_toArray, List.map_cons, List.map_nil]); first | done | rfl | (simp only [List.length_drop, List.length_take]; rfl)) ?_; (with_reducible refine (R5_Sample.calls k _ _ l0 t210 _ ?side1 ?side2 A5.out).mono ?_); (case side1 => repeat (first | exact HR0.out | (with_reducible refine Kd.C_alloc ?_ _) | (with_reducible refine Kd.C_drewN ?_ _) | (with_reducible refine Kd.C_drew ?_))); (case side2 => exact HC0.out); rintro e w16 ⟨rfl, hb⟩; refine ⟨_, rfl, ?_⟩; have n0_ := Aside0.mk (below_step (by repeat (first | (with_reducible first | exact HB.out | apply below_alloc | apply pw_below_drewN | apply below_drew1) | exact HB.out)) hb); clear HB; have HB := n0_; clear n0_; (try clear hb); (try clear hb2); (try clear hk); (try clear hi)) | ((with_reducible refine gate_dst (N := 23) rfl ?_); refine bytes_new w.heap.size rfl (N := 23) rfl 9 24 5 _ rfl (t210 ++ (⟨#[32]⟩ : ByteArray)) y211 Ny211.out rfl Tryd.underlying9 Tryd.underlying24 Tryd.underlying5 rfl (by repeat (first | (with_reducible first | exact HB.out | apply below_alloc | apply pw_below_drewN | apply below_drew1) | exact HB.out)) (below_size (by repeat (first | (with_reducible first | exact HB.out | apply below_alloc | apply pw_below_drewN | apply below_drew1) | exact HB.out))) ?_; intro g cap w17 hrb hgB hb; have HRB := Aside0.mk hrb; have HGB := Aside0.mk hgB; clear HB; have HB := Aside0.mk hb; clear hrb hgB hb) | ((with_reducible refine gate_callee (f := 10) rfl ?_); refine goesL_ (some 28) rfl rfl Tryd.func10 (by kernel_rfl) rfl #[.int .i64 a2, .int .i64 (y211.length : Int)] rfl (by (try simp only [List.map_toArray, List.map_cons, List.map_nil]); first | done | rfl | (simp only [List.length_drop, List.length_take]; rfl)) ?_; (with_reducible refine (R1_Around.calls a2 (y211.length : Int) t214 _ A8.out).mono ?_); rintro e w' ⟨rfl, ⟨nd, rfl⟩⟩; refine ⟨_, rfl, ?_⟩; (try (rw [drewN_self w17]; generalize hq_ : World.drewN w17 _ = w17; have n0_ : Aside0 (RowB w17 g y211) := ⟨by rw [← hq_]; exact RowB.drewN HRB.out _⟩; have n1_ : Aside0 (Below w.heap.size w w17) := ⟨by rw [← hq_]; exact (by repeat (first | (with_reducible first | exact HB.out | apply below_alloc | apply pw_below_drewN | apply below_drew1) | exact HB.out))⟩; clear HRB HB hq_; have HRB := n0_; have HB := n1_; clear n0_ n1_)); have p11 : t214.toNat < y211.length := (by have h1 := c9q.out; have h2 := c10q.out; omega); have hx11 := HRB.out.cell t214.toNat p11; have hf11 := HRB.out.free t214.toNat p11; have p11z := eq_true c9q.out; have q11z := eq_true c10q.out) | ((with_reducible refine gate_store (t := 5) (p := 30) rfl ?_); refine store_event (t := 5) (p := 30) (v := ?vo_w21) (w1 := (w17.setCell ⟨g, (t214 : Int).toNat, none⟩ (.int .u8 a3))) ?hg ?ho ?hn ?hr ?_; (case ho => rfl); (case hg => rfl); (case hn => rfl); (case hr => first | (go_simp; done) | (go_simp; rfl)); intro w21 hw; have hr21 : RowB w21 g y215 := (by rw [hw, Ny215.out]; exact RowB.put HRB.out _ _); have hb21 : Below w.heap.size w w21 := (by rw [hw]; exact below_set (HB.out) HGB.out); clear HRB HB; have HRB := Aside0.mk hr21; have HB := Aside0.mk hb21; clear hr21 hb21 hw))
        rw [← HL215.out]
        have n0_ := Aside0.mk (RowB.drew HRB.out)
        have n1_ := Aside0.mk (below_drew1 HB.out)
        clear HRB HB
        have HRB := n0_
        have HB := n1_
        clear n0_ n1_
        refine start_ (n := 16) (S := fun w' => RowB w' g y215) (ds := []) #[false, false, false, false, false, false, false, false, false, false, false, false, false, false, false, false] (by kernel_rfl) rfl rfl HRB.out (fun hHeld => ?_); refine with_tabW L5_LexScans.tab4 L5_LexScans.bits4 (fun HT_ HW_ => ?_)
        generalize w21.drew = w22 at HRB HB hHeld ⊢
        refine pure_ (i := 0) (N := some 31) (v := ?_) (a' := ?_) #[true, false, false, false, false, false, false, false, false, false, false, false, false, false, false, false] rfl rfl (any_of HT_.out (by kernel_rfl)) (fun _ _ _ h => h) (Or.inl ⟨by rfl, ?_⟩) ?_ ?_
        rotate_left
        ·intro w'
         go_simp
         with_reducible rfl
        rotate_left
        ·simp only [Act.put, List.setIfInBounds_toArray, List.set_cons_zero, List.set_cons_succ, i64_w, i32_w]
         rfl
        refine pure_ (i := 1) (N := some 32) (v := ?_) (a' := ?_) #[true, true, false, false, false, false, false, false, false, false, false, false, false, false, false, false] rfl rfl (any_of HT_.out (by kernel_rfl)) (fun _ _ _ h => h) (Or.inl ⟨by rfl, ?_⟩) ?_ ?_
        rotate_left
        ·intro w'
         go_simp
         with_reducible rfl
        rotate_left
        ·simp only [Act.put, List.setIfInBounds_toArray, List.set_cons_zero, List.set_cons_succ, i64_w, i32_w]
         rfl
        refine take_ (i := 2) (N := some 33) (v := ?_) (a' := ?_) #[true, true, true, false, false, false, false, false, false, false, false, false, false, false, false, false] rfl rfl (take_ofW HT_.out HW_.out (by kernel_rfl)) (fun _ _ _ h => h) (Or.inl ⟨by rfl, ?_⟩) hHeld ?_ ?_
        rotate_left
        ·rintro w' s0
         have hcvb := RowB.back (cap := cap) s0
         go_simp
         with_reducible rfl
        rotate_left
        ·simp only [Act.put, List.setIfInBounds_toArray, List.set_cons_zero, List.set_cons_succ, i64_w, i32_w]
         rfl
        refine pure_ (i := 3) (N := some 34) (v := ?_) (a' := ?_) #[true, true, true, true, false, false, false, false, false, false, false, false, false, false, false, false] rfl rfl (any_of HT_.out (by kernel_rfl)) (fun _ _ _ h => h) (Or.inl ⟨by rfl, ?_⟩) ?_ ?_
        rotate_left
        ·intro w'
         go_simp
         with_reducible rfl
        rotate_left
        ·simp only [Act.put, List.setIfInBounds_toArray, List.set_cons_zero, List.set_cons_succ, i64_w, i32_w]
         rfl
        refine pure_ (i := 4) (N := some 35) (v := ?_) (a' := ?_) #[true, true, true, true, true, false, false, false, false, false, false, false, false, false, false, false] rfl rfl (any_of HT_.out (by kernel_rfl)) (fun _ _ _ h => h) (Or.inl ⟨by rfl, ?_⟩) ?_ ?_
        rotate_left
        ·intro w'
         go_simp
         with_reducible rfl
        rotate_left
        ·simp only [Act.put, List.setIfInBounds_toArray, List.set_cons_zero, List.set_cons_succ, i64_w, i32_w]
         rfl
        refine pure_ (i := 5) (N := some 36) (v := ?_) (a' := ?_) #[true, true, true, true, true, true, false, false, false, false, false, false, false, false, false, false] rfl rfl (any_of HT_.out (by kernel_rfl)) (fun _ _ _ h => h) (Or.inl ⟨by rfl, ?_⟩) ?_ ?_
        rotate_left
        ·intro w'
         go_simp
         with_reducible rfl
        rotate_left
        ·simp only [Act.put, List.setIfInBounds_toArray, List.set_cons_zero, List.set_cons_succ, i64_w, i32_w]
         rfl
        refine pure_ (i := 6) (N := some 37) (v := ?_) (a' := ?_) #[true, true, true, true, true, true, true, false, false, false, false, false, false, false, false, false] rfl rfl (any_of HT_.out (by kernel_rfl)) (fun _ _ _ h => h) (Or.inl ⟨by rfl, ?_⟩) ?_ ?_
        rotate_left
        ·intro w'
         go_simp
         with_reducible rfl
        rotate_left
        ·simp only [Act.put, List.setIfInBounds_toArray, List.set_cons_zero, List.set_cons_succ, i64_w, i32_w]
         rfl
        refine pure_ (i := 7) (N := some 38) (v := ?_) (a' := ?_) #[true, true, true, true, true, true, true, true, false, false, false, false, false, false, false, false] rfl rfl (any_of HT_.out (by kernel_rfl)) (fun _ _ _ h => h) (Or.inl ⟨by rfl, ?_⟩) ?_ ?_
        rotate_left
        ·intro w'
         go_simp
         with_reducible rfl
        rotate_left
        ·simp only [Act.put, List.setIfInBounds_toArray, List.set_cons_zero, List.set_cons_succ, i64_w, i32_w]
         rfl
        refine pure_ (i := 8) (N := some 39) (v := ?_) (a' := ?_) #[true, true, true, true, true, true, true, true, true, false, false, false, false, false, false, false] rfl rfl (any_of HT_.out (by kernel_rfl)) (fun _ _ _ h => h) (Or.inl ⟨by rfl, ?_⟩) ?_ ?_
        rotate_left
        ·intro w'
         go_simp
         with_reducible rfl
        rotate_left
        ·simp only [Act.put, List.setIfInBounds_toArray, List.set_cons_zero, List.set_cons_succ, i64_w, i32_w]
         rfl
        refine pure_ (i := 9) (N := some 40) (v := ?_) (a' := ?_) #[true, true, true, true, true, true, true, true, true, true, false, false, false, false, false, false] rfl rfl (any_of HT_.out (by kernel_rfl)) (fun _ _ _ h => h) (Or.inl ⟨by rfl, ?_⟩) ?_ ?_
        rotate_left
        ·intro w'
         go_simp
         with_reducible rfl
        rotate_left
        ·simp only [Act.put, List.setIfInBounds_toArray, List.set_cons_zero, List.set_cons_succ, i64_w, i32_w]
         rfl
        refine pure_ (i := 10) (N := some 41) (v := ?_) (a' := ?_) #[true, true, true, true, true, true, true, true, true, true, true, false, false, false, false, false] rfl rfl (any_of HT_.out (by kernel_rfl)) (fun _ _ _ h => h) (Or.inl ⟨by rfl, ?_⟩) ?_ ?_
        rotate_left
        ·intro w'
         go_simp
         with_reducible rfl
        rotate_left
        ·simp only [Act.put, List.setIfInBounds_toArray, List.set_cons_zero, List.set_cons_succ, i64_w, i32_w]
         rfl
        refine pure_ (i := 11) (N := some 42) (v := ?_) (a' := ?_) #[true, true, true, true, true, true, true, true, true, true, true, true, false, false, false, false] rfl rfl (any_of HT_.out (by kernel_rfl)) (fun _ _ _ h => h) (Or.inl ⟨by rfl, ?_⟩) ?_ ?_
        rotate_left
        ·intro w'
         go_simp
         with_reducible rfl
        rotate_left
        ·simp only [Act.put, List.setIfInBounds_toArray, List.set_cons_zero, List.set_cons_succ, i64_w, i32_w]
         rfl
        refine one_ (i := 12) (N := some 43) #[true, true, true, true, true, true, true, true, true, true, true, true, true, false, false, false] rfl rfl (one_of HT_.out (by kernel_rfl)) (by decide) (fun K hK => ?_)
        refine goes_ Tryd.func10 (by kernel_rfl) rfl #[.int .i64 a2, .int .i64 (wrap64 ((t210.size : Int) + 1))] (by rfl) rfl rfl (by (try simp only [List.map_toArray, List.map_cons, List.map_nil]); first | done | rfl | (simp only [List.length_drop, List.length_take]; rfl)) ?_
        with_reducible refine (R1_Around.calls a2 (wrap64 ((t210.size : Int) + 1)) t216 _ A13.out).mono ?_
        rintro e w' ⟨rfl, ⟨nd, rfl⟩⟩
        refine ⟨_, rfl, ?_⟩
        refine hK.out _ _ (by repeat (first | exact HRB.out | apply RowB.drewN | apply RowB.drew)) (fun hHeld => ?_)
        clear hK K
        refine norm_ (a' := ?_) ?_ ?_
        rotate_left
        ·show Act.put _ (some 43) _ = _
         simp only [Act.put, List.setIfInBounds_toArray, List.set_cons_zero, List.set_cons_succ, i64_w, i32_w]
         rfl
        refine pure_ (i := 13) (N := some 44) (v := ?_) (a' := ?_) #[true, true, true, true, true, true, true, true, true, true, true, true, true, true, false, false] rfl rfl (any_of HT_.out (by kernel_rfl)) (fun _ _ _ h => h) (Or.inl ⟨by rfl, ?_⟩) ?_ ?_
        rotate_left
        ·intro w'
         go_simp
         with_reducible rfl
        rotate_left
        ·simp only [Act.put, List.setIfInBounds_toArray, List.set_cons_zero, List.set_cons_succ, i64_w, i32_w]
         rfl
        refine one_ (i := 14) (N := some 45) #[true, true, true, true, true, true, true, true, true, true, true, true, true, true, true, false] rfl rfl (one_of HT_.out (by kernel_rfl)) (by decide) (fun K hK => ?_)
        refine Kd.R_lit_step Kd.string _ 9 ?hg (N := 45) ?hd (xs := ([t210, strOfNums y215, a1, t210 ++ a1, t210.extract 0 (t216 : Int).toNat, (⟨#[]⟩ : ByteArray)] : List ByteArray)) (inner := [.string t210, .string (strOfNums y215), .string a1, .string (t210 ++ a1), .string (t210.extract 0 (t216 : Int).toNat), .string (⟨#[]⟩ : ByteArray)]) (ok := fun _ => True) (okp := fun _ => True) ?hr ?hp (fun _ hk => hk) trivial (Below.refl _ _) (Nat.le_refl _) (by simp) ?_; (case hd => rfl); (case hg => rfl); (case hr => first | (go_simp; done) | (go_simp; rfl)); (case hp => exact (Reps.one (show Kd.M Kd.string _ _ _ t210 [.string t210] from rfl) (Reps.one (show Kd.M Kd.string _ _ _ (strOfNums y215) [.string (strOfNums y215)] from rfl) (Reps.one (show Kd.M Kd.string _ _ _ a1 [.string a1] from rfl) (Reps.one (show Kd.M Kd.string _ _ _ (t210 ++ a1) [.string (t210 ++ a1)] from rfl) (Reps.one (show Kd.M Kd.string _ _ _ (t210.extract 0 (t216 : Int).toNat) [.string (t210.extract 0 (t216 : Int).toNat)] from rfl) (Reps.one (show Kd.M Kd.string _ _ _ (⟨#[]⟩ : ByteArray) [.string (⟨#[]⟩ : ByteArray)] from rfl) (Reps.none _ _))))))))
        intro v218 w25 ho26 hb hg_ hnew_
        clear hg_ hnew_
        (first | rw [← Ny217.out] at ho26 | (simp only [Int.reduceToNat] at ho26; rw [← Ny217.out] at ho26))
        have n0_ := Aside0.mk (RowB.below (by repeat (first | exact HRB.out | apply RowB.drewN | apply RowB.drew)) hb)
        have n1_ := Aside0.mk (Kd.R_lower ho26 (below_size (by repeat (first | (with_reducible first | exact HB.out | apply below_alloc | apply pw_below_drewN | apply below_drew1) | exact HB.out))))
        have n2_ := Aside0.mk (below_step (by repeat (first | (with_reducible first | exact HB.out | apply below_alloc | apply pw_below_drewN | apply below_drew1) | exact HB.out)) hb)
        clear HRB
        clear HB
        have HRB := n0_
        have HO219 := n1_
        have HB := n2_
        clear n0_ n1_ n2_
        clear hb ho26
        refine hK.out _ _ HRB.out (fun hHeld => ?_)
        clear hK K
        refine norm_ (a' := ?_) ?_ ?_
        rotate_left
        ·show Act.put _ (some 45) _ = _
         simp only [Act.put, List.setIfInBounds_toArray, List.set_cons_zero, List.set_cons_succ, i64_w, i32_w]
         rfl
        refine pure_ (i := 15) (N := some 11) (v := ?_) (a' := ?_) #[true, true, true, true, true, true, true, true, true, true, true, true, true, true, true, true] rfl rfl (any_of HT_.out (by kernel_rfl)) (fun _ _ _ h => h) (Or.inl ⟨by rfl, ?_⟩) ?_ ?_
        rotate_left
        ·intro w'
         go_simp
         with_reducible rfl
        rotate_left
        ·simp only [Act.put, List.setIfInBounds_toArray, List.set_cons_zero, List.set_cons_succ, i64_w, i32_w]
         rfl
        refine done_ (done_of HT_.out (by kernel_rfl)) ?_
        try go_wp2
        go_loopg [12] k (fun kq v12 w' => ∃ (x12_1 : Int), v12 = .int .i64 x12_1 ∧ Aside0 (L5_LexScans.l0 kq y217 x12_1 = some r) ∧ Aside0 (kq ≤ k) ∧ Aside0 (Kd.R Kd.string 9 w' w.heap.size (fun _ => True) v218 y217) ∧ Aside0 (Below w.heap.size w w'))
        case atStart => exact ⟨(0), (by first | rfl | (simp; done) | (simp [*]; done)), H', ⟨Nat.le_refl _⟩, ⟨by (with_reducible repeat (first | apply Kd.R_alloc | apply Kd.R_drewN | apply Kd.R_drew)); exact HO219.out⟩, ⟨by repeat (first | (with_reducible first | exact HB.out | apply below_alloc | apply pw_below_drewN | apply below_drew1) | exact HB.out)⟩⟩
        case round =>
         clear H'
         try clear c1
         try clear p1
         try clear q1
         try clear hx1
         try clear p2
         try clear hcv2
         try clear c3
         try clear c6
         try clear c6b0
         try clear c6b1
         try clear c6b2
         try clear p6
         try clear c7
         try clear c7b0
         try clear c7b1
         try clear c9
         try clear c9b0
         try clear c10
         try clear c10b0
         try clear p11
         try clear q11
         try clear hx11
         try clear hf11
         try clear c12
         try clear c12b0
         try clear c12b1
         try clear c12b2
         try clear c14
         try clear c14b0
         try clear c14b1
         try clear c15
         try clear c15b0
         try clear c15b1
         try clear hcv23
         try clear hx11_0
         try clear p11
         try clear q11
         obtain ⟨x12_1, rfl, HA, HK1, HO_11, HB⟩ := hrel
         cases gk with
         | zero => exact absurd HA.out (by simp [L5_LexScans.l0])
         | succ k1 =>
          have H := HA.out
          clear HA
          simp only [L5_LexScans.l0] at H
          by_cases c27 : x12_1 < (y217.length : Int)
          ·rw [if_pos c27] at H
           have c27b0 : decide (x12_1 < (y217.length : Int)) = true := decide_eq_true c27
           clear c27
           by_cases c28 : 0 ≤ x12_1
           ·rw [if_pos c28] at H
            have c28b0 : decide (0 ≤ x12_1) = true := decide_eq_true c28
            clear c28
            replace H := Option.bind_eq_some_iff.mp H
            obtain ⟨⟨t222, t223, t224⟩, A290, H⟩ := H
            replace H : ((R5_Scan.f k1 (rdOf ByteArray.empty y217 x12_1)).bind fun bt228 => (if t224 = bt228.2.2 then (if t223.toList = bt228.2.1.toList then ((L5_plain.f k1 t222).bind fun t233 => ((R5_Same.f k1 t233 bt228.1).bind fun t236 => (L5_LexScans.j1 k1 y217 x12_1 (!t236)))) else (L5_LexScans.j1 k1 y217 x12_1 true)) else (L5_LexScans.j1 k1 y217 x12_1 true))) = some r := H
            have A29 := Aside0.mk A290
            clear A290
            replace H := Option.bind_eq_some_iff.mp H
            obtain ⟨⟨t228, t229, t230⟩, A300, H⟩ := H
            replace H : (if t224 = t230 then (if t223.toList = t229.toList then ((L5_plain.f k1 t222).bind fun t233 => ((R5_Same.f k1 t233 t228).bind fun t236 => (L5_LexScans.j1 k1 y217 x12_1 (!t236)))) else (L5_LexScans.j1 k1 y217 x12_1 true)) else (L5_LexScans.j1 k1 y217 x12_1 true)) = some r := H
            have A30 := Aside0.mk A300
            clear A300
            have HC31 := Aside0.mk H
            clear H
            obtain ⟨Ao32, co32, eo32⟩ := Kd.R_slice HO_11.out
            subst eo32
            have p221 : 0 ≤ (x12_1 : Int) := of_decide_eq_true (by first | (with_reducible assumption) | assumption)
            have q221 : x12_1 < (y217.length : Int) := of_decide_eq_true (by first | (with_reducible assumption) | assumption)
            obtain ⟨ad221, e221, hx221_0⟩ := Kd.at_string (Kd.R_reads' HO_11.out).2.2 x12_1 p221 q221
            cases e221
            replace p221 := eq_true p221
            replace q221 := eq_true q221
            go_upto_region 10 with (first | ((with_reducible refine gate_callee (f := 11) rfl ?_); refine goesL_ (some 57) rfl rfl Tryd.func11 (by kernel_rfl) rfl #[.string (rdOf ByteArray.empty y217 x12_1)] rfl (by (try simp only [List.map_toArray, List.map_cons, List.map_nil]); first | done | rfl | (simp only [List.length_drop, List.length_take]; rfl)) ?_; (with_reducible refine (lex_Scan.calls k1 (rdOf ByteArray.empty y217 x12_1) t222 t223 t224 _ ?side1 A29.out).mono ?_); (case side1 => exact Glob.below HG.out (by repeat (first | (with_reducible first | exact HB.out | apply below_alloc | apply pw_below_drewN | apply below_drew1) | exact HB.out))); rintro e w33 ⟨v225, rfl, ho0, hb⟩; refine ⟨_, rfl, ?_⟩; have n0_ := Aside0.mk (Kd.R_below (by (with_reducible repeat (first | apply Kd.R_alloc | apply Kd.R_drewN | apply Kd.R_drew)); exact HO_11.out) hb); have n1_ := Aside0.mk (Kd.R_lower ho0 (below_size (by repeat (first | (with_reducible first | exact HB.out | apply below_alloc | apply pw_below_drewN | apply below_drew1) | exact HB.out)))); have n2_ := Aside0.mk (below_step (by repeat (first | (with_reducible first | exact HB.out | apply below_alloc | apply pw_below_drewN | apply below_drew1) | exact HB.out)) hb); clear HO_11; clear HB; have HO_11 := n0_; have HO226 := n1_; have HB := n2_; clear n0_ n1_ n2_; (try clear hb); (try clear hb2); (try clear hk); (try clear hi); (try clear ho0); have p227 : 0 ≤ (x12_1 : Int) := of_decide_eq_true (by first | (with_reducible assumption) | assumption); have q227 : x12_1 < (y217.length : Int) := of_decide_eq_true (by first | (with_reducible assumption) | assumption); obtain ⟨ad227, e227, hx227_0⟩ := Kd.at_string (Kd.R_reads' HO_11.out).2.2 x12_1 p227 q227; obtain rfl : ad221 = ad227 := (by injection e227); replace p227 := eq_true p227; replace q227 := eq_true q227) | ((with_reducible refine gate_callee (f := 12) rfl ?_); refine goesL_ (some 66) rfl rfl Tryd.func12 (by kernel_rfl) rfl #[.string (rdOf ByteArray.empty y217 x12_1)] rfl (by (try simp only [List.map_toArray, List.map_cons, List.map_nil]); first | done | rfl | (simp only [List.length_drop, List.length_take]; rfl)) ?_; (with_reducible refine (R5_Scan.calls k1 (rdOf ByteArray.empty y217 x12_1) t228 t229 t230 _ A30.out).mono ?_); rintro e w34 ⟨v231, rfl, ho0, hb⟩; refine ⟨_, rfl, ?_⟩; have n0_ := Aside0.mk (Kd.R_below (by (with_reducible repeat (first | apply Kd.R_alloc | apply Kd.R_drewN | apply Kd.R_drew)); exact HO_11.out) hb); have n1_ := Aside0.mk (Kd.R_below (by (with_reducible repeat (first | apply Kd.R_alloc | apply Kd.R_drewN | apply Kd.R_drew)); exact HO226.out) hb); have n2_ := Aside0.mk (Kd.R_lower ho0 (below_size (by repeat (first | (with_reducible first | exact HB.out | apply below_alloc | apply pw_below_drewN | apply below_drew1) | exact HB.out)))); have n3_ := Aside0.mk (below_step (by repeat (first | (with_reducible first | exact HB.out | apply below_alloc | apply pw_below_drewN | apply below_drew1) | exact HB.out)) hb); clear HO_11; clear HO226; clear HB; have HO_11 := n0_; have HO226 := n1_; have HO232 := n2_; have HB := n3_; clear n0_ n1_ n2_ n3_; (try clear hb); (try clear hb2); (try clear hk); (try clear hi); (try clear ho0)))
            (try simp only [Act.put, List.setIfInBounds_toArray, List.set_cons_zero, List.set_cons_succ])
            go_cut [84] (fun v84 wc => ∃ (kq : Nat) (x84_30 : Bool), v84 = .bool x84_30 ∧ Aside0 (L5_LexScans.j1 kq y217 x12_1 x84_30 = some r) ∧ Aside0 (kq ≤ k1) ∧ Aside0 (Kd.R Kd.string 9 wc w.heap.size (fun _ => True) (.slice (some ad221) y217.length co32) y217) ∧ Aside0 (Below w.heap.size w wc))
            case first =>
             have H := HC31.out
             clear HC31
             by_cases c35 : t224 = t230
             ·rw [if_pos c35] at H
              have c35b0 : (t224 == t230) = true := beq_iff_eq.mpr c35
              have c35b1 : (t224 != t230) = false := bne_eq_false_iff_eq.mpr c35
              clear c35
              (first | rw [c35b0] | (simp only [i64_w, i32_w]; rw [c35b0]) | skip)
              by_cases c36 : t223.toList = t229.toList
              ·rw [if_pos c36] at H
               have c36b0 : (t223.toList == t229.toList) = true := beq_iff_eq.mpr c36
               have c36b1 : (t223.toList != t229.toList) = false := bne_eq_false_iff_eq.mpr c36
               clear c36
               replace H := Option.bind_eq_some_iff.mp H
               obtain ⟨t233, A370, H⟩ := H
               replace H : ((R5_Same.f k1 t233 t228).bind fun t236 => (L5_LexScans.j1 k1 y217 x12_1 (!t236))) = some r := H
               have A37 := Aside0.mk A370
               clear A370
               replace H := Option.bind_eq_some_iff.mp H
               obtain ⟨t236, A380, H⟩ := H
               replace H : (L5_LexScans.j1 k1 y217 x12_1 (!t236)) = some r := H
               have A38 := Aside0.mk A380
               clear A380
               have H' := Aside0.mk H
               clear H
               obtain ⟨Ao39, co39, eo39⟩ := Kd.R_slice HO226.out
               subst eo39
               go_wp2_with (first | (go_at_call 14; (with_reducible refine (L5_plain.calls k1 _ _ t222 t233 _ ?side1 ?side2 A37.out).mono ?_); (case side1 => repeat (first | exact (Kd.R_reads' HO226.out).2.2 | (with_reducible refine Kd.C_alloc ?_ _) | (with_reducible refine Kd.C_drewN ?_ _) | (with_reducible refine Kd.C_drew ?_))); (case side2 => exact (Kd.R_reads' HO226.out).2.1); rintro e w40 ⟨v234, rfl, ho0, hb⟩; have n0_ := Aside0.mk (Kd.R_below (by (with_reducible repeat (first | apply Kd.R_alloc | apply Kd.R_drewN | apply Kd.R_drew)); exact HO_11.out) hb); have n1_ := Aside0.mk (Kd.R_below (by (with_reducible repeat (first | apply Kd.R_alloc | apply Kd.R_drewN | apply Kd.R_drew)); exact HO226.out) hb); have n2_ := Aside0.mk (Kd.R_elder' (by (with_reducible repeat (first | apply Kd.R_alloc | apply Kd.R_drewN | apply Kd.R_drew)); exact HO232.out) (Kd.R_base ho0) hb); have n3_ := Aside0.mk (Kd.R_lower (Kd.R_new' ho0 (Kd.R_lt (by (with_reducible repeat (first | apply Kd.R_alloc | apply Kd.R_drewN | apply Kd.R_drew)); exact HO232.out))) (below_size (by repeat (first | (with_reducible first | exact HB.out | apply below_alloc | apply pw_below_drewN | apply below_drew1) | exact HB.out)))); have n4_ := Aside0.mk (below_step (by repeat (first | (with_reducible first | exact HB.out | apply below_alloc | apply pw_below_drewN | apply below_drew1) | exact HB.out)) hb); clear HO_11; clear HO226; clear HO232; clear HB; have HO_11 := n0_; have HO226 := n1_; have HO232 := n2_; have HO235 := n3_; have HB := n4_; clear n0_ n1_ n2_ n3_ n4_; (try clear hb); (try clear hb2); (try clear hk); (try clear hi); (try clear ho0); obtain ⟨Ao41, co41, eo41⟩ := Kd.R_slice HO235.out; subst eo41; obtain ⟨Ao42, co42, eo42⟩ := Kd.R_slice HO232.out; subst eo42) | (go_at_call 13; (with_reducible refine (R5_Same.calls k1 _ _ t233 _ _ t228 t236 _ ?side1 ?side2 ?side3 ?side4 A38.out).mono ?_); (case side1 => repeat (first | exact (Kd.R_reads' HO235.out).2.2 | (with_reducible refine Kd.C_alloc ?_ _) | (with_reducible refine Kd.C_drewN ?_ _) | (with_reducible refine Kd.C_drew ?_))); (case side2 => exact (Kd.R_reads' HO235.out).2.1); (case side3 => repeat (first | exact (Kd.R_reads' HO232.out).2.2 | (with_reducible refine Kd.C_alloc ?_ _) | (with_reducible refine Kd.C_drewN ?_ _) | (with_reducible refine Kd.C_drew ?_))); (case side4 => exact (Kd.R_reads' HO232.out).2.1); rintro e w' ⟨rfl, ⟨nd, rfl⟩⟩))
               go_meet
               case rel => exact ⟨_, (!t236), (by first | rfl | (simp; done) | (simp [*]; done)), H', ⟨by have := HK1.out; first | omega | exact Nat.le_refl _⟩, ⟨by (with_reducible repeat (first | apply Kd.R_alloc | apply Kd.R_drewN | apply Kd.R_drew)); exact HO_11.out⟩, ⟨by repeat (first | (with_reducible first | exact HB.out | apply below_alloc | apply pw_below_drewN | apply below_drew1) | exact HB.out)⟩⟩
              ·rw [if_neg c36] at H
               have c36b0 : (t223.toList == t229.toList) = false := beq_eq_false_iff_ne.mpr c36
               have c36b1 : (t223.toList != t229.toList) = true := bne_iff_ne.mpr c36
               have H' := Aside0.mk H
               clear H
               go_wp2
               go_meet
               case rel => exact ⟨_, (true), (by first | rfl | (simp; done) | (simp [*]; done)), H', ⟨by have := HK1.out; first | omega | exact Nat.le_refl _⟩, ⟨by (with_reducible repeat (first | apply Kd.R_alloc | apply Kd.R_drewN | apply Kd.R_drew)); exact HO_11.out⟩, ⟨by repeat (first | (with_reducible first | exact HB.out | apply below_alloc | apply pw_below_drewN | apply below_drew1) | exact HB.out)⟩⟩
             ·rw [if_neg c35] at H
              have c35b0 : (t224 == t230) = false := beq_eq_false_iff_ne.mpr c35
              have c35b1 : (t224 != t230) = true := bne_iff_ne.mpr c35
              (first | rw [c35b0] | (simp only [i64_w, i32_w]; rw [c35b0]) | skip)
              have H' := Aside0.mk H
              clear H
              go_wp2
              go_meet
              case rel => exact ⟨_, (true), (by first | rfl | (simp; done) | (simp [*]; done)), H', ⟨by have := HK1.out; first | omega | exact Nat.le_refl _⟩, ⟨by (with_reducible repeat (first | apply Kd.R_alloc | apply Kd.R_drewN | apply Kd.R_drew)); exact HO_11.out⟩, ⟨by repeat (first | (with_reducible first | exact HB.out | apply below_alloc | apply pw_below_drewN | apply below_drew1) | exact HB.out)⟩⟩
            case rest =>
             clear HC31
             try clear c1
             try clear p1
             try clear q1
             try clear hx1
             try clear c2
             try clear p2
             try clear q2
             try clear hx2
             try clear hcv2
             try clear c3
             try clear c6
             try clear c6b0
             try clear c6b1
             try clear c6b2
             try clear p6
             try clear c7
             try clear c7b0
             try clear c7b1
             try clear c9
             try clear c9b0
             try clear c10
             try clear c10b0
             try clear c11
             try clear p11
             try clear q11
             try clear hx11
             try clear hf11
             try clear c12
             try clear c12b0
             try clear c12b1
             try clear c12b2
             try clear c14
             try clear c14b0
             try clear c14b1
             try clear c15
             try clear c15b0
             try clear c15b1
             try clear p22
             try clear q22
             try clear hx22
             try clear hcv23
             try clear c27
             try clear c27b0
             try clear c28
             try clear c28b0
             try clear c35
             try clear c35b0
             try clear c35b1
             try clear c36
             try clear c36b0
             try clear c36b1
             try clear hx11_0
             try clear hx221_0
             try clear hx227_0
             try clear p1
             try clear p11
             try clear p2
             try clear p221
             try clear p227
             try clear p6
             try clear q1
             try clear q11
             try clear q221
             try clear q227
             obtain ⟨kq, x84_30, rfl, HA, HJ30, HO_11, HB⟩ := hcut
             cases kq with
             | zero => exact absurd HA.out (by simp [L5_LexScans.j1])
             | succ kj30 =>
              have H := HA.out
              clear HA
              simp only [L5_LexScans.j1] at H
              by_cases c43 : x84_30 = true
              ·subst c43
               have H1 : (some false) = some r := by rw [if_pos rfl] at H; exact H
               clear H
               have H := H1
               clear H1
               obtain rfl := Option.some.inj H
               go_wp2
               go_ret
               exact ⟨by first | rfl | (simp [errW_none, errW_some] <;> rfl) | (simp [*, errW_none, errW_some] <;> rfl), by repeat (first | (with_reducible first | exact HB.out | apply below_alloc | apply pw_below_drewN | apply below_drew1) | exact HB.out)⟩
              ·replace c43 := Bool.eq_false_iff.mpr c43
               subst c43
               have H1 : (L5_LexScans.l0 kj30 y217 (wrap64 (x12_1 + 1))) = some r := by rw [if_neg (show ¬ (false = true) by decide)] at H; exact H
               clear H
               have H := H1
               clear H1
               have H' := Aside0.mk H
               clear H
               go_wp2
               go_roundg kj30
               case measure => have := HK1.out; have := HJ30.out; omega
               case rel => exact ⟨(wrap64 (x12_1 + 1)), (by first | rfl | (simp; done) | (simp [*]; done)), H', ⟨by have := HK1.out; have := HJ30.out; omega⟩, ⟨by (with_reducible repeat (first | apply Kd.R_alloc | apply Kd.R_drewN | apply Kd.R_drew)); exact HO_11.out⟩, ⟨by repeat (first | (with_reducible first | exact HB.out | apply below_alloc | apply pw_below_drewN | apply below_drew1) | exact HB.out)⟩⟩
           ·rw [if_neg c28] at H
            exact absurd H (by simp)
          ·rw [if_neg c27] at H
           have c27b0 : decide (x12_1 < (y217.length : Int)) = false := decide_eq_false c27
           clear c27
           replace H := Option.bind_eq_some_iff.mp H
           obtain ⟨t220, A440, H⟩ := H
           replace H : (some t220) = some r := H
           have A44 := Aside0.mk A440
           clear A440
           obtain rfl := Option.some.inj H
           obtain ⟨Ao45, co45, eo45⟩ := Kd.R_slice HO_11.out
           subst eo45
           go_wp2_with (first | ((with_reducible refine gate_callee (f := 15) rfl ?_); refine goesL_ (some 85) rfl rfl Tryd.func15 (by kernel_rfl) rfl #[] rfl (by (try simp only [List.map_toArray, List.map_cons, List.map_nil]); first | done | rfl | (simp only [List.length_drop, List.length_take]; rfl)) ?_; (with_reducible refine (L5_lives.calls k1  t220 _ ?side1 A44.out).mono ?_); (case side1 => exact Glob.below HG.out (by repeat (first | (with_reducible first | exact HB.out | apply below_alloc | apply pw_below_drewN | apply below_drew1) | exact HB.out))); rintro e w46 ⟨rfl, hb⟩; refine ⟨_, rfl, ?_⟩; have n0_ := Aside0.mk (Kd.R_below (by (with_reducible repeat (first | apply Kd.R_alloc | apply Kd.R_drewN | apply Kd.R_drew)); exact HO_11.out) hb); have n1_ := Aside0.mk (below_step (by repeat (first | (with_reducible first | exact HB.out | apply below_alloc | apply pw_below_drewN | apply below_drew1) | exact HB.out)) hb); clear HO_11; clear HB; have HO_11 := n0_; have HB := n1_; clear n0_ n1_; (try clear hb); (try clear hb2); (try clear hk); (try clear hi)))
           go_ret
           exact ⟨by first | rfl | (simp [errW_none, errW_some] <;> rfl) | (simp [*, errW_none, errW_some] <;> rfl), by repeat (first | (with_reducible first | exact HB.out | apply below_alloc | apply pw_below_drewN | apply below_drew1) | exact HB.out)⟩
       ·rw [if_neg c15] at H
        exact absurd H (by simp)
      ·rw [if_neg c14] at H
       exact absurd H (by simp)
     ·rw [if_neg c12] at H
      exact absurd H (by simp)
    ·rw [if_neg c10] at H
     exact absurd H (by simp)
   ·rw [if_neg c9] at H
    exact absurd H (by simp)
  ·rw [if_neg c7] at H
   exact absurd H (by simp)
 ·rw [if_neg c6] at H
  exact absurd H (by simp)

/-- THE ONE PURE STATEMENT of L5_LexScans: yours. -/
def L5_LexScans.Pure : Prop := ∀ (l0 : List Int) (a1 : ByteArray) (a2 : Int) (a3 : Int), l0.length ≤ maxLen → l0.length * 8 ≤ 140737488351232 → (∀ x ∈ l0, (Lit.int .i64 x).wf = true) → a1.size ≤ 140737488351232 → (Lit.int .i64 a2).wf = true → (Lit.int .u8 a3).wf = true → ∃ k, L5_LexScans.f k l0 a1 a2 a3 = some true
theorem L5_LexScans.walk (P : L5_LexScans.Pure) (a0 : Option Addr) (len0 cap0 : Nat) (z0 : List Int) (a1 : ByteArray) (a2 : Int) (a3 : Int) (w : World) (w0 : (a0 = none ∧ len0 = 0 ∧ cap0 = 0 ∧ z0 = []) ∨ ∃ x, a0 = some x ∧ len0 ≤ cap0 ∧ cap0 ≤ maxLen ∧ z0.length = cap0 ∧ (∀ i, i < z0.length → w.cell? (x.add i) = some (.int .i64 (z0.getD i 0))) ∧ ∀ n ∈ z0, (Lit.int .i64 n).wf = true) (y0 : len0 * 8 ≤ 140737488351232) (w1 : a1.size ≤ 140737488351232) (w2 : (Lit.int .i64 a2).wf = true) (w3 : (Lit.int .u8 a3).wf = true) (hG : Glob w) :
  Calls Tryd.prog 3 #[.slice a0 len0 cap0, .string a1, .int .i64 a2, .int .u8 a3] w fun e w' => e = .returned (.bool true) ∧ Below w.heap.size w w' := by
 obtain ⟨l0, rfl, hr0, hm0, hw0, hc0⟩ := ReadsInt.ofRowC w0
 obtain ⟨k, h⟩ := P l0 a1 a2 a3 hm0 y0 hw0 w1 w2 w3
 refine (L5_LexScans.calls k _ _ l0 a1 a2 a3 true w (Kd.C_of_reads (d := (0 : Int)) (h1 := fun _ => rfl) hr0) hc0 hG h).mono ?_
 rintro e w' ⟨rfl, hd⟩
 exact ⟨rfl, hd⟩

end Go.Proofs.YteafkdcppbemdaaDoor.Q
