import Derived.Test.YteafkdcppbemdaaDoorQ0
import Derived.Test.YteafkdcppbemdaaDoorQ7

import Derived.Lib.Hide
import Derived.Laws.EntriesVeiled
namespace Go.Proofs.YteafkdcppbemdaaDoor.Q
open Go.RowKit Go.Proofs.YteafkdcppbemdaaDoorW.PrintWords Go.Proofs.YteafkdcppbemdaaDoorW.PrintLast Go.Proofs.YteafkdcppbemdaaDoorW.PrintMore
set_option linter.unusedVariables false
set_option linter.unusedSimpArgs false

/-! ### What the listed variables hold -/
def bs (l : List UInt8) : ByteArray := ⟨l.toArray⟩
def signsL : List (List UInt8) := [[61, 61], [45, 62], [40], [41], [123], [125], [91], [93], [44], [58], [46], [61], [43], [45], [42], [47], [37], [60]]
def keywordsL : List (List UInt8) := [[109, 111, 100, 117, 108, 101], [117, 115, 101], [114, 101, 99], [99, 97, 115, 101], [102, 117, 110], [111, 110], [116, 101, 115, 116], [99, 111, 110, 118], [116, 114, 117, 101], [102, 97, 108, 115, 101], [110, 111, 116], [97, 110, 100], [111, 114], [105, 102], [116, 104, 101, 110], [101, 108, 115, 101], [108, 101, 116], [105, 110], [109, 97, 116, 99, 104], [102, 111, 108, 100], [111, 118, 101, 114], [100, 111], [108, 101, 110], [106, 111, 105, 110], [76, 105, 115, 116], [73, 110, 116], [66, 111, 111, 108]]
def strCells (l : List (List UInt8)) : Array Value := (l.map fun s => Value.string (bs s)).toArray
def kindCells : Array Value := #[.func (.func 38) #[] #[], .func (.func 67) #[] #[], .func (.func 68) #[] #[], .func (.func 68) #[] #[]]
def BlockIs (w : World) (g : Nat) (cs : Array Value) : Prop := ∃ t fr, w.heap[g]? = some (.cells cs t fr)
theorem BlockIs.below {w w' : World} {g : Nat} {cs : Array Value} (h : BlockIs w g cs) (hb : Below w.heap.size w w') : BlockIs w' g cs := by
  obtain ⟨t, fr, h⟩ := h
  exact ⟨t, fr, (hb.block g (Array.getElem?_eq_some_iff.1 h).1).trans h⟩
structure Glob (w : World) : Prop where
  keywords : BlockIs w 0 (strCells keywordsL)
  kinds : BlockIs w 1 kindCells
  signs : BlockIs w 2 (strCells signsL)
theorem Glob.below {w w' : World} (h : Glob w) (hb : Below w.heap.size w w') : Glob w' := ⟨h.1.below hb, h.2.below hb, h.3.below hb⟩
theorem Glob.drewN {w : World} {n : Nat} (h : Glob w) : Glob (w.drewN n) := ⟨h.1, h.2, h.3⟩
theorem Glob.drew {w : World} (h : Glob w) : Glob w.drew := ⟨h.1, h.2, h.3⟩

/-! ### letter, digit, either -/
def isLetter (c : Int) : Bool := (decide (97 ≤ c) && decide (c ≤ 122)) || (decide (65 ≤ c) && decide (c ≤ 90))
def isDigit (c : Int) : Bool := decide (48 ≤ c) && decide (c ≤ 57)
def isEither (c : Int) : Bool := isLetter c || isDigit c
theorem letter_any (c : Int) (w : World) : Calls Tryd.prog 38 #[.int .u8 c] w fun e w' => e = .returned (.bool (isLetter c)) ∧ w' = w := by
  by_cases h1 : 97 ≤ c <;> by_cases h2 : c ≤ 122 <;> by_cases h3 : 65 ≤ c <;> by_cases h4 : c ≤ 90
  all_goals first
    | omega
    | (go_enter Tryd.func38, Tryd.ntmps38
       go_wp2
       go_ret
       exact ⟨by simp [isLetter, h1, h2, h3, h4], rfl⟩)
theorem digit_any (c : Int) (w : World) : Calls Tryd.prog 68 #[.int .u8 c] w fun e w' => e = .returned (.bool (isDigit c)) ∧ w' = w := by
  by_cases h1 : 48 ≤ c <;> by_cases h2 : c ≤ 57
  all_goals
    go_enter Tryd.func68, Tryd.ntmps68
    go_wp2
    go_ret
    exact ⟨by simp [isDigit, h1, h2], rfl⟩
theorem either_any (c : Int) (w : World) : Calls Tryd.prog 67 #[.int .u8 c] w fun e w' => e = .returned (.bool (isEither c)) ∧ w' = w := by
  have hL := (letter_any c w).mono (R' := fun e w' => e = .returned (.bool (isLetter c)) ∧ w = w') (fun e w' h => ⟨h.1, h.2.symm⟩)
  have hD := (digit_any c w).mono (R' := fun e w' => e = .returned (.bool (isDigit c)) ∧ w = w') (fun e w' h => ⟨h.1, h.2.symm⟩)
  by_cases h : isLetter c = true
  · go_enter Tryd.func67, Tryd.ntmps67
    go_wp2_with (first | (go_at_call 38; refine hL.mono ?_; rintro e w' ⟨rfl, rfl⟩) | (go_at_call 68; refine hD.mono ?_; rintro e w' ⟨rfl, rfl⟩))
    go_ret
    exact ⟨by simp [isEither, h], rfl⟩
  · have h' : isLetter c = false := by simpa using h
    go_enter Tryd.func67, Tryd.ntmps67
    go_wp2_with (first | (go_at_call 38; refine hL.mono ?_; rintro e w' ⟨rfl, rfl⟩) | (go_at_call 68; refine hD.mono ?_; rintro e w' ⟨rfl, rfl⟩))
    go_ret
    exact ⟨by simp [isEither, h'], rfl⟩
theorem quiet_more {P : Program} {f : FuncId} {args : Array Value} {w : World} {m n : Nat} {v : Value} (h : Calls P f args (w.drewN (m + n)) fun e w' => e = .returned v ∧ w' = w.drewN (m + n)) :
    Calls P f args (w.drewN (m + n)) fun e w'' => e = .returned v ∧ ∃ k, w'' = w.drewN (m + k) := h.mono fun _ _ ⟨he, hm⟩ => ⟨he, n, hm⟩

/-! ### token: a word, a number -/
def wordLen (n : Nat) : Int := if n > 16 then 0 else n
theorem wordLen_yes {n : Nat} (h : 16 < n) : wordLen n = 0 := if_pos h
theorem wordLen_no {n : Nat} (h : ¬ 16 < n) : wordLen n = n := if_neg h
theorem ret_bool {a b : Bool} (h : a = b) : Ending.returned (.bool a) = .returned (.bool b) := by rw [h]
theorem ret_int {k : IntKind} {a b : Int} (h : a = b) : Ending.returned (.int k a) = .returned (.int k b) := by rw [h]
def span (p : Int → Bool) (l : List UInt8) : Nat := (l.takeWhile fun c => p c.toNat).length
theorem span_nil (p : Int → Bool) : span p [] = 0 := rfl
theorem span_cons_true (p : Int → Bool) (c : UInt8) (l : List UInt8) (h : p c.toNat = true) : span p (c :: l) = span p l + 1 := by simp [span, List.takeWhile_cons, h]
theorem span_cons_false (p : Int → Bool) (c : UInt8) (l : List UInt8) (h : p c.toNat = false) : span p (c :: l) = 0 := by simp [span, List.takeWhile_cons, h]
theorem drop_at (s : ByteArray) (n : Nat) (h : n < s.size) : s.data.toList.drop n = s[n] :: s.data.toList.drop (n + 1) := by
  rw [List.drop_eq_getElem_cons (by simpa using h)]; rfl
theorem drop_past (s : ByteArray) (n : Nat) (h : s.size ≤ n) : s.data.toList.drop n = [] := List.drop_of_length_le (by simpa using h)

set_option maxHeartbeats 1000000 in
set_option maxRecDepth 100000 in
theorem token_letter (a0 : ByteArray) (w : World) (hG : Glob w) (hs : 0 < a0.size) (hl : a0.size ≤ 9223372036854775807) (hc : isLetter (a0[0].toNat : Int) = true) :
    Calls Tryd.prog 31 #[.string a0] w fun e w' => e = .returned (.int .i64 (wordLen (1 + span isEither (a0.data.toList.drop 1)))) ∧ Below w.heap.size w w' := by
  obtain ⟨t, fr, h1⟩ := hG.kinds
  have i0 : ∀ w, (Instr.index 73 (.agg kindCells) (.int .i64 0)).run Tryd.prog w = .ok (.agg #[.func (.func 38) #[] #[], .func (.func 67) #[] #[]]) w := fun _ => by kernel_rfl
  have i1 : ∀ w, (Instr.index 73 (.agg kindCells) (.int .i64 1)).run Tryd.prog w = .ok (.agg #[.func (.func 68) #[] #[], .func (.func 68) #[] #[]]) w := fun _ => by kernel_rfl
  go_enter Tryd.func31, Tryd.ntmps31
  go_wp2_with (refine wpList_load_row rfl 73 _ rfl 1 rfl t _ fr _ h1 Tryd.underlying73 rfl (by kernel_rfl) ?_)
  refine wp_loop_rounds 1 ?_
  rw [rounds_succ]
  go_wp2
  go_quiet ((go_at_call 38; exact Calls.quiet_of_same (letter_any _ _)))
  go_wp2
  go_loopw [5] (fun v wr => ∃ k : Nat, 1 ≤ k ∧ k ≤ a0.size ∧ v = .int .i64 k ∧ k + span isEither (a0.data.toList.drop k) = 1 + span isEither (a0.data.toList.drop 1) ∧ ∃ m, wr = (w.alloc (Obj.cells #[Value.func (Fn.func 38) #[] #[], Value.func (Fn.func 67) #[] #[]] 72)).drewN m) (fun v _ => a0.size - (intOf v).toNat)
  case atStart => exact ⟨1, by omega, by omega, rfl, rfl, _, rfl⟩
  case round =>
    obtain ⟨k, hk1, hk2, rfl, hsp, m, rfl⟩ := hrel
    have HS := Lib.hid hsp
    clear hsp
    by_cases hlt : k < a0.size
    · have hdr := drop_at a0 k hlt
      have hlt' : (k : Int) < (a0.size : Int) := by omega
      cases he : isEither (a0[k].toNat : Int) with
      | true =>
        have hsc := span_cons_true isEither a0[k] (a0.data.toList.drop (k + 1)) he
        rw [← hdr] at hsc
        have HC := Lib.hid hsc
        clear hsc hdr
        go_wp2
        go_quiet ((go_at_call 67; exact quiet_more (either_any _ _)))
        go_wp2
        go_roundw
        case rel => exact ⟨k + 1, by omega, by omega, by go_num, by have h1 := HS.out; have h2 := HC.out; omega, _, rfl⟩
        case measure => simp [intOf]; omega
      | false =>
        have hsc := span_cons_false isEither a0[k] (a0.data.toList.drop (k + 1)) he
        rw [← hdr] at hsc
        have HC : Hid (k = 1 + span isEither (a0.data.toList.drop 1)) := Lib.hid (by have h1 := HS.out; omega)
        clear hsc hdr HS
        go_wp2
        go_quiet ((go_at_call 67; exact quiet_more (either_any _ _)))
        go_wp2
        all_goals
          go_ret
          exact ⟨ret_int (by rw [← HC.out]; first | exact (wordLen_yes (by omega)).symm | exact (wordLen_no (by omega)).symm), pw_below_drewN ((Below.refl _ _).alloc (Nat.le_refl _) _) _⟩
    · have hge : a0.size ≤ k := by omega
      have hd := drop_past a0 k hge
      have hlt' : decide ((k : Int) < (a0.size : Int)) = false := by simp; omega
      have HC : Hid (k = 1 + span isEither (a0.data.toList.drop 1)) := Lib.hid (by have h1 := HS.out; rw [hd, span_nil] at h1; omega)
      clear hd HS
      go_wp2
      go_quiet (fail)
      go_wp2
      all_goals
        go_ret
        exact ⟨ret_int (by rw [← HC.out]; first | exact (wordLen_yes (by omega)).symm | exact (wordLen_no (by omega)).symm), pw_below_drewN ((Below.refl _ _).alloc (Nat.le_refl _) _) _⟩

set_option maxHeartbeats 1000000 in
set_option maxRecDepth 100000 in
theorem token_digit (a0 : ByteArray) (w : World) (hG : Glob w) (hs : 0 < a0.size) (hl : a0.size ≤ 9223372036854775807) (hc0 : isLetter (a0[0].toNat : Int) = false) (hc : isDigit (a0[0].toNat : Int) = true) :
    Calls Tryd.prog 31 #[.string a0] w fun e w' => e = .returned (.int .i64 (wordLen (1 + span isDigit (a0.data.toList.drop 1)))) ∧ Below w.heap.size w w' := by
  obtain ⟨t, fr, h1⟩ := hG.kinds
  have i0 : ∀ w, (Instr.index 73 (.agg kindCells) (.int .i64 0)).run Tryd.prog w = .ok (.agg #[.func (.func 38) #[] #[], .func (.func 67) #[] #[]]) w := fun _ => by kernel_rfl
  have i1 : ∀ w, (Instr.index 73 (.agg kindCells) (.int .i64 1)).run Tryd.prog w = .ok (.agg #[.func (.func 68) #[] #[], .func (.func 68) #[] #[]]) w := fun _ => by kernel_rfl
  go_enter Tryd.func31, Tryd.ntmps31
  go_wp2_with (refine wpList_load_row rfl 73 _ rfl 1 rfl t _ fr _ h1 Tryd.underlying73 rfl (by kernel_rfl) ?_)
  refine wp_loop_rounds 2 ?_
  rw [rounds_succ]
  go_wp2
  go_quiet ((go_at_call 38; exact Calls.quiet_of_same (letter_any _ _)))
  revert nq
  intro n1
  go_wp2
  rw [rounds_succ]
  go_wp2
  go_quiet ((go_at_call 68; exact Calls.quiet_of_same (digit_any _ _)))
  go_wp2
  go_loopw [5] (fun v wr => ∃ k : Nat, 1 ≤ k ∧ k ≤ a0.size ∧ v = .int .i64 k ∧ k + span isDigit (a0.data.toList.drop k) = 1 + span isDigit (a0.data.toList.drop 1) ∧ ∃ m, wr = (((w.alloc (Obj.cells #[Value.func (Fn.func 38) #[] #[], Value.func (Fn.func 67) #[] #[]] 72)).drewN n1).alloc (Obj.cells #[Value.func (Fn.func 68) #[] #[], Value.func (Fn.func 68) #[] #[]] 72)).drewN m) (fun v _ => a0.size - (intOf v).toNat)
  case atStart => exact ⟨1, by omega, by omega, rfl, rfl, _, rfl⟩
  case round =>
    obtain ⟨k, hk1, hk2, rfl, hsp, m, rfl⟩ := hrel
    have HS := Lib.hid hsp
    clear hsp
    by_cases hlt : k < a0.size
    · have hdr := drop_at a0 k hlt
      have hlt' : (k : Int) < (a0.size : Int) := by omega
      cases he : isDigit (a0[k].toNat : Int) with
      | true =>
        have hsc := span_cons_true isDigit a0[k] (a0.data.toList.drop (k + 1)) he
        rw [← hdr] at hsc
        have HC := Lib.hid hsc
        clear hsc hdr
        go_wp2
        go_quiet ((go_at_call 68; exact quiet_more (digit_any _ _)))
        go_wp2
        go_roundw
        case rel => exact ⟨k + 1, by omega, by omega, by go_num, by have h1 := HS.out; have h2 := HC.out; omega, _, rfl⟩
        case measure => simp [intOf]; omega
      | false =>
        have hsc := span_cons_false isDigit a0[k] (a0.data.toList.drop (k + 1)) he
        rw [← hdr] at hsc
        have HC : Hid (k = 1 + span isDigit (a0.data.toList.drop 1)) := Lib.hid (by have h1 := HS.out; omega)
        clear hsc hdr HS
        go_wp2
        go_quiet ((go_at_call 68; exact quiet_more (digit_any _ _)))
        go_wp2
        all_goals
          go_ret
          exact ⟨ret_int (by rw [← HC.out]; first | exact (wordLen_yes (by omega)).symm | exact (wordLen_no (by omega)).symm), pw_below_drewN ((pw_below_drewN ((Below.refl _ _).alloc (Nat.le_refl _) _) _).alloc (by simp [World.drewN]) _) _⟩
    · have hge : a0.size ≤ k := by omega
      have hd := drop_past a0 k hge
      have hlt' : decide ((k : Int) < (a0.size : Int)) = false := by simp; omega
      have HC : Hid (k = 1 + span isDigit (a0.data.toList.drop 1)) := Lib.hid (by have h1 := HS.out; rw [hd, span_nil] at h1; omega)
      clear hd HS
      go_wp2
      go_quiet (fail)
      go_wp2
      all_goals
        go_ret
        exact ⟨ret_int (by rw [← HC.out]; first | exact (wordLen_yes (by omega)).symm | exact (wordLen_no (by omega)).symm), pw_below_drewN ((pw_below_drewN ((Below.refl _ _).alloc (Nat.le_refl _) _) _).alloc (by simp [World.drewN]) _) _⟩

/-! ### token: a sign -/
def signAt (k : Nat) : List UInt8 := signsL.getD k []
def hasPre (x l : List UInt8) : Bool := x.isPrefixOf l
def findSign : List (List UInt8) → List UInt8 → Int
  | [], _ => 0
  | x :: r, l => if hasPre x l then x.length else findSign r l
theorem findSign_yes {x : List UInt8} {r : List (List UInt8)} {l : List UInt8} (h : hasPre x l = true) : findSign (x :: r) l = x.length := if_pos h
theorem findSign_no {x : List UInt8} {r : List (List UInt8)} {l : List UInt8} (h : hasPre x l = false) : findSign (x :: r) l = findSign r l := if_neg (by simp [h])
theorem size_mk (l : List UInt8) : (bs l).size = l.length := by simp [bs, ByteArray.size]
theorem index_signs (k : Nat) (h : k < 18) : ∀ w, (Instr.index 74 (.agg (strCells signsL)) (.int .i64 (k : Int))).run Tryd.prog w = .ok (.string (bs (signAt k))) w := by
  match k, h with
  | 0, _ => exact fun w => by kernel_rfl
  | 1, _ => exact fun w => by kernel_rfl
  | 2, _ => exact fun w => by kernel_rfl
  | 3, _ => exact fun w => by kernel_rfl
  | 4, _ => exact fun w => by kernel_rfl
  | 5, _ => exact fun w => by kernel_rfl
  | 6, _ => exact fun w => by kernel_rfl
  | 7, _ => exact fun w => by kernel_rfl
  | 8, _ => exact fun w => by kernel_rfl
  | 9, _ => exact fun w => by kernel_rfl
  | 10, _ => exact fun w => by kernel_rfl
  | 11, _ => exact fun w => by kernel_rfl
  | 12, _ => exact fun w => by kernel_rfl
  | 13, _ => exact fun w => by kernel_rfl
  | 14, _ => exact fun w => by kernel_rfl
  | 15, _ => exact fun w => by kernel_rfl
  | 16, _ => exact fun w => by kernel_rfl
  | 17, _ => exact fun w => by kernel_rfl
  | n + 18, h => omega
theorem drop_sign (k : Nat) (h : k < 18) : signsL.drop k = signAt k :: signsL.drop (k + 1) := by
  match k, h with
  | 0, _ => rfl
  | 1, _ => rfl
  | 2, _ => rfl
  | 3, _ => rfl
  | 4, _ => rfl
  | 5, _ => rfl
  | 6, _ => rfl
  | 7, _ => rfl
  | 8, _ => rfl
  | 9, _ => rfl
  | 10, _ => rfl
  | 11, _ => rfl
  | 12, _ => rfl
  | 13, _ => rfl
  | 14, _ => rfl
  | 15, _ => rfl
  | 16, _ => rfl
  | 17, _ => rfl
  | n + 18, h => omega
theorem hasPre_long {x l : List UInt8} (h : l.length < x.length) : hasPre x l = false := by
  cases e : hasPre x l with
  | false => rfl
  | true => have := (List.isPrefixOf_iff_prefix.1 e).length_le; omega
theorem take_eq (s : ByteArray) (x : List UInt8) (h : x.length ≤ s.size) : ((s.extract 0 x.length).toList == (bs x).toList) = hasPre x s.data.toList := by
  have h1 : (s.extract 0 x.length).toList = s.data.toList.take x.length := by
    rw [ByteArray.toList_eq]; simp [ByteArray.data_extract]
  have h2 : (bs x).toList = x := by rw [ByteArray.toList_eq]; simp [bs]
  rw [h1, h2, Bool.eq_iff_iff, beq_iff_eq, hasPre, List.isPrefixOf_iff_prefix, List.prefix_iff_eq_take]
  exact eq_comm
set_option maxHeartbeats 1000000 in
theorem hasPrefix_any (s : ByteArray) (x : List UInt8) (w : World) (b : Bool) (hb : hasPre x s.data.toList = b) : Calls Tryd.prog 42 #[.string s, .string (bs x)] w fun e w' => e = .returned (.bool b) ∧ Drawn0 w w' := by
  by_cases hl : x.length ≤ s.size
  · have ht := take_eq s x hl
    rw [hb] at ht
    have hz := size_mk x
    have HT := Lib.hid ht
    have hd : decide (((bs x).size : Int) ≤ (s.size : Int)) = true := by rw [hz]; simp; omega
    go_enter Tryd.func42, Tryd.ntmps42
    go_wp2
    go_ret
    exact ⟨rfl, Drawn0.refl _⟩
  · have hz := size_mk x
    have hd : decide (((bs x).size : Int) ≤ (s.size : Int)) = false := by rw [hz]; simp; omega
    have hb' : b = false := by rw [← hb]; exact hasPre_long (by rw [Array.length_toList]; show s.size < _; omega)
    go_enter Tryd.func42, Tryd.ntmps42
    go_wp2
    go_ret
    exact ⟨ret_bool hb'.symm, Drawn0.refl _⟩
set_option maxHeartbeats 1000000 in
set_option maxRecDepth 100000 in
theorem token_sign (a0 : ByteArray) (w : World) (hG : Glob w) (hs : 0 < a0.size) (hl : a0.size ≤ 9223372036854775807) (hc0 : isLetter (a0[0].toNat : Int) = false) (hc : isDigit (a0[0].toNat : Int) = false) :
    Calls Tryd.prog 31 #[.string a0] w fun e w' => e = .returned (.int .i64 (findSign signsL a0.data.toList)) ∧ Below w.heap.size w w' := by
  obtain ⟨t, fr, h1⟩ := hG.kinds
  obtain ⟨t2, fr2, h2⟩ := hG.signs
  have h2' : ∀ n1 n, ((((w.alloc (Obj.cells #[Value.func (Fn.func 38) #[] #[], Value.func (Fn.func 67) #[] #[]] 72)).drewN n1).alloc (Obj.cells #[Value.func (Fn.func 68) #[] #[], Value.func (Fn.func 68) #[] #[]] 72)).drewN n).heap[2]? = some (.cells (strCells signsL) t2 fr2) := fun n1 n => ((pw_below_drewN ((pw_below_drewN ((Below.refl w.heap.size w).alloc (Nat.le_refl _) (Obj.cells #[Value.func (Fn.func 38) #[] #[], Value.func (Fn.func 67) #[] #[]] 72)) n1).alloc (by simp [World.drewN]) (Obj.cells #[Value.func (Fn.func 68) #[] #[], Value.func (Fn.func 68) #[] #[]] 72)) n).block 2 (Array.getElem?_eq_some_iff.1 h2).1).trans h2
  have i0 : ∀ w, (Instr.index 73 (.agg kindCells) (.int .i64 0)).run Tryd.prog w = .ok (.agg #[.func (.func 38) #[] #[], .func (.func 67) #[] #[]]) w := fun _ => by kernel_rfl
  have i1 : ∀ w, (Instr.index 73 (.agg kindCells) (.int .i64 1)).run Tryd.prog w = .ok (.agg #[.func (.func 68) #[] #[], .func (.func 68) #[] #[]]) w := fun _ => by kernel_rfl
  go_enter Tryd.func31, Tryd.ntmps31
  go_wp2_with (refine wpList_load_row rfl 73 _ rfl 1 rfl t _ fr _ h1 Tryd.underlying73 rfl (by kernel_rfl) ?_)
  refine wp_loop_rounds 3 ?_
  rw [rounds_succ]
  go_wp2
  go_quiet ((go_at_call 38; exact Calls.quiet_of_same (letter_any _ _)))
  revert nq
  intro n1
  go_wp2
  rw [rounds_succ]
  go_wp2
  go_quiet ((go_at_call 68; exact Calls.quiet_of_same (digit_any _ _)))
  go_wp2
  rw [rounds_succ]
  go_wp2_with (refine wpList_load_row rfl 74 _ rfl 2 rfl t2 _ fr2 _ (h2' _ _) Tryd.underlying74 rfl (by kernel_rfl) ?_)
  go_loopw [37] (fun v wr => ∃ k : Nat, k ≤ 18 ∧ v = .int .i64 k ∧ Hid (findSign (signsL.drop k) a0.data.toList = findSign signsL a0.data.toList) ∧ ∃ m, wr = (((w.alloc (Obj.cells #[Value.func (Fn.func 38) #[] #[], Value.func (Fn.func 67) #[] #[]] 72)).drewN n1).alloc (Obj.cells #[Value.func (Fn.func 68) #[] #[], Value.func (Fn.func 68) #[] #[]] 72)).drewN m) (fun v _ => 18 - (intOf v).toNat)
  case atStart => exact ⟨0, by omega, rfl, Lib.hid rfl, _, rfl⟩
  case round =>
    obtain ⟨k, hk, rfl, HS, m, rfl⟩ := hrel
    by_cases hlt : k < 18
    · have hlt' : (k : Int) < 18 := by omega
      have hix := index_signs k hlt
      have HX := Lib.hid (drop_sign k hlt)
      cases hp : hasPre (signAt k) a0.data.toList with
      | true =>
        have hcall := fun w => (hasPrefix_any a0 (signAt k) w true hp)
        go_wp2_with (go_at_call 42; refine (hcall _).mono ?_; rintro e w' ⟨rfl, ⟨nd, rfl⟩⟩)
        go_ret
        exact ⟨ret_int (by rw [← HS.out, HX.out, findSign_yes hp, size_mk]), pw_below_drewN ((pw_below_drewN ((Below.refl _ _).alloc (Nat.le_refl _) _) _).alloc (by simp [World.drewN]) _) _⟩
      | false =>
        have hcall := fun w => (hasPrefix_any a0 (signAt k) w false hp)
        go_wp2_with (go_at_call 42; refine (hcall _).mono ?_; rintro e w' ⟨rfl, ⟨nd, rfl⟩⟩)
        go_roundw
        case rel => exact ⟨k + 1, by omega, by go_num, Lib.hid (by rw [← HS.out, HX.out, findSign_no hp]), _, rfl⟩
        case measure => simp [intOf]; omega
    · obtain rfl : k = 18 := by omega
      go_wp2
      go_ret
      exact ⟨ret_int (by rw [← HS.out]; rfl), pw_below_drewN ((pw_below_drewN ((Below.refl _ _).alloc (Nat.le_refl _) _) _).alloc (by simp [World.drewN]) _) _⟩

/-- What token returns. -/
def tokZ (l : List UInt8) : Int :=
  match l with
  | [] => 0
  | c :: r => if isLetter c.toNat = true then wordLen (1 + span isEither r) else if isDigit c.toNat = true then wordLen (1 + span isDigit r) else findSign signsL l
def lex_token.f (a0 : ByteArray) : Option Int := if 0 < a0.size ∧ a0.size ≤ 9223372036854775807 then some (tokZ a0.data.toList) else none
theorem lex_token.calls (a0 : ByteArray) (r : Int) (w : World) (hG : Glob w) (h : lex_token.f a0 = some r) :
    Calls Tryd.prog 31 #[.string a0] w fun e w' => e = .returned (.int .i64 r) ∧ Below w.heap.size w w' := by
  unfold lex_token.f at h
  split at h
  · rename_i hs
    obtain rfl := Option.some.inj h
    have hd := drop_at a0 0 hs.1
    rw [List.drop_zero] at hd
    rw [hd, tokZ]
    by_cases h1 : isLetter (a0[0].toNat : Int) = true
    · rw [if_pos h1]; exact token_letter a0 w hG hs.1 hs.2 h1
    · rw [if_neg h1]
      have h1' : isLetter (a0[0].toNat : Int) = false := by simpa using h1
      by_cases h2 : isDigit (a0[0].toNat : Int) = true
      · rw [if_pos h2]; exact token_digit a0 w hG hs.1 hs.2 h1' h2
      · rw [if_neg h2, ← hd]; exact token_sign a0 w hG hs.1 hs.2 h1' (by simpa using h2)
  · cases h

end Go.Proofs.YteafkdcppbemdaaDoor.Q
