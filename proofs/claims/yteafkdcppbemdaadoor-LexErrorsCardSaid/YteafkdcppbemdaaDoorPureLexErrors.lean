import Derived.Test.YteafkdcppbemdaaDoorPlainD
import Derived.Test.YteafkdcppbemdaaDoorPlainE
import Derived.Test.YteafkdcppbemdaaDoorPlainF
import Derived.Test.YteafkdcppbemdaaDoorQ11
namespace Go.Proofs.YteafkdcppbemdaaDoor.Q
open Go.RowKit Go.Proofs.YteafkdcppbemdaaDoorW.PrintWords Go.Proofs.YteafkdcppbemdaaDoorW.PrintLast Go.Proofs.YteafkdcppbemdaaDoorW.PrintMore
set_option linter.unusedVariables false
set_option linter.unusedSimpArgs false

theorem fails_parts {l : List UInt8} {n : Nat} (h : Fails l n) : n < l.length ∧ (∃ ts e, Reads (l.take n) ts e) ∧ Fails (l.drop n) 0 := by
  induction h with
  | @here b c r hb hc h0 =>
    refine ⟨by simp, ⟨[], b, ?_⟩, ?_⟩
    · rw [List.take_left]; exact .done hb
    · rw [List.drop_left]; exact .here (b := []) rfl hc h0
  | @step b t r n hb ht hl hr ih =>
    obtain ⟨h1, ⟨ts, e, h2⟩, h3⟩ := ih
    refine ⟨by simp only [List.length_append]; omega, ⟨⟨t, b⟩ :: ts, e, ?_⟩, ?_⟩
    · have e1 : (b ++ (t ++ r)).take (b.length + t.length + n) = b ++ (t ++ r.take n) := by
        rw [show b ++ (t ++ r) = (b ++ t) ++ r by simp, List.take_append, List.take_of_length_le (by simp), List.length_append, Nat.add_sub_cancel_left]; simp
      rw [e1]
      refine .step hb ht ?_ h2
      cases n with
      | zero => rw [List.take_zero]; exact look_none hl
      | succ n =>
        cases r with
        | nil => simp at h1
        | cons c r => exact hl
    · have e1 : (b ++ (t ++ r)).drop (b.length + t.length + n) = r.drop n := by
        rw [show b ++ (t ++ r) = (b ++ t) ++ r by simp, ← List.drop_drop, ← List.length_append, List.drop_left]
      rw [e1]; exact h3
theorem scan_ok_ev {s : ByteArray} {ts : List Tk} {e : List UInt8} (hs : s.size ≤ 8192) (hr : Reads s.data.toList ts e) : Ev (fun k => lex_Scan.f k s) (ts.map cv, bs e, -1) := ⟨8194, fun k hk => scan_ok hs hr k (by omega)⟩
theorem scan_bad_ev {s : ByteArray} {n : Nat} (hs : s.size ≤ 8192) (hr : Fails s.data.toList n) : Ev (fun k => lex_Scan.f k s) ([], ⟨#[]⟩, (n : Int)) := by
  have hlen : s.data.toList.length = s.size := data_length s
  refine ⟨8194, fun k hk => ?_⟩
  have := scan_fails hr k s [] 0 hs (by omega) (by simp) (by simp; omega) (by omega)
  dsimp only
  unfold lex_Scan.f
  rw [if_neg (by omega)]
  simpa using this
theorem err_round (x2 : Int) (x7 : List ByteArray) (i : Nat) (hi : i < x7.length) (hl : x7.length ≤ 100) (H : Ev (fun k => splicerylaw05_LexErrors.l0 k x2 x7 ((i + 1 : Nat) : Int)) true) : Ev (fun k => splicerylaw05_LexErrors.l0 k x2 x7 (i : Int)) true := by
  have hw : wrap64 ((i : Int) + 1) = ((i + 1 : Nat) : Int) := by rw [w64 (by omega) (by omega)]; omega
  have next : ∀ b x12, b = true → Ev (fun k => splicerylaw05_LexErrors.j1 k x2 x7 (i : Int) (rdOf ByteArray.empty x7 (i : Int)) x12 b) true := by
    intro b x12 hb
    refine Ev.step (fun k => ?_) H
    simp only [splicerylaw05_LexErrors.j1]
    rw [if_pos hb, hw]
  have go : ∀ r, Ev (fun k => lex_Scan.f k (rdOf ByteArray.empty x7 (i : Int))) r → Ev (fun k => (if r.2.2 = (-1) then (splicerylaw05_LexErrors.j1 k x2 x7 (i : Int) (rdOf ByteArray.empty x7 (i : Int)) r.2.2 true) else (splicerylaw05_LexErrors.j1 k x2 x7 (i : Int) (rdOf ByteArray.empty x7 (i : Int)) r.2.2 (r.2.2 == 8192)))) true → Ev (fun k => splicerylaw05_LexErrors.l0 k x2 x7 (i : Int)) true := by
    intro r hr h
    refine Ev.step (f := fun k => (lex_Scan.f k (rdOf ByteArray.empty x7 (i : Int))).bind fun bt270 => (if bt270.2.2 = (-1) then (splicerylaw05_LexErrors.j1 k x2 x7 (i : Int) (rdOf ByteArray.empty x7 (i : Int)) bt270.2.2 true) else (splicerylaw05_LexErrors.j1 k x2 x7 (i : Int) (rdOf ByteArray.empty x7 (i : Int)) bt270.2.2 (bt270.2.2 == 8192)))) (fun k => ?_) (Ev.bind hr h)
    simp only [splicerylaw05_LexErrors.l0]
    rw [if_pos (by omega), if_pos (by omega)]
  generalize hsx : rdOf ByteArray.empty x7 (i : Int) = s at *
  rcases both_scan s with ⟨h8, hE, _⟩ | ⟨ts, e, h8, hr, hE, _⟩ | ⟨n, h8, hf, hE, _⟩
  · exact go _ hE (Ev.congr (fun k => if_neg (show ¬ (8192 : Int) = -1 by decide)) (next _ _ rfl))
  · exact go _ hE (Ev.congr (fun k => if_pos rfl) (next _ _ rfl))
  · refine go _ hE (Ev.congr (fun k => if_neg (show ¬ (n : Int) = -1 by omega)) ?_)
    obtain ⟨h1, ⟨ts, e, h2⟩, h3⟩ := fails_parts hf
    rw [data_length] at h1
    have hx0 : (s.extract 0 n).data.toList = s.data.toList.take n := by rw [extract_bs, bs_data]; simp
    have hz0 : (s.extract 0 n).size ≤ 8192 := by rw [← data_length, hx0, List.length_take, data_length]; omega
    have hx1 : (s.extract n s.size).data.toList = s.data.toList.drop n := extract_list s n
    have hz1 : (s.extract n s.size).size ≤ 8192 := by rw [extract_size s n (by omega)]; omega
    have s1 := scan_ok_ev hz0 (by rw [hx0]; exact h2)
    have s2 := scan_bad_ev hz1 (by rw [hx1]; exact h3)
    refine Ev.step (f := fun k => splicerylaw05_LexErrors.j2 k x2 x7 (i : Int) s (n : Int) false) (fun k => ?_) ?_
    · simp only [splicerylaw05_LexErrors.j1]
      rw [if_neg (by simp; omega), if_neg (by omega), show decide ((n : Int) ≥ (s.size : Int)) = false from decide_eq_false (by omega)]
    · refine Ev.step (f := fun k => (lex_Scan.f k (s.extract 0 n)).bind fun bt275 => ((lex_Scan.f k (s.extract n s.size)).bind fun bt280 => (if bt275.2.2 = (-1) then (if bt280.2.2 = 0 then (splicerylaw05_LexErrors.l0 k x2 x7 (wrap64 ((i : Int) + 1))) else (if bt280.2.2 = 8192 then (splicerylaw05_LexErrors.l0 k x2 x7 (wrap64 ((i : Int) + 1))) else (some false))) else (some false)))) (fun k => ?_) (Ev.bind s1 (Ev.bind s2 (Ev.congr (fun k => ?_) H)))
      · simp only [splicerylaw05_LexErrors.j2]
        rw [if_neg (by decide), if_pos (by omega), if_pos (by omega), Int.toNat_natCast]
      · dsimp only
        rw [if_pos rfl, if_pos (show ((0 : Nat) : Int) = 0 from rfl), hw]
theorem blank_all : ∀ (n : Nat), blankSt false (List.replicate n 32) = some false
  | 0 => rfl
  | n + 1 => by rw [List.replicate_succ]; simp only [blankSt]; rw [if_neg (by decide), if_neg (by decide), if_neg (by decide)]; exact blank_all n
theorem str_spaces (n : Nat) : strOfNums (List.replicate n 32) = bs (List.replicate n 32) := by
  simp only [strOfNums, bs, List.map_replicate]; rfl
theorem err_fill (x2 : Int) (n : Nat) (hn : n ≤ 8194) (H : Ev (fun k => splicerylaw05_LexErrors.l1 k (n : Int) (List.replicate n 32) (n : Int)) true) : ∀ (d i : Nat), i + d = n → Ev (fun k => splicerylaw05_LexErrors.l1 k (n : Int) (List.replicate i 32 ++ List.replicate d 0) (i : Int)) true := by
  intro d
  induction d with
  | zero =>
    intro i hi
    obtain rfl : i = n := by omega
    rw [List.replicate_zero, List.append_nil]; exact H
  | succ d ih =>
    intro i hi
    have hw : wrap64 ((i : Int) + 1) = ((i + 1 : Nat) : Int) := by rw [w64 (by omega) (by omega)]; omega
    have hset : (List.replicate i (32 : Int) ++ List.replicate (d + 1) 0).set i 32 = List.replicate (i + 1) 32 ++ List.replicate d 0 := by
      rw [List.set_append_right _ _ (by simp), List.length_replicate, Nat.sub_self, List.replicate_succ, List.set_cons_zero, List.replicate_succ', List.append_assoc]; rfl
    refine Ev.step (fun k => ?_) (ih (i + 1) (by omega))
    simp only [splicerylaw05_LexErrors.l1]
    rw [if_pos (by omega), if_pos (by omega), if_pos (by simp; omega), Int.toNat_natCast, hset, hw]
theorem blank_false {s : ByteArray} (h : 8192 < s.size) : lex_Blank.f s = some false := by
  unfold lex_Blank.f
  rw [if_neg (by omega)]
def errTail (n : Nat) (k : Nat) (r : List S38 × ByteArray × Int) : Option Bool := (if ((r.2.2 == (-1)) == (decide ((n : Int) ≤ 8192))) = true then (if ((r.2.2 == 8192) == (decide ((n : Int) > 8192))) = true then (if (r.1.length : Int) = 0 then (if r.2.2 = (-1) then (if r.2.1.toList = (bs (List.replicate n 32)).toList then ((lex_Blank.f (bs (List.replicate n 32))).bind fun t295 => (if (t295 == (decide ((n : Int) ≤ 8192))) = true then ((splicerylaw05_lives.f k).bind fun t296 => (some t296)) else (some false))) else (some false)) else ((lex_Blank.f (bs (List.replicate n 32))).bind fun t297 => (if (t297 == (decide ((n : Int) ≤ 8192))) = true then ((splicerylaw05_lives.f k).bind fun t298 => (some t298)) else (some false)))) else (some false)) else (some false)) else (some false))
theorem err_spaces (n : Nat) (hn : n ≤ 8194) : Ev (fun k => splicerylaw05_LexErrors.l1 k (n : Int) (List.replicate n 32) (n : Int)) true := by
  have hsz : (bs (List.replicate n 32)).size = n := by rw [size_mk, List.length_replicate]
  have go : ∀ r, Ev (fun k => lex_Scan.f k (bs (List.replicate n 32))) r → Ev (fun k => errTail n k r) true → Ev (fun k => splicerylaw05_LexErrors.l1 k (n : Int) (List.replicate n 32) (n : Int)) true := by
    intro r hr h
    refine Ev.step (fun k => ?_) (Ev.bind (f := errTail n) hr h)
    simp only [splicerylaw05_LexErrors.l1]
    rw [if_neg (by omega), str_spaces]
    rfl
  by_cases h : n ≤ 8192
  · refine go ([], bs (List.replicate n 32), -1) (scan_ok_ev (ts := []) (by rw [hsz]; exact h) (by rw [bs_data]; exact .done (blank_all n))) ?_
    refine Ev.congr (fun k => ?_) (Ev.bind lives_ev (Ev.now true))
    have d1 : decide ((n : Int) ≤ 8192) = true := decide_eq_true (by omega)
    have d2 : decide ((n : Int) > 8192) = false := decide_eq_false (by omega)
    unfold errTail
    dsimp only
    rw [d1, d2, if_pos (by decide), if_pos (by decide), if_pos (by decide), if_pos rfl, if_pos rfl, blank_true (c := false) (by rw [hsz]; exact h) (by rw [bs_data]; exact blank_all n), Option.bind_some, if_pos (by decide)]
  · refine go ([], ⟨#[]⟩, 8192) ⟨0, fun k _ => by dsimp only; unfold lex_Scan.f; rw [if_pos (by omega)]⟩ ?_
    refine Ev.congr (fun k => ?_) (Ev.bind lives_ev (Ev.now true))
    have d1 : decide ((n : Int) ≤ 8192) = false := decide_eq_false (by omega)
    have d2 : decide ((n : Int) > 8192) = true := decide_eq_true (by omega)
    unfold errTail
    dsimp only
    rw [d1, d2, if_pos (by decide), if_pos (by decide), if_pos (by decide), if_neg (by decide), blank_false (by omega), Option.bind_some, if_pos (by decide)]
theorem LexErrors_pure : splicerylaw05_LexErrors.Pure := by
  intro l0 a1 a2 hm h8 hwf ha h2
  have hI : ∀ x ∈ l0, I64 x := fun x hx => i64_of_wf (hwf x hx)
  obtain ⟨s, hs, hsf⟩ := sample_tells l0 hI (by omega)
  have hS : Ev (fun k => spliceryref05_Sample.f k l0) s := ⟨63, fun k hk => hsf k (by omega)⟩
  obtain ⟨t, ht, t0, t1⟩ := around_tells a2 5 (i64_of_wf h2) (by decide)
  obtain ⟨m, hm⟩ : ∃ m : Nat, wrap64 (8190 + t) = m ∧ m ≤ 8194 := ⟨(8190 + t).toNat, by rw [w64 (by omega) (by omega)]; omega, by omega⟩
  have e3 : ∀ x7 : List ByteArray, x7.length = 3 → Ev (fun k => splicerylaw05_LexErrors.l0 k a2 x7 ((3 : Nat) : Int)) true := by
    intro x7 hx
    have h1 := err_fill a2 m hm.2 (err_spaces m hm.2) m 0 (by omega)
    refine Ev.step (fun k => ?_) h1
    simp only [splicerylaw05_LexErrors.l0]
    rw [if_neg (by omega), ht, Option.bind_some, hm.1, if_pos (by omega), if_pos (by have := hm.2; simp; omega), Int.toNat_natCast]
    rfl
  have all : ∀ x7 : List ByteArray, x7.length = 3 → Ev (fun k => splicerylaw05_LexErrors.l0 k a2 x7 ((0 : Nat) : Int)) true := fun x7 hx =>
    err_round a2 x7 0 (by omega) (by omega) (err_round a2 x7 1 (by omega) (by omega) (err_round a2 x7 2 (by omega) (by omega) (e3 x7 hx)))
  refine Ev.rounds (Ev.congr (fun k => rfl) (Ev.bind (f := fun k t264 => (if t264.size + 1 ≤ 9223372036854775807 then ((spliceryref05_Sample.f k l0).bind fun t265 => (if t265.size + 2 ≤ 9223372036854775807 then (if (t265 ++ (⟨#[32, 62]⟩ : ByteArray)).size + a1.size ≤ 9223372036854775807 then (splicerylaw05_LexErrors.l0 k a2 (([t264 ++ (⟨#[63]⟩ : ByteArray), a1, (t265 ++ (⟨#[32, 62]⟩ : ByteArray)) ++ a1] : List ByteArray)) 0) else (none)) else (none))) else (none))) hS ?_))
  have z1 : (s ++ (⟨#[32, 62]⟩ : ByteArray)).size = s.size + 2 := ByteArray.size_append
  refine Ev.congr (f := fun k => (spliceryref05_Sample.f k l0).bind fun t265 => (if t265.size + 2 ≤ 9223372036854775807 then (if (t265 ++ (⟨#[32, 62]⟩ : ByteArray)).size + a1.size ≤ 9223372036854775807 then (splicerylaw05_LexErrors.l0 k a2 (([s ++ (⟨#[63]⟩ : ByteArray), a1, (t265 ++ (⟨#[32, 62]⟩ : ByteArray)) ++ a1] : List ByteArray)) 0) else (none)) else (none))) (fun k => if_pos (by omega)) (Ev.bind hS (Ev.congr (fun k => ?_) (all [s ++ (⟨#[63]⟩ : ByteArray), a1, (s ++ (⟨#[32, 62]⟩ : ByteArray)) ++ a1] rfl)))
  rw [if_pos (by omega), if_pos (by omega)]
  rfl
end Go.Proofs.YteafkdcppbemdaaDoor.Q
