import Derived.Test.YteafkdcppbemdaaDoorPlainE
import Derived.Test.YteafkdcppbemdaaDoorPlainCS
namespace Go.Proofs.YteafkdcppbemdaaDoor.Q
open Go.RowKit Go.Proofs.YteafkdcppbemdaaDoorW.PrintWords Go.Proofs.YteafkdcppbemdaaDoorW.PrintLast Go.Proofs.YteafkdcppbemdaaDoorW.PrintMore
set_option linter.unusedVariables false
set_option linter.unusedSimpArgs false

/-! ### The reference's Scan -/
def cv' (t : Tk) : S56 := ⟨bs t.text, bs t.before⟩
theorem toks_at {s : ByteArray} {i : Nat} {b x : List UInt8} (h : s.data.toList.drop i = b ++ x) : s.data.toList.drop (i + b.length) = x ∧ s.extract i (i + b.length) = bs b ∧ i + b.length + x.length = s.size ∨ s.size < i := by
  by_cases hi : i ≤ s.size
  · left
    refine ⟨by rw [← List.drop_drop, h, List.drop_left], by rw [extract_bs, h, Nat.add_sub_cancel_left, List.take_left], ?_⟩
    have : (s.data.toList.drop i).length = b.length + x.length := by rw [h, List.length_append]
    rw [List.length_drop, data_length] at this; omega
  · right; omega
def refStep (s : ByteArray) (acc : List S56) (i j : Int) (k : Nat) (t141 : Int) : Option ((List (S56)) × ByteArray × Int) := (if t141 < 0 then (some (([] : List (S56)), (⟨#[]⟩ : ByteArray), j)) else (if 0 ≤ j then (if j ≤ t141 then (if t141 ≤ (s.size : Int) then (if acc.length < 4398046511104 then (R5_Scan.l0 k s (acc ++ [(⟨s.extract (j : Int).toNat (t141 : Int).toNat, s.extract (i : Int).toNat (j : Int).toNat⟩ : S56)]) t141) else (none)) else (none)) else (none)) else (none)))
theorem ref_reads {l : List UInt8} {ts : List Tk} {e : List UInt8} (hr : Reads l ts e) : ∀ (s : ByteArray) (acc : List S56) (at_ : Nat), s.size ≤ 8192 → at_ ≤ s.size → s.data.toList.drop at_ = l → acc.length + ts.length ≤ 4398046511104 →
    Ev (fun k => R5_Scan.l0 k s acc (at_ : Int)) (acc ++ ts.map cv', bs e, -1) := by
  induction hr with
  | @done l c hb =>
    intro s acc at_ hs ha hd hl
    have hn : skip false l = l.length := by have := skip_of l [] false (.inl ⟨rfl, c, hb⟩); rwa [List.append_nil] at this
    have hlen : l.length = s.size - at_ := by rw [← hd, List.length_drop, data_length]
    have hsk := ref_skip s (by omega) l at_ false hd ha
    rw [hn] at hsk
    have he : s.extract at_ (at_ + l.length) = bs l := by rw [extract_bs, hd, Nat.add_sub_cancel_left, List.take_length]
    refine Ev.step (f := fun k => _) (fun k => by simp only [R5_Scan.l0]; rfl) (Ev.bind (g := fun k => R5_skip.f k s (at_ : Int)) hsk ?_)
    refine Ev.congr (f := fun _ => some _) (fun k => ?_) (Ev.now _)
    rw [if_pos (by omega), if_pos (by omega), if_pos (by omega), if_pos (by omega), Int.toNat_natCast, Int.toNat_natCast, he, List.map_nil, List.append_nil]
  | @step b t r ts e hb ht hl hr ih =>
    intro s acc at_ hs ha hd hlen
    simp only [List.length_cons] at hlen
    obtain ⟨c, w, rfl⟩ : ∃ c w, t = c :: w := by cases t with | nil => exact absurd rfl ht | cons c w => exact ⟨c, w, rfl⟩
    have hn : skip false (b ++ ((c :: w) ++ r)) = b.length := skip_of b _ false (.inr ⟨hb, c, w ++ r, rfl, look_nb hl⟩)
    obtain ⟨hd2, he1, hz1⟩ := (toks_at hd).resolve_right (by omega)
    obtain ⟨hd3, he2, hz2⟩ := (toks_at hd2).resolve_right (by omega)
    have hwl : (c :: w).length = w.length + 1 := rfl
    have htk : tokZ ((c :: w) ++ r) = ((c :: w).length : Int) := (tok_iff _ _ ht).2 hl
    have hsk := ref_skip s (by omega) _ at_ false hd ha
    rw [hn] at hsk
    have hen := ref_end s (by omega) (at_ + b.length) c (w ++ r) hd2
    have hez : endZ (at_ + b.length) (c :: (w ++ r)) = ((at_ + b.length + (c :: w).length : Nat) : Int) := by
      unfold endZ; rw [← List.cons_append, htk, if_pos (by omega)]; omega
    rw [hez] at hen
    rw [List.length_append] at hz1
    refine Ev.step (f := fun k => _) (fun k => by simp only [R5_Scan.l0]; rfl) (Ev.bind (g := fun k => R5_skip.f k s (at_ : Int)) hsk ?_)
    refine Ev.congr (f := fun k => (R5_end.f k s ((at_ + b.length : Nat) : Int)).bind (refStep s acc (at_ : Int) ((at_ + b.length : Nat) : Int) k)) (fun k => ?_) (Ev.bind (f := refStep s acc (at_ : Int) ((at_ + b.length : Nat) : Int)) hen ?_)
    · rw [if_pos (by omega), if_pos (by omega), if_pos (by omega), if_neg (by omega)]; rfl
    · have ih' := ih s (acc ++ [⟨bs (c :: w), bs b⟩]) (at_ + b.length + (c :: w).length) hs (by omega) hd3 (by simp; omega)
      rw [show acc ++ (({ text := c :: w, before := b } : Tk) :: ts).map cv' = acc ++ [⟨bs (c :: w), bs b⟩] ++ ts.map cv' by simp [cv']]
      refine Ev.congr (fun k => ?_) ih'
      unfold refStep
      rw [if_neg (by omega), if_pos (by omega), if_pos (by omega), if_pos (by omega), if_pos (by omega), Int.toNat_natCast, Int.toNat_natCast, Int.toNat_natCast, he1, he2]
theorem ref_fails {l : List UInt8} {n : Nat} (hr : Fails l n) : ∀ (s : ByteArray) (acc : List S56) (at_ : Nat), s.size ≤ 8192 → at_ ≤ s.size → s.data.toList.drop at_ = l → acc.length + l.length ≤ 4398046511104 →
    Ev (fun k => R5_Scan.l0 k s acc (at_ : Int)) ([], ⟨#[]⟩, ((at_ + n : Nat) : Int)) := by
  induction hr with
  | @here b c r hb hc h0 =>
    intro s acc at_ hs ha hd hl
    have hn : skip false (b ++ c :: r) = b.length := skip_of b _ false (.inr ⟨hb, c, r, rfl, hc⟩)
    obtain ⟨hd2, he1, hz1⟩ := (toks_at hd).resolve_right (by omega)
    have hwl : (c :: r).length = r.length + 1 := rfl
    have hsk := ref_skip s (by omega) _ at_ false hd ha
    rw [hn] at hsk
    have hen := ref_end s (by omega) (at_ + b.length) c r hd2
    have hez : endZ (at_ + b.length) (c :: r) = -1 := by unfold endZ; rw [h0, if_neg (by decide)]
    rw [hez] at hen
    refine Ev.step (f := fun k => _) (fun k => by simp only [R5_Scan.l0]; rfl) (Ev.bind (g := fun k => R5_skip.f k s (at_ : Int)) hsk ?_)
    refine Ev.congr (f := fun k => (R5_end.f k s ((at_ + b.length : Nat) : Int)).bind (refStep s acc (at_ : Int) ((at_ + b.length : Nat) : Int) k)) (fun k => ?_) (Ev.bind (f := refStep s acc (at_ : Int) ((at_ + b.length : Nat) : Int)) hen ?_)
    · rw [if_pos (by omega), if_pos (by omega), if_pos (by omega), if_neg (by omega)]; rfl
    · refine Ev.congr (f := fun _ => some _) (fun k => ?_) (Ev.now _)
      unfold refStep
      rw [if_pos (by decide)]
  | @step b t r n hb ht hl hr ih =>
    intro s acc at_ hs ha hd hlen
    simp only [List.length_append] at hlen
    obtain ⟨c, w, rfl⟩ : ∃ c w, t = c :: w := by cases t with | nil => exact absurd rfl ht | cons c w => exact ⟨c, w, rfl⟩
    have hn : skip false (b ++ ((c :: w) ++ r)) = b.length := skip_of b _ false (.inr ⟨hb, c, w ++ r, rfl, look_nb hl⟩)
    obtain ⟨hd2, he1, hz1⟩ := (toks_at hd).resolve_right (by omega)
    obtain ⟨hd3, he2, hz2⟩ := (toks_at hd2).resolve_right (by omega)
    have hwl : (c :: w).length = w.length + 1 := rfl
    have htk : tokZ ((c :: w) ++ r) = ((c :: w).length : Int) := (tok_iff _ _ ht).2 hl
    have hsk := ref_skip s (by omega) _ at_ false hd ha
    rw [hn] at hsk
    have hen := ref_end s (by omega) (at_ + b.length) c (w ++ r) hd2
    have hez : endZ (at_ + b.length) (c :: (w ++ r)) = ((at_ + b.length + (c :: w).length : Nat) : Int) := by
      unfold endZ; rw [← List.cons_append, htk, if_pos (by omega)]; omega
    rw [hez] at hen
    rw [List.length_append] at hz1
    refine Ev.step (f := fun k => _) (fun k => by simp only [R5_Scan.l0]; rfl) (Ev.bind (g := fun k => R5_skip.f k s (at_ : Int)) hsk ?_)
    refine Ev.congr (f := fun k => (R5_end.f k s ((at_ + b.length : Nat) : Int)).bind (refStep s acc (at_ : Int) ((at_ + b.length : Nat) : Int) k)) (fun k => ?_) (Ev.bind (f := refStep s acc (at_ : Int) ((at_ + b.length : Nat) : Int)) hen ?_)
    · rw [if_pos (by omega), if_pos (by omega), if_pos (by omega), if_neg (by omega)]; rfl
    · have ih' := ih s (acc ++ [⟨bs (c :: w), bs b⟩]) (at_ + b.length + (c :: w).length) hs (by omega) hd3 (by simp; omega)
      rw [show at_ + (b.length + (c :: w).length + n) = at_ + b.length + (c :: w).length + n by omega]
      refine Ev.congr (fun k => ?_) ih'
      unfold refStep
      rw [if_neg (by omega), if_pos (by omega), if_pos (by omega), if_pos (by omega), if_pos (by omega), Int.toNat_natCast, Int.toNat_natCast, Int.toNat_natCast, he1, he2]
/-- What the reference's Scan tells, beside what lex's tells. -/
theorem both_scan (s : ByteArray) : (8192 < s.size ∧ Ev (fun k => lex_Scan.f k s) ([], ⟨#[]⟩, 8192) ∧ Ev (fun k => R5_Scan.f k s) ([], ⟨#[]⟩, 8192)) ∨
    (∃ ts e, s.size ≤ 8192 ∧ Reads s.data.toList ts e ∧ Ev (fun k => lex_Scan.f k s) (ts.map cv, bs e, -1) ∧ Ev (fun k => R5_Scan.f k s) (ts.map cv', bs e, -1)) ∨
    ∃ n : Nat, s.size ≤ 8192 ∧ Fails s.data.toList n ∧ Ev (fun k => lex_Scan.f k s) ([], ⟨#[]⟩, (n : Int)) ∧ Ev (fun k => R5_Scan.f k s) ([], ⟨#[]⟩, (n : Int)) := by
  obtain ⟨r, hr, hf⟩ := scan_tells s
  have hE : Ev (fun k => lex_Scan.f k s) r := ⟨8194, fun k hk => hf k (by omega)⟩
  have hlen : s.data.toList.length = s.size := data_length s
  cases hr with
  | long h =>
    refine .inl ⟨h, hE, 0, fun k _ => ?_⟩
    dsimp only
    unfold R5_Scan.f
    rw [if_pos (by omega)]
  | @ok ts e h hb =>
    refine .inr (.inl ⟨ts, e, h, hb, hE, ?_⟩)
    have := hb.length_le
    have hr := ref_reads hb s [] 0 h (by omega) (by simp) (by simp; omega)
    refine Ev.congr (fun k => ?_) hr
    unfold R5_Scan.f
    rw [if_neg (by omega)]; rfl
  | @bad n h hb =>
    refine .inr (.inr ⟨n, h, hb, hE, ?_⟩)
    have hr := ref_fails hb s [] 0 h (by omega) (by simp) (by simp; omega)
    rw [Nat.zero_add] at hr
    refine Ev.congr (fun k => ?_) hr
    unfold R5_Scan.f
    rw [if_neg (by omega)]; rfl
theorem plain_cv (ts : List Tk) (hl : ts.length ≤ 4398046511104) : Ev (fun k => L5_plain.f k (ts.map cv)) (ts.map cv') := by
  have h := plain_ev (ts.map cv) (by rw [List.length_map]; exact hl)
  rw [List.map_map] at h
  exact h
theorem same_loop (a : List S56) (hl : a.length ≤ 9223372036854775000) : ∀ (d i : Nat), i + d = a.length → Ev (fun k => R5_Same.l0 k a a (i : Int)) true := by
  intro d
  induction d with
  | zero =>
    intro i hi
    refine Ev.step (f := fun _ => some _) (fun k => ?_) (Ev.now _)
    simp only [R5_Same.l0]
    rw [if_neg (by omega)]
  | succ d ih =>
    intro i hi
    have hw : wrap64 ((i : Int) + 1) = ((i + 1 : Nat) : Int) := by rw [w64 (by omega) (by omega)]; omega
    refine Ev.step (fun k => ?_) (ih (i + 1) (by omega))
    simp only [R5_Same.l0]
    rw [if_pos (by omega), if_pos (by omega), if_pos (by omega), if_neg (by simp), hw]
theorem same_self (a : List S56) (hl : a.length ≤ 9223372036854775000) : Ev (fun k => R5_Same.f k a a) true := by
  refine Ev.congr (fun k => ?_) (same_loop a hl a.length 0 (by omega))
  unfold R5_Same.f
  rw [if_pos rfl]; rfl
end Go.Proofs.YteafkdcppbemdaaDoor.Q
