import Derived.Test.YteafkdcppbemdaaDoorPlainD
import Derived.Test.YteafkdcppbemdaaDoorPlainG
import Derived.Test.YteafkdcppbemdaaDoorQ9
namespace Go.Proofs.YteafkdcppbemdaaDoor.Q
open Go.RowKit Go.Proofs.YteafkdcppbemdaaDoorW.PrintWords Go.Proofs.YteafkdcppbemdaaDoorW.PrintLast Go.Proofs.YteafkdcppbemdaaDoorW.PrintMore
set_option linter.unusedVariables false
set_option linter.unusedSimpArgs false
set_option linter.unusedSectionVars false

theorem scan_ev_any (s : ByteArray) : ∃ r, Ev (fun k => lex_Scan.f k s) r := by
  obtain ⟨r, _, h⟩ := scan_tells s
  exact ⟨r, 8194, fun k hk => h k (by omega)⟩
theorem scan_ok_ev' {s : ByteArray} {ts : List Tk} {e : List UInt8} (hs : s.size ≤ 8192) (hr : Reads s.data.toList ts e) : Ev (fun k => lex_Scan.f k s) (ts.map cv, bs e, -1) := ⟨8194, fun k hk => scan_ok hs hr k (by omega)⟩
def joinTail (x7 : ByteArray) (x8 : List ByteArray) (x9 : Int) (k : Nat) (p q r : List S38 × ByteArray × Int) : Option Bool :=
  if p.2.2 = (-1) then (if q.2.2 = (-1) then (L5_LexJoins.j1 k x7 x8 x9 p.1 p.2.1 q.1 q.2.1 r.1 r.2.1 r.2.2 (decide ((wrap64 ((wrap64 ((x7.size : Int) + 1)) + ((rdOf ByteArray.empty x8 x9).size : Int))) > 8192))) else (L5_LexJoins.j1 k x7 x8 x9 p.1 p.2.1 q.1 q.2.1 r.1 r.2.1 r.2.2 true)) else (L5_LexJoins.j1 k x7 x8 x9 p.1 p.2.1 q.1 q.2.1 r.1 r.2.1 r.2.2 true)
section
variable (s t : ByteArray) (x8 : List ByteArray) (i : Nat) (hi : i < 2) (hx : x8.length = 2) (h8 : rdOf ByteArray.empty x8 (i : Int) = t) (hs : s.size ≤ 140737488351232) (ht : t.size ≤ 140737488351232)
  (H : Ev (fun k => L5_LexJoins.l0 k s x8 ((i + 1 : Nat) : Int)) true)
include hi hx h8 hs ht H
theorem join_head {p q r : List S38 × ByteArray × Int} (hp : Ev (fun k => lex_Scan.f k s) p) (hq : Ev (fun k => lex_Scan.f k t) q) (hr : Ev (fun k => lex_Scan.f k (s ++ (⟨#[10]⟩ : ByteArray) ++ t)) r)
    (h : Ev (fun k => joinTail s x8 (i : Int) k p q r) true) : Ev (fun k => L5_LexJoins.l0 k s x8 (i : Int)) true := by
  have z : (s ++ (⟨#[10]⟩ : ByteArray)).size = s.size + 1 := ByteArray.size_append
  refine Ev.step (f := fun k => (lex_Scan.f k s).bind fun p => (lex_Scan.f k t).bind fun q => (lex_Scan.f k (s ++ (⟨#[10]⟩ : ByteArray) ++ t)).bind fun r => joinTail s x8 (i : Int) k p q r) (fun k => ?_)
    (Ev.bind (f := fun k p => (lex_Scan.f k t).bind fun q => (lex_Scan.f k (s ++ (⟨#[10]⟩ : ByteArray) ++ t)).bind fun r => joinTail s x8 (i : Int) k p q r) hp (Ev.bind (f := fun k q => (lex_Scan.f k (s ++ (⟨#[10]⟩ : ByteArray) ++ t)).bind fun r => joinTail s x8 (i : Int) k p q r) hq (Ev.bind (f := fun k r => joinTail s x8 (i : Int) k p q r) hr h)))
  simp only [L5_LexJoins.l0]
  rw [if_pos (by omega), if_pos (by omega), if_pos (by omega), h8]
  have c1 : s.size + 1 ≤ 9223372036854775807 := by omega
  have c2 : (s ++ (⟨#[10]⟩ : ByteArray)).size + t.size ≤ 9223372036854775807 := by omega
  simp only [joinTail, h8, if_pos c1, if_pos c2]
theorem join_skip (a b c : List S38) (d e f : ByteArray) (n : Int) (bb : Bool) (hb : bb = true) : Ev (fun k => L5_LexJoins.j1 k s x8 (i : Int) a d b e c f n bb) true := by
  have hw : wrap64 ((i : Int) + 1) = ((i + 1 : Nat) : Int) := by rw [w64 (by omega) (by omega)]; omega
  refine Ev.step (fun k => ?_) H
  simp only [L5_LexJoins.j1]
  rw [if_pos hb, hw]
theorem join_next (bb : Bool) (hb : bb = false) : Ev (fun k => L5_LexJoins.j3 k s x8 (i : Int) bb) true := by
  have hw : wrap64 ((i : Int) + 1) = ((i + 1 : Nat) : Int) := by rw [w64 (by omega) (by omega)]; omega
  refine Ev.step (fun k => ?_) H
  simp only [L5_LexJoins.j3]
  rw [if_neg (by simp [hb]), hw]
theorem join_both {ts us vs : List Tk} {e f g : List UInt8} (l1 : ts.length ≤ 8192) (l2 : us.length ≤ 8192) (l3 : e.length ≤ 8192) (l4 : f.length ≤ 8192)
    (hv : (us = [] ∧ vs = ts ∧ g = e ++ 10 :: f) ∨ ∃ u us', us = u :: us' ∧ u.before.length ≤ 8192 ∧ vs = ts ++ ⟨u.text, e ++ 10 :: u.before⟩ :: us' ∧ g = f) :
    Ev (fun k => L5_LexJoins.j1 k s x8 (i : Int) (ts.map cv) (bs e) (us.map cv) (bs f) (vs.map cv) (bs g) (-1) false) true := by
  have hw : wrap64 ((i : Int) + 1) = ((i + 1 : Nat) : Int) := by rw [w64 (by omega) (by omega)]; omega
  have hlv : vs.length = ts.length + us.length := by
    rcases hv with ⟨rfl, rfl, _⟩ | ⟨u, us', rfl, _, rfl, _⟩ <;> simp
  have htk : (vs.map cv).take ts.length = ts.map cv := by
    rcases hv with ⟨rfl, rfl, _⟩ | ⟨u, us', rfl, _, rfl, _⟩
    · rw [List.take_of_length_le (by rw [List.length_map]; exact Nat.le_refl _)]
    · rw [List.map_append, List.take_append_of_le_length (by simp), List.take_of_length_le (by simp)]
  have hnl : (bs e ++ (⟨#[10]⟩ : ByteArray)).size = e.length + 1 := by rw [ByteArray.size_append, size_mk]; rfl
  have nl : (⟨#[10]⟩ : ByteArray) = bs [10] := rfl
  have J2 : Ev (fun k => L5_LexJoins.j2 k s x8 (i : Int) (ts.map cv) (bs e) (us.map cv) (bs f) (vs.map cv) (bs g) (!true)) true := by
    rcases hv with ⟨rfl, rfl, rfl⟩ | ⟨u, us', rfl, hub, rfl, rfl⟩
    · refine Ev.step (fun k => ?_) H
      simp only [L5_LexJoins.j2]
      rw [if_neg (by decide), if_pos (by rfl), if_pos (by rw [size_mk]; omega), if_pos (by rw [hnl, size_mk]; omega), if_pos (by rw [nl, bs_append, bs_append]; simp), hw]
    · have hub' : (cv u).f1.size = u.before.length := size_mk _
      have p1 := plain_cv us' (by simp at l2; omega)
      have r1 : rd_T38 ((ts ++ (⟨u.text, e ++ 10 :: u.before⟩ : Tk) :: us').map cv) (((ts.map cv).length : Nat) : Int) = cv ⟨u.text, e ++ 10 :: u.before⟩ := by
        rw [List.length_map, rd_map _ _ (by simp)]; simp
      have r0 : rd_T38 ((u :: us').map cv) 0 = cv u := rd_map (u :: us') 0 (by simp)
      have d1 : ((ts ++ (⟨u.text, e ++ 10 :: u.before⟩ : Tk) :: us').map cv).drop (ts.length + 1) = us'.map cv := by
        rw [List.map_append, ← List.drop_drop, List.drop_left' (by simp)]; rfl
      refine Ev.step (f := fun k => (L5_plain.f k (us'.map cv)).bind fun t252 => (L5_plain.f k (us'.map cv)).bind fun t259 => (R5_Same.f k t252 t259).bind fun t262 => L5_LexJoins.j3 k s x8 (i : Int) (!t262)) (fun k => ?_)
        (Ev.bind (f := fun k t252 => (L5_plain.f k (us'.map cv)).bind fun t259 => (R5_Same.f k t252 t259).bind fun t262 => L5_LexJoins.j3 k s x8 (i : Int) (!t262)) p1
          (Ev.bind (f := fun k t259 => (R5_Same.f k (us'.map cv') t259).bind fun t262 => L5_LexJoins.j3 k s x8 (i : Int) (!t262)) p1
            (Ev.bind (f := fun k t262 => L5_LexJoins.j3 k s x8 (i : Int) (!t262)) (same_self (us'.map cv') (by rw [List.length_map]; simp at l2; omega)) (join_next s t x8 i hi hx h8 hs ht H _ rfl))))
      have hwt : wrap64 (((ts.map cv).length : Int) + 1) = ((ts.length + 1 : Nat) : Int) := by rw [List.length_map, w64 (by omega) (by omega)]; omega
      simp only [L5_LexJoins.j2]
      rw [if_neg (by decide), if_neg (by simp; omega), if_pos trivial, if_pos (by omega), if_pos (by simp; omega), if_pos (by rw [size_mk]; omega), if_pos (by simp), r1, r0, hub', if_pos (by rw [hnl]; omega)]
      rw [if_pos (by show (bs (e ++ 10 :: u.before)).toList = _; rw [nl, show (cv u).f1 = bs u.before from rfl, bs_append, bs_append]; simp), if_pos (by simp only [cv]), hwt, if_pos (Int.natCast_nonneg _), if_pos (by rw [List.length_map, List.length_append, List.length_cons]; omega), Int.toNat_natCast, d1]
      have c3 : (1 : Int) ≤ (((u :: us').map cv).length : Int) := by rw [List.length_map, List.length_cons]; omega
      have c4 : ((u :: us').map cv).drop 1 = us'.map cv := rfl
      simp only [if_pos c3, c4]
  have p0 := plain_cv ts (by omega)
  refine Ev.step (f := fun k => (L5_plain.f k (ts.map cv)).bind fun t237 => (L5_plain.f k (ts.map cv)).bind fun t240 => (R5_Same.f k t237 t240).bind fun t243 => L5_LexJoins.j2 k s x8 (i : Int) (ts.map cv) (bs e) (us.map cv) (bs f) (vs.map cv) (bs g) (!t243)) (fun k => ?_)
    (Ev.bind (f := fun k t237 => (L5_plain.f k (ts.map cv)).bind fun t240 => (R5_Same.f k t237 t240).bind fun t243 => L5_LexJoins.j2 k s x8 (i : Int) (ts.map cv) (bs e) (us.map cv) (bs f) (vs.map cv) (bs g) (!t243)) p0
      (Ev.bind (f := fun k t240 => (R5_Same.f k (ts.map cv') t240).bind fun t243 => L5_LexJoins.j2 k s x8 (i : Int) (ts.map cv) (bs e) (us.map cv) (bs f) (vs.map cv) (bs g) (!t243)) p0
        (Ev.bind (f := fun k t243 => L5_LexJoins.j2 k s x8 (i : Int) (ts.map cv) (bs e) (us.map cv) (bs f) (vs.map cv) (bs g) (!t243)) (same_self (ts.map cv') (by rw [List.length_map]; omega)) J2)))
  have hwl : wrap64 (((ts.map cv).length : Int) + ((us.map cv).length : Int)) = ((ts.length + us.length : Nat) : Int) := by rw [List.length_map, List.length_map, w64 (by omega) (by omega)]; omega
  simp only [L5_LexJoins.j1]
  rw [if_neg (by decide), if_pos trivial, hwl, if_pos (by rw [List.length_map, hlv]), if_pos (by omega), if_pos (by rw [List.length_map, List.length_map, hlv]; omega), Int.toNat_natCast, List.length_map, htk]
theorem join_round : Ev (fun k => L5_LexJoins.l0 k s x8 (i : Int)) true := by
  obtain ⟨r, hr⟩ := scan_ev_any (s ++ (⟨#[10]⟩ : ByteArray) ++ t)
  have z1 : (s ++ (⟨#[10]⟩ : ByteArray)).size = s.size + 1 := ByteArray.size_append
  have z2 : (s ++ (⟨#[10]⟩ : ByteArray) ++ t).size = s.size + 1 + t.size := by rw [ByteArray.size_append, z1]
  have bad1 : ∀ p q, Ev (fun k => lex_Scan.f k s) p → Ev (fun k => lex_Scan.f k t) q → p.2.2 ≠ -1 → Ev (fun k => L5_LexJoins.l0 k s x8 (i : Int)) true := by
    intro p q hp hq h
    refine join_head s t x8 i hi hx h8 hs ht H hp hq hr (Ev.congr (fun k => ?_) (join_skip s t x8 i hi hx h8 hs ht H p.1 q.1 r.1 p.2.1 q.2.1 r.2.1 r.2.2 true rfl))
    unfold joinTail
    rw [if_neg h]
  have bad2 : ∀ p q, Ev (fun k => lex_Scan.f k s) p → Ev (fun k => lex_Scan.f k t) q → q.2.2 ≠ -1 → Ev (fun k => L5_LexJoins.l0 k s x8 (i : Int)) true := by
    intro p q hp hq h
    by_cases h' : p.2.2 = -1
    · refine join_head s t x8 i hi hx h8 hs ht H hp hq hr (Ev.congr (fun k => ?_) (join_skip s t x8 i hi hx h8 hs ht H p.1 q.1 r.1 p.2.1 q.2.1 r.2.1 r.2.2 true rfl))
      unfold joinTail
      rw [if_pos h', if_neg h]
    · exact bad1 p q hp hq h'
  rcases both_scan t with ⟨a8, aE, _⟩ | ⟨us, f, a8, ar, aE, _⟩ | ⟨n, a8, af, aE, _⟩
  · obtain ⟨p, hp⟩ := scan_ev_any s
    exact bad2 _ _ hp aE (by show (8192 : Int) ≠ -1; decide)
  · rcases both_scan s with ⟨b8, bE, _⟩ | ⟨ts, e, b8, br, bE, _⟩ | ⟨n, b8, bf, bE, _⟩
    · exact bad1 _ _ bE aE (by show (8192 : Int) ≠ -1; decide)
    · by_cases hbig : s.size + 1 + t.size ≤ 8192
      · have hdl : (s ++ (⟨#[10]⟩ : ByteArray) ++ t).data.toList = s.data.toList ++ 10 :: t.data.toList := by simp
        have hw2 : wrap64 (wrap64 ((s.size : Int) + 1) + (t.size : Int)) = ((s.size + 1 + t.size : Nat) : Int) := by rw [w64 (x := (s.size : Int) + 1) (by omega) (by omega), w64 (by omega) (by omega)]; omega
        have lt := br.length_le
        have lu := ar.length_le
        have tx := congrArg List.length br.text
        have tu := congrArg List.length ar.text
        rw [List.length_append, data_length] at tx tu
        rw [data_length] at lt lu
        have go : ∀ (vs : List Tk) (g : List UInt8), Reads (s ++ (⟨#[10]⟩ : ByteArray) ++ t).data.toList vs g → ((us = [] ∧ vs = ts ∧ g = e ++ 10 :: f) ∨ ∃ u us', us = u :: us' ∧ u.before.length ≤ 8192 ∧ vs = ts ++ ⟨u.text, e ++ 10 :: u.before⟩ :: us' ∧ g = f) → Ev (fun k => L5_LexJoins.l0 k s x8 (i : Int)) true := by
          intro vs g hv hc
          refine join_head s t x8 i hi hx h8 hs ht H bE aE (scan_ok_ev' (by omega) hv) (Ev.congr (fun k => ?_) (join_both s t x8 i hi hx h8 hs ht H (by omega) (by omega) (by omega) (by omega) hc))
          unfold joinTail
          dsimp only
          rw [if_pos rfl, if_pos rfl, h8, hw2, decide_eq_false (by omega)]
        rcases reads_join br ar with ⟨hu, hj⟩ | ⟨u, us', hu, hj⟩
        · exact go _ _ (by rw [hdl]; exact hj) (.inl ⟨hu, rfl, rfl⟩)
        · refine go _ _ (by rw [hdl]; exact hj) (.inr ⟨u, us', hu, ?_, rfl, rfl⟩)
          obtain ⟨_, _, h3⟩ := ar.each u (by rw [hu]; exact List.mem_cons_self ..)
          rw [data_length] at h3; omega
      · refine join_head s t x8 i hi hx h8 hs ht H bE aE hr (Ev.congr (fun k => ?_) (join_skip s t x8 i hi hx h8 hs ht H (ts.map cv) (us.map cv) r.1 (bs e) (bs f) r.2.1 r.2.2 true rfl))
        unfold joinTail
        dsimp only
        have hw2 : wrap64 (wrap64 ((s.size : Int) + 1) + (t.size : Int)) = ((s.size + 1 + t.size : Nat) : Int) := by rw [w64 (x := (s.size : Int) + 1) (by omega) (by omega), w64 (by omega) (by omega)]; omega
        rw [if_pos rfl, if_pos rfl, h8, hw2, decide_eq_true (by omega)]
    · exact bad1 _ _ bE aE (by show (n : Int) ≠ -1; omega)
  · obtain ⟨p, hp⟩ := scan_ev_any s
    exact bad2 _ _ hp aE (by show (n : Int) ≠ -1; omega)
end
theorem LexJoins_pure : L5_LexJoins.Pure := by
  intro l0 l1 a2 hm h8 hwf hm1 h81 hwf1 ha
  obtain ⟨s, hs, hsf⟩ := sample_tells l0 (fun x hx => i64_of_wf (hwf x hx)) (by omega)
  obtain ⟨t, ht, htf⟩ := sample_tells l1 (fun x hx => i64_of_wf (hwf1 x hx)) (by omega)
  have hS : Ev (fun k => R5_Sample.f k l0) s := ⟨63, fun k hk => hsf k (by omega)⟩
  have hT : Ev (fun k => R5_Sample.f k l1) t := ⟨63, fun k hk => htf k (by omega)⟩
  have e2 : Ev (fun k => L5_LexJoins.l0 k s [t, a2] ((1 + 1 : Nat) : Int)) true := by
    refine Ev.step (fun k => ?_) (Ev.bind lives_ev (Ev.now true))
    simp only [L5_LexJoins.l0]
    rw [if_neg (by decide)]
  have e1 := join_round s a2 [t, a2] 1 (by omega) rfl rfl (by omega) ha e2
  have e0 := join_round s t [t, a2] 0 (by omega) rfl rfl (by omega) (by omega) e1
  exact Ev.rounds (Ev.bind (f := fun k t211 => (R5_Sample.f k l1).bind fun t212 => L5_LexJoins.l0 k t211 [t212, a2] 0) hS (Ev.bind (f := fun k t212 => L5_LexJoins.l0 k s [t212, a2] 0) hT e0))
end Go.Proofs.YteafkdcppbemdaaDoor.Q
