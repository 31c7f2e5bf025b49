import Derived.Test.YteafkdcppbemdaaDoorPlainHZ
import Derived.Test.YteafkdcppbemdaaDoorQ15
namespace Go.Proofs.YteafkdcppbemdaaDoor.Q
open Go.RowKit Go.Proofs.YteafkdcppbemdaaDoorW.PrintWords Go.Proofs.YteafkdcppbemdaaDoorW.PrintLast Go.Proofs.YteafkdcppbemdaaDoorW.PrintMore
set_option linter.unusedVariables false
set_option linter.unusedSimpArgs false
set_option linter.unusedSectionVars false

/-! ### The reference's Word, Blank, Text, Usual -/
theorem keywords_eq : R5_Keywords.f = some keysB := rfl
theorem ref_word_loop (s : ByteArray) (hs : s.size ≤ 9223372036854775000) (v : Int) (hv : Ev (fun k => R5_end.f k s 0) v) : ∀ (d i : Nat), i + d = 27 → Ev (fun k => R5_Word.l0 k s keysB (i : Int)) (!(keywordsL.drop i).contains s.data.toList && (v == (s.size : Int)))
  | 0, i, hi => by
    obtain rfl : i = 27 := by omega
    refine Ev.step (f := fun k => (R5_end.f k s 0).bind fun t358 => some (t358 == (s.size : Int))) (fun k => ?_) (Ev.bind (f := fun k t358 => some (t358 == (s.size : Int))) hv (Ev.congr (fun k => ?_) (Ev.now _)))
    · simp only [R5_Word.l0]; rw [if_neg (by decide)]
    · rfl
  | d + 1, i, hi => by
    have hlt : i < 27 := by omega
    have hw : wrap64 ((i : Int) + 1) = ((i + 1 : Nat) : Int) := by rw [w64 (by omega) (by omega)]; omega
    have hlen : (keysB.length : Int) = 27 := rfl
    have ha := keys_at i hlt
    have hss : s.toList = s.data.toList := ByteArray.toList_eq s
    rw [keys_drop i hlt, List.contains_cons]
    by_cases he : keywordsL.getD i [] = s.data.toList
    · refine Ev.step (f := fun k => some false) (fun k => ?_) (Ev.congr (fun k => ?_) (Ev.now _))
      · simp only [R5_Word.l0]
        rw [if_pos (by omega), if_pos (by omega), ha, hss, if_pos he]
      · rw [he]; simp
    · rw [beq_eq_false_iff_ne.2 (Ne.symm he), Bool.false_or]
      refine Ev.step (fun k => ?_) (ref_word_loop s hs v hv d (i + 1) (by omega))
      simp only [R5_Word.l0]
      rw [if_pos (by omega), if_pos (by omega), ha, hss, if_neg he, hw]
theorem ref_word (s : ByteArray) (hs : s.size ≤ 9223372036854775000) : Ev (fun k => R5_Word.f k s) (wordB s.data.toList) := by
  cases hd : s.data.toList with
  | nil =>
    have h0 : s.size = 0 := by rw [← data_length, hd]; rfl
    refine Ev.congr (f := fun k => R5_Word.j0 k s true) (fun k => ?_) (Ev.step (f := fun _ => some false) (fun k => ?_) (Ev.now _))
    · unfold R5_Word.f; rw [if_pos (by omega)]
    · simp only [R5_Word.j0]; rw [if_pos trivial]
  | cons c r =>
    obtain ⟨hlt, hb⟩ := bt_list s 0 c r hd
    have hb' : bt s 0 = (c.toNat : Int) := hb
    have hlen : ((c :: r).length : Int) = (s.size : Int) := by rw [← hd, data_length]
    refine Ev.congr (f := fun k => (R5_Kind.f k (c.toNat : Int)).bind fun t353 => R5_Word.j0 k s (t353 != 1)) (fun k => ?_) (Ev.bind (f := fun k t353 => R5_Word.j0 k s (t353 != 1)) (ref_kind c) ?_)
    · unfold R5_Word.f; rw [if_neg (by omega), if_pos (by omega), hb']
    · by_cases h1 : isLe c = true
      · have hk : (kindZ c != 1) = false := by simp [kindZ, h1]
        have hE := ref_end s hs 0 c r hd
        have hl := ref_word_loop s hs _ hE 27 0 (by omega)
        have e : wordB (c :: r) = (!(keywordsL.drop 0).contains s.data.toList && (endZ 0 (c :: r) == (s.size : Int))) := by
          show (isLetter (c.toNat : Int) && (tokZ (c :: r) == ((c :: r).length : Int)) && !isKey (c :: r)) = _
          unfold endZ isKey
          rw [show isLetter (c.toNat : Int) = true from h1, hlen, hd, List.drop_zero, Bool.true_and, Bool.and_comm]
          congr 1
          by_cases ht : 0 < tokZ (c :: r)
          · rw [if_pos ht]; simp
          · rw [if_neg ht]
            have := tok_nonneg (c :: r)
            rw [beq_eq_false_iff_ne.2 (by omega), beq_eq_false_iff_ne.2 (by omega)]
        rw [e, hk]
        refine Ev.step (fun k => ?_) hl
        simp only [R5_Word.j0]
        rw [if_neg (by decide), keywords_eq, Option.bind_some]
        rfl
      · have hk : (kindZ c != 1) = true := by
          unfold kindZ; rw [if_neg h1]; split <;> decide
        have e : wordB (c :: r) = false := by
          show (isLetter (c.toNat : Int) && (tokZ (c :: r) == ((c :: r).length : Int)) && !isKey (c :: r)) = _
          rw [show isLetter (c.toNat : Int) = false by simpa [isLe] using h1]; rfl
        rw [e, hk]
        refine Ev.step (f := fun _ => some false) (fun k => ?_) (Ev.now _)
        simp only [R5_Word.j0]; rw [if_pos trivial]
def blankB (s : ByteArray) : Bool := decide (s.size ≤ 8192) && (skip false s.data.toList == s.size)
theorem blank_tells (s : ByteArray) : lex_Blank.f s = some (blankB s) := by
  unfold lex_Blank.f blankB
  by_cases h : s.size ≤ 8192
  · rw [if_pos (by omega), decide_eq_true h, Bool.true_and]
    unfold lex_blanks.f
    rw [if_pos (by omega), Option.bind_some]
    congr 1
    rw [Bool.eq_iff_iff, beq_iff_eq, beq_iff_eq]; omega
  · rw [if_neg (by omega), decide_eq_false h, Bool.false_and]
theorem ref_blank (s : ByteArray) : Ev (fun k => R5_Blank.f k s) (blankB s) := by
  unfold blankB
  by_cases h : s.size ≤ 8192
  · have hk := ref_skip s (by omega) _ 0 false rfl (by omega)
    refine Ev.congr (f := fun k => (R5_skip.f k s 0).bind fun t359 => some (t359 == (s.size : Int))) (fun k => ?_) (Ev.bind (g := fun k => R5_skip.f k s 0) (f := fun k t359 => some (t359 == (s.size : Int))) hk (Ev.congr (f := fun _ => some _) (fun k => ?_) (Ev.now _)))
    · unfold R5_Blank.f; rw [if_pos (by omega)]
    · rw [decide_eq_true h, Bool.true_and, Nat.zero_add, List.drop_zero]
      congr 1
      rw [Bool.eq_iff_iff, beq_iff_eq, beq_iff_eq]; omega
  · refine Ev.congr (f := fun _ => some _) (fun k => ?_) (Ev.now _)
    unfold R5_Blank.f
    rw [if_neg (by omega), decide_eq_false h, Bool.false_and]
theorem rd56 (l : List S56) (i : Nat) (h : i < l.length) : rd_T56 l (i : Int) = l[i] := by simp [rd_T56, List.getElem?_eq_getElem h]
def textQ (l : List S56) : List UInt8 := l.flatMap fun t => t.f1.data.toList ++ t.f0.data.toList
theorem ref_text_loop (l : List S56) (e : ByteArray) (hl : (textQ l).length + e.size ≤ 9223372036854775000) (hn : l.length ≤ 9223372036854775000) : ∀ (d i : Nat) (acc : ByteArray), i + d = l.length → acc = bs (textQ (l.take i)) → Ev (fun k => R5_Text.l0 k l e acc (i : Int)) (bs (textQ l) ++ e) := by
  intro d
  induction d with
  | zero =>
    intro i acc hi ha
    have ht : l.take i = l := List.take_of_length_le (by omega)
    rw [ht] at ha
    refine Ev.step (f := fun _ => some _) (fun k => ?_) (Ev.now _)
    simp only [R5_Text.l0]
    rw [if_neg (by omega), ha, if_pos (by rw [size_mk]; omega)]
  | succ d ih =>
    intro i acc hi ha
    have hlt : i < l.length := by omega
    have hw : wrap64 ((i : Int) + 1) = ((i + 1 : Nat) : Int) := by rw [w64 (by omega) (by omega)]; omega
    have h1 : textQ (l.take (i + 1)) = textQ (l.take i) ++ (l[i].f1.data.toList ++ l[i].f0.data.toList) := by
      rw [List.take_succ_eq_append_getElem hlt, textQ, List.flatMap_append]; simp [textQ]
    have h2 : (textQ (l.take (i + 1))).length ≤ (textQ l).length := by
      conv => rhs; rw [← List.take_append_drop (i + 1) l]
      simp only [textQ, List.flatMap_append, List.length_append]; omega
    rw [h1] at h2
    simp only [List.length_append, data_length] at h2
    have hacc : acc.size = (textQ (l.take i)).length := by rw [ha, size_mk]
    refine Ev.step (fun k => ?_) (ih (i + 1) (acc ++ l[i].f1 ++ l[i].f0) (by omega) ?_)
    · simp only [R5_Text.l0]
      rw [if_pos (by omega), if_pos (by omega), rd56 l i hlt, if_pos (by omega), if_pos (by rw [ByteArray.size_append]; omega), hw]
    · rw [h1, ha, ← bs_append, ← bs_append, bs_of, bs_of]
      apply bs_inj; simp
theorem ref_text (l : List S56) (e : ByteArray) (hl : (textQ l).length + e.size ≤ 9223372036854775000) (hn : l.length ≤ 9223372036854775000) : Ev (fun k => R5_Text.f k l e) (bs (textQ l) ++ e) := ref_text_loop l e hl hn l.length 0 _ (by omega) rfl
theorem ref_usual_loop (ws : List ByteArray) (hl : ws.length ≤ 4398046511104) : ∀ (d i : Nat) (acc : List ByteArray), i + d = ws.length + 1 → 1 ≤ i → acc = (List.range i).map (gapAt ws) → Ev (fun k => R5_Usual.l0 k ws acc (i : Int)) (usualB ws) := by
  intro d
  induction d with
  | zero =>
    intro i acc hi h1 ha
    refine Ev.step (f := fun _ => some _) (fun k => ?_) (Ev.now _)
    simp only [R5_Usual.l0]
    rw [if_neg (by omega), ha, show i = ws.length + 1 by omega]; rfl
  | succ d ih =>
    intro i acc hi h1 ha
    have hw : wrap64 ((i : Int) + 1) = ((i + 1 : Nat) : Int) := by rw [w64 (by omega) (by omega)]; omega
    have hw1 : wrap64 ((i : Int) - 1) = ((i - 1 : Nat) : Int) := by rw [w64 (by omega) (by omega)]; omega
    have hal : acc.length = i := by rw [ha]; simp
    have next : ∀ g : ByteArray, gapAt ws i = g → Ev (fun k => (if acc.length < 8796093022208 then (R5_Usual.l0 k ws (acc ++ [g]) (wrap64 ((i : Int) + 1))) else (none))) (usualB ws) := by
      intro g hg
      refine Ev.congr (fun k => ?_) (ih (i + 1) (acc ++ [g]) (by omega) (by omega) (by rw [ha, ← hg, List.range_succ, List.map_append]; rfl))
      rw [if_pos (by omega), hw]
    have hxa : ∀ j : Nat, (rdOf ByteArray.empty ws (j : Int)).toList = (wAt ws j).data.toList := fun j => by rw [rdOf_wAt, ByteArray.toList_eq]
    have tight : ∀ b : Bool, b = true → gapAt ws i = bs [] → Ev (fun k => R5_Usual.j1 k ws acc (i : Int) (⟨#[32]⟩ : ByteArray) b) (usualB ws) := by
      intro b hb hg
      refine Ev.step (fun k => ?_) (next (bs []) hg)
      simp only [R5_Usual.j1]
      rw [if_pos hb]; rfl
    have head : ∀ (b : Bool), Ev (fun k => R5_Usual.j1 k ws acc (i : Int) (⟨#[32]⟩ : ByteArray) b) (usualB ws) →
        (b = (decide ((i : Int) = (ws.length : Int)) || decide ((wAt ws (i - 1)).data.toList = [40]) || decide ((wAt ws (i - 1)).data.toList = [91]) || decide ((wAt ws (i - 1)).data.toList = [46]))) → Ev (fun k => R5_Usual.l0 k ws acc (i : Int)) (usualB ws) := by
      intro b hj hb
      refine Ev.step (fun k => ?_) hj
      simp only [R5_Usual.l0]
      rw [if_pos (by omega), hw1, if_pos (by omega), if_pos (by omega), hxa]
      by_cases a1 : (i : Int) = (ws.length : Int)
      · rw [if_pos a1, hb]; simp [a1]
      · rw [if_neg a1]
        by_cases a2 : (wAt ws (i - 1)).data.toList = [40]
        · rw [if_pos a2, hb]; simp [a2]
        · rw [if_neg a2]
          by_cases a3 : (wAt ws (i - 1)).data.toList = [91]
          · rw [if_pos a3, hb]; simp [a3]
          · rw [if_neg a3, hb]
            congr 1
            rw [decide_eq_false a1, decide_eq_false a2, decide_eq_false a3]
            by_cases a4 : (wAt ws (i - 1)).data.toList = [46] <;> simp [a4]
    by_cases hend : (i : Int) = (ws.length : Int)
    · refine head true (tight _ rfl ?_) (by simp [hend])
      unfold gapAt; rw [if_pos (.inr (by omega))]
    · have hg : gapAt ws i = if tightZ (wAt ws (i - 1)).data.toList (wAt ws i).data.toList then bs [] else bs [32] := by unfold gapAt; rw [if_neg (by omega)]
      by_cases hA : (decide ((wAt ws (i - 1)).data.toList = [40]) || decide ((wAt ws (i - 1)).data.toList = [91]) || decide ((wAt ws (i - 1)).data.toList = [46])) = true
      · refine head true (tight _ rfl ?_) ?_
        · rw [hg, if_pos]
          unfold tightZ
          simp only [Bool.or_eq_true] at hA ⊢
          rcases hA with (h | h) | h <;> simp [h]
        · rw [Bool.or_assoc, Bool.or_assoc, ← Bool.or_assoc (decide ((wAt ws (i - 1)).data.toList = [40])), hA, Bool.or_true]
      · have hA' := Bool.eq_false_iff.2 hA
        refine head false ?_ (by rw [Bool.or_assoc, Bool.or_assoc, ← Bool.or_assoc (decide ((wAt ws (i - 1)).data.toList = [40])), hA', decide_eq_false hend]; rfl)
        have tz : tightZ (wAt ws (i - 1)).data.toList (wAt ws i).data.toList = (decide ((wAt ws i).data.toList = [41]) || decide ((wAt ws i).data.toList = [93]) || decide ((wAt ws i).data.toList = [44]) || decide ((wAt ws i).data.toList = [46])) := by
          unfold tightZ
          simp only [Bool.or_eq_false_iff] at hA'
          rw [hA'.1.1, hA'.1.2, hA'.2]; simp
        by_cases b1 : (wAt ws i).data.toList = [41]
        · refine Ev.step (fun k => ?_) (next (bs []) (by rw [hg, tz]; simp [b1]))
          simp only [R5_Usual.j1]
          rw [if_neg (by decide), if_pos (by omega), if_pos (by omega), hxa, if_pos b1]; rfl
        · by_cases b2 : (wAt ws i).data.toList = [93]
          · refine Ev.step (fun k => ?_) (next (bs []) (by rw [hg, tz]; simp [b2]))
            simp only [R5_Usual.j1]
            rw [if_neg (by decide), if_pos (by omega), if_pos (by omega), hxa, if_neg b1, if_pos b2]; rfl
          · by_cases b3 : (wAt ws i).data.toList = [44]
            · refine Ev.step (fun k => ?_) (next (bs []) (by rw [hg, tz]; simp [b3]))
              simp only [R5_Usual.j1]
              rw [if_neg (by decide), if_pos (by omega), if_pos (by omega), hxa, if_neg b1, if_neg b2, if_pos b3]; rfl
            · by_cases b4 : (wAt ws i).data.toList = [46]
              · refine Ev.step (fun k => ?_) (next (bs []) (by rw [hg, tz]; simp [b4]))
                simp only [R5_Usual.j1]
                rw [if_neg (by decide), if_pos (by omega), if_pos (by omega), hxa, if_neg b1, if_neg b2, if_neg b3, if_pos b4]; rfl
              · refine Ev.step (fun k => ?_) (next (bs [32]) (by rw [hg, tz]; simp [b1, b2, b3, b4]))
                simp only [R5_Usual.j1]
                rw [if_neg (by decide), if_pos (by omega), if_pos (by omega), hxa, if_neg b1, if_neg b2, if_neg b3, if_neg b4]; rfl
theorem ref_usual (ws : List ByteArray) (hl : ws.length ≤ 4398046511104) : Ev (fun k => R5_Usual.f k ws) (usualB ws) := by
  refine ref_usual_loop ws hl ws.length 1 _ (by omega) (by omega) ?_
  simp [gapAt, bs]
theorem texts_loop (a : List ByteArray) (hl : a.length ≤ 9223372036854775000) : ∀ (d i : Nat), i + d = a.length → Ev (fun k => R1_SameTexts.l0 k a a (i : Int)) true := by
  intro d
  induction d with
  | zero =>
    intro i hi
    refine Ev.step (f := fun _ => some _) (fun k => ?_) (Ev.now _)
    simp only [R1_SameTexts.l0]
    rw [if_neg (by omega)]
  | succ d ih =>
    intro i hi
    have hw : wrap64 ((i : Int) + 1) = ((i + 1 : Nat) : Int) := by rw [w64 (by omega) (by omega)]; omega
    refine Ev.step (fun k => ?_) (ih (i + 1) (by omega))
    simp only [R1_SameTexts.l0]
    rw [if_pos (by omega), if_pos (by omega), if_pos (by omega), if_pos trivial, hw]
theorem texts_self (a : List ByteArray) (hl : a.length ≤ 9223372036854775000) : Ev (fun k => R1_SameTexts.f k a a) true := by
  refine Ev.congr (fun k => ?_) (texts_loop a hl a.length 0 (by omega))
  unfold R1_SameTexts.f
  rw [if_pos rfl]; rfl
/-! ### The law -/
def wGap (x : ByteArray) (i : Nat) : ByteArray := (R5_Gap.f (wrap64 ((x.size : Int) + (i : Int))) 0).getD (bs [])
theorem wGap_tells (x : ByteArray) (i : Nat) (h : x.size + i ≤ 9223372036854775807) : R5_Gap.f (wrap64 ((x.size : Int) + (i : Int))) 0 = some (wGap x i) ∧ (wGap x i).size ≤ 14 ∧ GapOk (wGap x i) := by
  have hw : wrap64 ((x.size : Int) + (i : Int)) = (x.size : Int) + (i : Int) := w64 (by omega) (by omega)
  obtain ⟨r, h1, h2, h3, _⟩ := gap_tells ((x.size : Int) + (i : Int)) 0 ⟨by omega, by omega⟩
  have e : wGap x i = r := by unfold wGap; rw [hw, h1]; rfl
  rw [e, hw]; exact ⟨h1, h2, h3⟩
def wTok (ws : List ByteArray) (j : Nat) : S38 := ⟨wAt ws j, wGap (wAt ws j) j⟩
def wToks (s : ByteArray) (ws : List ByteArray) (i : Nat) : List S38 := ⟨s, bs [35]⟩ :: (List.range i).map (wTok ws)
theorem wToks_succ (s ws i) : wToks s ws (i + 1) = wToks s ws i ++ [wTok ws i] := by simp [wToks, List.range_succ]
def sumSz (ws : List ByteArray) : Nat := (ws.map ByteArray.size).sum
theorem sumSz_at : ∀ (ws : List ByteArray) (i : Nat), (wAt ws i).size ≤ sumSz ws
  | [], i => by simp [wAt, bs, sumSz, ByteArray.size]
  | x :: ws, 0 => by simp only [wAt, sumSz, List.getD_cons_zero, List.map_cons, List.sum_cons]; omega
  | x :: ws, i + 1 => by
    have := sumSz_at ws i
    simp only [wAt, sumSz, List.getD_cons_succ, List.map_cons, List.sum_cons] at *; omega
theorem toks_len (s : ByteArray) (ws : List ByteArray) (hw : ws.length ≤ 100) (ht : sumSz ws ≤ 3000000) : ∀ i, i ≤ ws.length → (textB (wToks s ws i)).length ≤ 1 + s.size + i * 3000014
  | 0, _ => by
    show (textB [⟨s, bs [35]⟩]).length ≤ _
    simp only [textB, List.flatMap_cons, List.flatMap_nil, List.append_nil, List.length_append, data_length, size_mk, List.length_cons, List.length_nil]
    omega
  | i + 1, h => by
    have ih := toks_len s ws hw ht i (by omega)
    have h1 := sumSz_at ws i
    obtain ⟨_, h2, _⟩ := wGap_tells (wAt ws i) i (by omega)
    rw [wToks_succ]
    have : (textB (wToks s ws i ++ [wTok ws i])).length = (textB (wToks s ws i)).length + ((wGap (wAt ws i) i).size + (wAt ws i).size) := by
      simp only [textB, List.flatMap_append, List.length_append, List.flatMap_cons, List.flatMap_nil, List.append_nil, data_length, wTok]
    rw [this]; omega
theorem textQ_map (l : List S38) : textQ (l.map fun t => (⟨t.f0, t.f1⟩ : S56)) = textB l := by simp only [textQ, textB, List.flatMap_map]
def wF6 (s : ByteArray) (ws : List ByteArray) (i : Nat) (t418 : Bool) (k : Nat) (t419 : Bool) : Option Bool := L5_LexWords.j3 k s ws (wToks s ws i) (i : Int) (wGap (wAt ws i) i) (t418 != t419)
def wF5 (s : ByteArray) (ws : List ByteArray) (i : Nat) (k : Nat) (t418 : Bool) : Option Bool := (R5_Blank.f k ((wGap (wAt ws i) i ++ (⟨#[32, 35]⟩ : ByteArray)) ++ s)).bind (wF6 s ws i t418 k)
def wF4 (s : ByteArray) (ws : List ByteArray) (i : Nat) (k : Nat) (t417 : Bool) : Option Bool := (if t417 = true then (if (wGap (wAt ws i) i).size + 2 ≤ 9223372036854775807 then (if (wGap (wAt ws i) i ++ (⟨#[32, 35]⟩ : ByteArray)).size + s.size ≤ 9223372036854775807 then ((lex_Blank.f ((wGap (wAt ws i) i ++ (⟨#[32, 35]⟩ : ByteArray)) ++ s)).bind (wF5 s ws i k)) else (none)) else (none)) else (L5_LexWords.j3 k s ws (wToks s ws i) (i : Int) (wGap (wAt ws i) i) true))
def wF3 (s : ByteArray) (ws : List ByteArray) (i : Nat) (t414 : Bool) (k : Nat) (t416 : Bool) : Option Bool := (if (t414 != t416) = true then (L5_LexWords.j3 k s ws (wToks s ws i) (i : Int) (wGap (wAt ws i) i) true) else ((lex_Blank.f (wGap (wAt ws i) i)).bind (wF4 s ws i k)))
def wF2 (s : ByteArray) (ws : List ByteArray) (i : Nat) (k : Nat) (t414 : Bool) : Option Bool := (R5_Blank.f k (wAt ws i)).bind (wF3 s ws i t414 k)
def wF1 (s : ByteArray) (ws : List ByteArray) (i : Nat) (k : Nat) (t412 : Bool) : Option Bool := (if (wordB (wAt ws i).data.toList != t412) = true then (L5_LexWords.j3 k s ws (wToks s ws i) (i : Int) (wGap (wAt ws i) i) true) else ((lex_Blank.f (wAt ws i)).bind (wF2 s ws i k)))
section
variable (s : ByteArray) (ws : List ByteArray) (hs : s.size ≤ 1048576) (hw : ws.length ≤ 100) (ht : sumSz ws ≤ 3000000)
include hs hw ht
def wordsEnd (s : ByteArray) (x9 : List S38) (k : Nat) (t434 : Bool) (t427 : ByteArray) : Option Bool := (if t434 = true then ((lex_Usual.f k ([] : List ByteArray)).bind fun t435 => (if (t435.length : Int) = 1 then ((lex_Text.f x9 s).bind fun t438 => (if t438.toList = t427.toList then ((L5_lives.f k).bind fun t439 => (some t439)) else (some false))) else (some false))) else (some false))
theorem words_end : Ev (fun k => L5_LexWords.l1 k s ws (wToks s ws ws.length) ((ws.length : Nat) : Int)) true := by
  have hlen := toks_len s ws hw ht ws.length (Nat.le_refl _)
  have hll : ws.length * 3000014 ≤ 300001400 := by omega
  have hn : (wToks s ws ws.length).length = ws.length + 1 := by simp [wToks]
  generalize wToks s ws ws.length = T at *
  have p := plain_ev T (by omega)
  have q := ref_text (T.map fun t => (⟨t.f0, t.f1⟩ : S56)) s (by rw [textQ_map]; omega) (by rw [List.length_map]; omega)
  rw [textQ_map] at q
  have u1 := usual_ev ws (by omega)
  have u2 := ref_usual ws (by omega)
  have u3 := texts_self (usualB ws) (by rw [usualB_length]; omega)
  have u0 := usual_ev [] (by decide)
  have tx : lex_Text.f T s = some (bs (textB T) ++ s) := by unfold lex_Text.f; rw [if_pos ⟨by omega, by omega⟩]
  refine Ev.step (f := fun k => (L5_plain.f k T).bind fun t424 => ((R5_Text.f k t424 s).bind fun t427 => ((lex_Usual.f k ws).bind fun t428 => ((R5_Usual.f k ws).bind fun t431 => ((R1_SameTexts.f k t428 t431).bind fun t434 => wordsEnd s T k t434 t427))))) (fun k => ?_)
    (Ev.bind (f := fun k t424 => ((R5_Text.f k t424 s).bind fun t427 => ((lex_Usual.f k ws).bind fun t428 => ((R5_Usual.f k ws).bind fun t431 => ((R1_SameTexts.f k t428 t431).bind fun t434 => wordsEnd s T k t434 t427))))) p
      (Ev.bind (f := fun k t427 => ((lex_Usual.f k ws).bind fun t428 => ((R5_Usual.f k ws).bind fun t431 => ((R1_SameTexts.f k t428 t431).bind fun t434 => wordsEnd s T k t434 t427)))) q
        (Ev.bind (f := fun k t428 => ((R5_Usual.f k ws).bind fun t431 => ((R1_SameTexts.f k t428 t431).bind fun t434 => wordsEnd s T k t434 (bs (textB T) ++ s)))) u1
          (Ev.bind (f := fun k t431 => ((R1_SameTexts.f k (usualB ws) t431).bind fun t434 => wordsEnd s T k t434 (bs (textB T) ++ s))) u2
            (Ev.bind (f := fun k t434 => wordsEnd s T k t434 (bs (textB T) ++ s)) u3
              (Ev.congr (f := fun k => (lex_Usual.f k ([] : List ByteArray)).bind fun t435 => (if (t435.length : Int) = 1 then ((lex_Text.f T s).bind fun t438 => (if t438.toList = (bs (textB T) ++ s).toList then ((L5_lives.f k).bind fun t439 => (some t439)) else (some false))) else (some false))) (fun k => ?_)
                (Ev.bind (f := fun k t435 => (if (t435.length : Int) = 1 then ((lex_Text.f T s).bind fun t438 => (if t438.toList = (bs (textB T) ++ s).toList then ((L5_lives.f k).bind fun t439 => (some t439)) else (some false))) else (some false))) u0
                  (Ev.congr (fun k => ?_) (Ev.bind lives_ev (Ev.now true))))))))))
  · simp only [L5_LexWords.l1]
    rw [if_neg (by omega)]
    rfl
  · unfold wordsEnd; rw [if_pos rfl]
  · rw [if_pos (by rfl), tx, Option.bind_some, if_pos rfl]
theorem words_loop : ∀ (d i : Nat), i + d = ws.length → Ev (fun k => L5_LexWords.l1 k s ws (wToks s ws i) (i : Int)) true := by
  intro d
  induction d with
  | zero =>
    intro i hi
    obtain rfl : i = ws.length := by omega
    exact words_end s ws hs hw ht
  | succ d ih =>
    intro i hi
    have hwi : wrap64 ((i : Int) + 1) = ((i + 1 : Nat) : Int) := by rw [w64 (by omega) (by omega)]; omega
    have hx := sumSz_at ws i
    obtain ⟨g1, g2, g3⟩ := wGap_tells (wAt ws i) i (by omega)
    have wd : lex_Word.f (wAt ws i) = some (wordB (wAt ws i).data.toList) := by unfold lex_Word.f; rw [if_pos (by omega)]
    have rw_ := ref_word (wAt ws i) (by omega)
    have rb := ref_blank (wAt ws i)
    have gb : lex_Blank.f (wGap (wAt ws i) i) = some true := blank_true (c := false) (by omega) g3
    have z1 : (wGap (wAt ws i) i ++ (⟨#[32, 35]⟩ : ByteArray)).size = (wGap (wAt ws i) i).size + 2 := ByteArray.size_append
    have rb2 := ref_blank ((wGap (wAt ws i) i ++ (⟨#[32, 35]⟩ : ByteArray)) ++ s)
    have hn : (wToks s ws i).length = i + 1 := by simp [wToks]
    have j3 : Ev (fun k => L5_LexWords.j3 k s ws (wToks s ws i) (i : Int) (wGap (wAt ws i) i) (blankB ((wGap (wAt ws i) i ++ (⟨#[32, 35]⟩ : ByteArray)) ++ s) != blankB ((wGap (wAt ws i) i ++ (⟨#[32, 35]⟩ : ByteArray)) ++ s))) true := by
      refine Ev.step (fun k => ?_) (ih (i + 1) (by omega))
      simp only [L5_LexWords.j3]
      rw [if_neg (by simp), if_pos (by omega), if_pos (by omega), if_pos (by omega), hwi, wToks_succ, rdOf_wAt]
      rfl
    have e1 : Ev (fun _ : Nat => lex_Blank.f (wAt ws i)) (blankB (wAt ws i)) := Ev.congr (fun _ => blank_tells _) (Ev.now _)
    have e2 : Ev (fun _ : Nat => lex_Blank.f (wGap (wAt ws i) i)) true := Ev.congr (fun _ => gb) (Ev.now _)
    have e3 : Ev (fun _ : Nat => lex_Blank.f ((wGap (wAt ws i) i ++ (⟨#[32, 35]⟩ : ByteArray)) ++ s)) (blankB ((wGap (wAt ws i) i ++ (⟨#[32, 35]⟩ : ByteArray)) ++ s)) := Ev.congr (fun _ => blank_tells _) (Ev.now _)
    have E5 : Ev (fun k => wF4 s ws i k true) true := Ev.congr (f := fun k => (lex_Blank.f ((wGap (wAt ws i) i ++ (⟨#[32, 35]⟩ : ByteArray)) ++ s)).bind (wF5 s ws i k)) (fun k => by
        unfold wF4; rw [if_pos rfl, if_pos (by omega), if_pos (by omega)]) (Ev.bind (f := wF5 s ws i) e3 (Ev.bind (f := wF6 s ws i (blankB ((wGap (wAt ws i) i ++ (⟨#[32, 35]⟩ : ByteArray)) ++ s))) rb2 j3))
    have E3 : Ev (fun k => wF3 s ws i (blankB (wAt ws i)) k (blankB (wAt ws i))) true := Ev.congr (f := fun k => (lex_Blank.f (wGap (wAt ws i) i)).bind (wF4 s ws i k)) (fun k => by unfold wF3; rw [if_neg (by simp)]) (Ev.bind (f := wF4 s ws i) e2 E5)
    have E1 : Ev (fun k => wF1 s ws i k (wordB (wAt ws i).data.toList)) true := Ev.congr (f := fun k => (lex_Blank.f (wAt ws i)).bind (wF2 s ws i k)) (fun k => by unfold wF1; rw [if_neg (by simp)]) (Ev.bind (f := wF2 s ws i) e1 (Ev.bind (f := wF3 s ws i (blankB (wAt ws i))) rb E3))
    refine Ev.step (f := fun k => (R5_Word.f k (wAt ws i)).bind (wF1 s ws i k)) (fun k => ?_) (Ev.bind (f := wF1 s ws i) rw_ E1)
    simp only [L5_LexWords.l1]
    rw [if_pos (by omega), if_pos (by omega), rdOf_wAt, g1, Option.bind_some, wd, Option.bind_some]
    rfl
end
theorem keys_total : sumSz keysB ≤ 200 := by decide +kernel
theorem words_head (s : ByteArray) (ws : List ByteArray) (hs : s.size ≤ 1048576) (hw : ws.length ≤ 60) (ht : sumSz ws ≤ 2900000) : Ev (fun k => L5_LexWords.j1 k s ws) true := by
  have hk := keys_total
  have hkl : keysB.length = 27 := rfl
  refine Ev.step (fun k => ?_) (words_loop s (ws ++ keysB) hs (by rw [List.length_append]; omega) (by simp only [sumSz, List.map_append, List.sum_append] at *; omega) (ws ++ keysB).length 0 (by omega))
  simp only [L5_LexWords.j1]
  rw [keywords_eq, Option.bind_some, if_pos (by omega)]
  rfl
theorem words_raw (s : ByteArray) (raw : List ByteArray) (hs : s.size ≤ 1048576) (hr : sumSz raw ≤ 1048576) (hrl : raw.length ≤ 1048576) (ws : List ByteArray) (hw : ws.length ≤ 31) (ht : sumSz ws ≤ 1800000) :
    ∀ (d i : Nat), i + d = 20 → i ≤ raw.length → Ev (fun k => L5_LexWords.l0 k raw s (ws ++ raw.take i) (i : Int)) true := by
  have tk : ∀ i, sumSz (raw.take i) ≤ 1048576 := fun i => by
    have e : sumSz raw = sumSz (raw.take i) + sumSz (raw.drop i) := by
      conv => lhs; rw [← List.take_append_drop i raw]
      simp only [sumSz, List.map_append, List.sum_append]
    omega
  have fin : ∀ i, i ≤ 20 → Ev (fun k => L5_LexWords.j1 k s (ws ++ raw.take i)) true := fun i hi => by
    have := tk i
    refine words_head s _ hs (by rw [List.length_append, List.length_take]; omega) ?_
    simp only [sumSz, List.map_append, List.sum_append] at *; omega
  intro d
  induction d with
  | zero =>
    intro i hi hil
    refine Ev.step (fun k => ?_) (fin i (by omega))
    simp only [L5_LexWords.l0]
    rw [if_neg (show ¬ (i : Int) < 20 by omega)]
    split <;> rfl
  | succ d ih =>
    intro i hi hil
    have hwi : wrap64 ((i : Int) + 1) = ((i + 1 : Nat) : Int) := by rw [w64 (by omega) (by omega)]; omega
    by_cases hlt : i < raw.length
    · refine Ev.step (fun k => ?_) (ih (i + 1) (by omega) (by omega))
      simp only [L5_LexWords.l0]
      rw [if_pos (by omega), if_pos (by omega), if_pos (by omega), if_pos (by rw [List.length_append, List.length_take]; omega), hwi, List.take_succ_eq_append_getElem hlt, List.append_assoc]
      rw [show rdOf ByteArray.empty raw (i : Int) = raw[i] by simp [rdOf, List.getElem?_eq_getElem hlt]]
    · refine Ev.step (fun k => ?_) (fin i (by omega))
      simp only [L5_LexWords.l0]
      rw [if_neg (by omega)]
def WordsPure : Prop := ∀ (l0 : List Int) (l1 : List ByteArray) (a2 : ByteArray), l0.length ≤ 9223372036854775000 → (∀ x ∈ l0, (Lit.int .i64 x).wf = true) → sumSz l1 ≤ 1048576 → l1.length ≤ 1048576 → a2.size ≤ 1048576 → ∃ k, L5_LexWords.f k l0 l1 a2 = some true
theorem pieces_total : ∀ (ws : List ByteArray), (∀ x ∈ ws, IsPiece x) → sumSz ws ≤ 16 * ws.length
  | [], _ => by simp [sumSz]
  | x :: ws, h => by
    have h1 := piece_size (h x (List.mem_cons_self ..))
    have h2 := pieces_total ws (fun y hy => h y (List.mem_cons_of_mem _ hy))
    simp only [sumSz, List.map_cons, List.sum_cons, List.length_cons] at *; omega
theorem LexWords_pure : WordsPure := by
  intro l0 l1 a2 hm hwf ht hl hs
  obtain ⟨ws, w1, w2, w3⟩ := pieces_ev l0 (fun x hx => i64_of_wf (hwf x hx)) hm
  have hp := pieces_total ws w2
  have h0 := words_raw a2 l1 hs ht hl (ws ++ [a2]) (by rw [List.length_append]; simp; omega) (by simp only [sumSz, List.map_append, List.sum_append, List.map_cons, List.map_nil, List.sum_cons, List.sum_nil] at *; omega) 20 0 (by omega) (by omega)
  refine Ev.rounds (Ev.bind (g := fun k => R5_Pieces.f k l0) (f := fun k (t388 : List ByteArray) => (if t388.length < 8796093022208 then (L5_LexWords.l0 k l1 a2 (t388 ++ [a2]) 0) else (none))) w3 (Ev.congr (fun k => ?_) h0))
  rw [if_pos (by omega), List.take_zero, List.append_nil]
  rfl
end Go.Proofs.YteafkdcppbemdaaDoor.Q
