import Derived.Test.YteafkdcppbemdaaDoorPlainD
import Derived.Test.YteafkdcppbemdaaDoorPlainES
import Derived.Test.YteafkdcppbemdaaDoorPlainFZ
import Derived.Test.YteafkdcppbemdaaDoorQ17
namespace Go.Proofs.YteafkdcppbemdaaDoor.Q
open Go.RowKit Go.Proofs.YteafkdcppbemdaaDoorW.PrintWords Go.Proofs.YteafkdcppbemdaaDoorW.PrintLast Go.Proofs.YteafkdcppbemdaaDoorW.PrintMore
set_option linter.unusedVariables false
set_option linter.unusedSimpArgs false

def scEnd (x : List ByteArray) (i : Int) (k : Nat) (q : Bool) : Option Bool := L5_LexScans.j1 k x i (!q)
def scTwo (x : List ByteArray) (i : Int) (k : Nat) (p : List S38 × ByteArray × Int) (q : List S56 × ByteArray × Int) : Option Bool := (if p.2.2 = q.2.2 then (if p.2.1.toList = q.2.1.toList then ((L5_plain.f k p.1).bind fun t233 => ((R5_Same.f k t233 q.1).bind (scEnd x i k))) else (L5_LexScans.j1 k x i true)) else (L5_LexScans.j1 k x i true))
theorem scan_round (x : List ByteArray) (i : Nat) (hi : i < x.length) (hl : x.length ≤ 100) (H : Ev (fun k => L5_LexScans.l0 k x ((i + 1 : Nat) : Int)) true) : Ev (fun k => L5_LexScans.l0 k x (i : Int)) true := by
  have hw : wrap64 ((i : Int) + 1) = ((i + 1 : Nat) : Int) := by rw [w64 (by omega) (by omega)]; omega
  have fin : Ev (fun k => scEnd x (i : Int) k true) true := by
    refine Ev.step (fun k => ?_) H
    unfold scEnd
    simp only [L5_LexScans.j1]
    rw [if_neg (by decide), hw]
  have go : ∀ (s : ByteArray) (a : List S38) (b : List S56) (e : ByteArray) (n : Int), rdOf ByteArray.empty x (i : Int) = s → a.length ≤ 4398046511104 → (a.map fun t => (⟨t.f0, t.f1⟩ : S56)) = b → Ev (fun k => lex_Scan.f k s) (a, e, n) → Ev (fun k => R5_Scan.f k s) (b, e, n) → Ev (fun k => L5_LexScans.l0 k x (i : Int)) true := by
    intro s a b e n hs hal hab h1 h2
    have hp := plain_ev a hal
    rw [hab] at hp
    have hq := same_self b (by rw [← hab, List.length_map]; omega)
    refine Ev.step (f := fun k => (lex_Scan.f k s).bind fun p => (R5_Scan.f k s).bind (scTwo x (i : Int) k p)) (fun k => ?_)
      (Ev.bind (f := fun k p => (R5_Scan.f k s).bind (scTwo x (i : Int) k p)) h1 (Ev.bind (f := fun k q => scTwo x (i : Int) k (a, e, n) q) h2
        (Ev.congr (f := fun k => (L5_plain.f k a).bind fun t233 => (R5_Same.f k t233 b).bind (scEnd x (i : Int) k)) (fun k => ?_) (Ev.bind (f := fun k t233 => (R5_Same.f k t233 b).bind (scEnd x (i : Int) k)) hp (Ev.bind (f := scEnd x (i : Int)) hq fin)))))
    · simp only [L5_LexScans.l0]
      rw [if_pos (by omega), if_pos (Int.natCast_nonneg _), hs]
      rfl
    · unfold scTwo
      rw [if_pos rfl, if_pos rfl]
  rcases both_scan (rdOf ByteArray.empty x (i : Int)) with ⟨h8, hE, hF⟩ | ⟨ts, e, h8, hr, hE, hF⟩ | ⟨n, h8, hf, hE, hF⟩
  · exact go _ _ _ _ _ rfl (Nat.zero_le _) rfl hE hF
  · have hlen := hr.length_le
    rw [data_length] at hlen
    refine go _ _ _ _ _ rfl (by rw [List.length_map]; omega) ?_ hE hF
    rw [List.map_map]; rfl
  · exact go _ _ _ _ _ rfl (Nat.zero_le _) rfl hE hF
theorem scan_all (x : List ByteArray) (hl : x.length ≤ 100) : ∀ (d i : Nat), i + d = x.length → Ev (fun k => L5_LexScans.l0 k x (i : Int)) true := by
  intro d
  induction d with
  | zero =>
    intro i hi
    refine Ev.step (fun k => ?_) (Ev.bind lives_ev (Ev.now true))
    simp only [L5_LexScans.l0]
    rw [if_neg (by omega)]
  | succ d ih =>
    intro i hi
    exact scan_round x i (by omega) hl (ih (i + 1) (by omega))
theorem LexScans_pure : L5_LexScans.Pure := by
  intro l0 a1 a2 a3 hm h8 hwf ha h2 h3
  have hI2 := i64_of_wf h2
  obtain ⟨s, hs, hsf⟩ := sample_tells l0 (fun x hx => i64_of_wf (hwf x hx)) (by omega)
  have hS : Ev (fun k => R5_Sample.f k l0) s := ⟨63, fun k hk => hsf k (by omega)⟩
  have z : (s ++ (⟨#[32]⟩ : ByteArray)).size = s.size + 1 := ByteArray.size_append
  have hbl : (bytesOf (s ++ (⟨#[32]⟩ : ByteArray))).length = s.size + 1 := by rw [bytesOf_length, z]
  obtain ⟨t, ht, t0, t1⟩ := around_tells a2 ((bytesOf (s ++ (⟨#[32]⟩ : ByteArray))).length : Int) hI2 (by omega)
  have hw : wrap64 ((s.size : Int) + 1) = (s.size : Int) + 1 := w64 (by omega) (by omega)
  obtain ⟨u, hu, u0, u1⟩ := around_tells a2 ((s.size : Int) + 1) hI2 (by omega)
  have hA := scan_all [s, strOfNums ((bytesOf (s ++ (⟨#[32]⟩ : ByteArray))).set (t : Int).toNat a3), a1, s ++ a1, s.extract 0 (u : Int).toNat, (⟨#[]⟩ : ByteArray)] (by show 6 ≤ 100; decide) 6 0 rfl
  unfold L5_LexScans.f
  refine Ev.rounds (Ev.bind (g := fun k => R5_Sample.f k l0) (f := fun k t210 => (if t210.size + 1 ≤ 9223372036854775807 then (if 5 ≤ 281474976710656 then ((some (bytesOf (t210 ++ (⟨#[32]⟩ : ByteArray)) : List Int)).bind fun y211 => ((R1_Around.f a2 (y211.length : Int)).bind fun t214 => (if 0 ≤ t214 then (if t214 < (y211.length : Int) then (if t210.size + a1.size ≤ 9223372036854775807 then ((R1_Around.f a2 (wrap64 ((t210.size : Int) + 1))).bind fun t216 => (if 0 ≤ t216 then (if t216 ≤ (t210.size : Int) then (L5_LexScans.l0 k (([t210, strOfNums (y211.set (t214 : Int).toNat a3), a1, t210 ++ a1, t210.extract 0 (t216 : Int).toNat, (⟨#[]⟩ : ByteArray)] : List ByteArray)) 0) else (none)) else (none))) else (none)) else (none)) else (none)))) else (none)) else (none))) hS (Ev.congr (fun k => ?_) hA))
  rw [if_pos (by omega), if_pos (by decide), Option.bind_some, ht, Option.bind_some, if_pos t0, if_pos t1, if_pos (by omega), hw, hu, Option.bind_some, if_pos u0, if_pos (by omega)]
  rfl
end Go.Proofs.YteafkdcppbemdaaDoor.Q
