/- Parts of a proof. No conditions. -/

import Derived.Test.YtehpbaiclfilaaaGreatG17
import Derived.Test.YtehpbaiclfilaaaGreatGTab
import Derived.Test.YtehpbaiclfilaaaGreatG05
import Derived.WalkKit
import Derived.Deep.RegionLaw
import Derived.Lib.SliceRun
import Derived.Shelf.RegionOpenPlain
import Derived.Lib.JoinLaws
import Derived.Shelf.Spec.SlicesInsert
set_option linter.unusedSimpArgs false
set_option linter.unusedVariables false
namespace Go.Proofs.YtehpbaiclfilaaaGreat
open Go Go.RowKit Go.Lib Go.Shelf
set_option maxRecDepth 100000
set_option maxHeartbeats 1000000 in
theorem Q8 (w : World) (b off c n i : Nat) (hi : i < n) (JM : n ≤ c) (W1 W2 : World) (A : Addr) (hA : (if c = i + 1 then some (⟨b, off, none⟩ : Addr) else some ⟨b, off + (i + 1) * 4, none⟩) = some A)
  (iE : ∀ ty, (Builtin.append_ #[43, 43] ty #[.slice (some ⟨b, off, none⟩) i c, .slice (some A) (n - (i + 1)) (c - (i + 1))]).run Tryz.prog w.drew = .ok (.slice (some ⟨b, off, none⟩) (n - 1) c) W1)
  (fh : ∀ ty c', (Builtin.clear_ #[43] ty #[.slice (some ⟨b, off + (n - 1) * 4, none⟩) 1 c']).run Tryz.prog W1 = .ok (.tuple #[]) W2) :
  Calls Tryz.prog 159 #[.slice (some ⟨b, off, none⟩) n c, .int .i64 i, .int .i64 ((i : Int) + 1)] w fun e w' => e = .returned (.slice (some ⟨b, off, none⟩) (n - 1) c) ∧ w' = W2 := by
 have n1 : ((i : Int) + 1).toNat = i + 1 := by omega
 have n2 : ((i : Int)).toNat = i := by omega
 have n3 : (i : Int) ≤ (i : Int) + 1 := by omega
 have n4 : (i : Int) + 1 ≤ (n : Int) := by omega
 have n5 : (n : Int) ≤ (c : Int) := by omega
 have n6 : (0 : Int) ≤ (i : Int) + 1 := by omega
 have n7 : ¬ ((i : Int) = (i : Int) + 1) := by omega
 have n8 : i ≤ c := by omega
 have n9 : n - (n - 1) = 1 := by omega
 have JN : ¬ (c = n - 1) := by omega
 have JO : ((n - 1 : Nat) : Int) ≤ (n : Int) := by omega
 have mixed : Tryz.prog.follows Departure.mixedOrders = true := by kernel_rfl
 go_enter Tryz.func159, Tryz.ntmps159
 go_wp2
 go_region_law_o (refine Eg rfl _ _ _ _ rfl _ _ (by simp [Act.eval, Act.put]) (by simp [Act.eval, Act.put]) (iE _) ?_)
 go_wp2
 go_ret
 exact ⟨rfl, rfl⟩
theorem Q9 (xs : List Entry) (i : Nat) (hi : i < xs.length) : bE Tryz.prog 159 [oN 0, nT fun _ => i, iT fun _ => (i : Int) + 1] [(0, aQ .aD fun _ => xs)] (dP (lR .aD fun _ => xs.take i ++ xs.drop (i + 1)) []) := by
 refine vC ⟨_, Tryz.func159, rfl, rfl⟩ (fun k hk => by (have q : k = 0 := by simpa [av] using hk); omega) fun w vs ρ hr ha => ?_;obtain ⟨bj, hv⟩ := ha;have e0 : vs.getD 0 Go.undef = (ρ 0).1 := (hv 0 _ rfl).2;have e1 : vs.getD 1 Go.undef = .int .i64 (i : Int) := qm (hv 1 _ rfl);have e2 : vs.getD 2 Go.undef = .int .i64 ((i : Int) + 1) := qm (hv 2 _ rfl);have gR := vD (vs := vs) bj;rw [e0, e1, e2] at gR;have ho : bn w.heap (.list .aD fun _ => xs) (ρ 0).1 (ρ 0).2 := hr.af 0 _ List.mem_cons_self;have gB : ∀ x, aS ρ [(0, aQ .aD fun _ => xs)] x = (ρ 0).2 x := fun x => by simp [aS]
 rcases ho.fL with ⟨_, h, _⟩ | ⟨b, off, c, cs, e, fz, S, bS, hp, hb, hf, hl, hm, eK, cB⟩
 · have h : xs = [] := h;rw [h] at hi; simp at hi
 have hl : xs.length ≤ c := hl;have hm : xs.length ≤ cG := hm;have cB : bH w.heap .aD xs (fun q => cs.getD (off + q) Go.undef) S := cB;obtain ⟨ht, inf, z, fa, dD, _, hz, sg, jD⟩ := kQ ay (T := 43) (E := .aD) rfl;have eY : w.drew.heap[b]? = some (.cells cs e fz) := hb;have pR : bH w.drew.heap .aD xs (fun q => cs.getD (off + q) Go.undef) S := cB;obtain ⟨A, news, hA, hn, dM, ew, tM⟩ := qn (P := Tryz.prog) (E := .aD) (xs := xs) (k := i + 1) hi hl eY eK pR ht;have xK : i + (xs.length - (i + 1)) ≤ c := by omega
 obtain ⟨W1, g1, g2, g3, g4⟩ := Eh (P := Tryz.prog) (n := i) eY hf (by rw [dD]; exact tM) (by rw [dD]; exact hn) ew ht fa xK (by rw [dD]; exact eK);rw [dD] at g2;have jE : NF (dF cs (off + i * an.sz .aD) news) fz := by rcases hf with h | h; exact .inl h; exact .inr (by rw [eB]; exact h)
 have e3 : xs.length * an.sz .aD ≤ c * an.sz .aD := Nat.mul_le_mul_right _ hl
 have e4 : (xs.length - 1) * an.sz .aD + an.sz .aD = xs.length * an.sz .aD := by
   have : xs.length = (xs.length - 1) + 1 := by omega
   rw [show xs.length * an.sz .aD = ((xs.length - 1) + 1) * an.sz .aD by rw [← this], Nat.add_mul]; omega
 obtain ⟨W2, c1, c2, c3, c4⟩ := Ei (P := Tryz.prog) (z := z) (o := off + (xs.length - 1) * an.sz .aD) g2 jE ht (fun w => by simp [zeroValue, typeInfo, fa, hz]) (fun u hu => Z.Ek sg (by decide) hu) (by rw [eB, jD]; omega);have cM := Q8 w b off c xs.length i hi hl W1 W2 A hA (fun ty => by rw [g1 ty]; congr 2; omega) c1;rw [gR, bS];refine cM.mono fun e w' he => ?_;obtain ⟨rfl, rfl⟩ := he;refine ⟨_, bT b (xs.length - 1) (an.sz .aD) fun _ _ _ => 0, rfl, ?_, (show Ext w W1 from ⟨g4.sz, g4.os, g4.out, g4.fz⟩).trans c4, fun x hx h0 => ?_, fun x hx => ?_, fun x => ?_⟩
 · exact Ej (E := .aD) (w := w) (w1 := W1) rfl hi hf hl hm eK cB hn dM (by simpa using jD) g2 c2
 · rw [gB] at h0;have iY : x ≠ b := fun he => by rw [hp, he] at h0; have := km b xs.length (an.sz .aD) S; omega
   rw [c3 x iY, g3 x iY]; rfl
 · rw [gB, hp];rw [jo];simp only [bT]
   split <;> omega
 · rw [jo]
   split <;> omega
set_option maxHeartbeats 1000000 in
theorem Q_ (w : World) (b off c n i : Nat) (hi : i < n) (JM : n ≤ c) (W1 W2 : World) (A : Addr) (hA : (if c = i + 1 then some (⟨b, off, none⟩ : Addr) else some ⟨b, off + (i + 1) * 2, none⟩) = some A)
  (iE : ∀ ty, (Builtin.append_ #[116, 116] ty #[.slice (some ⟨b, off, none⟩) i c, .slice (some A) (n - (i + 1)) (c - (i + 1))]).run Tryz.prog w.drew = .ok (.slice (some ⟨b, off, none⟩) (n - 1) c) W1)
  (fh : ∀ ty c', (Builtin.clear_ #[116] ty #[.slice (some ⟨b, off + (n - 1) * 2, none⟩) 1 c']).run Tryz.prog W1 = .ok (.tuple #[]) W2) :
  Calls Tryz.prog 164 #[.slice (some ⟨b, off, none⟩) n c, .int .i64 i, .int .i64 ((i : Int) + 1)] w fun e w' => e = .returned (.slice (some ⟨b, off, none⟩) (n - 1) c) ∧ w' = W2 := by
 have n1 : ((i : Int) + 1).toNat = i + 1 := by omega
 have n2 : ((i : Int)).toNat = i := by omega
 have n3 : (i : Int) ≤ (i : Int) + 1 := by omega
 have n4 : (i : Int) + 1 ≤ (n : Int) := by omega
 have n5 : (n : Int) ≤ (c : Int) := by omega
 have n6 : (0 : Int) ≤ (i : Int) + 1 := by omega
 have n7 : ¬ ((i : Int) = (i : Int) + 1) := by omega
 have n8 : i ≤ c := by omega
 have n9 : n - (n - 1) = 1 := by omega
 have JN : ¬ (c = n - 1) := by omega
 have JO : ((n - 1 : Nat) : Int) ≤ (n : Int) := by omega
 have mixed : Tryz.prog.follows Departure.mixedOrders = true := by kernel_rfl
 go_enter Tryz.func164, Tryz.ntmps164
 go_wp2
 go_region_law_o (refine Eg rfl _ _ _ _ rfl _ _ (by simp [Act.eval, Act.put]) (by simp [Act.eval, Act.put]) (iE _) ?_)
 go_wp2
 go_ret
 exact ⟨rfl, rfl⟩
theorem Ra (xs : List aA) (i : Nat) (hi : i < xs.length) : bE Tryz.prog 164 [oN 0, nT fun _ => i, iT fun _ => (i : Int) + 1] [(0, aQ .aF fun _ => xs)] (dP (lR .aF fun _ => xs.take i ++ xs.drop (i + 1)) []) := by
 refine vC ⟨_, Tryz.func164, rfl, rfl⟩ (fun k hk => by (have q : k = 0 := by simpa [av] using hk); omega) fun w vs ρ hr ha => ?_;obtain ⟨bj, hv⟩ := ha;have e0 : vs.getD 0 Go.undef = (ρ 0).1 := (hv 0 _ rfl).2;have e1 : vs.getD 1 Go.undef = .int .i64 (i : Int) := qm (hv 1 _ rfl);have e2 : vs.getD 2 Go.undef = .int .i64 ((i : Int) + 1) := qm (hv 2 _ rfl);have gR := vD (vs := vs) bj;rw [e0, e1, e2] at gR;have ho : bn w.heap (.list .aF fun _ => xs) (ρ 0).1 (ρ 0).2 := hr.af 0 _ List.mem_cons_self;have gB : ∀ x, aS ρ [(0, aQ .aF fun _ => xs)] x = (ρ 0).2 x := fun x => by simp [aS]
 rcases ho.fL with ⟨_, h, _⟩ | ⟨b, off, c, cs, e, fz, S, bS, hp, hb, hf, hl, hm, eK, cB⟩
 · have h : xs = [] := h;rw [h] at hi; simp at hi
 have hl : xs.length ≤ c := hl;have hm : xs.length ≤ cG := hm;have cB : bH w.heap .aF xs (fun q => cs.getD (off + q) Go.undef) S := cB;obtain ⟨ht, inf, z, fa, dD, _, hz, sg, jD⟩ := kQ ay (T := 116) (E := .aF) rfl;have eY : w.drew.heap[b]? = some (.cells cs e fz) := hb;have pR : bH w.drew.heap .aF xs (fun q => cs.getD (off + q) Go.undef) S := cB;obtain ⟨A, news, hA, hn, dM, ew, tM⟩ := qn (P := Tryz.prog) (E := .aF) (xs := xs) (k := i + 1) hi hl eY eK pR ht;have xK : i + (xs.length - (i + 1)) ≤ c := by omega
 obtain ⟨W1, g1, g2, g3, g4⟩ := Eh (P := Tryz.prog) (n := i) eY hf (by rw [dD]; exact tM) (by rw [dD]; exact hn) ew ht fa xK (by rw [dD]; exact eK);rw [dD] at g2;have jE : NF (dF cs (off + i * an.sz .aF) news) fz := by rcases hf with h | h; exact .inl h; exact .inr (by rw [eB]; exact h)
 have e3 : xs.length * an.sz .aF ≤ c * an.sz .aF := Nat.mul_le_mul_right _ hl
 have e4 : (xs.length - 1) * an.sz .aF + an.sz .aF = xs.length * an.sz .aF := by
   have : xs.length = (xs.length - 1) + 1 := by omega
   rw [show xs.length * an.sz .aF = ((xs.length - 1) + 1) * an.sz .aF by rw [← this], Nat.add_mul]; omega
 obtain ⟨W2, c1, c2, c3, c4⟩ := Ei (P := Tryz.prog) (z := z) (o := off + (xs.length - 1) * an.sz .aF) g2 jE ht (fun w => by simp [zeroValue, typeInfo, fa, hz]) (fun u hu => Z.Ek sg (by decide) hu) (by rw [eB, jD]; omega);have cM := Q_ w b off c xs.length i hi hl W1 W2 A hA (fun ty => by rw [g1 ty]; congr 2; omega) c1;rw [gR, bS];refine cM.mono fun e w' he => ?_;obtain ⟨rfl, rfl⟩ := he;refine ⟨_, bT b (xs.length - 1) (an.sz .aF) fun _ _ _ => 0, rfl, ?_, (show Ext w W1 from ⟨g4.sz, g4.os, g4.out, g4.fz⟩).trans c4, fun x hx h0 => ?_, fun x hx => ?_, fun x => ?_⟩
 · exact Ej (E := .aF) (w := w) (w1 := W1) rfl hi hf hl hm eK cB hn dM (by simpa using jD) g2 c2
 · rw [gB] at h0;have iY : x ≠ b := fun he => by rw [hp, he] at h0; have := km b xs.length (an.sz .aF) S; omega
   rw [c3 x iY, g3 x iY]; rfl
 · rw [gB, hp];rw [jo];simp only [bT]
   split <;> omega
 · rw [jo]
   split <;> omega
set_option maxHeartbeats 1000000 in
theorem Rb (w : World) (b off c n i : Nat) (hi : i < n) (JM : n ≤ c) (W1 W2 : World) (A : Addr) (hA : (if c = i + 1 then some (⟨b, off, none⟩ : Addr) else some ⟨b, off + (i + 1) * 10, none⟩) = some A)
  (iE : ∀ ty, (Builtin.append_ #[27, 27] ty #[.slice (some ⟨b, off, none⟩) i c, .slice (some A) (n - (i + 1)) (c - (i + 1))]).run Tryz.prog w.drew = .ok (.slice (some ⟨b, off, none⟩) (n - 1) c) W1)
  (fh : ∀ ty c', (Builtin.clear_ #[27] ty #[.slice (some ⟨b, off + (n - 1) * 10, none⟩) 1 c']).run Tryz.prog W1 = .ok (.tuple #[]) W2) :
  Calls Tryz.prog 167 #[.slice (some ⟨b, off, none⟩) n c, .int .i64 i, .int .i64 ((i : Int) + 1)] w fun e w' => e = .returned (.slice (some ⟨b, off, none⟩) (n - 1) c) ∧ w' = W2 := by
 have n1 : ((i : Int) + 1).toNat = i + 1 := by omega
 have n2 : ((i : Int)).toNat = i := by omega
 have n3 : (i : Int) ≤ (i : Int) + 1 := by omega
 have n4 : (i : Int) + 1 ≤ (n : Int) := by omega
 have n5 : (n : Int) ≤ (c : Int) := by omega
 have n6 : (0 : Int) ≤ (i : Int) + 1 := by omega
 have n7 : ¬ ((i : Int) = (i : Int) + 1) := by omega
 have n8 : i ≤ c := by omega
 have n9 : n - (n - 1) = 1 := by omega
 have JN : ¬ (c = n - 1) := by omega
 have JO : ((n - 1 : Nat) : Int) ≤ (n : Int) := by omega
 have mixed : Tryz.prog.follows Departure.mixedOrders = true := by kernel_rfl
 go_enter Tryz.func167, Tryz.ntmps167
 go_wp2
 go_region_law_o (refine Eg rfl _ _ _ _ rfl _ _ (by simp [Act.eval, Act.put]) (by simp [Act.eval, Act.put]) (iE _) ?_)
 go_wp2
 go_ret
 exact ⟨rfl, rfl⟩
theorem Rc (xs : List au) (i : Nat) (hi : i < xs.length) : bE Tryz.prog 167 [oN 0, nT fun _ => i, iT fun _ => (i : Int) + 1] [(0, aQ .az fun _ => xs)] (dP (lR .az fun _ => xs.take i ++ xs.drop (i + 1)) []) := by
 refine vC ⟨_, Tryz.func167, rfl, rfl⟩ (fun k hk => by (have q : k = 0 := by simpa [av] using hk); omega) fun w vs ρ hr ha => ?_;obtain ⟨bj, hv⟩ := ha;have e0 : vs.getD 0 Go.undef = (ρ 0).1 := (hv 0 _ rfl).2;have e1 : vs.getD 1 Go.undef = .int .i64 (i : Int) := qm (hv 1 _ rfl);have e2 : vs.getD 2 Go.undef = .int .i64 ((i : Int) + 1) := qm (hv 2 _ rfl);have gR := vD (vs := vs) bj;rw [e0, e1, e2] at gR;have ho : bn w.heap (.list .az fun _ => xs) (ρ 0).1 (ρ 0).2 := hr.af 0 _ List.mem_cons_self;have gB : ∀ x, aS ρ [(0, aQ .az fun _ => xs)] x = (ρ 0).2 x := fun x => by simp [aS]
 rcases ho.fL with ⟨_, h, _⟩ | ⟨b, off, c, cs, e, fz, S, bS, hp, hb, hf, hl, hm, eK, cB⟩
 · have h : xs = [] := h;rw [h] at hi; simp at hi
 have hl : xs.length ≤ c := hl;have hm : xs.length ≤ cG := hm;have cB : bH w.heap .az xs (fun q => cs.getD (off + q) Go.undef) S := cB;obtain ⟨ht, inf, z, fa, dD, _, hz, sg, jD⟩ := kQ ay (T := 27) (E := .az) rfl;have eY : w.drew.heap[b]? = some (.cells cs e fz) := hb;have pR : bH w.drew.heap .az xs (fun q => cs.getD (off + q) Go.undef) S := cB;obtain ⟨A, news, hA, hn, dM, ew, tM⟩ := qn (P := Tryz.prog) (E := .az) (xs := xs) (k := i + 1) hi hl eY eK pR ht;have xK : i + (xs.length - (i + 1)) ≤ c := by omega
 obtain ⟨W1, g1, g2, g3, g4⟩ := Eh (P := Tryz.prog) (n := i) eY hf (by rw [dD]; exact tM) (by rw [dD]; exact hn) ew ht fa xK (by rw [dD]; exact eK);rw [dD] at g2;have jE : NF (dF cs (off + i * an.sz .az) news) fz := by rcases hf with h | h; exact .inl h; exact .inr (by rw [eB]; exact h)
 have e3 : xs.length * an.sz .az ≤ c * an.sz .az := Nat.mul_le_mul_right _ hl
 have e4 : (xs.length - 1) * an.sz .az + an.sz .az = xs.length * an.sz .az := by
   have : xs.length = (xs.length - 1) + 1 := by omega
   rw [show xs.length * an.sz .az = ((xs.length - 1) + 1) * an.sz .az by rw [← this], Nat.add_mul]; omega
 obtain ⟨W2, c1, c2, c3, c4⟩ := Ei (P := Tryz.prog) (z := z) (o := off + (xs.length - 1) * an.sz .az) g2 jE ht (fun w => by simp [zeroValue, typeInfo, fa, hz]) (fun u hu => Z.Ek sg (by decide) hu) (by rw [eB, jD]; omega);have cM := Rb w b off c xs.length i hi hl W1 W2 A hA (fun ty => by rw [g1 ty]; congr 2; omega) c1;rw [gR, bS];refine cM.mono fun e w' he => ?_;obtain ⟨rfl, rfl⟩ := he;refine ⟨_, bT b (xs.length - 1) (an.sz .az) fun _ _ _ => 0, rfl, ?_, (show Ext w W1 from ⟨g4.sz, g4.os, g4.out, g4.fz⟩).trans c4, fun x hx h0 => ?_, fun x hx => ?_, fun x => ?_⟩
 · exact Ej (E := .az) (w := w) (w1 := W1) rfl hi hf hl hm eK cB hn dM (by simpa using jD) g2 c2
 · rw [gB] at h0;have iY : x ≠ b := fun he => by rw [hp, he] at h0; have := km b xs.length (an.sz .az) S; omega
   rw [c3 x iY, g3 x iY]; rfl
 · rw [gB, hp];rw [jo];simp only [bT]
   split <;> omega
 · rw [jo]
   split <;> omega
end Go.Proofs.YtehpbaiclfilaaaGreat
namespace Go.Proofs.YtehpbaiclfilaaaGreat
open Go Go.RowKit Go.Lib Go.Shelf
set_option maxRecDepth 100000
set_option maxHeartbeats 4000000 in
theorem Rd (w W1 : World) (base : Option Addr) (n c vb b_ vc : Nat) (v' : Value)
   (iE : ∀ ty, (Builtin.append_ #[43, 43] ty #[.slice base n c, .slice (some ⟨vb, b_, none⟩) 1 vc]).run Tryz.prog w = .ok v' W1) :
   Calls Tryz.prog 152 #[.slice base n c, .int .i64 n, .slice (some ⟨vb, b_, none⟩) 1 vc] w fun e w' => e = .returned v' ∧ w' = W1 := by
 go_enter Tryz.func152, Tryz.ntmps152
 cases base with
 | none =>
   go_wp2_with (at_builtin; refine Lib.wpList_append_run _ rfl _ _ _ _ rfl _ _ rfl rfl _ _ (iE _) ?_)
   all_goals (go_ret; exact ⟨rfl, rfl⟩)
 | some a =>
   obtain ⟨ab, ao, JP⟩ := a
   go_wp2_with (at_builtin; refine Lib.wpList_append_run _ rfl _ _ _ _ rfl _ _ rfl rfl _ _ (iE _) ?_)
   all_goals (go_ret; exact ⟨rfl, rfl⟩)
set_option maxHeartbeats 4000000 in
theorem Re (w W1 W2 : World) (b off n c i vb b_ vc : Nat) (r1 r2 : Value) (hi : i < n) (gm : n + 1 ≤ c) (xL : n + 1 ≤ 9223372036854775807)
  (nr : ∀ lb cb, (callFunc 205 #[.slice (some ⟨vb, b_, none⟩) 1 vc, .slice (some ⟨b, off + (i + 1) * 4, none⟩) lb cb]).run Tryz.prog w = .ok (.value (.bool false)) w)
  (ns : ∀ ty dc sc, (Builtin.copy_ #[43, 43] ty #[.slice (some ⟨b, off + (i + 1) * 4, none⟩) (n - i) dc, .slice (some ⟨b, off + i * 4, none⟩) (n + 1 - i) sc]).run Tryz.prog w.drew = .ok r1 W1)
  (nt : ∀ ty dc, (Builtin.copy_ #[43, 43] ty #[.slice (some ⟨b, off + i * 4, none⟩) (n + 1 - i) dc, .slice (some ⟨vb, b_, none⟩) 1 vc]).run Tryz.prog W1 = .ok r2 W2) :
  Calls Tryz.prog 152 #[.slice (some ⟨b, off, none⟩) n c, .int .i64 i, .slice (some ⟨vb, b_, none⟩) 1 vc] w fun e w' => e = .returned (.slice (some ⟨b, off, none⟩) (n + 1) c) ∧ w' = W2 := by
 have mixed : Tryz.prog.follows Departure.mixedOrders = true := by kernel_rfl
 have qo : ¬ ((i : Int) = (n : Int)) := by omega
 have pQ : ((i : Int) + 1).toNat = i + 1 := by omega
 have rj : ((n : Int) + 1).toNat = n + 1 := by omega
 have dC : ¬ (c = i + 1) := by omega
 have cu : (i : Int) ≤ (n : Int) + 1 := by omega
 have rS : ¬ (c = i) := by omega
 have nu : ¬ ((n : Int) + 1 > (c : Int)) := by omega
 have JQ : ¬ ((c : Int) < (n : Int) + 1) := by omega
 have kI : (0 : Int) ≤ (n : Int) + 1 := by omega
 have Ak : (n : Int) + 1 ≤ (c : Int) := by omega
 have ga : (0 : Int) ≤ (i : Int) + 1 := by omega
 have xM : (i : Int) + 1 ≤ (n : Int) + 1 := by omega
 have xN : (i : Int) ≤ (n : Int) := by omega
 have dU : i ≤ n := by omega
 have sh : IntKind.i64.wrap ((i : Int) + 1) = (i : Int) + 1 := by rw [IntKind.wrap_i64]; omega
 have xO : IntKind.i64.wrap ((n : Int) + 1) = (n : Int) + 1 := by rw [IntKind.wrap_i64]; omega
 go_enter Tryz.func152, Tryz.ntmps152
 go_wp2_with (simp only [nr])
 go_region_law_o (refine step_copy_runI rfl _ _ _ _ rfl _ _ (by simp [Act.eval, Act.put]) (by simp [Act.eval, Act.put]) (ns _ _ _) ?_)
 go_wp2_with (at_builtin; refine wpList_copy_runI _ rfl _ _ _ _ rfl _ _ rfl rfl (nt _ _) ?_)
 all_goals (go_ret; exact ⟨rfl, rfl⟩)
set_option maxHeartbeats 4000000 in
theorem Rf (w W1 W2 W3 : World) (b off n c i vb b_ vc nb c2 : Nat) (r1 r2 : Value) (hi : i < n) (gm : c < n + 1) (hc : n ≤ c) (xL : n + 1 ≤ 9223372036854775807) (lB : n + 1 ≤ c2)
  (iE : ∀ ty, (Builtin.append_ #[43, 3] ty #[.slice (some ⟨b, off, none⟩) i c, .int .i64 ((n : Int) + 1 - (i : Int))]).run Tryz.prog w = .ok (.slice (some ⟨nb, 0, none⟩) (n + 1) c2) W1)
  (ns : ∀ ty dc, (Builtin.copy_ #[43, 43] ty #[.slice (some ⟨nb, i * 4, none⟩) (n + 1 - i) dc, .slice (some ⟨vb, b_, none⟩) 1 vc]).run Tryz.prog W1 = .ok r1 W2)
  (nt : ∀ ty dc sc, (Builtin.copy_ #[43, 43] ty #[.slice (some ⟨nb, (i + 1) * 4, none⟩) (n - i) dc, .slice (some ⟨b, off + i * 4, none⟩) (n - i) sc]).run Tryz.prog W2.drew = .ok r2 W3) :
  Calls Tryz.prog 152 #[.slice (some ⟨b, off, none⟩) n c, .int .i64 i, .slice (some ⟨vb, b_, none⟩) 1 vc] w fun e w' => e = .returned (.slice (some ⟨nb, 0, none⟩) (n + 1) c2) ∧ w' = W3 := by
 have mixed : Tryz.prog.follows Departure.mixedOrders = true := by kernel_rfl
 have qo : ¬ ((i : Int) = (n : Int)) := by omega
 have pQ : ((i : Int) + 1).toNat = i + 1 := by omega
 have rj : ((n : Int) + 1).toNat = n + 1 := by omega
 have dC : ¬ (c2 = i + 1) := by omega
 have rS : ¬ (c = i) := by omega
 have JR : ¬ (c2 = i) := by omega
 have nu : (c : Int) < (n : Int) + 1 := by omega
 have ga : (0 : Int) ≤ (i : Int) + 1 := by omega
 have xM : (i : Int) + 1 ≤ (n : Int) + 1 := by omega
 have cu : (i : Int) ≤ (n : Int) + 1 := by omega
 have xN : (i : Int) ≤ (n : Int) := by omega
 have JS : i ≤ c := by omega
 have dU : i ≤ n := by omega
 have sh : IntKind.i64.wrap ((i : Int) + 1) = (i : Int) + 1 := by rw [IntKind.wrap_i64]; omega
 have xO : IntKind.i64.wrap ((n : Int) + 1) = (n : Int) + 1 := by rw [IntKind.wrap_i64]; omega
 have JT : IntKind.i64.wrap ((n : Int) + 1 - (i : Int)) = (n : Int) + 1 - (i : Int) := by rw [IntKind.wrap_i64]; omega
 go_enter Tryz.func152, Tryz.ntmps152
 go_wp2_with (first | (at_builtin; refine Lib.wpList_append_run _ rfl _ _ _ _ rfl _ _ rfl rfl _ _ (iE _) ?_) | (at_builtin; refine wpList_copy_runI _ rfl _ _ _ _ rfl _ _ rfl rfl (ns _ _) ?_))
 go_region_law_o (refine step_copy_runI rfl _ _ _ _ rfl _ _ (by simp [Act.eval, Act.put]) (by simp [Act.eval, Act.put]) (nt _ _ _) ?_)
 go_wp2
 all_goals (go_ret; exact ⟨rfl, rfl⟩)
set_option maxHeartbeats 4000000 in
theorem JU (xs : List Entry) (y : Entry) (i : Nat) (hi : i ≤ xs.length) (sj : xs.length ≤ aR) : bE Tryz.prog 152 [oN 0, nT fun _ => i, oN 1] [(0, aQ .aD fun _ => xs), (1, aQ .aD fun _ => [y])] (dP (lR .aD fun _ => xs.take i ++ y :: xs.drop i) []) := by
 refine vC ⟨_, Tryz.func152, rfl, rfl⟩ (fun k hk => by (have q : k = 0 ∨ k = 1 := by simpa [av] using hk); omega) fun w vs ρ hr ha => ?_;have sj : xs.length ≤ 1048576 := sj;obtain ⟨bj, hv⟩ := ha;have e0 : vs.getD 0 Go.undef = (ρ 0).1 := (hv 0 _ rfl).2;have e1 : vs.getD 1 Go.undef = .int .i64 (i : Int) := qm (hv 1 _ rfl);have e2 : vs.getD 2 Go.undef = (ρ 1).1 := (hv 2 _ rfl).2;have gR := vD (vs := vs) bj;rw [e0, e1, e2] at gR;have ho : bn w.heap (.list .aD fun _ => xs) (ρ 0).1 (ρ 0).2 := hr.af 0 _ List.mem_cons_self;have sn : bn w.heap (.list .aD fun _ => [y]) (ρ 1).1 (ρ 1).2 := hr.af 1 _ (List.mem_cons_of_mem _ List.mem_cons_self);have gB : ∀ x, aS ρ [(0, aQ .aD fun _ => xs), (1, aQ .aD fun _ => [y])] x = (ρ 0).2 x + (ρ 1).2 x := fun x => by simp [aS]
 have fM : ∀ x, (ρ 0).2 x + (ρ 1).2 x ≤ 1 := fun x => by have := hr.sum x; rwa [gB] at this
 have kO : ∀ x, 0 < (ρ 0).2 x + (ρ 1).2 x → x < w.heap.size := fun x hx => by
   have : ∃ cs e fz, w.heap[x]? = some (.cells cs e fz) := by
     rcases Nat.eq_zero_or_pos ((ρ 0).2 x) with h | h
     · exact sn.there x (by omega)
     · exact ho.there x h
   obtain ⟨_, _, _, h⟩ := this;rcases Nat.lt_or_ge x w.heap.size with h' | h'
   · exact h'
   · rw [Array.getElem?_eq_none h'] at h; cases h
 obtain ⟨ht, inf, z, fa, dD, ie, hz, sg, jD⟩ := kQ ay (T := 43) (E := .aD) rfl;rcases sn.fL with ⟨_, h, _⟩ | ⟨vb, b_, vc, nv, ue, JV, U, jF, so, dC, jT, eF, oW, nx, jG⟩
 · cases h
 have eF : 1 ≤ vc := eF;have jG : bH w.heap .aD [y] (fun q => nv.getD (b_ + q) Go.undef) U := jG;have jF : (ρ 1).1 = .slice (some ⟨vb, b_, none⟩) 1 vc := jF
 have fin : ∀ {v : Value} {q : Nat → Nat} {w' : World}, bn w'.heap (.list .aD fun _ => xs.take i ++ y :: xs.drop i) v q → Ext w w' → (∀ x, x < w.heap.size → (ρ 0).2 x = 0 → w'.heap[x]? = w.heap[x]?) → (∀ x, x < w.heap.size → q x ≤ (ρ 0).2 x + (ρ 1).2 x) → (∀ x, q x ≤ 1) →
     ∃ v' q', Ending.returned v = .returned v' ∧ bn w'.heap (.list .aD fun _ => xs.take i ++ y :: xs.drop i) v' q' ∧ Ext w w' ∧ (∀ x, x < w.heap.size → aS ρ [(0, aQ .aD fun _ => xs), (1, aQ .aD fun _ => [y])] x = 0 → w'.heap[x]? = w.heap[x]?) ∧ (∀ x, x < w.heap.size → q' x ≤ aS ρ [(0, aQ .aD fun _ => xs), (1, aQ .aD fun _ => [y])] x) ∧ ∀ x, q' x ≤ 1 := fun a b c d e =>
   ⟨_, _, rfl, a, b, fun x hx h0 => c x hx (by rw [gB] at h0; omega), fun x hx => by rw [gB]; exact d x hx, e⟩
 rcases Nat.lt_or_ge i xs.length with aL | lL
 · -- not at the end
   rcases ho.fL with ⟨_, h, _⟩ | ⟨b, off, c, cs, e, fz, S, bS, hp, hb, hf, hl, hm, eK, cB⟩
   · have h : xs = [] := h;rw [h] at aL; simp at aL
   have hl : xs.length ≤ c := hl;have cB : bH w.heap .aD xs (fun q => cs.getD (off + q) Go.undef) S := cB
   have JW : (ρ 0).2 b = 1 ∧ (ρ 1).2 b = 0 := by
     have h1 := fM b;have h2 : 0 < (ρ 0).2 b := by rw [hp]; exact km _ _ _ _
     omega
   have xP : 0 < (ρ 1).2 vb := by rw [so]; exact km _ _ _ _
   have hne : vb ≠ b := fun he => by rw [he] at xP; omega
   have e3 : xs.length * an.sz .aD ≤ c * an.sz .aD := Nat.mul_le_mul_right _ hl;obtain ⟨uA, us, JX, fA, oo, oX, JY⟩ := qn (P := Tryz.prog) (E := .aD) (xs := [y]) (k := 0) (Nat.zero_le _) eF dC nx jG ht;have fA : us.length = an.sz .aD := by rw [fA]; simp
   have sq : bH w.heap .aD [y] (fun q => us.getD q Go.undef) U := jG.cells fun q hq => by
     have hq : q < an.sz .aD := by simpa using hq
     rw [oo q (by rw [fA]; exact hq)]; simp
   have sr : ∀ j v, us[j]? = some v → w.cell? ((⟨vb, b_, none⟩ : Addr).add j) = some v := fun j v hj => by
     have hq := bq hj;have h3 : us.getD j Go.undef = v := by rw [List.getD_eq_getElem?_getD, hj]; rfl
     rw [← h3, oo j hq, fe, Nat.zero_mul, Nat.add_zero]
     exact cell_of dC (getD_some (by
       have : b_ + vc * an.sz .aD ≤ nv.size := nx;have h4 := Nat.mul_le_mul_right (an.sz .aD) eF;omega))
   have eY : w.drew.heap[b]? = some (.cells cs e fz) := hb;obtain ⟨nA, news, ny, gS, dM, kY, _⟩ := qn (P := Tryz.prog) (w := w) (E := .aD) (xs := xs) (k := i) hi hl hb eK cB ht
   have ny : nA = ⟨b, off + i * an.sz .aD, none⟩ := by
     rw [if_neg (by omega)] at ny; exact (Option.some.inj ny).symm
   have e1 : i * an.sz .aD + (xs.length - i) * an.sz .aD = xs.length * an.sz .aD := by rw [← Nat.add_mul]; congr 1; omega
   have su : ∀ j v, news[j]? = some v → w.cell? ((⟨b, off + i * an.sz .aD, none⟩ : Addr).add j) = some v := fun j v hj => by
     have hq := bq hj;have h3 : news.getD j Go.undef = v := by rw [List.getD_eq_getElem?_getD, hj]; rfl
     rw [← h3, dM j hq, fe];rw [gS] at hq;exact cell_of hb (getD_some (by omega))
   have e4 : (i + 1) * an.sz .aD = i * an.sz .aD + an.sz .aD := by rw [Nat.add_mul]; omega
   have e5 : (xs.length + 1) * an.sz .aD = xs.length * an.sz .aD + an.sz .aD := by rw [Nat.add_mul]; omega
   rcases Nat.lt_or_ge c (xs.length + 1) with hg | gm
   · -- a new row
     obtain ⟨gl, lp, hold, xQ⟩ := En (P := Tryz.prog) (w := w.drew) (E := .aD) (xs := xs) (k := i) hi hl eY eK cB;have fN : 0 < xs.length + 1 - i := by omega
     have cM := fun ty => run_append_grow_zeros (P := Tryz.prog) w 43 3 ty _ inf z .i64 .i64 ht Tryz.underlying3 fa hz (some ⟨b, off, none⟩) i c gl (by rw [dD]; exact xQ) (xs.length + 1 - i) fN (by rw [dD]; decide) (by omega) (by omega) (by rw [ie]; omega) (by
       rw [ie]; exact growslice_fits (by omega) (by omega))
     have jH := grownCap_ge w (i + (xs.length + 1 - i)) c 50;rw [show i + (xs.length + 1 - i) = xs.length + 1 by omega] at cM jH;generalize grownCap w (xs.length + 1) c 50 = C at cM jH;generalize mZ : gl.toArray ++ Builtin.zeroCells z.cells (xs.length + 1 - i) ++ Builtin.zeroCells z.cells (C - (xs.length + 1)) = cells at cM
     have dy : cells.size = C * an.sz .aD := by
       rw [← mZ];simp only [Array.size_append, List.size_toArray, Builtin.zeroCells, Array.size_map, Array.size_range, jD, lp];rw [← Nat.add_mul, ← Nat.add_mul]
       congr 1; omega
     have b0 : ∀ q, q < i * an.sz .aD → cells.getD q Go.undef = cs.getD (off + q) Go.undef := fun q hq => by
       rw [← hold q (by rw [lp]; exact hq), ← mZ, Array.getD_eq_getD_getElem?, Array.getElem?_append_left (by simp [lp]; omega), Array.getElem?_append_left (by simp [lp]; omega), List.getElem?_toArray, List.getD_eq_getElem?_getD]
     obtain ⟨W1, lq⟩ : ∃ W1, W1 = w.drew.alloc (.cells cells 50) := ⟨_, rfl⟩;have k1 : W1.heap[w.heap.size]? = some (.cells cells 50 (0, 0)) := by rw [lq]; show (w.heap.push _)[w.heap.size]? = _; simp
     have k2 : ∀ x, x < w.heap.size → W1.heap[x]? = w.heap[x]? := fun x hx => by rw [lq]; show (w.heap.push _)[x]? = _; rw [Array.getElem?_push, if_neg (Nat.ne_of_lt hx)]
     have k3 : Ext w W1 := by rw [lq]; exact (show Ext w w.drew from Ext.of (Nat.le_refl _) rfl rfl fun _ => rfl).trans (s7 w.drew _ _)
     have xR : vb < w.heap.size := kO vb (by omega);have sv : b < w.heap.size := kO b (by omega);have e6 : (xs.length + 1) * an.sz .aD ≤ C * an.sz .aD := Nat.mul_le_mul_right _ jH
     obtain ⟨W2, c1, c2, c3, c4⟩ := mA (P := Tryz.prog) (w := W1) (o := i * an.sz .aD) (dLen := xs.length + 1 - i) (sLen := 1) (m := 1) (T2 := 43) k1 (mX _) ht fa (by simp only [Nat.min_def]; split <;> omega) (by rw [dD, fA, Nat.one_mul]) (fun j v hj => by
       have := sr j v hj;rw [fe] at this ⊢;rw [World.cell?, k2 vb xR]; exact this) (by rw [fA, dy]; omega) oX
     have xS : W2.drew.heap[w.heap.size]? = _ := c2
     obtain ⟨W3, d1, d2, d3, d4⟩ := mA (P := Tryz.prog) (w := W2.drew) (o := (i + 1) * an.sz .aD) (dLen := xs.length - i) (sLen := xs.length - i) (m := xs.length - i) (T2 := 43) xS (mX _) ht fa (by simp only [Nat.min_def]; split <;> omega) (by rw [dD, gS]) (fun j v hj => by
       have := su j v hj;rw [fe] at this ⊢;rw [World.cell?, show W2.drew.heap[b]? = W2.heap[b]? from rfl, c3 b (Nat.ne_of_lt sv), k2 b sv]; exact this) (by rw [gS, eB, dy]; omega) kY
     have jI := Rf w W1 W2 W3 b off xs.length c i vb b_ vc w.heap.size C _ _ aL hg hl (by omega) jH (fun ty => by
       have := cM ty;rw [show ((xs.length + 1 - i : Nat) : Int) = (xs.length : Int) + 1 - (i : Int) by omega] at this;rw [lq]; exact this) (fun ty dc => c1 ty dc vc) (fun ty dc sc => d1 ty dc sc)
     rw [gR, bS, jF];refine jI.mono fun e' w' he => ?_;obtain ⟨rfl, rfl⟩ := he;refine fin (Em (E := .aD) rfl hi jH (by unfold cG; omega) dy cB sq b0 gS dM fA d2) (k3.trans (c4.trans ((show Ext W2 W2.drew from Ext.of (Nat.le_refl _) rfl rfl fun _ => rfl).trans d4))) (fun x hx h0 => ?_) (fun x hx => ?_) (fun x => ?_)
     · rw [d3 x (Nat.ne_of_lt hx), show W2.drew.heap[x]? = W2.heap[x]? from rfl, c3 x (Nat.ne_of_lt hx), k2 x hx]
     · rw [jo, if_neg (Nat.ne_of_lt hx)]; omega
     · rw [jo]; split <;> omega
   · -- in place
     have e6 : (xs.length + 1) * an.sz .aD ≤ c * an.sz .aD := Nat.mul_le_mul_right _ gm
     have nr : ∀ lb cb, (callFunc 205 #[.slice (some ⟨vb, b_, none⟩) 1 vc, .slice (some ⟨b, off + (i + 1) * an.sz .aD, none⟩) lb cb]).run Tryz.prog w = .ok (.value (.bool false)) w := fun lb cb => by
       rw [run_callFunc_extern Tryz.func205 (by kernel_rfl) (by kernel_rfl) (by kernel_rfl) (e := Extern.SlicesOverlaps.overlaps #[43, 43] #[4]) (by kernel_rfl),
        Lib.run_overlaps_apart w 43 4 50 ht (an.sz .aD) (fun w => by simp [sizeOf, typeInfo, fa, dD]) ⟨vb, b_, none⟩ ⟨b, off + (i + 1) * an.sz .aD, none⟩ 1 vc lb cb hne ue e nv.size cs.size (by simp [World.shape?, dC]) (by simp [World.shape?, hb]) (by
         have : 0 < an.sz .aD := by decide
         omega) (vE dC jT _) (vE dC jT _)]
       rfl
     obtain ⟨W1, c1, c2, c3, c4⟩ := mA (P := Tryz.prog) (w := w.drew) (o := off + (i + 1) * an.sz .aD) (dLen := xs.length - i) (sLen := xs.length + 1 - i) (m := xs.length - i) (T2 := 43) eY hf ht fa (by simp only [Nat.min_def]; split <;> omega) (by rw [dD, gS]) su (by rw [gS]; omega) kY;have pZ : NF (dF cs (off + (i + 1) * an.sz .aD) news) fz := by rcases hf with h | h; exact .inl h; exact .inr (by rw [eB]; exact h)
     obtain ⟨W2, d1, d2, d3, d4⟩ := mA (P := Tryz.prog) (w := W1) (o := off + i * an.sz .aD) (dLen := xs.length + 1 - i) (sLen := 1) (m := 1) (T2 := 43) c2 pZ ht fa (by simp only [Nat.min_def]; split <;> omega) (by rw [dD, fA, Nat.one_mul]) (fun j v hj => by
       have := sr j v hj;rw [fe] at this ⊢;rw [World.cell?, c3 vb hne]; exact this) (by rw [fA, eB]; omega) oX
     have jI := Re w W1 W2 b off xs.length c i vb b_ vc _ _ aL gm (by omega) nr (fun ty dc sc => c1 ty dc sc) (fun ty dc => d1 ty dc vc);rw [gR, bS, jF];refine jI.mono fun e' w' he => ?_;obtain ⟨rfl, rfl⟩ := he;refine fin (El (E := .aD) rfl hi hf gm (by unfold cG; omega) eK cB sq gS dM fA d2) ((show Ext w w.drew from Ext.of (Nat.le_refl _) rfl rfl fun _ => rfl).trans (c4.trans d4)) (fun x hx h0 => ?_) (fun x hx => ?_) (fun x => ?_)
     · have iY : x ≠ b := fun he => by rw [he] at h0; omega
       rw [d3 x iY, c3 x iY]; rfl
     · rw [jo]
       split
       · rename_i he; rw [he]; omega
       · omega
     · rw [jo]; split <;> omega
 · -- at the end
   obtain rfl : i = xs.length := by omega
   obtain ⟨news, hN⟩ := jf.of (c := vc) dC (by have := Nat.mul_le_mul_right (an.sz .aD) eF; simpa using Nat.le_trans (Nat.add_le_add_left this b_) nx) jG;obtain ⟨v, p, w', g1, g2, g3, g4, g5, g6⟩ := wK (P := Tryz.prog) (w := w) (E := .aD) (xs := xs) (ys := [y]) (vy := .slice (some ⟨vb, b_, none⟩) 1 vc) (py := (ρ 1).2) (T := 43) (T2 := 43) (ty := 0) ho (hN.yQ ht) (fun x => by rw [so]; simp only [bT, cg]; exact Nat.le_add_left _ _) fM kO ht fa hz dD jD (by rw [ie]; decide) (by rw [ie]; simp only [List.length_cons, List.length_nil]; omega)
   obtain ⟨base, c, bS⟩ : ∃ base c, (ρ 0).1 = .slice base xs.length c := by
     rcases ho.fL with ⟨h1, h2, _⟩ | ⟨b, off, c, cs, e, fz, S, bS, _⟩
     · have h2 : xs = [] := h2;exact ⟨none, 0, by rw [h1, h2]; rfl⟩
     · exact ⟨_, c, bS⟩
   have jI := Rd w w' base xs.length c vb b_ vc v (fun ty => by rw [bS] at g1; exact g1);rw [gR, bS, jF];refine jI.mono fun e' sR he => ?_;obtain ⟨rfl, rfl⟩ := he;have e7 : xs.take xs.length ++ y :: xs.drop xs.length = xs ++ [y] := by simp
   refine fin (by rw [e7]; exact g2) g3 g4 g5 (fun x => ?_);rcases Nat.lt_or_ge x w.heap.size with h | h
   · exact Nat.le_trans (g5 x h) (fM x)
   · exact g6 x h
set_option maxHeartbeats 4000000 in
theorem AK (w W1 : World) (base : Option Addr) (n c vb b_ vc : Nat) (v' : Value)
   (iE : ∀ ty, (Builtin.append_ #[116, 116] ty #[.slice base n c, .slice (some ⟨vb, b_, none⟩) 1 vc]).run Tryz.prog w = .ok v' W1) :
   Calls Tryz.prog 213 #[.slice base n c, .int .i64 n, .slice (some ⟨vb, b_, none⟩) 1 vc] w fun e w' => e = .returned v' ∧ w' = W1 := by
 go_enter Tryz.func213, Tryz.ntmps213
 cases base with
 | none =>
   go_wp2_with (at_builtin; refine Lib.wpList_append_run _ rfl _ _ _ _ rfl _ _ rfl rfl _ _ (iE _) ?_)
   all_goals (go_ret; exact ⟨rfl, rfl⟩)
 | some a =>
   obtain ⟨ab, ao, JP⟩ := a
   go_wp2_with (at_builtin; refine Lib.wpList_append_run _ rfl _ _ _ _ rfl _ _ rfl rfl _ _ (iE _) ?_)
   all_goals (go_ret; exact ⟨rfl, rfl⟩)
set_option maxHeartbeats 4000000 in
theorem AL (w W1 W2 : World) (b off n c i vb b_ vc : Nat) (r1 r2 : Value) (hi : i < n) (gm : n + 1 ≤ c) (xL : n + 1 ≤ 9223372036854775807)
  (nr : ∀ lb cb, (callFunc 233 #[.slice (some ⟨vb, b_, none⟩) 1 vc, .slice (some ⟨b, off + (i + 1) * 2, none⟩) lb cb]).run Tryz.prog w = .ok (.value (.bool false)) w)
  (ns : ∀ ty dc sc, (Builtin.copy_ #[116, 116] ty #[.slice (some ⟨b, off + (i + 1) * 2, none⟩) (n - i) dc, .slice (some ⟨b, off + i * 2, none⟩) (n + 1 - i) sc]).run Tryz.prog w.drew = .ok r1 W1)
  (nt : ∀ ty dc, (Builtin.copy_ #[116, 116] ty #[.slice (some ⟨b, off + i * 2, none⟩) (n + 1 - i) dc, .slice (some ⟨vb, b_, none⟩) 1 vc]).run Tryz.prog W1 = .ok r2 W2) :
  Calls Tryz.prog 213 #[.slice (some ⟨b, off, none⟩) n c, .int .i64 i, .slice (some ⟨vb, b_, none⟩) 1 vc] w fun e w' => e = .returned (.slice (some ⟨b, off, none⟩) (n + 1) c) ∧ w' = W2 := by
 have mixed : Tryz.prog.follows Departure.mixedOrders = true := by kernel_rfl
 have qo : ¬ ((i : Int) = (n : Int)) := by omega
 have pQ : ((i : Int) + 1).toNat = i + 1 := by omega
 have rj : ((n : Int) + 1).toNat = n + 1 := by omega
 have dC : ¬ (c = i + 1) := by omega
 have cu : (i : Int) ≤ (n : Int) + 1 := by omega
 have rS : ¬ (c = i) := by omega
 have nu : ¬ ((n : Int) + 1 > (c : Int)) := by omega
 have JQ : ¬ ((c : Int) < (n : Int) + 1) := by omega
 have kI : (0 : Int) ≤ (n : Int) + 1 := by omega
 have Ak : (n : Int) + 1 ≤ (c : Int) := by omega
 have ga : (0 : Int) ≤ (i : Int) + 1 := by omega
 have xM : (i : Int) + 1 ≤ (n : Int) + 1 := by omega
 have xN : (i : Int) ≤ (n : Int) := by omega
 have dU : i ≤ n := by omega
 have sh : IntKind.i64.wrap ((i : Int) + 1) = (i : Int) + 1 := by rw [IntKind.wrap_i64]; omega
 have xO : IntKind.i64.wrap ((n : Int) + 1) = (n : Int) + 1 := by rw [IntKind.wrap_i64]; omega
 go_enter Tryz.func213, Tryz.ntmps213
 go_wp2_with (simp only [nr])
 go_region_law_o (refine step_copy_runI rfl _ _ _ _ rfl _ _ (by simp [Act.eval, Act.put]) (by simp [Act.eval, Act.put]) (ns _ _ _) ?_)
 go_wp2_with (at_builtin; refine wpList_copy_runI _ rfl _ _ _ _ rfl _ _ rfl rfl (nt _ _) ?_)
 all_goals (go_ret; exact ⟨rfl, rfl⟩)
set_option maxHeartbeats 4000000 in
theorem AY (w W1 W2 W3 : World) (b off n c i vb b_ vc nb c2 : Nat) (r1 r2 : Value) (hi : i < n) (gm : c < n + 1) (hc : n ≤ c) (xL : n + 1 ≤ 9223372036854775807) (lB : n + 1 ≤ c2)
  (iE : ∀ ty, (Builtin.append_ #[116, 3] ty #[.slice (some ⟨b, off, none⟩) i c, .int .i64 ((n : Int) + 1 - (i : Int))]).run Tryz.prog w = .ok (.slice (some ⟨nb, 0, none⟩) (n + 1) c2) W1)
  (ns : ∀ ty dc, (Builtin.copy_ #[116, 116] ty #[.slice (some ⟨nb, i * 2, none⟩) (n + 1 - i) dc, .slice (some ⟨vb, b_, none⟩) 1 vc]).run Tryz.prog W1 = .ok r1 W2)
  (nt : ∀ ty dc sc, (Builtin.copy_ #[116, 116] ty #[.slice (some ⟨nb, (i + 1) * 2, none⟩) (n - i) dc, .slice (some ⟨b, off + i * 2, none⟩) (n - i) sc]).run Tryz.prog W2.drew = .ok r2 W3) :
  Calls Tryz.prog 213 #[.slice (some ⟨b, off, none⟩) n c, .int .i64 i, .slice (some ⟨vb, b_, none⟩) 1 vc] w fun e w' => e = .returned (.slice (some ⟨nb, 0, none⟩) (n + 1) c2) ∧ w' = W3 := by
 have mixed : Tryz.prog.follows Departure.mixedOrders = true := by kernel_rfl
 have qo : ¬ ((i : Int) = (n : Int)) := by omega
 have pQ : ((i : Int) + 1).toNat = i + 1 := by omega
 have rj : ((n : Int) + 1).toNat = n + 1 := by omega
 have dC : ¬ (c2 = i + 1) := by omega
 have rS : ¬ (c = i) := by omega
 have JR : ¬ (c2 = i) := by omega
 have nu : (c : Int) < (n : Int) + 1 := by omega
 have ga : (0 : Int) ≤ (i : Int) + 1 := by omega
 have xM : (i : Int) + 1 ≤ (n : Int) + 1 := by omega
 have cu : (i : Int) ≤ (n : Int) + 1 := by omega
 have xN : (i : Int) ≤ (n : Int) := by omega
 have JS : i ≤ c := by omega
 have dU : i ≤ n := by omega
 have sh : IntKind.i64.wrap ((i : Int) + 1) = (i : Int) + 1 := by rw [IntKind.wrap_i64]; omega
 have xO : IntKind.i64.wrap ((n : Int) + 1) = (n : Int) + 1 := by rw [IntKind.wrap_i64]; omega
 have JT : IntKind.i64.wrap ((n : Int) + 1 - (i : Int)) = (n : Int) + 1 - (i : Int) := by rw [IntKind.wrap_i64]; omega
 go_enter Tryz.func213, Tryz.ntmps213
 go_wp2_with (first | (at_builtin; refine Lib.wpList_append_run _ rfl _ _ _ _ rfl _ _ rfl rfl _ _ (iE _) ?_) | (at_builtin; refine wpList_copy_runI _ rfl _ _ _ _ rfl _ _ rfl rfl (ns _ _) ?_))
 go_region_law_o (refine step_copy_runI rfl _ _ _ _ rfl _ _ (by simp [Act.eval, Act.put]) (by simp [Act.eval, Act.put]) (nt _ _ _) ?_)
 go_wp2
 all_goals (go_ret; exact ⟨rfl, rfl⟩)
set_option maxHeartbeats 4000000 in
theorem qc (xs : List aA) (y : aA) (i : Nat) (hi : i ≤ xs.length) (sj : xs.length ≤ aR) : bE Tryz.prog 213 [oN 0, nT fun _ => i, oN 1] [(0, aQ .aF fun _ => xs), (1, aQ .aF fun _ => [y])] (dP (lR .aF fun _ => xs.take i ++ y :: xs.drop i) []) := by
 refine vC ⟨_, Tryz.func213, rfl, rfl⟩ (fun k hk => by (have q : k = 0 ∨ k = 1 := by simpa [av] using hk); omega) fun w vs ρ hr ha => ?_;have sj : xs.length ≤ 1048576 := sj;obtain ⟨bj, hv⟩ := ha;have e0 : vs.getD 0 Go.undef = (ρ 0).1 := (hv 0 _ rfl).2;have e1 : vs.getD 1 Go.undef = .int .i64 (i : Int) := qm (hv 1 _ rfl);have e2 : vs.getD 2 Go.undef = (ρ 1).1 := (hv 2 _ rfl).2;have gR := vD (vs := vs) bj;rw [e0, e1, e2] at gR;have ho : bn w.heap (.list .aF fun _ => xs) (ρ 0).1 (ρ 0).2 := hr.af 0 _ List.mem_cons_self;have sn : bn w.heap (.list .aF fun _ => [y]) (ρ 1).1 (ρ 1).2 := hr.af 1 _ (List.mem_cons_of_mem _ List.mem_cons_self);have gB : ∀ x, aS ρ [(0, aQ .aF fun _ => xs), (1, aQ .aF fun _ => [y])] x = (ρ 0).2 x + (ρ 1).2 x := fun x => by simp [aS]
 have fM : ∀ x, (ρ 0).2 x + (ρ 1).2 x ≤ 1 := fun x => by have := hr.sum x; rwa [gB] at this
 have kO : ∀ x, 0 < (ρ 0).2 x + (ρ 1).2 x → x < w.heap.size := fun x hx => by
   have : ∃ cs e fz, w.heap[x]? = some (.cells cs e fz) := by
     rcases Nat.eq_zero_or_pos ((ρ 0).2 x) with h | h
     · exact sn.there x (by omega)
     · exact ho.there x h
   obtain ⟨_, _, _, h⟩ := this;rcases Nat.lt_or_ge x w.heap.size with h' | h'
   · exact h'
   · rw [Array.getElem?_eq_none h'] at h; cases h
 obtain ⟨ht, inf, z, fa, dD, ie, hz, sg, jD⟩ := kQ ay (T := 116) (E := .aF) rfl;rcases sn.fL with ⟨_, h, _⟩ | ⟨vb, b_, vc, nv, ue, JV, U, jF, so, dC, jT, eF, oW, nx, jG⟩
 · cases h
 have eF : 1 ≤ vc := eF;have jG : bH w.heap .aF [y] (fun q => nv.getD (b_ + q) Go.undef) U := jG;have jF : (ρ 1).1 = .slice (some ⟨vb, b_, none⟩) 1 vc := jF
 have fin : ∀ {v : Value} {q : Nat → Nat} {w' : World}, bn w'.heap (.list .aF fun _ => xs.take i ++ y :: xs.drop i) v q → Ext w w' → (∀ x, x < w.heap.size → (ρ 0).2 x = 0 → w'.heap[x]? = w.heap[x]?) → (∀ x, x < w.heap.size → q x ≤ (ρ 0).2 x + (ρ 1).2 x) → (∀ x, q x ≤ 1) →
     ∃ v' q', Ending.returned v = .returned v' ∧ bn w'.heap (.list .aF fun _ => xs.take i ++ y :: xs.drop i) v' q' ∧ Ext w w' ∧ (∀ x, x < w.heap.size → aS ρ [(0, aQ .aF fun _ => xs), (1, aQ .aF fun _ => [y])] x = 0 → w'.heap[x]? = w.heap[x]?) ∧ (∀ x, x < w.heap.size → q' x ≤ aS ρ [(0, aQ .aF fun _ => xs), (1, aQ .aF fun _ => [y])] x) ∧ ∀ x, q' x ≤ 1 := fun a b c d e =>
   ⟨_, _, rfl, a, b, fun x hx h0 => c x hx (by rw [gB] at h0; omega), fun x hx => by rw [gB]; exact d x hx, e⟩
 rcases Nat.lt_or_ge i xs.length with aL | lL
 · -- not at the end
   rcases ho.fL with ⟨_, h, _⟩ | ⟨b, off, c, cs, e, fz, S, bS, hp, hb, hf, hl, hm, eK, cB⟩
   · have h : xs = [] := h;rw [h] at aL; simp at aL
   have hl : xs.length ≤ c := hl;have cB : bH w.heap .aF xs (fun q => cs.getD (off + q) Go.undef) S := cB
   have JW : (ρ 0).2 b = 1 ∧ (ρ 1).2 b = 0 := by
     have h1 := fM b;have h2 : 0 < (ρ 0).2 b := by rw [hp]; exact km _ _ _ _
     omega
   have xP : 0 < (ρ 1).2 vb := by rw [so]; exact km _ _ _ _
   have hne : vb ≠ b := fun he => by rw [he] at xP; omega
   have e3 : xs.length * an.sz .aF ≤ c * an.sz .aF := Nat.mul_le_mul_right _ hl;obtain ⟨uA, us, JX, fA, oo, oX, JY⟩ := qn (P := Tryz.prog) (E := .aF) (xs := [y]) (k := 0) (Nat.zero_le _) eF dC nx jG ht;have fA : us.length = an.sz .aF := by rw [fA]; simp
   have sq : bH w.heap .aF [y] (fun q => us.getD q Go.undef) U := jG.cells fun q hq => by
     have hq : q < an.sz .aF := by simpa using hq
     rw [oo q (by rw [fA]; exact hq)]; simp
   have sr : ∀ j v, us[j]? = some v → w.cell? ((⟨vb, b_, none⟩ : Addr).add j) = some v := fun j v hj => by
     have hq := bq hj;have h3 : us.getD j Go.undef = v := by rw [List.getD_eq_getElem?_getD, hj]; rfl
     rw [← h3, oo j hq, fe, Nat.zero_mul, Nat.add_zero]
     exact cell_of dC (getD_some (by
       have : b_ + vc * an.sz .aF ≤ nv.size := nx;have h4 := Nat.mul_le_mul_right (an.sz .aF) eF;omega))
   have eY : w.drew.heap[b]? = some (.cells cs e fz) := hb;obtain ⟨nA, news, ny, gS, dM, kY, _⟩ := qn (P := Tryz.prog) (w := w) (E := .aF) (xs := xs) (k := i) hi hl hb eK cB ht
   have ny : nA = ⟨b, off + i * an.sz .aF, none⟩ := by
     rw [if_neg (by omega)] at ny; exact (Option.some.inj ny).symm
   have e1 : i * an.sz .aF + (xs.length - i) * an.sz .aF = xs.length * an.sz .aF := by rw [← Nat.add_mul]; congr 1; omega
   have su : ∀ j v, news[j]? = some v → w.cell? ((⟨b, off + i * an.sz .aF, none⟩ : Addr).add j) = some v := fun j v hj => by
     have hq := bq hj;have h3 : news.getD j Go.undef = v := by rw [List.getD_eq_getElem?_getD, hj]; rfl
     rw [← h3, dM j hq, fe];rw [gS] at hq;exact cell_of hb (getD_some (by omega))
   have e4 : (i + 1) * an.sz .aF = i * an.sz .aF + an.sz .aF := by rw [Nat.add_mul]; omega
   have e5 : (xs.length + 1) * an.sz .aF = xs.length * an.sz .aF + an.sz .aF := by rw [Nat.add_mul]; omega
   rcases Nat.lt_or_ge c (xs.length + 1) with hg | gm
   · -- a new row
     obtain ⟨gl, lp, hold, xQ⟩ := En (P := Tryz.prog) (w := w.drew) (E := .aF) (xs := xs) (k := i) hi hl eY eK cB;have fN : 0 < xs.length + 1 - i := by omega
     have cM := fun ty => run_append_grow_zeros (P := Tryz.prog) w 116 3 ty _ inf z .i64 .i64 ht Tryz.underlying3 fa hz (some ⟨b, off, none⟩) i c gl (by rw [dD]; exact xQ) (xs.length + 1 - i) fN (by rw [dD]; decide) (by omega) (by omega) (by rw [ie]; omega) (by
       rw [ie]; exact growslice_fits (by omega) (by omega))
     have jH := grownCap_ge w (i + (xs.length + 1 - i)) c 38;rw [show i + (xs.length + 1 - i) = xs.length + 1 by omega] at cM jH;generalize grownCap w (xs.length + 1) c 38 = C at cM jH;generalize mZ : gl.toArray ++ Builtin.zeroCells z.cells (xs.length + 1 - i) ++ Builtin.zeroCells z.cells (C - (xs.length + 1)) = cells at cM
     have dy : cells.size = C * an.sz .aF := by
       rw [← mZ];simp only [Array.size_append, List.size_toArray, Builtin.zeroCells, Array.size_map, Array.size_range, jD, lp];rw [← Nat.add_mul, ← Nat.add_mul]
       congr 1; omega
     have b0 : ∀ q, q < i * an.sz .aF → cells.getD q Go.undef = cs.getD (off + q) Go.undef := fun q hq => by
       rw [← hold q (by rw [lp]; exact hq), ← mZ, Array.getD_eq_getD_getElem?, Array.getElem?_append_left (by simp [lp]; omega), Array.getElem?_append_left (by simp [lp]; omega), List.getElem?_toArray, List.getD_eq_getElem?_getD]
     obtain ⟨W1, lq⟩ : ∃ W1, W1 = w.drew.alloc (.cells cells 38) := ⟨_, rfl⟩;have k1 : W1.heap[w.heap.size]? = some (.cells cells 38 (0, 0)) := by rw [lq]; show (w.heap.push _)[w.heap.size]? = _; simp
     have k2 : ∀ x, x < w.heap.size → W1.heap[x]? = w.heap[x]? := fun x hx => by rw [lq]; show (w.heap.push _)[x]? = _; rw [Array.getElem?_push, if_neg (Nat.ne_of_lt hx)]
     have k3 : Ext w W1 := by rw [lq]; exact (show Ext w w.drew from Ext.of (Nat.le_refl _) rfl rfl fun _ => rfl).trans (s7 w.drew _ _)
     have xR : vb < w.heap.size := kO vb (by omega);have sv : b < w.heap.size := kO b (by omega);have e6 : (xs.length + 1) * an.sz .aF ≤ C * an.sz .aF := Nat.mul_le_mul_right _ jH
     obtain ⟨W2, c1, c2, c3, c4⟩ := mA (P := Tryz.prog) (w := W1) (o := i * an.sz .aF) (dLen := xs.length + 1 - i) (sLen := 1) (m := 1) (T2 := 116) k1 (mX _) ht fa (by simp only [Nat.min_def]; split <;> omega) (by rw [dD, fA, Nat.one_mul]) (fun j v hj => by
       have := sr j v hj;rw [fe] at this ⊢;rw [World.cell?, k2 vb xR]; exact this) (by rw [fA, dy]; omega) oX
     have xS : W2.drew.heap[w.heap.size]? = _ := c2
     obtain ⟨W3, d1, d2, d3, d4⟩ := mA (P := Tryz.prog) (w := W2.drew) (o := (i + 1) * an.sz .aF) (dLen := xs.length - i) (sLen := xs.length - i) (m := xs.length - i) (T2 := 116) xS (mX _) ht fa (by simp only [Nat.min_def]; split <;> omega) (by rw [dD, gS]) (fun j v hj => by
       have := su j v hj;rw [fe] at this ⊢;rw [World.cell?, show W2.drew.heap[b]? = W2.heap[b]? from rfl, c3 b (Nat.ne_of_lt sv), k2 b sv]; exact this) (by rw [gS, eB, dy]; omega) kY
     have jI := AY w W1 W2 W3 b off xs.length c i vb b_ vc w.heap.size C _ _ aL hg hl (by omega) jH (fun ty => by
       have := cM ty;rw [show ((xs.length + 1 - i : Nat) : Int) = (xs.length : Int) + 1 - (i : Int) by omega] at this;rw [lq]; exact this) (fun ty dc => c1 ty dc vc) (fun ty dc sc => d1 ty dc sc)
     rw [gR, bS, jF];refine jI.mono fun e' w' he => ?_;obtain ⟨rfl, rfl⟩ := he;refine fin (Em (E := .aF) rfl hi jH (by unfold cG; omega) dy cB sq b0 gS dM fA d2) (k3.trans (c4.trans ((show Ext W2 W2.drew from Ext.of (Nat.le_refl _) rfl rfl fun _ => rfl).trans d4))) (fun x hx h0 => ?_) (fun x hx => ?_) (fun x => ?_)
     · rw [d3 x (Nat.ne_of_lt hx), show W2.drew.heap[x]? = W2.heap[x]? from rfl, c3 x (Nat.ne_of_lt hx), k2 x hx]
     · rw [jo, if_neg (Nat.ne_of_lt hx)]; omega
     · rw [jo]; split <;> omega
   · -- in place
     have e6 : (xs.length + 1) * an.sz .aF ≤ c * an.sz .aF := Nat.mul_le_mul_right _ gm
     have nr : ∀ lb cb, (callFunc 233 #[.slice (some ⟨vb, b_, none⟩) 1 vc, .slice (some ⟨b, off + (i + 1) * an.sz .aF, none⟩) lb cb]).run Tryz.prog w = .ok (.value (.bool false)) w := fun lb cb => by
       rw [run_callFunc_extern Tryz.func233 (by kernel_rfl) (by kernel_rfl) (by kernel_rfl) (e := Extern.SlicesOverlaps.overlaps #[116, 116] #[4]) (by kernel_rfl),
        Lib.run_overlaps_apart w 116 4 38 ht (an.sz .aF) (fun w => by simp [sizeOf, typeInfo, fa, dD]) ⟨vb, b_, none⟩ ⟨b, off + (i + 1) * an.sz .aF, none⟩ 1 vc lb cb hne ue e nv.size cs.size (by simp [World.shape?, dC]) (by simp [World.shape?, hb]) (by
         have : 0 < an.sz .aF := by decide
         omega) (vE dC jT _) (vE dC jT _)]
       rfl
     obtain ⟨W1, c1, c2, c3, c4⟩ := mA (P := Tryz.prog) (w := w.drew) (o := off + (i + 1) * an.sz .aF) (dLen := xs.length - i) (sLen := xs.length + 1 - i) (m := xs.length - i) (T2 := 116) eY hf ht fa (by simp only [Nat.min_def]; split <;> omega) (by rw [dD, gS]) su (by rw [gS]; omega) kY;have pZ : NF (dF cs (off + (i + 1) * an.sz .aF) news) fz := by rcases hf with h | h; exact .inl h; exact .inr (by rw [eB]; exact h)
     obtain ⟨W2, d1, d2, d3, d4⟩ := mA (P := Tryz.prog) (w := W1) (o := off + i * an.sz .aF) (dLen := xs.length + 1 - i) (sLen := 1) (m := 1) (T2 := 116) c2 pZ ht fa (by simp only [Nat.min_def]; split <;> omega) (by rw [dD, fA, Nat.one_mul]) (fun j v hj => by
       have := sr j v hj;rw [fe] at this ⊢;rw [World.cell?, c3 vb hne]; exact this) (by rw [fA, eB]; omega) oX
     have jI := AL w W1 W2 b off xs.length c i vb b_ vc _ _ aL gm (by omega) nr (fun ty dc sc => c1 ty dc sc) (fun ty dc => d1 ty dc vc);rw [gR, bS, jF];refine jI.mono fun e' w' he => ?_;obtain ⟨rfl, rfl⟩ := he;refine fin (El (E := .aF) rfl hi hf gm (by unfold cG; omega) eK cB sq gS dM fA d2) ((show Ext w w.drew from Ext.of (Nat.le_refl _) rfl rfl fun _ => rfl).trans (c4.trans d4)) (fun x hx h0 => ?_) (fun x hx => ?_) (fun x => ?_)
     · have iY : x ≠ b := fun he => by rw [he] at h0; omega
       rw [d3 x iY, c3 x iY]; rfl
     · rw [jo]
       split
       · rename_i he; rw [he]; omega
       · omega
     · rw [jo]; split <;> omega
 · -- at the end
   obtain rfl : i = xs.length := by omega
   obtain ⟨news, hN⟩ := jf.of (c := vc) dC (by have := Nat.mul_le_mul_right (an.sz .aF) eF; simpa using Nat.le_trans (Nat.add_le_add_left this b_) nx) jG;obtain ⟨v, p, w', g1, g2, g3, g4, g5, g6⟩ := wK (P := Tryz.prog) (w := w) (E := .aF) (xs := xs) (ys := [y]) (vy := .slice (some ⟨vb, b_, none⟩) 1 vc) (py := (ρ 1).2) (T := 116) (T2 := 116) (ty := 0) ho (hN.yQ ht) (fun x => by rw [so]; simp only [bT, cg]; exact Nat.le_add_left _ _) fM kO ht fa hz dD jD (by rw [ie]; decide) (by rw [ie]; simp only [List.length_cons, List.length_nil]; omega)
   obtain ⟨base, c, bS⟩ : ∃ base c, (ρ 0).1 = .slice base xs.length c := by
     rcases ho.fL with ⟨h1, h2, _⟩ | ⟨b, off, c, cs, e, fz, S, bS, _⟩
     · have h2 : xs = [] := h2;exact ⟨none, 0, by rw [h1, h2]; rfl⟩
     · exact ⟨_, c, bS⟩
   have jI := AK w w' base xs.length c vb b_ vc v (fun ty => by rw [bS] at g1; exact g1);rw [gR, bS, jF];refine jI.mono fun e' sR he => ?_;obtain ⟨rfl, rfl⟩ := he;have e7 : xs.take xs.length ++ y :: xs.drop xs.length = xs ++ [y] := by simp
   refine fin (by rw [e7]; exact g2) g3 g4 g5 (fun x => ?_);rcases Nat.lt_or_ge x w.heap.size with h | h
   · exact Nat.le_trans (g5 x h) (fM x)
   · exact g6 x h
set_option maxHeartbeats 4000000 in
theorem Rj (w W1 : World) (base : Option Addr) (n c vb b_ vc : Nat) (v' : Value)
   (iE : ∀ ty, (Builtin.append_ #[27, 27] ty #[.slice base n c, .slice (some ⟨vb, b_, none⟩) 1 vc]).run Tryz.prog w = .ok v' W1) :
   Calls Tryz.prog 149 #[.slice base n c, .int .i64 n, .slice (some ⟨vb, b_, none⟩) 1 vc] w fun e w' => e = .returned v' ∧ w' = W1 := by
 go_enter Tryz.func149, Tryz.ntmps149
 cases base with
 | none =>
   go_wp2_with (at_builtin; refine Lib.wpList_append_run _ rfl _ _ _ _ rfl _ _ rfl rfl _ _ (iE _) ?_)
   all_goals (go_ret; exact ⟨rfl, rfl⟩)
 | some a =>
   obtain ⟨ab, ao, JP⟩ := a
   go_wp2_with (at_builtin; refine Lib.wpList_append_run _ rfl _ _ _ _ rfl _ _ rfl rfl _ _ (iE _) ?_)
   all_goals (go_ret; exact ⟨rfl, rfl⟩)
set_option maxHeartbeats 4000000 in
theorem Rk (w W1 W2 : World) (b off n c i vb b_ vc : Nat) (r1 r2 : Value) (hi : i < n) (gm : n + 1 ≤ c) (xL : n + 1 ≤ 9223372036854775807)
  (nr : ∀ lb cb, (callFunc 203 #[.slice (some ⟨vb, b_, none⟩) 1 vc, .slice (some ⟨b, off + (i + 1) * 10, none⟩) lb cb]).run Tryz.prog w = .ok (.value (.bool false)) w)
  (ns : ∀ ty dc sc, (Builtin.copy_ #[27, 27] ty #[.slice (some ⟨b, off + (i + 1) * 10, none⟩) (n - i) dc, .slice (some ⟨b, off + i * 10, none⟩) (n + 1 - i) sc]).run Tryz.prog w.drew = .ok r1 W1)
  (nt : ∀ ty dc, (Builtin.copy_ #[27, 27] ty #[.slice (some ⟨b, off + i * 10, none⟩) (n + 1 - i) dc, .slice (some ⟨vb, b_, none⟩) 1 vc]).run Tryz.prog W1 = .ok r2 W2) :
  Calls Tryz.prog 149 #[.slice (some ⟨b, off, none⟩) n c, .int .i64 i, .slice (some ⟨vb, b_, none⟩) 1 vc] w fun e w' => e = .returned (.slice (some ⟨b, off, none⟩) (n + 1) c) ∧ w' = W2 := by
 have mixed : Tryz.prog.follows Departure.mixedOrders = true := by kernel_rfl
 have qo : ¬ ((i : Int) = (n : Int)) := by omega
 have pQ : ((i : Int) + 1).toNat = i + 1 := by omega
 have rj : ((n : Int) + 1).toNat = n + 1 := by omega
 have dC : ¬ (c = i + 1) := by omega
 have cu : (i : Int) ≤ (n : Int) + 1 := by omega
 have rS : ¬ (c = i) := by omega
 have nu : ¬ ((n : Int) + 1 > (c : Int)) := by omega
 have JQ : ¬ ((c : Int) < (n : Int) + 1) := by omega
 have kI : (0 : Int) ≤ (n : Int) + 1 := by omega
 have Ak : (n : Int) + 1 ≤ (c : Int) := by omega
 have ga : (0 : Int) ≤ (i : Int) + 1 := by omega
 have xM : (i : Int) + 1 ≤ (n : Int) + 1 := by omega
 have xN : (i : Int) ≤ (n : Int) := by omega
 have dU : i ≤ n := by omega
 have sh : IntKind.i64.wrap ((i : Int) + 1) = (i : Int) + 1 := by rw [IntKind.wrap_i64]; omega
 have xO : IntKind.i64.wrap ((n : Int) + 1) = (n : Int) + 1 := by rw [IntKind.wrap_i64]; omega
 go_enter Tryz.func149, Tryz.ntmps149
 go_wp2_with (simp only [nr])
 go_region_law_o (refine step_copy_runI rfl _ _ _ _ rfl _ _ (by simp [Act.eval, Act.put]) (by simp [Act.eval, Act.put]) (ns _ _ _) ?_)
 go_wp2_with (at_builtin; refine wpList_copy_runI _ rfl _ _ _ _ rfl _ _ rfl rfl (nt _ _) ?_)
 all_goals (go_ret; exact ⟨rfl, rfl⟩)
set_option maxHeartbeats 4000000 in
theorem Rl (w W1 W2 W3 : World) (b off n c i vb b_ vc nb c2 : Nat) (r1 r2 : Value) (hi : i < n) (gm : c < n + 1) (hc : n ≤ c) (xL : n + 1 ≤ 9223372036854775807) (lB : n + 1 ≤ c2)
  (iE : ∀ ty, (Builtin.append_ #[27, 3] ty #[.slice (some ⟨b, off, none⟩) i c, .int .i64 ((n : Int) + 1 - (i : Int))]).run Tryz.prog w = .ok (.slice (some ⟨nb, 0, none⟩) (n + 1) c2) W1)
  (ns : ∀ ty dc, (Builtin.copy_ #[27, 27] ty #[.slice (some ⟨nb, i * 10, none⟩) (n + 1 - i) dc, .slice (some ⟨vb, b_, none⟩) 1 vc]).run Tryz.prog W1 = .ok r1 W2)
  (nt : ∀ ty dc sc, (Builtin.copy_ #[27, 27] ty #[.slice (some ⟨nb, (i + 1) * 10, none⟩) (n - i) dc, .slice (some ⟨b, off + i * 10, none⟩) (n - i) sc]).run Tryz.prog W2.drew = .ok r2 W3) :
  Calls Tryz.prog 149 #[.slice (some ⟨b, off, none⟩) n c, .int .i64 i, .slice (some ⟨vb, b_, none⟩) 1 vc] w fun e w' => e = .returned (.slice (some ⟨nb, 0, none⟩) (n + 1) c2) ∧ w' = W3 := by
 have mixed : Tryz.prog.follows Departure.mixedOrders = true := by kernel_rfl
 have qo : ¬ ((i : Int) = (n : Int)) := by omega
 have pQ : ((i : Int) + 1).toNat = i + 1 := by omega
 have rj : ((n : Int) + 1).toNat = n + 1 := by omega
 have dC : ¬ (c2 = i + 1) := by omega
 have rS : ¬ (c = i) := by omega
 have JR : ¬ (c2 = i) := by omega
 have nu : (c : Int) < (n : Int) + 1 := by omega
 have ga : (0 : Int) ≤ (i : Int) + 1 := by omega
 have xM : (i : Int) + 1 ≤ (n : Int) + 1 := by omega
 have cu : (i : Int) ≤ (n : Int) + 1 := by omega
 have xN : (i : Int) ≤ (n : Int) := by omega
 have JS : i ≤ c := by omega
 have dU : i ≤ n := by omega
 have sh : IntKind.i64.wrap ((i : Int) + 1) = (i : Int) + 1 := by rw [IntKind.wrap_i64]; omega
 have xO : IntKind.i64.wrap ((n : Int) + 1) = (n : Int) + 1 := by rw [IntKind.wrap_i64]; omega
 have JT : IntKind.i64.wrap ((n : Int) + 1 - (i : Int)) = (n : Int) + 1 - (i : Int) := by rw [IntKind.wrap_i64]; omega
 go_enter Tryz.func149, Tryz.ntmps149
 go_wp2_with (first | (at_builtin; refine Lib.wpList_append_run _ rfl _ _ _ _ rfl _ _ rfl rfl _ _ (iE _) ?_) | (at_builtin; refine wpList_copy_runI _ rfl _ _ _ _ rfl _ _ rfl rfl (ns _ _) ?_))
 go_region_law_o (refine step_copy_runI rfl _ _ _ _ rfl _ _ (by simp [Act.eval, Act.put]) (by simp [Act.eval, Act.put]) (nt _ _ _) ?_)
 go_wp2
 all_goals (go_ret; exact ⟨rfl, rfl⟩)
set_option maxHeartbeats 4000000 in
theorem J0 (xs : List au) (y : au) (i : Nat) (hi : i ≤ xs.length) (sj : xs.length ≤ aR) : bE Tryz.prog 149 [oN 0, nT fun _ => i, oN 1] [(0, aQ .az fun _ => xs), (1, aQ .az fun _ => [y])] (dP (lR .az fun _ => xs.take i ++ y :: xs.drop i) []) := by
 refine vC ⟨_, Tryz.func149, rfl, rfl⟩ (fun k hk => by (have q : k = 0 ∨ k = 1 := by simpa [av] using hk); omega) fun w vs ρ hr ha => ?_;have sj : xs.length ≤ 1048576 := sj;obtain ⟨bj, hv⟩ := ha;have e0 : vs.getD 0 Go.undef = (ρ 0).1 := (hv 0 _ rfl).2;have e1 : vs.getD 1 Go.undef = .int .i64 (i : Int) := qm (hv 1 _ rfl);have e2 : vs.getD 2 Go.undef = (ρ 1).1 := (hv 2 _ rfl).2;have gR := vD (vs := vs) bj;rw [e0, e1, e2] at gR;have ho : bn w.heap (.list .az fun _ => xs) (ρ 0).1 (ρ 0).2 := hr.af 0 _ List.mem_cons_self;have sn : bn w.heap (.list .az fun _ => [y]) (ρ 1).1 (ρ 1).2 := hr.af 1 _ (List.mem_cons_of_mem _ List.mem_cons_self);have gB : ∀ x, aS ρ [(0, aQ .az fun _ => xs), (1, aQ .az fun _ => [y])] x = (ρ 0).2 x + (ρ 1).2 x := fun x => by simp [aS]
 have fM : ∀ x, (ρ 0).2 x + (ρ 1).2 x ≤ 1 := fun x => by have := hr.sum x; rwa [gB] at this
 have kO : ∀ x, 0 < (ρ 0).2 x + (ρ 1).2 x → x < w.heap.size := fun x hx => by
   have : ∃ cs e fz, w.heap[x]? = some (.cells cs e fz) := by
     rcases Nat.eq_zero_or_pos ((ρ 0).2 x) with h | h
     · exact sn.there x (by omega)
     · exact ho.there x h
   obtain ⟨_, _, _, h⟩ := this;rcases Nat.lt_or_ge x w.heap.size with h' | h'
   · exact h'
   · rw [Array.getElem?_eq_none h'] at h; cases h
 obtain ⟨ht, inf, z, fa, dD, ie, hz, sg, jD⟩ := kQ ay (T := 27) (E := .az) rfl;rcases sn.fL with ⟨_, h, _⟩ | ⟨vb, b_, vc, nv, ue, JV, U, jF, so, dC, jT, eF, oW, nx, jG⟩
 · cases h
 have eF : 1 ≤ vc := eF;have jG : bH w.heap .az [y] (fun q => nv.getD (b_ + q) Go.undef) U := jG;have jF : (ρ 1).1 = .slice (some ⟨vb, b_, none⟩) 1 vc := jF
 have fin : ∀ {v : Value} {q : Nat → Nat} {w' : World}, bn w'.heap (.list .az fun _ => xs.take i ++ y :: xs.drop i) v q → Ext w w' → (∀ x, x < w.heap.size → (ρ 0).2 x = 0 → w'.heap[x]? = w.heap[x]?) → (∀ x, x < w.heap.size → q x ≤ (ρ 0).2 x + (ρ 1).2 x) → (∀ x, q x ≤ 1) →
     ∃ v' q', Ending.returned v = .returned v' ∧ bn w'.heap (.list .az fun _ => xs.take i ++ y :: xs.drop i) v' q' ∧ Ext w w' ∧ (∀ x, x < w.heap.size → aS ρ [(0, aQ .az fun _ => xs), (1, aQ .az fun _ => [y])] x = 0 → w'.heap[x]? = w.heap[x]?) ∧ (∀ x, x < w.heap.size → q' x ≤ aS ρ [(0, aQ .az fun _ => xs), (1, aQ .az fun _ => [y])] x) ∧ ∀ x, q' x ≤ 1 := fun a b c d e =>
   ⟨_, _, rfl, a, b, fun x hx h0 => c x hx (by rw [gB] at h0; omega), fun x hx => by rw [gB]; exact d x hx, e⟩
 rcases Nat.lt_or_ge i xs.length with aL | lL
 · -- not at the end
   rcases ho.fL with ⟨_, h, _⟩ | ⟨b, off, c, cs, e, fz, S, bS, hp, hb, hf, hl, hm, eK, cB⟩
   · have h : xs = [] := h;rw [h] at aL; simp at aL
   have hl : xs.length ≤ c := hl;have cB : bH w.heap .az xs (fun q => cs.getD (off + q) Go.undef) S := cB
   have JW : (ρ 0).2 b = 1 ∧ (ρ 1).2 b = 0 := by
     have h1 := fM b;have h2 : 0 < (ρ 0).2 b := by rw [hp]; exact km _ _ _ _
     omega
   have xP : 0 < (ρ 1).2 vb := by rw [so]; exact km _ _ _ _
   have hne : vb ≠ b := fun he => by rw [he] at xP; omega
   have e3 : xs.length * an.sz .az ≤ c * an.sz .az := Nat.mul_le_mul_right _ hl;obtain ⟨uA, us, JX, fA, oo, oX, JY⟩ := qn (P := Tryz.prog) (E := .az) (xs := [y]) (k := 0) (Nat.zero_le _) eF dC nx jG ht;have fA : us.length = an.sz .az := by rw [fA]; simp
   have sq : bH w.heap .az [y] (fun q => us.getD q Go.undef) U := jG.cells fun q hq => by
     have hq : q < an.sz .az := by simpa using hq
     rw [oo q (by rw [fA]; exact hq)]; simp
   have sr : ∀ j v, us[j]? = some v → w.cell? ((⟨vb, b_, none⟩ : Addr).add j) = some v := fun j v hj => by
     have hq := bq hj;have h3 : us.getD j Go.undef = v := by rw [List.getD_eq_getElem?_getD, hj]; rfl
     rw [← h3, oo j hq, fe, Nat.zero_mul, Nat.add_zero]
     exact cell_of dC (getD_some (by
       have : b_ + vc * an.sz .az ≤ nv.size := nx;have h4 := Nat.mul_le_mul_right (an.sz .az) eF;omega))
   have eY : w.drew.heap[b]? = some (.cells cs e fz) := hb;obtain ⟨nA, news, ny, gS, dM, kY, _⟩ := qn (P := Tryz.prog) (w := w) (E := .az) (xs := xs) (k := i) hi hl hb eK cB ht
   have ny : nA = ⟨b, off + i * an.sz .az, none⟩ := by
     rw [if_neg (by omega)] at ny; exact (Option.some.inj ny).symm
   have e1 : i * an.sz .az + (xs.length - i) * an.sz .az = xs.length * an.sz .az := by rw [← Nat.add_mul]; congr 1; omega
   have su : ∀ j v, news[j]? = some v → w.cell? ((⟨b, off + i * an.sz .az, none⟩ : Addr).add j) = some v := fun j v hj => by
     have hq := bq hj;have h3 : news.getD j Go.undef = v := by rw [List.getD_eq_getElem?_getD, hj]; rfl
     rw [← h3, dM j hq, fe];rw [gS] at hq;exact cell_of hb (getD_some (by omega))
   have e4 : (i + 1) * an.sz .az = i * an.sz .az + an.sz .az := by rw [Nat.add_mul]; omega
   have e5 : (xs.length + 1) * an.sz .az = xs.length * an.sz .az + an.sz .az := by rw [Nat.add_mul]; omega
   rcases Nat.lt_or_ge c (xs.length + 1) with hg | gm
   · -- a new row
     obtain ⟨gl, lp, hold, xQ⟩ := En (P := Tryz.prog) (w := w.drew) (E := .az) (xs := xs) (k := i) hi hl eY eK cB;have fN : 0 < xs.length + 1 - i := by omega
     have cM := fun ty => run_append_grow_zeros (P := Tryz.prog) w 27 3 ty _ inf z .i64 .i64 ht Tryz.underlying3 fa hz (some ⟨b, off, none⟩) i c gl (by rw [dD]; exact xQ) (xs.length + 1 - i) fN (by rw [dD]; decide) (by omega) (by omega) (by rw [ie]; omega) (by
       rw [ie]; exact growslice_fits (by omega) (by omega))
     have jH := grownCap_ge w (i + (xs.length + 1 - i)) c 63;rw [show i + (xs.length + 1 - i) = xs.length + 1 by omega] at cM jH;generalize grownCap w (xs.length + 1) c 63 = C at cM jH;generalize mZ : gl.toArray ++ Builtin.zeroCells z.cells (xs.length + 1 - i) ++ Builtin.zeroCells z.cells (C - (xs.length + 1)) = cells at cM
     have dy : cells.size = C * an.sz .az := by
       rw [← mZ];simp only [Array.size_append, List.size_toArray, Builtin.zeroCells, Array.size_map, Array.size_range, jD, lp];rw [← Nat.add_mul, ← Nat.add_mul]
       congr 1; omega
     have b0 : ∀ q, q < i * an.sz .az → cells.getD q Go.undef = cs.getD (off + q) Go.undef := fun q hq => by
       rw [← hold q (by rw [lp]; exact hq), ← mZ, Array.getD_eq_getD_getElem?, Array.getElem?_append_left (by simp [lp]; omega), Array.getElem?_append_left (by simp [lp]; omega), List.getElem?_toArray, List.getD_eq_getElem?_getD]
     obtain ⟨W1, lq⟩ : ∃ W1, W1 = w.drew.alloc (.cells cells 63) := ⟨_, rfl⟩;have k1 : W1.heap[w.heap.size]? = some (.cells cells 63 (0, 0)) := by rw [lq]; show (w.heap.push _)[w.heap.size]? = _; simp
     have k2 : ∀ x, x < w.heap.size → W1.heap[x]? = w.heap[x]? := fun x hx => by rw [lq]; show (w.heap.push _)[x]? = _; rw [Array.getElem?_push, if_neg (Nat.ne_of_lt hx)]
     have k3 : Ext w W1 := by rw [lq]; exact (show Ext w w.drew from Ext.of (Nat.le_refl _) rfl rfl fun _ => rfl).trans (s7 w.drew _ _)
     have xR : vb < w.heap.size := kO vb (by omega);have sv : b < w.heap.size := kO b (by omega);have e6 : (xs.length + 1) * an.sz .az ≤ C * an.sz .az := Nat.mul_le_mul_right _ jH
     obtain ⟨W2, c1, c2, c3, c4⟩ := mA (P := Tryz.prog) (w := W1) (o := i * an.sz .az) (dLen := xs.length + 1 - i) (sLen := 1) (m := 1) (T2 := 27) k1 (mX _) ht fa (by simp only [Nat.min_def]; split <;> omega) (by rw [dD, fA, Nat.one_mul]) (fun j v hj => by
       have := sr j v hj;rw [fe] at this ⊢;rw [World.cell?, k2 vb xR]; exact this) (by rw [fA, dy]; omega) oX
     have xS : W2.drew.heap[w.heap.size]? = _ := c2
     obtain ⟨W3, d1, d2, d3, d4⟩ := mA (P := Tryz.prog) (w := W2.drew) (o := (i + 1) * an.sz .az) (dLen := xs.length - i) (sLen := xs.length - i) (m := xs.length - i) (T2 := 27) xS (mX _) ht fa (by simp only [Nat.min_def]; split <;> omega) (by rw [dD, gS]) (fun j v hj => by
       have := su j v hj;rw [fe] at this ⊢;rw [World.cell?, show W2.drew.heap[b]? = W2.heap[b]? from rfl, c3 b (Nat.ne_of_lt sv), k2 b sv]; exact this) (by rw [gS, eB, dy]; omega) kY
     have jI := Rl w W1 W2 W3 b off xs.length c i vb b_ vc w.heap.size C _ _ aL hg hl (by omega) jH (fun ty => by
       have := cM ty;rw [show ((xs.length + 1 - i : Nat) : Int) = (xs.length : Int) + 1 - (i : Int) by omega] at this;rw [lq]; exact this) (fun ty dc => c1 ty dc vc) (fun ty dc sc => d1 ty dc sc)
     rw [gR, bS, jF];refine jI.mono fun e' w' he => ?_;obtain ⟨rfl, rfl⟩ := he;refine fin (Em (E := .az) rfl hi jH (by unfold cG; omega) dy cB sq b0 gS dM fA d2) (k3.trans (c4.trans ((show Ext W2 W2.drew from Ext.of (Nat.le_refl _) rfl rfl fun _ => rfl).trans d4))) (fun x hx h0 => ?_) (fun x hx => ?_) (fun x => ?_)
     · rw [d3 x (Nat.ne_of_lt hx), show W2.drew.heap[x]? = W2.heap[x]? from rfl, c3 x (Nat.ne_of_lt hx), k2 x hx]
     · rw [jo, if_neg (Nat.ne_of_lt hx)]; omega
     · rw [jo]; split <;> omega
   · -- in place
     have e6 : (xs.length + 1) * an.sz .az ≤ c * an.sz .az := Nat.mul_le_mul_right _ gm
     have nr : ∀ lb cb, (callFunc 203 #[.slice (some ⟨vb, b_, none⟩) 1 vc, .slice (some ⟨b, off + (i + 1) * an.sz .az, none⟩) lb cb]).run Tryz.prog w = .ok (.value (.bool false)) w := fun lb cb => by
       rw [run_callFunc_extern Tryz.func203 (by kernel_rfl) (by kernel_rfl) (by kernel_rfl) (e := Extern.SlicesOverlaps.overlaps #[27, 27] #[4]) (by kernel_rfl),
        Lib.run_overlaps_apart w 27 4 63 ht (an.sz .az) (fun w => by simp [sizeOf, typeInfo, fa, dD]) ⟨vb, b_, none⟩ ⟨b, off + (i + 1) * an.sz .az, none⟩ 1 vc lb cb hne ue e nv.size cs.size (by simp [World.shape?, dC]) (by simp [World.shape?, hb]) (by
         have : 0 < an.sz .az := by decide
         omega) (vE dC jT _) (vE dC jT _)]
       rfl
     obtain ⟨W1, c1, c2, c3, c4⟩ := mA (P := Tryz.prog) (w := w.drew) (o := off + (i + 1) * an.sz .az) (dLen := xs.length - i) (sLen := xs.length + 1 - i) (m := xs.length - i) (T2 := 27) eY hf ht fa (by simp only [Nat.min_def]; split <;> omega) (by rw [dD, gS]) su (by rw [gS]; omega) kY;have pZ : NF (dF cs (off + (i + 1) * an.sz .az) news) fz := by rcases hf with h | h; exact .inl h; exact .inr (by rw [eB]; exact h)
     obtain ⟨W2, d1, d2, d3, d4⟩ := mA (P := Tryz.prog) (w := W1) (o := off + i * an.sz .az) (dLen := xs.length + 1 - i) (sLen := 1) (m := 1) (T2 := 27) c2 pZ ht fa (by simp only [Nat.min_def]; split <;> omega) (by rw [dD, fA, Nat.one_mul]) (fun j v hj => by
       have := sr j v hj;rw [fe] at this ⊢;rw [World.cell?, c3 vb hne]; exact this) (by rw [fA, eB]; omega) oX
     have jI := Rk w W1 W2 b off xs.length c i vb b_ vc _ _ aL gm (by omega) nr (fun ty dc sc => c1 ty dc sc) (fun ty dc => d1 ty dc vc);rw [gR, bS, jF];refine jI.mono fun e' w' he => ?_;obtain ⟨rfl, rfl⟩ := he;refine fin (El (E := .az) rfl hi hf gm (by unfold cG; omega) eK cB sq gS dM fA d2) ((show Ext w w.drew from Ext.of (Nat.le_refl _) rfl rfl fun _ => rfl).trans (c4.trans d4)) (fun x hx h0 => ?_) (fun x hx => ?_) (fun x => ?_)
     · have iY : x ≠ b := fun he => by rw [he] at h0; omega
       rw [d3 x iY, c3 x iY]; rfl
     · rw [jo]
       split
       · rename_i he; rw [he]; omega
       · omega
     · rw [jo]; split <;> omega
 · -- at the end
   obtain rfl : i = xs.length := by omega
   obtain ⟨news, hN⟩ := jf.of (c := vc) dC (by have := Nat.mul_le_mul_right (an.sz .az) eF; simpa using Nat.le_trans (Nat.add_le_add_left this b_) nx) jG;obtain ⟨v, p, w', g1, g2, g3, g4, g5, g6⟩ := wK (P := Tryz.prog) (w := w) (E := .az) (xs := xs) (ys := [y]) (vy := .slice (some ⟨vb, b_, none⟩) 1 vc) (py := (ρ 1).2) (T := 27) (T2 := 27) (ty := 0) ho (hN.yQ ht) (fun x => by rw [so]; simp only [bT, cg]; exact Nat.le_add_left _ _) fM kO ht fa hz dD jD (by rw [ie]; decide) (by rw [ie]; simp only [List.length_cons, List.length_nil]; omega)
   obtain ⟨base, c, bS⟩ : ∃ base c, (ρ 0).1 = .slice base xs.length c := by
     rcases ho.fL with ⟨h1, h2, _⟩ | ⟨b, off, c, cs, e, fz, S, bS, _⟩
     · have h2 : xs = [] := h2;exact ⟨none, 0, by rw [h1, h2]; rfl⟩
     · exact ⟨_, c, bS⟩
   have jI := Rj w w' base xs.length c vb b_ vc v (fun ty => by rw [bS] at g1; exact g1);rw [gR, bS, jF];refine jI.mono fun e' sR he => ?_;obtain ⟨rfl, rfl⟩ := he;have e7 : xs.take xs.length ++ y :: xs.drop xs.length = xs ++ [y] := by simp
   refine fin (by rw [e7]; exact g2) g3 g4 g5 (fun x => ?_);rcases Nat.lt_or_ge x w.heap.size with h | h
   · exact Nat.le_trans (g5 x h) (fM x)
   · exact g6 x h
end Go.Proofs.YtehpbaiclfilaaaGreat

