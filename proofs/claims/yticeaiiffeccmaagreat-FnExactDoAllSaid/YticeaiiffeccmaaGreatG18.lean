/- Parts of a proof. No conditions. -/

import Derived.Test.YticeaiiffeccmaaGreatG17
import Derived.Test.YticeaiiffeccmaaGreatGTab
import Derived.Test.YticeaiiffeccmaaGreatG05
import Derived.WalkKit
import Derived.Deep.RegionLaw
import Derived.Lib.SliceRun
import Derived.Shelf.RegionOpenPlain
import Derived.Lib.JoinLaws
import Derived.Shelf.Spec.SlicesInsert
set_option linter.unusedSimpArgs false
set_option linter.unusedVariables false
namespace Go.Proofs.YticeaiiffeccmaaGreat
open Go Go.RowKit Go.Lib Go.Shelf
set_option maxRecDepth 100000
set_option maxHeartbeats 1000000 in
theorem OT (w : World) (b off c n i : Nat) (hi : i < n) (Hq : n ≤ c) (W1 W2 : World) (A : Addr) (hA : (if c = i + 1 then some (⟨b, off, none⟩ : Addr) else some ⟨b, off + (i + 1) * 4, none⟩) = some A)
  (hY : ∀ ty, (Builtin.append_ #[85, 85] ty #[.slice (some ⟨b, off, none⟩) i c, .slice (some A) (n - (i + 1)) (c - (i + 1))]).run Tryz.prog w.drew = .ok (.slice (some ⟨b, off, none⟩) (n - 1) c) W1)
  (fc : ∀ ty c', (Builtin.clear_ #[85] ty #[.slice (some ⟨b, off + (n - 1) * 4, none⟩) 1 c']).run Tryz.prog W1 = .ok (.tuple #[]) W2) :
  Calls Tryz.prog 109 #[.slice (some ⟨b, off, none⟩) n c, .int .i64 i, .int .i64 ((i : Int) + 1)] w fun e w' => e = .returned (.slice (some ⟨b, off, none⟩) (n - 1) c) ∧ w' = W2 := by
 have n1 : ((i : Int) + 1).toNat = i + 1 := by omega
 have n2 : ((i : Int)).toNat = i := by omega
 have n3 : (i : Int) ≤ (i : Int) + 1 := by omega
 have n4 : (i : Int) + 1 ≤ (n : Int) := by omega
 have n5 : (n : Int) ≤ (c : Int) := by omega
 have n6 : (0 : Int) ≤ (i : Int) + 1 := by omega
 have n7 : ¬ ((i : Int) = (i : Int) + 1) := by omega
 have n8 : i ≤ c := by omega
 have n9 : n - (n - 1) = 1 := by omega
 have Hr : ¬ (c = n - 1) := by omega
 have Hs : ((n - 1 : Nat) : Int) ≤ (n : Int) := by omega
 have mixed : Tryz.prog.follows Departure.mixedOrders = true := by kernel_rfl
 go_enter Tryz.func109, Tryz.ntmps109
 go_wp2
 go_region_law_o (refine BN rfl _ _ _ _ rfl _ _ (by simp [Act.eval, Act.put]) (by simp [Act.eval, Act.put]) (hY _) ?_)
 go_wp2
 go_ret
 exact ⟨rfl, rfl⟩
theorem OU (xs : List Entry) (i : Nat) (hi : i < xs.length) : cB Tryz.prog 109 [oN 0, nT fun _ => i, iT fun _ => (i : Int) + 1] [(0, aN .aH fun _ => xs)] (cV (lR .aH fun _ => xs.take i ++ xs.drop (i + 1)) []) := by
 refine tN ⟨_, Tryz.func109, rfl, rfl⟩ (fun k hk => by (have q : k = 0 := by simpa [ax] using hk); omega) fun w vs ρ hr ha => ?_;obtain ⟨bg, hv⟩ := ha;have e0 : vs.getD 0 Go.undef = (ρ 0).1 := (hv 0 _ rfl).2;have e1 : vs.getD 1 Go.undef = .int .i64 (i : Int) := o8 (hv 1 _ rfl);have e2 : vs.getD 2 Go.undef = .int .i64 ((i : Int) + 1) := o8 (hv 2 _ rfl);have gy := tO (vs := vs) bg;rw [e0, e1, e2] at gy;have ho : bq w.heap (.list .aH fun _ => xs) (ρ 0).1 (ρ 0).2 := hr.ai 0 _ List.mem_cons_self;have fV : ∀ x, aS ρ [(0, aN .aH fun _ => xs)] x = (ρ 0).2 x := fun x => by simp [aS]
 rcases ho.fw with ⟨_, h, _⟩ | ⟨b, off, c, cs, e, fz, S, ck, hp, hb, hf, hl, hm, dZ, ct⟩
 · have h : xs = [] := h;rw [h] at hi; simp at hi
 have hl : xs.length ≤ c := hl;have hm : xs.length ≤ cE := hm;have ct : bG w.heap .aH xs (fun q => cs.getD (off + q) Go.undef) S := ct;obtain ⟨ht, inf, z, eD, dx, _, hz, qv, iX⟩ := kh au (T := 85) (E := .aH) rfl;have fy : w.drew.heap[b]? = some (.cells cs e fz) := hb;have oD : bG w.drew.heap .aH xs (fun q => cs.getD (off + q) Go.undef) S := ct;obtain ⟨A, news, hA, hn, dD, dS, rP⟩ := o9 (P := Tryz.prog) (E := .aH) (xs := xs) (k := i + 1) hi hl fy dZ oD ht;have vO : i + (xs.length - (i + 1)) ≤ c := by omega
 obtain ⟨W1, g1, g2, g3, g4⟩ := BO (P := Tryz.prog) (n := i) fy hf (by rw [dx]; exact rP) (by rw [dx]; exact hn) dS ht eD vO (by rw [dx]; exact dZ);rw [dx] at g2;have mW : NF (dz cs (off + i * av.sz .aH) news) fz := by rcases hf with h | h; exact .inl h; exact .inr (by rw [dU]; exact h)
 have e3 : xs.length * av.sz .aH ≤ c * av.sz .aH := Nat.mul_le_mul_right _ hl
 have e4 : (xs.length - 1) * av.sz .aH + av.sz .aH = xs.length * av.sz .aH := by
   have : xs.length = (xs.length - 1) + 1 := by omega
   rw [show xs.length * av.sz .aH = ((xs.length - 1) + 1) * av.sz .aH by rw [← this], Nat.add_mul]; omega
 obtain ⟨W2, c1, c2, c3, c4⟩ := BP (P := Tryz.prog) (z := z) (o := off + (xs.length - 1) * av.sz .aH) g2 mW ht (fun w => by simp [zeroValue, typeInfo, eD, hz]) (fun u hu => Z.BR qv (by decide) hu) (by rw [dU, iX]; omega);have cI := OT w b off c xs.length i hi hl W1 W2 A hA (fun ty => by rw [g1 ty]; congr 2; omega) c1;rw [gy, ck];refine cI.mono fun e w' he => ?_;obtain ⟨rfl, rfl⟩ := he;refine ⟨_, bT b (xs.length - 1) (av.sz .aH) fun _ _ _ => 0, rfl, ?_, (show Ext w W1 from ⟨g4.sz, g4.os, g4.out, g4.fz⟩).trans c4, fun x hx h0 => ?_, fun x hx => ?_, fun x => ?_⟩
 · exact BQ (E := .aH) (w := w) (w1 := W1) rfl hi hf hl hm dZ ct hn dD (by simpa using iX) g2 c2
 · rw [fV] at h0;have iY : x ≠ b := fun he => by rw [hp, he] at h0; have := jZ b xs.length (av.sz .aH) S; omega
   rw [c3 x iY, g3 x iY]; rfl
 · rw [fV, hp];rw [iF];simp only [bT]
   split <;> omega
 · rw [iF]
   split <;> omega
set_option maxHeartbeats 1000000 in
theorem OV (w : World) (b off c n i : Nat) (hi : i < n) (Hq : n ≤ c) (W1 W2 : World) (A : Addr) (hA : (if c = i + 1 then some (⟨b, off, none⟩ : Addr) else some ⟨b, off + (i + 1) * 2, none⟩) = some A)
  (hY : ∀ ty, (Builtin.append_ #[143, 143] ty #[.slice (some ⟨b, off, none⟩) i c, .slice (some A) (n - (i + 1)) (c - (i + 1))]).run Tryz.prog w.drew = .ok (.slice (some ⟨b, off, none⟩) (n - 1) c) W1)
  (fc : ∀ ty c', (Builtin.clear_ #[143] ty #[.slice (some ⟨b, off + (n - 1) * 2, none⟩) 1 c']).run Tryz.prog W1 = .ok (.tuple #[]) W2) :
  Calls Tryz.prog 199 #[.slice (some ⟨b, off, none⟩) n c, .int .i64 i, .int .i64 ((i : Int) + 1)] w fun e w' => e = .returned (.slice (some ⟨b, off, none⟩) (n - 1) c) ∧ w' = W2 := by
 have n1 : ((i : Int) + 1).toNat = i + 1 := by omega
 have n2 : ((i : Int)).toNat = i := by omega
 have n3 : (i : Int) ≤ (i : Int) + 1 := by omega
 have n4 : (i : Int) + 1 ≤ (n : Int) := by omega
 have n5 : (n : Int) ≤ (c : Int) := by omega
 have n6 : (0 : Int) ≤ (i : Int) + 1 := by omega
 have n7 : ¬ ((i : Int) = (i : Int) + 1) := by omega
 have n8 : i ≤ c := by omega
 have n9 : n - (n - 1) = 1 := by omega
 have Hr : ¬ (c = n - 1) := by omega
 have Hs : ((n - 1 : Nat) : Int) ≤ (n : Int) := by omega
 have mixed : Tryz.prog.follows Departure.mixedOrders = true := by kernel_rfl
 go_enter Tryz.func199, Tryz.ntmps199
 go_wp2
 go_region_law_o (refine BN rfl _ _ _ _ rfl _ _ (by simp [Act.eval, Act.put]) (by simp [Act.eval, Act.put]) (hY _) ?_)
 go_wp2
 go_ret
 exact ⟨rfl, rfl⟩
theorem OW (xs : List aB) (i : Nat) (hi : i < xs.length) : cB Tryz.prog 199 [oN 0, nT fun _ => i, iT fun _ => (i : Int) + 1] [(0, aN .aI fun _ => xs)] (cV (lR .aI fun _ => xs.take i ++ xs.drop (i + 1)) []) := by
 refine tN ⟨_, Tryz.func199, rfl, rfl⟩ (fun k hk => by (have q : k = 0 := by simpa [ax] using hk); omega) fun w vs ρ hr ha => ?_;obtain ⟨bg, hv⟩ := ha;have e0 : vs.getD 0 Go.undef = (ρ 0).1 := (hv 0 _ rfl).2;have e1 : vs.getD 1 Go.undef = .int .i64 (i : Int) := o8 (hv 1 _ rfl);have e2 : vs.getD 2 Go.undef = .int .i64 ((i : Int) + 1) := o8 (hv 2 _ rfl);have gy := tO (vs := vs) bg;rw [e0, e1, e2] at gy;have ho : bq w.heap (.list .aI fun _ => xs) (ρ 0).1 (ρ 0).2 := hr.ai 0 _ List.mem_cons_self;have fV : ∀ x, aS ρ [(0, aN .aI fun _ => xs)] x = (ρ 0).2 x := fun x => by simp [aS]
 rcases ho.fw with ⟨_, h, _⟩ | ⟨b, off, c, cs, e, fz, S, ck, hp, hb, hf, hl, hm, dZ, ct⟩
 · have h : xs = [] := h;rw [h] at hi; simp at hi
 have hl : xs.length ≤ c := hl;have hm : xs.length ≤ cE := hm;have ct : bG w.heap .aI xs (fun q => cs.getD (off + q) Go.undef) S := ct;obtain ⟨ht, inf, z, eD, dx, _, hz, qv, iX⟩ := kh au (T := 143) (E := .aI) rfl;have fy : w.drew.heap[b]? = some (.cells cs e fz) := hb;have oD : bG w.drew.heap .aI xs (fun q => cs.getD (off + q) Go.undef) S := ct;obtain ⟨A, news, hA, hn, dD, dS, rP⟩ := o9 (P := Tryz.prog) (E := .aI) (xs := xs) (k := i + 1) hi hl fy dZ oD ht;have vO : i + (xs.length - (i + 1)) ≤ c := by omega
 obtain ⟨W1, g1, g2, g3, g4⟩ := BO (P := Tryz.prog) (n := i) fy hf (by rw [dx]; exact rP) (by rw [dx]; exact hn) dS ht eD vO (by rw [dx]; exact dZ);rw [dx] at g2;have mW : NF (dz cs (off + i * av.sz .aI) news) fz := by rcases hf with h | h; exact .inl h; exact .inr (by rw [dU]; exact h)
 have e3 : xs.length * av.sz .aI ≤ c * av.sz .aI := Nat.mul_le_mul_right _ hl
 have e4 : (xs.length - 1) * av.sz .aI + av.sz .aI = xs.length * av.sz .aI := by
   have : xs.length = (xs.length - 1) + 1 := by omega
   rw [show xs.length * av.sz .aI = ((xs.length - 1) + 1) * av.sz .aI by rw [← this], Nat.add_mul]; omega
 obtain ⟨W2, c1, c2, c3, c4⟩ := BP (P := Tryz.prog) (z := z) (o := off + (xs.length - 1) * av.sz .aI) g2 mW ht (fun w => by simp [zeroValue, typeInfo, eD, hz]) (fun u hu => Z.BR qv (by decide) hu) (by rw [dU, iX]; omega);have cI := OV w b off c xs.length i hi hl W1 W2 A hA (fun ty => by rw [g1 ty]; congr 2; omega) c1;rw [gy, ck];refine cI.mono fun e w' he => ?_;obtain ⟨rfl, rfl⟩ := he;refine ⟨_, bT b (xs.length - 1) (av.sz .aI) fun _ _ _ => 0, rfl, ?_, (show Ext w W1 from ⟨g4.sz, g4.os, g4.out, g4.fz⟩).trans c4, fun x hx h0 => ?_, fun x hx => ?_, fun x => ?_⟩
 · exact BQ (E := .aI) (w := w) (w1 := W1) rfl hi hf hl hm dZ ct hn dD (by simpa using iX) g2 c2
 · rw [fV] at h0;have iY : x ≠ b := fun he => by rw [hp, he] at h0; have := jZ b xs.length (av.sz .aI) S; omega
   rw [c3 x iY, g3 x iY]; rfl
 · rw [fV, hp];rw [iF];simp only [bT]
   split <;> omega
 · rw [iF]
   split <;> omega
set_option maxHeartbeats 1000000 in
theorem OX (w : World) (b off c n i : Nat) (hi : i < n) (Hq : n ≤ c) (W1 W2 : World) (A : Addr) (hA : (if c = i + 1 then some (⟨b, off, none⟩ : Addr) else some ⟨b, off + (i + 1) * 10, none⟩) = some A)
  (hY : ∀ ty, (Builtin.append_ #[31, 31] ty #[.slice (some ⟨b, off, none⟩) i c, .slice (some A) (n - (i + 1)) (c - (i + 1))]).run Tryz.prog w.drew = .ok (.slice (some ⟨b, off, none⟩) (n - 1) c) W1)
  (fc : ∀ ty c', (Builtin.clear_ #[31] ty #[.slice (some ⟨b, off + (n - 1) * 10, none⟩) 1 c']).run Tryz.prog W1 = .ok (.tuple #[]) W2) :
  Calls Tryz.prog 205 #[.slice (some ⟨b, off, none⟩) n c, .int .i64 i, .int .i64 ((i : Int) + 1)] w fun e w' => e = .returned (.slice (some ⟨b, off, none⟩) (n - 1) c) ∧ w' = W2 := by
 have n1 : ((i : Int) + 1).toNat = i + 1 := by omega
 have n2 : ((i : Int)).toNat = i := by omega
 have n3 : (i : Int) ≤ (i : Int) + 1 := by omega
 have n4 : (i : Int) + 1 ≤ (n : Int) := by omega
 have n5 : (n : Int) ≤ (c : Int) := by omega
 have n6 : (0 : Int) ≤ (i : Int) + 1 := by omega
 have n7 : ¬ ((i : Int) = (i : Int) + 1) := by omega
 have n8 : i ≤ c := by omega
 have n9 : n - (n - 1) = 1 := by omega
 have Hr : ¬ (c = n - 1) := by omega
 have Hs : ((n - 1 : Nat) : Int) ≤ (n : Int) := by omega
 have mixed : Tryz.prog.follows Departure.mixedOrders = true := by kernel_rfl
 go_enter Tryz.func205, Tryz.ntmps205
 go_wp2
 go_region_law_o (refine BN rfl _ _ _ _ rfl _ _ (by simp [Act.eval, Act.put]) (by simp [Act.eval, Act.put]) (hY _) ?_)
 go_wp2
 go_ret
 exact ⟨rfl, rfl⟩
theorem OY (xs : List aw) (i : Nat) (hi : i < xs.length) : cB Tryz.prog 205 [oN 0, nT fun _ => i, iT fun _ => (i : Int) + 1] [(0, aN .aG fun _ => xs)] (cV (lR .aG fun _ => xs.take i ++ xs.drop (i + 1)) []) := by
 refine tN ⟨_, Tryz.func205, rfl, rfl⟩ (fun k hk => by (have q : k = 0 := by simpa [ax] using hk); omega) fun w vs ρ hr ha => ?_;obtain ⟨bg, hv⟩ := ha;have e0 : vs.getD 0 Go.undef = (ρ 0).1 := (hv 0 _ rfl).2;have e1 : vs.getD 1 Go.undef = .int .i64 (i : Int) := o8 (hv 1 _ rfl);have e2 : vs.getD 2 Go.undef = .int .i64 ((i : Int) + 1) := o8 (hv 2 _ rfl);have gy := tO (vs := vs) bg;rw [e0, e1, e2] at gy;have ho : bq w.heap (.list .aG fun _ => xs) (ρ 0).1 (ρ 0).2 := hr.ai 0 _ List.mem_cons_self;have fV : ∀ x, aS ρ [(0, aN .aG fun _ => xs)] x = (ρ 0).2 x := fun x => by simp [aS]
 rcases ho.fw with ⟨_, h, _⟩ | ⟨b, off, c, cs, e, fz, S, ck, hp, hb, hf, hl, hm, dZ, ct⟩
 · have h : xs = [] := h;rw [h] at hi; simp at hi
 have hl : xs.length ≤ c := hl;have hm : xs.length ≤ cE := hm;have ct : bG w.heap .aG xs (fun q => cs.getD (off + q) Go.undef) S := ct;obtain ⟨ht, inf, z, eD, dx, _, hz, qv, iX⟩ := kh au (T := 31) (E := .aG) rfl;have fy : w.drew.heap[b]? = some (.cells cs e fz) := hb;have oD : bG w.drew.heap .aG xs (fun q => cs.getD (off + q) Go.undef) S := ct;obtain ⟨A, news, hA, hn, dD, dS, rP⟩ := o9 (P := Tryz.prog) (E := .aG) (xs := xs) (k := i + 1) hi hl fy dZ oD ht;have vO : i + (xs.length - (i + 1)) ≤ c := by omega
 obtain ⟨W1, g1, g2, g3, g4⟩ := BO (P := Tryz.prog) (n := i) fy hf (by rw [dx]; exact rP) (by rw [dx]; exact hn) dS ht eD vO (by rw [dx]; exact dZ);rw [dx] at g2;have mW : NF (dz cs (off + i * av.sz .aG) news) fz := by rcases hf with h | h; exact .inl h; exact .inr (by rw [dU]; exact h)
 have e3 : xs.length * av.sz .aG ≤ c * av.sz .aG := Nat.mul_le_mul_right _ hl
 have e4 : (xs.length - 1) * av.sz .aG + av.sz .aG = xs.length * av.sz .aG := by
   have : xs.length = (xs.length - 1) + 1 := by omega
   rw [show xs.length * av.sz .aG = ((xs.length - 1) + 1) * av.sz .aG by rw [← this], Nat.add_mul]; omega
 obtain ⟨W2, c1, c2, c3, c4⟩ := BP (P := Tryz.prog) (z := z) (o := off + (xs.length - 1) * av.sz .aG) g2 mW ht (fun w => by simp [zeroValue, typeInfo, eD, hz]) (fun u hu => Z.BR qv (by decide) hu) (by rw [dU, iX]; omega);have cI := OX w b off c xs.length i hi hl W1 W2 A hA (fun ty => by rw [g1 ty]; congr 2; omega) c1;rw [gy, ck];refine cI.mono fun e w' he => ?_;obtain ⟨rfl, rfl⟩ := he;refine ⟨_, bT b (xs.length - 1) (av.sz .aG) fun _ _ _ => 0, rfl, ?_, (show Ext w W1 from ⟨g4.sz, g4.os, g4.out, g4.fz⟩).trans c4, fun x hx h0 => ?_, fun x hx => ?_, fun x => ?_⟩
 · exact BQ (E := .aG) (w := w) (w1 := W1) rfl hi hf hl hm dZ ct hn dD (by simpa using iX) g2 c2
 · rw [fV] at h0;have iY : x ≠ b := fun he => by rw [hp, he] at h0; have := jZ b xs.length (av.sz .aG) S; omega
   rw [c3 x iY, g3 x iY]; rfl
 · rw [fV, hp];rw [iF];simp only [bT]
   split <;> omega
 · rw [iF]
   split <;> omega
end Go.Proofs.YticeaiiffeccmaaGreat
namespace Go.Proofs.YticeaiiffeccmaaGreat
open Go Go.RowKit Go.Lib Go.Shelf
set_option maxRecDepth 100000
set_option maxHeartbeats 4000000 in
theorem OZ (w W1 : World) (base : Option Addr) (n c vb b_ vc : Nat) (v' : Value)
   (hY : ∀ ty, (Builtin.append_ #[85, 85] ty #[.slice base n c, .slice (some ⟨vb, b_, none⟩) 1 vc]).run Tryz.prog w = .ok v' W1) :
   Calls Tryz.prog 203 #[.slice base n c, .int .i64 n, .slice (some ⟨vb, b_, none⟩) 1 vc] w fun e w' => e = .returned v' ∧ w' = W1 := by
 go_enter Tryz.func203, Tryz.ntmps203
 cases base with
 | none =>
   go_wp2_with (at_builtin; refine Lib.wpList_append_run _ rfl _ _ _ _ rfl _ _ rfl rfl _ _ (hY _) ?_)
   all_goals (go_ret; exact ⟨rfl, rfl⟩)
 | some a =>
   obtain ⟨ab, ao, Ht⟩ := a
   go_wp2_with (at_builtin; refine Lib.wpList_append_run _ rfl _ _ _ _ rfl _ _ rfl rfl _ _ (hY _) ?_)
   all_goals (go_ret; exact ⟨rfl, rfl⟩)
set_option maxHeartbeats 4000000 in
theorem O0 (w W1 W2 : World) (b off n c i vb b_ vc : Nat) (r1 r2 : Value) (hi : i < n) (fR : n + 1 ≤ c) (vP : n + 1 ≤ 9223372036854775807)
  (mX : ∀ lb cb, (callFunc 246 #[.slice (some ⟨vb, b_, none⟩) 1 vc, .slice (some ⟨b, off + (i + 1) * 4, none⟩) lb cb]).run Tryz.prog w = .ok (.value (.bool false)) w)
  (mY : ∀ ty dc sc, (Builtin.copy_ #[85, 85] ty #[.slice (some ⟨b, off + (i + 1) * 4, none⟩) (n - i) dc, .slice (some ⟨b, off + i * 4, none⟩) (n + 1 - i) sc]).run Tryz.prog w.drew = .ok r1 W1)
  (mZ : ∀ ty dc, (Builtin.copy_ #[85, 85] ty #[.slice (some ⟨b, off + i * 4, none⟩) (n + 1 - i) dc, .slice (some ⟨vb, b_, none⟩) 1 vc]).run Tryz.prog W1 = .ok r2 W2) :
  Calls Tryz.prog 203 #[.slice (some ⟨b, off, none⟩) n c, .int .i64 i, .slice (some ⟨vb, b_, none⟩) 1 vc] w fun e w' => e = .returned (.slice (some ⟨b, off, none⟩) (n + 1) c) ∧ w' = W2 := by
 have mixed : Tryz.prog.follows Departure.mixedOrders = true := by kernel_rfl
 have vQ : ¬ ((i : Int) = (n : Int)) := by omega
 have ra : ((i : Int) + 1).toNat = i + 1 := by omega
 have rp : ((n : Int) + 1).toNat = n + 1 := by omega
 have fm : ¬ (c = i + 1) := by omega
 have rq : (i : Int) ≤ (n : Int) + 1 := by omega
 have vR : ¬ (c = i) := by omega
 have vS : ¬ ((n : Int) + 1 > (c : Int)) := by omega
 have Hu : ¬ ((c : Int) < (n : Int) + 1) := by omega
 have Hv : (0 : Int) ≤ (n : Int) + 1 := by omega
 have Hw : (n : Int) + 1 ≤ (c : Int) := by omega
 have vT : (0 : Int) ≤ (i : Int) + 1 := by omega
 have vU : (i : Int) + 1 ≤ (n : Int) + 1 := by omega
 have vV : (i : Int) ≤ (n : Int) := by omega
 have ed : i ≤ n := by omega
 have vW : IntKind.i64.wrap ((i : Int) + 1) = (i : Int) + 1 := by rw [IntKind.wrap_i64]; omega
 have vX : IntKind.i64.wrap ((n : Int) + 1) = (n : Int) + 1 := by rw [IntKind.wrap_i64]; omega
 go_enter Tryz.func203, Tryz.ntmps203
 go_wp2_with (simp only [mX])
 go_region_law_o (refine step_copy_runI rfl _ _ _ _ rfl _ _ (by simp [Act.eval, Act.put]) (by simp [Act.eval, Act.put]) (mY _ _ _) ?_)
 go_wp2_with (at_builtin; refine wpList_copy_runI _ rfl _ _ _ _ rfl _ _ rfl rfl (mZ _ _) ?_)
 all_goals (go_ret; exact ⟨rfl, rfl⟩)
set_option maxHeartbeats 4000000 in
theorem O1 (w W1 W2 W3 : World) (b off n c i vb b_ vc nb c2 : Nat) (r1 r2 : Value) (hi : i < n) (fR : c < n + 1) (hc : n ≤ c) (vP : n + 1 ≤ 9223372036854775807) (lG : n + 1 ≤ c2)
  (hY : ∀ ty, (Builtin.append_ #[85, 3] ty #[.slice (some ⟨b, off, none⟩) i c, .int .i64 ((n : Int) + 1 - (i : Int))]).run Tryz.prog w = .ok (.slice (some ⟨nb, 0, none⟩) (n + 1) c2) W1)
  (mY : ∀ ty dc, (Builtin.copy_ #[85, 85] ty #[.slice (some ⟨nb, i * 4, none⟩) (n + 1 - i) dc, .slice (some ⟨vb, b_, none⟩) 1 vc]).run Tryz.prog W1 = .ok r1 W2)
  (mZ : ∀ ty dc sc, (Builtin.copy_ #[85, 85] ty #[.slice (some ⟨nb, (i + 1) * 4, none⟩) (n - i) dc, .slice (some ⟨b, off + i * 4, none⟩) (n - i) sc]).run Tryz.prog W2.drew = .ok r2 W3) :
  Calls Tryz.prog 203 #[.slice (some ⟨b, off, none⟩) n c, .int .i64 i, .slice (some ⟨vb, b_, none⟩) 1 vc] w fun e w' => e = .returned (.slice (some ⟨nb, 0, none⟩) (n + 1) c2) ∧ w' = W3 := by
 have mixed : Tryz.prog.follows Departure.mixedOrders = true := by kernel_rfl
 have vQ : ¬ ((i : Int) = (n : Int)) := by omega
 have ra : ((i : Int) + 1).toNat = i + 1 := by omega
 have rp : ((n : Int) + 1).toNat = n + 1 := by omega
 have fm : ¬ (c2 = i + 1) := by omega
 have vR : ¬ (c = i) := by omega
 have Hy : ¬ (c2 = i) := by omega
 have vS : (c : Int) < (n : Int) + 1 := by omega
 have vT : (0 : Int) ≤ (i : Int) + 1 := by omega
 have vU : (i : Int) + 1 ≤ (n : Int) + 1 := by omega
 have rq : (i : Int) ≤ (n : Int) + 1 := by omega
 have vV : (i : Int) ≤ (n : Int) := by omega
 have Hz : i ≤ c := by omega
 have ed : i ≤ n := by omega
 have vW : IntKind.i64.wrap ((i : Int) + 1) = (i : Int) + 1 := by rw [IntKind.wrap_i64]; omega
 have vX : IntKind.i64.wrap ((n : Int) + 1) = (n : Int) + 1 := by rw [IntKind.wrap_i64]; omega
 have HA : IntKind.i64.wrap ((n : Int) + 1 - (i : Int)) = (n : Int) + 1 - (i : Int) := by rw [IntKind.wrap_i64]; omega
 go_enter Tryz.func203, Tryz.ntmps203
 go_wp2_with (first | (at_builtin; refine Lib.wpList_append_run _ rfl _ _ _ _ rfl _ _ rfl rfl _ _ (hY _) ?_) | (at_builtin; refine wpList_copy_runI _ rfl _ _ _ _ rfl _ _ rfl rfl (mY _ _) ?_))
 go_region_law_o (refine step_copy_runI rfl _ _ _ _ rfl _ _ (by simp [Act.eval, Act.put]) (by simp [Act.eval, Act.put]) (mZ _ _ _) ?_)
 go_wp2
 all_goals (go_ret; exact ⟨rfl, rfl⟩)
set_option maxHeartbeats 4000000 in
theorem HB (xs : List Entry) (y : Entry) (i : Nat) (hi : i ≤ xs.length) (qw : xs.length ≤ bc) : cB Tryz.prog 203 [oN 0, nT fun _ => i, oN 1] [(0, aN .aH fun _ => xs), (1, aN .aH fun _ => [y])] (cV (lR .aH fun _ => xs.take i ++ y :: xs.drop i) []) := by
 refine tN ⟨_, Tryz.func203, rfl, rfl⟩ (fun k hk => by (have q : k = 0 ∨ k = 1 := by simpa [ax] using hk); omega) fun w vs ρ hr ha => ?_;have qw : xs.length ≤ 1048576 := qw;obtain ⟨bg, hv⟩ := ha;have e0 : vs.getD 0 Go.undef = (ρ 0).1 := (hv 0 _ rfl).2;have e1 : vs.getD 1 Go.undef = .int .i64 (i : Int) := o8 (hv 1 _ rfl);have e2 : vs.getD 2 Go.undef = (ρ 1).1 := (hv 2 _ rfl).2;have gy := tO (vs := vs) bg;rw [e0, e1, e2] at gy;have ho : bq w.heap (.list .aH fun _ => xs) (ρ 0).1 (ρ 0).2 := hr.ai 0 _ List.mem_cons_self;have qx : bq w.heap (.list .aH fun _ => [y]) (ρ 1).1 (ρ 1).2 := hr.ai 1 _ (List.mem_cons_of_mem _ List.mem_cons_self);have fV : ∀ x, aS ρ [(0, aN .aH fun _ => xs), (1, aN .aH fun _ => [y])] x = (ρ 0).2 x + (ρ 1).2 x := fun x => by simp [aS]
 have fx : ∀ x, (ρ 0).2 x + (ρ 1).2 x ≤ 1 := fun x => by have := hr.sum x; rwa [fV] at this
 have ke : ∀ x, 0 < (ρ 0).2 x + (ρ 1).2 x → x < w.heap.size := fun x hx => by
   have : ∃ cs e fz, w.heap[x]? = some (.cells cs e fz) := by
     rcases Nat.eq_zero_or_pos ((ρ 0).2 x) with h | h
     · exact qx.there x (by omega)
     · exact ho.there x h
   obtain ⟨_, _, _, h⟩ := this;rcases Nat.lt_or_ge x w.heap.size with h' | h'
   · exact h'
   · rw [Array.getElem?_eq_none h'] at h; cases h
 obtain ⟨ht, inf, z, eD, dx, gT, hz, qv, iX⟩ := kh au (T := 85) (E := .aH) rfl;rcases qx.fw with ⟨_, h, _⟩ | ⟨vb, b_, vc, m0, ue, HC, U, iZ, qy, fm, lM, i_, yw, m5, ja⟩
 · cases h
 have i_ : 1 ≤ vc := i_;have ja : bG w.heap .aH [y] (fun q => m0.getD (b_ + q) Go.undef) U := ja;have iZ : (ρ 1).1 = .slice (some ⟨vb, b_, none⟩) 1 vc := iZ
 have fin : ∀ {v : Value} {q : Nat → Nat} {w' : World}, bq w'.heap (.list .aH fun _ => xs.take i ++ y :: xs.drop i) v q → Ext w w' → (∀ x, x < w.heap.size → (ρ 0).2 x = 0 → w'.heap[x]? = w.heap[x]?) → (∀ x, x < w.heap.size → q x ≤ (ρ 0).2 x + (ρ 1).2 x) → (∀ x, q x ≤ 1) →
     ∃ v' q', Ending.returned v = .returned v' ∧ bq w'.heap (.list .aH fun _ => xs.take i ++ y :: xs.drop i) v' q' ∧ Ext w w' ∧ (∀ x, x < w.heap.size → aS ρ [(0, aN .aH fun _ => xs), (1, aN .aH fun _ => [y])] x = 0 → w'.heap[x]? = w.heap[x]?) ∧ (∀ x, x < w.heap.size → q' x ≤ aS ρ [(0, aN .aH fun _ => xs), (1, aN .aH fun _ => [y])] x) ∧ ∀ x, q' x ≤ 1 := fun a b c d e =>
   ⟨_, _, rfl, a, b, fun x hx h0 => c x hx (by rw [fV] at h0; omega), fun x hx => by rw [fV]; exact d x hx, e⟩
 rcases Nat.lt_or_ge i xs.length with aR | gK
 · -- not at the end
   rcases ho.fw with ⟨_, h, _⟩ | ⟨b, off, c, cs, e, fz, S, ck, hp, hb, hf, hl, hm, dZ, ct⟩
   · have h : xs = [] := h;rw [h] at aR; simp at aR
   have hl : xs.length ≤ c := hl;have ct : bG w.heap .aH xs (fun q => cs.getD (off + q) Go.undef) S := ct
   have HD : (ρ 0).2 b = 1 ∧ (ρ 1).2 b = 0 := by
     have h1 := fx b;have h2 : 0 < (ρ 0).2 b := by rw [hp]; exact jZ _ _ _ _
     omega
   have vY : 0 < (ρ 1).2 vb := by rw [qy]; exact jZ _ _ _ _
   have aX : vb ≠ b := fun he => by rw [he] at vY; omega
   have e3 : xs.length * av.sz .aH ≤ c * av.sz .aH := Nat.mul_le_mul_right _ hl;obtain ⟨uA, us, HE, ff, nz, qz, HF⟩ := o9 (P := Tryz.prog) (E := .aH) (xs := [y]) (k := 0) (Nat.zero_le _) i_ fm m5 ja ht;have ff : us.length = av.sz .aH := by rw [ff]; simp
   have qA : bG w.heap .aH [y] (fun q => us.getD q Go.undef) U := ja.cells fun q hq => by
     have hq : q < av.sz .aH := by simpa using hq
     rw [nz q (by rw [ff]; exact hq)]; simp
   have qB : ∀ j v, us[j]? = some v → w.cell? ((⟨vb, b_, none⟩ : Addr).add j) = some v := fun j v hj => by
     have hq := bK hj;have h3 : us.getD j Go.undef = v := by rw [List.getD_eq_getElem?_getD, hj]; rfl
     rw [← h3, nz j hq, eI, Nat.zero_mul, Nat.add_zero]
     exact cell_of fm (getD_some (by
       have : b_ + vc * av.sz .aH ≤ m0.size := m5;have h4 := Nat.mul_le_mul_right (av.sz .aH) i_;omega))
   have fy : w.drew.heap[b]? = some (.cells cs e fz) := hb;obtain ⟨nA, news, m6, gz, dD, ku, _⟩ := o9 (P := Tryz.prog) (w := w) (E := .aH) (xs := xs) (k := i) hi hl hb dZ ct ht
   have m6 : nA = ⟨b, off + i * av.sz .aH, none⟩ := by
     rw [if_neg (by omega)] at m6; exact (Option.some.inj m6).symm
   have e1 : i * av.sz .aH + (xs.length - i) * av.sz .aH = xs.length * av.sz .aH := by rw [← Nat.add_mul]; congr 1; omega
   have qC : ∀ j v, news[j]? = some v → w.cell? ((⟨b, off + i * av.sz .aH, none⟩ : Addr).add j) = some v := fun j v hj => by
     have hq := bK hj;have h3 : news.getD j Go.undef = v := by rw [List.getD_eq_getElem?_getD, hj]; rfl
     rw [← h3, dD j hq, eI];rw [gz] at hq;exact cell_of hb (getD_some (by omega))
   have e4 : (i + 1) * av.sz .aH = i * av.sz .aH + av.sz .aH := by rw [Nat.add_mul]; omega
   have e5 : (xs.length + 1) * av.sz .aH = xs.length * av.sz .aH + av.sz .aH := by rw [Nat.add_mul]; omega
   rcases Nat.lt_or_ge c (xs.length + 1) with hg | fR
   · -- a new row
     obtain ⟨fQ, kJ, hold, vZ⟩ := BU (P := Tryz.prog) (w := w.drew) (E := .aH) (xs := xs) (k := i) hi hl fy dZ ct;have gq : 0 < xs.length + 1 - i := by omega
     have cI := fun ty => run_append_grow_zeros (P := Tryz.prog) w 85 3 ty _ inf z .i64 .i64 ht Tryz.underlying3 eD hz (some ⟨b, off, none⟩) i c fQ (by rw [dx]; exact vZ) (xs.length + 1 - i) gq (by rw [dx]; decide) (by omega) (by omega) (by rw [gT]; omega) (by
       rw [gT]; exact growslice_fits (by omega) (by omega))
     have jb := grownCap_ge w (i + (xs.length + 1 - i)) c 130;rw [show i + (xs.length + 1 - i) = xs.length + 1 by omega] at cI jb;generalize grownCap w (xs.length + 1) c 130 = C at cI jb;generalize mB : fQ.toArray ++ Builtin.zeroCells z.cells (xs.length + 1 - i) ++ Builtin.zeroCells z.cells (C - (xs.length + 1)) = cells at cI
     have dA : cells.size = C * av.sz .aH := by
       rw [← mB];simp only [Array.size_append, List.size_toArray, Builtin.zeroCells, Array.size_map, Array.size_range, iX, kJ];rw [← Nat.add_mul, ← Nat.add_mul]
       congr 1; omega
     have ca : ∀ q, q < i * av.sz .aH → cells.getD q Go.undef = cs.getD (off + q) Go.undef := fun q hq => by
       rw [← hold q (by rw [kJ]; exact hq), ← mB, Array.getD_eq_getD_getElem?, Array.getElem?_append_left (by simp [kJ]; omega), Array.getElem?_append_left (by simp [kJ]; omega), List.getElem?_toArray, List.getD_eq_getElem?_getD]
     obtain ⟨W1, kK⟩ : ∃ W1, W1 = w.drew.alloc (.cells cells 130) := ⟨_, rfl⟩;have k1 : W1.heap[w.heap.size]? = some (.cells cells 130 (0, 0)) := by rw [kK]; show (w.heap.push _)[w.heap.size]? = _; simp
     have k2 : ∀ x, x < w.heap.size → W1.heap[x]? = w.heap[x]? := fun x hx => by rw [kK]; show (w.heap.push _)[x]? = _; rw [Array.getElem?_push, if_neg (Nat.ne_of_lt hx)]
     have k3 : Ext w W1 := by rw [kK]; exact (show Ext w w.drew from ⟨Nat.le_refl _, rfl, rfl, fun _ => rfl⟩).trans (qT w.drew _ _)
     have v5 : vb < w.heap.size := ke vb (by omega);have qD : b < w.heap.size := ke b (by omega);have e6 : (xs.length + 1) * av.sz .aH ≤ C * av.sz .aH := Nat.mul_le_mul_right _ jb
     obtain ⟨W2, c1, c2, c3, c4⟩ := mf (P := Tryz.prog) (w := W1) (o := i * av.sz .aH) (dLen := xs.length + 1 - i) (sLen := 1) (m := 1) (T2 := 85) k1 (mw _) ht eD (by simp only [Nat.min_def]; split <;> omega) (by rw [dx, ff, Nat.one_mul]) (fun j v hj => by
       have := qB j v hj;rw [eI] at this ⊢;rw [World.cell?, k2 vb v5]; exact this) (by rw [ff, dA]; omega) qz
     have v7 : W2.drew.heap[w.heap.size]? = _ := c2
     obtain ⟨W3, d1, d2, d3, d4⟩ := mf (P := Tryz.prog) (w := W2.drew) (o := (i + 1) * av.sz .aH) (dLen := xs.length - i) (sLen := xs.length - i) (m := xs.length - i) (T2 := 85) v7 (mw _) ht eD (by simp only [Nat.min_def]; split <;> omega) (by rw [dx, gz]) (fun j v hj => by
       have := qC j v hj;rw [eI] at this ⊢;rw [World.cell?, show W2.drew.heap[b]? = W2.heap[b]? from rfl, c3 b (Nat.ne_of_lt qD), k2 b qD]; exact this) (by rw [gz, dU, dA]; omega) ku
     have jc := O1 w W1 W2 W3 b off xs.length c i vb b_ vc w.heap.size C _ _ aR hg hl (by omega) jb (fun ty => by
       have := cI ty;rw [show ((xs.length + 1 - i : Nat) : Int) = (xs.length : Int) + 1 - (i : Int) by omega] at this;rw [kK]; exact this) (fun ty dc => c1 ty dc vc) (fun ty dc sc => d1 ty dc sc)
     rw [gy, ck, iZ];refine jc.mono fun e' w' he => ?_;obtain ⟨rfl, rfl⟩ := he;refine fin (BT (E := .aH) rfl hi jb (by unfold cE; omega) dA ct qA ca gz dD ff d2) (k3.trans (c4.trans ((show Ext W2 W2.drew from ⟨Nat.le_refl _, rfl, rfl, fun _ => rfl⟩).trans d4))) (fun x hx h0 => ?_) (fun x hx => ?_) (fun x => ?_)
     · rw [d3 x (Nat.ne_of_lt hx), show W2.drew.heap[x]? = W2.heap[x]? from rfl, c3 x (Nat.ne_of_lt hx), k2 x hx]
     · rw [iF, if_neg (Nat.ne_of_lt hx)]; omega
     · rw [iF]; split <;> omega
   · -- in place
     have e6 : (xs.length + 1) * av.sz .aH ≤ c * av.sz .aH := Nat.mul_le_mul_right _ fR
     have mX : ∀ lb cb, (callFunc 246 #[.slice (some ⟨vb, b_, none⟩) 1 vc, .slice (some ⟨b, off + (i + 1) * av.sz .aH, none⟩) lb cb]).run Tryz.prog w = .ok (.value (.bool false)) w := fun lb cb => by
       rw [run_callFunc_extern Tryz.func246 (by kernel_rfl) (by kernel_rfl) (by kernel_rfl) (e := Extern.SlicesOverlaps.overlaps #[85, 85] #[4]) (by kernel_rfl),
        Lib.run_overlaps_apart w 85 4 130 ht (av.sz .aH) (fun w => by simp [sizeOf, typeInfo, eD, dx]) ⟨vb, b_, none⟩ ⟨b, off + (i + 1) * av.sz .aH, none⟩ 1 vc lb cb aX ue e m0.size cs.size (by simp [World.shape?, fm]) (by simp [World.shape?, hb]) (by
         have : 0 < av.sz .aH := by decide
         omega) (tP fm lM _) (tP fm lM _)]
       rfl
     obtain ⟨W1, c1, c2, c3, c4⟩ := mf (P := Tryz.prog) (w := w.drew) (o := off + (i + 1) * av.sz .aH) (dLen := xs.length - i) (sLen := xs.length + 1 - i) (m := xs.length - i) (T2 := 85) fy hf ht eD (by simp only [Nat.min_def]; split <;> omega) (by rw [dx, gz]) qC (by rw [gz]; omega) ku;have oK : NF (dz cs (off + (i + 1) * av.sz .aH) news) fz := by rcases hf with h | h; exact .inl h; exact .inr (by rw [dU]; exact h)
     obtain ⟨W2, d1, d2, d3, d4⟩ := mf (P := Tryz.prog) (w := W1) (o := off + i * av.sz .aH) (dLen := xs.length + 1 - i) (sLen := 1) (m := 1) (T2 := 85) c2 oK ht eD (by simp only [Nat.min_def]; split <;> omega) (by rw [dx, ff, Nat.one_mul]) (fun j v hj => by
       have := qB j v hj;rw [eI] at this ⊢;rw [World.cell?, c3 vb aX]; exact this) (by rw [ff, dU]; omega) qz
     have jc := O0 w W1 W2 b off xs.length c i vb b_ vc _ _ aR fR (by omega) mX (fun ty dc sc => c1 ty dc sc) (fun ty dc => d1 ty dc vc);rw [gy, ck, iZ];refine jc.mono fun e' w' he => ?_;obtain ⟨rfl, rfl⟩ := he;refine fin (BS (E := .aH) rfl hi hf fR (by unfold cE; omega) dZ ct qA gz dD ff d2) ((show Ext w w.drew from ⟨Nat.le_refl _, rfl, rfl, fun _ => rfl⟩).trans (c4.trans d4)) (fun x hx h0 => ?_) (fun x hx => ?_) (fun x => ?_)
     · have iY : x ≠ b := fun he => by rw [he] at h0; omega
       rw [d3 x iY, c3 x iY]; rfl
     · rw [iF]
       split
       · rename_i he; rw [he]; omega
       · omega
     · rw [iF]; split <;> omega
 · -- at the end
   obtain rfl : i = xs.length := by omega
   obtain ⟨news, hN⟩ := iy.of (c := vc) fm (by have := Nat.mul_le_mul_right (av.sz .aH) i_; simpa using Nat.le_trans (Nat.add_le_add_left this b_) m5) ja;obtain ⟨v, p, w', g1, g2, g3, g4, g5, g6⟩ := uL (P := Tryz.prog) (w := w) (E := .aH) (xs := xs) (ys := [y]) (vy := .slice (some ⟨vb, b_, none⟩) 1 vc) (py := (ρ 1).2) (T := 85) (T2 := 85) (ty := 0) ho (hN.xf ht) (fun x => by rw [qy]; simp only [bT, cg]; exact Nat.le_add_left _ _) fx ke ht eD hz dx iX (by rw [gT]; decide) (by rw [gT]; simp only [List.length_cons, List.length_nil]; omega)
   obtain ⟨base, c, ck⟩ : ∃ base c, (ρ 0).1 = .slice base xs.length c := by
     rcases ho.fw with ⟨h1, h2, _⟩ | ⟨b, off, c, cs, e, fz, S, ck, _⟩
     · have h2 : xs = [] := h2;exact ⟨none, 0, by rw [h1, h2]; rfl⟩
     · exact ⟨_, c, ck⟩
   have jc := OZ w w' base xs.length c vb b_ vc v (fun ty => by rw [ck] at g1; exact g1);rw [gy, ck, iZ];refine jc.mono fun e' qN he => ?_;obtain ⟨rfl, rfl⟩ := he;have e7 : xs.take xs.length ++ y :: xs.drop xs.length = xs ++ [y] := by simp
   refine fin (by rw [e7]; exact g2) g3 g4 g5 (fun x => ?_);rcases Nat.lt_or_ge x w.heap.size with h | h
   · exact Nat.le_trans (g5 x h) (fx x)
   · exact g6 x h
set_option maxHeartbeats 4000000 in
theorem O2 (w W1 : World) (base : Option Addr) (n c vb b_ vc : Nat) (v' : Value)
   (hY : ∀ ty, (Builtin.append_ #[143, 143] ty #[.slice base n c, .slice (some ⟨vb, b_, none⟩) 1 vc]).run Tryz.prog w = .ok v' W1) :
   Calls Tryz.prog 117 #[.slice base n c, .int .i64 n, .slice (some ⟨vb, b_, none⟩) 1 vc] w fun e w' => e = .returned v' ∧ w' = W1 := by
 go_enter Tryz.func117, Tryz.ntmps117
 cases base with
 | none =>
   go_wp2_with (at_builtin; refine Lib.wpList_append_run _ rfl _ _ _ _ rfl _ _ rfl rfl _ _ (hY _) ?_)
   all_goals (go_ret; exact ⟨rfl, rfl⟩)
 | some a =>
   obtain ⟨ab, ao, Ht⟩ := a
   go_wp2_with (at_builtin; refine Lib.wpList_append_run _ rfl _ _ _ _ rfl _ _ rfl rfl _ _ (hY _) ?_)
   all_goals (go_ret; exact ⟨rfl, rfl⟩)
set_option maxHeartbeats 4000000 in
theorem O3 (w W1 W2 : World) (b off n c i vb b_ vc : Nat) (r1 r2 : Value) (hi : i < n) (fR : n + 1 ≤ c) (vP : n + 1 ≤ 9223372036854775807)
  (mX : ∀ lb cb, (callFunc 187 #[.slice (some ⟨vb, b_, none⟩) 1 vc, .slice (some ⟨b, off + (i + 1) * 2, none⟩) lb cb]).run Tryz.prog w = .ok (.value (.bool false)) w)
  (mY : ∀ ty dc sc, (Builtin.copy_ #[143, 143] ty #[.slice (some ⟨b, off + (i + 1) * 2, none⟩) (n - i) dc, .slice (some ⟨b, off + i * 2, none⟩) (n + 1 - i) sc]).run Tryz.prog w.drew = .ok r1 W1)
  (mZ : ∀ ty dc, (Builtin.copy_ #[143, 143] ty #[.slice (some ⟨b, off + i * 2, none⟩) (n + 1 - i) dc, .slice (some ⟨vb, b_, none⟩) 1 vc]).run Tryz.prog W1 = .ok r2 W2) :
  Calls Tryz.prog 117 #[.slice (some ⟨b, off, none⟩) n c, .int .i64 i, .slice (some ⟨vb, b_, none⟩) 1 vc] w fun e w' => e = .returned (.slice (some ⟨b, off, none⟩) (n + 1) c) ∧ w' = W2 := by
 have mixed : Tryz.prog.follows Departure.mixedOrders = true := by kernel_rfl
 have vQ : ¬ ((i : Int) = (n : Int)) := by omega
 have ra : ((i : Int) + 1).toNat = i + 1 := by omega
 have rp : ((n : Int) + 1).toNat = n + 1 := by omega
 have fm : ¬ (c = i + 1) := by omega
 have rq : (i : Int) ≤ (n : Int) + 1 := by omega
 have vR : ¬ (c = i) := by omega
 have vS : ¬ ((n : Int) + 1 > (c : Int)) := by omega
 have Hu : ¬ ((c : Int) < (n : Int) + 1) := by omega
 have Hv : (0 : Int) ≤ (n : Int) + 1 := by omega
 have Hw : (n : Int) + 1 ≤ (c : Int) := by omega
 have vT : (0 : Int) ≤ (i : Int) + 1 := by omega
 have vU : (i : Int) + 1 ≤ (n : Int) + 1 := by omega
 have vV : (i : Int) ≤ (n : Int) := by omega
 have ed : i ≤ n := by omega
 have vW : IntKind.i64.wrap ((i : Int) + 1) = (i : Int) + 1 := by rw [IntKind.wrap_i64]; omega
 have vX : IntKind.i64.wrap ((n : Int) + 1) = (n : Int) + 1 := by rw [IntKind.wrap_i64]; omega
 go_enter Tryz.func117, Tryz.ntmps117
 go_wp2_with (simp only [mX])
 go_region_law_o (refine step_copy_runI rfl _ _ _ _ rfl _ _ (by simp [Act.eval, Act.put]) (by simp [Act.eval, Act.put]) (mY _ _ _) ?_)
 go_wp2_with (at_builtin; refine wpList_copy_runI _ rfl _ _ _ _ rfl _ _ rfl rfl (mZ _ _) ?_)
 all_goals (go_ret; exact ⟨rfl, rfl⟩)
set_option maxHeartbeats 4000000 in
theorem O4 (w W1 W2 W3 : World) (b off n c i vb b_ vc nb c2 : Nat) (r1 r2 : Value) (hi : i < n) (fR : c < n + 1) (hc : n ≤ c) (vP : n + 1 ≤ 9223372036854775807) (lG : n + 1 ≤ c2)
  (hY : ∀ ty, (Builtin.append_ #[143, 3] ty #[.slice (some ⟨b, off, none⟩) i c, .int .i64 ((n : Int) + 1 - (i : Int))]).run Tryz.prog w = .ok (.slice (some ⟨nb, 0, none⟩) (n + 1) c2) W1)
  (mY : ∀ ty dc, (Builtin.copy_ #[143, 143] ty #[.slice (some ⟨nb, i * 2, none⟩) (n + 1 - i) dc, .slice (some ⟨vb, b_, none⟩) 1 vc]).run Tryz.prog W1 = .ok r1 W2)
  (mZ : ∀ ty dc sc, (Builtin.copy_ #[143, 143] ty #[.slice (some ⟨nb, (i + 1) * 2, none⟩) (n - i) dc, .slice (some ⟨b, off + i * 2, none⟩) (n - i) sc]).run Tryz.prog W2.drew = .ok r2 W3) :
  Calls Tryz.prog 117 #[.slice (some ⟨b, off, none⟩) n c, .int .i64 i, .slice (some ⟨vb, b_, none⟩) 1 vc] w fun e w' => e = .returned (.slice (some ⟨nb, 0, none⟩) (n + 1) c2) ∧ w' = W3 := by
 have mixed : Tryz.prog.follows Departure.mixedOrders = true := by kernel_rfl
 have vQ : ¬ ((i : Int) = (n : Int)) := by omega
 have ra : ((i : Int) + 1).toNat = i + 1 := by omega
 have rp : ((n : Int) + 1).toNat = n + 1 := by omega
 have fm : ¬ (c2 = i + 1) := by omega
 have vR : ¬ (c = i) := by omega
 have Hy : ¬ (c2 = i) := by omega
 have vS : (c : Int) < (n : Int) + 1 := by omega
 have vT : (0 : Int) ≤ (i : Int) + 1 := by omega
 have vU : (i : Int) + 1 ≤ (n : Int) + 1 := by omega
 have rq : (i : Int) ≤ (n : Int) + 1 := by omega
 have vV : (i : Int) ≤ (n : Int) := by omega
 have Hz : i ≤ c := by omega
 have ed : i ≤ n := by omega
 have vW : IntKind.i64.wrap ((i : Int) + 1) = (i : Int) + 1 := by rw [IntKind.wrap_i64]; omega
 have vX : IntKind.i64.wrap ((n : Int) + 1) = (n : Int) + 1 := by rw [IntKind.wrap_i64]; omega
 have HA : IntKind.i64.wrap ((n : Int) + 1 - (i : Int)) = (n : Int) + 1 - (i : Int) := by rw [IntKind.wrap_i64]; omega
 go_enter Tryz.func117, Tryz.ntmps117
 go_wp2_with (first | (at_builtin; refine Lib.wpList_append_run _ rfl _ _ _ _ rfl _ _ rfl rfl _ _ (hY _) ?_) | (at_builtin; refine wpList_copy_runI _ rfl _ _ _ _ rfl _ _ rfl rfl (mY _ _) ?_))
 go_region_law_o (refine step_copy_runI rfl _ _ _ _ rfl _ _ (by simp [Act.eval, Act.put]) (by simp [Act.eval, Act.put]) (mZ _ _ _) ?_)
 go_wp2
 all_goals (go_ret; exact ⟨rfl, rfl⟩)
set_option maxHeartbeats 4000000 in
theorem HH (xs : List aB) (y : aB) (i : Nat) (hi : i ≤ xs.length) (qw : xs.length ≤ bc) : cB Tryz.prog 117 [oN 0, nT fun _ => i, oN 1] [(0, aN .aI fun _ => xs), (1, aN .aI fun _ => [y])] (cV (lR .aI fun _ => xs.take i ++ y :: xs.drop i) []) := by
 refine tN ⟨_, Tryz.func117, rfl, rfl⟩ (fun k hk => by (have q : k = 0 ∨ k = 1 := by simpa [ax] using hk); omega) fun w vs ρ hr ha => ?_;have qw : xs.length ≤ 1048576 := qw;obtain ⟨bg, hv⟩ := ha;have e0 : vs.getD 0 Go.undef = (ρ 0).1 := (hv 0 _ rfl).2;have e1 : vs.getD 1 Go.undef = .int .i64 (i : Int) := o8 (hv 1 _ rfl);have e2 : vs.getD 2 Go.undef = (ρ 1).1 := (hv 2 _ rfl).2;have gy := tO (vs := vs) bg;rw [e0, e1, e2] at gy;have ho : bq w.heap (.list .aI fun _ => xs) (ρ 0).1 (ρ 0).2 := hr.ai 0 _ List.mem_cons_self;have qx : bq w.heap (.list .aI fun _ => [y]) (ρ 1).1 (ρ 1).2 := hr.ai 1 _ (List.mem_cons_of_mem _ List.mem_cons_self);have fV : ∀ x, aS ρ [(0, aN .aI fun _ => xs), (1, aN .aI fun _ => [y])] x = (ρ 0).2 x + (ρ 1).2 x := fun x => by simp [aS]
 have fx : ∀ x, (ρ 0).2 x + (ρ 1).2 x ≤ 1 := fun x => by have := hr.sum x; rwa [fV] at this
 have ke : ∀ x, 0 < (ρ 0).2 x + (ρ 1).2 x → x < w.heap.size := fun x hx => by
   have : ∃ cs e fz, w.heap[x]? = some (.cells cs e fz) := by
     rcases Nat.eq_zero_or_pos ((ρ 0).2 x) with h | h
     · exact qx.there x (by omega)
     · exact ho.there x h
   obtain ⟨_, _, _, h⟩ := this;rcases Nat.lt_or_ge x w.heap.size with h' | h'
   · exact h'
   · rw [Array.getElem?_eq_none h'] at h; cases h
 obtain ⟨ht, inf, z, eD, dx, gT, hz, qv, iX⟩ := kh au (T := 143) (E := .aI) rfl;rcases qx.fw with ⟨_, h, _⟩ | ⟨vb, b_, vc, m0, ue, HC, U, iZ, qy, fm, lM, i_, yw, m5, ja⟩
 · cases h
 have i_ : 1 ≤ vc := i_;have ja : bG w.heap .aI [y] (fun q => m0.getD (b_ + q) Go.undef) U := ja;have iZ : (ρ 1).1 = .slice (some ⟨vb, b_, none⟩) 1 vc := iZ
 have fin : ∀ {v : Value} {q : Nat → Nat} {w' : World}, bq w'.heap (.list .aI fun _ => xs.take i ++ y :: xs.drop i) v q → Ext w w' → (∀ x, x < w.heap.size → (ρ 0).2 x = 0 → w'.heap[x]? = w.heap[x]?) → (∀ x, x < w.heap.size → q x ≤ (ρ 0).2 x + (ρ 1).2 x) → (∀ x, q x ≤ 1) →
     ∃ v' q', Ending.returned v = .returned v' ∧ bq w'.heap (.list .aI fun _ => xs.take i ++ y :: xs.drop i) v' q' ∧ Ext w w' ∧ (∀ x, x < w.heap.size → aS ρ [(0, aN .aI fun _ => xs), (1, aN .aI fun _ => [y])] x = 0 → w'.heap[x]? = w.heap[x]?) ∧ (∀ x, x < w.heap.size → q' x ≤ aS ρ [(0, aN .aI fun _ => xs), (1, aN .aI fun _ => [y])] x) ∧ ∀ x, q' x ≤ 1 := fun a b c d e =>
   ⟨_, _, rfl, a, b, fun x hx h0 => c x hx (by rw [fV] at h0; omega), fun x hx => by rw [fV]; exact d x hx, e⟩
 rcases Nat.lt_or_ge i xs.length with aR | gK
 · -- not at the end
   rcases ho.fw with ⟨_, h, _⟩ | ⟨b, off, c, cs, e, fz, S, ck, hp, hb, hf, hl, hm, dZ, ct⟩
   · have h : xs = [] := h;rw [h] at aR; simp at aR
   have hl : xs.length ≤ c := hl;have ct : bG w.heap .aI xs (fun q => cs.getD (off + q) Go.undef) S := ct
   have HD : (ρ 0).2 b = 1 ∧ (ρ 1).2 b = 0 := by
     have h1 := fx b;have h2 : 0 < (ρ 0).2 b := by rw [hp]; exact jZ _ _ _ _
     omega
   have vY : 0 < (ρ 1).2 vb := by rw [qy]; exact jZ _ _ _ _
   have aX : vb ≠ b := fun he => by rw [he] at vY; omega
   have e3 : xs.length * av.sz .aI ≤ c * av.sz .aI := Nat.mul_le_mul_right _ hl;obtain ⟨uA, us, HE, ff, nz, qz, HF⟩ := o9 (P := Tryz.prog) (E := .aI) (xs := [y]) (k := 0) (Nat.zero_le _) i_ fm m5 ja ht;have ff : us.length = av.sz .aI := by rw [ff]; simp
   have qA : bG w.heap .aI [y] (fun q => us.getD q Go.undef) U := ja.cells fun q hq => by
     have hq : q < av.sz .aI := by simpa using hq
     rw [nz q (by rw [ff]; exact hq)]; simp
   have qB : ∀ j v, us[j]? = some v → w.cell? ((⟨vb, b_, none⟩ : Addr).add j) = some v := fun j v hj => by
     have hq := bK hj;have h3 : us.getD j Go.undef = v := by rw [List.getD_eq_getElem?_getD, hj]; rfl
     rw [← h3, nz j hq, eI, Nat.zero_mul, Nat.add_zero]
     exact cell_of fm (getD_some (by
       have : b_ + vc * av.sz .aI ≤ m0.size := m5;have h4 := Nat.mul_le_mul_right (av.sz .aI) i_;omega))
   have fy : w.drew.heap[b]? = some (.cells cs e fz) := hb;obtain ⟨nA, news, m6, gz, dD, ku, _⟩ := o9 (P := Tryz.prog) (w := w) (E := .aI) (xs := xs) (k := i) hi hl hb dZ ct ht
   have m6 : nA = ⟨b, off + i * av.sz .aI, none⟩ := by
     rw [if_neg (by omega)] at m6; exact (Option.some.inj m6).symm
   have e1 : i * av.sz .aI + (xs.length - i) * av.sz .aI = xs.length * av.sz .aI := by rw [← Nat.add_mul]; congr 1; omega
   have qC : ∀ j v, news[j]? = some v → w.cell? ((⟨b, off + i * av.sz .aI, none⟩ : Addr).add j) = some v := fun j v hj => by
     have hq := bK hj;have h3 : news.getD j Go.undef = v := by rw [List.getD_eq_getElem?_getD, hj]; rfl
     rw [← h3, dD j hq, eI];rw [gz] at hq;exact cell_of hb (getD_some (by omega))
   have e4 : (i + 1) * av.sz .aI = i * av.sz .aI + av.sz .aI := by rw [Nat.add_mul]; omega
   have e5 : (xs.length + 1) * av.sz .aI = xs.length * av.sz .aI + av.sz .aI := by rw [Nat.add_mul]; omega
   rcases Nat.lt_or_ge c (xs.length + 1) with hg | fR
   · -- a new row
     obtain ⟨fQ, kJ, hold, vZ⟩ := BU (P := Tryz.prog) (w := w.drew) (E := .aI) (xs := xs) (k := i) hi hl fy dZ ct;have gq : 0 < xs.length + 1 - i := by omega
     have cI := fun ty => run_append_grow_zeros (P := Tryz.prog) w 143 3 ty _ inf z .i64 .i64 ht Tryz.underlying3 eD hz (some ⟨b, off, none⟩) i c fQ (by rw [dx]; exact vZ) (xs.length + 1 - i) gq (by rw [dx]; decide) (by omega) (by omega) (by rw [gT]; omega) (by
       rw [gT]; exact growslice_fits (by omega) (by omega))
     have jb := grownCap_ge w (i + (xs.length + 1 - i)) c 99;rw [show i + (xs.length + 1 - i) = xs.length + 1 by omega] at cI jb;generalize grownCap w (xs.length + 1) c 99 = C at cI jb;generalize mB : fQ.toArray ++ Builtin.zeroCells z.cells (xs.length + 1 - i) ++ Builtin.zeroCells z.cells (C - (xs.length + 1)) = cells at cI
     have dA : cells.size = C * av.sz .aI := by
       rw [← mB];simp only [Array.size_append, List.size_toArray, Builtin.zeroCells, Array.size_map, Array.size_range, iX, kJ];rw [← Nat.add_mul, ← Nat.add_mul]
       congr 1; omega
     have ca : ∀ q, q < i * av.sz .aI → cells.getD q Go.undef = cs.getD (off + q) Go.undef := fun q hq => by
       rw [← hold q (by rw [kJ]; exact hq), ← mB, Array.getD_eq_getD_getElem?, Array.getElem?_append_left (by simp [kJ]; omega), Array.getElem?_append_left (by simp [kJ]; omega), List.getElem?_toArray, List.getD_eq_getElem?_getD]
     obtain ⟨W1, kK⟩ : ∃ W1, W1 = w.drew.alloc (.cells cells 99) := ⟨_, rfl⟩;have k1 : W1.heap[w.heap.size]? = some (.cells cells 99 (0, 0)) := by rw [kK]; show (w.heap.push _)[w.heap.size]? = _; simp
     have k2 : ∀ x, x < w.heap.size → W1.heap[x]? = w.heap[x]? := fun x hx => by rw [kK]; show (w.heap.push _)[x]? = _; rw [Array.getElem?_push, if_neg (Nat.ne_of_lt hx)]
     have k3 : Ext w W1 := by rw [kK]; exact (show Ext w w.drew from ⟨Nat.le_refl _, rfl, rfl, fun _ => rfl⟩).trans (qT w.drew _ _)
     have v5 : vb < w.heap.size := ke vb (by omega);have qD : b < w.heap.size := ke b (by omega);have e6 : (xs.length + 1) * av.sz .aI ≤ C * av.sz .aI := Nat.mul_le_mul_right _ jb
     obtain ⟨W2, c1, c2, c3, c4⟩ := mf (P := Tryz.prog) (w := W1) (o := i * av.sz .aI) (dLen := xs.length + 1 - i) (sLen := 1) (m := 1) (T2 := 143) k1 (mw _) ht eD (by simp only [Nat.min_def]; split <;> omega) (by rw [dx, ff, Nat.one_mul]) (fun j v hj => by
       have := qB j v hj;rw [eI] at this ⊢;rw [World.cell?, k2 vb v5]; exact this) (by rw [ff, dA]; omega) qz
     have v7 : W2.drew.heap[w.heap.size]? = _ := c2
     obtain ⟨W3, d1, d2, d3, d4⟩ := mf (P := Tryz.prog) (w := W2.drew) (o := (i + 1) * av.sz .aI) (dLen := xs.length - i) (sLen := xs.length - i) (m := xs.length - i) (T2 := 143) v7 (mw _) ht eD (by simp only [Nat.min_def]; split <;> omega) (by rw [dx, gz]) (fun j v hj => by
       have := qC j v hj;rw [eI] at this ⊢;rw [World.cell?, show W2.drew.heap[b]? = W2.heap[b]? from rfl, c3 b (Nat.ne_of_lt qD), k2 b qD]; exact this) (by rw [gz, dU, dA]; omega) ku
     have jc := O4 w W1 W2 W3 b off xs.length c i vb b_ vc w.heap.size C _ _ aR hg hl (by omega) jb (fun ty => by
       have := cI ty;rw [show ((xs.length + 1 - i : Nat) : Int) = (xs.length : Int) + 1 - (i : Int) by omega] at this;rw [kK]; exact this) (fun ty dc => c1 ty dc vc) (fun ty dc sc => d1 ty dc sc)
     rw [gy, ck, iZ];refine jc.mono fun e' w' he => ?_;obtain ⟨rfl, rfl⟩ := he;refine fin (BT (E := .aI) rfl hi jb (by unfold cE; omega) dA ct qA ca gz dD ff d2) (k3.trans (c4.trans ((show Ext W2 W2.drew from ⟨Nat.le_refl _, rfl, rfl, fun _ => rfl⟩).trans d4))) (fun x hx h0 => ?_) (fun x hx => ?_) (fun x => ?_)
     · rw [d3 x (Nat.ne_of_lt hx), show W2.drew.heap[x]? = W2.heap[x]? from rfl, c3 x (Nat.ne_of_lt hx), k2 x hx]
     · rw [iF, if_neg (Nat.ne_of_lt hx)]; omega
     · rw [iF]; split <;> omega
   · -- in place
     have e6 : (xs.length + 1) * av.sz .aI ≤ c * av.sz .aI := Nat.mul_le_mul_right _ fR
     have mX : ∀ lb cb, (callFunc 187 #[.slice (some ⟨vb, b_, none⟩) 1 vc, .slice (some ⟨b, off + (i + 1) * av.sz .aI, none⟩) lb cb]).run Tryz.prog w = .ok (.value (.bool false)) w := fun lb cb => by
       rw [run_callFunc_extern Tryz.func187 (by kernel_rfl) (by kernel_rfl) (by kernel_rfl) (e := Extern.SlicesOverlaps.overlaps #[143, 143] #[4]) (by kernel_rfl),
        Lib.run_overlaps_apart w 143 4 99 ht (av.sz .aI) (fun w => by simp [sizeOf, typeInfo, eD, dx]) ⟨vb, b_, none⟩ ⟨b, off + (i + 1) * av.sz .aI, none⟩ 1 vc lb cb aX ue e m0.size cs.size (by simp [World.shape?, fm]) (by simp [World.shape?, hb]) (by
         have : 0 < av.sz .aI := by decide
         omega) (tP fm lM _) (tP fm lM _)]
       rfl
     obtain ⟨W1, c1, c2, c3, c4⟩ := mf (P := Tryz.prog) (w := w.drew) (o := off + (i + 1) * av.sz .aI) (dLen := xs.length - i) (sLen := xs.length + 1 - i) (m := xs.length - i) (T2 := 143) fy hf ht eD (by simp only [Nat.min_def]; split <;> omega) (by rw [dx, gz]) qC (by rw [gz]; omega) ku;have oK : NF (dz cs (off + (i + 1) * av.sz .aI) news) fz := by rcases hf with h | h; exact .inl h; exact .inr (by rw [dU]; exact h)
     obtain ⟨W2, d1, d2, d3, d4⟩ := mf (P := Tryz.prog) (w := W1) (o := off + i * av.sz .aI) (dLen := xs.length + 1 - i) (sLen := 1) (m := 1) (T2 := 143) c2 oK ht eD (by simp only [Nat.min_def]; split <;> omega) (by rw [dx, ff, Nat.one_mul]) (fun j v hj => by
       have := qB j v hj;rw [eI] at this ⊢;rw [World.cell?, c3 vb aX]; exact this) (by rw [ff, dU]; omega) qz
     have jc := O3 w W1 W2 b off xs.length c i vb b_ vc _ _ aR fR (by omega) mX (fun ty dc sc => c1 ty dc sc) (fun ty dc => d1 ty dc vc);rw [gy, ck, iZ];refine jc.mono fun e' w' he => ?_;obtain ⟨rfl, rfl⟩ := he;refine fin (BS (E := .aI) rfl hi hf fR (by unfold cE; omega) dZ ct qA gz dD ff d2) ((show Ext w w.drew from ⟨Nat.le_refl _, rfl, rfl, fun _ => rfl⟩).trans (c4.trans d4)) (fun x hx h0 => ?_) (fun x hx => ?_) (fun x => ?_)
     · have iY : x ≠ b := fun he => by rw [he] at h0; omega
       rw [d3 x iY, c3 x iY]; rfl
     · rw [iF]
       split
       · rename_i he; rw [he]; omega
       · omega
     · rw [iF]; split <;> omega
 · -- at the end
   obtain rfl : i = xs.length := by omega
   obtain ⟨news, hN⟩ := iy.of (c := vc) fm (by have := Nat.mul_le_mul_right (av.sz .aI) i_; simpa using Nat.le_trans (Nat.add_le_add_left this b_) m5) ja;obtain ⟨v, p, w', g1, g2, g3, g4, g5, g6⟩ := uL (P := Tryz.prog) (w := w) (E := .aI) (xs := xs) (ys := [y]) (vy := .slice (some ⟨vb, b_, none⟩) 1 vc) (py := (ρ 1).2) (T := 143) (T2 := 143) (ty := 0) ho (hN.xf ht) (fun x => by rw [qy]; simp only [bT, cg]; exact Nat.le_add_left _ _) fx ke ht eD hz dx iX (by rw [gT]; decide) (by rw [gT]; simp only [List.length_cons, List.length_nil]; omega)
   obtain ⟨base, c, ck⟩ : ∃ base c, (ρ 0).1 = .slice base xs.length c := by
     rcases ho.fw with ⟨h1, h2, _⟩ | ⟨b, off, c, cs, e, fz, S, ck, _⟩
     · have h2 : xs = [] := h2;exact ⟨none, 0, by rw [h1, h2]; rfl⟩
     · exact ⟨_, c, ck⟩
   have jc := O2 w w' base xs.length c vb b_ vc v (fun ty => by rw [ck] at g1; exact g1);rw [gy, ck, iZ];refine jc.mono fun e' qN he => ?_;obtain ⟨rfl, rfl⟩ := he;have e7 : xs.take xs.length ++ y :: xs.drop xs.length = xs ++ [y] := by simp
   refine fin (by rw [e7]; exact g2) g3 g4 g5 (fun x => ?_);rcases Nat.lt_or_ge x w.heap.size with h | h
   · exact Nat.le_trans (g5 x h) (fx x)
   · exact g6 x h
set_option maxHeartbeats 4000000 in
theorem O5 (w W1 : World) (base : Option Addr) (n c vb b_ vc : Nat) (v' : Value)
   (hY : ∀ ty, (Builtin.append_ #[31, 31] ty #[.slice base n c, .slice (some ⟨vb, b_, none⟩) 1 vc]).run Tryz.prog w = .ok v' W1) :
   Calls Tryz.prog 112 #[.slice base n c, .int .i64 n, .slice (some ⟨vb, b_, none⟩) 1 vc] w fun e w' => e = .returned v' ∧ w' = W1 := by
 go_enter Tryz.func112, Tryz.ntmps112
 cases base with
 | none =>
   go_wp2_with (at_builtin; refine Lib.wpList_append_run _ rfl _ _ _ _ rfl _ _ rfl rfl _ _ (hY _) ?_)
   all_goals (go_ret; exact ⟨rfl, rfl⟩)
 | some a =>
   obtain ⟨ab, ao, Ht⟩ := a
   go_wp2_with (at_builtin; refine Lib.wpList_append_run _ rfl _ _ _ _ rfl _ _ rfl rfl _ _ (hY _) ?_)
   all_goals (go_ret; exact ⟨rfl, rfl⟩)
set_option maxHeartbeats 4000000 in
theorem O6 (w W1 W2 : World) (b off n c i vb b_ vc : Nat) (r1 r2 : Value) (hi : i < n) (fR : n + 1 ≤ c) (vP : n + 1 ≤ 9223372036854775807)
  (mX : ∀ lb cb, (callFunc 184 #[.slice (some ⟨vb, b_, none⟩) 1 vc, .slice (some ⟨b, off + (i + 1) * 10, none⟩) lb cb]).run Tryz.prog w = .ok (.value (.bool false)) w)
  (mY : ∀ ty dc sc, (Builtin.copy_ #[31, 31] ty #[.slice (some ⟨b, off + (i + 1) * 10, none⟩) (n - i) dc, .slice (some ⟨b, off + i * 10, none⟩) (n + 1 - i) sc]).run Tryz.prog w.drew = .ok r1 W1)
  (mZ : ∀ ty dc, (Builtin.copy_ #[31, 31] ty #[.slice (some ⟨b, off + i * 10, none⟩) (n + 1 - i) dc, .slice (some ⟨vb, b_, none⟩) 1 vc]).run Tryz.prog W1 = .ok r2 W2) :
  Calls Tryz.prog 112 #[.slice (some ⟨b, off, none⟩) n c, .int .i64 i, .slice (some ⟨vb, b_, none⟩) 1 vc] w fun e w' => e = .returned (.slice (some ⟨b, off, none⟩) (n + 1) c) ∧ w' = W2 := by
 have mixed : Tryz.prog.follows Departure.mixedOrders = true := by kernel_rfl
 have vQ : ¬ ((i : Int) = (n : Int)) := by omega
 have ra : ((i : Int) + 1).toNat = i + 1 := by omega
 have rp : ((n : Int) + 1).toNat = n + 1 := by omega
 have fm : ¬ (c = i + 1) := by omega
 have rq : (i : Int) ≤ (n : Int) + 1 := by omega
 have vR : ¬ (c = i) := by omega
 have vS : ¬ ((n : Int) + 1 > (c : Int)) := by omega
 have Hu : ¬ ((c : Int) < (n : Int) + 1) := by omega
 have Hv : (0 : Int) ≤ (n : Int) + 1 := by omega
 have Hw : (n : Int) + 1 ≤ (c : Int) := by omega
 have vT : (0 : Int) ≤ (i : Int) + 1 := by omega
 have vU : (i : Int) + 1 ≤ (n : Int) + 1 := by omega
 have vV : (i : Int) ≤ (n : Int) := by omega
 have ed : i ≤ n := by omega
 have vW : IntKind.i64.wrap ((i : Int) + 1) = (i : Int) + 1 := by rw [IntKind.wrap_i64]; omega
 have vX : IntKind.i64.wrap ((n : Int) + 1) = (n : Int) + 1 := by rw [IntKind.wrap_i64]; omega
 go_enter Tryz.func112, Tryz.ntmps112
 go_wp2_with (simp only [mX])
 go_region_law_o (refine step_copy_runI rfl _ _ _ _ rfl _ _ (by simp [Act.eval, Act.put]) (by simp [Act.eval, Act.put]) (mY _ _ _) ?_)
 go_wp2_with (at_builtin; refine wpList_copy_runI _ rfl _ _ _ _ rfl _ _ rfl rfl (mZ _ _) ?_)
 all_goals (go_ret; exact ⟨rfl, rfl⟩)
set_option maxHeartbeats 4000000 in
theorem O7 (w W1 W2 W3 : World) (b off n c i vb b_ vc nb c2 : Nat) (r1 r2 : Value) (hi : i < n) (fR : c < n + 1) (hc : n ≤ c) (vP : n + 1 ≤ 9223372036854775807) (lG : n + 1 ≤ c2)
  (hY : ∀ ty, (Builtin.append_ #[31, 3] ty #[.slice (some ⟨b, off, none⟩) i c, .int .i64 ((n : Int) + 1 - (i : Int))]).run Tryz.prog w = .ok (.slice (some ⟨nb, 0, none⟩) (n + 1) c2) W1)
  (mY : ∀ ty dc, (Builtin.copy_ #[31, 31] ty #[.slice (some ⟨nb, i * 10, none⟩) (n + 1 - i) dc, .slice (some ⟨vb, b_, none⟩) 1 vc]).run Tryz.prog W1 = .ok r1 W2)
  (mZ : ∀ ty dc sc, (Builtin.copy_ #[31, 31] ty #[.slice (some ⟨nb, (i + 1) * 10, none⟩) (n - i) dc, .slice (some ⟨b, off + i * 10, none⟩) (n - i) sc]).run Tryz.prog W2.drew = .ok r2 W3) :
  Calls Tryz.prog 112 #[.slice (some ⟨b, off, none⟩) n c, .int .i64 i, .slice (some ⟨vb, b_, none⟩) 1 vc] w fun e w' => e = .returned (.slice (some ⟨nb, 0, none⟩) (n + 1) c2) ∧ w' = W3 := by
 have mixed : Tryz.prog.follows Departure.mixedOrders = true := by kernel_rfl
 have vQ : ¬ ((i : Int) = (n : Int)) := by omega
 have ra : ((i : Int) + 1).toNat = i + 1 := by omega
 have rp : ((n : Int) + 1).toNat = n + 1 := by omega
 have fm : ¬ (c2 = i + 1) := by omega
 have vR : ¬ (c = i) := by omega
 have Hy : ¬ (c2 = i) := by omega
 have vS : (c : Int) < (n : Int) + 1 := by omega
 have vT : (0 : Int) ≤ (i : Int) + 1 := by omega
 have vU : (i : Int) + 1 ≤ (n : Int) + 1 := by omega
 have rq : (i : Int) ≤ (n : Int) + 1 := by omega
 have vV : (i : Int) ≤ (n : Int) := by omega
 have Hz : i ≤ c := by omega
 have ed : i ≤ n := by omega
 have vW : IntKind.i64.wrap ((i : Int) + 1) = (i : Int) + 1 := by rw [IntKind.wrap_i64]; omega
 have vX : IntKind.i64.wrap ((n : Int) + 1) = (n : Int) + 1 := by rw [IntKind.wrap_i64]; omega
 have HA : IntKind.i64.wrap ((n : Int) + 1 - (i : Int)) = (n : Int) + 1 - (i : Int) := by rw [IntKind.wrap_i64]; omega
 go_enter Tryz.func112, Tryz.ntmps112
 go_wp2_with (first | (at_builtin; refine Lib.wpList_append_run _ rfl _ _ _ _ rfl _ _ rfl rfl _ _ (hY _) ?_) | (at_builtin; refine wpList_copy_runI _ rfl _ _ _ _ rfl _ _ rfl rfl (mY _ _) ?_))
 go_region_law_o (refine step_copy_runI rfl _ _ _ _ rfl _ _ (by simp [Act.eval, Act.put]) (by simp [Act.eval, Act.put]) (mZ _ _ _) ?_)
 go_wp2
 all_goals (go_ret; exact ⟨rfl, rfl⟩)
set_option maxHeartbeats 4000000 in
theorem HI (xs : List aw) (y : aw) (i : Nat) (hi : i ≤ xs.length) (qw : xs.length ≤ bc) : cB Tryz.prog 112 [oN 0, nT fun _ => i, oN 1] [(0, aN .aG fun _ => xs), (1, aN .aG fun _ => [y])] (cV (lR .aG fun _ => xs.take i ++ y :: xs.drop i) []) := by
 refine tN ⟨_, Tryz.func112, rfl, rfl⟩ (fun k hk => by (have q : k = 0 ∨ k = 1 := by simpa [ax] using hk); omega) fun w vs ρ hr ha => ?_;have qw : xs.length ≤ 1048576 := qw;obtain ⟨bg, hv⟩ := ha;have e0 : vs.getD 0 Go.undef = (ρ 0).1 := (hv 0 _ rfl).2;have e1 : vs.getD 1 Go.undef = .int .i64 (i : Int) := o8 (hv 1 _ rfl);have e2 : vs.getD 2 Go.undef = (ρ 1).1 := (hv 2 _ rfl).2;have gy := tO (vs := vs) bg;rw [e0, e1, e2] at gy;have ho : bq w.heap (.list .aG fun _ => xs) (ρ 0).1 (ρ 0).2 := hr.ai 0 _ List.mem_cons_self;have qx : bq w.heap (.list .aG fun _ => [y]) (ρ 1).1 (ρ 1).2 := hr.ai 1 _ (List.mem_cons_of_mem _ List.mem_cons_self);have fV : ∀ x, aS ρ [(0, aN .aG fun _ => xs), (1, aN .aG fun _ => [y])] x = (ρ 0).2 x + (ρ 1).2 x := fun x => by simp [aS]
 have fx : ∀ x, (ρ 0).2 x + (ρ 1).2 x ≤ 1 := fun x => by have := hr.sum x; rwa [fV] at this
 have ke : ∀ x, 0 < (ρ 0).2 x + (ρ 1).2 x → x < w.heap.size := fun x hx => by
   have : ∃ cs e fz, w.heap[x]? = some (.cells cs e fz) := by
     rcases Nat.eq_zero_or_pos ((ρ 0).2 x) with h | h
     · exact qx.there x (by omega)
     · exact ho.there x h
   obtain ⟨_, _, _, h⟩ := this;rcases Nat.lt_or_ge x w.heap.size with h' | h'
   · exact h'
   · rw [Array.getElem?_eq_none h'] at h; cases h
 obtain ⟨ht, inf, z, eD, dx, gT, hz, qv, iX⟩ := kh au (T := 31) (E := .aG) rfl;rcases qx.fw with ⟨_, h, _⟩ | ⟨vb, b_, vc, m0, ue, HC, U, iZ, qy, fm, lM, i_, yw, m5, ja⟩
 · cases h
 have i_ : 1 ≤ vc := i_;have ja : bG w.heap .aG [y] (fun q => m0.getD (b_ + q) Go.undef) U := ja;have iZ : (ρ 1).1 = .slice (some ⟨vb, b_, none⟩) 1 vc := iZ
 have fin : ∀ {v : Value} {q : Nat → Nat} {w' : World}, bq w'.heap (.list .aG fun _ => xs.take i ++ y :: xs.drop i) v q → Ext w w' → (∀ x, x < w.heap.size → (ρ 0).2 x = 0 → w'.heap[x]? = w.heap[x]?) → (∀ x, x < w.heap.size → q x ≤ (ρ 0).2 x + (ρ 1).2 x) → (∀ x, q x ≤ 1) →
     ∃ v' q', Ending.returned v = .returned v' ∧ bq w'.heap (.list .aG fun _ => xs.take i ++ y :: xs.drop i) v' q' ∧ Ext w w' ∧ (∀ x, x < w.heap.size → aS ρ [(0, aN .aG fun _ => xs), (1, aN .aG fun _ => [y])] x = 0 → w'.heap[x]? = w.heap[x]?) ∧ (∀ x, x < w.heap.size → q' x ≤ aS ρ [(0, aN .aG fun _ => xs), (1, aN .aG fun _ => [y])] x) ∧ ∀ x, q' x ≤ 1 := fun a b c d e =>
   ⟨_, _, rfl, a, b, fun x hx h0 => c x hx (by rw [fV] at h0; omega), fun x hx => by rw [fV]; exact d x hx, e⟩
 rcases Nat.lt_or_ge i xs.length with aR | gK
 · -- not at the end
   rcases ho.fw with ⟨_, h, _⟩ | ⟨b, off, c, cs, e, fz, S, ck, hp, hb, hf, hl, hm, dZ, ct⟩
   · have h : xs = [] := h;rw [h] at aR; simp at aR
   have hl : xs.length ≤ c := hl;have ct : bG w.heap .aG xs (fun q => cs.getD (off + q) Go.undef) S := ct
   have HD : (ρ 0).2 b = 1 ∧ (ρ 1).2 b = 0 := by
     have h1 := fx b;have h2 : 0 < (ρ 0).2 b := by rw [hp]; exact jZ _ _ _ _
     omega
   have vY : 0 < (ρ 1).2 vb := by rw [qy]; exact jZ _ _ _ _
   have aX : vb ≠ b := fun he => by rw [he] at vY; omega
   have e3 : xs.length * av.sz .aG ≤ c * av.sz .aG := Nat.mul_le_mul_right _ hl;obtain ⟨uA, us, HE, ff, nz, qz, HF⟩ := o9 (P := Tryz.prog) (E := .aG) (xs := [y]) (k := 0) (Nat.zero_le _) i_ fm m5 ja ht;have ff : us.length = av.sz .aG := by rw [ff]; simp
   have qA : bG w.heap .aG [y] (fun q => us.getD q Go.undef) U := ja.cells fun q hq => by
     have hq : q < av.sz .aG := by simpa using hq
     rw [nz q (by rw [ff]; exact hq)]; simp
   have qB : ∀ j v, us[j]? = some v → w.cell? ((⟨vb, b_, none⟩ : Addr).add j) = some v := fun j v hj => by
     have hq := bK hj;have h3 : us.getD j Go.undef = v := by rw [List.getD_eq_getElem?_getD, hj]; rfl
     rw [← h3, nz j hq, eI, Nat.zero_mul, Nat.add_zero]
     exact cell_of fm (getD_some (by
       have : b_ + vc * av.sz .aG ≤ m0.size := m5;have h4 := Nat.mul_le_mul_right (av.sz .aG) i_;omega))
   have fy : w.drew.heap[b]? = some (.cells cs e fz) := hb;obtain ⟨nA, news, m6, gz, dD, ku, _⟩ := o9 (P := Tryz.prog) (w := w) (E := .aG) (xs := xs) (k := i) hi hl hb dZ ct ht
   have m6 : nA = ⟨b, off + i * av.sz .aG, none⟩ := by
     rw [if_neg (by omega)] at m6; exact (Option.some.inj m6).symm
   have e1 : i * av.sz .aG + (xs.length - i) * av.sz .aG = xs.length * av.sz .aG := by rw [← Nat.add_mul]; congr 1; omega
   have qC : ∀ j v, news[j]? = some v → w.cell? ((⟨b, off + i * av.sz .aG, none⟩ : Addr).add j) = some v := fun j v hj => by
     have hq := bK hj;have h3 : news.getD j Go.undef = v := by rw [List.getD_eq_getElem?_getD, hj]; rfl
     rw [← h3, dD j hq, eI];rw [gz] at hq;exact cell_of hb (getD_some (by omega))
   have e4 : (i + 1) * av.sz .aG = i * av.sz .aG + av.sz .aG := by rw [Nat.add_mul]; omega
   have e5 : (xs.length + 1) * av.sz .aG = xs.length * av.sz .aG + av.sz .aG := by rw [Nat.add_mul]; omega
   rcases Nat.lt_or_ge c (xs.length + 1) with hg | fR
   · -- a new row
     obtain ⟨fQ, kJ, hold, vZ⟩ := BU (P := Tryz.prog) (w := w.drew) (E := .aG) (xs := xs) (k := i) hi hl fy dZ ct;have gq : 0 < xs.length + 1 - i := by omega
     have cI := fun ty => run_append_grow_zeros (P := Tryz.prog) w 31 3 ty _ inf z .i64 .i64 ht Tryz.underlying3 eD hz (some ⟨b, off, none⟩) i c fQ (by rw [dx]; exact vZ) (xs.length + 1 - i) gq (by rw [dx]; decide) (by omega) (by omega) (by rw [gT]; omega) (by
       rw [gT]; exact growslice_fits (by omega) (by omega))
     have jb := grownCap_ge w (i + (xs.length + 1 - i)) c 81;rw [show i + (xs.length + 1 - i) = xs.length + 1 by omega] at cI jb;generalize grownCap w (xs.length + 1) c 81 = C at cI jb;generalize mB : fQ.toArray ++ Builtin.zeroCells z.cells (xs.length + 1 - i) ++ Builtin.zeroCells z.cells (C - (xs.length + 1)) = cells at cI
     have dA : cells.size = C * av.sz .aG := by
       rw [← mB];simp only [Array.size_append, List.size_toArray, Builtin.zeroCells, Array.size_map, Array.size_range, iX, kJ];rw [← Nat.add_mul, ← Nat.add_mul]
       congr 1; omega
     have ca : ∀ q, q < i * av.sz .aG → cells.getD q Go.undef = cs.getD (off + q) Go.undef := fun q hq => by
       rw [← hold q (by rw [kJ]; exact hq), ← mB, Array.getD_eq_getD_getElem?, Array.getElem?_append_left (by simp [kJ]; omega), Array.getElem?_append_left (by simp [kJ]; omega), List.getElem?_toArray, List.getD_eq_getElem?_getD]
     obtain ⟨W1, kK⟩ : ∃ W1, W1 = w.drew.alloc (.cells cells 81) := ⟨_, rfl⟩;have k1 : W1.heap[w.heap.size]? = some (.cells cells 81 (0, 0)) := by rw [kK]; show (w.heap.push _)[w.heap.size]? = _; simp
     have k2 : ∀ x, x < w.heap.size → W1.heap[x]? = w.heap[x]? := fun x hx => by rw [kK]; show (w.heap.push _)[x]? = _; rw [Array.getElem?_push, if_neg (Nat.ne_of_lt hx)]
     have k3 : Ext w W1 := by rw [kK]; exact (show Ext w w.drew from ⟨Nat.le_refl _, rfl, rfl, fun _ => rfl⟩).trans (qT w.drew _ _)
     have v5 : vb < w.heap.size := ke vb (by omega);have qD : b < w.heap.size := ke b (by omega);have e6 : (xs.length + 1) * av.sz .aG ≤ C * av.sz .aG := Nat.mul_le_mul_right _ jb
     obtain ⟨W2, c1, c2, c3, c4⟩ := mf (P := Tryz.prog) (w := W1) (o := i * av.sz .aG) (dLen := xs.length + 1 - i) (sLen := 1) (m := 1) (T2 := 31) k1 (mw _) ht eD (by simp only [Nat.min_def]; split <;> omega) (by rw [dx, ff, Nat.one_mul]) (fun j v hj => by
       have := qB j v hj;rw [eI] at this ⊢;rw [World.cell?, k2 vb v5]; exact this) (by rw [ff, dA]; omega) qz
     have v7 : W2.drew.heap[w.heap.size]? = _ := c2
     obtain ⟨W3, d1, d2, d3, d4⟩ := mf (P := Tryz.prog) (w := W2.drew) (o := (i + 1) * av.sz .aG) (dLen := xs.length - i) (sLen := xs.length - i) (m := xs.length - i) (T2 := 31) v7 (mw _) ht eD (by simp only [Nat.min_def]; split <;> omega) (by rw [dx, gz]) (fun j v hj => by
       have := qC j v hj;rw [eI] at this ⊢;rw [World.cell?, show W2.drew.heap[b]? = W2.heap[b]? from rfl, c3 b (Nat.ne_of_lt qD), k2 b qD]; exact this) (by rw [gz, dU, dA]; omega) ku
     have jc := O7 w W1 W2 W3 b off xs.length c i vb b_ vc w.heap.size C _ _ aR hg hl (by omega) jb (fun ty => by
       have := cI ty;rw [show ((xs.length + 1 - i : Nat) : Int) = (xs.length : Int) + 1 - (i : Int) by omega] at this;rw [kK]; exact this) (fun ty dc => c1 ty dc vc) (fun ty dc sc => d1 ty dc sc)
     rw [gy, ck, iZ];refine jc.mono fun e' w' he => ?_;obtain ⟨rfl, rfl⟩ := he;refine fin (BT (E := .aG) rfl hi jb (by unfold cE; omega) dA ct qA ca gz dD ff d2) (k3.trans (c4.trans ((show Ext W2 W2.drew from ⟨Nat.le_refl _, rfl, rfl, fun _ => rfl⟩).trans d4))) (fun x hx h0 => ?_) (fun x hx => ?_) (fun x => ?_)
     · rw [d3 x (Nat.ne_of_lt hx), show W2.drew.heap[x]? = W2.heap[x]? from rfl, c3 x (Nat.ne_of_lt hx), k2 x hx]
     · rw [iF, if_neg (Nat.ne_of_lt hx)]; omega
     · rw [iF]; split <;> omega
   · -- in place
     have e6 : (xs.length + 1) * av.sz .aG ≤ c * av.sz .aG := Nat.mul_le_mul_right _ fR
     have mX : ∀ lb cb, (callFunc 184 #[.slice (some ⟨vb, b_, none⟩) 1 vc, .slice (some ⟨b, off + (i + 1) * av.sz .aG, none⟩) lb cb]).run Tryz.prog w = .ok (.value (.bool false)) w := fun lb cb => by
       rw [run_callFunc_extern Tryz.func184 (by kernel_rfl) (by kernel_rfl) (by kernel_rfl) (e := Extern.SlicesOverlaps.overlaps #[31, 31] #[4]) (by kernel_rfl),
        Lib.run_overlaps_apart w 31 4 81 ht (av.sz .aG) (fun w => by simp [sizeOf, typeInfo, eD, dx]) ⟨vb, b_, none⟩ ⟨b, off + (i + 1) * av.sz .aG, none⟩ 1 vc lb cb aX ue e m0.size cs.size (by simp [World.shape?, fm]) (by simp [World.shape?, hb]) (by
         have : 0 < av.sz .aG := by decide
         omega) (tP fm lM _) (tP fm lM _)]
       rfl
     obtain ⟨W1, c1, c2, c3, c4⟩ := mf (P := Tryz.prog) (w := w.drew) (o := off + (i + 1) * av.sz .aG) (dLen := xs.length - i) (sLen := xs.length + 1 - i) (m := xs.length - i) (T2 := 31) fy hf ht eD (by simp only [Nat.min_def]; split <;> omega) (by rw [dx, gz]) qC (by rw [gz]; omega) ku;have oK : NF (dz cs (off + (i + 1) * av.sz .aG) news) fz := by rcases hf with h | h; exact .inl h; exact .inr (by rw [dU]; exact h)
     obtain ⟨W2, d1, d2, d3, d4⟩ := mf (P := Tryz.prog) (w := W1) (o := off + i * av.sz .aG) (dLen := xs.length + 1 - i) (sLen := 1) (m := 1) (T2 := 31) c2 oK ht eD (by simp only [Nat.min_def]; split <;> omega) (by rw [dx, ff, Nat.one_mul]) (fun j v hj => by
       have := qB j v hj;rw [eI] at this ⊢;rw [World.cell?, c3 vb aX]; exact this) (by rw [ff, dU]; omega) qz
     have jc := O6 w W1 W2 b off xs.length c i vb b_ vc _ _ aR fR (by omega) mX (fun ty dc sc => c1 ty dc sc) (fun ty dc => d1 ty dc vc);rw [gy, ck, iZ];refine jc.mono fun e' w' he => ?_;obtain ⟨rfl, rfl⟩ := he;refine fin (BS (E := .aG) rfl hi hf fR (by unfold cE; omega) dZ ct qA gz dD ff d2) ((show Ext w w.drew from ⟨Nat.le_refl _, rfl, rfl, fun _ => rfl⟩).trans (c4.trans d4)) (fun x hx h0 => ?_) (fun x hx => ?_) (fun x => ?_)
     · have iY : x ≠ b := fun he => by rw [he] at h0; omega
       rw [d3 x iY, c3 x iY]; rfl
     · rw [iF]
       split
       · rename_i he; rw [he]; omega
       · omega
     · rw [iF]; split <;> omega
 · -- at the end
   obtain rfl : i = xs.length := by omega
   obtain ⟨news, hN⟩ := iy.of (c := vc) fm (by have := Nat.mul_le_mul_right (av.sz .aG) i_; simpa using Nat.le_trans (Nat.add_le_add_left this b_) m5) ja;obtain ⟨v, p, w', g1, g2, g3, g4, g5, g6⟩ := uL (P := Tryz.prog) (w := w) (E := .aG) (xs := xs) (ys := [y]) (vy := .slice (some ⟨vb, b_, none⟩) 1 vc) (py := (ρ 1).2) (T := 31) (T2 := 31) (ty := 0) ho (hN.xf ht) (fun x => by rw [qy]; simp only [bT, cg]; exact Nat.le_add_left _ _) fx ke ht eD hz dx iX (by rw [gT]; decide) (by rw [gT]; simp only [List.length_cons, List.length_nil]; omega)
   obtain ⟨base, c, ck⟩ : ∃ base c, (ρ 0).1 = .slice base xs.length c := by
     rcases ho.fw with ⟨h1, h2, _⟩ | ⟨b, off, c, cs, e, fz, S, ck, _⟩
     · have h2 : xs = [] := h2;exact ⟨none, 0, by rw [h1, h2]; rfl⟩
     · exact ⟨_, c, ck⟩
   have jc := O5 w w' base xs.length c vb b_ vc v (fun ty => by rw [ck] at g1; exact g1);rw [gy, ck, iZ];refine jc.mono fun e' qN he => ?_;obtain ⟨rfl, rfl⟩ := he;have e7 : xs.take xs.length ++ y :: xs.drop xs.length = xs ++ [y] := by simp
   refine fin (by rw [e7]; exact g2) g3 g4 g5 (fun x => ?_);rcases Nat.lt_or_ge x w.heap.size with h | h
   · exact Nat.le_trans (g5 x h) (fx x)
   · exact g6 x h
end Go.Proofs.YticeaiiffeccmaaGreat

