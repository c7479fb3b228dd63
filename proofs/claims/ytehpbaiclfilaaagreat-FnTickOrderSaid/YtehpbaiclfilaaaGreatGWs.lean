/- Parts of a proof. No conditions. -/

import Derived.Test.YtehpbaiclfilaaaGreatG49
import Derived.Test.YtehpbaiclfilaaaGreatG50
import Derived.Test.YtehpbaiclfilaaaGreatG42
import Derived.Test.YtehpbaiclfilaaaGreatGWq
import Derived.Test.YtehpbaiclfilaaaGreatG22
set_option linter.unusedSimpArgs false
set_option linter.unusedVariables false
namespace Go.Proofs.YtehpbaiclfilaaaGreat
open Go
set_option maxRecDepth 100000
set_option maxHeartbeats 8000000 in
theorem KX (code : List UInt8) : bE Tryz.prog 6 [.c (.own 0)] [(0, .view .byte fun _ => code)] (dP (bR fun _ => true) []) := by
 refine fF ay Tryz.func6 rfl rfl (fr := true) (fun _ => by kernel_rfl) rfl rfl fun P hP hA hB => ?_;cbv
 repeat (refine Pz.mk ?_; cbv)
 refine ag.by hP (mD code) ?_;cbv
 repeat (refine Pz.mk ?_; cbv)
 refine Br.dec (fun h0 => ?_) (fun h0 => ?_) <;> (cbv; repeat (refine Pz.mk ?_; cbv))
 · repeat' first | exact trivial | refine ⟨rfl, ?_⟩ | fail
 have hc := mB h0;refine aB.ex hP (qu code hc) fun g hg => ?_;cbv
 repeat (refine Pz.mk ?_; cbv)
 have hg : cJ g := hg;have hs : bh g := hg.1;obtain ⟨T, hT⟩ : ∃ T, T = gw g := ⟨_, rfl⟩;obtain ⟨v, hv⟩ : ∃ v, v = bM g lu := ⟨_, rfl⟩;have fJ : bh T := by rw [hT]; exact pd hs
 refine ag.by hP (o_ g hs T hT v hv) ?_;cbv
 repeat (refine Pz.mk ?_; cbv)
 refine ag.by hP (vK g lu hs v hv) ?_;cbv
 repeat (refine Pz.mk ?_; cbv)
 refine Br.split (fun k1 => ?_) (fun k1 => ?_) <;> (cbv; repeat (refine Pz.mk ?_; cbv))
 · have k1 : (v != v) = true := k1;simp at k1
 refine Br.split (fun k2 => ?_) (fun k2 => ?_) <;> (cbv; repeat (refine Pz.mk ?_; cbv))
 · repeat' first | exact trivial | refine ⟨rfl, ?_⟩ | fail
 have k2 : (v != 0) = false := k2;have k2 : v = 0 := by simpa using k2
 have k3 : bM g lu = 0 := hv ▸ k2;obtain ⟨hG, t1, t2, t3, yn⟩ := AX k3;rw [← hT] at t1 t2 t3 yn;have KZ : aW T = true := cI.2 yn;have Fa := bB hG.now;have r1 : -9223372036854775808 ≤ g.now + 1 := by omega
 have r2 : g.now + 1 ≤ 9223372036854775807 := by omega
 have g1 : (T.now != g.now + 1) = false := by rw [t3]; simp
 repeat' first
   | exact trivial
   | (refine Pz.mk ?_; cbv)
   | (refine Ar.exact (by exact r1) (by exact r2) ?_; cbv)
   | (refine Br.no g1 ?_; cbv)
   | (refine ag.by hP (f_ T fJ true KZ.symm) ?_; cbv)
   | (refine Br.no (by first | with_reducible rfl | exact (rfl : (!true) = false)) ?_; cbv)
   | fail
 have K_ : g.ae.length ≤ 1048576 := hs.2.1;apply aT.kj (A := Int) (fun j => [(3, pN 3), (4, pN 4), (6, iT fun _ => j)]) (fun j => (3, .box (ke 10 g)) :: (4, .box (ke 15 T)) :: (kg 10 g ++ kg 15 T)) (fun j => 0 ≤ j ∧ j.toNat ≤ g.ae.length) (fun j _ => g.ae.length - j.toNat)
 · cbv
   (try dsimp only)
   repeat' first | exact trivial | refine ⟨rfl, ?_⟩ | fail
 · exact ⟨by omega, Nat.zero_le _⟩
 rintro j ⟨q1, q2⟩
 cbv;refine Br.dec (fun hb => ?_) (fun hb => ?_) <;> (cbv; repeat (refine Pz.mk ?_; cbv))
 · have dC : j < (g.ae.length : Int) := hb;have cu : j.toNat + 1 ≤ g.ae.length ∧ (j + 1).toNat = j.toNat + 1 := by omega
   obtain ⟨y, hy⟩ : ∃ y, y = aO .az (fun _ => g.ae) (fun _ => j.toNat) () := ⟨_, rfl⟩;have ym : y ∈ g.ae := by rw [hy]; exact m2 cu.1
   obtain ⟨l1, yo⟩ : ∃ l, l = fO T.rules y T.now := ⟨_, rfl⟩;obtain ⟨l2, eF⟩ : ∃ l, l = fO g.rules y g.now := ⟨_, rfl⟩
   have hle : ¬ l2 < l1 := by
     have := JD k3 ym;rw [← hT, ← yo, ← eF] at this;omega
   have r3 : -9223372036854775808 ≤ j + 1 := by omega
   have r4 : j + 1 ≤ 9223372036854775807 := by omega
   repeat' first
     | exact trivial
     | (refine Pz.mk ?_; cbv)
     | (refine Ob.mk ⟨q1, hb⟩ ?_; cbv)
     | (refine ag.qi hP (DC T.rules y T.now fJ.1 l1 yo) (by rw [hy]; rfl) ?_; cbv)
     | (refine ag.qi hP (DB g.rules y g.now hs.1 l2 eF) (by rw [hy]; rfl) ?_; cbv)
     | (refine Br.no (decide_eq_false hle) ?_; cbv)
     | refine And.intro ?_ ?_
     | fail
   apply aT.nh (A := au) (B := Int) (fun w k => [(3, pN 3), (4, pN 4), (6, iT fun _ => j), (7, pN 7), (8, iT fun _ => k)]) (fun w k => (3, .box (ke 10 g)) :: (4, .box (ke 15 T)) :: (7, .box (LZ w)) :: (kg 10 g ++ kg 15 T)) (fun w k => w = y ∧ 0 ≤ k ∧ k.toNat ≤ g.ae.length) (fun w k _ => g.ae.length - k.toNat)
   · cbv
     (try dsimp only)
     repeat' first | exact trivial | refine ⟨rfl, ?_⟩ | fail
   · exact ⟨hy.symm, by omega, Nat.zero_le _⟩
   rintro w k ⟨hw, p1, p2⟩
   obtain rfl := hw;cbv;refine Br.dec (fun kI => ?_) (fun kI => ?_) <;> (cbv; repeat (refine Pz.mk ?_; cbv))
   · have Ak : k < (g.ae.length : Int) := kI;have ga : k.toNat + 1 ≤ g.ae.length ∧ (k + 1).toNat = k.toNat + 1 := by omega
     obtain ⟨z, hz⟩ : ∃ z, z = aO .az (fun _ => g.ae) (fun _ => k.toNat) () := ⟨_, rfl⟩;have zm : z ∈ g.ae := by rw [hz]; exact m2 ga.1
     have r5 : -9223372036854775808 ≤ k + 1 := by omega
     have r6 : k + 1 ≤ 9223372036854775807 := by omega
     by_cases d1 : w.aK = z.aK
     · have gz : (w.aK == (aO .az (fun _ => g.ae) (fun _ => k.toNat) ()).aK) = true := by rw [← hz, d1]; simp
       by_cases d2 : w.cf = z.cf
       · have j_ : (w.cf == (aO .az (fun _ => g.ae) (fun _ => k.toNat) ()).cf) = true := by rw [← hz, d2]; simp
         by_cases d3 : w.st = 1
         · have mK : (w.st == 1) = true := by rw [d3]; rfl
           by_cases d4 : z.st = 1
           · have pf : ((aO .az (fun _ => g.ae) (fun _ => k.toNat) ()).st == 1) = true := by rw [← hz, d4]; rfl
             obtain ⟨x1, jb⟩ : ∃ x, x = placeOf T w.id := ⟨_, rfl⟩;obtain ⟨x2, oJ⟩ : ∃ x, x = placeOf T z.id := ⟨_, rfl⟩;obtain ⟨x3, Fb⟩ : ∃ x, x = placeOf g w.id := ⟨_, rfl⟩;obtain ⟨x4, zE⟩ : ∃ x, x = placeOf g z.id := ⟨_, rfl⟩;have od := JE k3 ym zm d1 d2 d3 d4;rw [← hT, ← jb, ← oJ, ← Fb, ← zE] at od
             have d5 : (decide (x1 < x2) != decide (x3 < x4)) = false := by
               have K0 : decide (x1 < x2) = decide (x3 < x4) := decide_eq_decide.2 od;rw [K0]; simp
             repeat' first
               | exact trivial
               | (refine Pz.mk ?_; cbv)
               | (refine Ob.mk ⟨p1, kI⟩ ?_; cbv)
               | (refine Br.yes gz ?_; cbv)
               | (refine Br.yes j_ ?_; cbv)
               | (refine Br.yes mK ?_; cbv)
               | (refine Br.yes pf ?_; cbv)
               | (refine ag.by hP (se T w.id fJ x1 jb) ?_; cbv)
               | (refine ag.qi hP (se T z.id fJ x2 oJ) (by rw [hz]; rfl) ?_; cbv)
               | (refine ag.by hP (Ec g w.id hs x3 Fb) ?_; cbv)
               | (refine ag.qi hP (Ec g z.id hs x4 zE) (by rw [hz]; rfl) ?_; cbv)
               | (refine Br.no d5 ?_; cbv)
               | (refine Ar.exact (by exact r5) (by exact r6) ?_; cbv)
               | refine And.intro ?_ ?_
               | fail
             any_goals
               apply aJ.lj
               · cbv
                 (try dsimp only)
                 repeat' first | exact trivial | refine ⟨rfl, ?_⟩ | fail
               · (try dsimp only)
                 exact ⟨rfl, by omega, by rw [ga.2]; exact ga.1⟩
               · (try dsimp only)
                 rw [ga.2]; omega
           · have pf : ((aO .az (fun _ => g.ae) (fun _ => k.toNat) ()).st == 1) = false := by rw [← hz]; simpa using d4
             repeat' first
               | exact trivial
               | (refine Pz.mk ?_; cbv)
               | (refine Ob.mk ⟨p1, kI⟩ ?_; cbv)
               | (refine Br.yes gz ?_; cbv)
               | (refine Br.yes j_ ?_; cbv)
               | (refine Br.yes mK ?_; cbv)
               | (refine Br.no pf ?_; cbv)
               | (refine Ar.exact (by exact r5) (by exact r6) ?_; cbv)
               | fail
             any_goals
               apply aJ.lj
               · cbv
                 (try dsimp only)
                 repeat' first | exact trivial | refine ⟨rfl, ?_⟩ | fail
               · (try dsimp only)
                 exact ⟨rfl, by omega, by rw [ga.2]; exact ga.1⟩
               · (try dsimp only)
                 rw [ga.2]; omega
         · have mK : (w.st == 1) = false := by simpa using d3
           repeat' first
             | exact trivial
             | (refine Pz.mk ?_; cbv)
             | (refine Ob.mk ⟨p1, kI⟩ ?_; cbv)
             | (refine Br.yes gz ?_; cbv)
             | (refine Br.yes j_ ?_; cbv)
             | (refine Br.no mK ?_; cbv)
             | (refine Ar.exact (by exact r5) (by exact r6) ?_; cbv)
             | fail
           any_goals
             apply aJ.lj
             · cbv
               (try dsimp only)
               repeat' first | exact trivial | refine ⟨rfl, ?_⟩ | fail
             · (try dsimp only)
               exact ⟨rfl, by omega, by rw [ga.2]; exact ga.1⟩
             · (try dsimp only)
               rw [ga.2]; omega
       · have j_ : (w.cf == (aO .az (fun _ => g.ae) (fun _ => k.toNat) ()).cf) = false := by rw [← hz]; simpa using d2
         repeat' first
           | exact trivial
           | (refine Pz.mk ?_; cbv)
           | (refine Ob.mk ⟨p1, kI⟩ ?_; cbv)
           | (refine Br.yes gz ?_; cbv)
           | (refine Br.no j_ ?_; cbv)
           | (refine Ar.exact (by exact r5) (by exact r6) ?_; cbv)
           | fail
         any_goals
           apply aJ.lj
           · cbv
             (try dsimp only)
             repeat' first | exact trivial | refine ⟨rfl, ?_⟩ | fail
           · (try dsimp only)
             exact ⟨rfl, by omega, by rw [ga.2]; exact ga.1⟩
           · (try dsimp only)
             rw [ga.2]; omega
     · have gz : (w.aK == (aO .az (fun _ => g.ae) (fun _ => k.toNat) ()).aK) = false := by rw [← hz]; simpa using d1
       repeat' first
         | exact trivial
         | (refine Pz.mk ?_; cbv)
         | (refine Ob.mk ⟨p1, kI⟩ ?_; cbv)
         | (refine Br.no gz ?_; cbv)
         | (refine Ar.exact (by exact r5) (by exact r6) ?_; cbv)
         | fail
       any_goals
         apply aJ.lj
         · cbv
           (try dsimp only)
           repeat' first | exact trivial | refine ⟨rfl, ?_⟩ | fail
         · (try dsimp only)
           exact ⟨rfl, by omega, by rw [ga.2]; exact ga.1⟩
         · (try dsimp only)
           rw [ga.2]; omega
   · repeat' first
       | exact trivial
       | (refine Pz.mk ?_; cbv)
       | (refine Ar.exact (by exact r3) (by exact r4) ?_; cbv)
       | fail
     any_goals
       apply aJ.kH
       · cbv
         (try dsimp only)
         repeat' first | exact trivial | refine ⟨rfl, ?_⟩ | fail
       · (try dsimp only)
         exact ⟨by omega, by rw [cu.2]; exact cu.1⟩
       · (try dsimp only)
         rw [cu.2]; omega
 · repeat' first
     | exact trivial
     | (refine Pz.mk ?_; cbv)
     | refine ⟨rfl, ?_⟩
     | fail
theorem K2 (code : List UInt8) : Spec Tryz.prog 6 [lA .byte code] (aE (bR fun _ => true)) := Spec.mr (KX code)
end Go.Proofs.YtehpbaiclfilaaaGreat

