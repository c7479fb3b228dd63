/- Parts of a proof. No conditions. -/

import Derived.Test.YtehpbaiclfilaaaGreatG49
import Derived.Test.YtehpbaiclfilaaaGreatG50
import Derived.Test.YtehpbaiclfilaaaGreatG42
import Derived.Test.YtehpbaiclfilaaaGreatG16
import Derived.Test.YtehpbaiclfilaaaGreatG22
set_option linter.unusedSimpArgs false
set_option linter.unusedVariables false
namespace Go.Proofs.YtehpbaiclfilaaaGreat
open Go
set_option maxRecDepth 100000
set_option maxHeartbeats 8000000 in
theorem K3 (code : List UInt8) : bE Tryz.prog 7 [.c (.own 0)] [(0, .view .byte fun _ => code)] (dP (bR fun _ => true) []) := by
 refine fF ay Tryz.func7 rfl rfl (fr := true) (fun _ => by kernel_rfl) rfl rfl fun P hP hA hB => ?_;cbv;refine ag.by hP (mD code) ?_;cbv;refine Br.dec (fun h0 => ?_) (fun h0 => ?_) <;> cbv
 · repeat' first | exact trivial | refine ⟨rfl, ?_⟩ | fail
 have hc := mB h0;refine aB.ex hP (Dl code hc) fun ⟨g, now⟩ hg => ?_;cbv;have hs : bh g := (show cJ g from hg).1;obtain ⟨L, hL⟩ : ∃ L, L = mG g now := ⟨_, rfl⟩;obtain ⟨b, hb⟩ : ∃ b, b = aW g := ⟨_, rfl⟩;refine ag.by hP (ES g now hs L hL) ?_;cbv;refine ag.by hP (ER g now hs L hL) ?_;cbv;refine Br.split (fun k1 => ?_) (fun k1 => ?_) <;> cbv
 · have k1 : ((L.length : Int) != (L.length : Int)) = true := k1;simp at k1
 refine ag.by hP (f_ g hs b hb) ?_;cbv;cases ek : aW g with
 | false =>
   have g1 : (!b) = true := by rw [hb, ek]; rfl
   repeat' first
     | exact trivial
     | (refine Pz.mk ?_; cbv)
     | (refine Br.yes g1 ?_; cbv)
     | refine ⟨rfl, ?_⟩
     | fail
 | true =>
   have g1 : (!b) = false := by rw [hb, ek]; rfl
   have hG := cI.1 ek;have Fa := bB hG.now
   by_cases c1 : now < g.now
   · repeat' first
       | exact trivial
       | (refine Pz.mk ?_; cbv)
       | (refine Br.no g1 ?_; cbv)
       | (refine Br.yes (decide_eq_true c1) ?_; cbv)
       | refine ⟨rfl, ?_⟩
       | fail
   have r1 : -9223372036854775808 ≤ g.now + 30 := by omega
   have r2 : g.now + 30 ≤ 9223372036854775807 := by omega
   by_cases c2 : g.now + 30 < now
   · repeat' first
       | exact trivial
       | (refine Pz.mk ?_; cbv)
       | (refine Br.no g1 ?_; cbv)
       | (refine Br.no (decide_eq_false c1) ?_; cbv)
       | (refine Ar.exact (by exact r1) (by exact r2) ?_; cbv)
       | (refine Br.yes (decide_eq_true c2) ?_; cbv)
       | refine ⟨rfl, ?_⟩
       | fail
   by_cases c3 : 1000000 < now
   · repeat' first
       | exact trivial
       | (refine Pz.mk ?_; cbv)
       | (refine Br.no g1 ?_; cbv)
       | (refine Br.no (decide_eq_false c1) ?_; cbv)
       | (refine Ar.exact (by exact r1) (by exact r2) ?_; cbv)
       | (refine Br.no (decide_eq_false c2) ?_; cbv)
       | (refine Br.yes (decide_eq_true c3) ?_; cbv)
       | refine ⟨rfl, ?_⟩
       | fail
   have eL : L = dS g now g.cabins.length := by
     rw [hL, mG, if_pos];rw [e_, ek, aj, decide_eq_true (by omega), decide_eq_true (by omega)]; rfl
   have xF := mH hG now g.cabins.length (Nat.le_refl _);rw [← eL] at xF;have xU : g.cabins.length ≤ 4 := by rw [hG.fy]; have := (dO hG.rules).len; omega
   repeat' first
     | exact trivial
     | (refine Pz.mk ?_; cbv)
     | (refine Br.no g1 ?_; cbv)
     | (refine Br.no (decide_eq_false c1) ?_; cbv)
     | (refine Ar.exact (by exact r1) (by exact r2) ?_; cbv)
     | (refine Br.no (decide_eq_false c2) ?_; cbv)
     | (refine Br.no (decide_eq_false c3) ?_; cbv)
     | fail
   apply aT.nh (A := ai) (B := Int) (fun E j => [(3, pN 3), (4, iT fun _ => now), (5, oN 5), (6, iT fun _ => j)]) (fun E j => (3, .box (ke 10 E)) :: (5, aQ .aD fun _ => L) :: kg 10 E) (fun E j => (0 ≤ j ∧ j ≤ 40) ∧ bh E ∧ pz g E j ∧ E.now ≤ now) (fun E j _ => (40 - j).toNat)
   · cbv
     (try dsimp only)
     repeat' first | exact trivial | refine ⟨rfl, ?_⟩ | fail
   · exact ⟨⟨by omega, by omega⟩, hs, pz.zero hG, by omega⟩
   rintro E j ⟨⟨q1, q2⟩, p1, TP, p3⟩
   cbv;have tn := TP.now;have Lk : aW E = true := cI.2 TP.hg
   by_cases c4 : j < 40
   · by_cases c5 : E.now < now
     · obtain ⟨F, hF⟩ : ∃ F, F = gw E := ⟨_, rfl⟩;have sF : bh F := by rw [hF]; exact pd p1
       have TF : pz g F (j + 1) := by rw [hF]; exact TP.step (by omega)
       have okF : aW F = true := cI.2 TF.hg;obtain ⟨v, hv⟩ : ∃ v, v = bM E lu := ⟨_, rfl⟩;have r3 : -9223372036854775808 ≤ j + 1 := by omega
       have r4 : j + 1 ≤ 9223372036854775807 := by omega
       repeat' first
         | exact trivial
         | (refine Pz.mk ?_; cbv)
         | (refine Br.yes (decide_eq_true c4) ?_; cbv)
         | (refine Br.yes (decide_eq_true c5) ?_; cbv)
         | (refine ag.by hP (o_ E p1 F hF v hv) ?_; cbv)
         | (refine ag.by hP (f_ F sF true okF.symm) ?_; cbv)
         | (refine Br.no (by first | with_reducible rfl | exact (rfl : (!true) = false)) ?_; cbv)
         | (refine Ar.exact (by exact r3) (by exact r4) ?_; cbv)
         | fail
       any_goals
         apply aJ.lj
         · cbv
           (try dsimp only)
           repeat' first | exact trivial | refine ⟨rfl, ?_⟩ | fail
         · (try dsimp only)
           exact ⟨⟨by omega, by omega⟩, sF, TF, by have := TF.now; omega⟩
         · (try dsimp only)
           omega
     · repeat' first
         | exact trivial
         | (refine Pz.mk ?_; cbv)
         | (refine Br.yes (decide_eq_true c4) ?_; cbv)
         | (refine Br.no (decide_eq_false c5) ?_; cbv)
         | fail
       have en : g.now + j = now := by omega
       have rows : ∀ (k : Int) c, 0 ≤ k → E.cabins[k.toNat]? = some c → c.row = cH g.rules g.ae k now := fun k c h0 hk => by
         have := TP.row hk;rw [en, show ((k.toNat : Nat) : Int) = k by omega] at this;exact this
       have Lm := TP.len
       have K4 : ∀ k : Int, 0 ≤ k → k.toNat < g.cabins.length → (dS g now k.toNat).length + (cH g.rules g.ae k now).length ≤ L.length ∧ (L.take ((dS g now k.toNat).length + (cH g.rules g.ae k now).length)).drop (dS g now k.toNat).length = cH g.rules g.ae k now ∧ (dS g now (k.toNat + 1)).length = (dS g now k.toNat).length + (cH g.rules g.ae k now).length := fun k h0 hk => by
         have := JF g now hk;rw [show ((k.toNat : Nat) : Int) = k by omega, ← eL] at this;exact this
       apply aT.nh (A := Int) (B := Int) (fun n k => [(3, pN 3), (5, oN 5), (7, iT fun _ => n), (8, iT fun _ => k)]) (fun n k => (3, .box (ke 10 E)) :: (5, .view .aD fun _ => L) :: kg 10 E) (fun n k => (0 ≤ k ∧ k.toNat ≤ g.cabins.length) ∧ n.toNat = (dS g now k.toNat).length ∧ 0 ≤ n) (fun n k _ => g.cabins.length - k.toNat)
       · cbv
         (try dsimp only)
         repeat' first | exact trivial | refine ⟨rfl, ?_⟩ | fail
       · exact ⟨⟨by omega, Nat.zero_le _⟩, rfl, by omega⟩
       rintro n k ⟨⟨s1, s2⟩, s3, s4⟩
       cbv;refine Br.dec (fun kI => ?_) (fun kI => ?_) <;> cbv
       · have Ak : k < (E.cabins.length : Int) := kI;have ga : k.toNat + 1 ≤ g.cabins.length ∧ (k + 1).toNat = k.toNat + 1 := by omega
         obtain ⟨c, zR⟩ : ∃ c, E.cabins[k.toNat]? = some c := ⟨_, List.getElem?_eq_getElem (by omega)⟩;have K5 := rows k c s1 zR;obtain ⟨w1, w2, w3⟩ := K4 k s1 ga.1;rw [← K5, ← s3] at w1 w2 w3;have gc : aO .cf (fun _ => E.cabins) (fun _ => k.toNat) () = c := kK rfl zR;have r5 : -9223372036854775808 ≤ n + ((aO .cf (fun _ => E.cabins) (fun _ => k.toNat) ()).row.length : Int) := by rw [gc]; omega
         have r6 : n + ((aO .cf (fun _ => E.cabins) (fun _ => k.toNat) ()).row.length : Int) ≤ 9223372036854775807 := by rw [gc]; omega
         have r7 : -9223372036854775808 ≤ k + 1 := by omega
         have r8 : k + 1 ≤ 9223372036854775807 := by omega
         have n1 : ¬ (L.length : Int) < n + ((aO .cf (fun _ => E.cabins) (fun _ => k.toNat) ()).row.length : Int) := by rw [gc]; omega
         have n2 : 0 ≤ n ∧ n ≤ n + ((aO .cf (fun _ => E.cabins) (fun _ => k.toNat) ()).row.length : Int) ∧ n + ((aO .cf (fun _ => E.cabins) (fun _ => k.toNat) ()).row.length : Int) ≤ (L.length : Int) := by rw [gc]; omega
         have sl : (aO .cf (fun _ => E.cabins) (fun _ => k.toNat) ()).row = (L.take (n + ((aO .cf (fun _ => E.cabins) (fun _ => k.toNat) ()).row.length : Int)).toNat).drop n.toNat := by
           rw [gc, show (n + (c.row.length : Int)).toNat = n.toNat + c.row.length by omega];exact w2.symm
         have t1 : (!decide ((aO .cf (fun _ => E.cabins) (fun _ => k.toNat) ()).row = (L.take (n + ((aO .cf (fun _ => E.cabins) (fun _ => k.toNat) ()).row.length : Int)).toNat).drop n.toNat)) = false := by rw [decide_eq_true sl]; rfl
         have nf : (n + ((aO .cf (fun _ => E.cabins) (fun _ => k.toNat) ()).row.length : Int)).toNat = (dS g now (k + 1).toNat).length ∧ 0 ≤ n + ((aO .cf (fun _ => E.cabins) (fun _ => k.toNat) ()).row.length : Int) := by
           rw [ga.2, w3, gc]; omega
         repeat' first
           | exact trivial
           | (refine Pz.mk ?_; cbv)
           | (refine Ob.mk ⟨s1, kI⟩ ?_; cbv)
           | (refine Ar.exact (by exact r5) (by exact r6) ?_; cbv)
           | (refine Br.no (decide_eq_false n1) ?_; cbv)
           | (refine Ob.mk n2 ?_; cbv)
           | (refine ag.by hP (Ed (aO .cf (fun _ => E.cabins) (fun _ => k.toNat) ()).row ((L.take (n + ((aO .cf (fun _ => E.cabins) (fun _ => k.toNat) ()).row.length : Int)).toNat).drop n.toNat)) ?_; cbv)
           | (refine Br.no t1 ?_; cbv)
           | (refine Ar.exact (by exact r7) (by exact r8) ?_; cbv)
           | fail
         any_goals
           apply aJ.lj
           · cbv
             (try dsimp only)
             repeat' first | exact trivial | refine ⟨rfl, ?_⟩ | refine ⟨Eb (E := .cf) (k := fun _ => k.toNat), ?_⟩ | fail
           · (try dsimp only)
             exact ⟨⟨by omega, by omega⟩, nf.1, nf.2⟩
           · (try dsimp only)
             rw [ga.2]; omega
       · have fin : (n == (L.length : Int)) = true := by
           have e : k.toNat = g.cabins.length := by
             have : ¬ k < (E.cabins.length : Int) := kI;omega
           rw [e, ← eL] at s3;have : n = (L.length : Int) := by omega
           rw [this]; simp
         repeat' first
           | (refine Pz.mk ?_; cbv)
           | exact ⟨fin, trivial⟩
           | fail
   · exfalso; omega
theorem K6 (code : List UInt8) : Spec Tryz.prog 7 [lA .byte code] (aE (bR fun _ => true)) := Spec.mr (K3 code)
end Go.Proofs.YtehpbaiclfilaaaGreat

