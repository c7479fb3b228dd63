/- Parts of a proof. No conditions. -/

import Derived.Test.YtehpbaiclfilaaaGreatG49
import Derived.Test.YtehpbaiclfilaaaGreatG50
import Derived.Test.YtehpbaiclfilaaaGreatG42
import Derived.Test.YtehpbaiclfilaaaGreatGWq
import Derived.Test.YtehpbaiclfilaaaGreatG34
set_option linter.unusedSimpArgs false
set_option linter.unusedVariables false
namespace Go.Proofs.YtehpbaiclfilaaaGreat
open Go
set_option maxRecDepth 100000
theorem yl (E : ai) : ∀ (a b : List Int), hY E (a ++ b) = hY E a + hY E b
 | [], b => by simp [hY]
 | d :: a, b => by rw [List.cons_append, hY, hY, yl E a b]; omega
theorem Ks (E : ai) {l : List Int} {n : Nat} (h : n < l.length) : hY E (l.take (n + 1)) = hY E (l.take n) + (ca E l[n]).siz := by
 rw [List.take_succ_eq_append_getElem h, yl, hY, hY]; omega
set_option maxHeartbeats 8000000 in
theorem Kt (code : List UInt8) : bE Tryz.prog 11 [.c (.own 0)] [(0, .view .byte fun _ => code)] (dP (bR fun _ => true) []) := by
 refine fF ay Tryz.func11 rfl rfl (fr := true) (fun _ => by kernel_rfl) rfl rfl fun P hP hA hB => ?_;cbv;refine ag.by hP (mD code) ?_;cbv;refine Br.dec (fun h0 => ?_) (fun h0 => ?_) <;> cbv
 · repeat' first | exact trivial | refine ⟨rfl, ?_⟩ | fail
 have hc := mB h0;refine aB.ex hP (Ea code hc) fun ⟨g, cf⟩ hg => ?_;cbv;have hs : bh g := (show cJ g from hg).1;obtain ⟨F, hF⟩ : ∃ F, F = fI g cf := ⟨_, rfl⟩;obtain ⟨L, hL⟩ : ∃ L, L = bX g cf := ⟨_, rfl⟩;obtain ⟨b, hb⟩ : ∃ b, b = aW g := ⟨_, rfl⟩;have mI : bh F := by rw [hF]; exact oD hs cf
 refine ag.by hP (wm g cf hs F hF) ?_;cbv;refine ag.by hP (nG g cf hs L hL) ?_;cbv;refine ag.by hP (EC g cf hs L hL) ?_;cbv;refine ag.by hP (qv L L) ?_;cbv;refine Br.split (fun k1 => ?_) (fun k1 => ?_) <;> cbv
 · have k1 : (!decide (L = L)) = true := k1;simp at k1
 refine ag.by hP (f_ g hs b hb) ?_;cbv;have hlen : cC g cf = false → (((L.length : Nat) : Int) == 0) = true := fun hn => by rw [hL, nH hn]; rfl
 cases ek : aW g with
 | false =>
   have g1 : (!b) = true := by rw [hb, ek]; rfl
   have hn : cC g cf = false := by rw [cC, ek]; rfl
   repeat' first
     | exact trivial
     | (refine Pz.mk ?_; cbv)
     | (refine Br.yes g1 ?_; cbv)
     | refine ⟨hlen hn, ?_⟩
     | fail
 | true =>
   have g1 : (!b) = false := by rw [hb, ek]; rfl
   by_cases oR : cf < 0
   · have hn : cC g cf = false := by
       rw [cC, ek, Bool.true_and, aj, decide_eq_false (by omega), Bool.false_and]
     repeat' first
       | exact trivial
       | (refine Pz.mk ?_; cbv)
       | (refine Br.no g1 ?_; cbv)
       | (refine Br.yes (decide_eq_true oR) ?_; cbv)
       | refine ⟨hlen hn, ?_⟩
       | fail
   by_cases mU : (g.cabins.length : Int) ≤ cf
   · have hn : cC g cf = false := by
       rw [cC, ek, Bool.true_and, aj, decide_eq_false (p := cf ≤ _) (by omega), Bool.and_false]
     repeat' first
       | exact trivial
       | (refine Pz.mk ?_; cbv)
       | (refine Br.no g1 ?_; cbv)
       | (refine Br.no (decide_eq_false oR) ?_; cbv)
       | (refine Br.yes (decide_eq_true mU) ?_; cbv)
       | refine ⟨hlen hn, ?_⟩
       | fail
   obtain ⟨n, rfl⟩ : ∃ n : Nat, cf = n := ⟨cf.toNat, by omega⟩;have hn : n < g.cabins.length := by omega
   have hG := cI.1 ek;have oc : 0 ≤ (n : Int) ∧ (n : Int) < (g.cabins.length : Int) := by omega
   obtain ⟨c0, cO⟩ : ∃ c0, g.cabins[n]? = some c0 := ⟨_, List.getElem?_eq_getElem hn⟩;have iM : aO .cf (fun _ => g.cabins) (fun _ => ((n : Nat) : Int).toNat) () = c0 := kK (Int.toNat_natCast n) cO;have I := sM hG hn;rw [← hF] at I;have okF : aW F = true := cI.2 I.hg;obtain ⟨c1, gy, dY, _⟩ := (AW hG hn).cf n c0 cO;rw [← hF] at gy;have dY := dY rfl;rw [← hL] at dY;have ug : aO .cf (fun _ => F.cabins) (fun _ => ((n : Nat) : Int).toNat) () = c1 := kK (Int.toNat_natCast n) gy;have oF : 0 ≤ (n : Int) ∧ (n : Int) < (F.cabins.length : Int) := by have := bq gy; omega
   have KO : bX F (n : Int) = [] := by rw [hF]; exact Lw hG hn
   have K8 : L.length ≤ 10 := by rw [hL]; exact wk g _
   have tries := (dO hG.rules).tries
   have due : ∀ d ∈ L, ∃ (m : Nat) (y : au), g.ae[m]? = some y ∧ aP g.ae d = (m : Int) ∧ ca g d = y ∧ (decide (aP F.ae d < 0) = (y.asked == g.rules.tries - 1)) ∧ (1 ≤ y.siz ∧ y.siz ≤ 6) := fun d hd => by
     rw [hL] at hd;obtain ⟨y, hy, e, _⟩ := (uc hG cO).1 hd;obtain ⟨m, hm, h3, h4⟩ := sI (iG hG.ae) hy;have ep := (ub hG hy).2;rw [e] at ep h3;have yk := Jz hG hn hd;rw [← hF, ep] at yk;have h1 := (iB (hG.ae.ok y hy).1).siz;have h2 := (dO hG.rules).size;exact ⟨m, y, by rw [List.getElem?_eq_getElem hm, h4], h3, ep, yk, by omega⟩
   have ld := hG.eD cO
   repeat' first
     | exact trivial
     | (refine Pz.mk ?_; cbv)
     | (refine Br.no g1 ?_; cbv)
     | (refine Br.no (decide_eq_false oR) ?_; cbv)
     | (refine Br.no (decide_eq_false mU) ?_; cbv)
     | (refine Ob.mk oc ?_; cbv)
     | fail
   apply aT.nh (A := Int) (B := Int) (fun f j => [(3, pN 3), (4, nT fun _ => n), (5, pN 5), (6, oN 6), (7, iT fun _ => f), (8, iT fun _ => j)]) (fun f j => (3, .box (ke 10 g)) :: (5, .box (ke 15 F)) :: (6, aQ .int fun _ => L) :: (kg 10 g ++ kg 15 F)) (fun f j => (0 ≤ j ∧ j.toNat ≤ L.length) ∧ f = c0.ah.free + hY g (L.take j.toNat) ∧ (0 ≤ f ∧ f ≤ 60 + 6 * j)) (fun f j _ => L.length - j.toNat)
   · cbv
     (try dsimp only)
     repeat' first | exact trivial | refine ⟨rfl, ?_⟩ | fail
   · refine ⟨⟨by omega, Nat.zero_le _⟩, ?_, ?_⟩
     · exact (congrArg (fun c : a_ => c.ah.free) iM).trans (by show c0.ah.free = c0.ah.free + 0; omega)
     · have : (aO .cf (fun _ => g.cabins) (fun _ => ((n : Nat) : Int).toNat) ()).ah.free = c0.ah.free := congrArg (fun c : a_ => c.ah.free) iM;exact ⟨by rw [this]; omega, by rw [this]; omega⟩
   rintro f j ⟨⟨q1, q2⟩, q3, q4⟩
   cbv;refine Br.dec (fun nu => ?_) (fun nu => ?_) <;> cbv
   · have dC : j < (L.length : Int) := nu;have cu : j.toNat + 1 ≤ L.length ∧ (j + 1).toNat = j.toNat + 1 := by omega
     obtain ⟨d, hd⟩ : ∃ d, d = aO .int (fun _ => L) (fun _ => j.toNat) () := ⟨_, rfl⟩
     have uI : d = L[j.toNat] := by
       rw [hd]; exact kK rfl (List.getElem?_eq_getElem cu.1)
     obtain ⟨m, y, w1, w2, w3, w4, w5⟩ := due d (by rw [uI]; exact List.getElem_mem _);have om : 0 ≤ (m : Int) ∧ (m : Int) < (g.ae.length : Int) := by have := bq w1; omega
     have gp : aO .az (fun _ => g.ae) (fun _ => ((m : Nat) : Int).toNat) () = y := kK (Int.toNat_natCast m) w1;have r1 : -9223372036854775808 ≤ j + 1 := by omega
     have r2 : j + 1 ≤ 9223372036854775807 := by omega
     obtain ⟨k, jS⟩ : ∃ k, k = aP F.ae d := ⟨_, rfl⟩;rw [← jS] at w4;have r3 : -9223372036854775808 ≤ f + (aO .az (fun _ => g.ae) (fun _ => ((m : Nat) : Int).toNat) ()).siz := by rw [gp]; omega
     have r4 : f + (aO .az (fun _ => g.ae) (fun _ => ((m : Nat) : Int).toNat) ()).siz ≤ 9223372036854775807 := by rw [gp]; omega
     have r5 : -9223372036854775808 ≤ g.rules.tries - 1 := by omega
     have r6 : g.rules.tries - 1 ≤ 9223372036854775807 := by omega
     have t1 : (decide (k < 0) != ((aO .az (fun _ => g.ae) (fun _ => ((m : Nat) : Int).toNat) ()).asked == g.rules.tries - 1)) = false := by rw [gp, w4]; simp
     have nf : f + (aO .az (fun _ => g.ae) (fun _ => ((m : Nat) : Int).toNat) ()).siz = c0.ah.free + hY g (L.take (j + 1).toNat) := by
       rw [gp, cu.2, Ks g cu.1, q3, ← uI, w3]; omega
     have nb : 0 ≤ f + (aO .az (fun _ => g.ae) (fun _ => ((m : Nat) : Int).toNat) ()).siz ∧ f + (aO .az (fun _ => g.ae) (fun _ => ((m : Nat) : Int).toNat) ()).siz ≤ 60 + 6 * (j + 1) := by rw [gp]; omega
     apply gx
     · intro hk
       repeat' first
         | exact trivial
         | (refine Ob.mk (⟨q1, nu⟩) ?_; cbv)
         | (refine Ob.mk (om) ?_; cbv)
         | (refine ag.qi hP (oP g d (m : Int) w2.symm) (by rw [hd]; rfl) ?_; cbv)
         | (refine Pz.mk ?_; cbv) | (refine bu.mk ?_ (by kernel_rfl) ?_; rotate_left; cbv; rotate_right) | refine ⟨rfl, ?_⟩ | refine And.intro ?_ ?_ | exact rfl | fail
       all_goals exact hk
     refine Ar.exact (by exact r3) (by exact r4) ?_;cbv;apply gx
     · intro hk
       repeat' first
         | exact trivial
         | (refine Ob.mk (⟨q1, nu⟩) ?_; cbv)
         | (refine ag.qi hP (jC F d k jS) (by rw [hd]; rfl) ?_; cbv)
         | (refine Pz.mk ?_; cbv) | (refine bu.mk ?_ (by kernel_rfl) ?_; rotate_left; cbv; rotate_right) | refine ⟨rfl, ?_⟩ | refine And.intro ?_ ?_ | exact rfl | fail
       all_goals exact hk
     repeat' first
       | exact trivial
       | (refine Pz.mk ?_; cbv)
       | (refine Ar.exact (by exact r5) (by exact r6) ?_; cbv)
       | (refine Br.no t1 ?_; cbv)
       | (refine Ar.exact (by exact r1) (by exact r2) ?_; cbv)
       | fail
     any_goals
       apply aJ.lj
       · cbv
         (try dsimp only)
         repeat' first | exact trivial | refine ⟨rfl, ?_⟩ | fail
       · (try dsimp only)
         exact ⟨⟨by omega, by omega⟩, nf, nb⟩
       · (try dsimp only)
         rw [cu.2]; omega
   · have dC : ¬ j < (L.length : Int) := nu;have e : j.toNat = L.length := by omega
     rw [e, List.take_length] at q3;have t1 : ((aO .cf (fun _ => F.cabins) (fun _ => ((n : Nat) : Int).toNat) ()).ah.free == f) = true := by rw [ug, dY, q3]; simp
     repeat' first
       | exact trivial
       | (refine Pz.mk ?_; cbv)
       | (refine ag.by hP (f_ F mI true okF.symm) ?_; cbv)
       | (refine Br.yes (by with_reducible rfl) ?_; cbv)
       | (refine Ob.mk oF ?_; cbv)
       | (refine Br.yes t1 ?_; cbv)
       | (refine ag.by hP (nG F (n : Int) mI [] KO.symm) ?_; cbv)
       | refine ⟨rfl, ?_⟩
       | fail
theorem KP (code : List UInt8) : Spec Tryz.prog 11 [lA .byte code] (aE (bR fun _ => true)) := Spec.mr (Kt code)
end Go.Proofs.YtehpbaiclfilaaaGreat

