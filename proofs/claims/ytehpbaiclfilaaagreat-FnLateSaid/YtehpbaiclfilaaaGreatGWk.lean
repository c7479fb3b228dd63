/- Parts of a proof. No conditions. -/

import Derived.Test.YtehpbaiclfilaaaGreatG49
import Derived.Test.YtehpbaiclfilaaaGreatG50
import Derived.Test.YtehpbaiclfilaaaGreatG41
import Derived.Test.YtehpbaiclfilaaaGreatG42
import Derived.Test.YtehpbaiclfilaaaGreatG43
import Derived.Test.YtehpbaiclfilaaaGreatG22
import Derived.Test.YtehpbaiclfilaaaGreatG35
set_option linter.unusedSimpArgs false
set_option linter.unusedVariables false
namespace Go.Proofs.YtehpbaiclfilaaaGreat
open Go
set_option maxRecDepth 100000
set_option maxHeartbeats 8000000 in
theorem Kn (code : List UInt8) : bE Tryz.prog 5 [.c (.own 0)] [(0, .view .byte fun _ => code)] (dP (bR fun _ => true) []) := by
 refine fF ay Tryz.func5 rfl rfl (fr := true) (fun _ => by kernel_rfl) rfl rfl fun P hP hA hB => ?_;cbv;refine ag.by hP (mD code) ?_;cbv;refine Br.dec (fun h0 => ?_) (fun h0 => ?_) <;> cbv
 · repeat' first | exact trivial | refine ⟨rfl, ?_⟩ | fail
 have hc := mB h0;refine aB.ex hP (qu code hc) fun g hg => ?_;cbv;have hg : cJ g := hg;have hs : bh g := hg.1;obtain ⟨T, hT⟩ : ∃ T, T = gw g := ⟨_, rfl⟩;obtain ⟨v, hv⟩ : ∃ v, v = bM g lu := ⟨_, rfl⟩;have fJ : bh T := by rw [hT]; exact pd hs
 refine ag.by hP (o_ g hs T hT v hv) ?_;cbv;refine ag.by hP (vK g lu hs v hv) ?_;cbv;refine Br.split (fun k1 => ?_) (fun k1 => ?_) <;> cbv
 · have k1 : (v != v) = true := k1;simp at k1
 have tL : T.cabins.length = g.cabins.length := by rw [hT]; exact Ll g
 have xU : g.cabins.length ≤ 1048576 := hs.2.2.1.1;apply aT.kj (A := Int) (fun j => [(3, pN 3), (4, pN 4), (5, iT fun _ => v), (6, iT fun _ => j)]) (fun j => (3, .box (ke 5 g)) :: (4, .box (ke 10 T)) :: (kg 5 g ++ kg 10 T)) (fun j => 0 ≤ j ∧ j.toNat ≤ g.cabins.length) (fun j _ => g.cabins.length - j.toNat)
 · cbv
   repeat' first | exact trivial | refine ⟨rfl, ?_⟩ | fail
 · exact ⟨by omega, Nat.zero_le _⟩
 rintro j ⟨q1, q2⟩
 cbv;have pQ : j.toNat < g.cabins.length → j = ((j.toNat : Nat) : Int) := fun _ => by omega
 refine Br.dec (fun hb => ?_) (fun hb => ?_) <;> cbv
 · have dC : j < (g.cabins.length : Int) := hb;have cu : j.toNat + 1 ≤ g.cabins.length ∧ (j + 1).toNat = j.toNat + 1 := by omega
   have ej : j = ((j.toNat : Nat) : Int) := by omega
   have r1 : -9223372036854775808 ≤ j + 1 := by omega
   have r2 : j + 1 ≤ 9223372036854775807 := by omega
   by_cases fb : v = 0
   · have th : (v == 0) = true := by rw [fb]; rfl
     have tt := Jy g cu.1 (hv ▸ fb);rw [← hT, ← ej] at tt;obtain ⟨x1, jb⟩ : ∃ x, x = hasB T.todo j := ⟨_, rfl⟩;obtain ⟨x2, oJ⟩ : ∃ x, x = hasB g.todo j := ⟨_, rfl⟩;rw [← jb, ← oJ] at tt
     repeat' first
       | exact trivial
       | (refine Pz.mk ?_; cbv)
       | (refine Br.yes th ?_; cbv)
       | (refine ag.by hP (tO T.todo j fJ.2.2.2.1 x1 jb) ?_; cbv)
       | (refine ag.by hP (tO g.todo j hs.2.2.2.1 x2 oJ) ?_; cbv)
       | (refine ag.by hP (xu g.ae j hs.2.1) ?_; cbv)
       | (refine Ar.exact r1 r2 ?_; cbv)
       | fail
     cases hq : x2 with
     | true =>
       rw [hq] at tt
       repeat' first
        | exact trivial
        | (refine Pz.mk ?_; cbv)
        | (refine Br.yes (by with_reducible rfl) ?_; cbv)
        | (refine Br.no (by show (x1 != true) = false; rw [tt]; rfl) ?_; cbv)
        | (refine Ar.exact (by exact r1) (by exact r2) ?_; cbv)
        | fail
       any_goals
        apply aJ.kH
        · cbv
          (try dsimp only)
          repeat' first | exact trivial | refine ⟨rfl, ?_⟩ | fail
        · (try dsimp only)
          exact ⟨by omega, by rw [cu.2]; exact cu.1⟩
        · (try dsimp only)
          rw [cu.2]; omega
     | false =>
       rw [hq] at tt
       repeat' first
        | exact trivial
        | (refine Pz.mk ?_; cbv)
        | (refine Br.no (by with_reducible rfl) ?_; cbv)
        | (refine ag.by hP (xu g.ae j hs.2.1) ?_; cbv)
        | (refine Br.no (by show (x1 != decide (0 < ((aV (bx j) g.ae : Nat) : Int))) = false; rw [tt]; simp [ja]) ?_; cbv)
        | (refine Ar.exact (by exact r1) (by exact r2) ?_; cbv)
        | fail
       any_goals
        apply aJ.kH
        · cbv
          (try dsimp only)
          repeat' first | exact trivial | refine ⟨rfl, ?_⟩ | fail
        · (try dsimp only)
          exact ⟨by omega, by rw [cu.2]; exact cu.1⟩
        · (try dsimp only)
          rw [cu.2]; omega
   · have th : (v == 0) = false := by simpa using fb
     have lN : (v != 0) = true := by simpa using fb
     repeat' first
       | exact trivial
       | (refine Pz.mk ?_; cbv)
       | (refine Br.no th ?_; cbv)
       | (refine Br.yes lN ?_; cbv)
       | refine ⟨rfl, ?_⟩
       | fail
 · have fin : (((T.cabins.length : Nat) : Int) == (g.cabins.length : Int)) = true := by rw [tL]; simp
   by_cases fb : v = 0
   · have lN : (v != 0) = false := by rw [fb]; rfl
     repeat' first
       | exact trivial
       | (refine Pz.mk ?_; cbv)
       | (refine Br.no lN ?_; cbv)
       | exact ⟨fin, trivial⟩
       | fail
   · have lN : (v != 0) = true := by simpa using fb
     repeat' first
       | exact trivial
       | (refine Pz.mk ?_; cbv)
       | (refine Br.yes lN ?_; cbv)
       | refine ⟨rfl, ?_⟩
       | fail
theorem Ko (x : ai) (hs : bh x) : (jm x).length ≤ 1048576 := by
 unfold jm
 split
 · exact Nat.le_trans (lU _ _) hs.2.1
 · exact Nat.zero_le _
set_option maxHeartbeats 8000000 in
theorem Kp (code : List UInt8) : bE Tryz.prog 12 [.c (.own 0)] [(0, .view .byte fun _ => code)] (dP (bR fun _ => true) []) := by
 refine fF ay Tryz.func12 rfl rfl (fr := true) (fun _ => by kernel_rfl) rfl rfl fun P hP hA hB => ?_;cbv;refine ag.by hP (mD code) ?_;cbv;refine Br.dec (fun h0 => ?_) (fun h0 => ?_) <;> cbv
 · repeat' first | exact trivial | refine ⟨rfl, ?_⟩ | fail
 have hc := mB h0;refine aB.ex hP (A3 code hc) fun g hg => ?_;cbv;have hg : cJ g := hg;have hs : bh g := hg.1;obtain ⟨L, hL⟩ : ∃ L, L = jm g := ⟨_, rfl⟩;have xF : L.length ≤ 1048576 := by rw [hL]; exact Ko g hs
 refine ag.by hP (m1 g hs L hL) ?_;cbv;refine ag.by hP (Af g hs L hL) ?_;cbv;refine ag.by hP (qv L L) ?_;cbv;refine Br.split (fun k1 => ?_) (fun k1 => ?_) <;> cbv
 · have k1 : (!decide (L = L)) = true := k1;simp at k1
 apply aT.kj (A := Int) (fun j => [(3, pN 3), (4, oN 4), (5, iT fun _ => j)]) (fun j => (3, .box (ke 5 g)) :: (4, aQ .int fun _ => L) :: kg 5 g) (fun j => 0 ≤ j ∧ j.toNat ≤ L.length) (fun j _ => L.length - j.toNat)
 · cbv
   repeat' first | exact trivial | refine ⟨rfl, ?_⟩ | fail
 · exact ⟨by omega, Nat.zero_le _⟩
 rintro j ⟨q1, q2⟩
 cbv;refine Br.dec (fun hb => ?_) (fun hb => ?_) <;> cbv
 · have dC : j < (L.length : Int) := hb;have cu : j.toNat + 1 ≤ L.length ∧ (j + 1).toNat = j.toNat + 1 := by omega
   have hm : aO .int (fun _ => L) (fun _ => j.toNat) () ∈ L := m2 cu.1;have mT : placeOf g (aO .int (fun _ => L) (fun _ => j.toNat) ()) = -1 := JC (by rw [← hL]; exact hm);have r1 : -9223372036854775808 ≤ j + 1 := by omega
   have r2 : j + 1 ≤ 9223372036854775807 := by omega
   repeat' first
     | exact trivial
     | (refine Pz.mk ?_; cbv)
     | (refine Ob.mk ⟨q1, hb⟩ ?_; cbv)
     | (refine ag.qi hP (se g (aO .int (fun _ => L) (fun _ => j.toNat) ()) hs (-1) mT.symm) rfl ?_; cbv)
     | (refine Br.no (by decide) ?_; cbv)
     | (refine Ar.exact r1 r2 ?_; cbv)
     | fail
   any_goals
     apply aJ.kH
     · cbv
       (try dsimp only)
       repeat' first | exact trivial | refine ⟨rfl, ?_⟩ | fail
     · (try dsimp only)
       exact ⟨by omega, by rw [cu.2]; exact cu.1⟩
     · (try dsimp only)
       rw [cu.2]; omega
 have Ft : g.cabins.length ≤ 1048576 := hs.2.2.1.1;apply aT.nh (A := ai) (B := Int) (fun E j => [(3, pN 3), (6, iT fun _ => j)]) (fun E j => (3, .box (ke 5 E)) :: kg 5 E) (fun E j => bh E ∧ 0 ≤ j ∧ (aW E = true → mN E j.toNat ∧ j.toNat ≤ E.cabins.length)) (fun E j _ => E.cabins.length - j.toNat)
 · cbv
   repeat' first | exact trivial | refine ⟨rfl, ?_⟩ | fail
 · exact ⟨hs, by omega, fun hb => ⟨mN.zero (cI.1 hb), Nat.zero_le _⟩⟩
 rintro E m ⟨p1, p2, p3⟩
 cbv;have xG : jm E = [] → (((jm E).length : Int) == 0) = true := fun h => by rw [h]; rfl
 refine Br.dec (fun h1 => ?_) (fun h1 => ?_) <;> cbv
 · have qz : m < (E.cabins.length : Int) := h1;obtain ⟨n, rfl⟩ : ∃ n : Nat, m = n := ⟨m.toNat, by omega⟩;have hn : n < E.cabins.length := by omega
   cases hb : aW E with
   | true =>
     have xW := cI.1 hb;obtain ⟨F, hF⟩ : ∃ F, F = (jc E (n : Int)).1 := ⟨_, rfl⟩;obtain ⟨y, hy⟩ : ∃ y, y = (jc E (n : Int)).2 := ⟨_, rfl⟩;have mI : bh F := by rw [hF]; exact (EY p1 _).1
     have xX : F.cabins.length = E.cabins.length := by rw [hF]; exact (E9 xW hn).1
     have L1 : mN F (n + 1) := by
       rw [hF]; exact mN.step xW hn (by have := (p3 hb).1; rwa [Int.toNat_natCast] at this)
     have xY : ((n : Int) + 1).toNat = n + 1 := by omega
     have r1 : -9223372036854775808 ≤ (n : Int) + 1 := by omega
     have fh : E.cabins.length ≤ 1048576 := p1.2.2.1.1;have r2 : (n : Int) + 1 ≤ 9223372036854775807 := by omega
     refine ag.by hP (f_ E p1 true hb.symm) ?_;cbv
     repeat' first
       | (refine Pz.mk ?_; cbv)
       | (refine Br.yes (by with_reducible rfl) ?_; cbv)
       | (refine ag.by hP (Kl E (n : Int) p1 F hF y hy) ?_; cbv)
       | (refine Ar.exact (by exact r1) (by exact r2) ?_; cbv)
       | fail
     any_goals
       apply aJ.lj
       · cbv
         (try dsimp only)
         repeat' first | exact trivial | refine ⟨rfl, ?_⟩ | fail
       · (try dsimp only)
         exact ⟨mI, by omega, fun _ => by rw [xY, xX]; exact ⟨L1, hn⟩⟩
       · (try dsimp only)
         rw [xX, xY, Int.toNat_natCast]; omega
   | false =>
     have hl : jm E = [] := by rw [jm, if_neg (by rw [hb]; simp)]
     refine ag.by hP (f_ E p1 false hb.symm) ?_;cbv
     repeat' first
       | (refine Pz.mk ?_; cbv)
       | (refine Br.no (by with_reducible rfl) ?_; cbv)
       | (refine ag.by hP (m1 E p1 (jm E) rfl) ?_; cbv)
       | fail
     exact ⟨xG hl, trivial⟩
 · have qz : ¬ m < (E.cabins.length : Int) := h1
   have hl : jm E = [] := by
     cases hb : aW E with
     | false => rw [jm, if_neg (by rw [hb]; simp)]
     | true =>
       obtain ⟨L1, L2⟩ := p3 hb;have e : m.toNat = E.cabins.length := by omega
       rw [e] at L1;exact mN.all (cI.1 hb) L1
   repeat' first
     | (refine Pz.mk ?_; cbv)
     | (refine ag.by hP (m1 E p1 (jm E) rfl) ?_; cbv)
     | fail
   exact ⟨xG hl, trivial⟩
theorem Kq (code : List UInt8) : Spec Tryz.prog 5 [lA .byte code] (aE (bR fun _ => true)) := Spec.mr (Kn code)
theorem Kr (code : List UInt8) : Spec Tryz.prog 12 [lA .byte code] (aE (bR fun _ => true)) := Spec.mr (Kp code)
end Go.Proofs.YtehpbaiclfilaaaGreat

