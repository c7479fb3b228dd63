/- Parts of a proof. No conditions. -/

import Derived.Test.YtehpbaiclfilaaaGreatG49
import Derived.Test.YtehpbaiclfilaaaGreatG50
import Derived.Test.YtehpbaiclfilaaaGreatG42
import Derived.Test.YtehpbaiclfilaaaGreatG14
set_option linter.unusedSimpArgs false
set_option linter.unusedVariables false
namespace Go.Proofs.YtehpbaiclfilaaaGreat
open Go
set_option maxRecDepth 100000
set_option maxHeartbeats 8000000 in
theorem LR (code : List UInt8) : bE Tryz.prog 3 [.c (.own 0)] [(0, .view .byte fun _ => code)] (dP (bR fun _ => true) []) := by
 refine fF ay Tryz.func3 rfl rfl (fr := true) (fun _ => by kernel_rfl) rfl rfl fun P hP hA hB => ?_;cbv
 repeat (refine Pz.mk ?_; cbv)
 refine ag.by hP (mD code) ?_;cbv
 repeat (refine Pz.mk ?_; cbv)
 refine Br.dec (fun h0 => ?_) (fun h0 => ?_) <;> (cbv; repeat (refine Pz.mk ?_; cbv))
 · repeat' first | exact trivial | refine ⟨rfl, ?_⟩ | fail
 have hc := mB h0;refine aB.ex hP (Kl code hc) fun ⟨g, id⟩ hg => ?_;cbv
 repeat (refine Pz.mk ?_; cbv)
 have hs : bh g := (show cJ g from hg).1;obtain ⟨s, hS⟩ : ∃ s, s = kj g id := ⟨_, rfl⟩;obtain ⟨b, hb⟩ : ∃ b, b = fv g id := ⟨_, rfl⟩;obtain ⟨o, ho⟩ : ∃ o, o = e_ g id := ⟨_, rfl⟩;obtain ⟨aF, hp⟩ : ∃ p, p = nq g id := ⟨_, rfl⟩;refine ag.by hP (EZ g id hs s hS b hb) ?_;cbv
 repeat (refine Pz.mk ?_; cbv)
 refine ag.by hP (EY g id hs s hS b hb) ?_;cbv
 repeat (refine Pz.mk ?_; cbv)
 refine Br.split (fun k1 => ?_) (fun k1 => ?_) <;> (cbv; repeat (refine Pz.mk ?_; cbv))
 · have k1 : (b != b) = true := k1;simp at k1
 cases hk : fv g id with
 | false =>
   have g1 : (!b) = true := by rw [hb, hk]; rfl
   have e : s = default := by rw [hS, LJ hk]
   repeat' first
     | exact trivial
     | (refine Pz.mk ?_; cbv)
     | (refine Br.yes g1 ?_; cbv)
     | fail
   refine ⟨?_, trivial⟩;rw [e]; rfl
 | true =>
   have g1 : (!b) = false := by rw [hb, hk]; rfl
   repeat' first
     | exact trivial
     | (refine Pz.mk ?_; cbv)
     | (refine Br.no g1 ?_; cbv)
     | (refine ag.by hP (ym g id hs aF hp o ho) ?_; cbv)
     | fail
   obtain ⟨A0, z, hz, ez, ep⟩ := xF hk;have Fa := bB A0.now;cases od : e_ g id with
   | true =>
     obtain ⟨a1, a2, a3⟩ := LK od;rw [← hS] at a1 a2 a3;rw [← hp] at a3;have hu : aF.tm = z.bW := by rw [hp, nq, if_pos od, ep]
     have QR := vU (A0.ae.ok z hz).1;have g2 : o = true := ho.trans od;have g3 : (s.st == 2) = true := by rw [a1]; rfl
     have g4 : (s.place == -1) = true := by rw [a2]; rfl
     have r1 : -9223372036854775808 ≤ aF.tm - g.now := by omega
     have r2 : aF.tm - g.now ≤ 9223372036854775807 := by omega
     by_cases e5 : s.left = aF.tm - g.now
     · have g5 : (s.left == aF.tm - g.now) = true := by rw [e5]; simp
       repeat' first
        | exact trivial
        | (refine Pz.mk ?_; cbv)
        | (refine Br.yes g2 ?_; cbv)
        | (refine Br.yes g3 ?_; cbv)
        | (refine Br.yes g4 ?_; cbv)
        | (refine Ar.exact (by exact r1) (by exact r2) ?_; cbv)
        | (refine Br.yes g5 ?_; cbv)
        | refine ⟨rfl, ?_⟩
        | fail
     · have g5 : (s.left == aF.tm - g.now) = false := by simpa using e5
       have a4 := a3.resolve_left e5;have g6 : (s.left == 0) = true := by rw [a4.1]; rfl
       repeat' first
        | exact trivial
        | (refine Pz.mk ?_; cbv)
        | (refine Br.yes g2 ?_; cbv)
        | (refine Br.yes g3 ?_; cbv)
        | (refine Br.yes g4 ?_; cbv)
        | (refine Ar.exact (by exact r1) (by exact r2) ?_; cbv)
        | (refine Br.no g5 ?_; cbv)
        | (refine Br.yes g6 ?_; cbv)
        | (refine Br.yes (decide_eq_true a4.2) ?_; cbv)
        | refine ⟨decide_eq_true a4.2, ?_⟩
        | fail
   | false =>
     obtain ⟨b1, k, n, c, e, b2, b3, b4, b5, b6, b7⟩ := LL hk od;rw [← hS] at b1 b2 b3 b7;have g2 : o = false := ho.trans od;have tg := bq b4;have vj := bq b5;have o1 : 0 ≤ s.cab ∧ s.cab < (g.cabins.length : Int) := by omega
     have g3 : (s.st == 1) = true := by rw [b1]; rfl
     have g4 : 0 ≤ s.place := by omega
     have gc : aO .cab (fun _ => g.cabins) (fun _ => s.cab.toNat) () = c := kK (by show s.cab.toNat = k; omega) b4;have g5 : s.place < (((aO .cab (fun _ => g.cabins) (fun _ => s.cab.toNat) ()).row.length : Nat) : Int) := by rw [gc]; omega
     have ge : aO .aD (fun _ => (aO .cab (fun _ => g.cabins) (fun _ => s.cab.toNat) ()).row) (fun _ => s.place.toNat) () = e := kK (by show s.place.toNat = n; omega) (by rw [gc]; exact b5);have g6 : ((aO .aD (fun _ => (aO .cab (fun _ => g.cabins) (fun _ => s.cab.toNat) ()).row) (fun _ => s.place.toNat) ()).bg == id) = true := by rw [ge, b6]; simp
     have g7 : ((aO .aD (fun _ => (aO .cab (fun _ => g.cabins) (fun _ => s.cab.toNat) ()).row) (fun _ => s.place.toNat) ()).lvl == s.lvl) = true := by rw [ge, b7]; simp
     repeat' first
       | exact trivial
       | (refine Pz.mk ?_; cbv)
       | (refine Br.no g2 ?_; cbv)
       | (refine Ob.mk o1 ?_; cbv)
       | (refine Br.yes g3 ?_; cbv)
       | (refine Br.yes (decide_eq_true g4) ?_; cbv)
       | (refine Br.yes (decide_eq_true g5) ?_; cbv)
       | (refine Ob.mk ⟨g4, g5⟩ ?_; cbv)
       | (refine Br.yes g6 ?_; cbv)
       | exact ⟨g7, trivial⟩
       | fail
theorem LS (code : List UInt8) : Spec Tryz.prog 3 [lA .byte code] (aE (bR fun _ => true)) := Spec.mr (LR code)
end Go.Proofs.YtehpbaiclfilaaaGreat

