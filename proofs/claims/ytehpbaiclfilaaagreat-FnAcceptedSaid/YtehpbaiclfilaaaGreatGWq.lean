/- Parts of a proof. No conditions. -/

import Derived.Test.YtehpbaiclfilaaaGreatG49
import Derived.Test.YtehpbaiclfilaaaGreatG50
import Derived.Test.YtehpbaiclfilaaaGreatG41
import Derived.Test.YtehpbaiclfilaaaGreatG29
set_option linter.unusedSimpArgs false
set_option linter.unusedVariables false
namespace Go.Proofs.YtehpbaiclfilaaaGreat
open Go
set_option maxRecDepth 100000
def LZ (p : au) : List C := [.lf (.int .i64 fun _ => p.id), .lf (.int .i64 fun _ => p.cab), .lf (.int .i64 fun _ => p.al), .lf (.int .i64 fun _ => p.siz), .lf (.int .i64 fun _ => p.aK), .lf (.int .i64 fun _ => p.since), .lf (.int .i64 fun _ => p.aw), .lf (.int .i64 fun _ => p.st), .lf (.int .i64 fun _ => p.bW), .lf (.int .i64 fun _ => p.asked)]
def sa (a b : bA) : Bool := a.total == b.total && (a.free == b.free && (a.held == b.held && (a.aU == b.aU && (a.tied == b.tied && true))))
theorem xG (a : bA) : sa a a = true := by simp [sa]
set_option maxHeartbeats 8000000 in
theorem L5 (code : List UInt8) : bE Tryz.prog 10 [.c (.own 0)] [(0, .view .byte fun _ => code)] (dP (bR fun _ => true) []) := by
 refine fF ay Tryz.func10 rfl rfl (fr := true) (fun _ => by kernel_rfl) rfl rfl fun P hP hA hB => ?_;cbv;refine ag.by hP (mD code) ?_;cbv;refine Br.dec (fun h0 => ?_) (fun h0 => ?_) <;> cbv
 · repeat' first | exact trivial | refine ⟨rfl, ?_⟩ | fail
 have hc := mB h0;refine aB.ex hP (z8 code hc) fun ⟨g, id⟩ hg => ?_;cbv;have hs : bh g := (show cJ g from hg).1;obtain ⟨D, hD⟩ : ∃ D, D = lU g id := ⟨_, rfl⟩;obtain ⟨v, hv⟩ : ∃ v, v = bM g (fJ id) := ⟨_, rfl⟩;have nf : bh D := by rw [hD]; exact Af hs id
 refine ag.by hP (AL g id hs D hD v hv) ?_;cbv;refine ag.by hP (vK g (fJ id) hs v hv) ?_;cbv;refine Br.split (fun k1 => ?_) (fun k1 => ?_) <;> cbv
 · have k1 : (v != v) = true := k1;simp at k1
 refine Br.split (fun k2 => ?_) (fun k2 => ?_) <;> cbv
 · repeat' first | exact trivial | refine ⟨rfl, ?_⟩ | fail
 have k2 : (v != 0) = false := k2;have k2 : v = 0 := by simpa using k2
 have k3 : bM g (fJ id) = 0 := hv ▸ k2;obtain ⟨i, k, p, c, og, e1, e2, e3⟩ := nE (q := fJ id) (.inl rfl) k3;have e1 : p.id = id := e1;have o_ : D = mG g p := by rw [hD, lU, if_pos k3]; exact congrArg _ e2
 have vv : HG D := by rw [hD]; exact KO og.hg id
 have nF : aP g.ae id = (i : Int) := by rw [← e1]; exact og.at_
 have aq : i < g.ae.length := bq og.hi;have oi : 0 ≤ (i : Int) ∧ (i : Int) < (g.ae.length : Int) := by omega
 have gp : aO .az (fun _ => g.ae) (fun _ => ((i : Nat) : Int).toNat) () = p := kK (Int.toNat_natCast i) og.hi;have xU : g.cabins.length ≤ 1048576 := hs.2.2.1.1;have qv : aW D = true := cI.2 vv;have sz := og.siz
 have at_ : ∀ (j : Int) c0, 0 ≤ j → g.cabins[j.toNat]? = some c0 → ∃ c1, D.cabins[j.toNat]? = some c1 ∧ c1.ah = oa p j c0.ah := fun j c0 h0 hj => by
   have ej : ((j.toNat : Nat) : Int) = j := by omega
   have := og.K7 e3 hj;rw [ej, ← o_] at this;exact this
 have L6 : ¬ p.al < 0 → hasB D.todo p.al = true := fun hf => by rw [o_]; exact og.Lk hf
 apply gx
 · intro hk
   repeat' first
     | exact trivial
     | (refine ag.by hP (oP g id (i : Int) nF.symm) ?_; cbv)
     | (refine Ob.mk (oi) ?_; cbv)
     | (refine Pz.mk ?_; cbv) | (refine bu.mk ?_ (by kernel_rfl) ?_; rotate_left; cbv; rotate_right) | refine ⟨rfl, ?_⟩ | refine And.intro ?_ ?_ | exact rfl | fail
   all_goals exact hk
 apply aT.nh (A := au) (B := Int) (fun y j => [(3, pN 3), (5, pN 5), (7, pN 7), (8, iT fun _ => j)]) (fun y j => (3, .box (ke 10 g)) :: (5, .box (ke 15 D)) :: (7, .box (LZ y)) :: (kg 10 g ++ kg 15 D)) (fun y j => y = p ∧ 0 ≤ j ∧ j.toNat ≤ g.cabins.length) (fun y j _ => g.cabins.length - j.toNat)
 · cbv
   (try dsimp only)
   repeat' first | exact trivial | refine ⟨rfl, ?_⟩ | fail
 · exact ⟨gp, by omega, Nat.zero_le _⟩
 rintro y j ⟨rfl, q1, q2⟩
 cbv;refine Br.dec (fun hb => ?_) (fun hb => ?_) <;> cbv
 · have dC : j < (g.cabins.length : Int) := hb;have cu : j.toNat + 1 ≤ g.cabins.length ∧ (j + 1).toNat = j.toNat + 1 := by omega
   obtain ⟨c0, cO⟩ : ∃ c0, g.cabins[j.toNat]? = some c0 := ⟨_, List.getElem?_eq_getElem cu.1⟩;obtain ⟨c1, gy, ac⟩ := at_ _ _ q1 cO;have oD : 0 ≤ j ∧ j < (D.cabins.length : Int) := by have := bq gy; omega
   have iM : aO .cab (fun _ => g.cabins) (fun _ => j.toNat) () = c0 := kK rfl cO;have ug : aO .cab (fun _ => D.cabins) (fun _ => j.toNat) () = c1 := kK rfl gy;have ld := og.hg.eD cO;have r1 : -9223372036854775808 ≤ j + 1 := by omega
   have r2 : j + 1 ≤ 9223372036854775807 := by omega
   have Pu : -9223372036854775808 ≤ (aO .cab (fun _ => g.cabins) (fun _ => j.toNat) ()).ah.held - y.siz := by rw [iM]; omega
   have PU : (aO .cab (fun _ => g.cabins) (fun _ => j.toNat) ()).ah.held - y.siz ≤ 9223372036854775807 := by rw [iM]; omega
   have Qz : -9223372036854775808 ≤ (aO .cab (fun _ => g.cabins) (fun _ => j.toNat) ()).ah.aU + y.siz := by rw [iM]; omega
   have QA : (aO .cab (fun _ => g.cabins) (fun _ => j.toNat) ()).ah.aU + y.siz ≤ 9223372036854775807 := by rw [iM]; omega
   have QB : -9223372036854775808 ≤ (aO .cab (fun _ => g.cabins) (fun _ => j.toNat) ()).ah.free + y.siz := by rw [iM]; omega
   have QC : (aO .cab (fun _ => g.cabins) (fun _ => j.toNat) ()).ah.free + y.siz ≤ 9223372036854775807 := by rw [iM]; omega
   have QD : -9223372036854775808 ≤ (aO .cab (fun _ => g.cabins) (fun _ => j.toNat) ()).ah.aU - y.siz := by rw [iM]; omega
   have QE : (aO .cab (fun _ => g.cabins) (fun _ => j.toNat) ()).ah.aU - y.siz ≤ 9223372036854775807 := by rw [iM]; omega
   have QF : -9223372036854775808 ≤ (aO .cab (fun _ => g.cabins) (fun _ => j.toNat) ()).ah.tied - y.siz := by rw [iM]; omega
   have QG : (aO .cab (fun _ => g.cabins) (fun _ => j.toNat) ()).ah.tied - y.siz ≤ 9223372036854775807 := by rw [iM]; omega
   have hne : y.al ≠ y.cab := (gb og.ok).ne
   by_cases j1 : j = y.cab
   · have j2 : ¬ j = y.al := fun q => hne (q.symm.trans j1);have b1 : (j == y.cab) = true := by rw [j1]; simp
     have b2 : (j == y.al) = false := by simpa using j2
     have acc : c1.ah = ⟨c0.ah.total, c0.ah.free, c0.ah.held - y.siz, c0.ah.aU + y.siz, c0.ah.tied⟩ := by rw [ac, oa, if_pos j1]
     have fin : (!sa ⟨(aO .cab (fun _ => g.cabins) (fun _ => j.toNat) ()).ah.total, (aO .cab (fun _ => g.cabins) (fun _ => j.toNat) ()).ah.free, (aO .cab (fun _ => g.cabins) (fun _ => j.toNat) ()).ah.held - y.siz, (aO .cab (fun _ => g.cabins) (fun _ => j.toNat) ()).ah.aU + y.siz, (aO .cab (fun _ => g.cabins) (fun _ => j.toNat) ()).ah.tied⟩ (aO .cab (fun _ => D.cabins) (fun _ => j.toNat) ()).ah) = false := by rw [iM, ug, acc, xG]; rfl
     repeat' first
       | exact trivial
       | (refine Pz.mk ?_; cbv)
       | (refine Ob.mk ⟨q1, hb⟩ ?_; cbv)
       | (refine Ob.mk oD ?_; cbv)
       | (refine Br.yes b1 ?_; cbv)
       | (refine Br.no b2 ?_; cbv)
       | (refine Ar.exact (by exact Pu) (by exact PU) ?_; cbv)
       | (refine Ar.exact (by exact Qz) (by exact QA) ?_; cbv)
       | (refine Br.no fin ?_; cbv)
       | (refine Ar.exact (by exact r1) (by exact r2) ?_; cbv)
       | fail
     any_goals
       apply aJ.lj
       · cbv
         (try dsimp only)
         repeat' first | exact trivial | refine ⟨rfl, ?_⟩ | fail
       · (try dsimp only)
         exact ⟨rfl, by omega, by rw [cu.2]; exact cu.1⟩
       · (try dsimp only)
         rw [cu.2]; omega
   · have b1 : (j == y.cab) = false := by simpa using j1
     by_cases j2 : j = y.al
     · have b2 : (j == y.al) = true := by rw [j2]; simp
       have acc : c1.ah = ⟨c0.ah.total, c0.ah.free + y.siz, c0.ah.held, c0.ah.aU - y.siz, c0.ah.tied - y.siz⟩ := by rw [ac, oa, if_neg j1, if_pos j2]
       have fin : (!sa ⟨(aO .cab (fun _ => g.cabins) (fun _ => j.toNat) ()).ah.total, (aO .cab (fun _ => g.cabins) (fun _ => j.toNat) ()).ah.free + y.siz, (aO .cab (fun _ => g.cabins) (fun _ => j.toNat) ()).ah.held, (aO .cab (fun _ => g.cabins) (fun _ => j.toNat) ()).ah.aU - y.siz, (aO .cab (fun _ => g.cabins) (fun _ => j.toNat) ()).ah.tied - y.siz⟩ (aO .cab (fun _ => D.cabins) (fun _ => j.toNat) ()).ah) = false := by rw [iM, ug, acc, xG]; rfl
       repeat' first
         | exact trivial
         | (refine Pz.mk ?_; cbv)
         | (refine Ob.mk ⟨q1, hb⟩ ?_; cbv)
         | (refine Ob.mk oD ?_; cbv)
         | (refine Br.no b1 ?_; cbv)
         | (refine Br.yes b2 ?_; cbv)
         | (refine Ar.exact (by exact QB) (by exact QC) ?_; cbv)
         | (refine Ar.exact (by exact QD) (by exact QE) ?_; cbv)
         | (refine Ar.exact (by exact QF) (by exact QG) ?_; cbv)
         | (refine Br.no fin ?_; cbv)
         | (refine Ar.exact (by exact r1) (by exact r2) ?_; cbv)
         | fail
       any_goals
         apply aJ.lj
         · cbv
           (try dsimp only)
           repeat' first | exact trivial | refine ⟨rfl, ?_⟩ | fail
         · (try dsimp only)
           exact ⟨rfl, by omega, by rw [cu.2]; exact cu.1⟩
         · (try dsimp only)
           rw [cu.2]; omega
     · have b2 : (j == y.al) = false := by simpa using j2
       have acc : c1.ah = c0.ah := by rw [ac, oa, if_neg j1, if_neg j2]
       have fin : (!sa (aO .cab (fun _ => g.cabins) (fun _ => j.toNat) ()).ah (aO .cab (fun _ => D.cabins) (fun _ => j.toNat) ()).ah) = false := by rw [iM, ug, acc, xG]; rfl
       repeat' first
         | exact trivial
         | (refine Pz.mk ?_; cbv)
         | (refine Ob.mk ⟨q1, hb⟩ ?_; cbv)
         | (refine Ob.mk oD ?_; cbv)
         | (refine Br.no b1 ?_; cbv)
         | (refine Br.no b2 ?_; cbv)
         | (refine Br.no fin ?_; cbv)
         | (refine Ar.exact (by exact r1) (by exact r2) ?_; cbv)
         | fail
       any_goals
         apply aJ.lj
         · cbv
           (try dsimp only)
           repeat' first | exact trivial | refine ⟨rfl, ?_⟩ | fail
         · (try dsimp only)
           exact ⟨rfl, by omega, by rw [cu.2]; exact cu.1⟩
         · (try dsimp only)
           rw [cu.2]; omega
 · by_cases hf : y.al < 0
   · repeat' first
       | exact trivial
       | (refine Pz.mk ?_; cbv)
       | (refine ag.by hP (f_ D nf true qv.symm) ?_; cbv)
       | (refine Br.yes (by with_reducible rfl) ?_; cbv)
       | (refine Br.yes (decide_eq_true hf) ?_; cbv)
       | refine ⟨decide_eq_true hf, ?_⟩
       | refine ⟨rfl, ?_⟩
       | fail
   · repeat' first
       | exact trivial
       | (refine Pz.mk ?_; cbv)
       | (refine ag.by hP (f_ D nf true qv.symm) ?_; cbv)
       | (refine Br.yes (by with_reducible rfl) ?_; cbv)
       | (refine Br.no (decide_eq_false hf) ?_; cbv)
       | (refine ag.by hP (tO D.todo y.al nf.2.2.2.1 true (L6 hf).symm) ?_; cbv)
       | refine ⟨rfl, ?_⟩
       | fail
theorem QH (code : List UInt8) : Spec Tryz.prog 10 [lA .byte code] (aE (bR fun _ => true)) := Spec.mr (L5 code)
end Go.Proofs.YtehpbaiclfilaaaGreat

