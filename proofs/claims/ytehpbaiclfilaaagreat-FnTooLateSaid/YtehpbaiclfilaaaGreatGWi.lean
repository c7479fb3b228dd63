/- Parts of a proof. No conditions. -/

import Derived.Test.YtehpbaiclfilaaaGreatG49
import Derived.Test.YtehpbaiclfilaaaGreatG50
import Derived.Test.YtehpbaiclfilaaaGreatG41
import Derived.Test.YtehpbaiclfilaaaGreatG43
import Derived.Test.YtehpbaiclfilaaaGreatG16
import Derived.Test.YtehpbaiclfilaaaGreatG14
import Derived.Test.YtehpbaiclfilaaaGreatG15
import Derived.Test.YtehpbaiclfilaaaGreatG29
import Derived.Test.YtehpbaiclfilaaaGreatG30
set_option linter.unusedSimpArgs false
set_option linter.unusedVariables false
namespace Go.Proofs.YtehpbaiclfilaaaGreat
open Go
set_option maxRecDepth 100000
theorem LD {q : dL} (h : aj q.kind 1 7 = false) : dN q = false := by
 have h : ¬ (1 ≤ q.kind ∧ q.kind ≤ 7) := by
  intro hh;rw [aj, decide_eq_true hh.1, decide_eq_true hh.2] at h;cases h
 unfold dN;rw [if_neg (by omega), if_neg (by omega), if_neg (by omega), if_neg (by omega)]
set_option maxHeartbeats 4000000 in
theorem LF (code : List UInt8) : bE Tryz.prog 4 [.c (.own 0)] [(0, .view .byte fun _ => code)] (dP (bR fun _ => true) []) := by
 refine fF ay Tryz.func4 rfl rfl (fr := true) (fun _ => by kernel_rfl) rfl rfl fun P hP hA hB => ?_;cbv;refine ag.by hP (mD code) ?_;cbv;refine Br.dec (fun h0 => ?_) (fun h0 => ?_) <;> cbv
 · repeat' first | exact trivial | refine ⟨rfl, ?_⟩ | fail
 have hc := mB h0;refine aB.ex hP (JZ code hc) fun ⟨g, q⟩ hg => ?_;cbv;have hs : bh g := (show cJ g from hg).1;obtain ⟨v, hv⟩ : ∃ v, v = bM g q := ⟨_, rfl⟩;obtain ⟨b, hb⟩ : ∃ b, b = aW g := ⟨_, rfl⟩;obtain ⟨r, hr⟩ : ∃ r, r = dN q := ⟨_, rfl⟩;refine ag.by hP (oZ g q hs v hv) ?_;cbv;refine ag.by hP (f_ g hs b hb) ?_;cbv;refine Br.split (fun h1 => ?_) (fun h1 => ?_) <;> cbv
 · have h1 : b = false := by simpa using h1
   refine ⟨?_, trivial⟩;show (v == 1) = true;rw [hv, Au (hb ▸ h1)]; rfl
 have h1 : b = true := by simpa using h1
 have h1 : aW g = true := hb ▸ h1;cases hk : aj q.kind 1 7 with
 | false =>
   have e1 : (v == 2) = true := by rw [hv, Av h1 hk]; rfl
   have e2 : r = false := hr.trans (LD hk)
   have e3 : ¬ (1 ≤ q.kind ∧ q.kind ≤ 7) := fun hh => by
    rw [aj, decide_eq_true hh.1, decide_eq_true hh.2] at hk;cases hk
   subst e2
   repeat' first
    | exact trivial
    | (refine Pz.mk ?_; cbv)
    | (refine Br.yes e1 ?_; cbv)
    | (refine ag.by hP (Dn q false hr) ?_; cbv)
    | (refine Br.dec (fun h => ?_) (fun h => ?_) <;> cbv)
    | fail
   all_goals first
    | exact ⟨rfl, trivial⟩
    | (exfalso; have h1 : ¬ q.kind < 1 := (by assumption); have h2 : ¬ 7 < q.kind := (by assumption); omega)
 | true =>
   have tg := bB hk;have k1 : ¬ q.kind < 1 := by omega
   have k2 : ¬ 7 < q.kind := by omega
   have e1 : (v == 3) = !r := by
    have := K3 h1 hk;rw [hv, hr, ← this, Bool.eq_iff_iff]; simp
   repeat' first
    | exact trivial
    | (refine Pz.mk ?_; cbv)
    | (refine Br.no (decide_eq_false k1) ?_; cbv)
    | (refine Br.no (decide_eq_false k2) ?_; cbv)
    | (refine ag.by hP (Dn q r hr) ?_; cbv)
    | (refine ag.by hP (Iv q r hr) ?_; cbv)
    | (refine Br.yes (by show ((v == 3) == !r) = true; rw [e1]; simp) ?_; cbv)
    | fail
   exact ⟨by show (r == r) = true; simp, trivial⟩
set_option maxHeartbeats 4000000 in
theorem LG (code : List UInt8) : bE Tryz.prog 13 [.c (.own 0)] [(0, .view .byte fun _ => code)] (dP (bR fun _ => true) []) := by
 refine fF ay Tryz.func13 rfl rfl (fr := true) (fun _ => by kernel_rfl) rfl rfl fun P hP hA hB => ?_;cbv;refine ag.by hP (mD code) ?_;cbv;refine Br.dec (fun h0 => ?_) (fun h0 => ?_) <;> cbv
 · repeat' first | exact trivial | refine ⟨rfl, ?_⟩ | fail
 have hc := mB h0;refine aB.ex hP (z8 code hc) fun ⟨g, id⟩ hg => ?_;cbv;have hs : bh g := (show cJ g from hg).1;obtain ⟨o, ho⟩ : ∃ o, o = e_ g id := ⟨_, rfl⟩;obtain ⟨aF, hp⟩ : ∃ p, p = nq g id := ⟨_, rfl⟩;obtain ⟨A, dW⟩ : ∃ A, A = lU g id := ⟨_, rfl⟩;obtain ⟨D, xE⟩ : ∃ D, D = oF g id := ⟨_, rfl⟩;obtain ⟨c1, e1⟩ : ∃ c, c = bM g (fJ id) := ⟨_, rfl⟩;obtain ⟨c2, e2⟩ : ∃ c, c = bM g (ir id) := ⟨_, rfl⟩;have kH : bh A := by rw [dW]; exact Af hs id
 have nf : bh D := by rw [xE]; exact Az hs id
 refine ag.by hP (ym g id hs aF hp o ho) ?_;cbv;refine ag.by hP (EX g id hs aF hp o ho) ?_;cbv;refine Br.split (fun k1 => ?_) (fun k1 => ?_) <;> cbv
 · have k1 : (o != o) = true := k1;simp at k1
 refine ag.by hP (AL g id hs A dW c1 e1) ?_;cbv;refine ag.by hP (AY g id hs D xE c2 e2) ?_;cbv;cases od : e_ g id with
 | false =>
   obtain ⟨f1, f2⟩ := K4 od;rw [← e1, ← e2] at f1;rw [← e1] at f2;have g1 : (!o) = true := by rw [ho, od]; rfl
   have g2 : (c1 != 0) = true := by simpa using f2
   have g3 : (c2 != 0) = true := by rw [← f1]; exact g2
   repeat' first
     | exact trivial
     | (refine Pz.mk ?_; cbv)
     | (refine Br.yes g1 ?_; cbv)
     | (refine Br.yes g2 ?_; cbv)
     | (refine Br.yes g3 ?_; cbv)
     | fail
   refine ⟨?_, trivial⟩;show (c1 == c2) = true;rw [f1]; simp
 | true =>
   obtain ⟨hG, f1, f2, f3⟩ := K5 od;have g1 : (!o) = false := by rw [ho, od]; rfl
   by_cases hl : (ca g id).bW ≤ g.now
   · rw [if_pos hl] at f2 f3;have eF : aF.tm ≤ g.now := by rw [hp, f1]; exact hl
     have g2 : (c1 == 14) = true := by rw [e1, f2]; rfl
     have g3 : (c2 == 14) = true := by rw [e2, f3]; rfl
     have A2 : A = g := by rw [dW, lU, f2]; rfl
     have D2 : D = g := by rw [xE, oF, f3]; rfl
     have sm := w5 hG
     repeat' first
      | exact trivial
      | (refine Pz.mk ?_; cbv)
      | (refine Br.no g1 ?_; cbv)
      | (refine Br.yes (decide_eq_true eF) ?_; cbv)
      | (refine Br.yes g2 ?_; cbv)
      | (refine Br.yes g3 ?_; cbv)
      | (refine ag.by hP (qu A g kH hs true (by rw [A2, sm])) ?_; cbv)
      | (refine ag.by hP (qu D g nf hs true (by rw [D2, sm])) ?_; cbv)
      | (refine Br.yes rfl ?_; cbv)
      | refine ⟨rfl, ?_⟩
      | fail
   · rw [if_neg hl] at f2 f3;have eF : ¬ aF.tm ≤ g.now := by rw [hp, f1]; exact hl
     have g2 : (c1 == 0) = true := by rw [e1, f2]; rfl
     have g3 : (c2 == 0) = true := by rw [e2, f3]; rfl
     have yk := K6 f2;rw [← dW] at yk
     repeat' first
      | exact trivial
      | (refine Pz.mk ?_; cbv)
      | (refine Br.no g1 ?_; cbv)
      | (refine Br.no (decide_eq_false eF) ?_; cbv)
      | (refine Br.yes g2 ?_; cbv)
      | (refine Br.yes g3 ?_; cbv)
      | (refine ag.by hP (jC A id (aP A.ae id) rfl) ?_; cbv)
      | fail
     refine ⟨?_, trivial⟩;exact decide_eq_true yk
theorem LH (code : List UInt8) : Spec Tryz.prog 4 [lA .byte code] (aE (bR fun _ => true)) := Spec.mr (LF code)
theorem LI (code : List UInt8) : Spec Tryz.prog 13 [lA .byte code] (aE (bR fun _ => true)) := Spec.mr (LG code)
end Go.Proofs.YtehpbaiclfilaaaGreat

