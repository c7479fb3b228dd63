/- Parts of a proof. No conditions. -/

import Derived.Test.YtehpbaiclfilaaaGreatG49
import Derived.Test.YtehpbaiclfilaaaGreatG50
import Derived.Test.YtehpbaiclfilaaaGreatG41
import Derived.Test.YtehpbaiclfilaaaGreatG42
import Derived.Test.YtehpbaiclfilaaaGreatG43
import Derived.Test.YtehpbaiclfilaaaGreatG22
import Derived.Test.YtehpbaiclfilaaaGreatG30
import Derived.Test.YtehpbaiclfilaaaGreatG31
import Derived.Test.YtehpbaiclfilaaaGreatG28
set_option linter.unusedSimpArgs false
set_option linter.unusedVariables false
namespace Go.Proofs.YtehpbaiclfilaaaGreat
open Go
set_option maxRecDepth 100000
theorem LU {h : ai} (hg : HG h) (k : Int) : -1 ≤ la h k ∧ la h k ≤ 60 := by
 unfold la
 split
 · rename_i q;simp only [cC, Bool.and_eq_true] at q;have q := bB q.2;have hk : k.toNat < h.cabins.length := by omega
   have hc := List.getElem?_eq_getElem hk;have ek : k = ((k.toNat : Nat) : Int) := by omega
   have ec : aC h k = h.cabins[k.toNat] := by rw [aC, hc]; rfl
   rw [ec];have g := jM.1 (hg.dR hc).eD;have h4 := g.aU;have h5 := g.tied;have h6 := g.total;unfold fS;omega
 · omega
theorem LV {α : Type} {P : α → Bool} {l : List α} {n : Nat} (h : n < l.length) : (l.take (n + 1)).countP P = (l.take n).countP P + (if P l[n] = true then 1 else 0) := by
 rw [List.take_succ_eq_append_getElem h, List.countP_append, List.countP_singleton]
set_option maxHeartbeats 4000000 in
theorem LW (code : List UInt8) : bE Tryz.prog 14 [.c (.own 0)] [(0, .view .byte fun _ => code)] (dP (bR fun _ => true) []) := by
 refine fF ay Tryz.func14 rfl rfl (fr := true) (fun _ => by kernel_rfl) rfl rfl fun P hP hA hB => ?_;cbv
 repeat (refine Pz.mk ?_; cbv)
 refine ag.by hP (mD code) ?_;cbv
 repeat (refine Pz.mk ?_; cbv)
 refine Br.dec (fun h0 => ?_) (fun h0 => ?_) <;> (cbv; repeat (refine Pz.mk ?_; cbv))
 · repeat' first | exact trivial | refine ⟨rfl, ?_⟩ | fail
 have hc := mB h0;refine aB.ex hP (Km code hc) fun ⟨g, id⟩ hg => ?_;cbv
 repeat (refine Pz.mk ?_; cbv)
 have hs : bh g := (show cJ g from hg).1;obtain ⟨D, hD⟩ : ∃ D, D = oF g id := ⟨_, rfl⟩;obtain ⟨v, hv⟩ : ∃ v, v = bM g (ir id) := ⟨_, rfl⟩;have nf : bh D := by rw [hD]; exact Az hs id
 refine ag.by hP (AY g id hs D hD v hv) ?_;cbv
 repeat (refine Pz.mk ?_; cbv)
 refine ag.by hP (vK g (ir id) hs v hv) ?_;cbv
 repeat (refine Pz.mk ?_; cbv)
 refine Br.split (fun k1 => ?_) (fun k1 => ?_) <;> (cbv; repeat (refine Pz.mk ?_; cbv))
 · have k1 : (v != v) = true := k1;simp at k1
 refine Br.split (fun k2 => ?_) (fun k2 => ?_) <;> (cbv; repeat (refine Pz.mk ?_; cbv))
 · repeat' first | exact trivial | refine ⟨rfl, ?_⟩ | fail
 have k2 : (v != 0) = false := k2;have k2 : v = 0 := by simpa using k2
 have k3 : bM g (ir id) = 0 := hv ▸ k2;obtain ⟨i, k, p, c, og, e1, e2, e3⟩ := nE (q := ir id) (.inr rfl) k3;have e1 : p.id = id := e1;have o_ : D = nH g p := by rw [hD, oF, if_pos k3]; exact congrArg _ e2
 have vv : HG D := by rw [hD]; exact KP og.hg id
 have nF : aP g.ae id = (i : Int) := by rw [← e1]; exact og.at_
 have aq : i < g.ae.length := bq og.hi;have oi : 0 ≤ (i : Int) ∧ (i : Int) < (g.ae.length : Int) := by omega
 have gp : aO .az (fun _ => g.ae) (fun _ => ((i : Nat) : Int).toNat) () = p := kK (Int.toNat_natCast i) og.hi;have tL := og.cab;have tg : k < g.cabins.length := bq og.hk;obtain ⟨c1, f1, f2⟩ := og.Lm e3;rw [← o_] at f1;have f3 := LB g p;rw [← o_] at f3;have QT : k < D.cabins.length := bq f1;have qv : aW D = true := cI.2 vv;obtain ⟨d, hd⟩ : ∃ d, d = aP D.ae id := ⟨_, rfl⟩;have o1 : 0 ≤ (aO .az (fun _ => g.ae) (fun _ => ((i : Nat) : Int).toNat) ()).cab ∧ (aO .az (fun _ => g.ae) (fun _ => ((i : Nat) : Int).toNat) ()).cab < (D.cabins.length : Int) := by rw [gp]; omega
 have o2 : 0 ≤ (aO .az (fun _ => g.ae) (fun _ => ((i : Nat) : Int).toNat) ()).cab ∧ (aO .az (fun _ => g.ae) (fun _ => ((i : Nat) : Int).toNat) ()).cab < (g.cabins.length : Int) := by rw [gp]; omega
 have ug : (aO .cab (fun _ => D.cabins) (fun _ => (aO .az (fun _ => g.ae) (fun _ => ((i : Nat) : Int).toNat) ()).cab.toNat) ()) = c1 := kK (by show (aO .az (fun _ => g.ae) (fun _ => ((i : Nat) : Int).toNat) ()).cab.toNat = k; rw [gp]; omega) f1;have iM : (aO .cab (fun _ => g.cabins) (fun _ => (aO .az (fun _ => g.ae) (fun _ => ((i : Nat) : Int).toNat) ()).cab.toNat) ()) = c := kK (by show (aO .az (fun _ => g.ae) (fun _ => ((i : Nat) : Int).toNat) ()).cab.toNat = k; rw [gp]; omega) og.hk;have ld := og.hg.eD og.hk;have sz := og.siz;have ask := As og.ok;have ru := dO og.hg.rules;have tr := ru.tries;have QW := ru.rest;have Fa := bB og.hg.now;have r1 : -9223372036854775808 ≤ (aO .cab (fun _ => g.cabins) (fun _ => (aO .az (fun _ => g.ae) (fun _ => ((i : Nat) : Int).toNat) ()).cab.toNat) ()).ah.free + (aO .az (fun _ => g.ae) (fun _ => ((i : Nat) : Int).toNat) ()).siz := by rw [iM, gp]; omega
 have r2 : (aO .cab (fun _ => g.cabins) (fun _ => (aO .az (fun _ => g.ae) (fun _ => ((i : Nat) : Int).toNat) ()).cab.toNat) ()).ah.free + (aO .az (fun _ => g.ae) (fun _ => ((i : Nat) : Int).toNat) ()).siz ≤ 9223372036854775807 := by rw [iM, gp]; omega
 have t1 : ((aO .cab (fun _ => D.cabins) (fun _ => (aO .az (fun _ => g.ae) (fun _ => ((i : Nat) : Int).toNat) ()).cab.toNat) ()).ah.free != (aO .cab (fun _ => g.cabins) (fun _ => (aO .az (fun _ => g.ae) (fun _ => ((i : Nat) : Int).toNat) ()).cab.toNat) ()).ah.free + (aO .az (fun _ => g.ae) (fun _ => ((i : Nat) : Int).toNat) ()).siz) = false := by rw [ug, iM, gp, f2]; simp
 have qt : true = hasB D.todo (aO .az (fun _ => g.ae) (fun _ => ((i : Nat) : Int).toNat) ()).cab := by rw [gp, f3]
 have r3 : -9223372036854775808 ≤ g.rules.tries - 1 := by omega
 have r4 : g.rules.tries - 1 ≤ 9223372036854775807 := by omega
 have r5 : -9223372036854775808 ≤ (aO .az (fun _ => g.ae) (fun _ => ((i : Nat) : Int).toNat) ()).asked + 1 := by rw [gp]; omega
 have r6 : (aO .az (fun _ => g.ae) (fun _ => ((i : Nat) : Int).toNat) ()).asked + 1 ≤ 9223372036854775807 := by rw [gp]; omega
 have r7 : -9223372036854775808 ≤ g.now + g.rules.rest := by omega
 have r8 : g.now + g.rules.rest ≤ 9223372036854775807 := by omega
 by_cases hl : p.asked = g.rules.tries - 1
 · have t2 : ((aO .az (fun _ => g.ae) (fun _ => ((i : Nat) : Int).toNat) ()).asked == g.rules.tries - 1) = true := by rw [gp, hl]; simp
   have uI : d < 0 := by rw [hd, o_, ← e1]; exact og.Lq e3 hl
   apply gx
   · intro hk
     repeat' first
      | exact trivial
      | (refine ag.by hP (oP g id (i : Int) nF.symm) ?_; cbv)
      | (refine Ob.mk (oi) ?_; cbv)
      | (refine Pz.mk ?_; cbv) | (refine bu.mk ?_ (by kernel_rfl) ?_; rotate_left; cbv; rotate_right) | refine ⟨rfl, ?_⟩ | refine And.intro ?_ ?_ | exact rfl | fail
     all_goals exact hk
   refine ag.by hP (jC D id d hd) ?_;cbv
   repeat (refine Pz.mk ?_; cbv)
   repeat' first
     | exact trivial
     | (refine Pz.mk ?_; cbv)
     | (refine Ob.mk o1 ?_; cbv)
     | (refine Ob.mk o2 ?_; cbv)
     | (refine Ar.exact (by exact r1) (by exact r2) ?_; cbv)
     | (refine Br.no t1 ?_; cbv)
     | (refine ag.by hP (tO D.todo (aO .az (fun _ => g.ae) (fun _ => ((i : Nat) : Int).toNat) ()).cab nf.2.2.2.1 true qt) ?_; cbv)
     | (refine ag.by hP (f_ D nf true qv.symm) ?_; cbv)
     | (refine Br.no (by first | with_reducible rfl | exact (rfl : (!true) = false)) ?_; cbv)
     | (refine Ar.exact (by exact r3) (by exact r4) ?_; cbv)
     | (refine Br.yes t2 ?_; cbv)
     | exact ⟨decide_eq_true uI, trivial⟩
     | refine And.intro ?_ ?_
     | fail
 · have t2 : ((aO .az (fun _ => g.ae) (fun _ => ((i : Nat) : Int).toNat) ()).asked == g.rules.tries - 1) = false := by rw [gp]; simpa using hl
   obtain ⟨m1, m2⟩ := og.Ls e3 hl;rw [← o_, e1, ← hd] at m1;rw [← o_] at m2;have nj := bq m2;have o3 : 0 ≤ d ∧ d < (D.ae.length : Int) := by omega
   have gz : (aO .az (fun _ => D.ae) (fun _ => d.toNat) ()) = dE g.rules p g.now := kK (by show d.toNat = i; omega) m2;have t3 : ((aO .az (fun _ => D.ae) (fun _ => d.toNat) ()).asked == (aO .az (fun _ => g.ae) (fun _ => ((i : Nat) : Int).toNat) ()).asked + 1) = true := by rw [gz, gp]; exact beq_self_eq_true _
   have t4 : ((aO .az (fun _ => D.ae) (fun _ => d.toNat) ()).bW == g.now + g.rules.rest) = true := by rw [gz]; exact beq_self_eq_true _
   obtain ⟨x, hx⟩ : ∃ x, x = placeOf D id := ⟨_, rfl⟩
   have uN : 0 ≤ x := by
     obtain ⟨n, _, w1, _⟩ := AU vv (List.mem_of_getElem? m2) rfl;have w2 : x = (n : Int) := by rw [hx, ← e1]; exact w1
     omega
   apply gx
   · intro hk
     repeat' first
      | exact trivial
      | (refine ag.by hP (oP g id (i : Int) nF.symm) ?_; cbv)
      | (refine Ob.mk (oi) ?_; cbv)
      | (refine Pz.mk ?_; cbv) | (refine bu.mk ?_ (by kernel_rfl) ?_; rotate_left; cbv; rotate_right) | refine ⟨rfl, ?_⟩ | refine And.intro ?_ ?_ | exact rfl | fail
     all_goals exact hk
   refine ag.by hP (jC D id d hd) ?_;cbv
   repeat (refine Pz.mk ?_; cbv)
   repeat' first
     | exact trivial
     | (refine Pz.mk ?_; cbv)
     | (refine Ob.mk o1 ?_; cbv)
     | (refine Ob.mk o2 ?_; cbv)
     | (refine Ob.mk o3 ?_; cbv)
     | (refine Ar.exact (by exact r1) (by exact r2) ?_; cbv)
     | (refine Br.no t1 ?_; cbv)
     | (refine ag.by hP (tO D.todo (aO .az (fun _ => g.ae) (fun _ => ((i : Nat) : Int).toNat) ()).cab nf.2.2.2.1 true qt) ?_; cbv)
     | (refine ag.by hP (f_ D nf true qv.symm) ?_; cbv)
     | (refine Br.no (by first | with_reducible rfl | exact (rfl : (!true) = false)) ?_; cbv)
     | (refine Ar.exact (by exact r3) (by exact r4) ?_; cbv)
     | (refine Br.no t2 ?_; cbv)
     | (refine Br.yes (decide_eq_true o3.1) ?_; cbv)
     | (refine Ar.exact (by exact r5) (by exact r6) ?_; cbv)
     | (refine Br.yes t3 ?_; cbv)
     | (refine Ar.exact (by exact r7) (by exact r8) ?_; cbv)
     | (refine Br.yes t4 ?_; cbv)
     | (refine ag.by hP (se D id nf x hx) ?_; cbv)
     | exact ⟨decide_eq_true uN, trivial⟩
     | refine And.intro ?_ ?_
     | fail
set_option maxHeartbeats 4000000 in
theorem LX (code : List UInt8) : bE Tryz.prog 9 [.c (.own 0)] [(0, .view .byte fun _ => code)] (dP (bR fun _ => true) []) := by
 refine fF ay Tryz.func9 rfl rfl (fr := true) (fun _ => by kernel_rfl) rfl rfl fun P hP hA hB => ?_;cbv;refine ag.by hP (mD code) ?_;cbv;refine Br.dec (fun h0 => ?_) (fun h0 => ?_) <;> cbv
 · repeat' first | exact trivial | refine ⟨rfl, ?_⟩ | fail
 have hc := mB h0;refine aB.ex hP (zE code hc) fun ⟨g, id, cab, al, siz, aK⟩ hg => ?_;cbv;have hs : bh g := (show cJ g from hg).1;obtain ⟨A, dW⟩ : ∃ A, A = oU g id cab al siz aK := ⟨_, rfl⟩;obtain ⟨v, hv⟩ : ∃ v, v = bM g (kM id cab al siz aK) := ⟨_, rfl⟩;have kH : bh A := by rw [dW]; exact AA hs id cab al siz aK
 refine ag.by hP (A1 g id cab al siz aK hs A dW v hv) ?_;cbv;refine ag.by hP (vK g (kM id cab al siz aK) hs v hv) ?_;cbv;refine Br.split (fun k1 => ?_) (fun k1 => ?_) <;> cbv
 · have k1 : (v != v) = true := k1;simp at k1
 refine Br.split (fun k2 => ?_) (fun k2 => ?_) <;> cbv
 · have k2 : (v != 0) = true := k2;have k2 : ¬ bM g (kM id cab al siz aK) = 0 := by rw [← hv]; simpa using k2
   have LY : A = g := by rw [dW, oU, if_neg k2]
   cases hb : aW g with
   | false =>
     refine ag.by hP (f_ g hs false hb.symm) ?_;cbv
     repeat' first
      | exact trivial
      | (refine Br.yes rfl ?_; cbv)
      | refine ⟨rfl, ?_⟩
      | fail
   | true =>
     refine ag.by hP (f_ g hs true hb.symm) ?_;cbv
     repeat' first
      | exact trivial
      | (refine Pz.mk ?_; cbv)
      | (refine Br.no rfl ?_; cbv)
      | (refine ag.by hP (qu A g kH hs true (by rw [LY, w5 (cI.1 hb)])) ?_; cbv)
      | refine ⟨rfl, ?_⟩
      | fail
 have k2 : (v != 0) = false := k2;have k2 : v = 0 := by simpa using k2
 have k3 : bM g (kM id cab al siz aK) = 0 := hv ▸ k2;obtain ⟨k, c, jg⟩ := tY k3;have eA : A = cZ g (fb g id cab al siz aK) := by rw [dW, oU, if_pos k3]
 have L0 : HG A := by rw [eA]; exact jg.yg rfl
 have Dl : aW A = true := cI.2 L0;obtain ⟨x, hx⟩ : ∃ x, x = placeOf A id := ⟨_, rfl⟩
 have uN : ¬ x < 0 := by
   have := jg.place rfl;rw [← eA] at this;have e : x = _ := hx.trans this;omega
 have qt : hasB A.todo cab = true := by rw [eA]; exact yh.2 (AR.2 (.inr rfl))
 obtain ⟨B, vR⟩ : ∃ B, B = j_ A id := ⟨_, rfl⟩;obtain ⟨w, hw⟩ : ∃ w, w = bM A (mK id) := ⟨_, rfl⟩;have QX : bh B := by rw [vR]; exact Ks kH id
 have lJ : w = 0 := by rw [hw, eA]; exact (jg.leaves rfl).1
 have Ea : (⟨B.rules, B.now, g.aw, B.ae, B.cabins, g.todo, B.aN⟩ : ai) = g := by
   have := jg.LN rfl;rw [← eA] at this;rw [vR]; exact this
 have Eb : bh (⟨B.rules, B.now, g.aw, B.ae, B.cabins, g.todo, B.aN⟩ : ai) := by rw [Ea]; exact hs
 have sm : true = jN (⟨B.rules, B.now, g.aw, B.ae, B.cabins, g.todo, B.aN⟩ : ai) g := by rw [Ea, w5 jg.hg]
 have sz := (iB jg.ok).siz;have sz : 1 ≤ siz ∧ siz ≤ g.rules.size := sz;have rs := (dO jg.hg.rules).size;obtain ⟨y1, Ed⟩ : ∃ y, y = la A al := ⟨_, rfl⟩;obtain ⟨y2, ud⟩ : ∃ y, y = la g al := ⟨_, rfl⟩;have dC : -1 ≤ y2 ∧ y2 ≤ 60 := by rw [ud]; exact LU jg.hg al
 have oR : ¬ al < 0 → (y1 != y2 - siz) = false := fun hf => by
   have := jg.LQ rfl hf;rw [← eA] at this;have e : y1 = y2 - siz := by rw [Ed, ud]; exact this
   rw [e]; simp
 have r1 : -9223372036854775808 ≤ y2 - siz := by omega
 have r2 : y2 - siz ≤ 9223372036854775807 := by omega
 have sh : (w == 0) = true := by rw [lJ]; rfl
 by_cases hf : al < 0
 · have jT : ¬ 0 ≤ al := by omega
   repeat' first
     | exact trivial
     | (refine Pz.mk ?_; cbv)
     | (refine ag.by hP (f_ A kH true Dl.symm) ?_; cbv)
     | (refine ag.by hP (se A id kH x hx) ?_; cbv)
     | (refine ag.by hP (tO A.todo cab kH.2.2.2.1 true qt.symm) ?_; cbv)
     | (refine ag.by hP (A3 A id kH B vR w hw) ?_; cbv)
     | (refine ag.by hP (qu ⟨B.rules, B.now, g.aw, B.ae, B.cabins, g.todo, B.aN⟩ g Eb hs true sm) ?_; cbv)
     | (refine Br.no (by first | with_reducible rfl | exact (rfl : (!true) = false)) ?_; cbv)
     | (refine Br.no (decide_eq_false uN) ?_; cbv)
     | (refine Br.no (decide_eq_false jT) ?_; cbv)
     | (refine Br.yes sh ?_; cbv)
     | refine ⟨rfl, ?_⟩
     | fail
 · have jT : 0 ≤ al := by omega
   have oR := oR hf
   repeat' first
     | exact trivial
     | (refine Pz.mk ?_; cbv)
     | (refine ag.by hP (f_ A kH true Dl.symm) ?_; cbv)
     | (refine ag.by hP (se A id kH x hx) ?_; cbv)
     | (refine ag.by hP (tO A.todo cab kH.2.2.2.1 true qt.symm) ?_; cbv)
     | (refine ag.by hP (EC A al kH y1 Ed) ?_; cbv)
     | (refine ag.by hP (EB g al hs y2 ud) ?_; cbv)
     | (refine Ar.exact (by exact r1) (by exact r2) ?_; cbv)
     | (refine ag.by hP (A3 A id kH B vR w hw) ?_; cbv)
     | (refine ag.by hP (qu ⟨B.rules, B.now, g.aw, B.ae, B.cabins, g.todo, B.aN⟩ g Eb hs true sm) ?_; cbv)
     | (refine Br.no (by first | with_reducible rfl | exact (rfl : (!true) = false)) ?_; cbv)
     | (refine Br.no (decide_eq_false uN) ?_; cbv)
     | (refine Br.yes (decide_eq_true jT) ?_; cbv)
     | (refine Br.no oR ?_; cbv)
     | (refine Br.yes sh ?_; cbv)
     | refine ⟨rfl, ?_⟩
     | refine And.intro ?_ ?_
     | fail
set_option maxHeartbeats 4000000 in
theorem L1 (code : List UInt8) : bE Tryz.prog 8 [.c (.own 0)] [(0, .view .byte fun _ => code)] (dP (bR fun _ => true) []) := by
 refine fF ay Tryz.func8 rfl rfl (fr := true) (fun _ => by kernel_rfl) rfl rfl fun P hP hA hB => ?_;cbv;refine ag.by hP (mD code) ?_;cbv;refine Br.dec (fun h0 => ?_) (fun h0 => ?_) <;> cbv
 · repeat' first | exact trivial | refine ⟨rfl, ?_⟩ | fail
 have hc := mB h0;refine aB.ex hP (zE code hc) fun ⟨g, id, cab, al, siz, aK⟩ hg => ?_;cbv;have hs : bh g := (show cJ g from hg).1;obtain ⟨A, dW⟩ : ∃ A, A = oU g id cab al siz aK := ⟨_, rfl⟩;obtain ⟨v, hv⟩ : ∃ v, v = bM g (kM id cab al siz aK) := ⟨_, rfl⟩;have kH : bh A := by rw [dW]; exact AA hs id cab al siz aK
 refine ag.by hP (A1 g id cab al siz aK hs A dW v hv) ?_;cbv;refine ag.by hP (vK g (kM id cab al siz aK) hs v hv) ?_;cbv;refine Br.split (fun k1 => ?_) (fun k1 => ?_) <;> cbv
 · have k1 : (v != v) = true := k1;simp at k1
 refine Br.split (fun k2 => ?_) (fun k2 => ?_) <;> cbv
 · repeat' first | exact trivial | refine ⟨rfl, ?_⟩ | fail
 have k2 : (v != 0) = false := k2;have k2 : v = 0 := by simpa using k2
 have k3 : bM g (kM id cab al siz aK) = 0 := hv ▸ k2;have k4 := LC k3;obtain ⟨row, AV⟩ : ∃ row, row = cH g.rules g.ae cab g.now := ⟨_, rfl⟩
 have QY : row.length ≤ 20 := by
   rw [AV, cH, jy]; exact Nat.le_trans (zX _ _ _ _) (show cJ g from hg).2.1
 have qc := zY g.rules g.ae cab g.now hs.1 hs.2.1;rw [← AV] at qc k4
 repeat' first
   | (refine Pz.mk ?_; cbv)
   | (refine ag.by hP qc ?_; cbv)
   | fail
 obtain ⟨x, hx⟩ : ∃ x, x = placeOf A id := ⟨_, rfl⟩;have oJ : x = ((row.countP fun e => decide (e.lvl ≤ aK) : Nat) : Int) := by rw [hx, dW]; exact k4
 apply aT.nh (A := Int) (B := Int) (fun n j => [(4, iT fun _ => id), (8, iT fun _ => aK), (9, pN 9), (11, oN 11), (12, iT fun _ => n), (13, iT fun _ => j)]) (fun n j => (9, .box (ke 20 A)) :: (11, aQ .aD fun _ => row) :: kg 20 A) (fun n j => (0 ≤ j ∧ j.toNat ≤ row.length) ∧ n.toNat = ((row.take j.toNat).countP fun e => decide (e.lvl ≤ aK)) ∧ (0 ≤ n ∧ n ≤ j)) (fun n j _ => row.length - j.toNat)
 · cbv
   (try dsimp only)
   repeat' first | exact trivial | refine ⟨rfl, ?_⟩ | fail
 · exact ⟨⟨by omega, Nat.zero_le _⟩, rfl, by omega, by omega⟩
 rintro n j ⟨⟨q1, q2⟩, q3, q4⟩
 cbv;refine Br.dec (fun hb => ?_) (fun hb => ?_) <;> cbv
 · have dC : j < (row.length : Int) := hb;have cu : j.toNat + 1 ≤ row.length ∧ (j + 1).toNat = j.toNat + 1 := by omega
   obtain ⟨e, he⟩ : ∃ e, e = row[j.toNat] := ⟨_, rfl⟩;have ge : aO .aD (fun _ => row) (fun _ => j.toNat) () = e := kK rfl (by rw [he]; exact List.getElem?_eq_getElem cu.1);have ct := LV (P := fun e : Entry => decide (e.lvl ≤ aK)) (l := row) cu.1;rw [← he] at ct;have r1 : -9223372036854775808 ≤ n + 1 := by omega
   have r2 : n + 1 ≤ 9223372036854775807 := by omega
   have r3 : -9223372036854775808 ≤ j + 1 := by omega
   have r4 : j + 1 ≤ 9223372036854775807 := by omega
   by_cases hl : e.lvl ≤ aK
   · have eF : (aO .aD (fun _ => row) (fun _ => j.toNat) ()).lvl ≤ aK := by rw [ge]; exact hl
     rw [if_pos (decide_eq_true hl)] at ct
     repeat' first
      | exact trivial
      | (refine Pz.mk ?_; cbv)
      | (refine Ob.mk ⟨q1, hb⟩ ?_; cbv)
      | (refine Br.yes (decide_eq_true eF) ?_; cbv)
      | (refine Ar.exact (by exact r1) (by exact r2) ?_; cbv)
      | (refine Ar.exact (by exact r3) (by exact r4) ?_; cbv)
      | fail
     any_goals
      apply aJ.lj
      · cbv
        (try dsimp only)
        repeat' first | exact trivial | refine ⟨rfl, ?_⟩ | fail
      · (try dsimp only)
        exact ⟨⟨by omega, by omega⟩, by rw [cu.2, ct, ← q3]; omega, by omega, by omega⟩
      · (try dsimp only)
        rw [cu.2]; omega
   · have eF : ¬ (aO .aD (fun _ => row) (fun _ => j.toNat) ()).lvl ≤ aK := by rw [ge]; exact hl
     rw [if_neg (by simpa using hl)] at ct
     repeat' first
      | exact trivial
      | (refine Pz.mk ?_; cbv)
      | (refine Ob.mk ⟨q1, hb⟩ ?_; cbv)
      | (refine Br.no (decide_eq_false eF) ?_; cbv)
      | (refine Ar.exact (by exact r3) (by exact r4) ?_; cbv)
      | fail
     any_goals
      apply aJ.lj
      · cbv
        (try dsimp only)
        repeat' first | exact trivial | refine ⟨rfl, ?_⟩ | fail
      · (try dsimp only)
        exact ⟨⟨by omega, by omega⟩, by rw [cu.2, ct, ← q3]; omega, by omega, by omega⟩
      · (try dsimp only)
        rw [cu.2]; omega
 · have dC : ¬ j < (row.length : Int) := hb;have e : j.toNat = row.length := by omega
   rw [e, List.take_length] at q3;have Fb : x.toNat = n.toNat ∧ 0 ≤ x := by rw [q3, oJ]; exact ⟨Int.toNat_natCast _, Int.natCast_nonneg _⟩
   have fin : (x == n) = true := by rw [show x = n by omega]; simp
   repeat' first
     | (refine Pz.mk ?_; cbv)
     | (refine ag.by hP (se A id kH x hx) ?_; cbv)
     | fail
   exact ⟨fin, trivial⟩
theorem L2 (code : List UInt8) : Spec Tryz.prog 14 [lA .byte code] (aE (bR fun _ => true)) := Spec.mr (LW code)
theorem L3 (code : List UInt8) : Spec Tryz.prog 9 [lA .byte code] (aE (bR fun _ => true)) := Spec.mr (LX code)
theorem L4 (code : List UInt8) : Spec Tryz.prog 8 [lA .byte code] (aE (bR fun _ => true)) := Spec.mr (L1 code)
end Go.Proofs.YtehpbaiclfilaaaGreat

