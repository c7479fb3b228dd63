/- Parts of a proof. No conditions. -/

import Derived.Test.YticeaiiffeccmaaGreatGKe
import Derived.Test.YticeaiiffeccmaaGreatG18
import Derived.Test.YticeaiiffeccmaaGreatG09
import Derived.Test.YticeaiiffeccmaaGreatG14
import Derived.Test.YticeaiiffeccmaaGreatG16
set_option linter.unusedSimpArgs false
set_option linter.unusedVariables false
namespace Go.Proofs.YticeaiiffeccmaaGreat
open Go
set_option maxRecDepth 100000
def jd (l : List Entry) (e : Entry) : Bool := dI l && dI (bS bp e l)
def qE (l : List Entry) (e : Entry) : List Entry := if jd l e = true then bS bp e l else l
set_option maxHeartbeats 1000000 in
theorem HR (l : List Entry) (e : Entry) (hl : l.length ≤ bc) (x : List Entry) (hx : x = qE l e) (b : Bool) (hb : b = jd l e) : Spec Tryz.prog 131 [lA .aH l, eA .aH e] (aE (.aT [(false, [.own .aH fun _ => x]), (false, [.bool fun _ => b])])) := by
 have hn : l.length ≤ 1048576 := hl;have fin : ∀ i, i ≤ l.length → (∀ (j : Nat) y, j < i → l[j]? = some y → bp y e = true) → (∀ y, l[i]? = some y → bp y e = false) → l.take i ++ e :: l.drop i = bS bp e l := fun i _ h1 h2 => (zD h1 h2).symm;refine ay au Tryz.func131 rfl rfl (fr := true) (fun _ => by kernel_rfl) fun P hP hA => ?_;cbv;refine ag.by hP (vK l hl) ?_;cbv;refine aU.by (X := Nat) (fun i => [(0, lA .aH l), (3, pN 0), (6, oN 1), (7, nT fun _ => i)]) (fun _ => [(0, .box ((bQ .aH fun _ => e).map .lf)), (1, aN .aH fun _ => l)]) (fun i => i ≤ l.length ∧ ∀ (j : Nat) y, j < i → l[j]? = some y → bp y e = true) (fun i _ => l.length - i) 0 ⟨Nat.zero_le _, fun j y hj => by omega⟩ ?_ ?_
 · cbv
   repeat' first | exact trivial | refine ⟨rfl, ?_⟩ | fail
 · intro i ⟨hi, hp⟩;have rest : ∀ (hf : ∀ y, l[i]? = some y → bp y e = false), l.take i ++ e :: l.drop i = bS bp e l := fin i hi hp;cbv;refine Br.dec (fun h2 => ?_) (fun h2 => ?_) <;> cbv
   · have h2 : i < l.length := by simpa using h2
     refine ⟨l[i], by simp, get_cast l h2, ?_⟩;cbv;refine ag.by hP (Gj l[i] e) ?_;cbv;refine Br.split (fun h3 => ?_) (fun h3 => ?_) <;> cbv
     · refine Ar.exact (by (try simp only [nc] at *); omega) (by (try simp only [nc] at *); omega) ?_;cbv;refine aP.by (i + 1) ?_ ?_ ?_
       · show l.length - (i + 1) < l.length - i;omega
       · exact ⟨h2, f_ h2 hp h3⟩
       · cbv
         repeat' first | exact trivial | refine ⟨rfl, ?_⟩ | fail
     · have h3 : bp l[i] e = false := h3
       have ee := rest fun y hy => by
         rw [List.getElem?_eq_getElem h2] at hy; cases hy; exact h3
       repeat' first
         | (refine ag.by hP (vK l hl) ?_; cbv)
         | (refine bB.by hP (HB l e i hi hl) ?_; cbv)
         | (refine ag.by hP (vA l (dI l) rfl) ?_; cbv)
         | refine And.intro ?_ ?_
         | fail
       all_goals
         refine Br.split (fun h4 => ?_) (fun h4 => ?_) <;> cbv
         · have h4 : (!dI l) = true := h4;have h4 : dI l = false := by simpa using h4
           have eb : jd l e = false := by rw [jd, h4]; rfl
           obtain rfl : l = x := (hx.trans (if_neg (by rw [eb]; simp))).symm;obtain rfl : b = false := hb.trans eb
           repeat' first | exact trivial | refine ⟨rfl, ?_⟩ | fail
         have h4 : (!dI l) = false := h4;have h4 : dI l = true := by simpa using h4
         refine ag.by hP (vA (l.take i ++ e :: l.drop i) (dI (bS bp e l)) (by rw [ee])) ?_;cbv;refine Br.split (fun h5 => ?_) (fun h5 => ?_) <;> cbv
         · have h5 : (!dI (bS bp e l)) = true := h5;have h5 : dI (bS bp e l) = false := by simpa using h5
           have eb : jd l e = false := by rw [jd, h4, h5]; rfl
           obtain rfl : l = x := (hx.trans (if_neg (by rw [eb]; simp))).symm;obtain rfl : b = false := hb.trans eb
           repeat' first | exact trivial | refine ⟨rfl, ?_⟩ | fail
         have h5 : (!dI (bS bp e l)) = false := h5;have h5 : dI (bS bp e l) = true := by simpa using h5
         have eb : jd l e = true := by rw [jd, h4, h5]; rfl
         obtain rfl : b = true := hb.trans eb;have ex : l.take i ++ e :: l.drop i = x := ee.trans (hx.trans (if_pos eb)).symm
         repeat' first | exact trivial | refine ⟨rfl, ?_⟩ | refine ⟨ex, ?_⟩ | fail
   · have h2 : l.length ≤ i := by simp at h2; omega
     have ee := rest fun y hy => by
       rw [List.getElem?_eq_none h2] at hy; cases hy
     repeat' first
       | (refine ag.by hP (vK l hl) ?_; cbv)
       | (refine bB.by hP (HB l e i hi hl) ?_; cbv)
       | (refine ag.by hP (vA l (dI l) rfl) ?_; cbv)
       | refine And.intro ?_ ?_
       | fail
     all_goals
       refine Br.split (fun h4 => ?_) (fun h4 => ?_) <;> cbv
       · have h4 : (!dI l) = true := h4;have h4 : dI l = false := by simpa using h4
         have eb : jd l e = false := by rw [jd, h4]; rfl
         obtain rfl : l = x := (hx.trans (if_neg (by rw [eb]; simp))).symm;obtain rfl : b = false := hb.trans eb
         repeat' first | exact trivial | refine ⟨rfl, ?_⟩ | fail
       have h4 : (!dI l) = false := h4;have h4 : dI l = true := by simpa using h4
       refine ag.by hP (vA (l.take i ++ e :: l.drop i) (dI (bS bp e l)) (by rw [ee])) ?_;cbv;refine Br.split (fun h5 => ?_) (fun h5 => ?_) <;> cbv
       · have h5 : (!dI (bS bp e l)) = true := h5;have h5 : dI (bS bp e l) = false := by simpa using h5
         have eb : jd l e = false := by rw [jd, h4, h5]; rfl
         obtain rfl : l = x := (hx.trans (if_neg (by rw [eb]; simp))).symm;obtain rfl : b = false := hb.trans eb
         repeat' first | exact trivial | refine ⟨rfl, ?_⟩ | fail
       have h5 : (!dI (bS bp e l)) = false := h5;have h5 : dI (bS bp e l) = true := by simpa using h5
       have eb : jd l e = true := by rw [jd, h4, h5]; rfl
       obtain rfl : b = true := hb.trans eb;have ex : l.take i ++ e :: l.drop i = x := ee.trans (hx.trans (if_pos eb)).symm
       repeat' first | exact trivial | refine ⟨rfl, ?_⟩ | refine ⟨ex, ?_⟩ | fail
def fb (R : bI) (p : aw) (now : Int) : Bool := bD R p now && (p.st == 2 && decide (p.asked + 1 < R.tries))
def eE (R : bI) (p : aw) (now : Int) : aw := { p with st := 1, cm := now + R.rest, asked := p.asked + 1 }
def yz (R : bI) (p : aw) (now : Int) : aw := if fb R p now = true then eE R p now else default
def HS (x : Unit → aw) : List Sh := [.int .i64 fun _ => (x ()).id, .int .i64 fun _ => (x ()).ah, .int .i64 fun _ => (x ()).ak, .int .i64 fun _ => (x ()).al, .int .i64 fun _ => (x ()).aJ,
 .int .i64 fun _ => (x ()).since, .int .i64 fun _ => (x ()).aC, .int .i64 fun _ => (x ()).st, .int .i64 fun _ => (x ()).cm, .int .i64 fun _ => (x ()).asked]
theorem BZ {R : bI} {p : aw} {now : Int} (h : bD R p now = true) : 0 ≤ p.asked ∧ p.asked ≤ R.tries - 1 := by
 simp only [bD, Bool.and_eq_true] at h;obtain ⟨_, _, _, _, _, _, _, _, _, _, h1, _⟩ := h;exact bO h1
set_option maxHeartbeats 1000000 in
theorem HT (R : bI) (p : aw) (now : Int) (hs : R.aj.length ≤ bc) (x : aw) (hx : x = yz R p now) (b : Bool) (hb : b = fb R p now) :
   Spec Tryz.prog 195 [gM R, eA .aG p, iA now] (aE (.aT [(true, HS fun _ => x), (false, [.bool fun _ => b])])) := by
 have no : fb R p now = false → x = default ∧ b = false := fun e => ⟨hx.trans (if_neg (by rw [e]; simp)), hb.trans e⟩;refine ay au Tryz.func195 rfl rfl (fr := true) (fun _ => by kernel_rfl) fun P hP hA => ?_;cbv;refine ag.by hP (Bi R p now hs (bD R p now) rfl) ?_;cbv;refine Br.split (fun k0 => ?_) (fun k0 => ?_) <;> cbv
 · have k0 : (!bD R p now) = true := k0;have k0 : bD R p now = false := by simpa using k0
   have e := no (by rw [fb, k0]; rfl);obtain rfl : x = default := e.1;obtain rfl : b = false := e.2
   repeat' first | exact trivial | refine ⟨rfl, ?_⟩ | fail
 have k0 : (!bD R p now) = false := k0;have k0 : bD R p now = true := by simpa using k0
 have ha := BZ k0;have hp := qo k0;have hn := hp.rH;have hr := fo hp.rules;have ht := hr.tries;have Po := hr.rest;refine Br.split (fun k1 => ?_) (fun k1 => ?_) <;> cbv
 · have k1 : (p.st != 2) = true := k1
   have e := no (by
    have k1 : (p.st == 2) = false := by simpa using k1
    rw [fb, k0, k1]; rfl)
   obtain rfl : x = default := e.1;obtain rfl : b = false := e.2
   repeat' first | exact trivial | refine ⟨rfl, ?_⟩ | fail
 have k1 : (p.st != 2) = false := k1;have k1 : (p.st == 2) = true := by simpa using k1
 refine Ar.exact (by (try simp only [nc] at *); omega) (by (try simp only [nc] at *); omega) ?_;cbv;refine Br.dec (fun k2 => ?_) (fun k2 => ?_) <;> cbv
 · have k2 : p.asked + 1 ≥ R.tries := by have k2 : p.asked + 1 ≥ R.tries := k2; omega
   have e := no (by rw [fb, k0, k1, decide_eq_false (by omega)]; rfl);obtain rfl : x = default := e.1;obtain rfl : b = false := e.2
   repeat' first | exact trivial | refine ⟨rfl, ?_⟩ | fail
 have k2 : p.asked + 1 < R.tries := by have k2 : ¬ p.asked + 1 ≥ R.tries := k2; omega
 have e : fb R p now = true := by rw [fb, k0, k1, decide_eq_true k2]; rfl
 obtain rfl : x = eE R p now := hx.trans (if_pos e);obtain rfl : b = true := hb.trans e;refine Ar.exact (by (try simp only [nc] at *); omega) (by (try simp only [nc] at *); omega) ?_;cbv;refine Ar.exact (by (try simp only [nc] at *); omega) (by (try simp only [nc] at *); omega) ?_;cbv
 repeat' first | exact trivial | refine ⟨rfl, ?_⟩ | fail
set_option maxHeartbeats 1000000 in
theorem HU (R : bI) (p : aw) (now : Int) (hs : R.aj.length ≤ bc) (x : aw) (hx : x = yz R p now) (b : Bool) (hb : b = fb R p now) :
   Spec Tryz.prog 129 [gM R, eA .aG p, iA now] (aE (.aT [(true, HS fun _ => x), (false, [.bool fun _ => b])])) := by
 have no : fb R p now = false → x = default ∧ b = false := fun e => ⟨hx.trans (if_neg (by rw [e]; simp)), hb.trans e⟩;refine ay au Tryz.func129 rfl rfl (fr := true) (fun _ => by kernel_rfl) fun P hP hA => ?_;cbv;refine ag.by hP (yf R p now hs (bD R p now) rfl) ?_;cbv;refine Br.split (fun k0 => ?_) (fun k0 => ?_) <;> cbv
 · have k0 : (!bD R p now) = true := k0;have k0 : bD R p now = false := by simpa using k0
   have e := no (by rw [fb, k0]; rfl);obtain rfl : x = default := e.1;obtain rfl : b = false := e.2
   repeat' first | exact trivial | refine ⟨rfl, ?_⟩ | fail
 have k0 : (!bD R p now) = false := k0;have k0 : bD R p now = true := by simpa using k0
 have ha := BZ k0;have hp := qo k0;have hn := hp.rH;have hr := fo hp.rules;have ht := hr.tries;have Po := hr.rest;refine Br.split (fun k1 => ?_) (fun k1 => ?_) <;> cbv
 · have k1 : (p.st != 2) = true := k1
   have e := no (by
    have k1 : (p.st == 2) = false := by simpa using k1
    rw [fb, k0, k1]; rfl)
   obtain rfl : x = default := e.1;obtain rfl : b = false := e.2
   repeat' first | exact trivial | refine ⟨rfl, ?_⟩ | fail
 have k1 : (p.st != 2) = false := k1;have k1 : (p.st == 2) = true := by simpa using k1
 refine Ar.exact (by (try simp only [nc] at *); omega) (by (try simp only [nc] at *); omega) ?_;cbv;refine Br.split (fun k2 => ?_) (fun k2 => ?_) <;> cbv
 · have k2 : p.asked + 1 ≥ R.tries := by
    have k2 : (p.asked + 1 == R.tries) = true := k2;have k2 : p.asked + 1 = R.tries := by simpa using k2
    omega
   have e := no (by rw [fb, k0, k1, decide_eq_false (by omega)]; rfl);obtain rfl : x = default := e.1;obtain rfl : b = false := e.2
   repeat' first | exact trivial | refine ⟨rfl, ?_⟩ | fail
 have k2 : p.asked + 1 < R.tries := by
   have k2 : (p.asked + 1 == R.tries) = false := k2;have k2 : ¬ p.asked + 1 = R.tries := by simpa using k2
   omega
 have e : fb R p now = true := by rw [fb, k0, k1, decide_eq_true k2]; rfl
 obtain rfl : x = eE R p now := hx.trans (if_pos e);obtain rfl : b = true := hb.trans e;refine Ar.exact (by (try simp only [nc] at *); omega) (by (try simp only [nc] at *); omega) ?_;cbv;refine Ar.exact (by (try simp only [nc] at *); omega) (by (try simp only [nc] at *); omega) ?_;cbv
 repeat' first | exact trivial | refine ⟨rfl, ?_⟩ | fail
theorem B0 {a e : Entry} (h : bp a e = false) (ht : a.aC ≠ e.aC) : bp e a = true := by
 simp only [bp, Bool.or_eq_false_iff, Bool.and_eq_false_iff, decide_eq_false_iff_not, beq_eq_false_iff_ne] at h;simp only [bp, Bool.or_eq_true, Bool.and_eq_true, decide_eq_true_eq, beq_iff_eq];omega
theorem HV {e : Entry} (he : fG e = true) : ∀ {l : List Entry}, ga l → (∀ y ∈ l, y.aV ≠ e.aV) → (∀ y ∈ l, y.aC ≠ e.aC) → ga (bS bp e l)
 | [], _, _, _ => ⟨fun x hx => by rw [bS, List.mem_singleton] at hx; rw [hx]; exact he, List.pairwise_singleton _ _, List.pairwise_singleton _ _⟩
 | a :: s, h, hn, ht => by
   obtain ⟨l1, l2⟩ := List.pairwise_cons.1 h.lt;obtain ⟨n1, n2⟩ := List.pairwise_cons.1 h.ne;have hs : ga s := ⟨fun x hx => h.ok x (List.mem_cons_of_mem _ hx), l2, n2⟩;have ih := HV he hs (fun y hy => hn y (List.mem_cons_of_mem _ hy)) (fun y hy => ht y (List.mem_cons_of_mem _ hy));rw [bS]
   split
   · rename_i aR;refine ⟨fun x hx => ?_, List.pairwise_cons.2 ⟨fun b hb => ?_, ih.lt⟩, List.pairwise_cons.2 ⟨fun b hb => ?_, ih.ne⟩⟩
     · rcases List.mem_cons.1 hx with rfl | hx
       · exact h.ok _ List.mem_cons_self
       · exact ih.ok x hx
     · rcases qW.1 hb with rfl | hb
       · exact aR
       · exact l1 b hb
     · rcases qW.1 hb with rfl | hb
       · exact hn a List.mem_cons_self
       · exact n1 b hb
   · rename_i aR;have aR : bp e a = true := B0 (by simpa using aR) (ht a List.mem_cons_self);refine ⟨fun x hx => ?_, List.pairwise_cons.2 ⟨fun b hb => ?_, h.lt⟩, List.pairwise_cons.2 ⟨fun b hb => fun q => hn b hb q.symm, h.ne⟩⟩
     · rcases List.mem_cons.1 hx with rfl | hx
       · exact he
       · exact h.ok x hx
     · rcases List.mem_cons.1 hb with rfl | hb
       · exact aR
       · exact oz.tr _ _ _ aR (l1 b hb)
theorem HW {l : List Entry} {e : Entry} (h : ga l) (hl : l.length ≤ 9) (he : fG e = true) (hn : ∀ y ∈ l, y.aV ≠ e.aV) (ht : ∀ y ∈ l, y.aC ≠ e.aC) : qE l e = bS bp e l := by
 have h1 : dI l = true := vz (by omega) h;have h2 : dI (bS bp e l) = true := vz (by rw [w7]; omega) (HV he h hn ht);rw [qE, jd, h1, h2]; rfl
structure Pp (R : bI) (p : aw) : Prop where
 id : 1 ≤ p.id ∧ p.id ≤ 999
 ah : 0 ≤ p.ah ∧ p.ah ≤ (R.aj.length : Int) - 1
 ak : -1 ≤ p.ak ∧ p.ak ≤ (R.aj.length : Int) - 1
 ne : ¬ p.ak = p.ah
 aC : 1 ≤ p.aC ∧ p.aC ≤ 1000000
 st : p.st = 1 ∨ p.st = 2
theorem o_ {R : bI} {p : aw} {now : Int} (h : bD R p now = true) : Pp R p := by
 simp only [bD, Bool.and_eq_true, Bool.or_eq_true, beq_iff_eq, Bool.not_eq_true', beq_eq_false_iff_ne] at h;obtain ⟨_, _, h1, h2, h3, h4, _, _, _, h5, _, h6⟩ := h;exact ⟨bO h1, bO h2, bO h3, h4, bO h5, h6.elim (fun q => .inl q.1) (fun q => .inr q.1)⟩
theorem v8 {R : bI} {p : aw} {now : Int} (h : bD R p now = true) (h1 : p.st = 1) : dw R p now = kC R p now := by
 rw [dw, if_pos (by rw [eQ, h, h1]; rfl)]
theorem B3 {R : bI} {p : aw} {now : Int} (h : bD R p now = true) (h1 : p.st = 1) : fG (dw R p now) = true := by
 have g := qo h;have g2 := o_ h;have gr := fo g.rules;have ht := bO g.aJ;have q1 := g.since;have q2 := g.rH;have q3 := gr.period;have q4 := gr.cn;have q5 := gr.size;have q6 := g.al;have q7 := g2.id;have q8 := g2.aC;have q9 := Bl (a := now - p.since) (b := R.period) (by omega) (by omega) (by omega);have e0 : 0 ≤ lvl R p.aJ (now - p.since) := Ge _ _ _;have e1 : lvl R p.aJ (now - p.since) ≤ 4 := by unfold lvl; split <;> omega
 rw [v8 h h1, kC, ma, if_pos h];simp only [fG, aq, Bool.and_eq_true, decide_eq_true_eq];omega
theorem HX (R : bI) (now : Int) (k : Int) : ∀ l : List aw, (l.filter fun p => eQ R p now && p.ah == k).length + (l.filter fun p => p.st == 2 && p.ah == k).length ≤ af (bU k) l
 | [] => Nat.le_refl _
 | p :: l => by
   have ih := HX R now k l;have e : af (bU k) (p :: l) = bU k p + af (bU k) l := rfl;rw [e, List.filter_cons, List.filter_cons];cases hc : (p.ah == k) with
   | false => simp [hc]; omega
   | true =>
     have e2 : bU k p = 1 := by rw [bU, if_pos hc]
     rw [e2];cases h1 : eQ R p now with
     | false =>
       cases h2 : (p.st == 2) <;> simp <;> omega
     | true =>
       have h2 : (p.st == 2) = false := by
        have h3 : (p.st == 1) = true := by simp only [eQ, Bool.and_eq_true] at h1; exact h1.2
        have h3 : p.st = 1 := by simpa using h3
        rw [h3]; rfl
       simp [h2]; omega
structure Pq (h : an) (k : Nat) (c : bd) : Prop where
 pre : ga c.row
 bT : c.row.length + (fA (k : Int) h.ae).length ≤ af (bU (k : Int)) h.ae
 room : ((af (bU (k : Int)) h.ae : Nat) : Int) ≤ h.rules.room
 of : ∀ y ∈ c.row, ∃ z ∈ h.ae, z.ah = (k : Int) ∧ z.st = 1 ∧ y.aV = z.id ∧ y.aC = z.aC
 row : c.row = fH h.rules h.ae (k : Int) h.now
 pins : bL c.spoke = gO h.ae (k : Int)
 mg : bz c.spoke = true
 me : a_ c.aj = true
 held : c.aj.held = ((af (cz (k : Int)) h.ae : Nat) : Int)
 tied : c.aj.tied = ((af (cF (k : Int)) h.ae : Nat) : Int)
 total : c.aj.total = h.rules.aj.getD k 0
theorem rS {h : an} (hg : HG h) {k : Nat} {c : bd} (hk : h.cabins[k]? = some c) : Pq h k c := by
 have h1 := hg.ah k c hk;simp only [iq, fI, kG, Bool.and_eq_true, decide_eq_true_eq, beq_iff_eq] at h1;obtain ⟨h0, h2, ⟨q1, q2, q3⟩, h3, h4, h5, h6⟩ := h1
 have hq : ga c.row := by
   simp only [dI, Bool.and_eq_true, decide_eq_true_eq] at q2;exact q2.2
 refine ⟨hq, ?_, h2, fun y hy => ?_, h3, h4, q3, q1, h5, h6, h0⟩
 · have := HX h.rules h.now (k : Int) h.ae;rw [h3, fH, mz, fe, List.length_map, fA, List.length_map];exact this
 · rw [h3, fH, uE] at hy;obtain ⟨z, hz, rfl⟩ := List.mem_map.1 hy;obtain ⟨z1, z2⟩ := List.mem_filter.1 hz;simp only [Bool.and_eq_true, beq_iff_eq] at z2;obtain ⟨z2, z3⟩ := z2;have z4 := z2;simp only [eQ, Bool.and_eq_true, beq_iff_eq] at z4;exact ⟨z, z1, z3, z4.2, by rw [dw, if_pos z2]; rfl, by rw [dw, if_pos z2]; rfl⟩
theorem B4 {R : bI} {now aC : Int} {l : List aw} (h : dF R now aC l) {p q : aw} (hp : p ∈ l) (hq : q ∈ l) (aX : p ≠ q) : p.id ≠ q.id ∧ p.aC ≠ q.aC := by
 obtain ⟨i, hi, rfl⟩ := List.getElem_of_mem hp;obtain ⟨j, hj, rfl⟩ := List.getElem_of_mem hq;have hs := List.pairwise_iff_getElem.1 h.gb;have hf := List.pairwise_iff_getElem.1 h.fair;have ft : ∀ {a b : aw}, gx a b = true → a.aC ≠ b.aC := fun {a b} h e => by simp [gx, e] at h
 rcases Nat.lt_trichotomy i j with n_ | rfl | n_
 · have h1 := hs i j hi hj n_;have h2 := ft (hf i j hi hj n_);exact ⟨by omega, h2⟩
 · exact (aX rfl).elim
 · have h1 := hs j i hj hi n_;have h2 := ft (hf j i hj hi n_);exact ⟨by omega, fun e => h2 e.symm⟩
theorem B5 : ∀ (n : Nat) {l : List Int}, (∀ x ∈ l, 0 ≤ x ∧ x < (n : Int)) → (l.Pairwise fun a b => a ≠ b) → l.length ≤ n
 | 0, [], _, _ => Nat.le_refl _
 | 0, x :: l, h, _ => by have := h x List.mem_cons_self; omega
 | n + 1, l, h, hp => by
   by_cases q : (n : Int) ∈ l
   · have pm := List.perm_cons_erase q;obtain ⟨n1, n2⟩ := List.pairwise_cons.1 ((pm.pairwise_iff (fun {a b} q e => q e.symm)).1 hp)
     have ih := B5 n (l := l.erase (n : Int)) (fun x hx => by
      have h1 := h x (pm.mem_iff.2 (List.mem_cons_of_mem _ hx));have h2 := n1 x hx;omega) n2
     have := pm.length_eq;rw [List.length_cons] at this; omega
   · have ih := B5 n (l := l) (fun x hx => by
      have h1 := h x hx;have h2 : x ≠ (n : Int) := fun e => q (e ▸ hx);omega) hp
     omega
theorem pa {h : an} (hg : HG h) : h.todo.length ≤ 4 := by
 have h1 := B5 h.cabins.length (l := h.todo) (fun x hx => by have := bO (hg.aF.todo x hx); omega) hg.aF.once;have h2 := (fo hg.rules).len;have h3 := hg.kI;omega
end Go.Proofs.YticeaiiffeccmaaGreat

