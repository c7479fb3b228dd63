/- Parts of a proof. No conditions. -/

import Derived.Test.YtehpbaiclfilaaaGreatGKe
import Derived.Test.YtehpbaiclfilaaaGreatG18
import Derived.Test.YtehpbaiclfilaaaGreatG09
import Derived.Test.YtehpbaiclfilaaaGreatG14
import Derived.Test.YtehpbaiclfilaaaGreatG16
set_option linter.unusedSimpArgs false
set_option linter.unusedVariables false
namespace Go.Proofs.YtehpbaiclfilaaaGreat
open Go
set_option maxRecDepth 100000
def jJ (l : List Entry) (e : Entry) : Bool := dJ l && dJ (bG aY e l)
def sy (l : List Entry) (e : Entry) : List Entry := if jJ l e = true then bG aY e l else l
set_option maxHeartbeats 1000000 in
theorem Ku (l : List Entry) (e : Entry) (hl : l.length ≤ aR) (x : List Entry) (hx : x = sy l e) (b : Bool) (hb : b = jJ l e) : Spec Tryz.prog 99 [lA .aD l, eA .aD e] (aE (.bc [(false, [.own .aD fun _ => x]), (false, [.bool fun _ => b])])) := by
 have hn : l.length ≤ 1048576 := hl;have fin : ∀ i, i ≤ l.length → (∀ (j : Nat) y, j < i → l[j]? = some y → aY y e = true) → (∀ y, l[i]? = some y → aY y e = false) → l.take i ++ e :: l.drop i = bG aY e l := fun i _ h1 h2 => (BN h1 h2).symm;refine aH ay Tryz.func99 rfl rfl (fr := true) (fun _ => by kernel_rfl) fun P hP hA => ?_;cbv;refine ag.by hP (xH l hl) ?_;cbv;refine aT.by (X := Nat) (fun i => [(0, lA .aD l), (3, pN 0), (6, oN 1), (7, nT fun _ => i)]) (fun _ => [(0, .box ((bQ .aD fun _ => e).map .lf)), (1, aQ .aD fun _ => l)]) (fun i => i ≤ l.length ∧ ∀ (j : Nat) y, j < i → l[j]? = some y → aY y e = true) (fun i _ => l.length - i) 0 ⟨Nat.zero_le _, fun j y hj => by omega⟩ ?_ ?_
 · cbv
   repeat' first | exact trivial | refine ⟨rfl, ?_⟩ | fail
 · intro i ⟨hi, hp⟩;have rest : ∀ (hf : ∀ y, l[i]? = some y → aY y e = false), l.take i ++ e :: l.drop i = bG aY e l := fin i hi hp;cbv;refine Br.dec (fun h2 => ?_) (fun h2 => ?_) <;> cbv
   · have h2 : i < l.length := by simpa using h2
     refine ⟨l[i], by simp, get_cast l h2, ?_⟩;cbv;refine ag.by hP (IS l[i] e) ?_;cbv;refine Br.split (fun h3 => ?_) (fun h3 => ?_) <;> cbv
     · refine Ar.exact (by (try simp only [nc] at *); omega) (by (try simp only [nc] at *); omega) ?_;cbv;refine aJ.by (i + 1) ?_ ?_ ?_
       · show l.length - (i + 1) < l.length - i;omega
       · exact ⟨h2, il h2 hp h3⟩
       · cbv
         repeat' first | exact trivial | refine ⟨rfl, ?_⟩ | fail
     · have h3 : aY l[i] e = false := h3
       have ee := rest fun y hy => by
         rw [List.getElem?_eq_getElem h2] at hy; cases hy; exact h3
       repeat' first
         | (refine ag.by hP (xH l hl) ?_; cbv)
         | (refine aB.by hP (JU l e i hi hl) ?_; cbv)
         | (refine ag.by hP (xw l (dJ l) rfl) ?_; cbv)
         | refine And.intro ?_ ?_
         | fail
       all_goals
         refine Br.split (fun h4 => ?_) (fun h4 => ?_) <;> cbv
         · have h4 : (!dJ l) = true := h4;have h4 : dJ l = false := by simpa using h4
           have eb : jJ l e = false := by rw [jJ, h4]; rfl
           obtain rfl : l = x := (hx.trans (if_neg (by rw [eb]; simp))).symm;obtain rfl : b = false := hb.trans eb
           repeat' first | exact trivial | refine ⟨rfl, ?_⟩ | fail
         have h4 : (!dJ l) = false := h4;have h4 : dJ l = true := by simpa using h4
         refine ag.by hP (xw (l.take i ++ e :: l.drop i) (dJ (bG aY e l)) (by rw [ee])) ?_;cbv;refine Br.split (fun h5 => ?_) (fun h5 => ?_) <;> cbv
         · have h5 : (!dJ (bG aY e l)) = true := h5;have h5 : dJ (bG aY e l) = false := by simpa using h5
           have eb : jJ l e = false := by rw [jJ, h4, h5]; rfl
           obtain rfl : l = x := (hx.trans (if_neg (by rw [eb]; simp))).symm;obtain rfl : b = false := hb.trans eb
           repeat' first | exact trivial | refine ⟨rfl, ?_⟩ | fail
         have h5 : (!dJ (bG aY e l)) = false := h5;have h5 : dJ (bG aY e l) = true := by simpa using h5
         have eb : jJ l e = true := by rw [jJ, h4, h5]; rfl
         obtain rfl : b = true := hb.trans eb;have ex : l.take i ++ e :: l.drop i = x := ee.trans (hx.trans (if_pos eb)).symm
         repeat' first | exact trivial | refine ⟨rfl, ?_⟩ | refine ⟨ex, ?_⟩ | fail
   · have h2 : l.length ≤ i := by simp at h2; omega
     have ee := rest fun y hy => by
       rw [List.getElem?_eq_none h2] at hy; cases hy
     repeat' first
       | (refine ag.by hP (xH l hl) ?_; cbv)
       | (refine aB.by hP (JU l e i hi hl) ?_; cbv)
       | (refine ag.by hP (xw l (dJ l) rfl) ?_; cbv)
       | refine And.intro ?_ ?_
       | fail
     all_goals
       refine Br.split (fun h4 => ?_) (fun h4 => ?_) <;> cbv
       · have h4 : (!dJ l) = true := h4;have h4 : dJ l = false := by simpa using h4
         have eb : jJ l e = false := by rw [jJ, h4]; rfl
         obtain rfl : l = x := (hx.trans (if_neg (by rw [eb]; simp))).symm;obtain rfl : b = false := hb.trans eb
         repeat' first | exact trivial | refine ⟨rfl, ?_⟩ | fail
       have h4 : (!dJ l) = false := h4;have h4 : dJ l = true := by simpa using h4
       refine ag.by hP (xw (l.take i ++ e :: l.drop i) (dJ (bG aY e l)) (by rw [ee])) ?_;cbv;refine Br.split (fun h5 => ?_) (fun h5 => ?_) <;> cbv
       · have h5 : (!dJ (bG aY e l)) = true := h5;have h5 : dJ (bG aY e l) = false := by simpa using h5
         have eb : jJ l e = false := by rw [jJ, h4, h5]; rfl
         obtain rfl : l = x := (hx.trans (if_neg (by rw [eb]; simp))).symm;obtain rfl : b = false := hb.trans eb
         repeat' first | exact trivial | refine ⟨rfl, ?_⟩ | fail
       have h5 : (!dJ (bG aY e l)) = false := h5;have h5 : dJ (bG aY e l) = true := by simpa using h5
       have eb : jJ l e = true := by rw [jJ, h4, h5]; rfl
       obtain rfl : b = true := hb.trans eb;have ex : l.take i ++ e :: l.drop i = x := ee.trans (hx.trans (if_pos eb)).symm
       repeat' first | exact trivial | refine ⟨rfl, ?_⟩ | refine ⟨ex, ?_⟩ | fail
def iF (R : bp) (p : au) (now : Int) : Bool := bF R p now && (p.st == 2 && decide (p.asked + 1 < R.tries))
def dE (R : bp) (p : au) (now : Int) : au := { p with st := 1, bW := now + R.rest, asked := p.asked + 1 }
def Kv (R : bp) (p : au) (now : Int) : au := if iF R p now = true then dE R p now else default
def Sr (x : Unit → au) : List Sh := [.int .i64 fun _ => (x ()).id, .int .i64 fun _ => (x ()).cf, .int .i64 fun _ => (x ()).al, .int .i64 fun _ => (x ()).siz, .int .i64 fun _ => (x ()).aK,
 .int .i64 fun _ => (x ()).since, .int .i64 fun _ => (x ()).aw, .int .i64 fun _ => (x ()).st, .int .i64 fun _ => (x ()).bW, .int .i64 fun _ => (x ()).asked]
theorem As {R : bp} {p : au} {now : Int} (h : bF R p now = true) : 0 ≤ p.asked ∧ p.asked ≤ R.tries - 1 := by
 simp only [bF, Bool.and_eq_true] at h;obtain ⟨_, _, _, _, _, _, _, _, _, _, h1, _⟩ := h;exact bB h1
set_option maxHeartbeats 1000000 in
theorem Kw (R : bp) (p : au) (now : Int) (hs : R.ah.length ≤ aR) (x : au) (hx : x = Kv R p now) (b : Bool) (hb : b = iF R p now) :
   Spec Tryz.prog 170 [gu R, eA .az p, iA now] (aE (.bc [(true, Sr fun _ => x), (false, [.bool fun _ => b])])) := by
 have no : iF R p now = false → x = default ∧ b = false := fun e => ⟨hx.trans (if_neg (by rw [e]; simp)), hb.trans e⟩;refine aH ay Tryz.func170 rfl rfl (fr := true) (fun _ => by kernel_rfl) fun P hP hA => ?_;cbv;refine ag.by hP (zP R p now hs (bF R p now) rfl) ?_;cbv;refine Br.split (fun k0 => ?_) (fun k0 => ?_) <;> cbv
 · have k0 : (!bF R p now) = true := k0;have k0 : bF R p now = false := by simpa using k0
   have e := no (by rw [iF, k0]; rfl);obtain rfl : x = default := e.1;obtain rfl : b = false := e.2
   repeat' first | exact trivial | refine ⟨rfl, ?_⟩ | fail
 have k0 : (!bF R p now) = false := k0;have k0 : bF R p now = true := by simpa using k0
 have ha := As k0;have hp := iB k0;have hn := hp.rV;have hr := dO hp.rules;have ht := hr.tries;have VB := hr.rest;refine Br.split (fun k1 => ?_) (fun k1 => ?_) <;> cbv
 · have k1 : (p.st != 2) = true := k1
   have e := no (by
    have k1 : (p.st == 2) = false := by simpa using k1
    rw [iF, k0, k1]; rfl)
   obtain rfl : x = default := e.1;obtain rfl : b = false := e.2
   repeat' first | exact trivial | refine ⟨rfl, ?_⟩ | fail
 have k1 : (p.st != 2) = false := k1;have k1 : (p.st == 2) = true := by simpa using k1
 refine Ar.exact (by (try simp only [nc] at *); omega) (by (try simp only [nc] at *); omega) ?_;cbv;refine Br.split (fun k2 => ?_) (fun k2 => ?_) <;> cbv
 · have k2 : p.asked + 1 ≥ R.tries := by
    have k2 : (p.asked + 1 == R.tries) = true := k2;have k2 : p.asked + 1 = R.tries := by simpa using k2
    omega
   have e := no (by rw [iF, k0, k1, decide_eq_false (by omega)]; rfl);obtain rfl : x = default := e.1;obtain rfl : b = false := e.2
   repeat' first | exact trivial | refine ⟨rfl, ?_⟩ | fail
 have k2 : p.asked + 1 < R.tries := by
   have k2 : (p.asked + 1 == R.tries) = false := k2;have k2 : ¬ p.asked + 1 = R.tries := by simpa using k2
   omega
 have e : iF R p now = true := by rw [iF, k0, k1, decide_eq_true k2]; rfl
 obtain rfl : x = dE R p now := hx.trans (if_pos e);obtain rfl : b = true := hb.trans e;refine Ar.exact (by (try simp only [nc] at *); omega) (by (try simp only [nc] at *); omega) ?_;cbv;refine Ar.exact (by (try simp only [nc] at *); omega) (by (try simp only [nc] at *); omega) ?_;cbv
 repeat' first | exact trivial | refine ⟨rfl, ?_⟩ | fail
theorem At {a e : Entry} (h : aY a e = false) (ht : a.aw ≠ e.aw) : aY e a = true := by
 simp only [aY, Bool.or_eq_false_iff, Bool.and_eq_false_iff, decide_eq_false_iff_not, beq_eq_false_iff_ne] at h;simp only [aY, Bool.or_eq_true, Bool.and_eq_true, decide_eq_true_eq, beq_iff_eq];omega
theorem Kx {e : Entry} (he : fY e = true) : ∀ {l : List Entry}, gE l → (∀ y ∈ l, y.bg ≠ e.bg) → (∀ y ∈ l, y.aw ≠ e.aw) → gE (bG aY e l)
 | [], _, _, _ => ⟨fun x hx => by rw [bG, List.mem_singleton] at hx; rw [hx]; exact he, List.pairwise_singleton _ _, List.pairwise_singleton _ _⟩
 | a :: s, h, hn, ht => by
   obtain ⟨l1, l2⟩ := List.pairwise_cons.1 h.lt;obtain ⟨n1, n2⟩ := List.pairwise_cons.1 h.ne;have hs : gE s := ⟨fun x hx => h.ok x (List.mem_cons_of_mem _ hx), l2, n2⟩;have ih := Kx he hs (fun y hy => hn y (List.mem_cons_of_mem _ hy)) (fun y hy => ht y (List.mem_cons_of_mem _ hy));rw [bG]
   split
   · rename_i aL;refine ⟨fun x hx => ?_, List.pairwise_cons.2 ⟨fun b hb => ?_, ih.lt⟩, List.pairwise_cons.2 ⟨fun b hb => ?_, ih.ne⟩⟩
     · rcases List.mem_cons.1 hx with rfl | hx
       · exact h.ok _ List.mem_cons_self
       · exact ih.ok x hx
     · rcases pL.1 hb with rfl | hb
       · exact aL
       · exact l1 b hb
     · rcases pL.1 hb with rfl | hb
       · exact hn a List.mem_cons_self
       · exact n1 b hb
   · rename_i aL;have aL : aY e a = true := At (by simpa using aL) (ht a List.mem_cons_self);refine ⟨fun x hx => ?_, List.pairwise_cons.2 ⟨fun b hb => ?_, h.lt⟩, List.pairwise_cons.2 ⟨fun b hb => fun q => hn b hb q.symm, h.ne⟩⟩
     · rcases List.mem_cons.1 hx with rfl | hx
       · exact he
       · exact h.ok x hx
     · rcases List.mem_cons.1 hb with rfl | hb
       · exact aL
       · exact lD.tr _ _ _ aL (l1 b hb)
theorem Ky {l : List Entry} {e : Entry} (h : gE l) (hl : l.length ≤ 9) (he : fY e = true) (hn : ∀ y ∈ l, y.bg ≠ e.bg) (ht : ∀ y ∈ l, y.aw ≠ e.aw) : sy l e = bG aY e l := by
 have h1 : dJ l = true := xv (by omega) h;have h2 : dJ (bG aY e l) = true := xv (by rw [wA]; omega) (Kx he h hn ht);rw [sy, jJ, h1, h2]; rfl
structure Ss (R : bp) (p : au) : Prop where
 id : 1 ≤ p.id ∧ p.id ≤ 999
 cf : 0 ≤ p.cf ∧ p.cf ≤ (R.ah.length : Int) - 1
 al : -1 ≤ p.al ∧ p.al ≤ (R.ah.length : Int) - 1
 ne : ¬ p.al = p.cf
 aw : 1 ≤ p.aw ∧ p.aw ≤ 1000000
 st : p.st = 1 ∨ p.st = 2
theorem gb {R : bp} {p : au} {now : Int} (h : bF R p now = true) : Ss R p := by
 simp only [bF, Bool.and_eq_true, Bool.or_eq_true, beq_iff_eq, Bool.not_eq_true', beq_eq_false_iff_ne] at h;obtain ⟨_, _, h1, h2, h3, h4, _, _, _, h5, _, h6⟩ := h;exact ⟨bB h1, bB h2, bB h3, h4, bB h5, h6.elim (fun q => .inl q.1) (fun q => .inr q.1)⟩
theorem sA {R : bp} {p : au} {now : Int} (h : bF R p now = true) (h1 : p.st = 1) : cn R p now = eV R p now := by
 rw [cn, if_pos (by rw [fu, h, h1]; rfl)]
theorem Ev {R : bp} {p : au} {now : Int} (h : bF R p now = true) (h1 : p.st = 1) : fY (cn R p now) = true := by
 have g := iB h;have g2 := gb h;have gr := dO g.rules;have ht := bB g.aK;have q1 := g.since;have q2 := g.rV;have q3 := gr.period;have q4 := gr.cm;have q5 := gr.size;have q6 := g.siz;have q7 := g2.id;have q8 := g2.aw;have q9 := DA (a := now - p.since) (b := R.period) (by omega) (by omega) (by omega);have e0 : 0 ≤ lvl R p.aK (now - p.since) := IM _ _ _;have e1 : lvl R p.aK (now - p.since) ≤ 4 := by unfold lvl; split <;> omega
 rw [sA h h1, eV, fO, if_pos h];simp only [fY, aj, Bool.and_eq_true, decide_eq_true_eq];omega
theorem Kz (R : bp) (now : Int) (k : Int) : ∀ l : List au, (l.filter fun p => fu R p now && p.cf == k).length + (l.filter fun p => p.st == 2 && p.cf == k).length ≤ aV (bx k) l
 | [] => Nat.le_refl _
 | p :: l => by
   have ih := Kz R now k l;have e : aV (bx k) (p :: l) = bx k p + aV (bx k) l := rfl;rw [e, List.filter_cons, List.filter_cons];cases hc : (p.cf == k) with
   | false => simp [hc]; omega
   | true =>
     have e2 : bx k p = 1 := by rw [bx, if_pos hc]
     rw [e2];cases h1 : fu R p now with
     | false =>
       cases h2 : (p.st == 2) <;> simp <;> omega
     | true =>
       have h2 : (p.st == 2) = false := by
        have h3 : (p.st == 1) = true := by simp only [fu, Bool.and_eq_true] at h1; exact h1.2
        have h3 : p.st = 1 := by simpa using h3
        rw [h3]; rfl
       simp [h2]; omega
structure St (h : ai) (k : Nat) (c : a_) : Prop where
 pre : gE c.row
 bT : c.row.length + (fP (k : Int) h.ae).length ≤ aV (bx (k : Int)) h.ae
 room : ((aV (bx (k : Int)) h.ae : Nat) : Int) ≤ h.rules.room
 of : ∀ y ∈ c.row, ∃ z ∈ h.ae, z.cf = (k : Int) ∧ z.st = 1 ∧ y.bg = z.id ∧ y.aw = z.aw
 row : c.row = cH h.rules h.ae (k : Int) h.now
 pins : bC c.spoke = gF h.ae (k : Int)
 kh : br c.spoke = true
 eD : aZ c.ah = true
 held : c.ah.held = ((aV (cp (k : Int)) h.ae : Nat) : Int)
 tied : c.ah.tied = ((aV (cz (k : Int)) h.ae : Nat) : Int)
 total : c.ah.total = h.rules.ah.getD k 0
theorem sB {h : ai} (hg : HG h) {k : Nat} {c : a_} (hk : h.cabins[k]? = some c) : St h k c := by
 have h1 := hg.cf k c hk;simp only [iC, fQ, im, Bool.and_eq_true, decide_eq_true_eq, beq_iff_eq] at h1;obtain ⟨h0, h2, ⟨q1, q2, q3⟩, h3, h4, h5, h6⟩ := h1
 have hq : gE c.row := by
   simp only [dJ, Bool.and_eq_true, decide_eq_true_eq] at q2;exact q2.2
 refine ⟨hq, ?_, h2, fun y hy => ?_, h3, h4, q3, q1, h5, h6, h0⟩
 · have := Kz h.rules h.now (k : Int) h.ae;rw [h3, cH, jy, fx, List.length_map, fP, List.length_map];exact this
 · rw [h3, cH, wB] at hy;obtain ⟨z, hz, rfl⟩ := List.mem_map.1 hy;obtain ⟨z1, z2⟩ := List.mem_filter.1 hz;simp only [Bool.and_eq_true, beq_iff_eq] at z2;obtain ⟨z2, z3⟩ := z2;have z4 := z2;simp only [fu, Bool.and_eq_true, beq_iff_eq] at z4;exact ⟨z, z1, z3, z4.2, by rw [cn, if_pos z2]; rfl, by rw [cn, if_pos z2]; rfl⟩
theorem sC {R : bp} {now aw : Int} {l : List au} (h : cY R now aw l) {p q : au} (hp : p ∈ l) (hq : q ∈ l) (hne : p ≠ q) : p.id ≠ q.id ∧ p.aw ≠ q.aw := by
 obtain ⟨i, hi, rfl⟩ := List.getElem_of_mem hp;obtain ⟨j, hj, rfl⟩ := List.getElem_of_mem hq;have hs := List.pairwise_iff_getElem.1 h.fm;have hf := List.pairwise_iff_getElem.1 h.fair;have ft : ∀ {a b : au}, fR a b = true → a.aw ≠ b.aw := fun {a b} h e => by simp [fR, e] at h
 rcases Nat.lt_trichotomy i j with pC | rfl | pC
 · have h1 := hs i j hi hj pC;have h2 := ft (hf i j hi hj pC);exact ⟨by omega, h2⟩
 · exact (hne rfl).elim
 · have h1 := hs j i hj hi pC;have h2 := ft (hf j i hj hi pC);exact ⟨by omega, fun e => h2 e.symm⟩
theorem Ew : ∀ (n : Nat) {l : List Int}, (∀ x ∈ l, 0 ≤ x ∧ x < (n : Int)) → (l.Pairwise fun a b => a ≠ b) → l.length ≤ n
 | 0, [], _, _ => Nat.le_refl _
 | 0, x :: l, h, _ => by have := h x List.mem_cons_self; omega
 | n + 1, l, h, hp => by
   by_cases q : (n : Int) ∈ l
   · have pm := List.perm_cons_erase q;obtain ⟨n1, n2⟩ := List.pairwise_cons.1 ((pm.pairwise_iff (fun {a b} q e => q e.symm)).1 hp)
     have ih := Ew n (l := l.erase (n : Int)) (fun x hx => by
      have h1 := h x (pm.mem_iff.2 (List.mem_cons_of_mem _ hx));have h2 := n1 x hx;omega) n2
     have := pm.length_eq;rw [List.length_cons] at this; omega
   · have ih := Ew n (l := l) (fun x hx => by
      have h1 := h x hx;have h2 : x ≠ (n : Int) := fun e => q (e ▸ hx);omega) hp
     omega
theorem tP {h : ai} (hg : HG h) : h.todo.length ≤ 4 := by
 have h1 := Ew h.cabins.length (l := h.todo) (fun x hx => by have := bB (hg.aN.todo x hx); omega) hg.aN.once;have h2 := (dO hg.rules).len;have h3 := hg.fy;omega
end Go.Proofs.YtehpbaiclfilaaaGreat

