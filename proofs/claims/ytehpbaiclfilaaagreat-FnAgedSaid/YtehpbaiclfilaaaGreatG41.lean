/- Parts of a proof. No conditions. -/

import Derived.Test.YtehpbaiclfilaaaGreatG40
import Derived.Test.YtehpbaiclfilaaaGreatG43
set_option linter.unusedSimpArgs false
set_option linter.unusedVariables false
namespace Go.Proofs.YtehpbaiclfilaaaGreat
open Go
set_option maxRecDepth 100000
theorem yh {l : List Int} {x : Int} : hasB l x = true ↔ x ∈ l := by simp [hasB]
theorem AR {l : List Int} {k x : Int} : x ∈ fG l k ↔ x ∈ l ∨ x = k := by
 unfold fG; split
 · rename_i h;exact ⟨.inl, fun q => q.elim id fun e => by subst e; exact yh.1 h⟩
 · simp
theorem tY (h : ai) {x : Int} : ∀ n, x ∈ iL h n ↔ x ∈ h.todo ∨ ∃ k : Nat, k < n ∧ x = (k : Int) ∧ ja h (k : Int) > 0
 | 0 => ⟨.inl, fun q => q.elim id fun ⟨k, h, _⟩ => by omega⟩
 | n + 1 => by
   have ih := tY h (x := x) n;rw [iL]; split
   · rename_i hc;rw [AR, ih]
     constructor
     · rintro ((a | ⟨k, a, b⟩) | rfl)
       · exact .inl a
       · exact .inr ⟨k, by omega, b⟩
       · exact .inr ⟨n, by omega, rfl, hc⟩
     · rintro (a | ⟨k, a, b, c⟩)
       · exact .inl (.inl a)
       · by_cases e : k = n
         · subst e; exact .inr b
         · exact .inl (.inr ⟨k, by omega, b, c⟩)
   · rename_i hc;rw [ih]
     constructor
     · rintro (a | ⟨k, a, b⟩)
       · exact .inl a
       · exact .inr ⟨k, by omega, b⟩
     · rintro (a | ⟨k, a, b, c⟩)
       · exact .inl a
       · by_cases e : k = n
         · subst e; exact (hc c).elim
         · exact .inr ⟨k, by omega, b, c⟩
theorem Jy (h : ai) {i : Nat} (hi : i < h.cabins.length) (hv : bM h lu = 0) : hasB (gw h).todo (i : Int) = (hasB h.todo (i : Int) || decide (ja h (i : Int) > 0)) := by
 have e : (gw h).todo = iL h h.cabins.length := by rw [gw, if_pos hv]; rfl
 rw [e, Bool.eq_iff_iff];simp only [Bool.or_eq_true, decide_eq_true_eq, yh, tY]
 constructor
 · rintro (a | ⟨k, _, b, c⟩)
   · exact .inl a
   · have : i = k := by omega
     subst this; exact .inr c
 · rintro (a | a)
   · exact .inl a
   · exact .inr ⟨i, hi, rfl, a⟩
theorem Ll (h : ai) : (gw h).cabins.length = h.cabins.length := by
 unfold gw; split
 · exact sN _ _
 · rfl
theorem yi (h : ai) (p : au) : (dw h p).ae = fo h.ae p.id := (iJ _ _).2.2.2.1
theorem HG.eD {h : ai} (hg : HG h) {j : Nat} {c : a_} (hj : h.cabins[j]? = some c) : (0 ≤ c.ah.free ∧ c.ah.free ≤ 60) ∧ (0 ≤ c.ah.held ∧ c.ah.held ≤ 60) ∧ (0 ≤ c.ah.aU ∧ c.ah.aU ≤ 60) ∧ (0 ≤ c.ah.tied ∧ c.ah.tied ≤ 60) := by
 have g := jM.1 (hg.dR hj).eD;have h1 := g.total;have h2 := g.free;have h3 := g.held;have h4 := g.aU;have h5 := g.tied;omega
section
variable {h : ai} {i k : Nat} {p : au} {c : a_}
theorem yj (ok : bF h.rules p h.now = true) (h2 : p.st = 2) : iF h.rules p h.now = true ↔ p.asked ≠ h.rules.tries - 1 := by
 have := As ok;simp only [iF, ok, h2, Bool.and_eq_true, decide_eq_true_eq, beq_self_eq_true, true_and];omega
end
theorem Ln {h : ai} {id : Int} {i : Nat} {p : au} (h1 : aP h.ae id = (i : Int)) (h2 : h.ae[i]? = some p) : ca h id = p := by
 rw [ca, h1, Int.toNat_natCast, h2]; rfl
theorem ub {h : ai} (hg : HG h) {z : au} (hz : z ∈ h.ae) : fv h z.id = true ∧ ca h z.id = z := by
 obtain ⟨i, hi, h3, h4⟩ := sI (iG hg.ae) hz;refine ⟨?_, Ln h3 (by rw [List.getElem?_eq_getElem hi, h4])⟩;rw [fv, cI.2 hg, h3]; simp
theorem HG.AT {h : ai} (hg : HG h) {z : au} (hz : z ∈ h.ae) : ∃ (k : Nat) (c : a_), z.cf = (k : Int) ∧ h.cabins[k]? = some c ∧ aC h z.cf = c := by
 have ph := (gb (hg.ae.ok z hz).1).cf;have hl := hg.fy;have hk : z.cf.toNat < h.cabins.length := by omega
 refine ⟨z.cf.toNat, h.cabins[z.cf.toNat], by omega, List.getElem?_eq_getElem hk, ?_⟩;rw [aC, List.getElem?_eq_getElem hk]; rfl
theorem TM {l : List Entry} {id : Int} {y : Entry} (hy : y ∈ l) (e : y.bg = id) : ∃ i, ∃ hi : i < l.length, dm l id = (i : Int) ∧ l[i].bg = id := by
 rcases hO (fun e : Entry => e.bg == id) l with ⟨_, hn⟩ | ⟨i, hi, h1, h2, _⟩
 · have := hn y hy;simp [e] at this
 · exact ⟨i, hi, h1, by simpa using h2⟩
theorem TN {l : List Entry} {id : Int} (h : ∀ y ∈ l, y.bg ≠ id) : dm l id = -1 := by
 rcases hO (fun e : Entry => e.bg == id) l with ⟨h1, _⟩ | ⟨i, hi, _, h2, _⟩
 · exact h1
 · exact (h _ (List.getElem_mem hi) (by simpa using h2)).elim
theorem AU {h : ai} (hg : HG h) {z : au} (hz : z ∈ h.ae) (h1 : z.st = 1) : ∃ (n : Nat) (e : Entry), placeOf h z.id = (n : Int) ∧ (aC h z.cf).row[n]? = some e ∧ e = eV h.rules z h.now := by
 obtain ⟨k1, k2⟩ := ub hg hz;obtain ⟨k, c, e1, hk, e2⟩ := hg.AT hz;have g := hg.dR hk;have hm : eV h.rules z h.now ∈ c.row := by rw [g.row]; exact (mE hg.ae).2 ⟨z, hz, e1, h1, rfl⟩
 obtain ⟨n, hn, h3, h4⟩ := TM hm (id := z.id) rfl;refine ⟨n, c.row[n], ?_, by rw [e2]; exact List.getElem?_eq_getElem hn, ?_⟩
 · rw [placeOf, if_pos k1, k2, e2, h3]
 · have hy : c.row[n] ∈ c.row := List.getElem_mem hn;generalize c.row[n] = y at h4 hy ⊢;rw [g.row] at hy;obtain ⟨z2, qo, _, _, e⟩ := (mE hg.ae).1 hy
   by_cases q : z2 = z
   · rw [q] at e; exact e
   · have := (sC hg.ae qo hz q).1;rw [e] at h4;exact (this h4).elim
theorem Lo {h : ai} (hg : HG h) {z : au} (hz : z ∈ h.ae) (h2 : z.st = 2) : placeOf h z.id = -1 := by
 obtain ⟨k1, k2⟩ := ub hg hz;obtain ⟨k, c, e1, hk, e2⟩ := hg.AT hz;have g := hg.dR hk;rw [placeOf, if_pos k1, k2, e2];refine TN fun y hy e => ?_;rw [g.row] at hy;obtain ⟨z2, qo, _, hs, rfl⟩ := (mE hg.ae).1 hy
 by_cases q : z2 = z
 · rw [q, h2] at hs; cases hs
 · exact (sC hg.ae qo hz q).1 e
theorem Lp {e : Entry} {P : Entry → Bool} : ∀ {l : List Entry}, (∀ y ∈ l, aY y e = P y) → (∀ y ∈ l, y.bg ≠ e.bg) → (l.Pairwise fun a b => P b = true → P a = true) → dm (bG aY e l) e.bg = ((l.countP P : Nat) : Int)
 | [], _, _, _ => by simp [bG, dm, hM]
 | a :: s, h1, h2, h3 => by
   obtain ⟨p1, p2⟩ := List.pairwise_cons.1 h3;have ih := Lp (l := s) (fun y hy => h1 y (List.mem_cons_of_mem _ hy)) (fun y hy => h2 y (List.mem_cons_of_mem _ hy)) p2;have ha := h1 a List.mem_cons_self;have hne := h2 a List.mem_cons_self;rw [bG, ha];cases hp : P a with
   | true =>
     rw [if_pos rfl, List.countP_cons, hp, if_pos rfl];have hf : (a.bg == e.bg) = false := by simpa using hne
     rw [dm, hM, List.findIdx?_cons, hf];rw [dm, hM] at ih;cases hq : List.findIdx? (fun x : Entry => x.bg == e.bg) (bG aY e s) with
     | none => rw [hq] at ih; simp only at ih; omega
     | some m => rw [hq] at ih; simp only [Bool.false_eq_true, if_false, Option.map_some] at ih ⊢; omega
   | false =>
     have hz : (a :: s).countP P = 0 := by
      rw [List.countP_eq_zero];intro y hy;rcases List.mem_cons.1 hy with rfl | hy
      · rw [hp]; simp
      · intro q; have := p1 y hy q; rw [hp] at this; cases this
     rw [if_neg (by simp), hz, dm, hM, List.findIdx?_cons];simp
theorem TO {R : bp} {t : Int} (h : 0 ≤ t) : lvl R t 0 = t := by
 rw [lvl, Int.zero_tdiv, if_neg (by omega)]; omega
section
variable {h : ai} {p : au} {k : Nat} {c : a_}
theorem gd.place (o : gd h p k c) (hs : p.since = h.now) : placeOf (cZ h p) p.id = ((c.row.countP fun e => decide (e.lvl ≤ p.aK) : Nat) : Int) := by
 have nW := o.yg hs;have pt := o.az hs;have fj := yf h p;have hp : p ∈ (cZ h p).ae := by rw [fj.2.2.2.1]; exact (pt.2.1 p).2 (.inl rfl)
 obtain ⟨k1, k2⟩ := ub nW hp
 have AV : (aC (cZ h p) p.cf).row = bG aY (cn h.rules p h.now) c.row := by
   have hk := bq o.hk
   have e1 : (iK h p).cabins = h.cabins.set k (iH c (cn h.rules p h.now)) := by
    show h.cabins.set p.cf.toNat (iH (aC (pc h p) p.cf) (cn h.rules p h.now)) = _;rw [o.cf, Int.toNat_natCast];rw [show aC (pc h p) (k : Int) = c from iI o.hk]
   have e2 : (cZ h p).cabins = (nD (iK h p) p).cabins := rfl
   have e3 : (nD (iK h p) p).cabins[k]? = some (iH c (cn h.rules p h.now)) := by
    unfold nD; split
    · rw [e1, List.getElem?_set, if_pos rfl, if_pos hk]
    · have hne : p.al ≠ p.cf := (gb o.ok).ne;have fr := (gb o.ok).al;rename_i hf;show ((iK h p).cabins.set p.al.toNat _)[k]? = _;rw [List.getElem?_set, if_neg (by have := o.cf; omega), e1, List.getElem?_set, if_pos rfl, if_pos hk]
   rw [o.cf, iI (h := cZ h p) (by rw [e2]; exact e3)];rfl
 rw [placeOf, if_pos k1, k2, AV];have ee : cn h.rules p h.now = eV h.rules p h.now := sA o.ok o.st
 have TQ : (eV h.rules p h.now).lvl = p.aK := by
   have pg := iB o.ok;have ht := bB pg.aK;show fO h.rules p h.now = p.aK;rw [fO, if_pos o.ok, hs, Int.sub_self, TO ht.1]
 have g := o.hg.dR o.hk
 have mem : ∀ y ∈ c.row, ∃ z ∈ h.ae, y = eV h.rules z h.now := fun y hy => by
   rw [g.row] at hy;obtain ⟨z, hz, _, _, e⟩ := (mE o.hg.ae).1 hy;exact ⟨z, hz, e⟩
 rw [ee];refine Lp (e := eV h.rules p h.now) (fun y hy => ?_) (fun y hy => ?_) ?_
 · obtain ⟨z, hz, rfl⟩ := mem y hy;have h1 := (o.hg.ae.ok z hz).2;have h2 : (eV h.rules p h.now).aw = h.aw := o.aw;have h3 : (eV h.rules z h.now).aw < h.aw := h1;rw [aY, TQ, h2, Bool.eq_iff_iff];simp only [Bool.or_eq_true, Bool.and_eq_true, decide_eq_true_eq, beq_iff_eq];omega
 · obtain ⟨z, hz, rfl⟩ := mem y hy;exact (o.none hz).1
 · rw [g.row];refine (nz o.hg.ae _).imp fun {a b} q r => ?_;simp only [aY, Bool.or_eq_true, Bool.and_eq_true, decide_eq_true_eq, beq_iff_eq] at q;have r : b.lvl ≤ p.aK := by simpa using r
   simp only [decide_eq_true_eq];omega
end
section
variable (t js : List Int)
end
end Go.Proofs.YtehpbaiclfilaaaGreat

