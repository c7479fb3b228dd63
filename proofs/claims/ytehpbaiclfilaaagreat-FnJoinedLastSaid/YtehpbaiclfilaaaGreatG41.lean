/- Parts of a proof. No conditions. -/

import Derived.Test.YtehpbaiclfilaaaGreatG40
import Derived.Test.YtehpbaiclfilaaaGreatG43
set_option linter.unusedSimpArgs false
set_option linter.unusedVariables false
namespace Go.Proofs.YtehpbaiclfilaaaGreat
open Go
set_option maxRecDepth 100000
theorem K3 {h : ai} {q : dL} (h0 : aW h = true) (h1 : aj q.kind 1 7 = true) : decide (bM h q = 3) = !dN q := by
 cases h2 : dN q with
 | false => rw [Aw h0 h1 h2]; rfl
 | true =>
   have : bM h q ≠ 3 := by
    rw [bM, if_neg (by rw [h0]; simp), if_neg (by rw [h1]; simp), if_neg (by rw [h2]; simp)];unfold xV Ex tQ Ey
    repeat' split
    all_goals omega
   simpa using this
theorem yh {l : List Int} {x : Int} : hasB l x = true ↔ x ∈ l := by simp [hasB]
theorem AR {l : List Int} {k x : Int} : x ∈ fG l k ↔ x ∈ l ∨ x = k := by
 unfold fG; split
 · rename_i h;exact ⟨.inl, fun q => q.elim id fun e => by subst e; exact yh.1 h⟩
 · simp
theorem Ll (h : ai) : (gw h).cabins.length = h.cabins.length := by
 unfold gw; split
 · exact sN _ _
 · rfl
theorem yi (h : ai) (p : au) : (dw h p).ae = fo h.ae p.id := (iJ _ _).2.2.2.1
theorem AK {R : bp} {now aw : Int} {l : List au} (hp : cY R now aw l) (id : Int) : aP (fo l id) id < 0 := by
 rcases hO (fun p : au => p.id == id) l with ⟨e, hn⟩ | ⟨i, hi, e, e1, _⟩
 · have e : aP l id = -1 := e;have : fo l id = l := by rw [fo, e]; rfl
   rw [this, e]; omega
 · have e : aP l id = (i : Int) := e;have e1 : l[i].id = id := by simpa using e1
   rw [vF e];rcases hO (fun p : au => p.id == id) (l.take i ++ l.drop (i + 1)) with ⟨e2, _⟩ | ⟨j, hj, _, e3, _⟩
   · have e2 : aP (l.take i ++ l.drop (i + 1)) id = -1 := e2;omega
   · have e3 : (l.take i ++ l.drop (i + 1))[j].id = id := by simpa using e3
     have := (tU (iG hp) hi).1 (List.getElem_mem hj);exact (this.2 (e3.trans e1.symm)).elim
theorem K4 {h : ai} {id : Int} (ho : e_ h id = false) : bM h (fJ id) = bM h (ir id) ∧ bM h (fJ id) ≠ 0 := by
 have e : bM h (fJ id) = bM h (ir id) := by
  simp [bM, fJ, ir, dN, aj]
 refine ⟨e, fun hv => ?_⟩;obtain ⟨i, k, p, c, o, dQ, ep, st⟩ := nE (q := fJ id) (.inl rfl) hv;have dQ : p.id = id := dQ;have ep : ca h id = p := ep
 have : e_ h id = true := by
  rw [e_, fv, ep, st, cI.2 o.hg, ← dQ, o.at_]; simp
 rw [ho] at this; cases this
theorem K5 {h : ai} {id : Int} (ho : e_ h id = true) : HG h ∧ (nq h id).tm = (ca h id).bW ∧ bM h (fJ id) = (if (ca h id).bW ≤ h.now then 14 else 0) ∧ bM h (ir id) = (if (ca h id).bW ≤ h.now then 14 else 0) := by
 have pX := ho;simp only [e_, fv, Bool.and_eq_true, decide_eq_true_eq, beq_iff_eq] at pX;obtain ⟨⟨h0, h1⟩, h2⟩ := pX;have hg := cI.1 h0;obtain ⟨i, c, kn⟩ := known hg h1;have dQ := (gb kn.ok).id;rw [kn.id] at dQ;have hf : field id = true := by simp [field]; omega
 have key : tQ h id = if (ca h id).bW ≤ h.now then 14 else 0 := by
  rw [tQ, if_neg (by omega), if_neg (by rw [h2]; simp)];simp [eT, h2]
 refine ⟨hg, by rw [nq, if_pos ho], ?_, ?_⟩
 · rw [tS h0 (by simp [dN, fJ, hf]) (.inl rfl)]; exact key
 · rw [tS h0 (by simp [dN, ir, hf]) (.inr rfl)]; exact key
theorem K6 {h : ai} {id : Int} (hv : bM h (fJ id) = 0) : aP (lU h id).ae id < 0 := by
 obtain ⟨i, k, p, c, o, dQ, ep, st⟩ := nE (q := fJ id) (.inl rfl) hv;have dQ : p.id = id := dQ;have ep : ca h id = p := ep
 have : (lU h id).ae = fo h.ae id := by
  rw [lU, if_pos hv, ep, mG]
  split
  · rw [yi, dQ]; rfl
  · show (dw (dS h p) p).ae = _;rw [yi, dQ]; rfl
 rw [this];exact AK o.hg.ae id
theorem HG.eD {h : ai} (hg : HG h) {j : Nat} {c : a_} (hj : h.cabins[j]? = some c) : (0 ≤ c.ah.free ∧ c.ah.free ≤ 60) ∧ (0 ≤ c.ah.held ∧ c.ah.held ≤ 60) ∧ (0 ≤ c.ah.aU ∧ c.ah.aU ≤ 60) ∧ (0 ≤ c.ah.tied ∧ c.ah.tied ≤ 60) := by
 have g := jM.1 (hg.dR hj).eD;have h1 := g.total;have h2 := g.free;have h3 := g.held;have h4 := g.aU;have h5 := g.tied;omega
def oa (p : au) (j : Int) (x : bA) : bA :=
 if j = p.cab then ⟨x.total, x.free, x.held - p.siz, x.aU + p.siz, x.tied⟩ else if j = p.al then ⟨x.total, x.free + p.siz, x.held, x.aU - p.siz, x.tied - p.siz⟩ else x
section
variable {h : ai} {i k : Nat} {p : au} {c : a_}
theorem bJ.K7 (o : bJ h i k p c) (h2 : p.st = 2) {j : Nat} {c0 : a_} (hj : h.cabins[j]? = some c0) : ∃ c1, (mG h p).cabins[j]? = some c1 ∧ c1.ah = oa p (j : Int) c0.ah := by
 have g := o.hg.dR o.hk;have sz := o.siz;have ls := AJ g.eD (n := p.siz) (by omega) (o.held h2);have e : dS h p = bI h (k : Int) (w4 c p) := by rw [dS, o.jL, o.cab]
 have hlen : (dw (dS h p) p).cabins.length = h.cabins.length := (sL _ _).trans (jK _ _ _);have gA := bq hj;obtain ⟨c1, cT⟩ : ∃ c1, (dw (dS h p) p).cabins[j]? = some c1 := ⟨_, List.getElem?_eq_getElem (by rw [hlen]; exact gA)⟩;have nV := cT;rw [e] at nV;obtain ⟨AS, cO, h5⟩ := vS o nV;rw [hj] at cO;cases cO;have K8 := (gb o.ok).ne;unfold mG
 split
 · rename_i hf;refine ⟨c1, cT, ?_⟩;rcases h5 with ⟨q, q2, q3⟩ | ⟨_, q, _⟩ | ⟨q, q2, q3⟩
   · rw [q3, oa, if_pos (by rw [o.cab, q]), q2];exact ls.1
   · omega
   · rw [q3, oa, if_neg (by rw [o.cab]; omega), if_neg (by omega)]
 · rename_i hf;obtain ⟨f, ef⟩ := o.al.resolve_left hf;have gK : f < (dw (dS h p) p).cabins.length := by rw [hlen]; exact ef.lt
   have K_ : (t_ (dw (dS h p) p) p.al p.siz).cabins = (dw (dS h p) p).cabins.set f { (dw (dS h p) p).cabins[f] with ah := bz (dw (dS h p) p).cabins[f].ah p.siz 1 0 (-1) 0 } := by
     show AM (dw (dS h p) p) p.al p.siz 1 0 (-1) 0 = _;rw [ef.eq, AM, iI (List.getElem?_eq_getElem gK), Int.toNat_natCast]
   rw [K_, List.getElem?_set]
   by_cases ej : f = j
   · subst ej;rw [if_pos rfl, if_pos gK];refine ⟨_, rfl, ?_⟩;have e1 : (dw (dS h p) p).cabins[f] = c1 := by rw [List.getElem?_eq_getElem gK] at cT; exact Option.some.inj cT
     have hne : f ≠ k := fun q => K8 (by rw [ef.eq, o.cab, q]);have gj := o.hg.dR hj;have s3 := nB (cz (f : Int)) o.lt.1;rw [o.lt.2, vO ef.eq sz] at s3;have t1 := gj.tied;have t2 := vP gj.eD (n := p.siz) (by omega) (by omega);have t3 := (jM.1 gj.eD).tied;rcases h5 with ⟨q, _⟩ | ⟨_, _, q⟩ | ⟨_, q, _⟩
     · exact (hne q).elim
     · show bz (dw (dS h p) p).cabins[f].ah p.siz 1 0 (-1) 0 = _;have e2 : c1.ah = ⟨c0.ah.total, c0.ah.free, c0.ah.held, c0.ah.aU, c0.ah.tied - p.siz⟩ := by rw [q]; exact t2.1
       have e3 : aZ c1.ah = true := by rw [q]; exact t2.2
       rw [e1, (La e3 (n := p.siz) (by omega) (by rw [e2]; show p.siz ≤ c0.ah.aU - (c0.ah.tied - p.siz); omega)).1, e2, oa, if_neg (by rw [o.cab]; omega), if_pos (by rw [ef.eq])]
     · exact (q ef.eq).elim
   · rw [if_neg ej];refine ⟨c1, cT, ?_⟩;rcases h5 with ⟨q, q2, q3⟩ | ⟨_, q, _⟩ | ⟨q, q2, q3⟩
     · rw [q3, oa, if_pos (by rw [o.cab, q]), q2];exact ls.1
     · have := ef.eq; omega
     · rw [q3, oa, if_neg (by rw [o.cab]; omega), if_neg q2.symm]
theorem bJ.Lk (o : bJ h i k p c) (hf : ¬ p.al < 0) : hasB (mG h p).todo p.al = true := by
 rw [yh, mG, if_neg (by omega)];exact AR.2 (.inr rfl)
theorem bJ.Lm (o : bJ h i k p c) (h2 : p.st = 2) : ∃ c1, (nH h p).cabins[k]? = some c1 ∧ c1.ah.free = c.ah.free + p.siz := by
 have dr := (o.drop h2).1;have hk := bq o.hk;show ∃ c1, (dK h p).cabins[k]? = some c1 ∧ _;unfold dK
 split
 · rw [sK o];refine ⟨_, by rw [List.getElem?_set, if_pos rfl, if_pos hk], ?_⟩;show (fH c p).ah.free = _;rw [dr]
 · have hlen : (dw (dv h p) p).cabins.length = h.cabins.length := (sL _ _).trans (jK _ _ _);obtain ⟨c1, cT⟩ : ∃ c1, (dw (dv h p) p).cabins[k]? = some c1 := ⟨_, List.getElem?_eq_getElem (by rw [hlen]; exact hk)⟩;refine ⟨c1, cT, ?_⟩;have e : dv h p = bI h (k : Int) (fH c p) := by rw [dv, o.jL, o.cab]
   rw [e] at cT;obtain ⟨c0, _, h5⟩ := vS o cT;rcases h5 with ⟨_, _, q⟩ | ⟨q, _⟩ | ⟨q, _⟩
   · rw [q, dr]
   · exact (q rfl).elim
   · exact (q rfl).elim
theorem yj (ok : bF h.rules p h.now = true) (h2 : p.st = 2) : iF h.rules p h.now = true ↔ p.asked ≠ h.rules.tries - 1 := by
 have := As ok;simp only [iF, ok, h2, Bool.and_eq_true, decide_eq_true_eq, beq_self_eq_true, true_and];omega
theorem bJ.Lq (o : bJ h i k p c) (h2 : p.st = 2) (hl : p.asked = h.rules.tries - 1) : aP (nH h p).ae p.id < 0 := by
 show aP (dK h p).ae p.id < 0;rw [dK, if_neg (fun q => (yj o.ok h2).1 q hl), yi];exact AK o.hg.ae p.id
theorem bJ.Ls (o : bJ h i k p c) (h2 : p.st = 2) (hl : p.asked ≠ h.rules.tries - 1) : aP (nH h p).ae p.id = (i : Int) ∧ (nH h p).ae[i]? = some (dE h.rules p h.now) := by
 have hi := o.lt;show aP (dK h p).ae p.id = _ ∧ (dK h p).ae[i]? = _;rw [dK, if_pos ((yj o.ok h2).2 hl), sK o];have e : (h.ae.set i (dE h.rules p h.now))[i]? = some (dE h.rules p h.now) := by rw [List.getElem?_set, if_pos rfl, if_pos hi.1]
 refine ⟨?_, e⟩;have nW := o.AG h2;rw [dK, if_pos ((yj o.ok h2).2 hl), sK o] at nW;obtain ⟨j, hj, h3, h4⟩ := sI (iG nW.ae) (List.mem_of_getElem? e);have h3 : aP (h.ae.set i (dE h.rules p h.now)) p.id = (j : Int) := h3;have fW := nW.ae.fm
 have : j = i := by
  rcases Nat.lt_trichotomy j i with q | q | q
  · have := List.pairwise_iff_getElem.1 fW j i hj (by rw [List.length_set]; exact hi.1) q;rw [h4] at this;have e5 : (h.ae.set i (dE h.rules p h.now))[i]'(by rw [List.length_set]; exact hi.1) = dE h.rules p h.now := by rw [List.getElem_set, if_pos rfl]
    rw [e5] at this; omega
  · exact q
  · have := List.pairwise_iff_getElem.1 fW i j (by rw [List.length_set]; exact hi.1) hj q;rw [h4] at this;have e5 : (h.ae.set i (dE h.rules p h.now))[i]'(by rw [List.length_set]; exact hi.1) = dE h.rules p h.now := by rw [List.getElem_set, if_pos rfl]
    rw [e5] at this; omega
 rw [h3, this]
theorem LB (h : ai) (p : au) : hasB (nH h p).todo p.cab = true := yh.2 (AR.2 (.inr rfl))
end
theorem Ln {h : ai} {id : Int} {i : Nat} {p : au} (h1 : aP h.ae id = (i : Int)) (h2 : h.ae[i]? = some p) : ca h id = p := by
 rw [ca, h1, Int.toNat_natCast, h2]; rfl
theorem ub {h : ai} (hg : HG h) {z : au} (hz : z ∈ h.ae) : fv h z.id = true ∧ ca h z.id = z := by
 obtain ⟨i, hi, h3, h4⟩ := sI (iG hg.ae) hz;refine ⟨?_, Ln h3 (by rw [List.getElem?_eq_getElem hi, h4])⟩;rw [fv, cI.2 hg, h3]; simp
theorem HG.AT {h : ai} (hg : HG h) {z : au} (hz : z ∈ h.ae) : ∃ (k : Nat) (c : a_), z.cab = (k : Int) ∧ h.cabins[k]? = some c ∧ aC h z.cab = c := by
 have ph := (gb (hg.ae.ok z hz).1).cab;have hl := hg.fy;have hk : z.cab.toNat < h.cabins.length := by omega
 refine ⟨z.cab.toNat, h.cabins[z.cab.toNat], by omega, List.getElem?_eq_getElem hk, ?_⟩;rw [aC, List.getElem?_eq_getElem hk]; rfl
theorem TM {l : List Entry} {id : Int} {y : Entry} (hy : y ∈ l) (e : y.bg = id) : ∃ i, ∃ hi : i < l.length, dm l id = (i : Int) ∧ l[i].bg = id := by
 rcases hO (fun e : Entry => e.bg == id) l with ⟨_, hn⟩ | ⟨i, hi, h1, h2, _⟩
 · have := hn y hy;simp [e] at this
 · exact ⟨i, hi, h1, by simpa using h2⟩
theorem TN {l : List Entry} {id : Int} (h : ∀ y ∈ l, y.bg ≠ id) : dm l id = -1 := by
 rcases hO (fun e : Entry => e.bg == id) l with ⟨h1, _⟩ | ⟨i, hi, _, h2, _⟩
 · exact h1
 · exact (h _ (List.getElem_mem hi) (by simpa using h2)).elim
theorem AU {h : ai} (hg : HG h) {z : au} (hz : z ∈ h.ae) (h1 : z.st = 1) : ∃ (n : Nat) (e : Entry), placeOf h z.id = (n : Int) ∧ (aC h z.cab).row[n]? = some e ∧ e = eV h.rules z h.now := by
 obtain ⟨k1, k2⟩ := ub hg hz;obtain ⟨k, c, e1, hk, e2⟩ := hg.AT hz;have g := hg.dR hk;have hm : eV h.rules z h.now ∈ c.row := by rw [g.row]; exact (mE hg.ae).2 ⟨z, hz, e1, h1, rfl⟩
 obtain ⟨n, hn, h3, h4⟩ := TM hm (id := z.id) rfl;refine ⟨n, c.row[n], ?_, by rw [e2]; exact List.getElem?_eq_getElem hn, ?_⟩
 · rw [placeOf, if_pos k1, k2, e2, h3]
 · have hy : c.row[n] ∈ c.row := List.getElem_mem hn;generalize c.row[n] = y at h4 hy ⊢;rw [g.row] at hy;obtain ⟨z2, qo, _, _, e⟩ := (mE hg.ae).1 hy
   by_cases q : z2 = z
   · rw [q] at e; exact e
   · have := (sC hg.ae qo hz q).1;rw [e] at h4;exact (this h4).elim
theorem Lo {h : ai} (hg : HG h) {z : au} (hz : z ∈ h.ae) (h2 : z.st = 2) : placeOf h z.id = -1 := by
 obtain ⟨k1, k2⟩ := ub hg hz;obtain ⟨k, c, e1, hk, e2⟩ := hg.AT hz;have g := hg.dR hk;rw [placeOf, if_pos k1, k2, e2];refine TN fun y hy e => ?_;rw [g.row] at hy;obtain ⟨z2, qo, _, hs, rfl⟩ := (mE hg.ae).1 hy
 by_cases q : z2 = z
 · rw [q, h2] at hs; cases hs
 · exact (sC hg.ae qo hz q).1 e
theorem Lp {e : Entry} {P : Entry → Bool} : ∀ {l : List Entry}, (∀ y ∈ l, aY y e = P y) → (∀ y ∈ l, y.bg ≠ e.bg) → (l.Pairwise fun a b => P b = true → P a = true) → dm (bG aY e l) e.bg = ((l.countP P : Nat) : Int)
 | [], _, _, _ => by simp [bG, dm, hM]
 | a :: s, h1, h2, h3 => by
   obtain ⟨p1, p2⟩ := List.pairwise_cons.1 h3;have ih := Lp (l := s) (fun y hy => h1 y (List.mem_cons_of_mem _ hy)) (fun y hy => h2 y (List.mem_cons_of_mem _ hy)) p2;have ha := h1 a List.mem_cons_self;have hne := h2 a List.mem_cons_self;rw [bG, ha];cases hp : P a with
   | true =>
     rw [if_pos rfl, List.countP_cons, hp, if_pos rfl];have hf : (a.bg == e.bg) = false := by simpa using hne
     rw [dm, hM, List.findIdx?_cons, hf];rw [dm, hM] at ih;cases hq : List.findIdx? (fun x : Entry => x.bg == e.bg) (bG aY e s) with
     | none => rw [hq] at ih; simp only at ih; omega
     | some m => rw [hq] at ih; simp only [Bool.false_eq_true, if_false, Option.map_some] at ih ⊢; omega
   | false =>
     have hz : (a :: s).countP P = 0 := by
      rw [List.countP_eq_zero];intro y hy;rcases List.mem_cons.1 hy with rfl | hy
      · rw [hp]; simp
      · intro q; have := p1 y hy q; rw [hp] at this; cases this
     rw [if_neg (by simp), hz, dm, hM, List.findIdx?_cons];simp
theorem TO {R : bp} {t : Int} (h : 0 ≤ t) : lvl R t 0 = t := by
 rw [lvl, Int.zero_tdiv, if_neg (by omega)]; omega
section
variable {h : ai} {p : au} {k : Nat} {c : a_}
theorem gd.place (o : gd h p k c) (hs : p.since = h.now) : placeOf (cZ h p) p.id = ((c.row.countP fun e => decide (e.lvl ≤ p.aK) : Nat) : Int) := by
 have nW := o.yg hs;have pt := o.az hs;have fj := yf h p;have hp : p ∈ (cZ h p).ae := by rw [fj.2.2.2.1]; exact (pt.2.1 p).2 (.inl rfl)
 obtain ⟨k1, k2⟩ := ub nW hp
 have AV : (aC (cZ h p) p.cab).row = bG aY (cn h.rules p h.now) c.row := by
   have hk := bq o.hk
   have e1 : (iK h p).cabins = h.cabins.set k (iH c (cn h.rules p h.now)) := by
    show h.cabins.set p.cab.toNat (iH (aC (pc h p) p.cab) (cn h.rules p h.now)) = _;rw [o.cab, Int.toNat_natCast];rw [show aC (pc h p) (k : Int) = c from iI o.hk]
   have e2 : (cZ h p).cabins = (nD (iK h p) p).cabins := rfl
   have e3 : (nD (iK h p) p).cabins[k]? = some (iH c (cn h.rules p h.now)) := by
    unfold nD; split
    · rw [e1, List.getElem?_set, if_pos rfl, if_pos hk]
    · have hne : p.al ≠ p.cab := (gb o.ok).ne;have fr := (gb o.ok).al;rename_i hf;show ((iK h p).cabins.set p.al.toNat _)[k]? = _;rw [List.getElem?_set, if_neg (by have := o.cab; omega), e1, List.getElem?_set, if_pos rfl, if_pos hk]
   rw [o.cab, iI (h := cZ h p) (by rw [e2]; exact e3)];rfl
 rw [placeOf, if_pos k1, k2, AV];have ee : cn h.rules p h.now = eV h.rules p h.now := sA o.ok o.st
 have TQ : (eV h.rules p h.now).lvl = p.aK := by
   have pg := iB o.ok;have ht := bB pg.aK;show fO h.rules p h.now = p.aK;rw [fO, if_pos o.ok, hs, Int.sub_self, TO ht.1]
 have g := o.hg.dR o.hk
 have mem : ∀ y ∈ c.row, ∃ z ∈ h.ae, y = eV h.rules z h.now := fun y hy => by
   rw [g.row] at hy;obtain ⟨z, hz, _, _, e⟩ := (mE o.hg.ae).1 hy;exact ⟨z, hz, e⟩
 rw [ee];refine Lp (e := eV h.rules p h.now) (fun y hy => ?_) (fun y hy => ?_) ?_
 · obtain ⟨z, hz, rfl⟩ := mem y hy;have h1 := (o.hg.ae.ok z hz).2;have h2 : (eV h.rules p h.now).aw = h.aw := o.aw;have h3 : (eV h.rules z h.now).aw < h.aw := h1;rw [aY, TQ, h2, Bool.eq_iff_iff];simp only [Bool.or_eq_true, Bool.and_eq_true, decide_eq_true_eq, beq_iff_eq];omega
 · obtain ⟨z, hz, rfl⟩ := mem y hy;exact (o.none hz).1
 · rw [g.row];refine (nz o.hg.ae _).imp fun {a b} q r => ?_;simp only [aY, Bool.or_eq_true, Bool.and_eq_true, decide_eq_true_eq, beq_iff_eq] at q;have r : b.lvl ≤ p.aK := by simpa using r
   simp only [decide_eq_true_eq];omega
end
theorem LC {h : ai} {id cab al siz aK : Int} (hv : bM h (kM id cab al siz aK) = 0) : placeOf (oU h id cab al siz aK) id = (((cH h.rules h.ae cab h.now).countP fun e => decide (e.lvl ≤ aK) : Nat) : Int) := by
 obtain ⟨k, c, o⟩ := tY hv;have := o.place rfl
 have e : cH h.rules h.ae cab h.now = c.row := by
  rw [(o.hg.dR o.hk).row, show (k : Int) = cab from o.cab.symm]
 rw [oU, if_pos hv, e];exact this
section
variable (t js : List Int)
end
end Go.Proofs.YtehpbaiclfilaaaGreat

