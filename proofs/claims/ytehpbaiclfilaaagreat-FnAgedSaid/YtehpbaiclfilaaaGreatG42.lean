/- Parts of a proof. No conditions. -/

import Derived.Test.YtehpbaiclfilaaaGreatG41
set_option linter.unusedSimpArgs false
set_option linter.unusedVariables false
namespace Go.Proofs.YtehpbaiclfilaaaGreat
open Go
set_option maxRecDepth 100000
section
variable {h : ai} {i k : Nat} {p : au} {c : a_}
theorem bJ.TX (o : bJ h i k p c) (h2 : p.st = 2) {z : au} : z ∈ (dK h p).ae ↔ (z ∈ h.ae ∧ z.id ≠ p.id) ∨ (p.asked ≠ h.rules.tries - 1 ∧ z = dE h.rules p h.now) := by
 have hi := o.lt;unfold dK
 split
 · rename_i hf;have hl := (yj o.ok h2).1 hf;rw [sK o];show z ∈ h.ae.set i (dE h.rules p h.now) ↔ _;rw [xZ (iG o.hg.ae) hi.1, hi.2]
   constructor
   · rintro (a | a)
     · exact .inr ⟨hl, a⟩
     · exact .inl a
   · rintro (a | a)
     · exact .inr a
     · exact .inl a.2
 · rename_i hf;have hl : p.asked = h.rules.tries - 1 := Decidable.not_not.1 fun q => hf ((yj o.ok h2).2 q);rw [yi];show z ∈ fo h.ae p.id ↔ _;rw [vF o.at_, tU (iG o.hg.ae) hi.1, hi.2]
   constructor
   · exact .inl
   · rintro (a | a)
     · exact a
     · exact (a.1 hl).elim
theorem bJ.TY (o : bJ h i k p c) (h2 : p.st = 2) {j : Nat} {c0 : a_} (hj : h.cabins[j]? = some c0) :
   ∃ c1, (dK h p).cabins[j]? = some c1 ∧ (j = k → c1.ah.free = c0.ah.free + p.siz) ∧ (j ≠ k → c1.row = c0.row ∧ c1.ah.free = c0.ah.free ∧ c1.ah.held = c0.ah.held) := by
 have dr := (o.drop h2).1;have hk := bq o.hk;have gA := bq hj;have sz := o.siz;unfold dK
 split
 · rw [sK o];show ∃ c1, (h.cabins.set k (iH (fH c p) (cn h.rules (dE h.rules p h.now) h.now)))[j]? = some c1 ∧ _;rw [List.getElem?_set]
   by_cases e : k = j
   · subst e;rw [if_pos rfl, if_pos hk];have : c0 = c := Option.some.inj (hj.symm.trans o.hk);subst this;refine ⟨_, rfl, fun _ => ?_, fun q => (q rfl).elim⟩;show (fH c0 p).ah.free = _;rw [dr]
   · rw [if_neg e];exact ⟨c0, hj, fun q => (e q.symm).elim, fun _ => ⟨rfl, rfl, rfl⟩⟩
 · have hlen : (dw (dv h p) p).cabins.length = h.cabins.length := (sL _ _).trans (jK _ _ _);obtain ⟨c1, cT⟩ : ∃ c1, (dw (dv h p) p).cabins[j]? = some c1 := ⟨_, List.getElem?_eq_getElem (by rw [hlen]; exact gA)⟩;refine ⟨c1, cT, ?_⟩;have e : dv h p = bI h (k : Int) (fH c p) := by rw [dv, o.jL, o.cf]
   rw [e] at cT;obtain ⟨AS, cO, h5⟩ := vS o cT;have : AS = c0 := Option.some.inj (cO.symm.trans hj);subst this;rcases h5 with ⟨q, q2, q3⟩ | ⟨q, q2, q3⟩ | ⟨q, _, q3⟩
   · refine ⟨fun _ => ?_, fun q' => (q' q).elim⟩;rw [q3, dr, q2]
   · refine ⟨fun q' => (q q').elim, fun _ => ?_⟩;have gj := o.hg.dR hj;have s3 := nB (cz (j : Int)) o.lt.1;rw [o.lt.2, vO q2 sz] at s3;have t1 := gj.tied;have t2 := (vP gj.eD (n := p.siz) (by omega) (by omega)).1;rw [q3];refine ⟨rfl, ?_, ?_⟩
     · show (bz AS.ah p.siz 0 0 0 (-1)).free = _;rw [t2]
     · show (bz AS.ah p.siz 0 0 0 (-1)).held = _;rw [t2]
   · exact ⟨fun q' => (q q').elim, fun _ => by rw [q3]; exact ⟨rfl, rfl, rfl⟩⟩
theorem bJ.TZ (o : bJ h i k p c) {z : au} : z ∈ (mF h (k : Int) p).ae ↔ z = gH h p ∨ (z ∈ h.ae ∧ z.id ≠ p.id) := by
 have hi := o.lt;rw [yb o];show z ∈ h.ae.set i (gH h p) ↔ _;rw [xZ (iG o.hg.ae) hi.1, hi.2]
theorem bJ.T0 (o : bJ h i k p c) {j : Nat} (hj : j ≠ k) : (mF h (k : Int) p).cabins[j]? = h.cabins[j]? := by
 rw [yb o];show (h.cabins.set k _)[j]? = _;rw [List.getElem?_set, if_neg (Ne.symm hj)]
end
theorem uc {h : ai} (hg : HG h) {n : Nat} {c : a_} (hk : h.cabins[n]? = some c) {d : Int} : d ∈ bX h (n : Int) ↔ ∃ z ∈ h.ae, z.id = d ∧ z.cf = (n : Int) ∧ z.st = 2 ∧ z.bW ≤ h.now := by
 have g := hg.dR hk;rw [AI hg hk, sD, dB, List.mem_map]
 constructor
 · rintro ⟨q, hq, rfl⟩
   obtain ⟨hq, ht⟩ := List.mem_filter.1 hq;rw [g.pins] at hq;obtain ⟨z, hz, h1, h2, rfl⟩ := lX.1 hq;exact ⟨z, hz, rfl, h1, h2, of_decide_eq_true ht⟩
 · rintro ⟨z, hz, rfl, h1, h2, h3⟩
   refine ⟨eP z, List.mem_filter.2 ⟨?_, decide_eq_true h3⟩, rfl⟩;rw [g.pins];exact lX.2 ⟨z, hz, h1, h2, rfl⟩
def hY (E : ai) : List Int → Int
 | [] => 0
 | d :: ds => (ca E d).siz + hY E ds
theorem Lt {E F : ai} : ∀ {ds : List Int}, (∀ d ∈ ds, ca E d = ca F d) → hY E ds = hY F ds
 | [], _ => rfl
 | d :: ds, h => by rw [hY, hY, h d List.mem_cons_self, Lt fun x hx => h x (List.mem_cons_of_mem _ hx)]
structure Lu (k : Nat) (ds : List Int) (E F : ai) : Prop where
 back : ∀ z ∈ F.ae, (z ∈ E.ae ∧ z.id ∉ ds) ∨ (z.st = 1 ∧ z.id ∈ ds)
 fj : ∀ z ∈ E.ae, z.id ∉ ds → z ∈ F.ae
 last : ∀ y ∈ E.ae, y.id ∈ ds → y.asked = E.rules.tries - 1 → ∀ z ∈ F.ae, z.id ≠ y.id
 more : ∀ y ∈ E.ae, y.id ∈ ds → y.asked ≠ E.rules.tries - 1 → ∃ z ∈ F.ae, z.id = y.id
 cf : ∀ (j : Nat) c0, E.cabins[j]? = some c0 → ∃ c1, F.cabins[j]? = some c1 ∧ (j = k → c1.ah.free = c0.ah.free + hY E ds) ∧ (j ≠ k → c1.row = c0.row ∧ c1.ah.free = c0.ah.free ∧ c1.ah.held = c0.ah.held)
theorem Lv {h : ai} {k : Nat} (hk : k < h.cabins.length) : ∀ (ds : List Int) (E : ai), ki h k ds E → Lu k ds E (eo ds E)
 | [], E, _ => ⟨fun z hz => .inl ⟨hz, by simp⟩, fun z hz _ => hz, fun _ _ q => by simp at q, fun _ _ q => by simp at q, fun j c0 hj => ⟨c0, hj, fun _ => by simp [hY], fun _ => ⟨rfl, rfl, rfl⟩⟩⟩
 | d :: ds, E, I => by
   obtain ⟨i, c, o, h2, dQ, nF⟩ := I.at_ hk;have I' := I.step hk;have P := Lv hk ds _ I';obtain ⟨nd, _⟩ := List.pairwise_cons.1 I.nd;have er : (dK E (ca E d)).rules = E.rules := o.fj.1;have cA := fun z => o.TX h2 (z := z);have stay : ∀ z ∈ E.ae, z.id ≠ d → z ∈ (dK E (ca E d)).ae := fun z hz hne => (cA z).2 (.inl ⟨hz, by rw [dQ]; exact hne⟩);have E5 : d ∉ ds := fun q => nd d q rfl;refine ⟨fun z hz => ?_, fun z hz hn => ?_, fun y hy E6 hl => ?_, fun y hy E6 hl => ?_, fun j c0 hj => ?_⟩
   · rcases P.back z hz with ⟨a, b⟩ | ⟨a, b⟩
     · rcases (cA z).1 a with ⟨a1, a2⟩ | ⟨a1, a2⟩
       · exact .inl ⟨a1, fun q => by
          rcases List.mem_cons.1 q with q | q
          · exact a2 (q.trans dQ.symm)
          · exact b q⟩
       · refine .inr ⟨by rw [a2]; rfl, ?_⟩;rw [a2, show (dE E.rules (ca E d) E.now).id = d from dQ];exact List.mem_cons_self
     · exact .inr ⟨a, List.mem_cons_of_mem _ b⟩
   · exact P.fj z (stay z hz fun e => hn (by rw [e]; exact List.mem_cons_self)) fun q => hn (List.mem_cons_of_mem _ q)
   · by_cases e : y.id = d
     · intro z hz ez
       have hyp : y = ca E d := by
         by_cases q : y = ca E d
         · exact q
         · exact ((sC o.hg.ae hy o.mem q).1 (e.trans dQ.symm)).elim
       rcases P.back z hz with ⟨a, _⟩ | ⟨_, b⟩
       · rcases (cA z).1 a with ⟨_, a2⟩ | ⟨a1, _⟩
         · exact a2 (by rw [dQ, ez, e])
         · exact a1 (by rw [← hyp]; exact hl)
       · exact E5 (by rw [← e, ← ez]; exact b)
     · have ud : y.id ∈ ds := (List.mem_cons.1 E6).resolve_left e;exact P.last y (stay y hy e) ud (by rw [er]; exact hl)
   · by_cases e : y.id = d
     · have hyp : y = ca E d := by
         by_cases q : y = ca E d
         · exact q
         · exact ((sC o.hg.ae hy o.mem q).1 (e.trans dQ.symm)).elim
       have dU : dE E.rules (ca E d) E.now ∈ (dK E (ca E d)).ae := (cA _).2 (.inr ⟨by rw [← hyp]; exact hl, rfl⟩);refine ⟨_, P.fj _ dU (by rw [show (dE E.rules (ca E d) E.now).id = d from dQ]; exact E5), ?_⟩;exact (show (dE E.rules (ca E d) E.now).id = d from dQ).trans e.symm
     · have ud : y.id ∈ ds := (List.mem_cons.1 E6).resolve_left e;exact P.more y (stay y hy e) ud (by rw [er]; exact hl)
   · obtain ⟨c1, g1, g2, g3⟩ := o.TY h2 hj;obtain ⟨c2, g4, g5, g6⟩ := P.cf j c1 g1
     have es : hY (dK E (ca E d)) ds = hY E ds := Lt fun x hx => by
       obtain ⟨q, hq, e1, _, _⟩ := I.rem x (List.mem_cons_of_mem _ hx);have hne : q.id ≠ d := by rw [e1]; exact fun e => E5 (e ▸ hx)
       have a1 := (ub I'.hg (stay q hq hne)).2;have a2 := (ub I.hg hq).2;rw [e1] at a1 a2;rw [a1, a2]
     refine ⟨c2, g4, fun q => ?_, fun q => ?_⟩
     · rw [g5 q, g2 q, es, hY]; omega
     · obtain ⟨a1, a2, a3⟩ := g6 q;obtain ⟨b1, b2, b3⟩ := g3 q;exact ⟨a1.trans b1, a2.trans b2, a3.trans b3⟩
theorem AW {h : ai} {n : Nat} (hg : HG h) (hn : n < h.cabins.length) : Lu n (bX h (n : Int)) h (fI h (n : Int)) := by
 have hk := List.getElem?_eq_getElem hn;have I := ki.start hg hk;rw [← AI hg hk] at I;exact Lv hn _ _ I
theorem Lw {h : ai} {n : Nat} (hg : HG h) (hn : n < h.cabins.length) : bX (fI h (n : Int)) (n : Int) = [] := by
 have P := AW hg hn;have I := sM hg hn;have lg : n < (fI h (n : Int)).cabins.length := by rw [I.len]; exact hn
 refine List.eq_nil_iff_forall_not_mem.2 fun d hd => ?_;obtain ⟨z, hz, e1, e2, e3, e4⟩ := (uc I.hg (List.getElem?_eq_getElem lg)).1 hd;rcases P.back z hz with ⟨a, b⟩ | ⟨a, _⟩
 · rw [I.now] at e4;exact b ((uc hg (List.getElem?_eq_getElem hn)).2 ⟨z, a, rfl, e2, e3, e4⟩)
 · omega
theorem Jz {h : ai} {n : Nat} (hg : HG h) (hn : n < h.cabins.length) {d : Int} (hd : d ∈ bX h (n : Int)) : decide (aP (fI h (n : Int)).ae d < 0) = ((ca h d).asked == h.rules.tries - 1) := by
 have P := AW hg hn;have I := sM hg hn;obtain ⟨y, hy, e1, _, _, _⟩ := (uc hg (List.getElem?_eq_getElem hn)).1 hd;have ey := (ub hg hy).2;rw [e1] at ey;rw [ey, Bool.eq_iff_iff];simp only [decide_eq_true_eq, beq_iff_eq]
 by_cases hl : y.asked = h.rules.tries - 1
 · refine ⟨fun _ => hl, fun _ => ?_⟩;rcases hO (fun p : au => p.id == d) (fI h (n : Int)).ae with ⟨e, _⟩ | ⟨j, hj, _, e3, _⟩
   · have e : aP (fI h (n : Int)).ae d = -1 := e;omega
   · have e3 : (fI h (n : Int)).ae[j].id = d := by simpa using e3
     exact (P.last y hy (by rw [e1]; exact hd) hl _ (List.getElem_mem hj) (e3.trans e1.symm)).elim
 · refine ⟨fun q => ?_, fun q => (hl q).elim⟩;obtain ⟨z, hz, e⟩ := P.more y hy (by rw [e1]; exact hd) hl;obtain ⟨j, hj, e3, _⟩ := sI (iG I.hg.ae) hz;rw [e, e1] at e3;omega
structure E7 (n : Nat) (E F : ai) (ids : List Int) : Prop where
 hg : HG F
 rules : F.rules = E.rules
 now : F.now = E.now
 back : ∀ z ∈ F.ae, (z ∈ E.ae ∧ z.id ∉ ids) ∨ (z.cf = (n : Int) ∧ z.st = 2 ∧ z.bW = E.now + E.rules.ck ∧ z.id ∈ ids)
 fj : ∀ z ∈ E.ae, z.id ∉ ids → z ∈ F.ae
 made : ∀ d ∈ ids, ∃ z ∈ F.ae, z.id = d ∧ z.st = 2 ∧ z.bW = E.now + E.rules.ck
 wait : ∀ d ∈ ids, ∃ z ∈ E.ae, z.id = d ∧ z.st = 1
 once : ids.Nodup
 cf : ∀ (j : Nat), j ≠ n → F.cabins[j]? = E.cabins[j]?
 len : F.cabins.length = E.cabins.length
theorem Lx {n : Nat} : ∀ (m : Nat) {E : ai}, HG E → n < E.cabins.length → ∃ ids, (∀ js, gJ m (n : Int) E js = ((gJ m (n : Int) E []).1, js ++ ids)) ∧ E7 n E (gJ m (n : Int) E []).1 ids ∧ (hR E (n : Int) < m → eE (gJ m (n : Int) E []).1 (n : Int) = 0)
 | 0, E, hg, hn => ⟨[], fun js => by simp [gJ], ⟨hg, rfl, rfl, fun z hz => .inl ⟨hz, by simp⟩, fun z hz _ => hz, fun d hd => by simp at hd, fun d hd => by simp at hd, List.nodup_nil, fun _ _ => rfl, rfl⟩, fun q => by omega⟩
 | m + 1, E, hg, hn => by
   by_cases hv : eE E (n : Int) = 0
   · have e : ∀ js, gJ (m + 1) (n : Int) E js = (E, js) := fun js => by rw [gJ, if_pos hv]
     exact ⟨[], fun js => by rw [e, e]; simp, by rw [e]; exact ⟨hg, rfl, rfl, fun z hz => .inl ⟨hz, by simp⟩, fun z hz _ => hz, fun d hd => by simp at hd, fun d hd => by simp at hd, List.nodup_nil, fun _ _ => rfl, rfl⟩, fun _ => by rw [e]; exact hv⟩
   · obtain ⟨_, g2, r1, r2, r3, _, _, r4, _⟩ := tX hv;obtain ⟨n2, c2, i, p, en, o, st, fr, bg, ep⟩ := ET hv;have en : n2 = n := by omega
     subst en;obtain ⟨ids, e1, S, e2⟩ := Lx (n := n2) m g2 (by rw [r3]; exact hn);have eH : gI E (n2 : Int) = mF E (n2 : Int) p := by rw [gI, if_neg hv, ep]
     have e : ∀ js, gJ (m + 1) (n2 : Int) E js = ((gJ m (n2 : Int) (gI E (n2 : Int)) []).1, js ++ (eE E (n2 : Int) :: ids)) := fun js => by
       rw [gJ, if_neg hv, e1]; simp
     have cA := fun z => o.TZ (z := z);rw [← eH] at cA
     have dQ : p.id ∉ ids := fun q => by
       obtain ⟨z, hz, ez, es⟩ := S.wait _ q;rcases (cA z).1 hz with rfl | ⟨_, a⟩
       · have : (gH E p).st = 2 := rfl;omega
       · exact a ez
     refine ⟨eE E (n2 : Int) :: ids, fun js => by rw [e, e []], ?_, fun q => by rw [e]; exact e2 (by omega)⟩;rw [e];show E7 n2 E (gJ m (n2 : Int) (gI E (n2 : Int)) []).1 _;rw [← bg]
     have dU : gH E p ∈ (gJ m (n2 : Int) (gI E (n2 : Int)) []).1.ae := by
       exact S.fj _ ((cA _).2 (.inl rfl)) dQ
     refine ⟨S.hg, S.rules.trans r1, S.now.trans r2, fun z hz => ?_, fun z hz hn => ?_, fun d hd => ?_, fun d hd => ?_, List.nodup_cons.2 ⟨dQ, S.once⟩, fun j hj => ?_, S.len.trans r3⟩
     · rcases S.back z hz with ⟨a, b⟩ | ⟨a1, a2, a3, a4⟩
       · rcases (cA z).1 a with rfl | ⟨a1, a2⟩
         · exact .inr ⟨o.cf, rfl, rfl, List.mem_cons_self⟩
         · exact .inl ⟨a1, fun q => by
            rcases List.mem_cons.1 q with q | q
            · exact a2 q
            · exact b q⟩
       · rw [r1, r2] at a3;exact .inr ⟨a1, a2, a3, List.mem_cons_of_mem _ a4⟩
     · exact S.fj z ((cA z).2 (.inr ⟨hz, fun e => hn (by rw [e]; exact List.mem_cons_self)⟩)) fun q => hn (List.mem_cons_of_mem _ q)
     · rcases List.mem_cons.1 hd with rfl | hd
       · exact ⟨_, dU, rfl, rfl, rfl⟩
       · obtain ⟨z, hz, q1, q2, q3⟩ := S.made d hd;rw [r1, r2] at q3;exact ⟨z, hz, q1, q2, q3⟩
     · rcases List.mem_cons.1 hd with rfl | hd
       · exact ⟨p, o.mem, rfl, st⟩
       · obtain ⟨z, hz, q1, q2⟩ := S.wait d hd;rcases (cA z).1 hz with rfl | ⟨a, _⟩
         · have : (gH E p).st = 2 := rfl;omega
         · exact ⟨z, a, q1, q2⟩
     · rw [S.cf j hj, eH, o.T0 hj]
theorem E8 {h : ai} {n : Nat} (hg : HG h) (hn : n < h.cabins.length) : E7 n (fI h (n : Int)) (jc h (n : Int)).1 (jc h (n : Int)).2 ∧ eE (jc h (n : Int)).1 (n : Int) = 0 := by
 have I := sM hg hn;obtain ⟨ids, e1, S, e2⟩ := Lx (n := n) (hR (fI h (n : Int)) (n : Int) + 1) I.hg (by rw [I.len]; exact hn)
 have e : jc h (n : Int) = ((gJ (hR (fI h (n : Int)) (n : Int) + 1) (n : Int) (fI h (n : Int)) []).1, ids) := by
  show gJ _ _ _ _ = _;rw [e1]; rfl
 rw [e];exact ⟨S, e2 (by omega)⟩
theorem E9 {h : ai} {n : Nat} (hg : HG h) (hn : n < h.cabins.length) : (jc h (n : Int)).1.cabins.length = h.cabins.length ∧ (jc h (n : Int)).1.now = h.now ∧ (jc h (n : Int)).1.rules = h.rules := by
 have I := sM hg hn;have S := (E8 hg hn).1;exact ⟨S.len.trans I.len, S.now.trans I.now, S.rules.trans I.rules⟩
theorem Ly {h : ai} (hg : HG h) : 1 ≤ h.rules.ck := by
 have := (dO hg.rules).ck; omega
theorem T3 {h : ai} {n : Nat} (hg : HG h) (hn : n < h.cabins.length) : bX (jc h (n : Int)).1 (n : Int) = [] := by
 have I := sM hg hn;have S := (E8 hg hn).1;have K := E9 hg hn;have lg : n < (jc h (n : Int)).1.cabins.length := by rw [K.1]; exact hn
 have T4 : n < (fI h (n : Int)).cabins.length := by rw [I.len]; exact hn
 have hw := Ly hg;refine List.eq_nil_iff_forall_not_mem.2 fun d hd => ?_;obtain ⟨z, hz, e1, e2, e3, e4⟩ := (uc S.hg (List.getElem?_eq_getElem lg)).1 hd;rw [K.2.1] at e4;rcases S.back z hz with ⟨a, _⟩ | ⟨_, _, a, _⟩
 · have := (uc I.hg (List.getElem?_eq_getElem T4)).2 ⟨z, a, e1, e2, e3, by rw [I.now]; exact e4⟩;rw [Lw hg hn] at this;cases this
 · rw [I.now, I.rules] at a; omega
theorem LA {h : ai} (hg : HG h) {d : Int} : d ∈ jm h ↔ ∃ z ∈ h.ae, z.id = d ∧ z.st = 2 ∧ z.bW ≤ h.now := by
 rw [jm, if_pos (cI.2 hg), iD, List.mem_map]
 constructor
 · rintro ⟨z, hz, e⟩
   obtain ⟨hz, hb⟩ := List.mem_filter.1 hz;simp only [eT, Bool.and_eq_true, beq_iff_eq, decide_eq_true_eq] at hb;exact ⟨z, hz, e, hb⟩
 · rintro ⟨z, hz, e, hb⟩
   refine ⟨z, List.mem_filter.2 ⟨hz, ?_⟩, e⟩;simp only [eT, Bool.and_eq_true, beq_iff_eq, decide_eq_true_eq];exact hb
theorem JC {h : ai} {d : Int} (hd : d ∈ jm h) : placeOf h d = -1 := by
 cases h0 : aW h with
 | false => rw [jm, h0] at hd; cases hd
 | true =>
   have hg := cI.1 h0;obtain ⟨z, hz, rfl, e, _⟩ := (LA hg).1 hd;exact Lo hg hz e
def mN (E : ai) (i : Nat) : Prop := ∀ z ∈ E.ae, z.st = 2 → z.bW ≤ E.now → (i : Int) ≤ z.cf
theorem mN.zero {h : ai} (hg : HG h) : mN h 0 := fun z hz _ _ => (gb (hg.ae.ok z hz).1).cf.1
theorem mN.step {E : ai} {i : Nat} (hg : HG E) (hn : i < E.cabins.length) (L : mN E i) : mN (jc E (i : Int)).1 (i + 1) := fun z hz e3 e4 => by
 have I := sM hg hn;have S := (E8 hg hn).1;have K := E9 hg hn;have lg : i < (jc E (i : Int)).1.cabins.length := by rw [K.1]; exact hn
 have hw := Ly hg;rw [K.2.1] at e4
 have h1 : (i : Int) ≤ z.cf := by
  rcases S.back z hz with ⟨a, _⟩ | ⟨_, _, a, _⟩
  · rcases (AW hg hn).back z a with ⟨b, _⟩ | ⟨b, _⟩
    · exact L z b e3 e4
    · omega
  · rw [I.now, I.rules] at a; omega
 have h2 : z.cf ≠ (i : Int) := fun e => by
  have := (uc S.hg (List.getElem?_eq_getElem lg)).2 ⟨z, hz, rfl, e, e3, by rw [K.2.1]; exact e4⟩;rw [T3 hg hn] at this;cases this
 omega
theorem mN.all {E : ai} (hg : HG E) (L : mN E E.cabins.length) : jm E = [] := by
 refine List.eq_nil_iff_forall_not_mem.2 fun d hd => ?_;obtain ⟨z, hz, _, e2, e3⟩ := (LA hg).1 hd;have h1 := L z hz e2 e3;have h2 := (gb (hg.ae.ok z hz).1).cf.2;have h3 := hg.fy;omega
theorem uf {h : ai} (hg : HG h) {a b : au} (ha : a ∈ h.ae) (hb : b ∈ h.ae) (hc : a.cf = b.cf) (h1 : a.st = 1) (h2 : b.st = 1) : placeOf h a.id < placeOf h b.id ↔ aY (eV h.rules a h.now) (eV h.rules b h.now) = true := by
 obtain ⟨n, _, p1, p2, rfl⟩ := AU hg ha h1;obtain ⟨m, _, q1, q2, rfl⟩ := AU hg hb h2;obtain ⟨k, c, e1, e2, e3⟩ := hg.AT ha;rw [← hc, e3] at q2;rw [e3] at p2;have g := hg.dR e2;have st : c.row.Pairwise fun x y => aY x y = true := by rw [g.row]; exact nz hg.ae _
 have hn := bq p2;have hm := bq q2;rw [List.getElem?_eq_getElem hn] at p2;rw [List.getElem?_eq_getElem hm] at q2;have p2 := Option.some.inj p2;have q2 := Option.some.inj q2;rw [p1, q1]
 constructor
 · intro q;have := List.pairwise_iff_getElem.1 st n m hn hm (by omega);rw [p2, q2] at this;exact this
 · intro q;rcases Nat.lt_trichotomy n m with h | h | h
   · omega
   · subst h;rw [← p2, ← q2, EE lD] at q;cases q
   · have := List.pairwise_iff_getElem.1 st m n hm hn h;rw [p2, q2, lD.as _ _ q] at this;cases this
theorem vv {R : bp} {now aw : Int} {l : List au} (h : cY R now aw l) {a b : au} (ha : a ∈ l) (hb : b ∈ l) (ht : a.aw < b.aw) : a.since ≤ b.since := by
 obtain ⟨i, hi, rfl⟩ := List.getElem_of_mem ha;obtain ⟨j, hj, rfl⟩ := List.getElem_of_mem hb;rcases Nat.lt_trichotomy i j with q | q | q
 · have := List.pairwise_iff_getElem.1 h.fair i j hi hj q;simp only [fR, Bool.not_eq_true', Bool.or_eq_false_iff, Bool.and_eq_false_iff, beq_eq_false_iff_ne, decide_eq_false_iff_not] at this;omega
 · subst q; omega
 · have := List.pairwise_iff_getElem.1 h.fair j i hj hi q;simp only [fR, Bool.not_eq_true', Bool.or_eq_false_iff, Bool.and_eq_false_iff, beq_eq_false_iff_ne, decide_eq_false_iff_not] at this;omega
theorem vR {R : bp} (hr : cw R = true) {t a b : Int} (ha : 0 ≤ a) (Be : a ≤ b) : lvl R t b ≤ lvl R t a := by
 have hp := (dO hr).period
 have h1 : a.tdiv R.period ≤ b.tdiv R.period := by
  rw [Int.tdiv_eq_ediv_of_nonneg ha, Int.tdiv_eq_ediv_of_nonneg (by omega)];exact Int.ediv_le_ediv (by omega) Be
 unfold lvl
 split <;> split <;> omega
theorem vT {R : bp} {now aw : Int} {l : List au} (h : cY R now aw l) {a b : au} (ha : a ∈ l) (hb : b ∈ l) (ht : a.aK = b.aK) : aY (eV R a now) (eV R b now) = true ↔ a.aw < b.aw := by
 have oa := (h.ok a ha).1;have ob := (h.ok b hb).1;have pa := iB oa;have pb := iB ob;have la : (eV R a now).lvl = lvl R a.aK (now - a.since) := by show fO R a now = _; rw [fO, if_pos oa]
 have lb : (eV R b now).lvl = lvl R b.aK (now - b.since) := by show fO R b now = _; rw [fO, if_pos ob]
 have sa := pa.since;have sb := pb.since
 have key : ∀ x y : au, x.since ≤ y.since → y.since ≤ now → x.aK = y.aK → lvl R x.aK (now - x.since) ≤ lvl R y.aK (now - y.since) := fun x y q1 q2 q3 => by
   rw [q3]; exact vR pa.rules (by omega) (by omega)
 have tt : (eV R a now).aw = a.aw ∧ (eV R b now).aw = b.aw := ⟨rfl, rfl⟩;simp only [aY, la, lb, tt.1, tt.2, Bool.or_eq_true, Bool.and_eq_true, decide_eq_true_eq, beq_iff_eq]
 constructor
 · intro q;rcases Int.lt_trichotomy a.aw b.aw with r | r | r
   · exact r
   · by_cases e : a = b
     · subst e; omega
     · exact ((sC h ha hb e).2 r).elim
   · have := key b a (vv h hb ha r) sa.2 ht.symm;omega
 · intro r;have := key a b (vv h ha hb r) sb.2 ht;omega
theorem AX {h : ai} (hv : bM h lu = 0) : HG h ∧ (gw h).rules = h.rules ∧ (gw h).ae = h.ae ∧ (gw h).now = h.now + 1 ∧ HG (gw h) := by
 have hg := cI.1 (tZ hv).1;have g := Tr hg;have e : gw h = vQ h h.cabins.length := if_pos hv;exact ⟨hg, by rw [e]; rfl, by rw [e]; rfl, by rw [e]; rfl, g⟩
theorem JD {h : ai} (hv : bM h lu = 0) {a : au} (ha : a ∈ h.ae) : fO (gw h).rules a (gw h).now ≤ fO h.rules a h.now := by
 obtain ⟨hg, e1, e2, e3, g⟩ := AX hv;have oa := (hg.ae.ok a ha).1;have ob := (g.ae.ok a (by rw [e2]; exact ha)).1;rw [fO, if_pos ob, fO, if_pos oa, e1, e3];have := (iB oa).since;exact vR hg.rules (by omega) (by omega)
theorem JE {h : ai} (hv : bM h lu = 0) {a b : au} (ha : a ∈ h.ae) (hb : b ∈ h.ae) (ht : a.aK = b.aK) (hc : a.cf = b.cf) (h1 : a.st = 1) (h2 : b.st = 1) : (placeOf (gw h) a.id < placeOf (gw h) b.id) ↔ (placeOf h a.id < placeOf h b.id) := by
 obtain ⟨hg, e1, e2, e3, g⟩ := AX hv;have vU : a ∈ (gw h).ae := by rw [e2]; exact ha
 have eY : b ∈ (gw h).ae := by rw [e2]; exact hb
 rw [uf g vU eY hc h1 h2, uf hg ha hb hc h1 h2, vT g.ae vU eY ht, vT hg.ae ha hb ht]
structure pz (h E : ai) (i : Int) : Prop where
 hg : HG E
 rules : E.rules = h.rules
 ae : E.ae = h.ae
 now : E.now = h.now + i
 len : E.cabins.length = h.cabins.length
theorem pz.zero {h : ai} (hg : HG h) : pz h h 0 := ⟨hg, rfl, rfl, by omega, rfl⟩
theorem Ua {E : ai} (hg : HG E) (hn : E.now < 1000000) : bM E lu = 0 := by
 rw [Ay (cI.2 hg) rfl rfl, if_neg (by omega)]
theorem pz.step {h E : ai} {i : Int} (T : pz h E i) (hn : E.now < 1000000) : pz h (gw E) (i + 1) := by
 obtain ⟨_, e1, e2, e3, g⟩ := AX (Ua T.hg hn);exact ⟨g, e1.trans T.rules, e2.trans T.ae, by rw [e3, T.now]; omega, (Ll E).trans T.len⟩
theorem pz.row {h E : ai} {i : Int} (T : pz h E i) {j : Nat} {c : a_} (hj : E.cabins[j]? = some c) : c.row = cH h.rules h.ae (j : Int) (h.now + i) := by
 rw [(T.hg.dR hj).row, T.rules, T.ae, T.now]
theorem vV (h : ai) (now : Int) : ∀ (m i : Nat), i ≤ m → ∃ r, dS h now m = dS h now i ++ r
 | 0, i, hi => ⟨[], by obtain rfl : i = 0 := by omega
                       simp⟩
 | m + 1, i, hi => by
   by_cases e : i = m + 1
   · subst e; exact ⟨[], by simp⟩
   · obtain ⟨r, hr⟩ := vV h now m i (by omega);exact ⟨r ++ cH h.rules h.ae (m : Int) now, by rw [← jg, hr, List.append_assoc]⟩
theorem JF (h : ai) (now : Int) {m i : Nat} (hi : i < m) : (dS h now i).length + (cH h.rules h.ae (i : Int) now).length ≤ (dS h now m).length ∧
  ((dS h now m).take ((dS h now i).length + (cH h.rules h.ae (i : Int) now).length)).drop (dS h now i).length = cH h.rules h.ae (i : Int) now ∧
  (dS h now (i + 1)).length = (dS h now i).length + (cH h.rules h.ae (i : Int) now).length := by
 obtain ⟨r, hr⟩ := vV h now m (i + 1) hi;have e := jg h now i;have hl : (dS h now (i + 1)).length = (dS h now i).length + (cH h.rules h.ae (i : Int) now).length := by rw [← e, List.length_append]
 refine ⟨by rw [hr, List.length_append, hl]; omega, ?_, hl⟩;rw [hr, ← hl, List.take_left', ← e, List.drop_left']
 · rfl
 · rfl
section
variable {h : ai} {p : au} {k : Nat} {c : a_}
theorem gd.known (o : gd h p k c) (hs : p.since = h.now) : ∃ i, bJ (cZ h p) i k p (iH c (cn h.rules p h.now)) := by
 have hg := o.yg hs;have fj := yf h p;have hp : p ∈ (cZ h p).ae := by rw [fj.2.2.2.1]; exact ((o.az hs).2.1 p).2 (.inl rfl)
 obtain ⟨i, hi, h3, h4⟩ := sI (iG hg.ae) hp;have hk : k < (cZ h p).cabins.length := by rw [fj.2.2.2.2.2.2]; exact bq o.hk
 refine ⟨i, hg, by rw [List.getElem?_eq_getElem hi, h4], ?_, o.cf, (hg.ae.ok p hp).1, h3⟩;obtain ⟨c0, _, q⟩ := AQ o (List.getElem?_eq_getElem hk);rcases q with ⟨_, _, q⟩ | ⟨q, _⟩ | ⟨q, _⟩
 · rw [List.getElem?_eq_getElem hk, q]
 · exact (q rfl).elim
 · exact (q rfl).elim
end
end Go.Proofs.YtehpbaiclfilaaaGreat

