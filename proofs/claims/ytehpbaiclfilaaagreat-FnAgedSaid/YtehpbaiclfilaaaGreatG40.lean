/- Parts of a proof. No conditions. -/

import Derived.Test.YtehpbaiclfilaaaGreatG37
set_option linter.unusedSimpArgs false
set_option linter.unusedVariables false
namespace Go.Proofs.YtehpbaiclfilaaaGreat
open Go
set_option maxRecDepth 100000
theorem E0 {n : Int} {l : List Int} {k : Int} (h1 : ∀ x ∈ l, aj x 0 (n - 1) = true) (h2 : l.Pairwise fun a b => a ≠ b) (hk : aj k 0 (n - 1) = true) : (∀ x ∈ fG l k, aj x 0 (n - 1) = true) ∧ (fG l k).Pairwise fun a b => a ≠ b := by
 unfold fG;cases hb : hasB l k with
 | true => exact ⟨h1, h2⟩
 | false =>
   rw [if_neg (by simp)];refine ⟨fun x hx => ?_, List.pairwise_append.2 ⟨h2, List.pairwise_singleton _ _, fun a ha b eY => ?_⟩⟩
   · rcases List.mem_append.1 hx with q | q
     · exact h1 x q
     · cases List.mem_singleton.1 q; exact hk
   · cases List.mem_singleton.1 eY;have := List.any_eq_false.1 hb a ha;simpa using this
theorem HG.Tf {h : ai} (hg : HG h) {l : List Int} (hj : r9 h.cabins.length l h.aN) : HG { h with todo := l } := ⟨hg.rules, hg.now, hg.aw, hg.dn, hg.fy, hg.ae, hj, hg.bP, hg.cf⟩
theorem HG.put {h : ai} (hg : HG h) {k : Int} (hk : 0 ≤ k ∧ k < (h.cabins.length : Int)) : HG { h with todo := fG h.todo k } := by
 have := E0 hg.aN.todo hg.aN.once (k := k) (by simp only [aj, Bool.and_eq_true, decide_eq_true_eq]; omega);exact hg.Tf ⟨this.1, this.2, hg.aN.aN⟩
theorem La {x : bA} (h : aZ x = true) {n : Int} (hn : 0 ≤ n ∧ n ≤ 60) (hh : n ≤ x.aU - x.tied) : bz x n 1 0 (-1) 0 = ⟨x.total, x.free + n, x.held, x.aU - n, x.tied⟩ ∧ aZ (bz x n 1 0 (-1) 0) = true := by
 obtain ⟨a, b, c, d, e, f⟩ := jM.1 h;have h2 : aZ ⟨x.total, x.free + n, x.held, x.aU - n, x.tied⟩ = true := jM.2 ⟨a, by constructor <;> simp only <;> omega, c, by constructor <;> simp only <;> omega, by simp only; omega, by constructor <;> simp only <;> omega⟩
 have e1 : bU x n 1 0 (-1) 0 = true := by
  rw [bU, Ag, h, h2]; simp [aj, hn.1, hn.2]
 rw [bz, if_pos e1, Ag];exact ⟨rfl, h2⟩
theorem E2 {x : bA} (h : aZ x = true) {n : Int} (hn : 0 ≤ n ∧ n ≤ 60) (hh : n ≤ x.aU - x.tied) : bz x n 0 0 0 1 = ⟨x.total, x.free, x.held, x.aU, x.tied + n⟩ ∧ aZ (bz x n 0 0 0 1) = true := by
 obtain ⟨a, b, c, d, e, f⟩ := jM.1 h;have h2 : aZ ⟨x.total, x.free, x.held, x.aU, x.tied + n⟩ = true := jM.2 ⟨a, b, c, d, e, by constructor <;> simp only <;> omega⟩
 have e1 : bU x n 0 0 0 1 = true := by
  rw [bU, Ah, h, h2]; simp [aj, hn.1, hn.2]
 rw [bz, if_pos e1, Ah];exact ⟨rfl, h2⟩
section
variable {h : ai} {i k : Nat} {p : au} {c : a_}
theorem vS (o : bJ h i k p c) {c' : a_} {j : Nat} {c1 : a_} (hj : (dw (bI h (k : Int) c') p).cabins[j]? = some c1) :
   ∃ c0, h.cabins[j]? = some c0 ∧ ((j = k ∧ c0 = c ∧ c1 = c') ∨ (j ≠ k ∧ p.al = (j : Int) ∧ c1 = kL c0 p.siz) ∨ (j ≠ k ∧ p.al ≠ (j : Int) ∧ c1 = c0)) := by
 have hk := bq o.hk;have pn := gb o.ok;have hne : p.al ≠ (k : Int) := by rw [← o.cf]; exact pn.ne
 have base : ∀ {c1}, (h.cabins.set k c')[j]? = some c1 → ∃ c0, h.cabins[j]? = some c0 ∧ ((j = k ∧ c0 = c ∧ c1 = c') ∨ (j ≠ k ∧ c1 = c0)) := fun {c1} hj => by
   rw [List.getElem?_set] at hj
   by_cases ej : k = j
   · subst ej;rw [if_pos rfl, if_pos hk] at hj;cases hj;exact ⟨c, o.hk, .inl ⟨rfl, rfl, rfl⟩⟩
   · rw [if_neg ej] at hj;exact ⟨c1, hj, .inr ⟨fun e => ej e.symm, rfl⟩⟩
 rw [dw, lY] at hj
 by_cases hf : p.al = -1
 · rw [if_pos hf] at hj;have hj : (h.cabins.set ((k : Int)).toNat c')[j]? = some c1 := hj;rw [Int.toNat_natCast] at hj;obtain ⟨c0, h1, h2⟩ := base hj;refine ⟨c0, h1, ?_⟩;rcases h2 with h2 | ⟨h2, h3⟩
   · exact .inl h2
   · exact .inr (.inr ⟨h2, by omega, h3⟩)
 · rw [if_neg hf] at hj;have fr := pn.al;obtain ⟨f, ef⟩ : ∃ f : Nat, p.al = (f : Int) := ⟨p.al.toNat, by omega⟩;rw [ef] at hj hne;have hne : k ≠ f := fun e => hne (by rw [e]);have hj : ((h.cabins.set ((k : Int)).toNat c').set ((f : Int)).toNat (kL (aC (bI h (k : Int) c') (f : Int)) p.siz))[j]? = some c1 := hj;rw [Int.toNat_natCast, Int.toNat_natCast, EM hne, List.getElem?_set] at hj
   by_cases ej : f = j
   · subst ej;rw [if_pos rfl] at hj
     split at hj
     · rename_i hl;rw [List.length_set] at hl;cases hj;refine ⟨h.cabins[f], List.getElem?_eq_getElem hl, .inr (.inl ⟨fun e => hne e.symm, ef, ?_⟩)⟩;rw [iI (List.getElem?_eq_getElem hl)]
     · cases hj
   · rw [if_neg ej] at hj;obtain ⟨c0, h1, h2⟩ := base hj;refine ⟨c0, h1, ?_⟩;rcases h2 with h2 | ⟨h2, h3⟩
     · exact .inl h2
     · exact .inr (.inr ⟨h2, by omega, h3⟩)
theorem HG.free (hg : HG h) {c : a_} (hk : h.cabins[k]? = some c) {n : Int} (hn : 0 ≤ n ∧ n ≤ 60) (hl : n ≤ fS c) : HG (t_ h (k : Int) n) := by
 have g := hg.dR hk;have Th := bq hk;have ld := La g.eD hn hl
 have h1 : HG (bI h (k : Int) { c with ah := bz c.ah n 1 0 (-1) 0 }) := by
  refine hg.next rfl rfl rfl hg.dn (jK _ _ _) rfl rfl hg.ae fun j c1 hj => ?_;have hj : (h.cabins.set ((k : Int)).toNat { c with ah := bz c.ah n 1 0 (-1) 0 })[j]? = some c1 := hj;rw [Int.toNat_natCast, List.getElem?_set] at hj
  by_cases ej : k = j
  · subst ej;rw [if_pos rfl, if_pos Th] at hj;cases hj;refine ⟨?_, g.room, ld.2, g.row, g.kh, g.pins, ?_, ?_⟩
    · show (bz c.ah n 1 0 (-1) 0).total = _;rw [ld.1]; exact g.total
    · show (bz c.ah n 1 0 (-1) 0).held = _;rw [ld.1]; exact g.held
    · show (bz c.ah n 1 0 (-1) 0).tied = _;rw [ld.1]; exact g.tied
  · rw [if_neg ej] at hj;exact hg.dR hj
 have e : t_ h (k : Int) n = { bI h (k : Int) { c with ah := bz c.ah n 1 0 (-1) 0 } with todo := fG h.todo (k : Int) } := by
  rw [t_, AM, iI hk]; rfl
 rw [e];exact h1.put (k := (k : Int)) (by rw [jK]; omega)
end
theorem HG.build {E : ai} (h1 : cw E.rules = true) (h2 : aj E.now 0 1000000 = true) (h3 : aj E.aw 1 1000001 = true) (h4 : E.ae.length ≤ 40) (h5 : E.cabins.length = E.rules.ah.length) (hp : cY E.rules E.now E.aw E.ae)
  (h6 : r9 E.cabins.length E.todo E.aN) (h7 : ((E.aN.length : Nat) : Int) = E.rules.bP) (hc : ∀ (j : Nat) c, E.cabins[j]? = some c → lZ E.rules E.now E.ae j c) : HG E :=
 ⟨h1, h2, h3, h4, h5, hp, h6, h7, fun j c hj => lZ.at_ h1 hp (hc j c hj)⟩
def mM (f : Nat → Nat) : Nat → Nat
 | 0 => 0
 | n + 1 => mM f n + f n
theorem Lb (f g : Nat → Nat) : ∀ n, mM (fun j => f j + g j) n = mM f n + mM g n
 | 0 => rfl
 | n + 1 => by simp only [mM, Lb f g n]; omega
theorem Lc (f : Nat → Nat) {j : Nat} : ∀ {n}, j < n → f j ≤ mM f n
 | n + 1, h => by
   rcases Nat.lt_or_ge j n with q | q
   · have := Lc f q; simp only [mM]; omega
   · obtain rfl : j = n := by omega
     simp only [mM]; omega
theorem Ld (f : Nat → Nat) {c : Nat} : ∀ {n}, (∀ j, j < n → f j ≤ c) → mM f n ≤ n * c
 | 0, _ => by simp [mM]
 | n + 1, h => by
   have h1 := Ld f (n := n) fun j hj => h j (by omega);have h2 := h n (by omega);simp only [mM, Nat.add_mul]; omega
theorem Le (n : Nat) : ∀ {l : List au}, (∀ z ∈ l, 0 ≤ z.cf ∧ z.cf < (n : Int)) → l.length ≤ mM (fun j => aV (bx (j : Int)) l) n
 | [], _ => Nat.zero_le _
 | z :: l, h => by
   have ih := Le n (l := l) fun x hx => h x (List.mem_cons_of_mem _ hx);have hz := h z List.mem_cons_self;have e : (fun j : Nat => aV (bx (j : Int)) (z :: l)) = fun j : Nat => bx (j : Int) z + aV (bx (j : Int)) l := rfl;rw [e, Lb];have h1 := Lc (fun j : Nat => bx (j : Int) z) (j := z.cf.toNat) (n := n) (by omega)
   have h2 : bx ((z.cf.toNat : Nat) : Int) z = 1 := by
    rw [bx, if_pos];rw [beq_iff_eq]; omega
   rw [List.length_cons];simp only [h2] at h1;omega
theorem Ti {α : Type} (f : α → Nat) (l : List α) (m : Nat) (q : α) : aV f (l.take m ++ q :: l.drop m) = aV f l + f q := by
 have e : aV f l = aV f (l.take m) + aV f (l.drop m) := by rw [← rW, List.take_append_drop]
 rw [rW, e];show aV f (l.take m) + (f q + aV f (l.drop m)) = _;omega
section
variable {h : ai} {p : au} {k : Nat} {c : a_}
theorem Tj {l : List au} {q : au} (h : aP l q.id < 0) : fT l q = l.take (putAt l q.id) ++ q :: l.drop (putAt l q.id) := if_neg (by omega)
theorem Tk {l : List au} (hs : l.Pairwise fun a b => a.id < b.id) {id : Int} (hn : ∀ z ∈ l, z.id ≠ id) : (∀ z ∈ l.take (putAt l id), z.id < id) ∧ ∀ z ∈ l.drop (putAt l id), id < z.id := by
 rcases hO (fun q : au => decide (q.id > id)) l with ⟨e, hx⟩ | ⟨j, hj, e, e1, hb⟩
 · have e : ka l id = -1 := e;rw [putAt, e, if_pos (by omega), List.take_length, List.drop_length];refine ⟨fun z hz => ?_, fun z hz => by cases hz⟩;have h1 := of_decide_eq_false (hx z hz);have h2 := hn z hz;omega
 · have e : ka l id = (j : Int) := e;have e1 : l[j].id > id := of_decide_eq_true e1;rw [putAt, e, if_neg (by omega), Int.toNat_natCast];refine ⟨fun z hz => ?_, fun z hz => ?_⟩
   · obtain ⟨m, hm⟩ := List.mem_iff_getElem?.1 hz;rw [List.getElem?_take] at hm
     split at hm
     · rename_i DV;have h1 := of_decide_eq_false (hb m z DV hm);have h2 := hn z (List.mem_of_getElem? hm);omega
     · cases hm
   · obtain ⟨m, hm⟩ := List.mem_iff_getElem?.1 hz;rw [List.getElem?_drop] at hm;have hl := bq hm;rw [List.getElem?_eq_getElem hl] at hm;cases hm;rcases Nat.eq_zero_or_pos m with q | q
     · subst q; exact e1
     · have := (List.pairwise_iff_getElem.1 hs) j (j + m) hj hl (by omega);omega
theorem Lg {α : Type} {R : α → α → Prop} {l : List α} (h : l.Pairwise R) {m : Nat} {q : α} (h1 : ∀ x ∈ l.take m, R x q) (h2 : ∀ x ∈ l.drop m, R q x) : (l.take m ++ q :: l.drop m).Pairwise R := by
 have h3 : (l.take m ++ l.drop m).Pairwise R := by rw [List.take_append_drop]; exact h
 obtain ⟨a, b, d⟩ := List.pairwise_append.1 h3;refine List.pairwise_append.2 ⟨a, List.pairwise_cons.2 ⟨h2, b⟩, fun x hx y hy => ?_⟩;rcases List.mem_cons.1 hy with rfl | hy
 · exact h1 x hx
 · exact d x hx y hy
theorem Lh {α : Type} {l : List α} {m : Nat} {q z : α} : z ∈ l.take m ++ q :: l.drop m ↔ z = q ∨ z ∈ l := by
 have e : z ∈ l ↔ z ∈ l.take m ∨ z ∈ l.drop m := by rw [← List.mem_append, List.take_append_drop]
 rw [List.mem_append, List.mem_cons, e]
 constructor
 · rintro (h | h | h)
   · exact .inr (.inl h)
   · exact .inl h
   · exact .inr (.inr h)
 · rintro (h | h | h)
   · exact .inr (.inl h)
   · exact .inl h
   · exact .inr (.inr h)
theorem gd.az (o : gd h p k c) (hs : p.since = h.now) : cY h.rules h.now (h.aw + 1) (fT h.ae p) ∧ (∀ z, z ∈ fT h.ae p ↔ z = p ∨ z ∈ h.ae) ∧ ∀ f : au → Nat, aV f (fT h.ae p) = aV f h.ae + f p := by
 rw [Tj o.new];have pp := Tk o.hg.ae.fm (id := p.id) fun z hz => (o.none hz).1;have tk : ∀ {z}, z ∈ h.ae.take (putAt h.ae p.id) → z ∈ h.ae := fun {z} hz => List.mem_of_mem_take hz;have dp : ∀ {z}, z ∈ h.ae.drop (putAt h.ae p.id) → z ∈ h.ae := fun {z} hz => List.mem_of_mem_drop hz
 have key : ∀ z ∈ h.ae, z.aw < p.aw ∧ z.since ≤ p.since := fun z hz => by
   have h1 := o.hg.ae.ok z hz;have h2 := (iB h1.1).since;rw [o.aw, hs];exact ⟨h1.2, h2.2⟩
 refine ⟨⟨fun z hz => ?_, Lg o.hg.ae.fm pp.1 pp.2, Lg o.hg.ae.fair (fun z hz => ?_) (fun z hz => ?_)⟩, fun z => Lh, fun f => Ti f _ _ _⟩
 · rcases Lh.1 hz with rfl | hz
   · exact ⟨o.ok, by rw [o.aw]; omega⟩
   · have := o.hg.ae.ok z hz;exact ⟨this.1, by omega⟩
 · have := key z (tk hz);simp only [fR, Bool.not_eq_true', Bool.or_eq_false_iff, Bool.and_eq_false_iff, beq_eq_false_iff_ne, decide_eq_false_iff_not];omega
 · have := key z (dp hz);simp only [fR, Bool.not_eq_true', Bool.or_eq_false_iff, Bool.and_eq_false_iff, beq_eq_false_iff_ne, decide_eq_false_iff_not];omega
theorem AQ (o : gd h p k c) {j : Nat} {c1 : a_} (hj : (cZ h p).cabins[j]? = some c1) :
   ∃ c0, h.cabins[j]? = some c0 ∧ ((j = k ∧ c0 = c ∧ c1 = iH c (cn h.rules p h.now)) ∨ (j ≠ k ∧ p.al = (j : Int) ∧ c1 = ye c0 p.siz) ∨ (j ≠ k ∧ p.al ≠ (j : Int) ∧ c1 = c0)) := by
 have hk := bq o.hk;have pn := gb o.ok;have hne : p.al ≠ (k : Int) := by rw [← o.cf]; exact pn.ne
 have base : ∀ {c1}, (h.cabins.set k (iH c (cn h.rules p h.now)))[j]? = some c1 → ∃ c0, h.cabins[j]? = some c0 ∧ ((j = k ∧ c0 = c ∧ c1 = iH c (cn h.rules p h.now)) ∨ (j ≠ k ∧ c1 = c0)) := fun {c1} hj => by
   rw [List.getElem?_set] at hj
   by_cases ej : k = j
   · subst ej;rw [if_pos rfl, if_pos hk] at hj;cases hj;exact ⟨c, o.hk, .inl ⟨rfl, rfl, rfl⟩⟩
   · rw [if_neg ej] at hj;exact ⟨c1, hj, .inr ⟨fun e => ej e.symm, rfl⟩⟩
 have ec : aC (pc h p) p.cf = c := o.jL
 have er : iK h p = bI (pc h p) (k : Int) (iH c (cn h.rules p h.now)) := by
   show bI (pc h p) p.cf (iH (aC (pc h p) p.cf) (cn h.rules p h.now)) = _;rw [ec, o.cf]
 have hj : (nD (iK h p) p).cabins[j]? = some c1 := hj;rw [er] at hj;unfold nD at hj
 by_cases hf : p.al = -1
 · rw [if_pos hf] at hj;have hj : (h.cabins.set ((k : Int)).toNat (iH c (cn h.rules p h.now)))[j]? = some c1 := hj;rw [Int.toNat_natCast] at hj;obtain ⟨c0, h1, h2⟩ := base hj;refine ⟨c0, h1, ?_⟩;rcases h2 with h2 | ⟨h2, h3⟩
   · exact .inl h2
   · exact .inr (.inr ⟨h2, by omega, h3⟩)
 · rw [if_neg hf] at hj;have fr := pn.al;obtain ⟨f, ef⟩ : ∃ f : Nat, p.al = (f : Int) := ⟨p.al.toNat, by omega⟩;rw [ef] at hj hne;have hne : k ≠ f := fun e => hne (by rw [e]);have hj : ((h.cabins.set ((k : Int)).toNat (iH c (cn h.rules p h.now))).set ((f : Int)).toNat (ye (aC (bI (pc h p) (k : Int) (iH c (cn h.rules p h.now))) (f : Int)) p.siz))[j]? = some c1 := hj;rw [Int.toNat_natCast, Int.toNat_natCast, EM hne, List.getElem?_set] at hj
   by_cases ej : f = j
   · subst ej;rw [if_pos rfl] at hj
     split at hj
     · rename_i hl;rw [List.length_set] at hl;cases hj;refine ⟨h.cabins[f], List.getElem?_eq_getElem hl, .inr (.inl ⟨fun e => hne e.symm, ef, ?_⟩)⟩;rw [show aC (pc h p) (f : Int) = aC h (f : Int) from rfl, iI (List.getElem?_eq_getElem hl)]
     · cases hj
   · rw [if_neg ej] at hj;obtain ⟨c0, h1, h2⟩ := base hj;refine ⟨c0, h1, ?_⟩;rcases h2 with h2 | ⟨h2, h3⟩
     · exact .inl h2
     · exact .inr (.inr ⟨h2, by omega, h3⟩)
theorem yf (h : ai) (p : au) : (cZ h p).rules = h.rules ∧ (cZ h p).now = h.now ∧ (cZ h p).aw = h.aw + 1 ∧ (cZ h p).ae = fT h.ae p ∧ (cZ h p).todo = fG h.todo p.cf ∧ (cZ h p).aN = h.aN ∧ (cZ h p).cabins.length = h.cabins.length := by
 unfold cZ nD
 split
 · exact ⟨rfl, rfl, rfl, rfl, rfl, rfl, jK _ _ _⟩
 · exact ⟨rfl, rfl, rfl, rfl, rfl, rfl, (jK _ _ _).trans (jK _ _ _)⟩
theorem gd.yg (o : gd h p k c) (Tl : p.since = h.now) : HG (cZ h p) := by
 obtain ⟨k1, k2, k3, k4, k5, k6, k7⟩ := yf h p;obtain ⟨cN, hm, hZ⟩ := o.az Tl;have g := o.hg.dR o.hk;have r := sB o.hg o.hk;have pn := gb o.ok;have hr := dO o.hg.rules
 have sz : 1 ≤ p.siz ∧ p.siz ≤ 6 := by
  have h1 := (iB o.ok).siz;have h2 := hr.size;omega
 have ee : cn h.rules p h.now = eV h.rules p h.now := sA o.ok o.st
 have hc : ∀ (j : Nat) c1, (cZ h p).cabins[j]? = some c1 → lZ h.rules h.now (fT h.ae p) j c1 := fun j c1 hj => by
  obtain ⟨c0, cO, h5⟩ := AQ o hj;have gj := o.hg.dR cO;have s1 := hZ (bx (j : Int));have s2 := hZ (cp (j : Int));have s3 := hZ (cz (j : Int));rw [nC (.inl (by rw [o.st]; decide))] at s2;have cj : j ≠ k → p.cf ≠ (j : Int) := fun q e => q (by rw [o.cf] at e; omega)
  have Li : j ≠ k → bx (j : Int) p = 0 := fun q => by
    rw [bx, if_neg];rw [beq_iff_eq]; exact cj q
  have oW : j ≠ k → ∀ z, z.cf = (j : Int) → (z ∈ fT h.ae p ↔ z ∈ h.ae) := fun q z hz => by
    rw [hm]
    constructor
    · rintro (rfl | h)
      · exact (cj q hz).elim
      · exact h
    · exact .inr
  have Tm : cY h.rules h.now (h.aw + 1) h.ae := ⟨fun z hz => ⟨(o.hg.ae.ok z hz).1, by have := (o.hg.ae.ok z hz).2; omega⟩, o.hg.ae.fm, o.hg.ae.fair⟩;rcases h5 with ⟨rfl, rfl, rfl⟩ | ⟨gW, hf, rfl⟩ | ⟨gW, hf, rfl⟩
  · rw [vN (by rw [← o.cf]; exact pn.ne)] at s3
    have s4 : bx (j : Int) p = 1 := by
      rw [bx, if_pos];rw [beq_iff_eq]; exact o.cf
    refine ⟨g.total, ?_, g.eD, ?_, g.kh, ?_, ?_, ?_⟩
    · have h1 := o.room;have h2 : ja h (j : Int) = ((aV (bx (j : Int)) h.ae : Nat) : Int) := rfl;omega
    · rw [ee];refine tV cN (AB lD (by show (c0.row).Pairwise _; rw [g.row]; exact nz o.hg.ae _) fun y hy hl => At hl fun e => ?_) fun y => ?_
      · obtain ⟨z, hz, _, _, _, e1⟩ := r.of y hy;exact (o.none hz).2 (by rw [← e1]; exact e)
      · show y ∈ bG aY (eV h.rules p h.now) c0.row ↔ _;rw [pL, g.row, mE o.hg.ae]
        constructor
        · rintro (rfl | ⟨z, hz, hc, hs, rfl⟩)
          · exact ⟨p, (hm p).2 (.inl rfl), o.cf, o.st, rfl⟩
          · exact ⟨z, (hm z).2 (.inr hz), hc, hs, rfl⟩
        · rintro ⟨z, hz, hc, hs, rfl⟩
          rcases (hm z).1 hz with rfl | hz
          · exact .inl rfl
          · exact .inr ⟨z, hz, hc, hs, rfl⟩
    · show bC c0.spoke = _;rw [g.pins];refine sG jz (tT o.hg.ae _) (tT cN _) fun y => ?_;rw [lX, lX]
      constructor
      · rintro ⟨z, hz, hc, hs, rfl⟩
        exact ⟨z, (hm z).2 (.inr hz), hc, hs, rfl⟩
      · rintro ⟨z, hz, hc, hs, rfl⟩
        rcases (hm z).1 hz with rfl | hz
        · rw [o.st] at hs; cases hs
        · exact ⟨z, hz, hc, hs, rfl⟩
    · show c0.ah.held = _;have := g.held; omega
    · show c0.ah.tied = _;have := g.tied; omega
  · rw [vO hf sz] at s3;have q1 := Li gW;have lo := o.loose (by omega);have ec : aC h p.al = c0 := by rw [hf]; exact iI cO
    rw [ec] at lo;have lt := E2 gj.eD (n := p.siz) (by omega) lo;refine ⟨?_, by have := gj.room; omega, lt.2, ?_, gj.kh, ?_, ?_, ?_⟩
    · show (bz c0.ah p.siz 0 0 0 1).total = _;rw [lt.1]; exact gj.total
    · refine tV cN (by show (c0.row).Pairwise _; rw [gj.row]; exact nz o.hg.ae _) fun y => ?_;show y ∈ c0.row ↔ _;rw [gj.row, mE o.hg.ae];exact ⟨fun ⟨z, a, b, d⟩ => ⟨z, (oW gW z b).2 a, b, d⟩, fun ⟨z, a, b, d⟩ => ⟨z, (oW gW z b).1 a, b, d⟩⟩
    · show bC c0.spoke = _;rw [gj.pins];refine sG jz (tT o.hg.ae _) (tT cN _) fun y => ?_;rw [lX, lX];exact ⟨fun ⟨z, a, b, d⟩ => ⟨z, (oW gW z b).2 a, b, d⟩, fun ⟨z, a, b, d⟩ => ⟨z, (oW gW z b).1 a, b, d⟩⟩
    · show (bz c0.ah p.siz 0 0 0 1).held = _;rw [lt.1];have := gj.held;show c0.ah.held = _;omega
    · show (bz c0.ah p.siz 0 0 0 1).tied = _;rw [lt.1];have := gj.tied;show c0.ah.tied + p.siz = _;omega
  · rw [vN hf] at s3;have q1 := Li gW;exact gj.other Tm cN rfl rfl rfl gj.eD (oW gW) (by omega) (by have := gj.held; omega) (by have := gj.tied; omega)
 have dn : (fT h.ae p).length ≤ 40 := by
  have h1 := Le h.cabins.length (l := fT h.ae p) fun z hz => by
    have := (gb (cN.ok z hz).1).cf;have := o.hg.fy;omega
  have h2 := Ld (fun j : Nat => aV (bx (j : Int)) (fT h.ae p)) (c := 10) (n := h.cabins.length) fun j hj => by
    have cL : j < (cZ h p).cabins.length := by rw [k7]; exact hj
    have := (hc j _ (List.getElem?_eq_getElem cL)).room;have := hr.room;show aV (bx (j : Int)) (fT h.ae p) ≤ 10;omega
  have h3 := o.hg.fy;have h4 := hr.len;omega
 have tp := E0 o.hg.aN.todo o.hg.aN.once (k := p.cf) (by
  have := o.sJ;simp only [aj, Bool.and_eq_true, decide_eq_true_eq]; omega)
 refine HG.build (by rw [k1]; exact o.hg.rules) (by rw [k2]; exact o.hg.now) ?_ (by rw [k4]; exact dn) (by rw [k7, k1]; exact o.hg.fy) (by rw [k1, k2, k3, k4]; exact cN) (by rw [k7, k5, k6]; exact ⟨tp.1, tp.2, o.hg.aN.aN⟩) (by rw [k6, k1]; exact o.hg.bP) (fun j c1 hj => by rw [k1, k2, k4]; exact hc j c1 hj);rw [k3];have := o.K9;simp only [aj, Bool.and_eq_true, decide_eq_true_eq];omega
end
theorem Tn {R : bp} {p : au} {now : Int} (h : bF R p now = true) (hn : now + 1 ≤ 1000000) : bF R p (now + 1) = true := by
 have hr := dO (iB h).rules;have q1 := hr.rest;have q2 := hr.ck;have h4 := h;simp only [bF, Bool.and_eq_true, Bool.or_eq_true] at h4 ⊢;obtain ⟨a1, a2, a3, a4, a5, a6, a7, a8, a9, oL, AF, EN⟩ := h4;have VD := bB a2;have VE := bB a9;refine ⟨a1, ?_, a3, a4, a5, a6, a7, a8, ?_, oL, AF, ?_⟩
 · simp only [aj, Bool.and_eq_true, decide_eq_true_eq]; omega
 · simp only [aj, Bool.and_eq_true, decide_eq_true_eq]; omega
 · rcases EN with ⟨b1, b2⟩ | ⟨b1, b2⟩
   · have b2 := bB b2;exact .inl ⟨b1, by simp only [aj, Bool.and_eq_true, decide_eq_true_eq]; omega⟩
   · have b2 := bB b2;exact .inr ⟨b1, by simp only [aj, Bool.and_eq_true, decide_eq_true_eq]; omega⟩
theorem Lj {h : ai} (hg : HG h) : ∀ i, i ≤ h.cabins.length → (∀ x ∈ iL h i, aj x 0 ((h.cabins.length : Int) - 1) = true) ∧ (iL h i).Pairwise fun a b => a ≠ b
 | 0, _ => ⟨hg.aN.todo, hg.aN.once⟩
 | i + 1, hi => by
   have ih := Lj hg i (by omega);rw [iL]
   split
   · exact E0 ih.1 ih.2 (by simp only [aj, Bool.and_eq_true, decide_eq_true_eq]; omega)
   · exact ih
theorem HG.tick {h : ai} (hg : HG h) (hn : h.now + 1 ≤ 1000000) : HG (vQ h h.cabins.length) := by
 have To := bB hg.now;have hp : cY h.rules (h.now + 1) h.aw h.ae := ⟨fun p hp => ⟨Tn (hg.ae.ok p hp).1 hn, (hg.ae.ok p hp).2⟩, hg.ae.fm, hg.ae.fair⟩;have tt := Lj hg h.cabins.length (Nat.le_refl _);have hl : (vQ h h.cabins.length).cabins.length = h.cabins.length := sN _ _;refine HG.build (E := vQ h h.cabins.length) hg.rules ?_ hg.aw hg.dn (hl.trans hg.fy) hp (by rw [hl]; exact ⟨tt.1, tt.2, hg.aN.aN⟩) hg.bP fun j c1 hj => ?_
 · show aj (h.now + 1) 0 1000000 = true;simp only [aj, Bool.and_eq_true, decide_eq_true_eq]; omega
 · have hj : (hX h h.cabins.length)[j]? = some c1 := hj;simp only [hX, List.getElem?_mapIdx] at hj;cases q : h.cabins[j]? with
   | none => rw [q] at hj; cases hj
   | some c =>
     rw [q] at hj;simp only [Option.map_some, if_pos (bq q), Option.some.injEq] at hj;subst hj;have g := hg.dR q;exact ⟨g.total, g.room, g.eD, rfl, g.kh, g.pins, g.held, g.tied⟩
theorem HG.gJ (k : Int) : ∀ (n : Nat) {E : ai} {ids : List Int}, HG E → HG (gJ n k E ids).1
 | 0, _, _, h => h
 | n + 1, E, ids, h => by
   unfold Go.Proofs.YtehpbaiclfilaaaGreat.gJ
   split
   · exact h
   · rename_i hv;exact HG.gJ k n (tX hv).2.1
theorem Tr {h : ai} (hg : HG h) : HG (gw h) := by
 unfold gw; split
 · rename_i hv;obtain ⟨h0, h1, h2⟩ := tZ hv;rw [Ay h0 h2 rfl] at hv;have hn := bB hg.now;have : ¬ h.now = 1000000 := fun q => by rw [if_pos q] at hv; cases hv
   exact hg.tick (by omega)
 · exact hg
end Go.Proofs.YtehpbaiclfilaaaGreat

