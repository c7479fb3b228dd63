/- Parts of a proof. No conditions. -/

import Derived.Test.YtehpbaiclfilaaaGreatG03
set_option linter.unusedSimpArgs false
set_option linter.unusedVariables false
namespace Go.Proofs.YtehpbaiclfilaaaGreat
open Go
theorem Om {bs : List (Nat × ak)} (hn : (bs.map (·.1)).Nodup) {k : Nat} {B : ak} (h : (k, B) ∈ bs) : aM bs k = some B := by
 induction bs with
 | nil => cases h
 | cons p r ih =>
   simp only [List.map_cons, List.nodup_cons] at hn;simp only [aM];cases h with
   | head => simp
   | tail _ h =>
     rw [if_neg fun he => hn.1 (by rw [he]; exact List.mem_map.2 ⟨_, h, rfl⟩)];exact ih hn.2 h
theorem HD {m : List (Nat × Nat)} {k k' : Nat} (h : lk m k = some k') : (k, k') ∈ m := by
 induction m with
 | nil => cases h
 | cons p r ih =>
   simp only [lk] at h
   split at h
   · rename_i hp; cases h; subst hp; exact List.mem_cons_self
   · exact List.mem_cons_of_mem _ (ih h)
def inv : List (Nat × Nat) → Nat → Nat
 | [], _ => 0
 | p :: r, k => if p.2 = k then p.1 else inv r k
theorem On {m : List (Nat × Nat)} (h : eQ (m.map (·.2)) = true) {k k' : Nat} (hm : (k, k') ∈ m) : inv m k' = k := by
 induction m with
 | nil => cases hm
 | cons p r ih =>
   simp only [List.map_cons] at h;obtain ⟨h1, h2⟩ := wx h;simp only [inv];cases hm with
   | head => simp
   | tail _ hm =>
     rw [if_neg fun he => h1 (by rw [he]; exact List.mem_map.2 ⟨_, hm, rfl⟩)];exact ih h2 hm
theorem Oo {l : List Nat} (h : eQ l = true) : l.Nodup := by
 induction l with
 | nil => simp
 | cons x l ih => obtain ⟨h1, h2⟩ := wx h; exact List.nodup_cons.2 ⟨h1, ih h2⟩
theorem HE {bs : List (Nat × ak)} {m : List (Nat × Nat)} : ∀ {l : List (Nat × Nat)} {out : List (Nat × ak)}, oy bs m l = some out →
   out.map (·.1) = l.map (·.2) ∧ (∀ q, q ∈ out → ∃ k B, (k, q.1) ∈ l ∧ aM bs k = some B ∧ q.2 = B.dZ m ∧ (B.zb m = true → False)) ∧ (∀ p ∈ l, ∃ B, aM bs p.1 = some B)
 | [], out, h => by simp only [oy, Option.some.injEq] at h; subst h; exact ⟨rfl, (fun q hq => by cases hq), (fun p hp => by cases hp)⟩
 | p :: l, out, h => by
   simp only [oy] at h
   split at h
   · rename_i B l' hB hl
     split at h
     · cases h
     rename_i b0;cases h;obtain ⟨h1, h2, h3⟩ := HE hl;refine ⟨by simp [h1], fun q hq => ?_, fun q hq => ?_⟩
     · cases hq with
       | head => exact ⟨p.1, B, List.mem_cons_self, hB, rfl, b0⟩
       | tail _ hq => obtain ⟨k, A, g1, g2, g3⟩ := h2 q hq; exact ⟨k, A, List.mem_cons_of_mem _ g1, g2, g3⟩
     · cases hq with
       | head => exact ⟨B, hB⟩
       | tail _ hq => exact h3 q hq
   · cases h
section
variable {H : Hp} {ρ ρ' : aG} {D D' : Nat → Prop} {m : List (Nat × Nat)} (hm : ∀ k k', lk m k = some k' → D' k' ∧ (ρ' k').1 = (ρ k).1)
include hm
theorem RC.dZ {c : C} {v : Value} (h : RC H ρ D c v) : RC H ρ' D' (c.dZ m) v := by
 cases c with
 | lf l => exact h
 | bl b => exact h
 | nil => exact h
 | own k =>
   simp only [C.dZ]
   split
   · rename_i k' hk; obtain ⟨_, h1⟩ := h; exact ⟨(hm k k' hk).1, by rw [(hm k k' hk).2]; exact h1⟩
   · trivial
 | ptr k off =>
   simp only [C.dZ]
   split
   · rename_i k' hk; obtain ⟨_, b, h1, h2⟩ := h; exact ⟨(hm k k' hk).1, b, by rw [(hm k k' hk).2]; exact h1, h2⟩
   · trivial
 | el E x off => exact h
 | bZ ls off => exact h
 | fq k E i off =>
   simp only [C.dZ]
   split
   · rename_i k' hk; obtain ⟨_, b, o, n, c, h1, h2⟩ := h; exact ⟨(hm k k' hk).1, b, o, n, c, by rw [(hm k k' hk).2]; exact h1, h2⟩
   · trivial
 | fn f ly =>
   simp only [C.dZ]
   split
   · rename_i hc;obtain ⟨vs, h1, h2, h3⟩ := h;refine ⟨vs, h1, h2, fun j c hj => ?_⟩;have g_ := List.all_eq_true.1 hc c (List.mem_of_getElem? hj);have := h3 j c hj;cases c with
     | ptr k off => cases g_
     | el E x off => exact this
     | bZ ls off => exact this
   · trivial
 | undef => trivial
omit hm in
theorem HF : ∀ {cs : List C} {j : Nat} {c : C}, (mc m cs)[j]? = some c → ∃ c0, cs[j]? = some c0 ∧ c = c0.dZ m
 | [], j, c, h => by simp [mc] at h
 | c0 :: cs, 0, c, h => by simp [mc] at h; exact ⟨c0, rfl, h.symm⟩
 | c0 :: cs, j + 1, c, h => by simp only [mc, List.getElem?_cons_succ] at h ⊢; exact HF h
omit hm in
theorem HH : ∀ {cs : List C}, (mc m cs).length = cs.length
 | [] => rfl
 | c :: cs => by simp [mc, HH (cs := cs)]
theorem cW.dZ {cs : List C} {vs : Array Value} (h : cW H ρ D cs vs) : cW H ρ' D' (mc m cs) vs := by
 refine ⟨by rw [HH]; exact h.1, fun j c hj => ?_⟩;obtain ⟨c0, h1, rfl⟩ := HF hj;exact (h.2 j c0 h1).dZ hm
theorem RV.dZ {c : V} {v : Value} (h : RV H ρ D c v) : RV H ρ' D' (c.dZ m) v := by
 cases c with
 | c x => exact RC.dZ hm h
 | agg cs => obtain ⟨vs, h1, h2⟩ := h; exact ⟨vs, h1, h2.dZ hm⟩
 | bc cs =>
   cases cs with
   | nil => obtain ⟨vs, h1, h2, h3⟩ := h; exact ⟨vs, h1, h2, fun j p hj => by simp at hj⟩
   | cons p ps => trivial
omit hm in
theorem HI {L : List Nat} : ∀ {vs : List V} {i j : Nat} {c : V}, (p_ L m i vs)[j]? = some c → c = .c .undef ∨ ∃ c0, vs[j]? = some c0 ∧ c = c0.dZ m
 | [], i, j, c, h => by simp [p_] at h
 | v :: vs, i, 0, c, h => by
   simp only [p_, List.getElem?_cons_zero, Option.some.injEq] at h
   split at h
   · exact .inr ⟨v, rfl, h.symm⟩
   · exact .inl h.symm
 | v :: vs, i, j + 1, c, h => by simp only [p_, List.getElem?_cons_succ] at h ⊢; exact HI h
omit hm in
theorem HJ {L : List Nat} : ∀ {vs : List V} {i : Nat}, (p_ L m i vs).length = vs.length
 | [], i => rfl
 | v :: vs, i => by simp [p_, HJ (vs := vs)]
end
theorem HK {ρ ρ' : aG} {x : Nat} : ∀ {l : List (Nat × Nat)} {out : List (Nat × ak)}, out.map (·.1) = l.map (·.2) → (∀ p ∈ l, ρ' p.2 = ρ p.1) → aS ρ' out x = bN ρ (l.map (·.1)) x
 | [], out, h, _ => by
   have : out = [] := by simpa using h
   subst this; rfl
 | p :: l, out, h, hp => by
   cases out with
   | nil => simp at h
   | cons q out =>
     simp only [List.map_cons, List.cons.injEq] at h;simp only [aS, List.map_cons, bN];rw [h.1, hp p List.mem_cons_self, HK h.2 fun q hq => hp q (List.mem_cons_of_mem _ hq)]
theorem fV.dZ {B : ak} {m : List (Nat × Nat)} {p : Value × (Nat → Nat)} {x : Nat} (h : fV (B.dZ m) p x) : fV B p x := by
 cases B with
 | dead => exact h
 | box cs => exact h
 | own E xs l => exact h
 | view E xs => exact h
 | mp m => exact h
 | b0 E xs i fs => exact h
theorem Oq {m : List (Nat × Nat)} : ∀ {fs : List (Option Nat)}, ow m fs = true → ∀ (i q j : Nat), (filled fs i q j = none ∧ filled (me m fs) i q j = none) ∨ ∃ k k', filled fs i q j = some k ∧ filled (me m fs) i q j = some k' ∧ lk m k = some k' := by
 have key : ∀ {fs : List (Option Nat)}, ow m fs = true → ∀ j : Nat, ((∀ k, fs[j]? ≠ some (some k)) ∧ ∀ k, (me m fs)[j]? ≠ some (some k)) ∨ ∃ k k', fs[j]? = some (some k) ∧ (me m fs)[j]? = some (some k') ∧ lk m k = some k' := by
   intro fs
   induction fs with
   | nil => intro _ j; exact .inl ⟨by simp, by simp [me]⟩
   | cons f fs ih =>
     intro h j;cases f with
     | none =>
       simp only [ow] at h;cases j with
       | zero => exact .inl ⟨by simp, by simp [me]⟩
       | succ j => simpa [me] using ih h j
     | some k =>
       simp only [ow] at h
       split at h
       · rename_i k' hk;cases j with
         | zero => exact .inr ⟨k, k', by simp, by simp [me, hk], hk⟩
         | succ j => simpa [me] using ih h j
       · cases h
 intro fs h i q j;unfold filled
 split
 · rcases key h j with ⟨h1, h2⟩ | ⟨k, k', h1, h2, h3⟩
   · refine .inl ⟨?_, ?_⟩
     · split
       · rename_i k hk; exact (h1 k hk).elim
       · rfl
     · split
       · rename_i k hk; exact (h2 k hk).elim
       · rfl
   · exact .inr ⟨k, k', by rw [h1], by rw [h2], h3⟩
 · exact .inl ⟨rfl, rfl⟩
section
variable {Γ : Ctx} {σ ax : SS} {a : Act} {w : World}
theorem gf.fj {h : Array Obj} {H0 H : Hp} {ρ : aG} {bl : List (Nat × ak)} {m : List (Nat × Nat)} {bs : List (Nat × ak)} (hb : oy bl m m = some bs) (h1 : eQ (m.map (·.1)) = true) (h2 : eQ (m.map (·.2)) = true)
   (r : gf h H0 H ρ bl) : gf h H0 H (fun k => ρ (inv m k)) bs ∧ (∀ k k', lk m k = some k' → av bs k' ∧ (ρ (inv m k')).1 = (ρ k).1) ∧ ∀ k k', (k, k') ∈ m → av bs k' ∧ ρ (inv m k') = ρ k := by
 obtain ⟨g1, g2, g3⟩ := HE hb
 let ρ' : aG := fun k => ρ (inv m k)
 have jx : ∀ k k', (k, k') ∈ m → ρ' k' = ρ k := fun k k' hk => by simp only [ρ', On h2 hk]
 have kN : ∀ k k', (k, k') ∈ m → av bs k' := fun k k' hk => by
   unfold av; rw [g1]; exact List.mem_map.2 ⟨_, hk, rfl⟩
 have hm : ∀ k k', lk m k = some k' → av bs k' ∧ (ρ' k').1 = (ρ k).1 := fun k k' hk => ⟨kN k k' (HD hk), by rw [jx k k' (HD hk)]⟩
 have hq : ∀ k' B', (k', B') ∈ bs → ∃ k B, (k, B) ∈ bl ∧ ρ' k' = ρ k ∧ B' = B.dZ m ∧ (B.zb m = true → False) := fun k' B' hk => by
   obtain ⟨k, B, f1, f2, f3, f4⟩ := g2 _ hk;exact ⟨k, B, de f2, jx k k' f1, f3, f4⟩
 refine ⟨⟨?_, by rw [g1]; exact Oo h2, r.h0, r.hh, ?_, ?_, ?_, ?_⟩, hm, fun k k' hk => ⟨kN k k' hk, jx k k' hk⟩⟩
 · intro k hk;obtain ⟨⟨k', B'⟩, f1, rfl⟩ := List.mem_map.1 hk;obtain ⟨k, B, f2, f3, _⟩ := hq _ _ f1;have f3 : ρ (inv m k') = ρ k := f3;simp only;rw [f3]; exact r.oc k (qI f2)
 · intro k' B' hk;obtain ⟨k, B, f2, f3, rfl, f4⟩ := hq _ _ hk;have f3 : ρ (inv m k') = ρ k := f3;rw [f3];have := r.af k B f2;cases B with
   | dead => exact this
   | box cs => obtain ⟨b, vs, e, fz, e1, e2, e3, e4, e5⟩ := this; exact ⟨b, vs, e, fz, e1, e2, e3, e4, e5.dZ hm⟩
   | own E xs l => exact this
   | view E xs => exact this
   | mp m => exact this
   | b0 E xs i fs =>
     have fk : ow m fs = true := by
       cases ha : ow m fs with
       | true => rfl
       | false => exact (f4 (by simp [ak.zb, ha])).elim
     obtain ⟨b, o, c, cs, e, fz, S, e1, e2, e3, e4, e5, e6, e7, e8, e9⟩ := this;refine ⟨b, o, c, cs, e, fz, S, e1, e2, e3, e4, e5, e6, e7, e8, fun q x hx j l hj => ?_⟩;have zr := e9 q x hx j l hj;rcases Oq fk (i ()) q j with ⟨f5, f6⟩ | ⟨k, k', f5, f6, f7⟩
     · rw [f5] at zr;rw [f6];exact zr
     · rw [f5] at zr;rw [f6];obtain ⟨Ve, Ot, Ou⟩ := zr;exact ⟨(hm k k' f7).1, by rw [(hm k k' f7).2]; exact Ot, Ou⟩
 · intro x;rw [HK (ρ := ρ) (ρ' := ρ') g1 fun p hp => jx p.1 p.2 hp]
   exact Nat.le_trans (l5 _ h1 (fun k hk => by
     obtain ⟨p, hp, rfl⟩ := List.mem_map.1 hk;obtain ⟨B, hB⟩ := g3 p hp;exact fB hB) x) (r.sum x)
 · intro k' B' hk x hx;obtain ⟨k, B, f2, f3, _⟩ := hq _ _ hk;have f3 : ρ (inv m k') = ρ k := f3;rw [f3] at hx;exact r.fresh k B f2 x hx
 · intro k' B' hk x hx;obtain ⟨k, B, f2, f3, rfl, _⟩ := hq _ _ hk;have f3 : ρ (inv m k') = ρ k := f3;rw [f3] at hx;exact r.ia k B f2 x hx.dZ
theorem Rel.fj (bK : Γ.hd = []) {L : List Nat} {m : List (Nat × Nat)} {bs : List (Nat × ak)} (hb : oy σ.af m m = some bs) (h1 : eQ (m.map (·.1)) = true) (h2 : eQ (m.map (·.2)) = true)
   (ic : ∀ p ∈ Γ.hm, lk m p.1 = some p.1) (r : Rel Γ σ a w) : Rel Γ { env := p_ L m 0 σ.env, af := bs } a w := by
 obtain ⟨H, ρ, r⟩ := r;obtain ⟨rb, hm, _⟩ := r.b.fj hb h1 h2;refine ⟨H, _, ⟨rb, ⟨by rw [HJ]; exact r.e.size, fun j c hj => ?_⟩, r.d, r.n, (by rw [bK]; intro p hp; cases hp), fun p hp => ?_⟩⟩
 · rcases HI hj with rfl | ⟨c0, f1, rfl⟩
   · trivial
   · exact (r.e.get j c0 f1).dZ hm
 · obtain ⟨f1, f2⟩ := hm _ _ (ic p hp);exact ⟨f1, by rw [f2]; exact (r.hm p hp).2⟩
theorem Rel.mf (bK : Γ.hd = []) {k : Nat} (r : Rel Γ σ a w) : Rel Γ { σ with af := Go.Proofs.YtehpbaiclfilaaaGreat.mf σ.af k } a w := by
 unfold Go.Proofs.YtehpbaiclfilaaaGreat.mf
 split
 · split
   · rename_i cd hc;obtain ⟨H, ρ, r⟩ := r;obtain ⟨ρ', r', _⟩ := aI.close bK r hc;exact ⟨H, ρ', r'⟩
   · exact r
 · exact r
theorem Rel.closeAll (bK : Γ.hd = []) : ∀ {ks : List Nat} {σ : SS}, Rel Γ σ a w → Rel Γ { σ with af := Go.Proofs.YtehpbaiclfilaaaGreat.closeAll ks σ.af } a w
 | [], _, r => r
 | _ :: ks, _, r => Rel.closeAll bK (ks := ks) (r.mf bK)
theorem Rel.oz (bK : Γ.hd = []) {m : List (Nat × Nat)} : ∀ {ks : List Nat} {σ : SS}, Rel Γ σ a w → Rel Γ { σ with af := Go.Proofs.YtehpbaiclfilaaaGreat.oz m ks σ.af } a w
 | [], _, r => r
 | k :: ks, σ, r => by
   unfold Go.Proofs.YtehpbaiclfilaaaGreat.oz
   split
   · exact Rel.oz bK (ks := ks) r
   · exact Rel.oz bK (ks := ks) (r.mf bK)
theorem HL {m : List (Nat × Nat)} : ∀ {ks : List Nat}, zc m ks = true → ∀ k ∈ ks, lk m k = some k
 | [], _, k, hk => by cases hk
 | j :: ks, h, k, hk => by
   simp only [zc, Bool.and_eq_true] at h;cases hk with
   | head =>
     have h1 := h.1
     split at h1
     · rename_i k' bD; rw [bD]; simpa using h1
     · cases h1
   | tail _ hk => exact HL h.2 k hk
theorem Rel.uU {mt : ra} (h : σ.uU mt = some ax) (r : Rel Γ σ a w) : Rel Γ ax a w := by
 obtain ⟨H, ρ, r⟩ := r
 have nw : ∀ (k : Nat) (E : an), aM σ.af k = none → ∃ ρ', aI Γ H ρ' (σ.new k (.own E (fun _ => []) false)) a w ∧ (ρ' k).1 = .slice none 0 0 := fun k E hk =>
   ⟨cX ρ k (.slice none 0 0, fun _ => 0), r.s6 (p := (.slice none 0 0, fun _ => 0)) hk (fun _ _ _ => rfl) (fun _ _ => rfl) (Ext.refl _) rfl (fun x hx => by simp at hx) (fun x => by simp) (bn.nil rfl) (by simp), by rw [dG]⟩
 cases mt with
 | env s E k =>
   simp only [SS.uU] at h
   split at h
   · rename_i v hv hk
     split at h
     · rename_i hn;cases h;obtain ⟨ρ', r1, h1⟩ := nw k E hk
       have Ov : v = .c .nil := by
         unfold Hb at hn
         split at hn
         · rfl
         · cases hn
       subst Ov;refine ⟨H, ρ', r1.b, ⟨by simpa [SS.new] using r1.e.size, fun j c hj => ?_⟩, r1.d, r1.n, r1.hd, r1.hm⟩;rw [List.getElem?_set] at hj
       split at hj
       · rename_i hs
         split at hj
         · cases hj;have := r.e.get s _ hv;simp only [RV, RC] at this;subst hs;exact ⟨gh.2 (.inl rfl), by rw [this, h1]⟩
         · cases hj
       · exact r1.e.get j c hj
     · cases h
   · cases h
 | box bk c E k =>
   simp only [SS.uU] at h
   split at h
   · rename_i cs ou hk
     split at h
     · rename_i x hx
       split at h
       · rename_i hn;cases h;obtain ⟨ρ', r1, h1⟩ := nw k E hk
         have sZ : x = .nil := by
           unfold Hc at hn
           split at hn
           · rfl
           · cases hn
         subst sZ;have hg : aM (dx σ.af k (.own E (fun _ => []) false)) bk = some (.box cs) := Om r1.b.nd (v5.2 (.inr (de ou)));obtain ⟨b, vs, e, fz, f1, f2, f3, f4, f5⟩ := r1.b.af bk _ (de hg);have f6 := f5.2 c _ hx;simp only [RC] at f6;refine ⟨H, ρ', r1.wD (w' := w) hg (fun _ _ => rfl) (Ext.refl _) ⟨b, vs, e, fz, f1, f2, f3, f4, by simpa using f5.1, fun j y hj => ?_⟩ (fun _ h => h) (fun _ h => h)⟩;rw [List.getElem?_set] at hj
         split at hj
         · rename_i Ow
           split at hj
           · cases hj;subst Ow;exact ⟨gh.2 (.inl rfl), by rw [f6, h1]⟩
           · cases hj
         · exact f5.2 j y hj
       · cases h
     · cases h
   · cases h
theorem Rel.p9 : ∀ {ms : List ra} {σ ax : SS}, σ.p9 ms = some ax → Rel Γ σ a w → Rel Γ ax a w
 | [], σ, ax, h, r => by simp only [SS.p9, Option.some.injEq] at h; subst h; exact r
 | m :: ms, σ, ax, h, r => by
   simp only [SS.p9] at h
   split at h
   · rename_i cQ h1; exact Rel.p9 h (r.uU h1)
   · cases h
theorem Rel.norm (bK : Γ.hd = []) {pk : List Nat} (ic : ∀ p ∈ Γ.hm, p.1 ∈ pk) {N : Norm} (h : σ.norm pk N = some ax) (r : Rel Γ σ a w) : Rel Γ ax a w := by
 unfold SS.norm at h
 split at h
 · rename_i cQ h1
   split at h
   · rename_i bs hb
     split at h
     · rename_i hn;cases h;exact Rel.fj (σ := { cQ with af := Go.Proofs.YtehpbaiclfilaaaGreat.oz N.nm (cQ.af.map (·.1)) cQ.af }) bK hb hn.1 hn.2.1 (fun p hp => HL hn.2.2 _ (ic p hp)) ((r.p9 h1).oz bK)
     · cases h
   · cases h
 · cases h
end
theorem Ox {P : Program} {c : Code} {Q : Exit → Act → World → Prop} (I : Nat → Act → World → Prop)
  (round : ∀ n a w, I n a w → c.wp P (Exit.then (fun a' w' => ∃ m, m < n ∧ I m a' w') Q) a w) {n : Nat} {a : Act} {w : World} (Oy : I n a w) : (Code.loop c).wp P Q a w := by
 intro b k cs
 have key : ∀ n a w, I n a w → ∃ e a' w', Q e a' w' ∧ Arrives P (lone (b.at a (.code c :: .inLoop c :: k)) cs w) b k cs e a' w' := by
  intro n
  induction n using Nat.strongRecOn with
  | _ n ih =>
    intro a w hI;obtain ⟨e, va, vd, hq, rk⟩ := round n a w hI b (.inLoop c :: k) cs;cases e with
    | normal =>
      obtain ⟨m, aL, Oz⟩ := hq;obtain ⟨OA, OB, OC, OD, OE⟩ := ih m aL va vd Oz;exact ⟨OA, OB, OC, OD, .of_steps (Steps.trans rk (.one step_inLoop)) OE⟩
    | exit id => exact ⟨_, va, vd, hq, .pass (x := .inLoop c) rfl (fun _ _ => .inl (by simp)) rk⟩
    | goto l => exact ⟨_, va, vd, hq, .pass (x := .inLoop c) rfl (fun _ _ => .inl (by simp)) rk⟩
    | ret => exact ⟨_, va, vd, hq, .pass (x := .inLoop c) rfl (fun _ _ => .inl (by simp)) rk⟩
    | panic ch => exact ⟨_, va, vd, hq, .pass (x := .inLoop c) rfl (fun _ _ => .inl (by simp)) rk⟩
    | outgrown => exact ⟨_, va, vd, hq, .pass (x := .inLoop c) rfl (fun _ _ => .inl (by simp)) rk⟩
 obtain ⟨e, a', w', hq, rk⟩ := key n a w Oy;exact ⟨e, a', w', hq, .of_steps (.one step_loop) rk⟩
theorem cK.top {h : Array Obj} {H : Hp} {ρ : aG} {D : Nat → Prop} {B : ak} {p : Value × (Nat → Nat)} {x : Nat} (hB : cK h H ρ D B p) (ht : fV B p x) : 0 < p.2 x := by
 cases B with
 | own E xs l =>
   cases l with
   | false => exact ht
   | true =>
     obtain ⟨o, n, c, e⟩ := ht;obtain ⟨v, S⟩ := p;simp only at e;subst e;have ho : bn h (.list E xs) (.slice (some ⟨x, o, none⟩) n c) S := hB;generalize hl : Lf.list E xs = l at ho;generalize hv : Value.slice (some ⟨x, o, none⟩) n c = v at ho;cases ho with
     | list S hb => cases hv; exact km _ _ _ _
     | nil h0 => cases hv
     | int hr => cases hl
     | bool => cases hl
     | str hm => cases hl
 | box cs => exact ht
 | b0 E xs i fs => exact ht
 | mp m => exact ht
 | dead => exact ht.elim
 | view E xs => exact ht.elim
section
variable {Γ : Ctx} {H : Hp} {a : Act} {w : World}
theorem aI.OF (bK : Γ.hd = []) {ρ : aG} {σ : SS} (r : aI Γ H ρ σ a w) {k : Nat} {E : an} {xs : Unit → List E.α} (hk : aM σ.af k = some (.own E xs false)) : ∃ H' ρ', aI Γ H' ρ' { σ with af := bO σ.af k (.view E xs) } a w := by
 have hm := de hk;have ho : bn w.heap (.list E xs) (ρ k).1 (ρ k).2 := r.b.af k _ hm;have hd : av (bO σ.af k (.view E xs)) = av σ.af := Cz
 let H' : Hp := fun b => if 0 < (ρ k).2 b then w.heap[b]? else H b
 have HM : ∀ b o, H b = some o → H' b = some o := fun b o hb => by
   show (if 0 < (ρ k).2 b then w.heap[b]? else H b) = some o
   split
   · exact r.b.hh b o hb
   · exact hb
 have hv : ∀ j, (cX ρ k ((ρ k).1, fun _ => 0) j).1 = (ρ j).1 := fun j => by
   by_cases e : j = k
   · subst e; rw [dG]
   · rw [dg e]
 have g : jO H H' ρ (cX ρ k ((ρ k).1, fun _ => 0)) (av σ.af) (av σ.af) := ⟨HM, fun j hj => ⟨hj, hv j⟩⟩
 refine ⟨H', cX ρ k ((ρ k).1, fun _ => 0), ⟨⟨fun j hj => by rw [hv]; exact r.b.oc j (hd ▸ hj), by rw [sS]; exact r.b.nd, fun b o hb => HM b o (r.b.h0 b o hb), fun b o hb => ?_, fun j B hj => ?_, fun x => ?_, fun j B hj x hx => ?_, fun j B hj x hx => ?_⟩,
   ?_, r.d, r.n, fun p hp => (by rw [bK] at hp; cases hp), fun p hp => ?_⟩⟩
 · have hb : (if 0 < (ρ k).2 b then w.heap[b]? else H b) = some o := hb
   split at hb
   · exact hb
   · exact r.b.hh b o hb
 · show cK w.heap H' (cX ρ k ((ρ k).1, fun _ => 0)) (av (bO σ.af k (.view E xs))) B (cX ρ k ((ρ k).1, fun _ => 0) j);rw [hd];rcases ko r.b.nd hj with ⟨rfl, rfl⟩ | ⟨hne, h⟩
   · rw [dG];exact ⟨ho.rl fun b h0 => by show (if 0 < (ρ j).2 b then w.heap[b]? else H b) = _; rw [if_pos h0], rfl⟩
   · rw [dg hne];exact (r.b.af j B h).mono g fun _ _ => rfl
 · have h1 := sU (ρ := ρ) (ρ' := cX ρ k ((ρ k).1, fun _ => 0)) r.b.nd (B := .view E xs) (fB hk) (fun j hj => dg hj) x;rw [dG] at h1;have h2 := r.b.sum x;show aS (cX ρ k ((ρ k).1, fun _ => 0)) (bO σ.af k (.view E xs)) x ≤ 1;simp only [Nat.add_zero] at h1;omega
 · rcases ko r.b.nd hj with ⟨rfl, rfl⟩ | ⟨hne, h⟩
   · rw [dG] at hx; simp at hx
   · rw [dg hne] at hx; exact r.b.fresh j B h x hx
 · rcases ko r.b.nd hj with ⟨rfl, rfl⟩ | ⟨hne, h⟩
   · exact hx.elim
   · rw [dg hne] at hx;have h1 := (r.b.af j B h).top hx;have h2 := s_ (ρ := ρ) (fB hk) (qI h) hne x;have h3 := r.b.sum x;show (if 0 < (ρ k).2 x then w.heap[x]? else H x) = none;rw [if_neg (by omega)];exact r.b.ia j B h x hx
 · show nN H' (cX ρ k ((ρ k).1, fun _ => 0)) (av (bO σ.af k (.view E xs))) σ.env a.tmps;rw [hd]; exact r.e.grow g
 · have := r.hm p hp;exact ⟨by show av (bO σ.af k (.view E xs)) p.1; rw [hd]; exact this.1, by rw [hv]; exact this.2⟩
theorem Rel.m7 (bK : Γ.hd = []) {E : an} : ∀ (ks : List Nat) {σ : SS}, Rel Γ σ a w → Rel Γ { σ with af := Go.Proofs.YtehpbaiclfilaaaGreat.m7 E ks σ.af } a w
 | [], _, r => r
 | k :: ks, σ, r => by
   simp only [Go.Proofs.YtehpbaiclfilaaaGreat.m7]
   split
   · rename_i E' xs hk
     split
     · obtain ⟨H, ρ, r⟩ := r;exact Rel.m7 bK ks (r.OF bK hk)
     · exact Rel.m7 bK ks r
   · exact Rel.m7 bK ks r
theorem Rel.qe (bK : Γ.hd = []) {n id : Nat} : ∀ (l : List (Nat × Nat × an)) {σ : SS}, Rel Γ σ a w → Rel Γ { σ with af := Go.Proofs.YtehpbaiclfilaaaGreat.qe l n id σ.af } a w
 | [], _, r => r
 | p :: l, σ, r => by
   simp only [Go.Proofs.YtehpbaiclfilaaaGreat.qe]
   split
   · exact Rel.qe bK l (Rel.m7 bK (E := p.2.2) (σ.af.map (·.1)) r)
   · exact Rel.qe bK l r
theorem Rel.tB (bK : Γ.hd = []) {tab : bf} {id : Nat} {σ : SS} (r : Rel Γ σ a w) : Rel Γ (σ.tB tab id) a w := by
 unfold SS.tB
 split
 · exact r
 · exact Rel.qe bK _ r
end
theorem zt {P : Program} {tab : bf} {fr : Bool} (hT : fw P tab = true) {Γ : Ctx} (bK : Γ.hd = []) {pk : List Nat} (ic : ∀ p ∈ Γ.hm, p.1 ∈ pk) : ∀ (c : Code), (fr = true → gC c = true) → ∀ {σ : SS} {a : Act} {w : World} {K : Exit → SS → Prop} {Q : Exit → Act → World → Prop}, mh P tab fr pk c σ K → Rel Γ σ a w →
   (∀ e ax a' w', K e ax → Rel Γ ax a' w' → Q e a' w') → c.wp P Q a w := by
 intro c
 induction c with
 | skip => intro dY σ a w K Q h r hQ; exact wp_skip (hQ _ _ _ _ h r)
 | region id ops draw =>
   intro dY σ a w K Q h r0 hQ;obtain ⟨σ, h, r0⟩ := N9 h bK ic r0;have r := r0.tB bK (tab := tab) (id := id);cases draw with
   | false => exact wp_region_list (w_ hT bK _ h r fun ax a' w' h' r' => hQ _ _ _ _ h' r')
   | true =>
     cases fr with
     | true => exact Ok hT bK (by simpa [gC] using dY rfl) h r fun ax a' w' h' r' => hQ _ _ _ _ h' r'
     | false => exact Od hT bK h r fun ax a' w' h' r' => hQ _ _ _ _ h' r'
 | seq x y zu zv =>
   intro dY σ a w K Q h r hQ;have h2 : fr = true → gC x = true ∧ gC y = true := fun h => by have := dY h; simpa [gC] using this
   refine wp_seq (zu (fun h => (h2 h).1) h r fun e ax a' w' h' r' => ?_);cases e with
   | normal => exact zv (fun h => (h2 h).2) h' r' hQ
   | exit id => exact hQ _ _ _ _ h' r'
   | goto l => exact hQ _ _ _ _ h' r'
   | ret => exact hQ _ _ _ _ h' r'
   | panic ch => exact hQ _ _ _ _ h' r'
   | outgrown => exact hQ _ _ _ _ h' r'
 | cond c x y zu zv =>
   intro dY σ a w K Q h r hQ;have h2 : fr = true → gC x = true ∧ gC y = true := fun h => by have := dY h; simpa [gC] using this
   simp only [mh] at h;have hc : RV _ _ _ (σ.ev c) (a.eval c) := jQ r.choose_spec.choose_spec.e c
   split at h
   · rename_i hv;rw [hv] at hc;exact wp_cond (t := true) hc (zu (fun h => (h2 h).1) h r hQ)
   · rename_i hv;rw [hv] at hc;exact wp_cond (t := false) hc (zv (fun h => (h2 h).2) h r hQ)
   · rename_i t hv;rw [hv] at hc;have je := RL.of_bool hc;obtain ⟨h⟩ := h;refine wp_cond je ?_;cases ht : t () with
     | true => rw [ht] at h; exact zu (fun h => (h2 h).1) h r hQ
     | false => rw [ht] at h; exact zv (fun h => (h2 h).2) h r hQ
   · cases h
 | block id x ih =>
   intro dY σ a w K Q h r hQ;refine wp_block (ih (fun h => by have := dY h; simpa [gC] using this) h r fun e ax a' w' h' r' => ?_);cases e with
   | exit i =>
     simp only [Exit.inBlock];simp only at h'
     split at h'
     · rename_i hi; rw [if_pos hi]; exact hQ _ _ _ _ h' r'
     · rename_i hi; rw [if_neg hi]; exact hQ _ _ _ _ h' r'
   | normal => exact hQ _ _ _ _ h' r'
   | goto l => exact hQ _ _ _ _ h' r'
   | ret => exact hQ _ _ _ _ h' r'
   | panic ch => exact hQ _ _ _ _ h' r'
   | outgrown => exact hQ _ _ _ _ h' r'
 | loop x ih =>
   intro dY σ a w K Q h r hQ;obtain ⟨X, st, φ, m, x0, h0, hs, hr⟩ := h;refine Ox (fun n a w => ∃ x, φ x ∧ m x () = n ∧ Rel Γ (st x) a w) (fun n a w ⟨x, hx, hm, r⟩ => ?_) (n := m x0 ()) ⟨x0, h0, rfl, hs Γ a w bK ic r⟩;refine ih (fun h => by have := dY h; simpa [gC] using this) (hr x hx) r fun e ax a' w' h' r' => ?_;cases e with
   | normal =>
     obtain ⟨x', wj, sZ, OG⟩ := h';exact ⟨m x' (), by rw [← hm]; exact wj, x', sZ, rfl, OG Γ a' w' bK ic r'⟩
   | exit id => exact hQ _ _ _ _ h' r'
   | goto l => exact hQ _ _ _ _ h' r'
   | ret => exact hQ _ _ _ _ h' r'
   | panic ch => exact hQ _ _ _ _ h' r'
   | outgrown => exact hQ _ _ _ _ h' r'
 | exit id => intro dY σ a w K Q h r hQ; exact wp_exit (hQ _ _ _ _ h r)
 | ret => intro dY σ a w K Q h r hQ; exact wp_ret (hQ _ _ _ _ h r)
 | _ => intro dY σ a w K Q h r hQ; exact h.elim
def deep : (E : an) → E.α → Prop
 | .cF, x => x.length ≤ cG
 | .cf, x => x.row.length ≤ cG ∧ x.spoke.length ≤ cG ∧ ∀ s ∈ x.spoke, s.length ≤ cG
 | .rep, x => x.ids.length ≤ cG
 | .str, x => x.length ≤ cG
 | _, _ => True
def HN : Lf → Prop
 | .list E t => (t ()).length ≤ cG ∧ ∀ x ∈ t (), deep E x
 | .str t => (t ()).length ≤ cG
 | .int .i64 t => -9223372036854775808 ≤ t () ∧ t () ≤ 9223372036854775807
 | _ => True
def C2 : C → Prop
 | .lf l => HN l
 | _ => True
def zw : List C → Prop
 | [] => True
 | c :: cs => C2 c ∧ zw cs
def kX : List V → Prop
 | [] => True
 | .c x :: vs => C2 x ∧ kX vs
 | .agg cs :: vs => zw cs ∧ kX vs
 | .bc _ :: vs => kX vs
theorem RL.len {H : Hp} {E : an} {t : Unit → List E.α} {v : Value} (h : RL H (.list E t) v) : (t ()).length ≤ cG := by
 cases h with
 | nil h => rw [h]; simp [cG]
 | list hb hl hm ho hc => exact hm
theorem RL.elem {H : Hp} {E : an} {t : Unit → List E.α} {v : Value} (h : RL H (.list E t) v) : ∀ x ∈ t (), ∃ f : Nat → Value, ∀ j l, (bQ E fun _ => x)[j]? = some l → RL H l (f j) := by
 cases h with
 | nil h => intro x hx; rw [h] at hx; cases hx
 | list hb hl hm ho hc =>
   intro x hx;obtain ⟨i, hi, rfl⟩ := List.getElem_of_mem hx;exact ⟨fun j => _, fun j l hj => hc i _ (List.getElem?_eq_getElem hi) j l hj⟩
theorem RL.deep {H : Hp} {E : an} {x : E.α} {f : Nat → Value} (h : ∀ j l, (bQ E fun _ => x)[j]? = some l → RL H l (f j)) : Go.Proofs.YtehpbaiclfilaaaGreat.deep E x := by
 cases E with
 | cF => exact (h 0 _ rfl).len
 | cf =>
   have h6 := h 6 _ rfl;refine ⟨(h 5 _ rfl).len, h6.len, fun s hs => ?_⟩;obtain ⟨g, hg⟩ := h6.elem s hs;exact (hg 0 _ rfl).len
 | rep => exact (h 1 _ rfl).len
 | str => exact (RL.lz (h 0 _ rfl)).2
 | _ => trivial
theorem RL.ok {H : Hp} {l : Lf} {v : Value} (h : RL H l v) : HN l := by
 cases l with
 | int k t =>
   have h2 := (RL.of_int h).2;cases k <;> first | exact sW.1 h2 | trivial
 | bool t => trivial
 | str t => exact (RL.lz h).2
 | list E t => exact ⟨h.len, fun x hx => by obtain ⟨f, hf⟩ := h.elem x hx; exact RL.deep hf⟩
theorem RC.ok {H : Hp} {ρ : aG} {D : Nat → Prop} {c : C} {v : Value} (h : RC H ρ D c v) : C2 c := by
 cases c with
 | lf l => exact RL.ok h
 | _ => trivial
theorem cW.ok {H : Hp} {ρ : aG} {D : Nat → Prop} {f : Nat → Value} : ∀ {cs : List C}, (∀ (j : Nat) c, cs[j]? = some c → RC H ρ D c (f j)) → zw cs := by
 intro cs
 induction cs generalizing f with
 | nil => intro _; trivial
 | cons c cs ih => intro h; exact ⟨(h 0 c rfl).ok, ih (f := fun j => f (j + 1)) fun j c hj => h (j + 1) c (by simpa using hj)⟩
theorem zx {H : Hp} {ρ : aG} {D : Nat → Prop} {f : Nat → Value} : ∀ {as : List V}, (∀ (j : Nat) c, as[j]? = some c → RV H ρ D c (f j)) → kX as := by
 intro as
 induction as generalizing f with
 | nil => intro _; trivial
 | cons c cs ih =>
   intro h;have h1 := ih (f := fun j => f (j + 1)) fun j c hj => h (j + 1) c (by simpa using hj);cases c with
   | c x => exact ⟨RC.ok (h 0 _ rfl), h1⟩
   | agg l => obtain ⟨vs, _, h2⟩ := h 0 _ rfl; exact ⟨cW.ok (f := fun j => vs.getD j Go.undef) h2.2, h1⟩
   | bc l => exact h1
def start (as : List V) (n : Nat) : SS := { env := as ++ List.replicate (n - as.length) (.c .undef), af := [] }
def SS.shut (σ : SS) : SS := { σ with af := closeAll (σ.af.map (·.1)) σ.af }
def HO (P : Program) (tab : bf) (fr : Bool) (fn : Func) (c : Code) (as : List V) (post : V → List ak → Prop) : Prop :=
 mh P tab fr [] c (start as fn.ntmps) fun e σ => match e with
  | .normal => fin tab fn.results.toList post σ.shut
  | .ret => fin tab fn.results.toList post σ.shut
  | _ => False
theorem OH {P : Program} {tab : bf} (hT : fw P tab = true) {f : FuncId} {fn : Func} {c : Code} (hf : P.funcs[f]? = some fn) (hb : fn.body = some c) (fE : (fn.name == "runtime.NumGoroutine") = false)
  {fr : Bool} (dY : fr = true → gC c = true) {as : List V} {post : V → List ak → Prop} (h : kX as → HO P tab fr fn c as post) : Spec P f as post := by
 refine ⟨⟨fn, hf, fE, by rw [hb]; rfl⟩, fun w vs di => ?_⟩;refine calls_of_wp hf hb ?_
 let Γ : Ctx := ⟨fun b => w.heap[b]?, [], w, []⟩
 have r : Rel Γ (start as fn.ntmps) { tmps := vs ++ Array.replicate (fn.ntmps - vs.size) Go.undef, defers := [] } w := by
  refine ⟨fun b => w.heap[b]?, fun _ => default, ⟨⟨fun k hk => by simp [av, start] at hk, by simp [start], fun _ _ h => h, fun _ _ h => h, fun k B hk => by simp [start] at hk, fun x => by simp [start, aS],
    fun k B hk => by simp [start] at hk, fun k B hk => by simp [start] at hk⟩, ⟨by simp [start, di.1], fun j c hj => ?_⟩, rfl, Ext.refl _, (fun p hp => by cases hp), fun p hp => by cases hp⟩⟩
  have e : av (start as fn.ntmps).af = fun _ => False := by funext k; simp [av, start]
  rw [e];simp only [start] at hj;rcases Nat.lt_or_ge j as.length with aL | lL
  · rw [List.getElem?_append_left aL] at hj;have := di.2 j c hj;rw [Array.getD_eq_getD_getElem?, Array.getElem?_append_left (by rw [di.1]; exact aL), ← Array.getD_eq_getD_getElem?];exact this
  · rw [List.getElem?_append_right lL, List.getElem?_replicate] at hj
    split at hj
    · cases hj; trivial
    · cases hj
 refine zt hT rfl (fun p hp => by cases hp) c dY (h (zx di.2)) r fun e ax a' w' h' r' => ?_
 have done : fin tab fn.results.toList post ax.shut → ∃ v, (results fn a'.tmps).run P w' = .ok v w' ∧ ∃ v' rv nb H' ρ', Ending.returned v = .returned v' ∧ post rv nb ∧ nb.all ownB = true ∧ gf w'.heap (fun b => w.heap[b]?) H' ρ' (num 0 nb) ∧
    RV fK ρ' (av (num 0 nb)) rv v' ∧ Ext w w' := fun hf => by
  have r' : Rel Γ ax.shut a' w' := r'.closeAll rfl;obtain ⟨H, ρ, r'⟩ := r';obtain ⟨v, h1, rv, nb, H', ρ', h2, h3, h4, h5⟩ := MK hT r' (fn := fn) hf;exact ⟨v, h1, v, rv, nb, H', ρ', rfl, h2, h3, h4, h5, r'.n⟩
 have m_ : a'.defers = [] := by obtain ⟨H, ρ, r'⟩ := r'; exact r'.d
 cases e with
 | normal => obtain ⟨v, h1, h2⟩ := done h'; exact ⟨m_, v, h1, h2⟩
 | ret => obtain ⟨v, h1, h2⟩ := done h'; exact ⟨m_, v, h1, h2⟩
 | exit id => cases h'
 | goto l => cases h'
 | panic ch => cases h'
 | outgrown => cases h'
inductive Sh where
 | int (k : IntKind) (x : Unit → Int)
 | bool (x : Unit → Bool)
 | str (x : Unit → List UInt8)
 | own (E : an) (x : Unit → List E.α)
 | any
inductive dj where
 | c (s : Sh)
 | agg (ss : List Sh)
 | bc (ps : List (Bool × List Sh))
def Sh.nb : Sh → Nat
 | .own _ _ => 1
 | _ => 0
def Sh.cell (k : Nat) : Sh → C
 | .int i x => .lf (.int i x)
 | .bool x => .lf (.bool x)
 | .str x => .lf (.str x)
 | .own _ _ => .own k
 | .any => .undef
def gP : Nat → List Sh → List C
 | _, [] => []
 | k, s :: ss => s.cell k :: gP (k + s.nb) ss
def gq : List Sh → Nat
 | [] => 0
 | s :: ss => s.nb + gq ss
def tD : Nat → List (Bool × List Sh) → List (Bool × List C)
 | _, [] => []
 | k, p :: ps => (p.1, gP k p.2) :: tD (k + gq p.2) ps
def Sh.af : Sh → List ak
 | .own E x => [.own E x false]
 | _ => []
def fl : List Sh → List ak
 | [] => []
 | s :: ss => s.af ++ fl ss
def tE : List (Bool × List Sh) → List Sh
 | [] => []
 | p :: ps => p.2 ++ tE ps
def dj.v : dj → V
 | .c s => .c (s.cell 0)
 | .agg ss => .agg (gP 0 ss)
 | .bc ps => .bc (tD 0 ps)
def dj.bs : dj → List ak
 | .c s => s.af
 | .agg ss => fl ss
 | .bc ps => fl (tE ps)
def rn : (E E' : an) → (Unit → List E.α) → (Unit → List E'.α) → Prop
 | .int, .int, x, t => t () = x ()
 | .byte, .byte, x, t => t () = x ()
 | .str, .str, x, t => t () = x ()
 | .aF, .aF, x, t => t () = x ()
 | .aD, .aD, x, t => t () = x ()
 | .az, .az, x, t => t () = x ()
 | .cF, .cF, x, t => t () = x ()
 | .cf, .cf, x, t => t () = x ()
 | .h_, .h_, x, t => t () = x ()
 | .rep, .rep, x, t => t () = x ()
 | _, _, _, _ => False
theorem C3 {E E' : an} {x : Unit → List E.α} {t : Unit → List E'.α} {l : Bool} (h : rn E E' x t) : ak.own E' t l = ak.own E x l := by
 cases E <;> cases E' <;> first
  | (simp only [rn] at h; have h' : t = x := funext fun _ => h; subst h'; rfl)
  | (simp only [rn] at h)
inductive jW (p : Unit → Prop) (q : Prop) : Prop where
 | mk (h : p ()) (hq : q)
def mS (s : Sh) (c : C) (k : Nat) (bs : List ak) (K : Nat → List ak → Prop) : Prop :=
 match s, c with
 | .int k' x, .lf (.int i t) => if i = k' then jW (fun _ => t () = x ()) (K k bs) else False
 | .bool x, .lf (.bool t) => jW (fun _ => t () = x ()) (K k bs)
 | .bool x, .bl b => jW (fun _ => b = x ()) (K k bs)
 | .str x, .lf (.str t) => jW (fun _ => t () = x ()) (K k bs)
 | .own _ x, .nil => jW (fun _ => x () = []) (K k bs)
 | .own E x, .own j => if j = k then (match bs with | .own E' t false :: bs => jW (fun _ => rn E E' x t) (K (k + 1) bs) | _ => False) else False
 | .any, _ => K k bs
 | _, _ => False
def mL : List Sh → List C → Nat → List ak → Prop
 | [], [], _, [] => True
 | s :: ss, c :: cs, k, bs => mS s c k bs fun k bs => mL ss cs k bs
 | _, _, _, _ => False
def ve : List (Bool × List Sh) → List (Bool × List C) → Bool
 | [], [] => true
 | p :: ps, q :: qs => p.1 == q.1 && p.2.length == q.2.length && ve ps qs
 | _, _ => false
def vf : List (Bool × List C) → List C
 | [] => []
 | p :: ps => p.2 ++ vf ps
def aE (s : dj) (r : V) (nb : List ak) : Prop :=
 match s, r with
 | .c s, .c x => mL [s] [x] 0 nb
 | .agg ss, .agg cs => mL ss cs 0 nb
 | .bc ps, .bc qs => if ve ps qs = true then mL (tE ps) (vf qs) 0 nb else False
 | _, _ => False
def dA : List Sh → List C → List (Option Nat)
 | .own _ _ :: ss, .own j :: cs => some j :: dA ss cs
 | .own _ _ :: ss, .nil :: cs => none :: dA ss cs
 | _ :: ss, _ :: cs => dA ss cs
 | _, _ => []
def rp (ρ : aG) : Option Nat → Value × (Nat → Nat)
 | some j => ρ j
 | none => (.slice none 0 0, fun _ => 0)
section
variable {ρ ρ' : aG} {D D' : Nat → Prop}
theorem rr : ∀ {ss : List Sh} {cs : List C} {k : Nat} {bs : List ak}, mL ss cs k bs → (dA ss cs).length = (fl ss).length ∧ gq ss = (fl ss).length ∧
   ∀ (i : Nat) B, (fl ss)[i]? = some B → ∃ E x, B = .own E x false ∧ (((dA ss cs)[i]? = some none ∧ x () = []) ∨ ∃ j, (dA ss cs)[i]? = some (some j) ∧ k ≤ j ∧ bs[j - k]? = some (.own E x false))
 | [], cs, k, bs, h => by
   cases cs <;> cases bs <;> simp only [mL] at h
   exact ⟨rfl, rfl, fun i B hi => by simp [fl] at hi⟩
 | s :: ss, [], k, bs, h => by simp [mL] at h
 | s :: ss, c :: cs, k, bs, h => by
   simp only [mL] at h;unfold mS at h
   split at h
   · split at h
     · obtain ⟨_, h⟩ := h; have := rr h; simpa [dA, fl, Sh.af, gq, Sh.nb] using this
     · cases h
   · obtain ⟨_, h⟩ := h; have := rr h; simpa [dA, fl, Sh.af, gq, Sh.nb] using this
   · obtain ⟨_, h⟩ := h; have := rr h; simpa [dA, fl, Sh.af, gq, Sh.nb] using this
   · obtain ⟨_, h⟩ := h; have := rr h; simpa [dA, fl, Sh.af, gq, Sh.nb] using this
   · rename_i E x;obtain ⟨hx, h⟩ := h;obtain ⟨h1, h2, h3⟩ := rr h;refine ⟨by simp [dA, fl, Sh.af, h1], by simp [fl, Sh.af, gq, Sh.nb, h2]; omega, fun i B hi => ?_⟩;cases i with
     | zero => simp [fl, Sh.af] at hi; exact ⟨E, x, hi.symm, .inl ⟨by simp [dA], hx⟩⟩
     | succ i =>
       simp [fl, Sh.af] at hi;obtain ⟨E', x', h4, h5⟩ := h3 i B hi;refine ⟨E', x', h4, ?_⟩;simpa [dA] using h5
   · rename_i E x j
     split at h
     · rename_i hj;subst hj
       split at h
       · rename_i Vf E' t cd;obtain ⟨hx, h⟩ := h;have he := C3 (l := false) hx;obtain ⟨h1, h2, h3⟩ := rr h;refine ⟨by simp [dA, fl, Sh.af, h1], by simp [fl, Sh.af, gq, Sh.nb, h2]; omega, fun i B hi => ?_⟩;cases i with
         | zero => simp [fl, Sh.af] at hi; exact ⟨E, x, hi.symm, .inr ⟨j, by simp [dA], Nat.le_refl _, by simp [he]⟩⟩
         | succ i =>
           simp [fl, Sh.af] at hi;obtain ⟨E', x', h4, h5⟩ := h3 i B hi;refine ⟨E', x', h4, ?_⟩;rcases h5 with h5 | ⟨j', h5, h6, h7⟩
           · exact .inl (by simpa [dA] using h5)
           · refine .inr ⟨j', by simpa [dA] using h5, by omega, ?_⟩;rw [show j' - j = (j' - (j + 1)) + 1 by omega];simpa using h7
       · cases h
     · cases h
   · have := rr h; simpa [dA, fl, Sh.af, gq, Sh.nb] using this
   · cases h
theorem ry {x : Nat} : ∀ {ss : List Sh} {cs : List C} {k : Nat} {bs : List ak} {k' : Nat}, mL ss cs k bs →
   (∀ (i : Nat) o, (dA ss cs)[i]? = some o → ρ' (k' + i) = rp ρ o) → aS ρ' (num k' (fl ss)) x = aS ρ (num k bs) x
 | [], cs, k, bs, k', h, hs => by
   cases cs <;> cases bs <;> simp only [mL] at h
   rfl
 | s :: ss, [], k, bs, k', h, hs => by simp [mL] at h
 | s :: ss, c :: cs, k, bs, k', h, hs => by
   simp only [mL] at h;unfold mS at h
   split at h
   · split at h
     · obtain ⟨_, h⟩ := h; simp only [fl, Sh.af, List.nil_append]; exact ry (ss := ss) (cs := cs) h (by simpa [dA] using hs)
     · cases h
   · obtain ⟨_, h⟩ := h; simp only [fl, Sh.af, List.nil_append]; exact ry (ss := ss) (cs := cs) h (by simpa [dA] using hs)
   · obtain ⟨_, h⟩ := h; simp only [fl, Sh.af, List.nil_append]; exact ry (ss := ss) (cs := cs) h (by simpa [dA] using hs)
   · obtain ⟨_, h⟩ := h; simp only [fl, Sh.af, List.nil_append]; exact ry (ss := ss) (cs := cs) h (by simpa [dA] using hs)
   · obtain ⟨_, h⟩ := h;have h0 := hs 0 none (by simp [dA])
     have := ry (x := x) (k' := k' + 1) h fun i o hi => by
       have := hs (i + 1) o (by simpa [dA] using hi)
       rwa [show k' + (i + 1) = k' + 1 + i by omega] at this
     simp only [fl, Sh.af, List.cons_append, List.nil_append, num, aS, this];rw [Nat.add_zero] at h0;simp [h0, rp]
   · rename_i E y j
     split at h
     · rename_i hj;subst hj
       split at h
       · obtain ⟨_, h⟩ := h;have h0 := hs 0 (some j) (by simp [dA])
         have := ry (x := x) (k' := k' + 1) h fun i o hi => by
          have := hs (i + 1) o (by simpa [dA] using hi)
          rwa [show k' + (i + 1) = k' + 1 + i by omega] at this
         simp only [fl, Sh.af, List.cons_append, List.nil_append, num, aS, this];rw [Nat.add_zero] at h0;simp [h0, rp]
       · cases h
     · cases h
   · simp only [fl, Sh.af, List.nil_append]; exact ry (ss := ss) (cs := cs) h (by simpa [dA] using hs)
   · cases h
theorem C4 : ∀ {ss : List Sh} {cs : List C} {k : Nat} {bs : List ak} {k' : Nat}, mL ss cs k bs →
   (∀ (i : Nat) o, (dA ss cs)[i]? = some o → ρ' (k' + i) = rp ρ o) → (∀ i, i < gq ss → D' (k' + i)) →
   (gP k' ss).length = cs.length ∧ ∀ (j : Nat) c c', cs[j]? = some c → (gP k' ss)[j]? = some c' → ∀ v, RC fK ρ D c v → RC fK ρ' D' c' v
 | [], cs, k, bs, k', h, hs, hd => by
   cases cs <;> cases bs <;> simp only [mL] at h
   exact ⟨rfl, fun j c c' hj => by simp at hj⟩
 | s :: ss, [], k, bs, k', h, hs, hd => by simp [mL] at h
 | s :: ss, c :: cs, k, bs, k', h, hs, hd => by
   have step : ∀ {s : Sh} {c : C} {k2 : Nat} {HP : List ak}, mL ss cs k2 HP → (∀ (i : Nat) o, (dA ss cs)[i]? = some o → ρ' (k' + s.nb + i) = rp ρ o) → (∀ i, i < gq ss → D' (k' + s.nb + i)) →
       (∀ v, RC fK ρ D c v → RC fK ρ' D' (s.cell k') v) →
       (gP k' (s :: ss)).length = (c :: cs).length ∧ ∀ (j : Nat) c0 c', (c :: cs)[j]? = some c0 → (gP k' (s :: ss))[j]? = some c' → ∀ v, RC fK ρ D c0 v → RC fK ρ' D' c' v := by
     intro s c k2 HP h hs hd hc;obtain ⟨h1, h2⟩ := C4 h hs hd;refine ⟨by simp [gP, h1], fun j c0 c' hj cL v hv => ?_⟩;cases j with
     | zero => simp [gP] at hj cL; subst hj; subst cL; exact hc v hv
     | succ j => simp [gP] at hj cL; exact h2 j c0 c' hj cL v hv
   simp only [mL] at h;unfold mS at h
   split at h
   · split at h
     · rename_i k1 x1 i1 t1 jX;obtain ⟨hx, h⟩ := h;subst jX;refine step h (by simpa [dA, Sh.nb] using hs) (by simpa [gq, Sh.nb] using hd) fun v hv => ?_;simp only [RC, Sh.cell] at hv ⊢;obtain ⟨rfl, h2⟩ := RL.of_int hv;rw [hx] at h2 ⊢;exact RL.int (t := x1) h2
     · cases h
   · rename_i x1 t1;obtain ⟨hx, h⟩ := h;refine step h (by simpa [dA, Sh.nb] using hs) (by simpa [gq, Sh.nb] using hd) fun v hv => ?_;simp only [RC, Sh.cell] at hv ⊢;have := RL.of_bool hv;subst this;rw [hx];exact RL.bool (t := x1)
   · rename_i x1 b1;obtain ⟨hx, h⟩ := h;refine step h (by simpa [dA, Sh.nb] using hs) (by simpa [gq, Sh.nb] using hd) fun v hv => ?_;simp only [RC, Sh.cell] at hv ⊢;subst hv;rw [hx];exact RL.bool (t := x1)
   · rename_i x1 t1;obtain ⟨hx, h⟩ := h;refine step h (by simpa [dA, Sh.nb] using hs) (by simpa [gq, Sh.nb] using hd) fun v hv => ?_;simp only [RC, Sh.cell] at hv ⊢;obtain ⟨rfl, h2⟩ := RL.lz hv;rw [hx] at h2 ⊢;exact RL.str (t := x1) h2
   · rename_i E1 x1;obtain ⟨hx, h⟩ := h;refine step h (fun i o hi => ?_) (fun i hi => ?_) fun v hv => ?_
     · have := hs (i + 1) o (by simpa [dA] using hi)
       rwa [show k' + (i + 1) = k' + 1 + i by omega] at this
     · have := hd (i + 1) (by simp only [gq, Sh.nb]; omega)
       rwa [show k' + (i + 1) = k' + 1 + i by omega] at this
     · simp only [RC, Sh.cell] at hv ⊢;refine ⟨hd 0 (by simp only [gq, Sh.nb]; omega), ?_⟩;rw [hv, show k' = k' + 0 from rfl, hs 0 none (by simp [dA])];rfl
   · rename_i E1 x1 j1
     split at h
     · rename_i hj;subst hj
       split at h
       · obtain ⟨hx, h⟩ := h;refine step h (fun i o hi => ?_) (fun i hi => ?_) fun v hv => ?_
         · have := hs (i + 1) o (by simpa [dA] using hi)
           rwa [show k' + (i + 1) = k' + 1 + i by omega] at this
         · have := hd (i + 1) (by simp only [gq, Sh.nb]; omega)
           rwa [show k' + (i + 1) = k' + 1 + i by omega] at this
         · simp only [RC, Sh.cell] at hv ⊢;refine ⟨hd 0 (by simp only [gq, Sh.nb]; omega), ?_⟩;rw [hv.2, show k' = k' + 0 from rfl, hs 0 (some j1) (by simp [dA])];rfl
       · cases h
     · cases h
   · refine step h (by simpa [dA, Sh.nb] using hs) (by simpa [gq, Sh.nb] using hd) fun v hv => ?_;exact trivial
   · cases h
theorem C5 : ∀ {ss ts : List Sh} {k : Nat}, gP k (ss ++ ts) = gP k ss ++ gP (k + gq ss) ts
 | [], ts, k => by simp [gP, gq]
 | s :: ss, ts, k => by simp only [List.cons_append, gP, C5 (ss := ss), gq, Nat.add_assoc]
theorem HQ : ∀ {ss : List Sh} {k : Nat}, (gP k ss).length = ss.length
 | [], _ => rfl
 | s :: ss, k => by simp [gP, HQ (ss := ss)]
theorem HS : ∀ {ps : List (Bool × List Sh)} {qs : List (Bool × List C)} {k : Nat}, ve ps qs = true →
   (∀ (j : Nat) c c', (vf qs)[j]? = some c → (gP k (tE ps))[j]? = some c' → ∀ v, RC fK ρ D c v → RC fK ρ' D' c' v) →
   (tD k ps).length = qs.length ∧ ∀ (j : Nat) q p, qs[j]? = some q → (tD k ps)[j]? = some p → ∀ v, RT fK ρ D q v → RT fK ρ' D' p v
 | [], qs, k, h, hc => by
   cases qs <;> simp only [ve] at h
   · exact ⟨rfl, fun j q p hj => by simp at hj⟩
   · cases h
 | p0 :: ps, [], k, h, hc => by simp [ve] at h
 | p0 :: ps, q0 :: qs, k, h, hc => by
   simp only [ve, Bool.and_eq_true, beq_iff_eq] at h;obtain ⟨⟨h1, h2⟩, h3⟩ := h;have hl : (gP k p0.2).length = q0.2.length := by rw [HQ, h2]
   obtain ⟨h4, h5⟩ := HS (k := k + gq p0.2) h3 fun j c c' hj cL => hc (q0.2.length + j) c c' (by
       simp only [vf]; rw [List.getElem?_append_right (Nat.le_add_right _ _), Nat.add_sub_cancel_left]; exact hj) (by
       simp only [tE, C5]; rw [List.getElem?_append_right (by omega), hl, Nat.add_sub_cancel_left]; exact cL)
   refine ⟨by simp [tD, h4], fun j q p hj cL v hv => ?_⟩;cases j with
   | succ j => simp [tD] at hj cL; exact h5 j q p hj cL v hv
   | zero =>
     simp [tD] at hj cL;subst hj; subst cL
     have oh : ∀ (j : Nat) c c', q0.2[j]? = some c → (gP k p0.2)[j]? = some c' → ∀ v, RC fK ρ D c v → RC fK ρ' D' c' v := fun j c c' hj cL => by
       have aL := bq hj
       exact hc j c c' (by simp only [vf]; rw [List.getElem?_append_left aL]; exact hj) (by
        simp only [tE, C5]; rw [List.getElem?_append_left (by omega)]; exact cL)
     obtain ⟨b, ss⟩ := p0;obtain ⟨b', cs⟩ := q0;simp only at h1 hl oh;subst h1;cases b with
     | true =>
       obtain ⟨vs, h6, h7, h8⟩ := hv;refine ⟨vs, h6, by simp only at h7 ⊢; omega, fun j c hj => ?_⟩;simp only at hj h8;obtain ⟨c0, cO⟩ : ∃ c0, cs[j]? = some c0 := ⟨_, List.getElem?_eq_getElem (by have := bq hj; omega)⟩;exact oh j c0 c cO hj _ (h8 j c0 cO)
     | false =>
       obtain ⟨c, h6, h7⟩ := hv;simp only at h6;subst h6;simp only [List.length_singleton] at hl;obtain ⟨c', je⟩ : ∃ c', gP k ss = [c'] := List.length_eq_one_iff.1 hl;exact ⟨c', je, oh 0 c c' rfl (by rw [je]; rfl) _ h7⟩
end
theorem aE.canon {h : Array Obj} {H0 H' : Hp} {ρ : aG} {s : dj} {r : V} {nb : List ak} {v : Value} (kF : aE s r nb) (hb : gf h H0 H' ρ (num 0 nb)) (hv : RV fK ρ (av (num 0 nb)) r v) :
   ∃ ρ', s.bs.all ownB = true ∧ gf h H0 H' ρ' (num 0 s.bs) ∧ RV fK ρ' (av (num 0 s.bs)) s.v v := by
 obtain ⟨ss, cs, hm, qh, OI⟩ : ∃ ss cs, mL ss cs 0 nb ∧ s.bs = fl ss ∧ ∀ {ρ' : aG} {D' : Nat → Prop},
     (∀ (j : Nat) c c', cs[j]? = some c → (gP 0 ss)[j]? = some c' → ∀ v, RC fK ρ (av (num 0 nb)) c v → RC fK ρ' D' c' v) → RV fK ρ' D' s.v v := by
   unfold aE at kF
   split at kF
   · rename_i s x;refine ⟨[s], [x], kF, by simp [dj.bs, fl], fun hc => ?_⟩;exact hc 0 x _ rfl rfl v hv
   · rename_i ss cs;refine ⟨ss, cs, kF, rfl, fun hc => ?_⟩;obtain ⟨us, h1, h2, h3⟩ := hv;have hl : (gP 0 ss).length = cs.length := (C4 (ρ := ρ) (ρ' := fun i => match (dA ss cs)[i]? with | some o => rp ρ o | none => default) (D := fun _ => True) (D' := fun _ => True) kF (fun i o hi => by simp [hi]) fun _ _ => trivial).1;refine ⟨us, h1, by simp only [hl]; exact h2, fun j c hj => ?_⟩;obtain ⟨c0, cO⟩ : ∃ c0, cs[j]? = some c0 := ⟨_, List.getElem?_eq_getElem (by have := bq hj; omega)⟩;exact hc j c0 c cO hj _ (h3 j c0 cO)
   · rename_i ps qs
     split at kF
     · rename_i oq;refine ⟨tE ps, vf qs, kF, rfl, fun hc => ?_⟩;obtain ⟨us, h1, h2, h3⟩ := hv;obtain ⟨h4, h5⟩ := HS oq hc;refine ⟨us, h1, by rw [h4]; exact h2, fun j p hj => ?_⟩;obtain ⟨q, hq⟩ : ∃ q, qs[j]? = some q := ⟨_, List.getElem?_eq_getElem (by have := bq hj; omega)⟩;exact h5 j q p hq hj _ (h3 j q hq)
     · cases kF
   · cases kF
 obtain ⟨hl, hn, gX⟩ := rr hm
 let ρ' : aG := fun i => match (dA ss cs)[i]? with | some o => rp ρ o | none => default
 have jx : ∀ (i : Nat) o, (dA ss cs)[i]? = some o → ρ' (0 + i) = rp ρ o := fun i o hi => by simp only [ρ', Nat.zero_add, hi]
 have cA : ∀ k B, (k, B) ∈ num 0 (fl ss) → ∃ E x, B = .own E x false ∧ ((ρ' k = (.slice none 0 0, fun _ => 0) ∧ x () = []) ∨ ∃ j, ρ' k = ρ j ∧ (j, ak.own E x false) ∈ num 0 nb) := fun k B hk => by
   obtain ⟨_, h1⟩ := qF.1 hk;obtain ⟨E, x, h2, h3⟩ := gX k B (by simpa using h1);refine ⟨E, x, h2, ?_⟩;rcases h3 with ⟨h3, h4⟩ | ⟨j, h3, h4, h5⟩
   · exact .inl ⟨by have := jx k none h3; rw [Nat.zero_add] at this; exact this, h4⟩
   · exact .inr ⟨j, by have := jx k _ h3; rw [Nat.zero_add] at this; exact this, qF.2 ⟨Nat.zero_le _, h5⟩⟩
 refine ⟨ρ', ?_, ?_, OI ?_⟩
 · rw [qh];refine List.all_eq_true.2 fun B hB => ?_;obtain ⟨j, hj, wz⟩ := List.getElem_of_mem hB;obtain ⟨E, x, rfl, _⟩ := gX j B (by rw [List.getElem?_eq_getElem hj, wz]);rfl
 · rw [qh];refine ⟨fun k hk => ?_, BG, hb.h0, hb.hh, fun k B hk => ?_, fun x => ?_, fun k B hk x hx => ?_, fun k B hk x hx => ?_⟩
   · obtain ⟨⟨k', B⟩, OJ, rfl⟩ := List.mem_map.1 hk;obtain ⟨E, x, rfl, ⟨h1, _⟩ | ⟨j, h1, h2⟩⟩ := cA k' B OJ
     · rw [h1]; rfl
     · rw [h1]; exact hb.oc j (List.mem_map.2 ⟨_, h2, rfl⟩)
   · obtain ⟨E, x, rfl, ⟨h1, h3⟩ | ⟨j, h1, h2⟩⟩ := cA k B hk
     · rw [h1]; exact bn.nil h3
     · rw [h1]; exact hb.af j _ h2
   · rw [ry hm jx]; exact hb.sum x
   · obtain ⟨E, y, rfl, ⟨h1, _⟩ | ⟨j, h1, h2⟩⟩ := cA k B hk
     · rw [h1] at hx; simp at hx
     · rw [h1] at hx; exact hb.fresh j _ h2 x hx
   · obtain ⟨E, y, rfl, ⟨h1, _⟩ | ⟨j, h1, h2⟩⟩ := cA k B hk
     · rw [h1] at hx; simp [fV] at hx
     · rw [h1] at hx; exact hb.ia j _ h2 x hx
 · rw [qh];exact (C4 hm jx fun i hi => nU.2 ⟨Nat.zero_le _, by rw [Nat.zero_add, Nat.zero_add, ← hn]; exact hi⟩).2
theorem Spec.can {P : Program} {f : FuncId} {as : List V} {s : dj} (h : Spec P f as (aE s)) : Spec P f as fun r nb => r = s.v ∧ nb = s.bs := by
 refine ⟨h.1, fun w vs ha => Calls.mono (h.2 w vs ha) fun e w' hw => ?_⟩;obtain ⟨v, r, nb, H', ρ, rfl, kF, cU, hb, hv, bj⟩ := hw;obtain ⟨ρ', h1, h2, h3⟩ := kF.canon hb hv;exact ⟨v, s.v, s.bs, H', ρ', rfl, ⟨rfl, rfl⟩, h1, h2, h3, bj⟩
def ix (X : Type) (φ : X → Prop) (s : X → dj) (r : V) (nb : List ak) : Prop := ∃ x, φ x ∧ aE (s x) r nb
theorem Spec.OK {P : Program} {f : FuncId} {as : List V} {X : Type} {φ : X → Prop} {s : X → dj} (h : Spec P f as (ix X φ s)) : Spec P f as fun r nb => ∃ x, φ x ∧ r = (s x).v ∧ nb = (s x).bs := by
 refine ⟨h.1, fun w vs ha => Calls.mono (h.2 w vs ha) fun e w' hw => ?_⟩;obtain ⟨v, r, nb, H', ρ, rfl, ⟨x, hx, kF⟩, cU, hb, hv, bj⟩ := hw;obtain ⟨ρ', h1, h2, h3⟩ := kF.canon hb hv;exact ⟨v, (s x).v, (s x).bs, H', ρ', rfl, ⟨x, hx, rfl, rfl⟩, h1, h2, h3, bj⟩
theorem Br.dec {p : Prop} [Decidable p] {K : Bool → Prop} (h1 : p → K true) (h0 : ¬ p → K false) : Br (fun _ => decide p) K :=
 Br.split (fun h => h1 (of_decide_eq_true h)) fun h => h0 (of_decide_eq_false h)
theorem aH {P : Program} {tab : bf} (hT : fw P tab = true) {f : FuncId} {fn : Func} {c : Code} (hf : P.funcs[f]? = some fn) (hb : fn.body = some c) (fE : (fn.name == "runtime.NumGoroutine") = false)
 {fr : Bool} (dY : fr = true → gC c = true) {as : List V} {post : V → List ak → Prop} (h : ∀ P', P' = P → kX as → HO P' tab fr fn c as post) : Spec P f as post := OH hT hf hb fE dY (h P rfl)
theorem ag.by {P P0 : Program} {f : FuncId} {as : List V} {K : V → List ak → Prop} {s : dj} (hP : P = P0) (h : Spec P0 f as (aE s)) (hk : K s.v s.bs) : ag P f as K := by
 subst hP;exact ⟨_, h.can, fun r nb ⟨h1, h2⟩ => by rw [h1, h2]; exact hk⟩
theorem ag.qi {P P0 : Program} {f : FuncId} {as xf : List V} {K : V → List ak → Prop} {s : dj} (hP : P = P0) (h : Spec P0 f as (aE s)) (ha : xf = as) (hk : K s.v s.bs) : ag P f xf K := by
 subst ha;exact ag.by hP h hk
theorem ag.ex {P P0 : Program} {f : FuncId} {as : List V} {K : V → List ak → Prop} {X : Type} {φ : X → Prop} {s : X → dj} (hP : P = P0) (h : Spec P0 f as (ix X φ s)) (hk : ∀ x, φ x → K (s x).v (s x).bs) : ag P f as K := by
 subst hP;exact ⟨_, h.OK, fun r nb ⟨x, hx, h1, h2⟩ => by rw [h1, h2]; exact hk x hx⟩
def iA (x : Int) : V := .c (.lf (.int .i64 fun _ => x))
def lA (E : an) (x : List E.α) : V := .c (.lf (.list E fun _ => x))
def eA (E : an) (x : E.α) : V := .agg ((bQ E fun _ => x).map .lf)
def iR (x : Unit → Int) : dj := .c (.int .i64 x)
def bR (x : Unit → Bool) : dj := .c (.bool x)
def eR : (E : an) → (Unit → E.α) → dj
 | .int, x => .c (.int .i64 x)
 | .byte, x => .c (.int .u8 fun _ => ((x ()).toNat : Int))
 | .str, x => .c (.str x)
 | .aF, x => .agg [.int .i64 fun _ => (x ()).tm, .int .i64 fun _ => (x ()).pid]
 | .aD, x => .agg [.int .i64 fun _ => (x ()).lvl, .int .i64 fun _ => (x ()).aw, .int .i64 fun _ => (x ()).bg, .int .i64 fun _ => (x ()).siz]
 | .az, x => .agg [.int .i64 fun _ => (x ()).id, .int .i64 fun _ => (x ()).cf, .int .i64 fun _ => (x ()).al, .int .i64 fun _ => (x ()).siz, .int .i64 fun _ => (x ()).aK,
  .int .i64 fun _ => (x ()).since, .int .i64 fun _ => (x ()).aw, .int .i64 fun _ => (x ()).st, .int .i64 fun _ => (x ()).bW, .int .i64 fun _ => (x ()).asked]
 | .cF, x => .c (.own .aF x)
 | .cf, x => .agg [.int .i64 fun _ => (x ()).ah.total, .int .i64 fun _ => (x ()).ah.free, .int .i64 fun _ => (x ()).ah.held, .int .i64 fun _ => (x ()).ah.aU, .int .i64 fun _ => (x ()).ah.tied,
  .own .aD fun _ => (x ()).row, .own .cF fun _ => (x ()).spoke]
 | .h_, x => .agg [.int .i64 fun _ => (x ()).kind, .int .i64 fun _ => (x ()).id, .int .i64 fun _ => (x ()).cf, .int .i64 fun _ => (x ()).al, .int .i64 fun _ => (x ()).siz, .int .i64 fun _ => (x ()).aK]
 | .rep, x => .agg [.int .i64 fun _ => (x ()).code, .own .int fun _ => (x ()).ids]
def lR (E : an) (x : Unit → List E.α) : dj := .c (.own E x)
inductive KC where
 | int (k : IntKind) (x : Unit → Int)
 | bool (x : Unit → Bool)
 | str (x : Unit → List UInt8)
 | nm (j : Nat)
inductive dV where
 | own (E : an) (x : Unit → List E.α)
 | box (cs : List KC)
 | vw
def KC.c : KC → C
 | .int k x => .lf (.int k x)
 | .bool x => .lf (.bool x)
 | .str x => .lf (.str x)
 | .nm j => .own j
def HT : List KC → List C
 | [] => []
 | c :: cs => c.c :: HT cs
def dV.af : dV → ak
 | .own E x => .own E x false
 | .box cs => .box (HT cs)
 | .vw => .dead
def jB : List (Nat × dV) → List (Nat × ak)
 | [] => []
 | p :: r => (p.1, p.2.af) :: jB r
def vg : List (Nat × ak) → List (Nat × ak) → List (Nat × ak)
 | [], bs => bs
 | p :: r, bs => p :: vg r bs
def iZ (s : dj) (kp : List (Nat × dV)) : List (Nat × ak) := vg (jB kp) (num 100 s.bs)
def lM (s : dj) : V := s.v.dq (100 + ·)
def vh (s : Sh) (c : C) (kk : Nat) : C × List (Nat × an) :=
 match s, c with
 | .own E _, .nil => (.own kk, [(kk, E)])
 | _, c => (c, [])
def oG : List Sh → List C → Nat → List C × List (Nat × an)
 | s :: ss, c :: cs, kk => match vh s c kk, oG ss cs (kk + 1) with | (c', l), (kP, l') => (c' :: kP, l ++ l')
 | _, cs, _ => (cs, [])
def rz : List (Bool × List Sh) → List (Bool × List C) → Nat → List (Bool × List C) × List (Nat × an)
 | p :: ps, q :: qs, kk => match oG p.2 q.2 kk, rz ps qs (kk + 100) with | (cs, l), (r, l') => ((q.1, cs) :: r, l ++ l')
 | _, qs, _ => (qs, [])
def rA (s : dj) (v : V) (kk : Nat) : V × List (Nat × an) :=
 match s, v with
 | .c s, .c x => (match vh s x kk with | (x', l) => (.c x', l))
 | .agg ss, .agg cs => (match oG ss cs kk with | (kP, l) => (.agg kP, l))
 | .bc ps, .bc qs => (match rz ps qs kk with | (rB, l) => (.bc rB, l))
 | _, v => (v, [])
def mj : List (Nat × an) → List (Nat × ak) → Option (List (Nat × ak))
 | [], bs => some bs
 | p :: r, bs => match aM bs p.1 with | none => mj r (dx bs p.1 (.own p.2 (fun _ => []) false)) | some _ => none
def zy (l l0 : Lf) (K : Prop) : Prop :=
 match l, l0 with
 | .int i t, .int k x => if i = k then jW (fun _ => t () = x ()) K else False
 | .bool t, .bool x => jW (fun _ => t () = x ()) K
 | .str t, .str x => jW (fun _ => t () = x ()) K
 | .list E' t, .list E x => jW (fun _ => rn E E' x t) K
 | _, _ => False
def zz : List Lf → List Lf → Prop → Prop
 | [], [], K => K
 | l :: ls, m :: ms, K => zy l m (zz ls ms K)
 | _, _, _ => False
def C6 (c c0 : Cp) (K : Prop) : Prop :=
 match c, c0 with
 | .bZ ls o, .bZ ms o' => if o = o' then zz ls ms K else False
 | _, _ => False
def zA : List Cp → List Cp → Prop → Prop
 | [], [], K => K
 | l :: ls, m :: ms, K => C6 l m (zA ls ms K)
 | _, _, _ => False
def mC (c c0 : C) (K : Prop) : Prop :=
 match c, c0 with
 | _, .undef => K
 | .lf l, .lf l0 => zy l l0 K
 | .bl b, .lf (.bool x) => jW (fun _ => b = x ()) K
 | .bl b, .bl b' => if b = b' then K else False
 | .own j, .own k => if j = k then K else False
 | .nil, .nil => K
 | .ptr j o, .ptr k o' => if j = k ∧ o = o' then K else False
 | .fn f l, .fn g m => if f = g then zA l m K else False
 | _, _ => False
def tF : List C → List C → Prop → Prop
 | [], [], K => K
 | c :: cs, d :: ds, K => mC c d (tF cs ds K)
 | _, _, _ => False
def zB : List (Bool × List C) → List (Bool × List C) → Prop → Prop
 | [], [], K => K
 | p :: ps, q :: qs, K => if p.1 = q.1 then tF p.2 q.2 (zB ps qs K) else False
 | _, _, _ => False
def mV (v v0 : V) (K : Prop) : Prop :=
 match v, v0 with
 | .c x, .c y => mC x y K
 | .agg xs, .agg ys => tF xs ys K
 | .bc ps, .bc qs => zB ps qs K
 | _, _ => False
def na : List (Nat × ak) → List (Nat × ak) → Prop → Prop
 | [], [], K => K
 | p :: ps, q :: qs, K =>
   if p.1 = q.1 then
    match p.2, q.2 with
    | .own E' t false, .own E x false => jW (fun _ => rn E E' x t) (na ps qs K)
    | .box cs, .box ds => tF cs ds (na ps qs K)
    | .mp t, .mp x => jW (fun _ => t () = x ()) (na ps qs K)
    | .view _ _, .dead => na ps qs K
    | .view E' t, .view E x => jW (fun _ => rn E E' x t) (na ps qs K)
    | _, _ => False
   else False
 | _, _, _ => False
def iy : List (Nat × dV) → List (Nat × Nat)
 | [] => []
 | p :: r => (p.1, p.1) :: iy r
def hC : List Nat → Nat → List (Nat × Nat)
 | [], _ => []
 | k :: ks, j => (k, j) :: hC ks (j + 1)
def iz : List (Nat × Nat) → List (Nat × Nat) → List (Nat × Nat)
 | [], b => b
 | p :: r, b => p :: iz r b
def xg (tab : bf) (rs : List ResultVar) (s : dj) (kp : List (Nat × dV)) (σ : SS) : Prop :=
 match uy tab σ rs with
 | some r =>
   match rA s r 9000000 with
   | (r', l) =>
     match mj l (closeAll (σ.af.map (·.1)) σ.af) with
     | some bs =>
       match oy bs (iz (iy kp) (hC (fg r') 100)) (iz (iy kp) (hC (fg r') 100)) with
       | some out =>
         if eQ ((iz (iy kp) (hC (fg r') 100)).map (·.1)) = true ∧ eQ ((iz (iy kp) (hC (fg r') 100)).map (·.2)) = true ∧ (r'.dZ (iz (iy kp) (hC (fg r') 100))).cl = true then
          na out (iZ s kp) (mV (r'.dZ (iz (iy kp) (hC (fg r') 100))) (lM s) True)
         else False
       | none => False
     | none => False
 | none => False
theorem HU {E E' : an} {x : Unit → List E.α} {t : Unit → List E'.α} (h : rn E E' x t) : Lf.list E' t = Lf.list E x := by
 have := C3 (l := false) h
 injection this with h1 h2
 subst h1;rw [eq_of_heq h2]
theorem HV {l l0 : Lf} {K : Prop} (h : zy l l0 K) : K ∧ ∀ {H : Hp} {v : Value}, RL H l v → RL H l0 v := by
 unfold zy at h
 split at h
 · split at h
   · rename_i hi;obtain ⟨h1, h2⟩ := h;refine ⟨h2, fun {H v} hv => ?_⟩;subst hi;obtain ⟨rfl, h3⟩ := RL.of_int hv;rw [h1] at h3 ⊢;exact RL.int h3
   · cases h
 · obtain ⟨h1, h2⟩ := h;refine ⟨h2, fun {H v} hv => ?_⟩;have := RL.of_bool hv;subst this;rw [h1];exact RL.bool
 · obtain ⟨h1, h2⟩ := h;refine ⟨h2, fun {H v} hv => ?_⟩;obtain ⟨rfl, h3⟩ := RL.lz hv;rw [h1] at h3 ⊢;exact RL.str h3
 · obtain ⟨h1, h2⟩ := h;refine ⟨h2, fun {H v} hv => ?_⟩;rw [← HU h1];exact hv
 · cases h
theorem HW : ∀ {ls ms : List Lf} {K : Prop}, zz ls ms K → K ∧ ∀ {H : Hp} {j : Nat} {m : Lf}, ms[j]? = some m → ∃ l, ls[j]? = some l ∧ ∀ {v : Value}, RL H l v → RL H m v
 | [], [], K, h => ⟨h, fun hj => by simp at hj⟩
 | [], _ :: _, K, h => by cases h
 | _ :: _, [], K, h => by cases h
 | l :: ls, m :: ms, K, h => by
   simp only [zz] at h;obtain ⟨h1, h2⟩ := HV h;obtain ⟨h3, h5⟩ := HW h1;refine ⟨h3, fun {H j e} hj => ?_⟩;cases j with
   | zero => simp at hj; subst hj; exact ⟨l, rfl, h2⟩
   | succ j => simpa using h5 (by simpa using hj)
theorem OL {c c0 : Cp} {K : Prop} (h : C6 c c0 K) : K ∧ ∀ {H : Hp} {ρ : aG} {D : Nat → Prop} {v : Value}, dX H ρ D c v → dX H ρ D c0 v := by
 unfold C6 at h
 split at h
 · split at h
   · rename_i ho;subst ho;obtain ⟨h1, h2⟩ := HW h;refine ⟨h1, fun {H ρ D v} hv => ?_⟩;obtain ⟨b, o, cs, e, fz, g1, g2, g3⟩ := hv;refine ⟨b, o, cs, e, fz, g1, g2, fun j m hj => ?_⟩;obtain ⟨l, hl, hi⟩ := h2 hj;exact ⟨(g3 j l hl).1, hi (g3 j l hl).2⟩
   · cases h
 · cases h
theorem HX : ∀ {ls ms : List Cp} {K : Prop}, zA ls ms K → K ∧ ls.length = ms.length ∧ ∀ {H : Hp} {ρ : aG} {D : Nat → Prop} {j : Nat} {m : Cp}, ms[j]? = some m → ∃ l, ls[j]? = some l ∧ ∀ {v : Value}, dX H ρ D l v → dX H ρ D m v
 | [], [], K, h => ⟨h, rfl, fun hj => by simp at hj⟩
 | [], _ :: _, K, h => by cases h
 | _ :: _, [], K, h => by cases h
 | l :: ls, m :: ms, K, h => by
   simp only [zA] at h;obtain ⟨h1, h2⟩ := OL h;obtain ⟨h3, h4, h5⟩ := HX h1;refine ⟨h3, by simp [h4], fun {H ρ D j e} hj => ?_⟩;cases j with
   | zero => simp at hj; subst hj; exact ⟨l, rfl, h2⟩
   | succ j => simpa using h5 (by simpa using hj)
theorem HY {c c0 : C} {K : Prop} (h : mC c c0 K) : K ∧ ∀ {H : Hp} {ρ : aG} {D : Nat → Prop} {v : Value}, RC H ρ D c v → RC H ρ D c0 v := by
 unfold mC at h
 split at h
 · exact ⟨h, fun _ => trivial⟩
 · obtain ⟨h1, h2⟩ := HV h;exact ⟨h1, fun hv => h2 hv⟩
 · obtain ⟨h1, h2⟩ := h;refine ⟨h2, fun {H ρ D v} hv => ?_⟩;simp only [RC] at hv ⊢;subst hv;rw [h1];exact RL.bool
 · split at h
   · rename_i hb; subst hb; exact ⟨h, fun hv => hv⟩
   · cases h
 · split at h
   · rename_i hj; subst hj; exact ⟨h, fun hv => hv⟩
   · cases h
 · exact ⟨h, fun hv => hv⟩
 · split at h
   · rename_i hj; obtain ⟨rfl, rfl⟩ := hj; exact ⟨h, fun hv => hv⟩
   · cases h
 · split at h
   · rename_i hf;subst hf;obtain ⟨h1, h2, h3⟩ := HX h;refine ⟨h1, fun {H ρ D v} hv => ?_⟩;obtain ⟨vs, g1, g2, g3⟩ := hv;refine ⟨vs, g1, by rw [g2, h2], fun j m hj => ?_⟩;obtain ⟨l, hl, hi⟩ := h3 hj;exact hi (g3 j l hl)
   · cases h
 · cases h
theorem vi : ∀ {cs ds : List C} {K : Prop}, tF cs ds K → K ∧ cs.length = ds.length ∧ ∀ {H : Hp} {ρ : aG} {D : Nat → Prop} {j : Nat} {d : C}, ds[j]? = some d → ∃ c, cs[j]? = some c ∧ ∀ {v : Value}, RC H ρ D c v → RC H ρ D d v
 | [], [], K, h => ⟨h, rfl, fun hj => by simp at hj⟩
 | [], _ :: _, K, h => by cases h
 | _ :: _, [], K, h => by cases h
 | c :: cs, d :: ds, K, h => by
   simp only [tF] at h;obtain ⟨h1, h2⟩ := HY h;obtain ⟨h3, h4, h5⟩ := vi h1;refine ⟨h3, by simp [h4], fun {H ρ D j e} hj => ?_⟩;cases j with
   | zero => simp at hj; subst hj; exact ⟨c, rfl, h2⟩
   | succ j => simpa using h5 (by simpa using hj)
theorem C7 {cs ds : List C} {K : Prop} (h : tF cs ds K) {H : Hp} {ρ : aG} {D : Nat → Prop} {vs : Array Value} (hv : cW H ρ D cs vs) : cW H ρ D ds vs := by
 obtain ⟨_, h4, h5⟩ := vi h;refine ⟨by rw [← h4]; exact hv.1, fun j d hj => ?_⟩;obtain ⟨c, hc, hi⟩ := h5 hj;exact hi (hv.2 j c hc)
theorem HZ : ∀ {ps qs : List (Bool × List C)} {K : Prop}, zB ps qs K → K ∧ ps.length = qs.length ∧ ∀ {H : Hp} {ρ : aG} {D : Nat → Prop} {j : Nat} {q : Bool × List C}, qs[j]? = some q → ∃ p, ps[j]? = some p ∧ ∀ {v : Value}, RT H ρ D p v → RT H ρ D q v
 | [], [], K, h => ⟨h, rfl, fun hj => by simp at hj⟩
 | [], _ :: _, K, h => by cases h
 | _ :: _, [], K, h => by cases h
 | p :: ps, q :: qs, K, h => by
   simp only [zB] at h
   split at h
   · rename_i H2;obtain ⟨h1, h2, _⟩ := vi h;obtain ⟨h3, h4, h5⟩ := HZ h1;refine ⟨h3, by simp [h4], fun {H ρ D j e} hj => ?_⟩;cases j with
     | zero =>
       simp at hj; subst hj;refine ⟨p, rfl, fun {v} hv => ?_⟩;obtain ⟨b, cs⟩ := p;obtain ⟨b', ds⟩ := q;simp only at H2 h2 h;subst H2;cases b with
       | true => obtain ⟨vs, g1, g2⟩ := hv; exact ⟨vs, g1, C7 h g2⟩
       | false =>
         obtain ⟨c, g1, g2⟩ := hv;simp only at g1;subst g1;obtain ⟨d, rfl⟩ : ∃ d, ds = [d] := List.length_eq_one_iff.1 (by simpa using h2.symm);refine ⟨d, rfl, ?_⟩;obtain ⟨c', je, hi⟩ := (vi h).2.2 (H := H) (ρ := ρ) (D := D) (j := 0) (d := d) rfl;simp at je;subst je;exact hi g2
     | succ j => simpa using h5 (by simpa using hj)
   · cases h
theorem zC {v v0 : V} {K : Prop} (h : mV v v0 K) : K ∧ ∀ {H : Hp} {ρ : aG} {D : Nat → Prop} {x : Value}, RV H ρ D v x → RV H ρ D v0 x := by
 unfold mV at h
 split at h
 · exact HY h
 · exact ⟨(vi h).1, fun ⟨vs, h1, h2⟩ => ⟨vs, h1, C7 h h2⟩⟩
 · obtain ⟨h1, h2, h3⟩ := HZ h;refine ⟨h1, fun {H ρ D x} ⟨vs, g1, g2, g3⟩ => ⟨vs, g1, by rw [g2, h2], fun j q hj => ?_⟩⟩;obtain ⟨p, hp, hi⟩ := h3 hj;exact hi (g3 j p hp)
 · cases h
theorem qj : ∀ {ps qs : List (Nat × ak)} {K : Prop}, na ps qs K → K ∧ qs.map (·.1) = ps.map (·.1) ∧ ∀ k B', (k, B') ∈ qs → ∃ B, (k, B) ∈ ps ∧
   (∀ {h : Array Obj} {H : Hp} {ρ : aG} {D : Nat → Prop} {p : Value × (Nat → Nat)}, cK h H ρ D B p → cK h H ρ D B' p) ∧ ∀ (p : Value × (Nat → Nat)) x, fV B' p x → fV B p x
 | [], [], K, h => ⟨h, rfl, fun k B' hk => by cases hk⟩
 | [], _ :: _, K, h => by cases h
 | _ :: _, [], K, h => by cases h
 | (k, A) :: ps, (k', A') :: qs, K, h => by
   simp only [na] at h
   split at h
   · rename_i hk;subst hk
     split at h
     · rename_i E' t E x;obtain ⟨h1, h⟩ := h;obtain ⟨h2, h3, h4⟩ := qj h;have he := C3 (l := false) h1;refine ⟨h2, by simp [h3], fun j B' hj => ?_⟩;rcases List.mem_cons.1 hj with hj | hj
       · cases hj; exact ⟨_, List.mem_cons_self, by rw [he]; exact ⟨fun h => h, fun _ _ h => h⟩⟩
       · obtain ⟨B, g1, g2⟩ := h4 j B' hj; exact ⟨B, List.mem_cons_of_mem _ g1, g2⟩
     · rename_i cs ds;have hm := h;obtain ⟨h, _, _⟩ := vi h;obtain ⟨h2, h3, h4⟩ := qj h;refine ⟨h2, by simp [h3], fun j B' hj => ?_⟩;rcases List.mem_cons.1 hj with hj | hj
       · cases hj;exact ⟨_, List.mem_cons_self, fun ⟨b, vs, e, fz, e1, e2, e3, e4, e5⟩ => ⟨b, vs, e, fz, e1, e2, e3, e4, C7 hm e5⟩, fun _ _ h => h⟩
       · obtain ⟨B, g1, g2⟩ := h4 j B' hj; exact ⟨B, List.mem_cons_of_mem _ g1, g2⟩
     · rename_i t x;obtain ⟨h1, h⟩ := h;obtain ⟨h2, h3, h4⟩ := qj h;have h1 : t () = x () := h1;refine ⟨h2, by simp [h3], fun j B' hj => ?_⟩;rcases List.mem_cons.1 hj with hj | hj
       · cases hj;exact ⟨_, List.mem_cons_self, fun ⟨b, es, c, e1, e2, e3, e4⟩ => ⟨b, es, c, e1, e2, e3, by rw [← h1]; exact e4⟩, fun _ _ h => h⟩
       · obtain ⟨B, g1, g2⟩ := h4 j B' hj; exact ⟨B, List.mem_cons_of_mem _ g1, g2⟩
     · obtain ⟨h2, h3, h4⟩ := qj h;refine ⟨h2, by simp [h3], fun j B' hj => ?_⟩;rcases List.mem_cons.1 hj with hj | hj
       · cases hj;exact ⟨_, List.mem_cons_self, fun h => h.2, fun _ _ h => h⟩
       · obtain ⟨B, g1, g2⟩ := h4 j B' hj; exact ⟨B, List.mem_cons_of_mem _ g1, g2⟩
     · rename_i E' t E x;obtain ⟨h1, h⟩ := h;obtain ⟨h2, h3, h4⟩ := qj h;have he := HU h1;refine ⟨h2, by simp [h3], fun j B' hj => ?_⟩;rcases List.mem_cons.1 hj with hj | hj
       · cases hj; exact ⟨_, List.mem_cons_self, fun ⟨q1, q2⟩ => ⟨by rw [← he]; exact q1, q2⟩, fun _ _ h => h⟩
       · obtain ⟨B, g1, g2⟩ := h4 j B' hj; exact ⟨B, List.mem_cons_of_mem _ g1, g2⟩
     · cases h
   · cases h
theorem H3 {ρ : aG} {x : Nat} : ∀ {ps qs : List (Nat × ak)}, qs.map (·.1) = ps.map (·.1) → aS ρ qs x = aS ρ ps x
 | [], [], _ => rfl
 | [], _ :: _, h => by simp at h
 | _ :: _, [], h => by simp at h
 | p :: ps, q :: qs, h => by
   simp only [List.map_cons, List.cons.injEq] at h;simp only [aS, h.1, H3 h.2]
theorem gf.as {h : Array Obj} {H0 H : Hp} {ρ : aG} {ps qs : List (Nat × ak)} (r : gf h H0 H ρ ps) (hk : qs.map (·.1) = ps.map (·.1))
   (hb : ∀ k B', (k, B') ∈ qs → ∃ B, (k, B) ∈ ps ∧ (∀ {h : Array Obj} {H : Hp} {ρ : aG} {D : Nat → Prop} {p : Value × (Nat → Nat)}, cK h H ρ D B p → cK h H ρ D B' p) ∧ ∀ (p : Value × (Nat → Nat)) x, fV B' p x → fV B p x) : gf h H0 H ρ qs := by
 have hd : av qs = av ps := by funext k; simp only [av, hk]
 refine ⟨by rw [hd]; exact r.oc, by rw [hk]; exact r.nd, r.h0, r.hh, fun k B' bD => ?_, fun x => by rw [H3 hk]; exact r.sum x, fun k B' bD x hx => ?_, fun k B' bD x hx => ?_⟩
 · obtain ⟨B, g1, g2⟩ := hb k B' bD;rw [hd];exact g2.1 (r.af k B g1)
 · obtain ⟨B, g1, _⟩ := hb k B' bD;exact r.fresh k B g1 x hx
 · obtain ⟨B, g1, g2⟩ := hb k B' bD;exact r.ia k B g1 x (g2.2 _ x hx)
theorem OM {bs cd : List (Nat × ak)} {k : Nat} (h : uH bs k = some cd) : av cd = av bs := by
 unfold uH at h
 split at h
 · split at h
   · split at h
     · split at h
       · cases h; funext j; rw [fc, wI]
       · cases h
     · cases h
   · cases h
 · cases h; rfl
 · cases h
section
variable {Γ : Ctx} {H : Hp} {a : Act} {w : World}
theorem aI.mf (bK : Γ.hd = []) {ρ : aG} {σ : SS} (r : aI Γ H ρ σ a w) (k : Nat) :
   ∃ ρ', aI Γ H ρ' { σ with af := Go.Proofs.YtehpbaiclfilaaaGreat.mf σ.af k } a w ∧ (∀ j, (ρ' j).1 = (ρ j).1) ∧ av (Go.Proofs.YtehpbaiclfilaaaGreat.mf σ.af k) = av σ.af := by
 unfold Go.Proofs.YtehpbaiclfilaaaGreat.mf
 split
 · split
   · rename_i cd hc;obtain ⟨ρ', r', h1⟩ := aI.close bK r hc;exact ⟨ρ', r', h1, OM hc⟩
   · exact ⟨ρ, r, fun _ => rfl, rfl⟩
 · exact ⟨ρ, r, fun _ => rfl, rfl⟩
theorem aI.closeAll (bK : Γ.hd = []) : ∀ {ks : List Nat} {ρ : aG} {σ : SS}, aI Γ H ρ σ a w →
   ∃ ρ', aI Γ H ρ' { σ with af := Go.Proofs.YtehpbaiclfilaaaGreat.closeAll ks σ.af } a w ∧ (∀ j, (ρ' j).1 = (ρ j).1) ∧ av (Go.Proofs.YtehpbaiclfilaaaGreat.closeAll ks σ.af) = av σ.af
 | [], ρ, σ, r => ⟨ρ, r, fun _ => rfl, rfl⟩
 | k :: ks, ρ, σ, r => by
   obtain ⟨ρ1, r1, h1, h2⟩ := r.mf bK k;obtain ⟨ρ2, r2, h3, h4⟩ := aI.closeAll bK (ks := ks) r1;exact ⟨ρ2, r2, fun j => (h3 j).trans (h1 j), h4.trans h2⟩
theorem aI.mj : ∀ {l : List (Nat × an)} {ρ : aG} {σ : SS} {bs : List (Nat × ak)}, aI Γ H ρ σ a w → Go.Proofs.YtehpbaiclfilaaaGreat.mj l σ.af = some bs →
   ∃ ρ', aI Γ H ρ' { σ with af := bs } a w ∧ (∀ j, av σ.af j → av bs j ∧ (ρ' j).1 = (ρ j).1) ∧ ∀ p ∈ l, av bs p.1 ∧ (ρ' p.1).1 = .slice none 0 0
 | [], ρ, σ, bs, r, h => by
   simp only [Go.Proofs.YtehpbaiclfilaaaGreat.mj, Option.some.injEq] at h;subst h;exact ⟨ρ, r, fun j hj => ⟨hj, rfl⟩, fun p hp => by cases hp⟩
 | p :: l, ρ, σ, bs, r, h => by
   simp only [Go.Proofs.YtehpbaiclfilaaaGreat.mj] at h
   split at h
   · rename_i hk;have r1 := r.s6 (w' := w) (B := .own p.2 (fun _ => []) false) (p := (.slice none 0 0, fun _ => 0)) hk (fun _ _ _ => rfl) (fun _ _ => rfl) (Ext.refl _) rfl (fun x hx => by simp at hx) (fun x => by simp) (bn.nil rfl) (by simp);obtain ⟨ρ2, r2, g1, g2⟩ := aI.mj r1 h;have hne : ∀ j, av σ.af j → j ≠ p.1 := fun j hj he => jw hk (he ▸ hj);refine ⟨ρ2, r2, fun j hj => ?_, fun q hq => ?_⟩
     · obtain ⟨f1, f2⟩ := g1 j (gh.2 (.inr hj));exact ⟨f1, by rw [f2, dg (hne j hj)]⟩
     · rcases List.mem_cons.1 hq with rfl | hq
       · obtain ⟨f1, f2⟩ := g1 q.1 (gh.2 (.inl rfl));exact ⟨f1, by rw [f2, dG]⟩
       · exact g2 q hq
   · cases h
end
section
variable {H : Hp} {ρ ρ' : aG} {D D' : Nat → Prop} (hg : ∀ k, D k → D' k ∧ (ρ' k).1 = (ρ k).1)
include hg
theorem H4 {s : Sh} {c c' : C} {kk : Nat} {l : List (Nat × an)} {v : Value} (h : vh s c kk = (c', l)) (hl : ∀ p ∈ l, D' p.1 ∧ (ρ' p.1).1 = .slice none 0 0) (hv : RC H ρ D c v) : RC H ρ' D' c' v := by
 unfold vh at h
 split at h
 · cases h;have := hl _ List.mem_cons_self;simp only [RC] at hv;exact ⟨this.1, by rw [hv, this.2]⟩
 · cases h;exact hv.grow ⟨fun _ _ h => h, hg⟩
theorem C8 : ∀ {ss : List Sh} {cs kP : List C} {kk : Nat} {l : List (Nat × an)}, oG ss cs kk = (kP, l) → (∀ p ∈ l, D' p.1 ∧ (ρ' p.1).1 = .slice none 0 0) →
   kP.length = cs.length ∧ ∀ (j : Nat) c', kP[j]? = some c' → ∃ c, cs[j]? = some c ∧ ∀ v, RC H ρ D c v → RC H ρ' D' c' v
 | [], cs, kP, kk, l, h, _ => by
   simp only [oG, Prod.mk.injEq] at h;obtain ⟨rfl, rfl⟩ := h;exact ⟨rfl, fun j c' hj => ⟨c', hj, fun v hv => hv.grow ⟨fun _ _ h => h, hg⟩⟩⟩
 | _ :: _, [], kP, kk, l, h, _ => by
   simp only [oG, Prod.mk.injEq] at h;obtain ⟨rfl, rfl⟩ := h;exact ⟨rfl, fun j c' hj => by simp at hj⟩
 | s :: ss, c :: cs, kP, kk, l, h, hl => by
   cases h1 : vh s c kk with
   | mk c1 l1 =>
   cases h2 : oG ss cs (kk + 1) with
   | mk GA l2 =>
   simp only [oG, h1, h2, Prod.mk.injEq] at h;obtain ⟨rfl, rfl⟩ := h;obtain ⟨g1, g2⟩ := C8 h2 fun p hp => hl p (List.mem_append_right _ hp);refine ⟨by simp [g1], fun j c' hj => ?_⟩;cases j with
   | zero => simp at hj; subst hj; exact ⟨c, rfl, fun v hv => H4 hg h1 (fun p hp => hl p (List.mem_append_left _ hp)) hv⟩
   | succ j => simpa using g2 j c' (by simpa using hj)
theorem H5 : ∀ {ps : List (Bool × List Sh)} {qs rB : List (Bool × List C)} {kk : Nat} {l : List (Nat × an)}, rz ps qs kk = (rB, l) → (∀ p ∈ l, D' p.1 ∧ (ρ' p.1).1 = .slice none 0 0) →
   rB.length = qs.length ∧ ∀ (j : Nat) q', rB[j]? = some q' → ∃ q, qs[j]? = some q ∧ ∀ v, RT H ρ D q v → RT H ρ' D' q' v
 | [], qs, rB, kk, l, h, _ => by
   simp only [rz, Prod.mk.injEq] at h;obtain ⟨rfl, rfl⟩ := h;exact ⟨rfl, fun j c' hj => ⟨c', hj, fun v hv => hv.grow ⟨fun _ _ h => h, hg⟩⟩⟩
 | _ :: _, [], rB, kk, l, h, _ => by
   simp only [rz, Prod.mk.injEq] at h;obtain ⟨rfl, rfl⟩ := h;exact ⟨rfl, fun j c' hj => by simp at hj⟩
 | p :: ps, q :: qs, rB, kk, l, h, hl => by
   cases h1 : oG p.2 q.2 kk with
   | mk c1 l1 =>
   cases h2 : rz ps qs (kk + 100) with
   | mk GA l2 =>
   simp only [rz, h1, h2, Prod.mk.injEq] at h;obtain ⟨rfl, rfl⟩ := h;obtain ⟨g1, g2⟩ := H5 h2 fun p hp => hl p (List.mem_append_right _ hp);refine ⟨by simp [g1], fun j q' hj => ?_⟩;cases j with
   | zero =>
     simp at hj; subst hj;refine ⟨q, rfl, fun v hv => ?_⟩;obtain ⟨f1, f2⟩ := C8 hg h1 fun p hp => hl p (List.mem_append_left _ hp);obtain ⟨b, cs⟩ := q;cases b with
     | true =>
       obtain ⟨vs, e1, e2⟩ := hv;refine ⟨vs, e1, by rw [e2.1]; exact f1.symm, fun i c' hi => ?_⟩;obtain ⟨c, hc, lC⟩ := f2 i c' hi;exact lC _ (e2.2 i c hc)
     | false =>
       obtain ⟨c, e1, e2⟩ := hv;simp only at e1 f1 f2;subst e1;obtain ⟨c', je⟩ : ∃ c', c1 = [c'] := List.length_eq_one_iff.1 (by simpa using f1);refine ⟨c', je, ?_⟩;obtain ⟨c0, cO, lC⟩ := f2 0 c' (by rw [je]; rfl);simp at cO;subst cO;exact lC _ e2
   | succ j => simpa using g2 j q' (by simpa using hj)
theorem C9 {s : dj} {v v' : V} {kk : Nat} {l : List (Nat × an)} {x : Value} (h : rA s v kk = (v', l)) (hl : ∀ p ∈ l, D' p.1 ∧ (ρ' p.1).1 = .slice none 0 0) (hv : RV H ρ D v x) : RV H ρ' D' v' x := by
 unfold rA at h
 split at h
 · rename_i s c;cases h1 : vh s c kk with
   | mk c1 l1 =>
   simp only [h1, Prod.mk.injEq] at h;obtain ⟨rfl, rfl⟩ := h;exact H4 hg h1 hl hv
 · rename_i ss cs;cases h1 : oG ss cs kk with
   | mk c1 l1 =>
   simp only [h1, Prod.mk.injEq] at h;obtain ⟨rfl, rfl⟩ := h;obtain ⟨f1, f2⟩ := C8 hg h1 hl;obtain ⟨vs, e1, e2⟩ := hv;refine ⟨vs, e1, by rw [e2.1]; exact f1.symm, fun i c' hi => ?_⟩;obtain ⟨c, hc, lC⟩ := f2 i c' hi;exact lC _ (e2.2 i c hc)
 · rename_i ps qs;cases h1 : rz ps qs kk with
   | mk c1 l1 =>
   simp only [h1, Prod.mk.injEq] at h;obtain ⟨rfl, rfl⟩ := h;obtain ⟨f1, f2⟩ := H5 hg h1 hl;obtain ⟨vs, e1, e2, e3⟩ := hv;refine ⟨vs, e1, by rw [e2, f1], fun i q' hi => ?_⟩;obtain ⟨q, hq, ON⟩ := f2 i q' hi;exact ON _ (e3 i q hq)
 · cases h;exact hv.grow ⟨fun _ _ h => h, hg⟩
end
section
variable {P : Program} {tab : bf} (hT : fw P tab = true) {Γ : Ctx} {H : Hp} {ρ : aG} {σ : SS} {a : Act} {w : World} (r : aI Γ H ρ σ a w)
include hT r
omit hT r in
theorem C_ {kp : List (Nat × dV)} {l : List (Nat × Nat)} : ∀ p ∈ kp, (p.1, p.1) ∈ iz (iy kp) l := by
 induction kp with
 | nil => intro p hp; cases hp
 | cons q kp ih =>
   intro p hp;rcases List.mem_cons.1 hp with rfl | hp
   · exact List.mem_cons_self
   · exact List.mem_cons_of_mem _ (ih p hp)
theorem OO (bK : Γ.hd = []) {fn : Func} {s : dj} {kp : List (Nat × dV)} (h : xg tab fn.results.toList s kp σ) :
   ∃ v, (results fn a.tmps).run P w = .ok v w ∧ ∃ H' ρ', gf w.heap Γ.H0 H' ρ' (iZ s kp) ∧ RV fK ρ' (av (iZ s kp)) (lM s) v ∧ ∀ p ∈ kp, av σ.af p.1 → (ρ' p.1).1 = (ρ p.1).1 := by
 unfold xg at h
 split at h
 · rename_i rv s8;obtain ⟨v, hv, rC⟩ := yL hT r s8;cases hm : rA s rv 9000000 with
   | mk xh l =>
   rw [hm] at h;simp only at h
   split at h
   · rename_i bs qh
     split at h
     · rename_i out xi
       split at h
       · rename_i hc;obtain ⟨kY, vj, fh⟩ := hc;obtain ⟨ρ1, r1, f1, f2⟩ := r.closeAll bK (ks := σ.af.map (·.1));obtain ⟨ρ2, r2, f3, f4⟩ := aI.mj (σ := { σ with af := Go.Proofs.YtehpbaiclfilaaaGreat.closeAll (σ.af.map (·.1)) σ.af }) r1 qh
         have hg : ∀ k, av σ.af k → av bs k ∧ (ρ2 k).1 = (ρ k).1 := fun k hk => by
           obtain ⟨q1, q2⟩ := f3 k (by show av (Go.Proofs.YtehpbaiclfilaaaGreat.closeAll (σ.af.map (·.1)) σ.af) k; rw [f2]; exact hk);exact ⟨q1, by rw [q2, f1]⟩
         have lN := C9 hg hm f4 hv;obtain ⟨rb, xj, gD⟩ := gf.fj xi kY vj r2.b;have xk := lN.dZ xj;obtain ⟨xl, ot, gX⟩ := qj h;obtain ⟨_, xm⟩ := zC xl;have kN : av (iZ s kp) = av out := by funext k; simp only [av, ot]
         refine ⟨v, rC, H, _, rb.as ot gX, ?_, fun p hp => ?_⟩
         · rw [kN];exact xm (xk.cl fh)
         · have cA := C_ (l := hC (fg xh) 100) p hp;obtain ⟨q1, q2⟩ := gD _ _ cA;intro hd;show (ρ2 (inv _ p.1)).1 = _;rw [q2, (hg _ hd).2]
       · cases h
     · cases h
   · cases h
 · cases h
end
def ml : List (Nat × ak) → Prop
 | [] => True
 | (_, .own E t _) :: r => ((t ()).length ≤ cG ∧ ∀ x ∈ t (), deep E x) ∧ ml r
 | (_, .box cs) :: r => zw cs ∧ ml r
 | _ :: r => ml r
theorem Da {h : Array Obj} {H : Hp} {ρ : aG} {D : Nat → Prop} : ∀ {bs : List (Nat × ak)}, (∀ k B, (k, B) ∈ bs → cK h H ρ D B (ρ k)) → ml bs := by
 intro bs
 induction bs with
 | nil => intro _; trivial
 | cons p bs ih =>
   intro hb;have h1 := ih fun k B hk => hb k B (List.mem_cons_of_mem _ hk);have h2 := hb p.1 p.2 List.mem_cons_self;obtain ⟨k, B⟩ := p;cases B with
   | dead => exact h1
   | view E xs => exact h1
   | mp m => exact h1
   | b0 E xs i fs => exact h1
   | own E t l =>
     have h3 : bn h (.list E t) (ρ k).1 (ρ k).2 := h2;exact ⟨(h3.rl (H := fun b => h[b]?) fun _ _ => rfl).ok, h1⟩
   | box cs =>
     obtain ⟨b, vs, e, fz, _, _, _, _, h4⟩ := h2;exact ⟨cW.ok (f := fun j => vs.getD j Go.undef) h4.2, h1⟩
def oH (as : List V) (bs : List (Nat × ak)) (n : Nat) : SS := { env := as ++ List.replicate (n - as.length) (.c .undef), af := bs }
def rD (P : Program) (tab : bf) (fr : Bool) (fn : Func) (c : Code) (as : List V) (bs : List (Nat × ak)) (pk : List Nat) (F : SS → Prop) : Prop :=
 mh P tab fr pk c (oH as bs fn.ntmps) fun e σ => match e with
  | .normal => F σ
  | .ret => F σ
  | _ => False
def zD (tab : bf) (rs : List ResultVar) (X : Type) (φ : X → Prop) (s : X → dj) (kp : X → List (Nat × dV)) (σ : SS) : Prop := ∃ x : X, φ x ∧ xg tab rs (s x) (kp x) σ
theorem OP {bs : List (Nat × ak)} {k : Nat} (h : av bs k) : ∃ B, (k, B) ∈ bs := by
 obtain ⟨⟨k', B⟩, h1, rfl⟩ := List.mem_map.1 h;exact ⟨B, h1⟩
theorem OQ {P : Program} {tab : bf} (hT : fw P tab = true) {f : FuncId} {fn : Func} {c : Code} (hf : P.funcs[f]? = some fn) (hb : fn.body = some c) (fE : (fn.name == "runtime.NumGoroutine") = false) {fr : Bool} (dY : fr = true → gC c = true)
  {as : List V} {bs : List (Nat × ak)} {X : Type} {φ : X → Prop} {s : X → dj} {kp : X → List (Nat × dV)} {pk : List Nat} (ic : ∀ x, (kp x).map (·.1) = pk) (jA : pk.all (fun k => (bs.map (·.1)).contains k) = true)
  (aL : (bs.map (·.1)).all (fun k => decide (k < 100)) = true)
  (h : kX as → ml bs → rD P tab fr fn c as bs pk (zD tab fn.results.toList X φ s kp)) : bE P f as bs fun r b => ∃ x, φ x ∧ r = lM (s x) ∧ b = iZ (s x) (kp x) := by
 refine ⟨⟨fn, hf, fE, by rw [hb]; rfl⟩, fun w vs ρ rE di => ?_⟩;refine calls_of_wp hf hb ?_
 have xn : ∀ k ∈ pk, av bs k := fun k hk => by
  have := List.all_eq_true.1 jA k hk;have : k ∈ bs.map (·.1) := List.contains_iff_mem.1 this;exact this
 let Γ : Ctx := ⟨fC w (aS ρ bs), [], w, pk.map fun k => (k, (ρ k).1)⟩
 have r : Rel Γ (oH as bs fn.ntmps) { tmps := vs ++ Array.replicate (fn.ntmps - vs.size) Go.undef, defers := [] } w := by
  refine ⟨fC w (aS ρ bs), ρ, ⟨rE, ⟨by simp [oH, di.1], fun j c hj => ?_⟩, rfl, Ext.refl _, (fun p hp => by cases hp), fun p hp => ?_⟩⟩
  · simp only [oH] at hj;rcases Nat.lt_or_ge j as.length with aL | lL
    · rw [List.getElem?_append_left aL] at hj;have := di.2 j c hj;rw [Array.getD_eq_getD_getElem?, Array.getElem?_append_left (by rw [di.1]; exact aL), ← Array.getD_eq_getD_getElem?];exact this
    · rw [List.getElem?_append_right lL, List.getElem?_replicate] at hj
      split at hj
      · cases hj; trivial
      · cases hj
  · obtain ⟨k, hk, rfl⟩ := List.mem_map.1 hp;exact ⟨xn k hk, rfl⟩
 refine zt hT rfl (pk := pk) (fun p hp => by obtain ⟨k, hk, rfl⟩ := List.mem_map.1 hp; exact hk) c dY (h (zx di.2) (Da fun k B hk => rE.af k B hk)) r fun e ax a' w' h' r' => ?_
 have done : zD tab fn.results.toList X φ s kp ax → ∃ v, (results fn a'.tmps).run P w' = .ok v w' ∧ ∃ v' r cd H' ρ', Ending.returned v = .returned v' ∧ (∃ x, φ x ∧ r = lM (s x) ∧ cd = iZ (s x) (kp x)) ∧ gf w'.heap (fC w (aS ρ bs)) H' ρ' cd ∧
    RV fK ρ' (av cd) r v' ∧ Ext w w' ∧ ∀ k, av cd k → av bs k → (ρ' k).1 = (ρ k).1 := fun hf => by
  obtain ⟨x, hx, hf⟩ := hf;obtain ⟨H, ρ1, r'⟩ := r';obtain ⟨v, h1, H', ρ', h2, h3, h4⟩ := OO hT r' rfl (fn := fn) hf;refine ⟨v, h1, v, _, _, H', ρ', rfl, ⟨x, hx, rfl, rfl⟩, h2, h3, r'.n, fun k hk pV => ?_⟩
  have cA : ∃ q ∈ kp x, q.1 = k := by
    have bD : k ∈ (iZ (s x) (kp x)).map (·.1) := hk
    have OR : k < 100 := by
      have := List.all_eq_true.1 aL k pV;simpa using this
    have key : ∀ (l : List (Nat × dV)) (m : List (Nat × ak)), k ∈ (vg (jB l) m).map (·.1) → (∃ q ∈ l, q.1 = k) ∨ k ∈ m.map (·.1) := by
      intro l m
      induction l with
      | nil => intro h; exact .inr h
      | cons q l ih =>
        intro h;simp only [jB, vg, List.map_cons, List.mem_cons] at h;rcases h with h | h
        · exact .inl ⟨q, List.mem_cons_self, h.symm⟩
        · rcases ih h with ⟨q', h1, h2⟩ | h1
          · exact .inl ⟨q', List.mem_cons_of_mem _ h1, h2⟩
          · exact .inr h1
    rcases key _ _ bD with h | h
    · exact h
    · have : av (num 100 (s x).bs) k := h;have := nU.1 this;omega
  obtain ⟨q, hq, rfl⟩ := cA;have xo : q.1 ∈ pk := by rw [← ic x]; exact List.mem_map.2 ⟨q, hq, rfl⟩
  have rF := r'.hm (q.1, (ρ q.1).1) (List.mem_map.2 ⟨q.1, xo, rfl⟩);rw [h4 q hq rF.1];exact rF.2
 have m_ : a'.defers = [] := by obtain ⟨H, ρ, r'⟩ := r'; exact r'.d
 cases e with
 | normal => obtain ⟨v, h1, h2⟩ := done h'; exact ⟨m_, v, h1, h2⟩
 | ret => obtain ⟨v, h1, h2⟩ := done h'; exact ⟨m_, v, h1, h2⟩
 | exit id => cases h'
 | goto l => cases h'
 | panic ch => cases h'
 | outgrown => cases h'
def dP (s : dj) (kp : List (Nat × dV)) (r : V) (b : List (Nat × ak)) : Prop := r = lM s ∧ b = iZ s kp
theorem fF {P : Program} {tab : bf} (hT : fw P tab = true) {f : FuncId} {fn : Func} {c : Code} (hf : P.funcs[f]? = some fn) (hb : fn.body = some c) (fE : (fn.name == "runtime.NumGoroutine") = false) {fr : Bool} (dY : fr = true → gC c = true)
  {as : List V} {bs : List (Nat × ak)} {s : dj} {kp : List (Nat × dV)} (jA : (kp.map (·.1)).all (fun k => (bs.map (·.1)).contains k) = true) (aL : (bs.map (·.1)).all (fun k => decide (k < 100)) = true)
  (h : ∀ P', P' = P → kX as → ml bs → rD P' tab fr fn c as bs (kp.map (·.1)) (xg tab fn.results.toList s kp)) : bE P f as bs (dP s kp) := by
 have h1 : kX as → ml bs → rD P tab fr fn c as bs (kp.map (·.1)) (zD tab fn.results.toList Unit (fun _ => True) (fun _ => s) (fun _ => kp)) := by
  intro hA hB;have h0 := h P rfl hA hB
  have e : zD tab fn.results.toList Unit (fun _ => True) (fun _ => s) (fun _ => kp) = xg tab fn.results.toList s kp := by
   funext σ
   exact propext ⟨fun ⟨_, _, h⟩ => h, fun h => ⟨(), trivial, h⟩⟩
  rw [e]; exact h0
 have h2 := OQ hT hf hb fE dY (X := Unit) (φ := fun _ => True) (s := fun _ => s) (kp := fun _ => kp) (pk := kp.map (·.1)) (fun _ => rfl) jA aL h1;refine ⟨h2.1, fun w vs ρ g1 g2 => (h2.2 w vs ρ g1 g2).mono fun e w' he => ?_⟩;obtain ⟨v, r, cd, H', ρ', q1, ⟨_, _, q2, q3⟩, q4⟩ := he;exact ⟨v, r, cd, H', ρ', q1, ⟨q2, q3⟩, q4⟩
theorem aB.by {P P0 : Program} {f : FuncId} {as : List V} {bs : List (Nat × ak)} {K : V → List (Nat × ak) → Prop} {s : dj} {kp : List (Nat × dV)} (hP : P = P0) (h : bE P0 f as bs (dP s kp)) (hk : K (lM s) (iZ s kp)) : aB P f as bs K := by
 subst hP;exact ⟨_, h, fun r b ⟨h1, h2⟩ => by rw [h1, h2]; exact hk⟩
theorem aB.qi {P P0 : Program} {f : FuncId} {as xf : List V} {bs cd : List (Nat × ak)} {K : V → List (Nat × ak) → Prop} {s : dj} {kp : List (Nat × dV)} (hP : P = P0) (h : bE P0 f as bs (dP s kp)) (ha : xf = as) (hb : cd = bs) (hk : K (lM s) (iZ s kp)) : aB P f xf cd K := by
 subst ha; subst hb;exact aB.by hP h hk
def H6 : List (Nat × V) → Nat → V
 | [], _ => .c .undef
 | p :: r, j => if p.1 = j then p.2 else H6 r j
def dH (sl : List (Nat × V)) : Nat → Nat → List V
 | _, 0 => []
 | j, n + 1 => H6 sl j :: dH sl (j + 1) n
def vk : List V → List V → Prop → Prop
 | [], [], K => K
 | v :: vs, w :: ws, K => match w with
   | .c .undef => vk vs ws K
   | w => mV v w (vk vs ws K)
 | _, _, _ => False
def H7 : C → C → List (Nat × Nat)
 | .own k, .own k' => [(k, k')]
 | .ptr k _, .ptr k' _ => [(k, k')]
 | _, _ => []
def Db : List C → List C → List (Nat × Nat)
 | c :: cs, d :: ds => H7 c d ++ Db cs ds
 | _, _ => []
def OS : V → V → List (Nat × Nat)
 | .c x, .c y => H7 x y
 | .agg xs, .agg ys => Db xs ys
 | _, _ => []
def Dc : List V → List V → List (Nat × Nat)
 | v :: vs, w :: ws => OS v w ++ Dc vs ws
 | _, _ => []
def H8 (bs tb : List (Nat × ak)) : List (Nat × Nat) → List (Nat × Nat)
 | [] => []
 | p :: r => (match aM bs p.1, aM tb p.2 with | some (.box cs), some (.box ds) => Db cs ds | _, _ => []) ++ H8 bs tb r
def H9 (tb : List (Nat × ak)) : Nat → List V → List V → List ra
 | j, v :: vs, w :: ws => (match v, w with
   | .c .nil, .c (.own k) => (match aM tb k with | some (.own E _ _) => [.env j E (9000000 + k)] | _ => [])
   | _, _ => []) ++ H9 tb (j + 1) vs ws
 | _, _, _ => []
def H_ (tb : List (Nat × ak)) (bk : Nat) : Nat → List C → List C → List ra
 | j, c :: cs, d :: ds => (match c, d with
   | .nil, .own k => (match aM tb k with | some (.own E _ _) => [.box bk j E (9000000 + k)] | _ => [])
   | _, _ => []) ++ H_ tb bk (j + 1) cs ds
 | _, _, _ => []
def Ia (bs tb : List (Nat × ak)) : List (Nat × Nat) → List ra
 | [] => []
 | p :: r => (match aM bs p.1, aM tb p.2 with | some (.box cs), some (.box ds) => H_ tb p.1 0 cs ds | _, _ => []) ++ Ia bs tb r
def Ib : List (Nat × Nat) → Nat → Option Nat
 | [], _ => none
 | p :: r, k => if p.2 = k then some p.1 else Ib r k
def Dd (pr : List (Nat × Nat)) : List (Nat × ak) → List (Nat × Nat)
 | [] => []
 | q :: r => match Ib pr q.1 with | some k => (k, q.1) :: Dd pr r | none => Dd pr r
def De : Nat → List V → List Nat
 | _, [] => []
 | j, v :: vs => match v with | .c .undef => De (j + 1) vs | _ => j :: De (j + 1) vs
def OT (σ τ : SS) : Norm :=
 let ms := H9 τ.af 0 σ.env τ.env ++ Ia σ.af τ.af (Dc σ.env τ.env)
 match σ.p9 ms with
 | some cQ =>
   let p1 := Dc cQ.env τ.env
   { ms := ms, L := De 0 τ.env, nm := Dd (p1 ++ H8 cQ.af τ.af p1) τ.af }
 | none => { ms := [], L := [], nm := [] }
def vl : List (Nat × ak) → List (Nat × ak) → Prop → Prop
 | [], [], K => K
 | p :: ps, q :: qs, K =>
   if p.1 = q.1 then
    match p.2, q.2 with
    | .b0 E' t i' qT, .b0 E x i fs => jW (fun _ => ak.b0 E' t i' qT = ak.b0 E x i fs) (vl ps qs K)
    | B, B' => na [(p.1, B)] [(p.1, B')] (vl ps qs K)
   else False
 | _, _, _ => False
theorem Ic : ∀ {ps qs : List (Nat × ak)} {K : Prop}, vl ps qs K → K ∧ qs.map (·.1) = ps.map (·.1) ∧ ∀ k B', (k, B') ∈ qs → ∃ B, (k, B) ∈ ps ∧
   (∀ {h : Array Obj} {H : Hp} {ρ : aG} {D : Nat → Prop} {p : Value × (Nat → Nat)}, cK h H ρ D B p → cK h H ρ D B' p) ∧ ∀ (p : Value × (Nat → Nat)) x, fV B' p x → fV B p x
 | [], [], K, h => ⟨h, rfl, fun k B' hk => by cases hk⟩
 | [], _ :: _, K, h => by cases h
 | _ :: _, [], K, h => by cases h
 | (k, A) :: ps, (k', A') :: qs, K, h => by
   have fin : ∀ (h : vl ps qs K), (∀ {h : Array Obj} {H : Hp} {ρ : aG} {D : Nat → Prop} {p : Value × (Nat → Nat)}, cK h H ρ D A p → cK h H ρ D A' p) → (∀ (p : Value × (Nat → Nat)) x, fV A' p x → fV A p x) → k = k' →
       K ∧ ((k', A') :: qs).map (·.1) = ((k, A) :: ps).map (·.1) ∧ ∀ j B', (j, B') ∈ (k', A') :: qs → ∃ B, (j, B) ∈ (k, A) :: ps ∧
   (∀ {h : Array Obj} {H : Hp} {ρ : aG} {D : Nat → Prop} {p : Value × (Nat → Nat)}, cK h H ρ D B p → cK h H ρ D B' p) ∧ ∀ (p : Value × (Nat → Nat)) x, fV B' p x → fV B p x := fun hh g1 g2 hk => by
     obtain ⟨h2, h3, h4⟩ := Ic hh;clear h;subst hk;refine ⟨h2, by simp [h3], fun j B' hj => ?_⟩;rcases List.mem_cons.1 hj with hj | hj
     · cases hj; exact ⟨_, List.mem_cons_self, g1, g2⟩
     · obtain ⟨B, q1, q2⟩ := h4 j B' hj; exact ⟨B, List.mem_cons_of_mem _ q1, q2⟩
   unfold vl at h
   split at h
   · rename_i hk
     split at h
     · rename_i Ie Ig;obtain ⟨h1, h⟩ := h;simp only at Ie Ig;subst Ie Ig;rw [h1] at fin ⊢;exact fin h (fun h => h) (fun _ _ h => h) hk
     · obtain ⟨h, h2, h3⟩ := qj h;obtain ⟨B, g1, g2, g3⟩ := h3 k A' List.mem_cons_self;cases List.mem_singleton.1 g1;exact fin h g2 g3 hk
   · cases h
def ij (pk : List Nat) (σ τ : SS) : Prop :=
 match σ.norm pk (OT σ τ) with
 | some ax => vk ax.env τ.env (vl ax.af τ.af True)
 | none => False
theorem Ih : ∀ {vs ws : List V} {K : Prop}, vk vs ws K → K ∧ vs.length = ws.length ∧ ∀ {H : Hp} {ρ : aG} {D : Nat → Prop} {j : Nat} {w : V}, ws[j]? = some w → ∃ v, vs[j]? = some v ∧ ∀ {x : Value}, RV H ρ D v x → RV H ρ D w x
 | [], [], K, h => ⟨h, rfl, fun hj => by simp at hj⟩
 | [], _ :: _, K, h => by cases h
 | _ :: _, [], K, h => by cases h
 | v :: vs, w :: ws, K, h => by
   have step : ∀ {K' : Prop}, vk vs ws K → (∀ {H : Hp} {ρ : aG} {D : Nat → Prop} {x : Value}, RV H ρ D v x → RV H ρ D w x) →
      K ∧ (v :: vs).length = (w :: ws).length ∧ ∀ {H : Hp} {ρ : aG} {D : Nat → Prop} {j : Nat} {w' : V}, (w :: ws)[j]? = some w' → ∃ v', (v :: vs)[j]? = some v' ∧ ∀ {x : Value}, RV H ρ D v' x → RV H ρ D w' x := by
     intro _ h1 h2;obtain ⟨h3, h4, h5⟩ := Ih h1;refine ⟨h3, by simp [h4], fun {H ρ D j e} hj => ?_⟩;cases j with
     | zero => simp at hj; subst hj; exact ⟨v, rfl, h2⟩
     | succ j => simpa using h5 (by simpa using hj)
   simp only [vk] at h
   split at h
   · exact step (K' := True) h fun _ => trivial
   · obtain ⟨h1, h2⟩ := zC h;exact step (K' := True) h1 h2
theorem lO {pk : List Nat} {σ τ : SS} (h : ij pk σ τ) : Sub pk σ τ := by
 intro Γ a w bK ic r;unfold ij at h
 split at h
 · rename_i ax hn;obtain ⟨H, ρ, r'⟩ := r.norm bK ic hn;obtain ⟨h1, h2, h3⟩ := Ih h;obtain ⟨_, h4, h5⟩ := Ic h1;have kN : av τ.af = av ax.af := by funext k; simp only [av, h4]
   refine ⟨H, ρ, r'.b.as h4 h5, ⟨by rw [r'.e.size, h2], fun j c hj => ?_⟩, r'.d, r'.n, fun p hp => ?_, fun p hp => ?_⟩
   · rw [kN];obtain ⟨v, hv, hi⟩ := h3 hj;exact hi (r'.e.get j v hv)
   · rw [kN]; exact r'.hd p hp
   · rw [kN]; exact r'.hm p hp
 · cases h
theorem aT.by {pk : List Nat} {σ : SS} {R : SS → (SS → Prop) → Prop} {X : Type} (sl : X → List (Nat × V)) (bl : X → List (Nat × ak)) (φ : X → Prop) (m : X → Unit → Nat) (x0 : X) (h0 : φ x0)
  (hn : ij pk σ { env := dH (sl x0) 0 σ.env.length, af := bl x0 })
  (hr : ∀ x, φ x → R { env := dH (sl x) 0 σ.env.length, af := bl x } fun ax => aJ pk X (fun x => { env := dH (sl x) 0 σ.env.length, af := bl x }) φ m (m x) ax) : aT pk σ R :=
 ⟨X, _, φ, m, x0, h0, lO hn, hr⟩
theorem aJ.by {pk : List Nat} {X : Type} {st : X → SS} {φ : X → Prop} {m : X → Unit → Nat} {n : Unit → Nat} {σ : SS} (x : X) (hm : m x () < n ()) (zd : φ x) (hn : ij pk σ (st x)) : aJ pk X st φ m n σ := ⟨x, hm, zd, lO hn⟩
theorem lI.kj {pk : List Nat} {σ : SS} {R : SS → Prop} {A : Type} (n : Nat) (he : σ.env.length = n) (sl : A → List (Nat × V)) (bl : A → List (Nat × ak)) (φ : A → Prop) (a : A)
  (hn : ij pk σ { env := dH (sl a) 0 n, af := bl a }) (h0 : φ a) (hr : ∀ a, φ a → R { env := dH (sl a) 0 n, af := bl a }) : lI pk σ R :=
 ⟨A, fun x => { env := dH (sl x) 0 n, af := bl x }, fun x => φ x, a, h0, lO hn, fun x hx => hr x hx⟩
theorem lI.nh {pk : List Nat} {σ : SS} {R : SS → Prop} {A B : Type} (n : Nat) (he : σ.env.length = n) (sl : A → B → List (Nat × V)) (bl : A → B → List (Nat × ak)) (φ : A → B → Prop) (a : A) (b : B)
  (hn : ij pk σ { env := dH (sl a b) 0 n, af := bl a b }) (h0 : φ a b) (hr : ∀ a b, φ a b → R { env := dH (sl a b) 0 n, af := bl a b }) : lI pk σ R :=
 ⟨A × B, fun x => { env := dH (sl x.1 x.2) 0 n, af := bl x.1 x.2 }, fun x => φ x.1 x.2, (a, b), h0, lO hn, fun x hx => hr x.1 x.2 hx⟩
theorem lI.Ii {pk : List Nat} {σ : SS} {R : SS → Prop} {A B C : Type} (n : Nat) (he : σ.env.length = n) (sl : A → B → C → List (Nat × V)) (bl : A → B → C → List (Nat × ak)) (φ : A → B → C → Prop) (a : A) (b : B) (c : C)
  (hn : ij pk σ { env := dH (sl a b c) 0 n, af := bl a b c }) (h0 : φ a b c) (hr : ∀ a b c, φ a b c → R { env := dH (sl a b c) 0 n, af := bl a b c }) : lI pk σ R :=
 ⟨A × B × C, fun x => { env := dH (sl x.1 x.2.1 x.2.2) 0 n, af := bl x.1 x.2.1 x.2.2 }, fun x => φ x.1 x.2.1 x.2.2, (a, b, c), h0, lO hn, fun x hx => hr x.1 x.2.1 x.2.2 hx⟩
theorem lI.Df {pk : List Nat} {σ : SS} {R : SS → Prop} {A B C D : Type} (n : Nat) (he : σ.env.length = n) (sl : A → B → C → D → List (Nat × V)) (bl : A → B → C → D → List (Nat × ak)) (φ : A → B → C → D → Prop) (a : A) (b : B) (c : C) (d : D)
  (hn : ij pk σ { env := dH (sl a b c d) 0 n, af := bl a b c d }) (h0 : φ a b c d) (hr : ∀ a b c d, φ a b c d → R { env := dH (sl a b c d) 0 n, af := bl a b c d }) : lI pk σ R :=
 ⟨A × B × C × D, fun x => { env := dH (sl x.1 x.2.1 x.2.2.1 x.2.2.2) 0 n, af := bl x.1 x.2.1 x.2.2.1 x.2.2.2 }, fun x => φ x.1 x.2.1 x.2.2.1 x.2.2.2, (a, b, c, d), h0, lO hn, fun x hx => hr x.1 x.2.1 x.2.2.1 x.2.2.2 hx⟩
theorem lI.zF {pk : List Nat} {σ : SS} {R : SS → Prop} {A B C D E : Type} (n : Nat) (he : σ.env.length = n) (sl : A → B → C → D → E → List (Nat × V)) (bl : A → B → C → D → E → List (Nat × ak)) (φ : A → B → C → D → E → Prop) (a : A) (b : B) (c : C) (d : D) (e : E)
  (hn : ij pk σ { env := dH (sl a b c d e) 0 n, af := bl a b c d e }) (h0 : φ a b c d e) (hr : ∀ a b c d e, φ a b c d e → R { env := dH (sl a b c d e) 0 n, af := bl a b c d e }) : lI pk σ R :=
 ⟨A × B × C × D × E, fun x => { env := dH (sl x.1 x.2.1 x.2.2.1 x.2.2.2.1 x.2.2.2.2) 0 n, af := bl x.1 x.2.1 x.2.2.1 x.2.2.2.1 x.2.2.2.2 }, fun x => φ x.1 x.2.1 x.2.2.1 x.2.2.2.1 x.2.2.2.2, (a, b, c, d, e), h0, lO hn, fun x hx => hr x.1 x.2.1 x.2.2.1 x.2.2.2.1 x.2.2.2.2 hx⟩
theorem lI.Ij {pk : List Nat} {σ : SS} {R : SS → Prop} {A B C D E F : Type} (n : Nat) (he : σ.env.length = n) (sl : A → B → C → D → E → F → List (Nat × V)) (bl : A → B → C → D → E → F → List (Nat × ak)) (φ : A → B → C → D → E → F → Prop) (a : A) (b : B) (c : C) (d : D) (e : E) (f : F)
  (hn : ij pk σ { env := dH (sl a b c d e f) 0 n, af := bl a b c d e f }) (h0 : φ a b c d e f) (hr : ∀ a b c d e f, φ a b c d e f → R { env := dH (sl a b c d e f) 0 n, af := bl a b c d e f }) : lI pk σ R :=
 ⟨A × B × C × D × E × F, fun x => { env := dH (sl x.1 x.2.1 x.2.2.1 x.2.2.2.1 x.2.2.2.2.1 x.2.2.2.2.2) 0 n, af := bl x.1 x.2.1 x.2.2.1 x.2.2.2.1 x.2.2.2.2.1 x.2.2.2.2.2 }, fun x => φ x.1 x.2.1 x.2.2.1 x.2.2.2.1 x.2.2.2.2.1 x.2.2.2.2.2, (a, b, c, d, e, f), h0, lO hn, fun x hx => hr x.1 x.2.1 x.2.2.1 x.2.2.2.1 x.2.2.2.2.1 x.2.2.2.2.2 hx⟩
def rG (m : List (Nat × Nat)) : List (Bool × List C) → List (Bool × List C)
 | [] => []
 | p :: r => (p.1, mc m p.2) :: rG m r
def V.rH (m : List (Nat × Nat)) : V → V
 | .bc ps => .bc (rG m ps)
 | v => v.dZ m
section
variable {H : Hp} {ρ ρ' : aG} {D D' : Nat → Prop} {m : List (Nat × Nat)}
theorem Ik : ∀ {cs : List (Bool × List C)} {j : Nat} {p : Bool × List C}, (rG m cs)[j]? = some p → ∃ p0, cs[j]? = some p0 ∧ p = (p0.1, mc m p0.2)
 | [], j, p, h => by simp [rG] at h
 | c0 :: cs, 0, p, h => by simp [rG] at h; exact ⟨c0, rfl, h.symm⟩
 | c0 :: cs, j + 1, p, h => by simp only [rG, List.getElem?_cons_succ] at h ⊢; exact Ik h
theorem Il : ∀ {cs : List (Bool × List C)}, (rG m cs).length = cs.length
 | [] => rfl
 | c :: cs => by simp [rG, Il (cs := cs)]
theorem RV.rH (hm : ∀ k k', lk m k = some k' → D' k' ∧ (ρ' k').1 = (ρ k).1) {c : V} {v : Value} (h : RV H ρ D c v) : RV H ρ' D' (c.rH m) v := by
 cases c with
 | c x => exact RV.dZ hm (c := .c x) h
 | agg cs => exact RV.dZ hm (c := .agg cs) h
 | bc cs =>
   obtain ⟨vs, h1, h2, h3⟩ := h;refine ⟨vs, h1, by rw [h2, Il], fun j p hj => ?_⟩;obtain ⟨p0, g1, rfl⟩ := Ik hj;have h4 := h3 j p0 g1;obtain ⟨b, Dg⟩ := p0;cases b with
   | true =>
     obtain ⟨us, q1, q2⟩ := h4;exact ⟨us, q1, q2.dZ hm⟩
   | false =>
     obtain ⟨c, q1, q2⟩ := h4;have q1 : Dg = [c] := q1;subst q1;exact ⟨c.dZ m, rfl, q2.dZ hm⟩
end
def ni : List Sh → List C → List C
 | [], cs => cs
 | _ :: _, [] => []
 | s :: ss, c :: cs => (match s with | .any => .undef | _ => c) :: ni ss cs
def rI : List (Bool × List Sh) → List (Bool × List C) → List (Bool × List C)
 | p :: ps, q :: qs => (q.1, ni p.2 q.2) :: rI ps qs
 | _, qs => qs
def zG (s : dj) (v : V) : V :=
 match s, v with
 | .bc ps, .bc qs => .bc (rI ps qs)
 | _, v => v
section
variable {H : Hp} {ρ : aG} {D : Nat → Prop}
theorem Im : ∀ {ss : List Sh} {cs : List C}, (ni ss cs).length = cs.length
 | [], cs => rfl
 | _ :: _, [] => rfl
 | s :: ss, c :: cs => by simp [ni, Im (ss := ss) (cs := cs)]
theorem Io : ∀ {ss : List Sh} {cs : List C} {j : Nat} {c : C}, (ni ss cs)[j]? = some c → ∃ c0, cs[j]? = some c0 ∧ (c = c0 ∨ c = .undef)
 | [], cs, j, c, h => ⟨c, h, .inl rfl⟩
 | _ :: _, [], j, c, h => by simp [ni] at h
 | s :: ss, c0 :: cs, 0, c, h => by
   simp only [ni, List.getElem?_cons_zero, Option.some.injEq] at h;refine ⟨c0, rfl, ?_⟩;subst h
   split
   · exact .inr rfl
   · exact .inl rfl
 | s :: ss, c0 :: cs, j + 1, c, h => by
   simp only [ni, List.getElem?_cons_succ] at h ⊢;exact Io h
theorem Ip : ∀ {ps : List (Bool × List Sh)} {qs : List (Bool × List C)}, (rI ps qs).length = qs.length
 | [], qs => by cases qs <;> rfl
 | _ :: _, [] => rfl
 | p :: ps, q :: qs => by simp [rI, Ip (ps := ps) (qs := qs)]
theorem Iq : ∀ {ps : List (Bool × List Sh)} {qs : List (Bool × List C)} {j : Nat} {q : Bool × List C}, (rI ps qs)[j]? = some q → ∃ q0 ss, qs[j]? = some q0 ∧ (q = q0 ∨ q = (q0.1, ni ss q0.2))
 | [], qs, j, q, h => ⟨q, [], by cases qs <;> exact h, .inl rfl⟩
 | _ :: _, [], j, q, h => by simp [rI] at h
 | p :: ps, q0 :: qs, 0, q, h => by
   simp only [rI, List.getElem?_cons_zero, Option.some.injEq] at h;exact ⟨q0, p.2, rfl, .inr h.symm⟩
 | p :: ps, q0 :: qs, j + 1, q, h => by
   simp only [rI, List.getElem?_cons_succ] at h ⊢;exact Iq h
theorem cW.mask {ss : List Sh} {cs : List C} {vs : Array Value} (h : cW H ρ D cs vs) : cW H ρ D (ni ss cs) vs := by
 refine ⟨by rw [Im]; exact h.1, fun j c hj => ?_⟩;obtain ⟨c0, h1, h2⟩ := Io hj;rcases h2 with rfl | rfl
 · exact h.2 j _ h1
 · trivial
theorem RV.mask {s : dj} {c : V} {v : Value} (h : RV H ρ D c v) : RV H ρ D (zG s c) v := by
 unfold zG
 split
 · rename_i ps qs;obtain ⟨vs, h1, h2, h3⟩ := h;refine ⟨vs, h1, by rw [h2, Ip], fun j q hj => ?_⟩;obtain ⟨q0, ss, g1, g2⟩ := Iq hj;have h4 := h3 j q0 g1;rcases g2 with rfl | rfl
   · exact h4
   · obtain ⟨b, Dg⟩ := q0;cases b with
     | true =>
       obtain ⟨us, q1, q2⟩ := h4;exact ⟨us, q1, q2.mask⟩
     | false =>
       obtain ⟨c, q1, q2⟩ := h4;have q1 : Dg = [c] := q1;subst q1;cases ss with
       | nil => exact ⟨c, rfl, q2⟩
       | cons s ss =>
         refine ⟨_, by simp only [ni]; cases ss <;> rfl, ?_⟩
         split
         · trivial
         · exact q2
 · exact h
end
def Dh (tab : bf) (rs : List ResultVar) (s : dj) (kp : List (Nat × dV)) (σ : SS) : Prop :=
 match uy tab σ rs with
 | some r0 =>
   match rA s (zG s r0) 9000000 with
   | (r', l) =>
     match mj l (closeAll (σ.af.map (·.1)) σ.af) with
     | some bs =>
       match oy bs (iz (iy kp) (hC (fg r') 100)) (iz (iy kp) (hC (fg r') 100)) with
       | some out =>
         if eQ ((iz (iy kp) (hC (fg r') 100)).map (·.1)) = true ∧ eQ ((iz (iy kp) (hC (fg r') 100)).map (·.2)) = true ∧ (r'.rH (iz (iy kp) (hC (fg r') 100))).cl = true then
          na out (iZ s kp) (mV (r'.rH (iz (iy kp) (hC (fg r') 100))) (lM s) True)
         else False
       | none => False
     | none => False
 | none => False
section
variable {P : Program} {tab : bf} (hT : fw P tab = true) {Γ : Ctx} {H : Hp} {ρ : aG} {σ : SS} {a : Act} {w : World} (r : aI Γ H ρ σ a w)
include hT r
theorem OU (bK : Γ.hd = []) {fn : Func} {s : dj} {kp : List (Nat × dV)} (h : Dh tab fn.results.toList s kp σ) :
   ∃ v, (results fn a.tmps).run P w = .ok v w ∧ ∃ H' ρ', gf w.heap Γ.H0 H' ρ' (iZ s kp) ∧ RV fK ρ' (av (iZ s kp)) (lM s) v ∧ ∀ p ∈ kp, av σ.af p.1 → (ρ' p.1).1 = (ρ p.1).1 := by
 unfold Dh at h
 split at h
 · rename_i rv s8;obtain ⟨v, hv, rC⟩ := yL hT r s8;cases hm : rA s (zG s rv) 9000000 with
   | mk xh l =>
   rw [hm] at h;simp only at h
   split at h
   · rename_i bs qh
     split at h
     · rename_i out xi
       split at h
       · rename_i hc;obtain ⟨kY, vj, fh⟩ := hc;obtain ⟨ρ1, r1, f1, f2⟩ := r.closeAll bK (ks := σ.af.map (·.1));obtain ⟨ρ2, r2, f3, f4⟩ := aI.mj (σ := { σ with af := Go.Proofs.YtehpbaiclfilaaaGreat.closeAll (σ.af.map (·.1)) σ.af }) r1 qh
         have hg : ∀ k, av σ.af k → av bs k ∧ (ρ2 k).1 = (ρ k).1 := fun k hk => by
           obtain ⟨q1, q2⟩ := f3 k (by show av (Go.Proofs.YtehpbaiclfilaaaGreat.closeAll (σ.af.map (·.1)) σ.af) k; rw [f2]; exact hk);exact ⟨q1, by rw [q2, f1]⟩
         have lN := C9 hg hm f4 (RV.mask (s := s) hv);obtain ⟨rb, xj, gD⟩ := gf.fj xi kY vj r2.b;have xk := RV.rH xj lN;obtain ⟨xl, ot, gX⟩ := qj h;obtain ⟨_, xm⟩ := zC xl;have kN : av (iZ s kp) = av out := by funext k; simp only [av, ot]
         refine ⟨v, rC, H, _, rb.as ot gX, ?_, fun p hp => ?_⟩
         · rw [kN];exact xm (xk.cl fh)
         · have cA := C_ (l := hC (fg xh) 100) p hp;obtain ⟨q1, q2⟩ := gD _ _ cA;intro hd;show (ρ2 (inv _ p.1)).1 = _;rw [q2, (hg _ hd).2]
       · cases h
     · cases h
   · cases h
 · cases h
end
def Di (tab : bf) (rs : List ResultVar) (X : Type) (φ : X → Prop) (s : X → dj) (kp : X → List (Nat × dV)) (σ : SS) : Prop := ∃ x : X, φ x ∧ Dh tab rs (s x) (kp x) σ
theorem OV {P : Program} {tab : bf} (hT : fw P tab = true) {f : FuncId} {fn : Func} {c : Code} (hf : P.funcs[f]? = some fn) (hb : fn.body = some c) (fE : (fn.name == "runtime.NumGoroutine") = false) {fr : Bool} (dY : fr = true → gC c = true)
  {as : List V} {bs : List (Nat × ak)} {X : Type} {φ : X → Prop} {s : X → dj} {kp : X → List (Nat × dV)} {pk : List Nat} (ic : ∀ x, (kp x).map (·.1) = pk) (jA : pk.all (fun k => (bs.map (·.1)).contains k) = true)
  (aL : (bs.map (·.1)).all (fun k => decide (k < 100)) = true)
  (h : kX as → ml bs → rD P tab fr fn c as bs pk (Di tab fn.results.toList X φ s kp)) : bE P f as bs fun r b => ∃ x, φ x ∧ r = lM (s x) ∧ b = iZ (s x) (kp x) := by
 refine ⟨⟨fn, hf, fE, by rw [hb]; rfl⟩, fun w vs ρ rE di => ?_⟩;refine calls_of_wp hf hb ?_
 have xn : ∀ k ∈ pk, av bs k := fun k hk => by
  have := List.all_eq_true.1 jA k hk;have : k ∈ bs.map (·.1) := List.contains_iff_mem.1 this;exact this
 let Γ : Ctx := ⟨fC w (aS ρ bs), [], w, pk.map fun k => (k, (ρ k).1)⟩
 have r : Rel Γ (oH as bs fn.ntmps) { tmps := vs ++ Array.replicate (fn.ntmps - vs.size) Go.undef, defers := [] } w := by
  refine ⟨fC w (aS ρ bs), ρ, ⟨rE, ⟨by simp [oH, di.1], fun j c hj => ?_⟩, rfl, Ext.refl _, (fun p hp => by cases hp), fun p hp => ?_⟩⟩
  · simp only [oH] at hj;rcases Nat.lt_or_ge j as.length with aL | lL
    · rw [List.getElem?_append_left aL] at hj;have := di.2 j c hj;rw [Array.getD_eq_getD_getElem?, Array.getElem?_append_left (by rw [di.1]; exact aL), ← Array.getD_eq_getD_getElem?];exact this
    · rw [List.getElem?_append_right lL, List.getElem?_replicate] at hj
      split at hj
      · cases hj; trivial
      · cases hj
  · obtain ⟨k, hk, rfl⟩ := List.mem_map.1 hp;exact ⟨xn k hk, rfl⟩
 refine zt hT rfl (pk := pk) (fun p hp => by obtain ⟨k, hk, rfl⟩ := List.mem_map.1 hp; exact hk) c dY (h (zx di.2) (Da fun k B hk => rE.af k B hk)) r fun e ax a' w' h' r' => ?_
 have done : Di tab fn.results.toList X φ s kp ax → ∃ v, (results fn a'.tmps).run P w' = .ok v w' ∧ ∃ v' r cd H' ρ', Ending.returned v = .returned v' ∧ (∃ x, φ x ∧ r = lM (s x) ∧ cd = iZ (s x) (kp x)) ∧ gf w'.heap (fC w (aS ρ bs)) H' ρ' cd ∧
    RV fK ρ' (av cd) r v' ∧ Ext w w' ∧ ∀ k, av cd k → av bs k → (ρ' k).1 = (ρ k).1 := fun hf => by
  obtain ⟨x, hx, hf⟩ := hf;obtain ⟨H, ρ1, r'⟩ := r';obtain ⟨v, h1, H', ρ', h2, h3, h4⟩ := OU hT r' rfl (fn := fn) hf;refine ⟨v, h1, v, _, _, H', ρ', rfl, ⟨x, hx, rfl, rfl⟩, h2, h3, r'.n, fun k hk pV => ?_⟩
  have cA : ∃ q ∈ kp x, q.1 = k := by
    have bD : k ∈ (iZ (s x) (kp x)).map (·.1) := hk
    have OR : k < 100 := by
      have := List.all_eq_true.1 aL k pV;simpa using this
    have key : ∀ (l : List (Nat × dV)) (m : List (Nat × ak)), k ∈ (vg (jB l) m).map (·.1) → (∃ q ∈ l, q.1 = k) ∨ k ∈ m.map (·.1) := by
      intro l m
      induction l with
      | nil => intro h; exact .inr h
      | cons q l ih =>
        intro h;simp only [jB, vg, List.map_cons, List.mem_cons] at h;rcases h with h | h
        · exact .inl ⟨q, List.mem_cons_self, h.symm⟩
        · rcases ih h with ⟨q', h1, h2⟩ | h1
          · exact .inl ⟨q', List.mem_cons_of_mem _ h1, h2⟩
          · exact .inr h1
    rcases key _ _ bD with h | h
    · exact h
    · have : av (num 100 (s x).bs) k := h;have := nU.1 this;omega
  obtain ⟨q, hq, rfl⟩ := cA;have xo : q.1 ∈ pk := by rw [← ic x]; exact List.mem_map.2 ⟨q, hq, rfl⟩
  have rF := r'.hm (q.1, (ρ q.1).1) (List.mem_map.2 ⟨q.1, xo, rfl⟩);rw [h4 q hq rF.1];exact rF.2
 have m_ : a'.defers = [] := by obtain ⟨H, ρ, r'⟩ := r'; exact r'.d
 cases e with
 | normal => obtain ⟨v, h1, h2⟩ := done h'; exact ⟨m_, v, h1, h2⟩
 | ret => obtain ⟨v, h1, h2⟩ := done h'; exact ⟨m_, v, h1, h2⟩
 | exit id => cases h'
 | goto l => cases h'
 | panic ch => cases h'
 | outgrown => cases h'
end Go.Proofs.YtehpbaiclfilaaaGreat

