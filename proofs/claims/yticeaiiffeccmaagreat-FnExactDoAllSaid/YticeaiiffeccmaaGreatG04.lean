/- Parts of a proof. No conditions. -/

import Derived.Test.YticeaiiffeccmaaGreatG03
set_option linter.unusedSimpArgs false
set_option linter.unusedVariables false
namespace Go.Proofs.YticeaiiffeccmaaGreat
open Go
theorem Ly {bs : List (Nat × ar)} (hn : (bs.map (·.1)).Nodup) {k : Nat} {B : ar} (h : (k, B) ∈ bs) : aQ bs k = some B := by
 induction bs with
 | nil => cases h
 | cons p r ih =>
   simp only [List.map_cons, List.nodup_cons] at hn;simp only [aQ];cases h with
   | head => simp
   | tail _ h =>
     rw [if_neg fun he => hn.1 (by rw [he]; exact List.mem_map.2 ⟨_, h, rfl⟩)];exact ih hn.2 h
theorem Fe {m : List (Nat × Nat)} {k k' : Nat} (h : lk m k = some k') : (k, k') ∈ m := by
 induction m with
 | nil => cases h
 | cons p r ih =>
   simp only [lk] at h
   split at h
   · rename_i hp; cases h; subst hp; exact List.mem_cons_self
   · exact List.mem_cons_of_mem _ (ih h)
def inv : List (Nat × Nat) → Nat → Nat
 | [], _ => 0
 | p :: r, k => if p.2 = k then p.1 else inv r k
theorem LA {m : List (Nat × Nat)} (h : eB (m.map (·.2)) = true) {k k' : Nat} (hm : (k, k') ∈ m) : inv m k' = k := by
 induction m with
 | nil => cases hm
 | cons p r ih =>
   simp only [List.map_cons] at h;obtain ⟨h1, h2⟩ := uB h;simp only [inv];cases hm with
   | head => simp
   | tail _ hm =>
     rw [if_neg fun he => h1 (by rw [he]; exact List.mem_map.2 ⟨_, hm, rfl⟩)];exact ih h2 hm
theorem LB {l : List Nat} (h : eB l = true) : l.Nodup := by
 induction l with
 | nil => simp
 | cons x l ih => obtain ⟨h1, h2⟩ := uB h; exact List.nodup_cons.2 ⟨h1, ih h2⟩
theorem Ff {bs : List (Nat × ar)} {m : List (Nat × Nat)} : ∀ {l : List (Nat × Nat)} {out : List (Nat × ar)}, nF bs m l = some out →
   out.map (·.1) = l.map (·.2) ∧ (∀ q, q ∈ out → ∃ k B, (k, q.1) ∈ l ∧ aQ bs k = some B ∧ q.2 = B.dP m ∧ (B.xy m = true → False)) ∧ (∀ p ∈ l, ∃ B, aQ bs p.1 = some B)
 | [], out, h => by simp only [nF, Option.some.injEq] at h; subst h; exact ⟨rfl, (fun q hq => by cases hq), (fun p hp => by cases hp)⟩
 | p :: l, out, h => by
   simp only [nF] at h
   split at h
   · rename_i B l' hB hl
     split at h
     · cases h
     rename_i ca;cases h;obtain ⟨h1, h2, h3⟩ := Ff hl;refine ⟨by simp [h1], fun q hq => ?_, fun q hq => ?_⟩
     · cases hq with
       | head => exact ⟨p.1, B, List.mem_cons_self, hB, rfl, ca⟩
       | tail _ hq => obtain ⟨k, A, g1, g2, g3⟩ := h2 q hq; exact ⟨k, A, List.mem_cons_of_mem _ g1, g2, g3⟩
     · cases hq with
       | head => exact ⟨B, hB⟩
       | tail _ hq => exact h3 q hq
   · cases h
section
variable {H : Hp} {ρ ρ' : aL} {D D' : Nat → Prop} {m : List (Nat × Nat)} (hm : ∀ k k', lk m k = some k' → D' k' ∧ (ρ' k').1 = (ρ k).1)
include hm
theorem RC.dP {c : C} {v : Value} (h : RC H ρ D c v) : RC H ρ' D' (c.dP m) v := by
 cases c with
 | lf l => exact h
 | bl b => exact h
 | nil => exact h
 | own k =>
   simp only [C.dP]
   split
   · rename_i k' hk; obtain ⟨_, h1⟩ := h; exact ⟨(hm k k' hk).1, by rw [(hm k k' hk).2]; exact h1⟩
   · trivial
 | ptr k off =>
   simp only [C.dP]
   split
   · rename_i k' hk; obtain ⟨_, b, h1, h2⟩ := h; exact ⟨(hm k k' hk).1, b, by rw [(hm k k' hk).2]; exact h1, h2⟩
   · trivial
 | el E x off => exact h
 | b0 ls off => exact h
 | fj k E i off =>
   simp only [C.dP]
   split
   · rename_i k' hk; obtain ⟨_, b, o, n, c, h1, h2⟩ := h; exact ⟨(hm k k' hk).1, b, o, n, c, by rw [(hm k k' hk).2]; exact h1, h2⟩
   · trivial
 | fn f kR =>
   simp only [C.dP]
   split
   · rename_i hc;obtain ⟨vs, h1, h2, h3⟩ := h;refine ⟨vs, h1, h2, fun j c hj => ?_⟩;have gJ := List.all_eq_true.1 hc c (List.mem_of_getElem? hj);have := h3 j c hj;cases c with
     | ptr k off => cases gJ
     | el E x off => exact this
     | b0 ls off => exact this
   · trivial
 | undef => trivial
omit hm in
theorem Fg : ∀ {cs : List C} {j : Nat} {c : C}, (lU m cs)[j]? = some c → ∃ c0, cs[j]? = some c0 ∧ c = c0.dP m
 | [], j, c, h => by simp [lU] at h
 | c0 :: cs, 0, c, h => by simp [lU] at h; exact ⟨c0, rfl, h.symm⟩
 | c0 :: cs, j + 1, c, h => by simp only [lU, List.getElem?_cons_succ] at h ⊢; exact Fg h
omit hm in
theorem Fh : ∀ {cs : List C}, (lU m cs).length = cs.length
 | [] => rfl
 | c :: cs => by simp [lU, Fh (cs := cs)]
theorem cU.dP {cs : List C} {vs : Array Value} (h : cU H ρ D cs vs) : cU H ρ' D' (lU m cs) vs := by
 refine ⟨by rw [Fh]; exact h.1, fun j c hj => ?_⟩;obtain ⟨c0, h1, rfl⟩ := Fg hj;exact (h.2 j c0 h1).dP hm
theorem RV.dP {c : V} {v : Value} (h : RV H ρ D c v) : RV H ρ' D' (c.dP m) v := by
 cases c with
 | c x => exact RC.dP hm h
 | agg cs => obtain ⟨vs, h1, h2⟩ := h; exact ⟨vs, h1, h2.dP hm⟩
 | aT cs =>
   cases cs with
   | nil => obtain ⟨vs, h1, h2, h3⟩ := h; exact ⟨vs, h1, h2, fun j p hj => by simp at hj⟩
   | cons p ps => trivial
omit hm in
theorem Fi {L : List Nat} : ∀ {vs : List V} {i j : Nat} {c : V}, (oQ L m i vs)[j]? = some c → c = .c .undef ∨ ∃ c0, vs[j]? = some c0 ∧ c = c0.dP m
 | [], i, j, c, h => by simp [oQ] at h
 | v :: vs, i, 0, c, h => by
   simp only [oQ, List.getElem?_cons_zero, Option.some.injEq] at h
   split at h
   · exact .inr ⟨v, rfl, h.symm⟩
   · exact .inl h.symm
 | v :: vs, i, j + 1, c, h => by simp only [oQ, List.getElem?_cons_succ] at h ⊢; exact Fi h
omit hm in
theorem Fj {L : List Nat} : ∀ {vs : List V} {i : Nat}, (oQ L m i vs).length = vs.length
 | [], i => rfl
 | v :: vs, i => by simp [oQ, Fj (vs := vs)]
end
theorem Fk {ρ ρ' : aL} {x : Nat} : ∀ {l : List (Nat × Nat)} {out : List (Nat × ar)}, out.map (·.1) = l.map (·.2) → (∀ p ∈ l, ρ' p.2 = ρ p.1) → aS ρ' out x = bP ρ (l.map (·.1)) x
 | [], out, h, _ => by
   have : out = [] := by simpa using h
   subst this; rfl
 | p :: l, out, h, hp => by
   cases out with
   | nil => simp at h
   | cons q out =>
     simp only [List.map_cons, List.cons.injEq] at h;simp only [aS, List.map_cons, bP];rw [h.1, hp p List.mem_cons_self, Fk h.2 fun q hq => hp q (List.mem_cons_of_mem _ hq)]
theorem fL.dP {B : ar} {m : List (Nat × Nat)} {p : Value × (Nat → Nat)} {x : Nat} (h : fL (B.dP m) p x) : fL B p x := by
 cases B with
 | dead => exact h
 | box cs => exact h
 | own E xs l => exact h
 | view E xs => exact h
 | mp m => exact h
 | ca E xs i fs => exact h
theorem LC {m : List (Nat × Nat)} : ∀ {fs : List (Option Nat)}, nE m fs = true → ∀ (i q j : Nat), (filled fs i q j = none ∧ filled (lV m fs) i q j = none) ∨ ∃ k k', filled fs i q j = some k ∧ filled (lV m fs) i q j = some k' ∧ lk m k = some k' := by
 have key : ∀ {fs : List (Option Nat)}, nE m fs = true → ∀ j : Nat, ((∀ k, fs[j]? ≠ some (some k)) ∧ ∀ k, (lV m fs)[j]? ≠ some (some k)) ∨ ∃ k k', fs[j]? = some (some k) ∧ (lV m fs)[j]? = some (some k') ∧ lk m k = some k' := by
   intro fs
   induction fs with
   | nil => intro _ j; exact .inl ⟨by simp, by simp [lV]⟩
   | cons f fs ih =>
     intro h j;cases f with
     | none =>
       simp only [nE] at h;cases j with
       | zero => exact .inl ⟨by simp, by simp [lV]⟩
       | succ j => simpa [lV] using ih h j
     | some k =>
       simp only [nE] at h
       split at h
       · rename_i k' hk;cases j with
         | zero => exact .inr ⟨k, k', by simp, by simp [lV, hk], hk⟩
         | succ j => simpa [lV] using ih h j
       · cases h
 intro fs h i q j;unfold filled
 split
 · rcases key h j with ⟨h1, h2⟩ | ⟨k, k', h1, h2, h3⟩
   · refine .inl ⟨?_, ?_⟩
     · split
       · rename_i k hk; exact (h1 k hk).elim
       · rfl
     · split
       · rename_i k hk; exact (h2 k hk).elim
       · rfl
   · exact .inr ⟨k, k', by rw [h1], by rw [h2], h3⟩
 · exact .inl ⟨rfl, rfl⟩
section
variable {Γ : Ctx} {σ aD : SS} {a : Act} {w : World}
theorem fM.ik {h : Array Obj} {H0 H : Hp} {ρ : aL} {bl : List (Nat × ar)} {m : List (Nat × Nat)} {bs : List (Nat × ar)} (hb : nF bl m m = some bs) (h1 : eB (m.map (·.1)) = true) (h2 : eB (m.map (·.2)) = true)
   (r : fM h H0 H ρ bl) : fM h H0 H (fun k => ρ (inv m k)) bs ∧ (∀ k k', lk m k = some k' → ax bs k' ∧ (ρ (inv m k')).1 = (ρ k).1) ∧ ∀ k k', (k, k') ∈ m → ax bs k' ∧ ρ (inv m k') = ρ k := by
 obtain ⟨g1, g2, g3⟩ := Ff hb
 let ρ' : aL := fun k => ρ (inv m k)
 have iM : ∀ k k', (k, k') ∈ m → ρ' k' = ρ k := fun k k' hk => by simp only [ρ', LA h2 hk]
 have kb : ∀ k k', (k, k') ∈ m → ax bs k' := fun k k' hk => by
   unfold ax; rw [g1]; exact List.mem_map.2 ⟨_, hk, rfl⟩
 have hm : ∀ k k', lk m k = some k' → ax bs k' ∧ (ρ' k').1 = (ρ k).1 := fun k k' hk => ⟨kb k k' (Fe hk), by rw [iM k k' (Fe hk)]⟩
 have hq : ∀ k' B', (k', B') ∈ bs → ∃ k B, (k, B) ∈ bl ∧ ρ' k' = ρ k ∧ B' = B.dP m ∧ (B.xy m = true → False) := fun k' B' hk => by
   obtain ⟨k, B, f1, f2, f3, f4⟩ := g2 _ hk;exact ⟨k, B, di f2, iM k k' f1, f3, f4⟩
 refine ⟨⟨?_, by rw [g1]; exact LB h2, r.h0, r.hh, ?_, ?_, ?_, ?_⟩, hm, fun k k' hk => ⟨kb k k' hk, iM k k' hk⟩⟩
 · intro k hk;obtain ⟨⟨k', B'⟩, f1, rfl⟩ := List.mem_map.1 hk;obtain ⟨k, B, f2, f3, _⟩ := hq _ _ f1;have f3 : ρ (inv m k') = ρ k := f3;simp only;rw [f3]; exact r.oc k (qX f2)
 · intro k' B' hk;obtain ⟨k, B, f2, f3, rfl, f4⟩ := hq _ _ hk;have f3 : ρ (inv m k') = ρ k := f3;rw [f3];have := r.ai k B f2;cases B with
   | dead => exact this
   | box cs => obtain ⟨b, vs, e, fz, e1, e2, e3, e4, e5⟩ := this; exact ⟨b, vs, e, fz, e1, e2, e3, e4, e5.dP hm⟩
   | own E xs l => exact this
   | view E xs => exact this
   | mp m => exact this
   | ca E xs i fs =>
     have fk : nE m fs = true := by
       cases ha : nE m fs with
       | true => rfl
       | false => exact (f4 (by simp [ar.xy, ha])).elim
     obtain ⟨b, o, c, cs, e, fz, S, e1, e2, e3, e4, e5, e6, e7, e8, e9⟩ := this;refine ⟨b, o, c, cs, e, fz, S, e1, e2, e3, e4, e5, e6, e7, e8, fun q x hx j l hj => ?_⟩;have xK := e9 q x hx j l hj;rcases LC fk (i ()) q j with ⟨f5, f6⟩ | ⟨k, k', f5, f6, f7⟩
     · rw [f5] at xK;rw [f6];exact xK
     · rw [f5] at xK;rw [f6];obtain ⟨Ri, LD, LF⟩ := xK;exact ⟨(hm k k' f7).1, by rw [(hm k k' f7).2]; exact LD, LF⟩
 · intro x;rw [Fk (ρ := ρ) (ρ' := ρ') g1 fun p hp => iM p.1 p.2 hp]
   exact Nat.le_trans (my _ h1 (fun k hk => by
     obtain ⟨p, hp, rfl⟩ := List.mem_map.1 hk;obtain ⟨B, hB⟩ := g3 p hp;exact fN hB) x) (r.sum x)
 · intro k' B' hk x hx;obtain ⟨k, B, f2, f3, _⟩ := hq _ _ hk;have f3 : ρ (inv m k') = ρ k := f3;rw [f3] at hx;exact r.fresh k B f2 x hx
 · intro k' B' hk x hx;obtain ⟨k, B, f2, f3, rfl, _⟩ := hq _ _ hk;have f3 : ρ (inv m k') = ρ k := f3;rw [f3] at hx;exact r.gY k B f2 x hx.dP
theorem Rel.ik (bN : Γ.hd = []) {L : List Nat} {m : List (Nat × Nat)} {bs : List (Nat × ar)} (hb : nF σ.ai m m = some bs) (h1 : eB (m.map (·.1)) = true) (h2 : eB (m.map (·.2)) = true)
   (jq : ∀ p ∈ Γ.hm, lk m p.1 = some p.1) (r : Rel Γ σ a w) : Rel Γ { env := oQ L m 0 σ.env, ai := bs } a w := by
 obtain ⟨H, ρ, r⟩ := r;obtain ⟨rb, hm, _⟩ := r.b.ik hb h1 h2;refine ⟨H, _, ⟨rb, ⟨by rw [Fj]; exact r.e.size, fun j c hj => ?_⟩, r.d, r.n, (by rw [bN]; intro p hp; cases hp), fun p hp => ?_⟩⟩
 · rcases Fi hj with rfl | ⟨c0, f1, rfl⟩
   · trivial
   · exact (r.e.get j c0 f1).dP hm
 · obtain ⟨f1, f2⟩ := hm _ _ (jq p hp);exact ⟨f1, by rw [f2]; exact (r.hm p hp).2⟩
theorem Rel.lW (bN : Γ.hd = []) {k : Nat} (r : Rel Γ σ a w) : Rel Γ { σ with ai := Go.Proofs.YticeaiiffeccmaaGreat.lW σ.ai k } a w := by
 unfold Go.Proofs.YticeaiiffeccmaaGreat.lW
 split
 · split
   · rename_i cf hc;obtain ⟨H, ρ, r⟩ := r;obtain ⟨ρ', r', _⟩ := aM.close bN r hc;exact ⟨H, ρ', r'⟩
   · exact r
 · exact r
theorem Rel.closeAll (bN : Γ.hd = []) : ∀ {ks : List Nat} {σ : SS}, Rel Γ σ a w → Rel Γ { σ with ai := Go.Proofs.YticeaiiffeccmaaGreat.closeAll ks σ.ai } a w
 | [], _, r => r
 | _ :: ks, _, r => Rel.closeAll bN (ks := ks) (r.lW bN)
theorem Rel.nG (bN : Γ.hd = []) {m : List (Nat × Nat)} : ∀ {ks : List Nat} {σ : SS}, Rel Γ σ a w → Rel Γ { σ with ai := Go.Proofs.YticeaiiffeccmaaGreat.nG m ks σ.ai } a w
 | [], _, r => r
 | k :: ks, σ, r => by
   unfold Go.Proofs.YticeaiiffeccmaaGreat.nG
   split
   · exact Rel.nG bN (ks := ks) r
   · exact Rel.nG bN (ks := ks) (r.lW bN)
theorem Fl {m : List (Nat × Nat)} : ∀ {ks : List Nat}, xz m ks = true → ∀ k ∈ ks, lk m k = some k
 | [], _, k, hk => by cases hk
 | j :: ks, h, k, hk => by
   simp only [xz, Bool.and_eq_true] at h;cases hk with
   | head =>
     have h1 := h.1
     split at h1
     · rename_i k' bC; rw [bC]; simpa using h1
     · cases h1
   | tail _ hk => exact Fl h.2 k hk
theorem Rel.sX {mt : p7} (h : σ.sX mt = some aD) (r : Rel Γ σ a w) : Rel Γ aD a w := by
 obtain ⟨H, ρ, r⟩ := r
 have nw : ∀ (k : Nat) (E : av), aQ σ.ai k = none → ∃ ρ', aM Γ H ρ' (σ.new k (.own E (fun _ => []) false)) a w ∧ (ρ' k).1 = .slice none 0 0 := fun k E hk =>
   ⟨dB ρ k (.slice none 0 0, fun _ => 0), r.qS (p := (.slice none 0 0, fun _ => 0)) hk (fun _ _ _ => rfl) (fun _ _ => rfl) (Ext.refl _) rfl (fun x hx => by simp at hx) (fun x => by simp) (bq.nil rfl) (by simp), by rw [dN]⟩
 cases mt with
 | env s E k =>
   simp only [SS.sX] at h
   split at h
   · rename_i v hv hk
     split at h
     · rename_i hn;cases h;obtain ⟨ρ', r1, h1⟩ := nw k E hk
       have LG : v = .c .nil := by
         unfold EM at hn
         split at hn
         · rfl
         · cases hn
       subst LG;refine ⟨H, ρ', r1.b, ⟨by simpa [SS.new] using r1.e.size, fun j c hj => ?_⟩, r1.d, r1.n, r1.hd, r1.hm⟩;rw [List.getElem?_set] at hj
       split at hj
       · rename_i hs
         split at hj
         · cases hj;have := r.e.get s _ hv;simp only [RV, RC] at this;subst hs;exact ⟨fO.2 (.inl rfl), by rw [this, h1]⟩
         · cases hj
       · exact r1.e.get j c hj
     · cases h
   · cases h
 | box bk c E k =>
   simp only [SS.sX] at h
   split at h
   · rename_i cs nC hk
     split at h
     · rename_i x hx
       split at h
       · rename_i hn;cases h;obtain ⟨ρ', r1, h1⟩ := nw k E hk
         have ov : x = .nil := by
           unfold EN at hn
           split at hn
           · rfl
           · cases hn
         subst ov;have hg : aQ (dj σ.ai k (.own E (fun _ => []) false)) bk = some (.box cs) := Ly r1.b.nd (ug.2 (.inr (di nC)));obtain ⟨b, vs, e, fz, f1, f2, f3, f4, f5⟩ := r1.b.ai bk _ (di hg);have f6 := f5.2 c _ hx;simp only [RC] at f6;refine ⟨H, ρ', r1.uH (w' := w) hg (fun _ _ => rfl) (Ext.refl _) ⟨b, vs, e, fz, f1, f2, f3, f4, by simpa using f5.1, fun j y hj => ?_⟩ (fun _ h => h) (fun _ h => h)⟩;rw [List.getElem?_set] at hj
         split at hj
         · rename_i LH
           split at hj
           · cases hj;subst LH;exact ⟨fO.2 (.inl rfl), by rw [f6, h1]⟩
           · cases hj
         · exact f5.2 j y hj
       · cases h
     · cases h
   · cases h
theorem Rel.oP : ∀ {ms : List p7} {σ aD : SS}, σ.oP ms = some aD → Rel Γ σ a w → Rel Γ aD a w
 | [], σ, aD, h, r => by simp only [SS.oP, Option.some.injEq] at h; subst h; exact r
 | m :: ms, σ, aD, h, r => by
   simp only [SS.oP] at h
   split at h
   · rename_i dK h1; exact Rel.oP h (r.sX h1)
   · cases h
theorem Rel.norm (bN : Γ.hd = []) {pk : List Nat} (jq : ∀ p ∈ Γ.hm, p.1 ∈ pk) {N : Norm} (h : σ.norm pk N = some aD) (r : Rel Γ σ a w) : Rel Γ aD a w := by
 unfold SS.norm at h
 split at h
 · rename_i dK h1
   split at h
   · rename_i bs hb
     split at h
     · rename_i hn;cases h;exact Rel.ik (σ := { dK with ai := Go.Proofs.YticeaiiffeccmaaGreat.nG N.nm (dK.ai.map (·.1)) dK.ai }) bN hb hn.1 hn.2.1 (fun p hp => Fl hn.2.2 _ (jq p hp)) ((r.oP h1).nG bN)
     · cases h
   · cases h
 · cases h
end
theorem LI {P : Program} {c : Code} {Q : Exit → Act → World → Prop} (I : Nat → Act → World → Prop)
  (round : ∀ n a w, I n a w → c.wp P (Exit.then (fun a' w' => ∃ m, m < n ∧ I m a' w') Q) a w) {n : Nat} {a : Act} {w : World} (LJ : I n a w) : (Code.loop c).wp P Q a w := by
 intro b k cs
 have key : ∀ n a w, I n a w → ∃ e a' w', Q e a' w' ∧ Arrives P (lone (b.at a (.code c :: .inLoop c :: k)) cs w) b k cs e a' w' := by
  intro n
  induction n using Nat.strongRecOn with
  | _ n ih =>
    intro a w hI;obtain ⟨e, ta, tc, hq, qb⟩ := round n a w hI b (.inLoop c :: k) cs;cases e with
    | normal =>
      obtain ⟨m, aR, LK⟩ := hq;obtain ⟨LL, LM, LN, LO, LP⟩ := ih m aR ta tc LK;exact ⟨LL, LM, LN, LO, .of_steps (Steps.trans qb (.one step_inLoop)) LP⟩
    | exit id => exact ⟨_, ta, tc, hq, .pass (x := .inLoop c) rfl (fun _ _ => .inl (by simp)) qb⟩
    | goto l => exact ⟨_, ta, tc, hq, .pass (x := .inLoop c) rfl (fun _ _ => .inl (by simp)) qb⟩
    | ret => exact ⟨_, ta, tc, hq, .pass (x := .inLoop c) rfl (fun _ _ => .inl (by simp)) qb⟩
    | panic ch => exact ⟨_, ta, tc, hq, .pass (x := .inLoop c) rfl (fun _ _ => .inl (by simp)) qb⟩
    | outgrown => exact ⟨_, ta, tc, hq, .pass (x := .inLoop c) rfl (fun _ _ => .inl (by simp)) qb⟩
 obtain ⟨e, a', w', hq, qb⟩ := key n a w LJ;exact ⟨e, a', w', hq, .of_steps (.one step_loop) qb⟩
theorem xL {P : Program} {tab : bj} {fr : Bool} (hT : eW P tab = true) {Γ : Ctx} (bN : Γ.hd = []) {pk : List Nat} (jq : ∀ p ∈ Γ.hm, p.1 ∈ pk) : ∀ (c : Code), (fr = true → fW c = true) → ∀ {σ : SS} {a : Act} {w : World} {K : Exit → SS → Prop} {Q : Exit → Act → World → Prop}, lX P tab fr pk c σ K → Rel Γ σ a w →
   (∀ e aD a' w', K e aD → Rel Γ aD a' w' → Q e a' w') → c.wp P Q a w := by
 intro c
 induction c with
 | skip => intro eO σ a w K Q h r hQ; exact wp_skip (hQ _ _ _ _ h r)
 | region id ops draw =>
   intro eO σ a w K Q h r hQ;cases draw with
   | false => exact wp_region_list (u7 hT bN _ h r fun aD a' w' h' r' => hQ _ _ _ _ h' r')
   | true =>
     cases fr with
     | true => exact Lw hT bN (by simpa [fW] using eO rfl) h r fun aD a' w' h' r' => hQ _ _ _ _ h' r'
     | false => exact Lp hT bN h r fun aD a' w' h' r' => hQ _ _ _ _ h' r'
 | seq x y xM xN =>
   intro eO σ a w K Q h r hQ;have h2 : fr = true → fW x = true ∧ fW y = true := fun h => by have := eO h; simpa [fW] using this
   refine wp_seq (xM (fun h => (h2 h).1) h r fun e aD a' w' h' r' => ?_);cases e with
   | normal => exact xN (fun h => (h2 h).2) h' r' hQ
   | exit id => exact hQ _ _ _ _ h' r'
   | goto l => exact hQ _ _ _ _ h' r'
   | ret => exact hQ _ _ _ _ h' r'
   | panic ch => exact hQ _ _ _ _ h' r'
   | outgrown => exact hQ _ _ _ _ h' r'
 | cond c x y xM xN =>
   intro eO σ a w K Q h r hQ;have h2 : fr = true → fW x = true ∧ fW y = true := fun h => by have := eO h; simpa [fW] using this
   simp only [lX] at h;have hc : RV _ _ _ (σ.ev c) (a.eval c) := j_ r.choose_spec.choose_spec.e c
   split at h
   · rename_i hv;rw [hv] at hc;exact wp_cond (t := true) hc (xM (fun h => (h2 h).1) h r hQ)
   · rename_i hv;rw [hv] at hc;exact wp_cond (t := false) hc (xN (fun h => (h2 h).2) h r hQ)
   · rename_i t hv;rw [hv] at hc;have ix := RL.of_bool hc;obtain ⟨h⟩ := h;refine wp_cond ix ?_;cases ht : t () with
     | true => rw [ht] at h; exact xM (fun h => (h2 h).1) h r hQ
     | false => rw [ht] at h; exact xN (fun h => (h2 h).2) h r hQ
   · cases h
 | block id x ih =>
   intro eO σ a w K Q h r hQ;refine wp_block (ih (fun h => by have := eO h; simpa [fW] using this) h r fun e aD a' w' h' r' => ?_);cases e with
   | exit i =>
     simp only [Exit.inBlock];simp only at h'
     split at h'
     · rename_i hi; rw [if_pos hi]; exact hQ _ _ _ _ h' r'
     · rename_i hi; rw [if_neg hi]; exact hQ _ _ _ _ h' r'
   | normal => exact hQ _ _ _ _ h' r'
   | goto l => exact hQ _ _ _ _ h' r'
   | ret => exact hQ _ _ _ _ h' r'
   | panic ch => exact hQ _ _ _ _ h' r'
   | outgrown => exact hQ _ _ _ _ h' r'
 | loop x ih =>
   intro eO σ a w K Q h r hQ;obtain ⟨X, st, φ, m, x0, h0, hs, hr⟩ := h;refine LI (fun n a w => ∃ x, φ x ∧ m x () = n ∧ Rel Γ (st x) a w) (fun n a w ⟨x, hx, hm, r⟩ => ?_) (n := m x0 ()) ⟨x0, h0, rfl, hs Γ a w bN jq r⟩;refine ih (fun h => by have := eO h; simpa [fW] using this) (hr x hx) r fun e aD a' w' h' r' => ?_;cases e with
   | normal =>
     obtain ⟨x', uv, ov, LQ⟩ := h';exact ⟨m x' (), by rw [← hm]; exact uv, x', ov, rfl, LQ Γ a' w' bN jq r'⟩
   | exit id => exact hQ _ _ _ _ h' r'
   | goto l => exact hQ _ _ _ _ h' r'
   | ret => exact hQ _ _ _ _ h' r'
   | panic ch => exact hQ _ _ _ _ h' r'
   | outgrown => exact hQ _ _ _ _ h' r'
 | exit id => intro eO σ a w K Q h r hQ; exact wp_exit (hQ _ _ _ _ h r)
 | ret => intro eO σ a w K Q h r hQ; exact wp_ret (hQ _ _ _ _ h r)
 | _ => intro eO σ a w K Q h r hQ; exact h.elim
def deep : (E : av) → E.α → Prop
 | .bZ, x => x.length ≤ cE
 | .ah, x => x.row.length ≤ cE ∧ x.spoke.length ≤ cE ∧ ∀ s ∈ x.spoke, s.length ≤ cE
 | .rep, x => x.ids.length ≤ cE
 | .str, x => x.length ≤ cE
 | _, _ => True
def Fm : Lf → Prop
 | .list E t => (t ()).length ≤ cE ∧ ∀ x ∈ t (), deep E x
 | .str t => (t ()).length ≤ cE
 | .int .i64 t => -9223372036854775808 ≤ t () ∧ t () ≤ 9223372036854775807
 | _ => True
def AV : C → Prop
 | .lf l => Fm l
 | _ => True
def xO : List C → Prop
 | [] => True
 | c :: cs => AV c ∧ xO cs
def jQ : List V → Prop
 | [] => True
 | .c x :: vs => AV x ∧ jQ vs
 | .agg cs :: vs => xO cs ∧ jQ vs
 | .aT _ :: vs => jQ vs
theorem RL.len {H : Hp} {E : av} {t : Unit → List E.α} {v : Value} (h : RL H (.list E t) v) : (t ()).length ≤ cE := by
 cases h with
 | nil h => rw [h]; simp [cE]
 | list hb hl hm ho hc => exact hm
theorem RL.elem {H : Hp} {E : av} {t : Unit → List E.α} {v : Value} (h : RL H (.list E t) v) : ∀ x ∈ t (), ∃ f : Nat → Value, ∀ j l, (bQ E fun _ => x)[j]? = some l → RL H l (f j) := by
 cases h with
 | nil h => intro x hx; rw [h] at hx; cases hx
 | list hb hl hm ho hc =>
   intro x hx;obtain ⟨i, hi, rfl⟩ := List.getElem_of_mem hx;exact ⟨fun j => _, fun j l hj => hc i _ (List.getElem?_eq_getElem hi) j l hj⟩
theorem RL.deep {H : Hp} {E : av} {x : E.α} {f : Nat → Value} (h : ∀ j l, (bQ E fun _ => x)[j]? = some l → RL H l (f j)) : Go.Proofs.YticeaiiffeccmaaGreat.deep E x := by
 cases E with
 | bZ => exact (h 0 _ rfl).len
 | ah =>
   have h6 := h 6 _ rfl;refine ⟨(h 5 _ rfl).len, h6.len, fun s hs => ?_⟩;obtain ⟨g, hg⟩ := h6.elem s hs;exact (hg 0 _ rfl).len
 | rep => exact (h 1 _ rfl).len
 | str => exact (RL.kS (h 0 _ rfl)).2
 | _ => trivial
theorem RL.ok {H : Hp} {l : Lf} {v : Value} (h : RL H l v) : Fm l := by
 cases l with
 | int k t =>
   have h2 := (RL.of_int h).2;cases k <;> first | exact sf.1 h2 | trivial
 | bool t => trivial
 | str t => exact (RL.kS h).2
 | list E t => exact ⟨h.len, fun x hx => by obtain ⟨f, hf⟩ := h.elem x hx; exact RL.deep hf⟩
theorem RC.ok {H : Hp} {ρ : aL} {D : Nat → Prop} {c : C} {v : Value} (h : RC H ρ D c v) : AV c := by
 cases c with
 | lf l => exact RL.ok h
 | _ => trivial
theorem cU.ok {H : Hp} {ρ : aL} {D : Nat → Prop} {f : Nat → Value} : ∀ {cs : List C}, (∀ (j : Nat) c, cs[j]? = some c → RC H ρ D c (f j)) → xO cs := by
 intro cs
 induction cs generalizing f with
 | nil => intro _; trivial
 | cons c cs ih => intro h; exact ⟨(h 0 c rfl).ok, ih (f := fun j => f (j + 1)) fun j c hj => h (j + 1) c (by simpa using hj)⟩
theorem xP {H : Hp} {ρ : aL} {D : Nat → Prop} {f : Nat → Value} : ∀ {as : List V}, (∀ (j : Nat) c, as[j]? = some c → RV H ρ D c (f j)) → jQ as := by
 intro as
 induction as generalizing f with
 | nil => intro _; trivial
 | cons c cs ih =>
   intro h;have h1 := ih (f := fun j => f (j + 1)) fun j c hj => h (j + 1) c (by simpa using hj);cases c with
   | c x => exact ⟨RC.ok (h 0 _ rfl), h1⟩
   | agg l => obtain ⟨vs, _, h2⟩ := h 0 _ rfl; exact ⟨cU.ok (f := fun j => vs.getD j Go.undef) h2.2, h1⟩
   | aT l => exact h1
def start (as : List V) (n : Nat) : SS := { env := as ++ List.replicate (n - as.length) (.c .undef), ai := [] }
def SS.shut (σ : SS) : SS := { σ with ai := closeAll (σ.ai.map (·.1)) σ.ai }
def Fo (P : Program) (tab : bj) (fr : Bool) (fn : Func) (c : Code) (as : List V) (post : V → List ar → Prop) : Prop :=
 lX P tab fr [] c (start as fn.ntmps) fun e σ => match e with
  | .normal => fin tab fn.results.toList post σ.shut
  | .ret => fin tab fn.results.toList post σ.shut
  | _ => False
theorem LR {P : Program} {tab : bj} (hT : eW P tab = true) {f : FuncId} {fn : Func} {c : Code} (hf : P.funcs[f]? = some fn) (hb : fn.body = some c) (hF : (fn.name == "runtime.NumGoroutine") = false)
  {fr : Bool} (eO : fr = true → fW c = true) {as : List V} {post : V → List ar → Prop} (h : jQ as → Fo P tab fr fn c as post) : Spec P f as post := by
 refine ⟨⟨fn, hf, hF, by rw [hb]; rfl⟩, fun w vs dO => ?_⟩;refine calls_of_wp hf hb ?_
 let Γ : Ctx := ⟨fun b => w.heap[b]?, [], w, []⟩
 have r : Rel Γ (start as fn.ntmps) { tmps := vs ++ Array.replicate (fn.ntmps - vs.size) Go.undef, defers := [] } w := by
  refine ⟨fun b => w.heap[b]?, fun _ => default, ⟨⟨fun k hk => by simp [ax, start] at hk, by simp [start], fun _ _ h => h, fun _ _ h => h, fun k B hk => by simp [start] at hk, fun x => by simp [start, aS],
    fun k B hk => by simp [start] at hk, fun k B hk => by simp [start] at hk⟩, ⟨by simp [start, dO.1], fun j c hj => ?_⟩, rfl, Ext.refl _, (fun p hp => by cases hp), fun p hp => by cases hp⟩⟩
  have e : ax (start as fn.ntmps).ai = fun _ => False := by funext k; simp [ax, start]
  rw [e];simp only [start] at hj;rcases Nat.lt_or_ge j as.length with aR | gK
  · rw [List.getElem?_append_left aR] at hj;have := dO.2 j c hj;rw [Array.getD_eq_getD_getElem?, Array.getElem?_append_left (by rw [dO.1]; exact aR), ← Array.getD_eq_getD_getElem?];exact this
  · rw [List.getElem?_append_right gK, List.getElem?_replicate] at hj
    split at hj
    · cases hj; trivial
    · cases hj
 refine xL hT rfl (fun p hp => by cases hp) c eO (h (xP dO.2)) r fun e aD a' w' h' r' => ?_
 have done : fin tab fn.results.toList post aD.shut → ∃ v, (results fn a'.tmps).run P w' = .ok v w' ∧ ∃ v' rv nb H' ρ', Ending.returned v = .returned v' ∧ post rv nb ∧ nb.all ownB = true ∧ fM w'.heap (fun b => w.heap[b]?) H' ρ' (num 0 nb) ∧
    RV fv ρ' (ax (num 0 nb)) rv v' ∧ Ext w w' := fun hf => by
  have r' : Rel Γ aD.shut a' w' := r'.closeAll rfl;obtain ⟨H, ρ, r'⟩ := r';obtain ⟨v, h1, rv, nb, H', ρ', h2, h3, h4, h5⟩ := JV hT r' (fn := fn) hf;exact ⟨v, h1, v, rv, nb, H', ρ', rfl, h2, h3, h4, h5, r'.n⟩
 have mM : a'.defers = [] := by obtain ⟨H, ρ, r'⟩ := r'; exact r'.d
 cases e with
 | normal => obtain ⟨v, h1, h2⟩ := done h'; exact ⟨mM, v, h1, h2⟩
 | ret => obtain ⟨v, h1, h2⟩ := done h'; exact ⟨mM, v, h1, h2⟩
 | exit id => cases h'
 | goto l => cases h'
 | panic ch => cases h'
 | outgrown => cases h'
inductive Sh where
 | int (k : IntKind) (x : Unit → Int)
 | bool (x : Unit → Bool)
 | str (x : Unit → List UInt8)
 | own (E : av) (x : Unit → List E.α)
 | any
inductive dv where
 | c (s : Sh)
 | agg (ss : List Sh)
 | aT (ps : List (Bool × List Sh))
def Sh.nb : Sh → Nat
 | .own _ _ => 1
 | _ => 0
def Sh.cell (k : Nat) : Sh → C
 | .int i x => .lf (.int i x)
 | .bool x => .lf (.bool x)
 | .str x => .lf (.str x)
 | .own _ _ => .own k
 | .any => .undef
def gu : Nat → List Sh → List C
 | _, [] => []
 | k, s :: ss => s.cell k :: gu (k + s.nb) ss
def fS : List Sh → Nat
 | [] => 0
 | s :: ss => s.nb + fS ss
def rr : Nat → List (Bool × List Sh) → List (Bool × List C)
 | _, [] => []
 | k, p :: ps => (p.1, gu k p.2) :: rr (k + fS p.2) ps
def Sh.ai : Sh → List ar
 | .own E x => [.own E x false]
 | _ => []
def eP : List Sh → List ar
 | [] => []
 | s :: ss => s.ai ++ eP ss
def ru : List (Bool × List Sh) → List Sh
 | [] => []
 | p :: ps => p.2 ++ ru ps
def dv.v : dv → V
 | .c s => .c (s.cell 0)
 | .agg ss => .agg (gu 0 ss)
 | .aT ps => .aT (rr 0 ps)
def dv.bs : dv → List ar
 | .c s => s.ai
 | .agg ss => eP ss
 | .aT ps => eP (ru ps)
def qc : (E E' : av) → (Unit → List E.α) → (Unit → List E'.α) → Prop
 | .int, .int, x, t => t () = x ()
 | .byte, .byte, x, t => t () = x ()
 | .str, .str, x, t => t () = x ()
 | .aI, .aI, x, t => t () = x ()
 | .aH, .aH, x, t => t () = x ()
 | .aG, .aG, x, t => t () = x ()
 | .bZ, .bZ, x, t => t () = x ()
 | .ah, .ah, x, t => t () = x ()
 | .cT, .cT, x, t => t () = x ()
 | .rep, .rep, x, t => t () = x ()
 | _, _, _, _ => False
theorem AW {E E' : av} {x : Unit → List E.α} {t : Unit → List E'.α} {l : Bool} (h : qc E E' x t) : ar.own E' t l = ar.own E x l := by
 cases E <;> cases E' <;> first
  | (simp only [qc] at h; have h' : t = x := funext fun _ => h; subst h'; rfl)
  | (simp only [qc] at h)
inductive jw (p : Unit → Prop) (q : Prop) : Prop where
 | mk (h : p ()) (hq : q)
def mS (s : Sh) (c : C) (k : Nat) (bs : List ar) (K : Nat → List ar → Prop) : Prop :=
 match s, c with
 | .int k' x, .lf (.int i t) => if i = k' then jw (fun _ => t () = x ()) (K k bs) else False
 | .bool x, .lf (.bool t) => jw (fun _ => t () = x ()) (K k bs)
 | .bool x, .bl b => jw (fun _ => b = x ()) (K k bs)
 | .str x, .lf (.str t) => jw (fun _ => t () = x ()) (K k bs)
 | .own _ x, .nil => jw (fun _ => x () = []) (K k bs)
 | .own E x, .own j => if j = k then (match bs with | .own E' t false :: bs => jw (fun _ => qc E E' x t) (K (k + 1) bs) | _ => False) else False
 | .any, _ => K k bs
 | _, _ => False
def mL : List Sh → List C → Nat → List ar → Prop
 | [], [], _, [] => True
 | s :: ss, c :: cs, k, bs => mS s c k bs fun k bs => mL ss cs k bs
 | _, _, _, _ => False
def td : List (Bool × List Sh) → List (Bool × List C) → Bool
 | [], [] => true
 | p :: ps, q :: qs => p.1 == q.1 && p.2.length == q.2.length && td ps qs
 | _, _ => false
def te : List (Bool × List C) → List C
 | [] => []
 | p :: ps => p.2 ++ te ps
def aE (s : dv) (r : V) (nb : List ar) : Prop :=
 match s, r with
 | .c s, .c x => mL [s] [x] 0 nb
 | .agg ss, .agg cs => mL ss cs 0 nb
 | .aT ps, .aT qs => if td ps qs = true then mL (ru ps) (te qs) 0 nb else False
 | _, _ => False
def dm : List Sh → List C → List (Option Nat)
 | .own _ _ :: ss, .own j :: cs => some j :: dm ss cs
 | .own _ _ :: ss, .nil :: cs => none :: dm ss cs
 | _ :: ss, _ :: cs => dm ss cs
 | _, _ => []
def qd (ρ : aL) : Option Nat → Value × (Nat → Nat)
 | some j => ρ j
 | none => (.slice none 0 0, fun _ => 0)
section
variable {ρ ρ' : aL} {D D' : Nat → Prop}
theorem qe : ∀ {ss : List Sh} {cs : List C} {k : Nat} {bs : List ar}, mL ss cs k bs → (dm ss cs).length = (eP ss).length ∧ fS ss = (eP ss).length ∧
   ∀ (i : Nat) B, (eP ss)[i]? = some B → ∃ E x, B = .own E x false ∧ (((dm ss cs)[i]? = some none ∧ x () = []) ∨ ∃ j, (dm ss cs)[i]? = some (some j) ∧ k ≤ j ∧ bs[j - k]? = some (.own E x false))
 | [], cs, k, bs, h => by
   cases cs <;> cases bs <;> simp only [mL] at h
   exact ⟨rfl, rfl, fun i B hi => by simp [eP] at hi⟩
 | s :: ss, [], k, bs, h => by simp [mL] at h
 | s :: ss, c :: cs, k, bs, h => by
   simp only [mL] at h;unfold mS at h
   split at h
   · split at h
     · obtain ⟨_, h⟩ := h; have := qe h; simpa [dm, eP, Sh.ai, fS, Sh.nb] using this
     · cases h
   · obtain ⟨_, h⟩ := h; have := qe h; simpa [dm, eP, Sh.ai, fS, Sh.nb] using this
   · obtain ⟨_, h⟩ := h; have := qe h; simpa [dm, eP, Sh.ai, fS, Sh.nb] using this
   · obtain ⟨_, h⟩ := h; have := qe h; simpa [dm, eP, Sh.ai, fS, Sh.nb] using this
   · rename_i E x;obtain ⟨hx, h⟩ := h;obtain ⟨h1, h2, h3⟩ := qe h;refine ⟨by simp [dm, eP, Sh.ai, h1], by simp [eP, Sh.ai, fS, Sh.nb, h2]; omega, fun i B hi => ?_⟩;cases i with
     | zero => simp [eP, Sh.ai] at hi; exact ⟨E, x, hi.symm, .inl ⟨by simp [dm], hx⟩⟩
     | succ i =>
       simp [eP, Sh.ai] at hi;obtain ⟨E', x', h4, h5⟩ := h3 i B hi;refine ⟨E', x', h4, ?_⟩;simpa [dm] using h5
   · rename_i E x j
     split at h
     · rename_i hj;subst hj
       split at h
       · rename_i Rj E' t cf;obtain ⟨hx, h⟩ := h;have he := AW (l := false) hx;obtain ⟨h1, h2, h3⟩ := qe h;refine ⟨by simp [dm, eP, Sh.ai, h1], by simp [eP, Sh.ai, fS, Sh.nb, h2]; omega, fun i B hi => ?_⟩;cases i with
         | zero => simp [eP, Sh.ai] at hi; exact ⟨E, x, hi.symm, .inr ⟨j, by simp [dm], Nat.le_refl _, by simp [he]⟩⟩
         | succ i =>
           simp [eP, Sh.ai] at hi;obtain ⟨E', x', h4, h5⟩ := h3 i B hi;refine ⟨E', x', h4, ?_⟩;rcases h5 with h5 | ⟨j', h5, h6, h7⟩
           · exact .inl (by simpa [dm] using h5)
           · refine .inr ⟨j', by simpa [dm] using h5, by omega, ?_⟩;rw [show j' - j = (j' - (j + 1)) + 1 by omega];simpa using h7
       · cases h
     · cases h
   · have := qe h; simpa [dm, eP, Sh.ai, fS, Sh.nb] using this
   · cases h
theorem qf {x : Nat} : ∀ {ss : List Sh} {cs : List C} {k : Nat} {bs : List ar} {k' : Nat}, mL ss cs k bs →
   (∀ (i : Nat) o, (dm ss cs)[i]? = some o → ρ' (k' + i) = qd ρ o) → aS ρ' (num k' (eP ss)) x = aS ρ (num k bs) x
 | [], cs, k, bs, k', h, hs => by
   cases cs <;> cases bs <;> simp only [mL] at h
   rfl
 | s :: ss, [], k, bs, k', h, hs => by simp [mL] at h
 | s :: ss, c :: cs, k, bs, k', h, hs => by
   simp only [mL] at h;unfold mS at h
   split at h
   · split at h
     · obtain ⟨_, h⟩ := h; simp only [eP, Sh.ai, List.nil_append]; exact qf (ss := ss) (cs := cs) h (by simpa [dm] using hs)
     · cases h
   · obtain ⟨_, h⟩ := h; simp only [eP, Sh.ai, List.nil_append]; exact qf (ss := ss) (cs := cs) h (by simpa [dm] using hs)
   · obtain ⟨_, h⟩ := h; simp only [eP, Sh.ai, List.nil_append]; exact qf (ss := ss) (cs := cs) h (by simpa [dm] using hs)
   · obtain ⟨_, h⟩ := h; simp only [eP, Sh.ai, List.nil_append]; exact qf (ss := ss) (cs := cs) h (by simpa [dm] using hs)
   · obtain ⟨_, h⟩ := h;have h0 := hs 0 none (by simp [dm])
     have := qf (x := x) (k' := k' + 1) h fun i o hi => by
       have := hs (i + 1) o (by simpa [dm] using hi)
       rwa [show k' + (i + 1) = k' + 1 + i by omega] at this
     simp only [eP, Sh.ai, List.cons_append, List.nil_append, num, aS, this];rw [Nat.add_zero] at h0;simp [h0, qd]
   · rename_i E y j
     split at h
     · rename_i hj;subst hj
       split at h
       · obtain ⟨_, h⟩ := h;have h0 := hs 0 (some j) (by simp [dm])
         have := qf (x := x) (k' := k' + 1) h fun i o hi => by
          have := hs (i + 1) o (by simpa [dm] using hi)
          rwa [show k' + (i + 1) = k' + 1 + i by omega] at this
         simp only [eP, Sh.ai, List.cons_append, List.nil_append, num, aS, this];rw [Nat.add_zero] at h0;simp [h0, qd]
       · cases h
     · cases h
   · simp only [eP, Sh.ai, List.nil_append]; exact qf (ss := ss) (cs := cs) h (by simpa [dm] using hs)
   · cases h
theorem AX : ∀ {ss : List Sh} {cs : List C} {k : Nat} {bs : List ar} {k' : Nat}, mL ss cs k bs →
   (∀ (i : Nat) o, (dm ss cs)[i]? = some o → ρ' (k' + i) = qd ρ o) → (∀ i, i < fS ss → D' (k' + i)) →
   (gu k' ss).length = cs.length ∧ ∀ (j : Nat) c c', cs[j]? = some c → (gu k' ss)[j]? = some c' → ∀ v, RC fv ρ D c v → RC fv ρ' D' c' v
 | [], cs, k, bs, k', h, hs, hd => by
   cases cs <;> cases bs <;> simp only [mL] at h
   exact ⟨rfl, fun j c c' hj => by simp at hj⟩
 | s :: ss, [], k, bs, k', h, hs, hd => by simp [mL] at h
 | s :: ss, c :: cs, k, bs, k', h, hs, hd => by
   have step : ∀ {s : Sh} {c : C} {k2 : Nat} {Fp : List ar}, mL ss cs k2 Fp → (∀ (i : Nat) o, (dm ss cs)[i]? = some o → ρ' (k' + s.nb + i) = qd ρ o) → (∀ i, i < fS ss → D' (k' + s.nb + i)) →
       (∀ v, RC fv ρ D c v → RC fv ρ' D' (s.cell k') v) →
       (gu k' (s :: ss)).length = (c :: cs).length ∧ ∀ (j : Nat) c0 c', (c :: cs)[j]? = some c0 → (gu k' (s :: ss))[j]? = some c' → ∀ v, RC fv ρ D c0 v → RC fv ρ' D' c' v := by
     intro s c k2 Fp h hs hd hc;obtain ⟨h1, h2⟩ := AX h hs hd;refine ⟨by simp [gu, h1], fun j c0 c' hj cO v hv => ?_⟩;cases j with
     | zero => simp [gu] at hj cO; subst hj; subst cO; exact hc v hv
     | succ j => simp [gu] at hj cO; exact h2 j c0 c' hj cO v hv
   simp only [mL] at h;unfold mS at h
   split at h
   · split at h
     · rename_i k1 x1 i1 t1 LS;obtain ⟨hx, h⟩ := h;subst LS;refine step h (by simpa [dm, Sh.nb] using hs) (by simpa [fS, Sh.nb] using hd) fun v hv => ?_;simp only [RC, Sh.cell] at hv ⊢;obtain ⟨rfl, h2⟩ := RL.of_int hv;rw [hx] at h2 ⊢;exact RL.int (t := x1) h2
     · cases h
   · rename_i x1 t1;obtain ⟨hx, h⟩ := h;refine step h (by simpa [dm, Sh.nb] using hs) (by simpa [fS, Sh.nb] using hd) fun v hv => ?_;simp only [RC, Sh.cell] at hv ⊢;have := RL.of_bool hv;subst this;rw [hx];exact RL.bool (t := x1)
   · rename_i x1 b1;obtain ⟨hx, h⟩ := h;refine step h (by simpa [dm, Sh.nb] using hs) (by simpa [fS, Sh.nb] using hd) fun v hv => ?_;simp only [RC, Sh.cell] at hv ⊢;subst hv;rw [hx];exact RL.bool (t := x1)
   · rename_i x1 t1;obtain ⟨hx, h⟩ := h;refine step h (by simpa [dm, Sh.nb] using hs) (by simpa [fS, Sh.nb] using hd) fun v hv => ?_;simp only [RC, Sh.cell] at hv ⊢;obtain ⟨rfl, h2⟩ := RL.kS hv;rw [hx] at h2 ⊢;exact RL.str (t := x1) h2
   · rename_i E1 x1;obtain ⟨hx, h⟩ := h;refine step h (fun i o hi => ?_) (fun i hi => ?_) fun v hv => ?_
     · have := hs (i + 1) o (by simpa [dm] using hi)
       rwa [show k' + (i + 1) = k' + 1 + i by omega] at this
     · have := hd (i + 1) (by simp only [fS, Sh.nb]; omega)
       rwa [show k' + (i + 1) = k' + 1 + i by omega] at this
     · simp only [RC, Sh.cell] at hv ⊢;refine ⟨hd 0 (by simp only [fS, Sh.nb]; omega), ?_⟩;rw [hv, show k' = k' + 0 from rfl, hs 0 none (by simp [dm])];rfl
   · rename_i E1 x1 j1
     split at h
     · rename_i hj;subst hj
       split at h
       · obtain ⟨hx, h⟩ := h;refine step h (fun i o hi => ?_) (fun i hi => ?_) fun v hv => ?_
         · have := hs (i + 1) o (by simpa [dm] using hi)
           rwa [show k' + (i + 1) = k' + 1 + i by omega] at this
         · have := hd (i + 1) (by simp only [fS, Sh.nb]; omega)
           rwa [show k' + (i + 1) = k' + 1 + i by omega] at this
         · simp only [RC, Sh.cell] at hv ⊢;refine ⟨hd 0 (by simp only [fS, Sh.nb]; omega), ?_⟩;rw [hv.2, show k' = k' + 0 from rfl, hs 0 (some j1) (by simp [dm])];rfl
       · cases h
     · cases h
   · refine step h (by simpa [dm, Sh.nb] using hs) (by simpa [fS, Sh.nb] using hd) fun v hv => ?_;exact trivial
   · cases h
theorem AY : ∀ {ss ts : List Sh} {k : Nat}, gu k (ss ++ ts) = gu k ss ++ gu (k + fS ss) ts
 | [], ts, k => by simp [gu, fS]
 | s :: ss, ts, k => by simp only [List.cons_append, gu, AY (ss := ss), fS, Nat.add_assoc]
theorem Fq : ∀ {ss : List Sh} {k : Nat}, (gu k ss).length = ss.length
 | [], _ => rfl
 | s :: ss, k => by simp [gu, Fq (ss := ss)]
theorem Fs : ∀ {ps : List (Bool × List Sh)} {qs : List (Bool × List C)} {k : Nat}, td ps qs = true →
   (∀ (j : Nat) c c', (te qs)[j]? = some c → (gu k (ru ps))[j]? = some c' → ∀ v, RC fv ρ D c v → RC fv ρ' D' c' v) →
   (rr k ps).length = qs.length ∧ ∀ (j : Nat) q p, qs[j]? = some q → (rr k ps)[j]? = some p → ∀ v, RT fv ρ D q v → RT fv ρ' D' p v
 | [], qs, k, h, hc => by
   cases qs <;> simp only [td] at h
   · exact ⟨rfl, fun j q p hj => by simp at hj⟩
   · cases h
 | p0 :: ps, [], k, h, hc => by simp [td] at h
 | p0 :: ps, q0 :: qs, k, h, hc => by
   simp only [td, Bool.and_eq_true, beq_iff_eq] at h;obtain ⟨⟨h1, h2⟩, h3⟩ := h;have hl : (gu k p0.2).length = q0.2.length := by rw [Fq, h2]
   obtain ⟨h4, h5⟩ := Fs (k := k + fS p0.2) h3 fun j c c' hj cO => hc (q0.2.length + j) c c' (by
       simp only [te]; rw [List.getElem?_append_right (Nat.le_add_right _ _), Nat.add_sub_cancel_left]; exact hj) (by
       simp only [ru, AY]; rw [List.getElem?_append_right (by omega), hl, Nat.add_sub_cancel_left]; exact cO)
   refine ⟨by simp [rr, h4], fun j q p hj cO v hv => ?_⟩;cases j with
   | succ j => simp [rr] at hj cO; exact h5 j q p hj cO v hv
   | zero =>
     simp [rr] at hj cO;subst hj; subst cO
     have ny : ∀ (j : Nat) c c', q0.2[j]? = some c → (gu k p0.2)[j]? = some c' → ∀ v, RC fv ρ D c v → RC fv ρ' D' c' v := fun j c c' hj cO => by
       have aR := bK hj
       exact hc j c c' (by simp only [te]; rw [List.getElem?_append_left aR]; exact hj) (by
        simp only [ru, AY]; rw [List.getElem?_append_left (by omega)]; exact cO)
     obtain ⟨b, ss⟩ := p0;obtain ⟨b', cs⟩ := q0;simp only at h1 hl ny;subst h1;cases b with
     | true =>
       obtain ⟨vs, h6, h7, h8⟩ := hv;refine ⟨vs, h6, by simp only at h7 ⊢; omega, fun j c hj => ?_⟩;simp only at hj h8;obtain ⟨c0, hG⟩ : ∃ c0, cs[j]? = some c0 := ⟨_, List.getElem?_eq_getElem (by have := bK hj; omega)⟩;exact ny j c0 c hG hj _ (h8 j c0 hG)
     | false =>
       obtain ⟨c, h6, h7⟩ := hv;simp only at h6;subst h6;simp only [List.length_singleton] at hl;obtain ⟨c', ix⟩ : ∃ c', gu k ss = [c'] := List.length_eq_one_iff.1 hl;exact ⟨c', ix, ny 0 c c' rfl (by rw [ix]; rfl) _ h7⟩
end
theorem aE.canon {h : Array Obj} {H0 H' : Hp} {ρ : aL} {s : dv} {r : V} {nb : List ar} {v : Value} (kZ : aE s r nb) (hb : fM h H0 H' ρ (num 0 nb)) (hv : RV fv ρ (ax (num 0 nb)) r v) :
   ∃ ρ', s.bs.all ownB = true ∧ fM h H0 H' ρ' (num 0 s.bs) ∧ RV fv ρ' (ax (num 0 s.bs)) s.v v := by
 obtain ⟨ss, cs, hm, oV, LU⟩ : ∃ ss cs, mL ss cs 0 nb ∧ s.bs = eP ss ∧ ∀ {ρ' : aL} {D' : Nat → Prop},
     (∀ (j : Nat) c c', cs[j]? = some c → (gu 0 ss)[j]? = some c' → ∀ v, RC fv ρ (ax (num 0 nb)) c v → RC fv ρ' D' c' v) → RV fv ρ' D' s.v v := by
   unfold aE at kZ
   split at kZ
   · rename_i s x;refine ⟨[s], [x], kZ, by simp [dv.bs, eP], fun hc => ?_⟩;exact hc 0 x _ rfl rfl v hv
   · rename_i ss cs;refine ⟨ss, cs, kZ, rfl, fun hc => ?_⟩;obtain ⟨us, h1, h2, h3⟩ := hv;have hl : (gu 0 ss).length = cs.length := (AX (ρ := ρ) (ρ' := fun i => match (dm ss cs)[i]? with | some o => qd ρ o | none => default) (D := fun _ => True) (D' := fun _ => True) kZ (fun i o hi => by simp [hi]) fun _ _ => trivial).1;refine ⟨us, h1, by simp only [hl]; exact h2, fun j c hj => ?_⟩;obtain ⟨c0, hG⟩ : ∃ c0, cs[j]? = some c0 := ⟨_, List.getElem?_eq_getElem (by have := bK hj; omega)⟩;exact hc j c0 c hG hj _ (h3 j c0 hG)
   · rename_i ps qs
     split at kZ
     · rename_i oL;refine ⟨ru ps, te qs, kZ, rfl, fun hc => ?_⟩;obtain ⟨us, h1, h2, h3⟩ := hv;obtain ⟨h4, h5⟩ := Fs oL hc;refine ⟨us, h1, by rw [h4]; exact h2, fun j p hj => ?_⟩;obtain ⟨q, hq⟩ : ∃ q, qs[j]? = some q := ⟨_, List.getElem?_eq_getElem (by have := bK hj; omega)⟩;exact h5 j q p hq hj _ (h3 j q hq)
     · cases kZ
   · cases kZ
 obtain ⟨hl, hn, iO⟩ := qe hm
 let ρ' : aL := fun i => match (dm ss cs)[i]? with | some o => qd ρ o | none => default
 have iM : ∀ (i : Nat) o, (dm ss cs)[i]? = some o → ρ' (0 + i) = qd ρ o := fun i o hi => by simp only [ρ', Nat.zero_add, hi]
 have de : ∀ k B, (k, B) ∈ num 0 (eP ss) → ∃ E x, B = .own E x false ∧ ((ρ' k = (.slice none 0 0, fun _ => 0) ∧ x () = []) ∨ ∃ j, ρ' k = ρ j ∧ (j, ar.own E x false) ∈ num 0 nb) := fun k B hk => by
   obtain ⟨_, h1⟩ := pG.1 hk;obtain ⟨E, x, h2, h3⟩ := iO k B (by simpa using h1);refine ⟨E, x, h2, ?_⟩;rcases h3 with ⟨h3, h4⟩ | ⟨j, h3, h4, h5⟩
   · exact .inl ⟨by have := iM k none h3; rw [Nat.zero_add] at this; exact this, h4⟩
   · exact .inr ⟨j, by have := iM k _ h3; rw [Nat.zero_add] at this; exact this, pG.2 ⟨Nat.zero_le _, h5⟩⟩
 refine ⟨ρ', ?_, ?_, LU ?_⟩
 · rw [oV];refine List.all_eq_true.2 fun B hB => ?_;obtain ⟨j, hj, uD⟩ := List.getElem_of_mem hB;obtain ⟨E, x, rfl, _⟩ := iO j B (by rw [List.getElem?_eq_getElem hj, uD]);rfl
 · rw [oV];refine ⟨fun k hk => ?_, zw, hb.h0, hb.hh, fun k B hk => ?_, fun x => ?_, fun k B hk x hx => ?_, fun k B hk x hx => ?_⟩
   · obtain ⟨⟨k', B⟩, LV, rfl⟩ := List.mem_map.1 hk;obtain ⟨E, x, rfl, ⟨h1, _⟩ | ⟨j, h1, h2⟩⟩ := de k' B LV
     · rw [h1]; rfl
     · rw [h1]; exact hb.oc j (List.mem_map.2 ⟨_, h2, rfl⟩)
   · obtain ⟨E, x, rfl, ⟨h1, h3⟩ | ⟨j, h1, h2⟩⟩ := de k B hk
     · rw [h1]; exact bq.nil h3
     · rw [h1]; exact hb.ai j _ h2
   · rw [qf hm iM]; exact hb.sum x
   · obtain ⟨E, y, rfl, ⟨h1, _⟩ | ⟨j, h1, h2⟩⟩ := de k B hk
     · rw [h1] at hx; simp at hx
     · rw [h1] at hx; exact hb.fresh j _ h2 x hx
   · obtain ⟨E, y, rfl, ⟨h1, _⟩ | ⟨j, h1, h2⟩⟩ := de k B hk
     · rw [h1] at hx; simp [fL] at hx
     · rw [h1] at hx; exact hb.gY j _ h2 x hx
 · rw [oV];exact (AX hm iM fun i hi => nr.2 ⟨Nat.zero_le _, by rw [Nat.zero_add, Nat.zero_add, ← hn]; exact hi⟩).2
theorem Spec.can {P : Program} {f : FuncId} {as : List V} {s : dv} (h : Spec P f as (aE s)) : Spec P f as fun r nb => r = s.v ∧ nb = s.bs := by
 refine ⟨h.1, fun w vs ha => Calls.mono (h.2 w vs ha) fun e w' hw => ?_⟩;obtain ⟨v, r, nb, H', ρ, rfl, kZ, cN, hb, hv, bg⟩ := hw;obtain ⟨ρ', h1, h2, h3⟩ := kZ.canon hb hv;exact ⟨v, s.v, s.bs, H', ρ', rfl, ⟨rfl, rfl⟩, h1, h2, h3, bg⟩
def jR (X : Type) (φ : X → Prop) (s : X → dv) (r : V) (nb : List ar) : Prop := ∃ x, φ x ∧ aE (s x) r nb
theorem Spec.LW {P : Program} {f : FuncId} {as : List V} {X : Type} {φ : X → Prop} {s : X → dv} (h : Spec P f as (jR X φ s)) : Spec P f as fun r nb => ∃ x, φ x ∧ r = (s x).v ∧ nb = (s x).bs := by
 refine ⟨h.1, fun w vs ha => Calls.mono (h.2 w vs ha) fun e w' hw => ?_⟩;obtain ⟨v, r, nb, H', ρ, rfl, ⟨x, hx, kZ⟩, cN, hb, hv, bg⟩ := hw;obtain ⟨ρ', h1, h2, h3⟩ := kZ.canon hb hv;exact ⟨v, (s x).v, (s x).bs, H', ρ', rfl, ⟨x, hx, rfl, rfl⟩, h1, h2, h3, bg⟩
theorem Br.dec {p : Prop} [Decidable p] {K : Bool → Prop} (h1 : p → K true) (h0 : ¬ p → K false) : Br (fun _ => decide p) K :=
 Br.split (fun h => h1 (of_decide_eq_true h)) fun h => h0 (of_decide_eq_false h)
theorem ay {P : Program} {tab : bj} (hT : eW P tab = true) {f : FuncId} {fn : Func} {c : Code} (hf : P.funcs[f]? = some fn) (hb : fn.body = some c) (hF : (fn.name == "runtime.NumGoroutine") = false)
 {fr : Bool} (eO : fr = true → fW c = true) {as : List V} {post : V → List ar → Prop} (h : ∀ P', P' = P → jQ as → Fo P' tab fr fn c as post) : Spec P f as post := LR hT hf hb hF eO (h P rfl)
theorem ag.by {P P0 : Program} {f : FuncId} {as : List V} {K : V → List ar → Prop} {s : dv} (hP : P = P0) (h : Spec P0 f as (aE s)) (hk : K s.v s.bs) : ag P f as K := by
 subst hP;exact ⟨_, h.can, fun r nb ⟨h1, h2⟩ => by rw [h1, h2]; exact hk⟩
theorem ag.dL {P P0 : Program} {f : FuncId} {as ve : List V} {K : V → List ar → Prop} {s : dv} (hP : P = P0) (h : Spec P0 f as (aE s)) (ha : ve = as) (hk : K s.v s.bs) : ag P f ve K := by
 subst ha;exact ag.by hP h hk
theorem ag.ex {P P0 : Program} {f : FuncId} {as : List V} {K : V → List ar → Prop} {X : Type} {φ : X → Prop} {s : X → dv} (hP : P = P0) (h : Spec P0 f as (jR X φ s)) (hk : ∀ x, φ x → K (s x).v (s x).bs) : ag P f as K := by
 subst hP;exact ⟨_, h.LW, fun r nb ⟨x, hx, h1, h2⟩ => by rw [h1, h2]; exact hk x hx⟩
def iA (x : Int) : V := .c (.lf (.int .i64 fun _ => x))
def lA (E : av) (x : List E.α) : V := .c (.lf (.list E fun _ => x))
def eA (E : av) (x : E.α) : V := .agg ((bQ E fun _ => x).map .lf)
def iR (x : Unit → Int) : dv := .c (.int .i64 x)
def bR (x : Unit → Bool) : dv := .c (.bool x)
def eR : (E : av) → (Unit → E.α) → dv
 | .int, x => .c (.int .i64 x)
 | .byte, x => .c (.int .u8 fun _ => ((x ()).toNat : Int))
 | .str, x => .c (.str x)
 | .aI, x => .agg [.int .i64 fun _ => (x ()).tm, .int .i64 fun _ => (x ()).pid]
 | .aH, x => .agg [.int .i64 fun _ => (x ()).lvl, .int .i64 fun _ => (x ()).aC, .int .i64 fun _ => (x ()).aV, .int .i64 fun _ => (x ()).al]
 | .aG, x => .agg [.int .i64 fun _ => (x ()).id, .int .i64 fun _ => (x ()).ah, .int .i64 fun _ => (x ()).ak, .int .i64 fun _ => (x ()).al, .int .i64 fun _ => (x ()).aJ,
  .int .i64 fun _ => (x ()).since, .int .i64 fun _ => (x ()).aC, .int .i64 fun _ => (x ()).st, .int .i64 fun _ => (x ()).cm, .int .i64 fun _ => (x ()).asked]
 | .bZ, x => .c (.own .aI x)
 | .ah, x => .agg [.int .i64 fun _ => (x ()).aj.total, .int .i64 fun _ => (x ()).aj.free, .int .i64 fun _ => (x ()).aj.held, .int .i64 fun _ => (x ()).aj.bn, .int .i64 fun _ => (x ()).aj.tied,
  .own .aH fun _ => (x ()).row, .own .bZ fun _ => (x ()).spoke]
 | .cT, x => .agg [.int .i64 fun _ => (x ()).kind, .int .i64 fun _ => (x ()).id, .int .i64 fun _ => (x ()).ah, .int .i64 fun _ => (x ()).ak, .int .i64 fun _ => (x ()).al, .int .i64 fun _ => (x ()).aJ]
 | .rep, x => .agg [.int .i64 fun _ => (x ()).code, .own .int fun _ => (x ()).ids]
def lR (E : av) (x : Unit → List E.α) : dv := .c (.own E x)
inductive KC where
 | int (k : IntKind) (x : Unit → Int)
 | bool (x : Unit → Bool)
 | str (x : Unit → List UInt8)
 | nm (j : Nat)
inductive dV where
 | own (E : av) (x : Unit → List E.α)
 | box (cs : List KC)
 | vw
def KC.c : KC → C
 | .int k x => .lf (.int k x)
 | .bool x => .lf (.bool x)
 | .str x => .lf (.str x)
 | .nm j => .own j
def Ft : List KC → List C
 | [] => []
 | c :: cs => c.c :: Ft cs
def dV.ai : dV → ar
 | .own E x => .own E x false
 | .box cs => .box (Ft cs)
 | .vw => .dead
def iQ : List (Nat × dV) → List (Nat × ar)
 | [] => []
 | p :: r => (p.1, p.2.ai) :: iQ r
def tf : List (Nat × ar) → List (Nat × ar) → List (Nat × ar)
 | [], bs => bs
 | p :: r, bs => p :: tf r bs
def iS (s : dv) (kp : List (Nat × dV)) : List (Nat × ar) := tf (iQ kp) (num 100 s.bs)
def mN (s : dv) : V := s.v.c_ (100 + ·)
def tg (s : Sh) (c : C) (kk : Nat) : C × List (Nat × av) :=
 match s, c with
 | .own E _, .nil => (.own kk, [(kk, E)])
 | _, c => (c, [])
def nK : List Sh → List C → Nat → List C × List (Nat × av)
 | s :: ss, c :: cs, kk => match tg s c kk, nK ss cs (kk + 1) with | (c', l), (kg, l') => (c' :: kg, l ++ l')
 | _, cs, _ => (cs, [])
def qg : List (Bool × List Sh) → List (Bool × List C) → Nat → List (Bool × List C) × List (Nat × av)
 | p :: ps, q :: qs, kk => match nK p.2 q.2 kk, qg ps qs (kk + 100) with | (cs, l), (r, l') => ((q.1, cs) :: r, l ++ l')
 | _, qs, _ => (qs, [])
def qh (s : dv) (v : V) (kk : Nat) : V × List (Nat × av) :=
 match s, v with
 | .c s, .c x => (match tg s x kk with | (x', l) => (.c x', l))
 | .agg ss, .agg cs => (match nK ss cs kk with | (kg, l) => (.agg kg, l))
 | .aT ps, .aT qs => (match qg ps qs kk with | (qi, l) => (.aT qi, l))
 | _, v => (v, [])
def lZ : List (Nat × av) → List (Nat × ar) → Option (List (Nat × ar))
 | [], bs => some bs
 | p :: r, bs => match aQ bs p.1 with | none => lZ r (dj bs p.1 (.own p.2 (fun _ => []) false)) | some _ => none
def xQ (l l0 : Lf) (K : Prop) : Prop :=
 match l, l0 with
 | .int i t, .int k x => if i = k then jw (fun _ => t () = x ()) K else False
 | .bool t, .bool x => jw (fun _ => t () = x ()) K
 | .str t, .str x => jw (fun _ => t () = x ()) K
 | .list E' t, .list E x => jw (fun _ => qc E E' x t) K
 | _, _ => False
def xR : List Lf → List Lf → Prop → Prop
 | [], [], K => K
 | l :: ls, m :: ms, K => xQ l m (xR ls ms K)
 | _, _, _ => False
def AZ (c c0 : Cp) (K : Prop) : Prop :=
 match c, c0 with
 | .b0 ls o, .b0 ms o' => if o = o' then xR ls ms K else False
 | _, _ => False
def xS : List Cp → List Cp → Prop → Prop
 | [], [], K => K
 | l :: ls, m :: ms, K => AZ l m (xS ls ms K)
 | _, _, _ => False
def mC (c c0 : C) (K : Prop) : Prop :=
 match c, c0 with
 | _, .undef => K
 | .lf l, .lf l0 => xQ l l0 K
 | .bl b, .lf (.bool x) => jw (fun _ => b = x ()) K
 | .bl b, .bl b' => if b = b' then K else False
 | .own j, .own k => if j = k then K else False
 | .nil, .nil => K
 | .ptr j o, .ptr k o' => if j = k ∧ o = o' then K else False
 | .fn f l, .fn g m => if f = g then xS l m K else False
 | _, _ => False
def ry : List C → List C → Prop → Prop
 | [], [], K => K
 | c :: cs, d :: ds, K => mC c d (ry cs ds K)
 | _, _, _ => False
def xT : List (Bool × List C) → List (Bool × List C) → Prop → Prop
 | [], [], K => K
 | p :: ps, q :: qs, K => if p.1 = q.1 then ry p.2 q.2 (xT ps qs K) else False
 | _, _, _ => False
def mV (v v0 : V) (K : Prop) : Prop :=
 match v, v0 with
 | .c x, .c y => mC x y K
 | .agg xs, .agg ys => ry xs ys K
 | .aT ps, .aT qs => xT ps qs K
 | _, _ => False
def mO : List (Nat × ar) → List (Nat × ar) → Prop → Prop
 | [], [], K => K
 | p :: ps, q :: qs, K =>
   if p.1 = q.1 then
    match p.2, q.2 with
    | .own E' t false, .own E x false => jw (fun _ => qc E E' x t) (mO ps qs K)
    | .box cs, .box ds => ry cs ds (mO ps qs K)
    | .mp t, .mp x => jw (fun _ => t () = x ()) (mO ps qs K)
    | .view _ _, .dead => mO ps qs K
    | .view E' t, .view E x => jw (fun _ => qc E E' x t) (mO ps qs K)
    | _, _ => False
   else False
 | _, _, _ => False
def hO : List (Nat × dV) → List (Nat × Nat)
 | [] => []
 | p :: r => (p.1, p.1) :: hO r
def gL : List Nat → Nat → List (Nat × Nat)
 | [], _ => []
 | k :: ks, j => (k, j) :: gL ks (j + 1)
def hX : List (Nat × Nat) → List (Nat × Nat) → List (Nat × Nat)
 | [], b => b
 | p :: r, b => p :: hX r b
def vf (tab : bj) (rs : List ResultVar) (s : dv) (kp : List (Nat × dV)) (σ : SS) : Prop :=
 match sA tab σ rs with
 | some r =>
   match qh s r 9000000 with
   | (r', l) =>
     match lZ l (closeAll (σ.ai.map (·.1)) σ.ai) with
     | some bs =>
       match nF bs (hX (hO kp) (gL (eK r') 100)) (hX (hO kp) (gL (eK r') 100)) with
       | some out =>
         if eB ((hX (hO kp) (gL (eK r') 100)).map (·.1)) = true ∧ eB ((hX (hO kp) (gL (eK r') 100)).map (·.2)) = true ∧ (r'.dP (hX (hO kp) (gL (eK r') 100))).cl = true then
          mO out (iS s kp) (mV (r'.dP (hX (hO kp) (gL (eK r') 100))) (mN s) True)
         else False
       | none => False
     | none => False
 | none => False
theorem Fu {E E' : av} {x : Unit → List E.α} {t : Unit → List E'.α} (h : qc E E' x t) : Lf.list E' t = Lf.list E x := by
 have := AW (l := false) h
 injection this with h1 h2
 subst h1;rw [eq_of_heq h2]
theorem Fv {l l0 : Lf} {K : Prop} (h : xQ l l0 K) : K ∧ ∀ {H : Hp} {v : Value}, RL H l v → RL H l0 v := by
 unfold xQ at h
 split at h
 · split at h
   · rename_i hi;obtain ⟨h1, h2⟩ := h;refine ⟨h2, fun {H v} hv => ?_⟩;subst hi;obtain ⟨rfl, h3⟩ := RL.of_int hv;rw [h1] at h3 ⊢;exact RL.int h3
   · cases h
 · obtain ⟨h1, h2⟩ := h;refine ⟨h2, fun {H v} hv => ?_⟩;have := RL.of_bool hv;subst this;rw [h1];exact RL.bool
 · obtain ⟨h1, h2⟩ := h;refine ⟨h2, fun {H v} hv => ?_⟩;obtain ⟨rfl, h3⟩ := RL.kS hv;rw [h1] at h3 ⊢;exact RL.str h3
 · obtain ⟨h1, h2⟩ := h;refine ⟨h2, fun {H v} hv => ?_⟩;rw [← Fu h1];exact hv
 · cases h
theorem Fw : ∀ {ls ms : List Lf} {K : Prop}, xR ls ms K → K ∧ ∀ {H : Hp} {j : Nat} {m : Lf}, ms[j]? = some m → ∃ l, ls[j]? = some l ∧ ∀ {v : Value}, RL H l v → RL H m v
 | [], [], K, h => ⟨h, fun hj => by simp at hj⟩
 | [], _ :: _, K, h => by cases h
 | _ :: _, [], K, h => by cases h
 | l :: ls, m :: ms, K, h => by
   simp only [xR] at h;obtain ⟨h1, h2⟩ := Fv h;obtain ⟨h3, h5⟩ := Fw h1;refine ⟨h3, fun {H j e} hj => ?_⟩;cases j with
   | zero => simp at hj; subst hj; exact ⟨l, rfl, h2⟩
   | succ j => simpa using h5 (by simpa using hj)
theorem LX {c c0 : Cp} {K : Prop} (h : AZ c c0 K) : K ∧ ∀ {H : Hp} {ρ : aL} {D : Nat → Prop} {v : Value}, dM H ρ D c v → dM H ρ D c0 v := by
 unfold AZ at h
 split at h
 · split at h
   · rename_i ho;subst ho;obtain ⟨h1, h2⟩ := Fw h;refine ⟨h1, fun {H ρ D v} hv => ?_⟩;obtain ⟨b, o, cs, e, fz, g1, g2, g3⟩ := hv;refine ⟨b, o, cs, e, fz, g1, g2, fun j m hj => ?_⟩;obtain ⟨l, hl, hi⟩ := h2 hj;exact ⟨(g3 j l hl).1, hi (g3 j l hl).2⟩
   · cases h
 · cases h
theorem Fx : ∀ {ls ms : List Cp} {K : Prop}, xS ls ms K → K ∧ ls.length = ms.length ∧ ∀ {H : Hp} {ρ : aL} {D : Nat → Prop} {j : Nat} {m : Cp}, ms[j]? = some m → ∃ l, ls[j]? = some l ∧ ∀ {v : Value}, dM H ρ D l v → dM H ρ D m v
 | [], [], K, h => ⟨h, rfl, fun hj => by simp at hj⟩
 | [], _ :: _, K, h => by cases h
 | _ :: _, [], K, h => by cases h
 | l :: ls, m :: ms, K, h => by
   simp only [xS] at h;obtain ⟨h1, h2⟩ := LX h;obtain ⟨h3, h4, h5⟩ := Fx h1;refine ⟨h3, by simp [h4], fun {H ρ D j e} hj => ?_⟩;cases j with
   | zero => simp at hj; subst hj; exact ⟨l, rfl, h2⟩
   | succ j => simpa using h5 (by simpa using hj)
theorem Fy {c c0 : C} {K : Prop} (h : mC c c0 K) : K ∧ ∀ {H : Hp} {ρ : aL} {D : Nat → Prop} {v : Value}, RC H ρ D c v → RC H ρ D c0 v := by
 unfold mC at h
 split at h
 · exact ⟨h, fun _ => trivial⟩
 · obtain ⟨h1, h2⟩ := Fv h;exact ⟨h1, fun hv => h2 hv⟩
 · obtain ⟨h1, h2⟩ := h;refine ⟨h2, fun {H ρ D v} hv => ?_⟩;simp only [RC] at hv ⊢;subst hv;rw [h1];exact RL.bool
 · split at h
   · rename_i hb; subst hb; exact ⟨h, fun hv => hv⟩
   · cases h
 · split at h
   · rename_i hj; subst hj; exact ⟨h, fun hv => hv⟩
   · cases h
 · exact ⟨h, fun hv => hv⟩
 · split at h
   · rename_i hj; obtain ⟨rfl, rfl⟩ := hj; exact ⟨h, fun hv => hv⟩
   · cases h
 · split at h
   · rename_i hf;subst hf;obtain ⟨h1, h2, h3⟩ := Fx h;refine ⟨h1, fun {H ρ D v} hv => ?_⟩;obtain ⟨vs, g1, g2, g3⟩ := hv;refine ⟨vs, g1, by rw [g2, h2], fun j m hj => ?_⟩;obtain ⟨l, hl, hi⟩ := h3 hj;exact hi (g3 j l hl)
   · cases h
 · cases h
theorem th : ∀ {cs ds : List C} {K : Prop}, ry cs ds K → K ∧ cs.length = ds.length ∧ ∀ {H : Hp} {ρ : aL} {D : Nat → Prop} {j : Nat} {d : C}, ds[j]? = some d → ∃ c, cs[j]? = some c ∧ ∀ {v : Value}, RC H ρ D c v → RC H ρ D d v
 | [], [], K, h => ⟨h, rfl, fun hj => by simp at hj⟩
 | [], _ :: _, K, h => by cases h
 | _ :: _, [], K, h => by cases h
 | c :: cs, d :: ds, K, h => by
   simp only [ry] at h;obtain ⟨h1, h2⟩ := Fy h;obtain ⟨h3, h4, h5⟩ := th h1;refine ⟨h3, by simp [h4], fun {H ρ D j e} hj => ?_⟩;cases j with
   | zero => simp at hj; subst hj; exact ⟨c, rfl, h2⟩
   | succ j => simpa using h5 (by simpa using hj)
theorem A0 {cs ds : List C} {K : Prop} (h : ry cs ds K) {H : Hp} {ρ : aL} {D : Nat → Prop} {vs : Array Value} (hv : cU H ρ D cs vs) : cU H ρ D ds vs := by
 obtain ⟨_, h4, h5⟩ := th h;refine ⟨by rw [← h4]; exact hv.1, fun j d hj => ?_⟩;obtain ⟨c, hc, hi⟩ := h5 hj;exact hi (hv.2 j c hc)
theorem Fz : ∀ {ps qs : List (Bool × List C)} {K : Prop}, xT ps qs K → K ∧ ps.length = qs.length ∧ ∀ {H : Hp} {ρ : aL} {D : Nat → Prop} {j : Nat} {q : Bool × List C}, qs[j]? = some q → ∃ p, ps[j]? = some p ∧ ∀ {v : Value}, RT H ρ D p v → RT H ρ D q v
 | [], [], K, h => ⟨h, rfl, fun hj => by simp at hj⟩
 | [], _ :: _, K, h => by cases h
 | _ :: _, [], K, h => by cases h
 | p :: ps, q :: qs, K, h => by
   simp only [xT] at h
   split at h
   · rename_i FA;obtain ⟨h1, h2, _⟩ := th h;obtain ⟨h3, h4, h5⟩ := Fz h1;refine ⟨h3, by simp [h4], fun {H ρ D j e} hj => ?_⟩;cases j with
     | zero =>
       simp at hj; subst hj;refine ⟨p, rfl, fun {v} hv => ?_⟩;obtain ⟨b, cs⟩ := p;obtain ⟨b', ds⟩ := q;simp only at FA h2 h;subst FA;cases b with
       | true => obtain ⟨vs, g1, g2⟩ := hv; exact ⟨vs, g1, A0 h g2⟩
       | false =>
         obtain ⟨c, g1, g2⟩ := hv;simp only at g1;subst g1;obtain ⟨d, rfl⟩ : ∃ d, ds = [d] := List.length_eq_one_iff.1 (by simpa using h2.symm);refine ⟨d, rfl, ?_⟩;obtain ⟨c', ix, hi⟩ := (th h).2.2 (H := H) (ρ := ρ) (D := D) (j := 0) (d := d) rfl;simp at ix;subst ix;exact hi g2
     | succ j => simpa using h5 (by simpa using hj)
   · cases h
theorem xU {v v0 : V} {K : Prop} (h : mV v v0 K) : K ∧ ∀ {H : Hp} {ρ : aL} {D : Nat → Prop} {x : Value}, RV H ρ D v x → RV H ρ D v0 x := by
 unfold mV at h
 split at h
 · exact Fy h
 · exact ⟨(th h).1, fun ⟨vs, h1, h2⟩ => ⟨vs, h1, A0 h h2⟩⟩
 · obtain ⟨h1, h2, h3⟩ := Fz h;refine ⟨h1, fun {H ρ D x} ⟨vs, g1, g2, g3⟩ => ⟨vs, g1, by rw [g2, h2], fun j q hj => ?_⟩⟩;obtain ⟨p, hp, hi⟩ := h3 hj;exact hi (g3 j p hp)
 · cases h
theorem oW : ∀ {ps qs : List (Nat × ar)} {K : Prop}, mO ps qs K → K ∧ qs.map (·.1) = ps.map (·.1) ∧ ∀ k B', (k, B') ∈ qs → ∃ B, (k, B) ∈ ps ∧
   (∀ {h : Array Obj} {H : Hp} {ρ : aL} {D : Nat → Prop} {p : Value × (Nat → Nat)}, cQ h H ρ D B p → cQ h H ρ D B' p) ∧ ∀ (p : Value × (Nat → Nat)) x, fL B' p x → fL B p x
 | [], [], K, h => ⟨h, rfl, fun k B' hk => by cases hk⟩
 | [], _ :: _, K, h => by cases h
 | _ :: _, [], K, h => by cases h
 | (k, A) :: ps, (k', A') :: qs, K, h => by
   simp only [mO] at h
   split at h
   · rename_i hk;subst hk
     split at h
     · rename_i E' t E x;obtain ⟨h1, h⟩ := h;obtain ⟨h2, h3, h4⟩ := oW h;have he := AW (l := false) h1;refine ⟨h2, by simp [h3], fun j B' hj => ?_⟩;rcases List.mem_cons.1 hj with hj | hj
       · cases hj; exact ⟨_, List.mem_cons_self, by rw [he]; exact ⟨fun h => h, fun _ _ h => h⟩⟩
       · obtain ⟨B, g1, g2⟩ := h4 j B' hj; exact ⟨B, List.mem_cons_of_mem _ g1, g2⟩
     · rename_i cs ds;have hm := h;obtain ⟨h, _, _⟩ := th h;obtain ⟨h2, h3, h4⟩ := oW h;refine ⟨h2, by simp [h3], fun j B' hj => ?_⟩;rcases List.mem_cons.1 hj with hj | hj
       · cases hj;exact ⟨_, List.mem_cons_self, fun ⟨b, vs, e, fz, e1, e2, e3, e4, e5⟩ => ⟨b, vs, e, fz, e1, e2, e3, e4, A0 hm e5⟩, fun _ _ h => h⟩
       · obtain ⟨B, g1, g2⟩ := h4 j B' hj; exact ⟨B, List.mem_cons_of_mem _ g1, g2⟩
     · rename_i t x;obtain ⟨h1, h⟩ := h;obtain ⟨h2, h3, h4⟩ := oW h;have h1 : t () = x () := h1;refine ⟨h2, by simp [h3], fun j B' hj => ?_⟩;rcases List.mem_cons.1 hj with hj | hj
       · cases hj;exact ⟨_, List.mem_cons_self, fun ⟨b, es, c, e1, e2, e3, e4⟩ => ⟨b, es, c, e1, e2, e3, by rw [← h1]; exact e4⟩, fun _ _ h => h⟩
       · obtain ⟨B, g1, g2⟩ := h4 j B' hj; exact ⟨B, List.mem_cons_of_mem _ g1, g2⟩
     · obtain ⟨h2, h3, h4⟩ := oW h;refine ⟨h2, by simp [h3], fun j B' hj => ?_⟩;rcases List.mem_cons.1 hj with hj | hj
       · cases hj;exact ⟨_, List.mem_cons_self, fun h => h.2, fun _ _ h => h⟩
       · obtain ⟨B, g1, g2⟩ := h4 j B' hj; exact ⟨B, List.mem_cons_of_mem _ g1, g2⟩
     · rename_i E' t E x;obtain ⟨h1, h⟩ := h;obtain ⟨h2, h3, h4⟩ := oW h;have he := Fu h1;refine ⟨h2, by simp [h3], fun j B' hj => ?_⟩;rcases List.mem_cons.1 hj with hj | hj
       · cases hj; exact ⟨_, List.mem_cons_self, fun ⟨q1, q2⟩ => ⟨by rw [← he]; exact q1, q2⟩, fun _ _ h => h⟩
       · obtain ⟨B, g1, g2⟩ := h4 j B' hj; exact ⟨B, List.mem_cons_of_mem _ g1, g2⟩
     · cases h
   · cases h
theorem FB {ρ : aL} {x : Nat} : ∀ {ps qs : List (Nat × ar)}, qs.map (·.1) = ps.map (·.1) → aS ρ qs x = aS ρ ps x
 | [], [], _ => rfl
 | [], _ :: _, h => by simp at h
 | _ :: _, [], h => by simp at h
 | p :: ps, q :: qs, h => by
   simp only [List.map_cons, List.cons.injEq] at h;simp only [aS, h.1, FB h.2]
theorem fM.as {h : Array Obj} {H0 H : Hp} {ρ : aL} {ps qs : List (Nat × ar)} (r : fM h H0 H ρ ps) (hk : qs.map (·.1) = ps.map (·.1))
   (hb : ∀ k B', (k, B') ∈ qs → ∃ B, (k, B) ∈ ps ∧ (∀ {h : Array Obj} {H : Hp} {ρ : aL} {D : Nat → Prop} {p : Value × (Nat → Nat)}, cQ h H ρ D B p → cQ h H ρ D B' p) ∧ ∀ (p : Value × (Nat → Nat)) x, fL B' p x → fL B p x) : fM h H0 H ρ qs := by
 have hd : ax qs = ax ps := by funext k; simp only [ax, hk]
 refine ⟨by rw [hd]; exact r.oc, by rw [hk]; exact r.nd, r.h0, r.hh, fun k B' bC => ?_, fun x => by rw [FB hk]; exact r.sum x, fun k B' bC x hx => ?_, fun k B' bC x hx => ?_⟩
 · obtain ⟨B, g1, g2⟩ := hb k B' bC;rw [hd];exact g2.1 (r.ai k B g1)
 · obtain ⟨B, g1, _⟩ := hb k B' bC;exact r.fresh k B g1 x hx
 · obtain ⟨B, g1, g2⟩ := hb k B' bC;exact r.gY k B g1 x (g2.2 _ x hx)
theorem LY {bs cf : List (Nat × ar)} {k : Nat} (h : sJ bs k = some cf) : ax cf = ax bs := by
 unfold sJ at h
 split at h
 · split at h
   · split at h
     · split at h
       · cases h; funext j; rw [eV, uJ]
       · cases h
     · cases h
   · cases h
 · cases h; rfl
 · cases h
section
variable {Γ : Ctx} {H : Hp} {a : Act} {w : World}
theorem aM.lW (bN : Γ.hd = []) {ρ : aL} {σ : SS} (r : aM Γ H ρ σ a w) (k : Nat) :
   ∃ ρ', aM Γ H ρ' { σ with ai := Go.Proofs.YticeaiiffeccmaaGreat.lW σ.ai k } a w ∧ (∀ j, (ρ' j).1 = (ρ j).1) ∧ ax (Go.Proofs.YticeaiiffeccmaaGreat.lW σ.ai k) = ax σ.ai := by
 unfold Go.Proofs.YticeaiiffeccmaaGreat.lW
 split
 · split
   · rename_i cf hc;obtain ⟨ρ', r', h1⟩ := aM.close bN r hc;exact ⟨ρ', r', h1, LY hc⟩
   · exact ⟨ρ, r, fun _ => rfl, rfl⟩
 · exact ⟨ρ, r, fun _ => rfl, rfl⟩
theorem aM.closeAll (bN : Γ.hd = []) : ∀ {ks : List Nat} {ρ : aL} {σ : SS}, aM Γ H ρ σ a w →
   ∃ ρ', aM Γ H ρ' { σ with ai := Go.Proofs.YticeaiiffeccmaaGreat.closeAll ks σ.ai } a w ∧ (∀ j, (ρ' j).1 = (ρ j).1) ∧ ax (Go.Proofs.YticeaiiffeccmaaGreat.closeAll ks σ.ai) = ax σ.ai
 | [], ρ, σ, r => ⟨ρ, r, fun _ => rfl, rfl⟩
 | k :: ks, ρ, σ, r => by
   obtain ⟨ρ1, r1, h1, h2⟩ := r.lW bN k;obtain ⟨ρ2, r2, h3, h4⟩ := aM.closeAll bN (ks := ks) r1;exact ⟨ρ2, r2, fun j => (h3 j).trans (h1 j), h4.trans h2⟩
theorem aM.lZ : ∀ {l : List (Nat × av)} {ρ : aL} {σ : SS} {bs : List (Nat × ar)}, aM Γ H ρ σ a w → Go.Proofs.YticeaiiffeccmaaGreat.lZ l σ.ai = some bs →
   ∃ ρ', aM Γ H ρ' { σ with ai := bs } a w ∧ (∀ j, ax σ.ai j → ax bs j ∧ (ρ' j).1 = (ρ j).1) ∧ ∀ p ∈ l, ax bs p.1 ∧ (ρ' p.1).1 = .slice none 0 0
 | [], ρ, σ, bs, r, h => by
   simp only [Go.Proofs.YticeaiiffeccmaaGreat.lZ, Option.some.injEq] at h;subst h;exact ⟨ρ, r, fun j hj => ⟨hj, rfl⟩, fun p hp => by cases hp⟩
 | p :: l, ρ, σ, bs, r, h => by
   simp only [Go.Proofs.YticeaiiffeccmaaGreat.lZ] at h
   split at h
   · rename_i hk;have r1 := r.qS (w' := w) (B := .own p.2 (fun _ => []) false) (p := (.slice none 0 0, fun _ => 0)) hk (fun _ _ _ => rfl) (fun _ _ => rfl) (Ext.refl _) rfl (fun x hx => by simp at hx) (fun x => by simp) (bq.nil rfl) (by simp);obtain ⟨ρ2, r2, g1, g2⟩ := aM.lZ r1 h;have aX : ∀ j, ax σ.ai j → j ≠ p.1 := fun j hj he => jm hk (he ▸ hj);refine ⟨ρ2, r2, fun j hj => ?_, fun q hq => ?_⟩
     · obtain ⟨f1, f2⟩ := g1 j (fO.2 (.inr hj));exact ⟨f1, by rw [f2, dC (aX j hj)]⟩
     · rcases List.mem_cons.1 hq with rfl | hq
       · obtain ⟨f1, f2⟩ := g1 q.1 (fO.2 (.inl rfl));exact ⟨f1, by rw [f2, dN]⟩
       · exact g2 q hq
   · cases h
end
section
variable {H : Hp} {ρ ρ' : aL} {D D' : Nat → Prop} (hg : ∀ k, D k → D' k ∧ (ρ' k).1 = (ρ k).1)
include hg
theorem FC {s : Sh} {c c' : C} {kk : Nat} {l : List (Nat × av)} {v : Value} (h : tg s c kk = (c', l)) (hl : ∀ p ∈ l, D' p.1 ∧ (ρ' p.1).1 = .slice none 0 0) (hv : RC H ρ D c v) : RC H ρ' D' c' v := by
 unfold tg at h
 split at h
 · cases h;have := hl _ List.mem_cons_self;simp only [RC] at hv;exact ⟨this.1, by rw [hv, this.2]⟩
 · cases h;exact hv.grow ⟨fun _ _ h => h, hg⟩
theorem A1 : ∀ {ss : List Sh} {cs kg : List C} {kk : Nat} {l : List (Nat × av)}, nK ss cs kk = (kg, l) → (∀ p ∈ l, D' p.1 ∧ (ρ' p.1).1 = .slice none 0 0) →
   kg.length = cs.length ∧ ∀ (j : Nat) c', kg[j]? = some c' → ∃ c, cs[j]? = some c ∧ ∀ v, RC H ρ D c v → RC H ρ' D' c' v
 | [], cs, kg, kk, l, h, _ => by
   simp only [nK, Prod.mk.injEq] at h;obtain ⟨rfl, rfl⟩ := h;exact ⟨rfl, fun j c' hj => ⟨c', hj, fun v hv => hv.grow ⟨fun _ _ h => h, hg⟩⟩⟩
 | _ :: _, [], kg, kk, l, h, _ => by
   simp only [nK, Prod.mk.injEq] at h;obtain ⟨rfl, rfl⟩ := h;exact ⟨rfl, fun j c' hj => by simp at hj⟩
 | s :: ss, c :: cs, kg, kk, l, h, hl => by
   cases h1 : tg s c kk with
   | mk c1 l1 =>
   cases h2 : nK ss cs (kk + 1) with
   | mk Ed l2 =>
   simp only [nK, h1, h2, Prod.mk.injEq] at h;obtain ⟨rfl, rfl⟩ := h;obtain ⟨g1, g2⟩ := A1 h2 fun p hp => hl p (List.mem_append_right _ hp);refine ⟨by simp [g1], fun j c' hj => ?_⟩;cases j with
   | zero => simp at hj; subst hj; exact ⟨c, rfl, fun v hv => FC hg h1 (fun p hp => hl p (List.mem_append_left _ hp)) hv⟩
   | succ j => simpa using g2 j c' (by simpa using hj)
theorem FD : ∀ {ps : List (Bool × List Sh)} {qs qi : List (Bool × List C)} {kk : Nat} {l : List (Nat × av)}, qg ps qs kk = (qi, l) → (∀ p ∈ l, D' p.1 ∧ (ρ' p.1).1 = .slice none 0 0) →
   qi.length = qs.length ∧ ∀ (j : Nat) q', qi[j]? = some q' → ∃ q, qs[j]? = some q ∧ ∀ v, RT H ρ D q v → RT H ρ' D' q' v
 | [], qs, qi, kk, l, h, _ => by
   simp only [qg, Prod.mk.injEq] at h;obtain ⟨rfl, rfl⟩ := h;exact ⟨rfl, fun j c' hj => ⟨c', hj, fun v hv => hv.grow ⟨fun _ _ h => h, hg⟩⟩⟩
 | _ :: _, [], qi, kk, l, h, _ => by
   simp only [qg, Prod.mk.injEq] at h;obtain ⟨rfl, rfl⟩ := h;exact ⟨rfl, fun j c' hj => by simp at hj⟩
 | p :: ps, q :: qs, qi, kk, l, h, hl => by
   cases h1 : nK p.2 q.2 kk with
   | mk c1 l1 =>
   cases h2 : qg ps qs (kk + 100) with
   | mk Ed l2 =>
   simp only [qg, h1, h2, Prod.mk.injEq] at h;obtain ⟨rfl, rfl⟩ := h;obtain ⟨g1, g2⟩ := FD h2 fun p hp => hl p (List.mem_append_right _ hp);refine ⟨by simp [g1], fun j q' hj => ?_⟩;cases j with
   | zero =>
     simp at hj; subst hj;refine ⟨q, rfl, fun v hv => ?_⟩;obtain ⟨f1, f2⟩ := A1 hg h1 fun p hp => hl p (List.mem_append_left _ hp);obtain ⟨b, cs⟩ := q;cases b with
     | true =>
       obtain ⟨vs, e1, e2⟩ := hv;refine ⟨vs, e1, by rw [e2.1]; exact f1.symm, fun i c' hi => ?_⟩;obtain ⟨c, hc, kT⟩ := f2 i c' hi;exact kT _ (e2.2 i c hc)
     | false =>
       obtain ⟨c, e1, e2⟩ := hv;simp only at e1 f1 f2;subst e1;obtain ⟨c', ix⟩ : ∃ c', c1 = [c'] := List.length_eq_one_iff.1 (by simpa using f1);refine ⟨c', ix, ?_⟩;obtain ⟨c0, hG, kT⟩ := f2 0 c' (by rw [ix]; rfl);simp at hG;subst hG;exact kT _ e2
   | succ j => simpa using g2 j q' (by simpa using hj)
theorem A2 {s : dv} {v v' : V} {kk : Nat} {l : List (Nat × av)} {x : Value} (h : qh s v kk = (v', l)) (hl : ∀ p ∈ l, D' p.1 ∧ (ρ' p.1).1 = .slice none 0 0) (hv : RV H ρ D v x) : RV H ρ' D' v' x := by
 unfold qh at h
 split at h
 · rename_i s c;cases h1 : tg s c kk with
   | mk c1 l1 =>
   simp only [h1, Prod.mk.injEq] at h;obtain ⟨rfl, rfl⟩ := h;exact FC hg h1 hl hv
 · rename_i ss cs;cases h1 : nK ss cs kk with
   | mk c1 l1 =>
   simp only [h1, Prod.mk.injEq] at h;obtain ⟨rfl, rfl⟩ := h;obtain ⟨f1, f2⟩ := A1 hg h1 hl;obtain ⟨vs, e1, e2⟩ := hv;refine ⟨vs, e1, by rw [e2.1]; exact f1.symm, fun i c' hi => ?_⟩;obtain ⟨c, hc, kT⟩ := f2 i c' hi;exact kT _ (e2.2 i c hc)
 · rename_i ps qs;cases h1 : qg ps qs kk with
   | mk c1 l1 =>
   simp only [h1, Prod.mk.injEq] at h;obtain ⟨rfl, rfl⟩ := h;obtain ⟨f1, f2⟩ := FD hg h1 hl;obtain ⟨vs, e1, e2, e3⟩ := hv;refine ⟨vs, e1, by rw [e2, f1], fun i q' hi => ?_⟩;obtain ⟨q, hq, LZ⟩ := f2 i q' hi;exact LZ _ (e3 i q hq)
 · cases h;exact hv.grow ⟨fun _ _ h => h, hg⟩
end
section
variable {P : Program} {tab : bj} (hT : eW P tab = true) {Γ : Ctx} {H : Hp} {ρ : aL} {σ : SS} {a : Act} {w : World} (r : aM Γ H ρ σ a w)
include hT r
omit hT r in
theorem A3 {kp : List (Nat × dV)} {l : List (Nat × Nat)} : ∀ p ∈ kp, (p.1, p.1) ∈ hX (hO kp) l := by
 induction kp with
 | nil => intro p hp; cases hp
 | cons q kp ih =>
   intro p hp;rcases List.mem_cons.1 hp with rfl | hp
   · exact List.mem_cons_self
   · exact List.mem_cons_of_mem _ (ih p hp)
theorem L0 (bN : Γ.hd = []) {fn : Func} {s : dv} {kp : List (Nat × dV)} (h : vf tab fn.results.toList s kp σ) :
   ∃ v, (results fn a.tmps).run P w = .ok v w ∧ ∃ H' ρ', fM w.heap Γ.H0 H' ρ' (iS s kp) ∧ RV fv ρ' (ax (iS s kp)) (mN s) v ∧ ∀ p ∈ kp, ax σ.ai p.1 → (ρ' p.1).1 = (ρ p.1).1 := by
 unfold vf at h
 split at h
 · rename_i rv qU;obtain ⟨v, hv, vg⟩ := w5 hT r qU;cases hm : qh s rv 9000000 with
   | mk vh l =>
   rw [hm] at h;simp only at h
   split at h
   · rename_i bs oV
     split at h
     · rename_i out vi
       split at h
       · rename_i hc;obtain ⟨ku, vj, fc⟩ := hc;obtain ⟨ρ1, r1, f1, f2⟩ := r.closeAll bN (ks := σ.ai.map (·.1));obtain ⟨ρ2, r2, f3, f4⟩ := aM.lZ (σ := { σ with ai := Go.Proofs.YticeaiiffeccmaaGreat.closeAll (σ.ai.map (·.1)) σ.ai }) r1 oV
         have hg : ∀ k, ax σ.ai k → ax bs k ∧ (ρ2 k).1 = (ρ k).1 := fun k hk => by
           obtain ⟨q1, q2⟩ := f3 k (by show ax (Go.Proofs.YticeaiiffeccmaaGreat.closeAll (σ.ai.map (·.1)) σ.ai) k; rw [f2]; exact hk);exact ⟨q1, by rw [q2, f1]⟩
         have mP := A2 hg hm f4 hv;obtain ⟨rb, vk, fX⟩ := fM.ik vi ku vj r2.b;have vl := mP.dP vk;obtain ⟨vm, nB, iO⟩ := oW h;obtain ⟨_, vn⟩ := xU vm;have kb : ax (iS s kp) = ax out := by funext k; simp only [ax, nB]
         refine ⟨v, vg, H, _, rb.as nB iO, ?_, fun p hp => ?_⟩
         · rw [kb];exact vn (vl.cl fc)
         · have de := A3 (l := gL (eK vh) 100) p hp;obtain ⟨q1, q2⟩ := fX _ _ de;intro hd;show (ρ2 (inv _ p.1)).1 = _;rw [q2, (hg _ hd).2]
       · cases h
     · cases h
   · cases h
 · cases h
end
def k8 : List (Nat × ar) → Prop
 | [] => True
 | (_, .own E t _) :: r => ((t ()).length ≤ cE ∧ ∀ x ∈ t (), deep E x) ∧ k8 r
 | (_, .box cs) :: r => xO cs ∧ k8 r
 | _ :: r => k8 r
theorem A4 {h : Array Obj} {H : Hp} {ρ : aL} {D : Nat → Prop} : ∀ {bs : List (Nat × ar)}, (∀ k B, (k, B) ∈ bs → cQ h H ρ D B (ρ k)) → k8 bs := by
 intro bs
 induction bs with
 | nil => intro _; trivial
 | cons p bs ih =>
   intro hb;have h1 := ih fun k B hk => hb k B (List.mem_cons_of_mem _ hk);have h2 := hb p.1 p.2 List.mem_cons_self;obtain ⟨k, B⟩ := p;cases B with
   | dead => exact h1
   | view E xs => exact h1
   | mp m => exact h1
   | ca E xs i fs => exact h1
   | own E t l =>
     have h3 : bq h (.list E t) (ρ k).1 (ρ k).2 := h2;exact ⟨(h3.rl (H := fun b => h[b]?) fun _ _ => rfl).ok, h1⟩
   | box cs =>
     obtain ⟨b, vs, e, fz, _, _, _, _, h4⟩ := h2;exact ⟨cU.ok (f := fun j => vs.getD j Go.undef) h4.2, h1⟩
def nL (as : List V) (bs : List (Nat × ar)) (n : Nat) : SS := { env := as ++ List.replicate (n - as.length) (.c .undef), ai := bs }
def oX (P : Program) (tab : bj) (fr : Bool) (fn : Func) (c : Code) (as : List V) (bs : List (Nat × ar)) (pk : List Nat) (F : SS → Prop) : Prop :=
 lX P tab fr pk c (nL as bs fn.ntmps) fun e σ => match e with
  | .normal => F σ
  | .ret => F σ
  | _ => False
def xV (tab : bj) (rs : List ResultVar) (X : Type) (φ : X → Prop) (s : X → dv) (kp : X → List (Nat × dV)) (σ : SS) : Prop := ∃ x : X, φ x ∧ vf tab rs (s x) (kp x) σ
theorem L1 {bs : List (Nat × ar)} {k : Nat} (h : ax bs k) : ∃ B, (k, B) ∈ bs := by
 obtain ⟨⟨k', B⟩, h1, rfl⟩ := List.mem_map.1 h;exact ⟨B, h1⟩
theorem L2 {P : Program} {tab : bj} (hT : eW P tab = true) {f : FuncId} {fn : Func} {c : Code} (hf : P.funcs[f]? = some fn) (hb : fn.body = some c) (hF : (fn.name == "runtime.NumGoroutine") = false) {fr : Bool} (eO : fr = true → fW c = true)
  {as : List V} {bs : List (Nat × ar)} {X : Type} {φ : X → Prop} {s : X → dv} {kp : X → List (Nat × dV)} {pk : List Nat} (jq : ∀ x, (kp x).map (·.1) = pk) (jt : pk.all (fun k => (bs.map (·.1)).contains k) = true)
  (aR : (bs.map (·.1)).all (fun k => decide (k < 100)) = true)
  (h : jQ as → k8 bs → oX P tab fr fn c as bs pk (xV tab fn.results.toList X φ s kp)) : cB P f as bs fun r b => ∃ x, φ x ∧ r = mN (s x) ∧ b = iS (s x) (kp x) := by
 refine ⟨⟨fn, hf, hF, by rw [hb]; rfl⟩, fun w vs ρ qj dO => ?_⟩;refine calls_of_wp hf hb ?_
 have vo : ∀ k ∈ pk, ax bs k := fun k hk => by
  have := List.all_eq_true.1 jt k hk;have : k ∈ bs.map (·.1) := List.contains_iff_mem.1 this;exact this
 let Γ : Ctx := ⟨fD w (aS ρ bs), [], w, pk.map fun k => (k, (ρ k).1)⟩
 have r : Rel Γ (nL as bs fn.ntmps) { tmps := vs ++ Array.replicate (fn.ntmps - vs.size) Go.undef, defers := [] } w := by
  refine ⟨fD w (aS ρ bs), ρ, ⟨qj, ⟨by simp [nL, dO.1], fun j c hj => ?_⟩, rfl, Ext.refl _, (fun p hp => by cases hp), fun p hp => ?_⟩⟩
  · simp only [nL] at hj;rcases Nat.lt_or_ge j as.length with aR | gK
    · rw [List.getElem?_append_left aR] at hj;have := dO.2 j c hj;rw [Array.getD_eq_getD_getElem?, Array.getElem?_append_left (by rw [dO.1]; exact aR), ← Array.getD_eq_getD_getElem?];exact this
    · rw [List.getElem?_append_right gK, List.getElem?_replicate] at hj
      split at hj
      · cases hj; trivial
      · cases hj
  · obtain ⟨k, hk, rfl⟩ := List.mem_map.1 hp;exact ⟨vo k hk, rfl⟩
 refine xL hT rfl (pk := pk) (fun p hp => by obtain ⟨k, hk, rfl⟩ := List.mem_map.1 hp; exact hk) c eO (h (xP dO.2) (A4 fun k B hk => qj.ai k B hk)) r fun e aD a' w' h' r' => ?_
 have done : xV tab fn.results.toList X φ s kp aD → ∃ v, (results fn a'.tmps).run P w' = .ok v w' ∧ ∃ v' r cf H' ρ', Ending.returned v = .returned v' ∧ (∃ x, φ x ∧ r = mN (s x) ∧ cf = iS (s x) (kp x)) ∧ fM w'.heap (fD w (aS ρ bs)) H' ρ' cf ∧
    RV fv ρ' (ax cf) r v' ∧ Ext w w' ∧ ∀ k, ax cf k → ax bs k → (ρ' k).1 = (ρ k).1 := fun hf => by
  obtain ⟨x, hx, hf⟩ := hf;obtain ⟨H, ρ1, r'⟩ := r';obtain ⟨v, h1, H', ρ', h2, h3, h4⟩ := L0 hT r' rfl (fn := fn) hf;refine ⟨v, h1, v, _, _, H', ρ', rfl, ⟨x, hx, rfl, rfl⟩, h2, h3, r'.n, fun k hk oH => ?_⟩
  have de : ∃ q ∈ kp x, q.1 = k := by
    have bC : k ∈ (iS (s x) (kp x)).map (·.1) := hk
    have L3 : k < 100 := by
      have := List.all_eq_true.1 aR k oH;simpa using this
    have key : ∀ (l : List (Nat × dV)) (m : List (Nat × ar)), k ∈ (tf (iQ l) m).map (·.1) → (∃ q ∈ l, q.1 = k) ∨ k ∈ m.map (·.1) := by
      intro l m
      induction l with
      | nil => intro h; exact .inr h
      | cons q l ih =>
        intro h;simp only [iQ, tf, List.map_cons, List.mem_cons] at h;rcases h with h | h
        · exact .inl ⟨q, List.mem_cons_self, h.symm⟩
        · rcases ih h with ⟨q', h1, h2⟩ | h1
          · exact .inl ⟨q', List.mem_cons_of_mem _ h1, h2⟩
          · exact .inr h1
    rcases key _ _ bC with h | h
    · exact h
    · have : ax (num 100 (s x).bs) k := h;have := nr.1 this;omega
  obtain ⟨q, hq, rfl⟩ := de;have vp : q.1 ∈ pk := by rw [← jq x]; exact List.mem_map.2 ⟨q, hq, rfl⟩
  have qk := r'.hm (q.1, (ρ q.1).1) (List.mem_map.2 ⟨q.1, vp, rfl⟩);rw [h4 q hq qk.1];exact qk.2
 have mM : a'.defers = [] := by obtain ⟨H, ρ, r'⟩ := r'; exact r'.d
 cases e with
 | normal => obtain ⟨v, h1, h2⟩ := done h'; exact ⟨mM, v, h1, h2⟩
 | ret => obtain ⟨v, h1, h2⟩ := done h'; exact ⟨mM, v, h1, h2⟩
 | exit id => cases h'
 | goto l => cases h'
 | panic ch => cases h'
 | outgrown => cases h'
def cV (s : dv) (kp : List (Nat × dV)) (r : V) (b : List (Nat × ar)) : Prop := r = mN s ∧ b = iS s kp
theorem dW {P : Program} {tab : bj} (hT : eW P tab = true) {f : FuncId} {fn : Func} {c : Code} (hf : P.funcs[f]? = some fn) (hb : fn.body = some c) (hF : (fn.name == "runtime.NumGoroutine") = false) {fr : Bool} (eO : fr = true → fW c = true)
  {as : List V} {bs : List (Nat × ar)} {s : dv} {kp : List (Nat × dV)} (jt : (kp.map (·.1)).all (fun k => (bs.map (·.1)).contains k) = true) (aR : (bs.map (·.1)).all (fun k => decide (k < 100)) = true)
  (h : ∀ P', P' = P → jQ as → k8 bs → oX P' tab fr fn c as bs (kp.map (·.1)) (vf tab fn.results.toList s kp)) : cB P f as bs (cV s kp) := by
 have h1 : jQ as → k8 bs → oX P tab fr fn c as bs (kp.map (·.1)) (xV tab fn.results.toList Unit (fun _ => True) (fun _ => s) (fun _ => kp)) := by
  intro hA hB;have h0 := h P rfl hA hB
  have e : xV tab fn.results.toList Unit (fun _ => True) (fun _ => s) (fun _ => kp) = vf tab fn.results.toList s kp := by
   funext σ
   exact propext ⟨fun ⟨_, _, h⟩ => h, fun h => ⟨(), trivial, h⟩⟩
  rw [e]; exact h0
 have h2 := L2 hT hf hb hF eO (X := Unit) (φ := fun _ => True) (s := fun _ => s) (kp := fun _ => kp) (pk := kp.map (·.1)) (fun _ => rfl) jt aR h1;refine ⟨h2.1, fun w vs ρ g1 g2 => (h2.2 w vs ρ g1 g2).mono fun e w' he => ?_⟩;obtain ⟨v, r, cf, H', ρ', q1, ⟨_, _, q2, q3⟩, q4⟩ := he;exact ⟨v, r, cf, H', ρ', q1, ⟨q2, q3⟩, q4⟩
theorem bB.by {P P0 : Program} {f : FuncId} {as : List V} {bs : List (Nat × ar)} {K : V → List (Nat × ar) → Prop} {s : dv} {kp : List (Nat × dV)} (hP : P = P0) (h : cB P0 f as bs (cV s kp)) (hk : K (mN s) (iS s kp)) : bB P f as bs K := by
 subst hP;exact ⟨_, h, fun r b ⟨h1, h2⟩ => by rw [h1, h2]; exact hk⟩
theorem bB.dL {P P0 : Program} {f : FuncId} {as ve : List V} {bs cf : List (Nat × ar)} {K : V → List (Nat × ar) → Prop} {s : dv} {kp : List (Nat × dV)} (hP : P = P0) (h : cB P0 f as bs (cV s kp)) (ha : ve = as) (hb : cf = bs) (hk : K (mN s) (iS s kp)) : bB P f ve cf K := by
 subst ha; subst hb;exact bB.by hP h hk
def FE : List (Nat × V) → Nat → V
 | [], _ => .c .undef
 | p :: r, j => if p.1 = j then p.2 else FE r j
def xW (sl : List (Nat × V)) : Nat → Nat → List V
 | _, 0 => []
 | j, n + 1 => FE sl j :: xW sl (j + 1) n
def tj : List V → List V → Prop → Prop
 | [], [], K => K
 | v :: vs, w :: ws, K => match w with
   | .c .undef => tj vs ws K
   | w => mV v w (tj vs ws K)
 | _, _, _ => False
def FF : C → C → List (Nat × Nat)
 | .own k, .own k' => [(k, k')]
 | .ptr k _, .ptr k' _ => [(k, k')]
 | _, _ => []
def A5 : List C → List C → List (Nat × Nat)
 | c :: cs, d :: ds => FF c d ++ A5 cs ds
 | _, _ => []
def L4 : V → V → List (Nat × Nat)
 | .c x, .c y => FF x y
 | .agg xs, .agg ys => A5 xs ys
 | _, _ => []
def A6 : List V → List V → List (Nat × Nat)
 | v :: vs, w :: ws => L4 v w ++ A6 vs ws
 | _, _ => []
def FG (bs tb : List (Nat × ar)) : List (Nat × Nat) → List (Nat × Nat)
 | [] => []
 | p :: r => (match aQ bs p.1, aQ tb p.2 with | some (.box cs), some (.box ds) => A5 cs ds | _, _ => []) ++ FG bs tb r
def FH (tb : List (Nat × ar)) : Nat → List V → List V → List p7
 | j, v :: vs, w :: ws => (match v, w with
   | .c .nil, .c (.own k) => (match aQ tb k with | some (.own E _ _) => [.env j E (9000000 + k)] | _ => [])
   | _, _ => []) ++ FH tb (j + 1) vs ws
 | _, _, _ => []
def FI (tb : List (Nat × ar)) (bk : Nat) : Nat → List C → List C → List p7
 | j, c :: cs, d :: ds => (match c, d with
   | .nil, .own k => (match aQ tb k with | some (.own E _ _) => [.box bk j E (9000000 + k)] | _ => [])
   | _, _ => []) ++ FI tb bk (j + 1) cs ds
 | _, _, _ => []
def FJ (bs tb : List (Nat × ar)) : List (Nat × Nat) → List p7
 | [] => []
 | p :: r => (match aQ bs p.1, aQ tb p.2 with | some (.box cs), some (.box ds) => FI tb p.1 0 cs ds | _, _ => []) ++ FJ bs tb r
def FK : List (Nat × Nat) → Nat → Option Nat
 | [], _ => none
 | p :: r, k => if p.2 = k then some p.1 else FK r k
def A7 (pr : List (Nat × Nat)) : List (Nat × ar) → List (Nat × Nat)
 | [] => []
 | q :: r => match FK pr q.1 with | some k => (k, q.1) :: A7 pr r | none => A7 pr r
def A8 : Nat → List V → List Nat
 | _, [] => []
 | j, v :: vs => match v with | .c .undef => A8 (j + 1) vs | _ => j :: A8 (j + 1) vs
def L5 (σ τ : SS) : Norm :=
 let ms := FH τ.ai 0 σ.env τ.env ++ FJ σ.ai τ.ai (A6 σ.env τ.env)
 match σ.oP ms with
 | some dK =>
   let p1 := A6 dK.env τ.env
   { ms := ms, L := A8 0 τ.env, nm := A7 (p1 ++ FG dK.ai τ.ai p1) τ.ai }
 | none => { ms := [], L := [], nm := [] }
def tn : List (Nat × ar) → List (Nat × ar) → Prop → Prop
 | [], [], K => K
 | p :: ps, q :: qs, K =>
   if p.1 = q.1 then
    match p.2, q.2 with
    | .ca E' t i' pU, .ca E x i fs => jw (fun _ => ar.ca E' t i' pU = ar.ca E x i fs) (tn ps qs K)
    | B, B' => mO [(p.1, B)] [(p.1, B')] (tn ps qs K)
   else False
 | _, _, _ => False
theorem FL : ∀ {ps qs : List (Nat × ar)} {K : Prop}, tn ps qs K → K ∧ qs.map (·.1) = ps.map (·.1) ∧ ∀ k B', (k, B') ∈ qs → ∃ B, (k, B) ∈ ps ∧
   (∀ {h : Array Obj} {H : Hp} {ρ : aL} {D : Nat → Prop} {p : Value × (Nat → Nat)}, cQ h H ρ D B p → cQ h H ρ D B' p) ∧ ∀ (p : Value × (Nat → Nat)) x, fL B' p x → fL B p x
 | [], [], K, h => ⟨h, rfl, fun k B' hk => by cases hk⟩
 | [], _ :: _, K, h => by cases h
 | _ :: _, [], K, h => by cases h
 | (k, A) :: ps, (k', A') :: qs, K, h => by
   have fin : ∀ (h : tn ps qs K), (∀ {h : Array Obj} {H : Hp} {ρ : aL} {D : Nat → Prop} {p : Value × (Nat → Nat)}, cQ h H ρ D A p → cQ h H ρ D A' p) → (∀ (p : Value × (Nat → Nat)) x, fL A' p x → fL A p x) → k = k' →
       K ∧ ((k', A') :: qs).map (·.1) = ((k, A) :: ps).map (·.1) ∧ ∀ j B', (j, B') ∈ (k', A') :: qs → ∃ B, (j, B) ∈ (k, A) :: ps ∧
   (∀ {h : Array Obj} {H : Hp} {ρ : aL} {D : Nat → Prop} {p : Value × (Nat → Nat)}, cQ h H ρ D B p → cQ h H ρ D B' p) ∧ ∀ (p : Value × (Nat → Nat)) x, fL B' p x → fL B p x := fun hh g1 g2 hk => by
     obtain ⟨h2, h3, h4⟩ := FL hh;clear h;subst hk;refine ⟨h2, by simp [h3], fun j B' hj => ?_⟩;rcases List.mem_cons.1 hj with hj | hj
     · cases hj; exact ⟨_, List.mem_cons_self, g1, g2⟩
     · obtain ⟨B, q1, q2⟩ := h4 j B' hj; exact ⟨B, List.mem_cons_of_mem _ q1, q2⟩
   unfold tn at h
   split at h
   · rename_i hk
     split at h
     · rename_i FM FN;obtain ⟨h1, h⟩ := h;simp only at FM FN;subst FM FN;rw [h1] at fin ⊢;exact fin h (fun h => h) (fun _ _ h => h) hk
     · obtain ⟨h, h2, h3⟩ := oW h;obtain ⟨B, g1, g2, g3⟩ := h3 k A' List.mem_cons_self;cases List.mem_singleton.1 g1;exact fin h g2 g3 hk
   · cases h
def xX (pk : List Nat) (σ τ : SS) : Prop :=
 match σ.norm pk (L5 σ τ) with
 | some aD => tj aD.env τ.env (tn aD.ai τ.ai True)
 | none => False
theorem FO : ∀ {vs ws : List V} {K : Prop}, tj vs ws K → K ∧ vs.length = ws.length ∧ ∀ {H : Hp} {ρ : aL} {D : Nat → Prop} {j : Nat} {w : V}, ws[j]? = some w → ∃ v, vs[j]? = some v ∧ ∀ {x : Value}, RV H ρ D v x → RV H ρ D w x
 | [], [], K, h => ⟨h, rfl, fun hj => by simp at hj⟩
 | [], _ :: _, K, h => by cases h
 | _ :: _, [], K, h => by cases h
 | v :: vs, w :: ws, K, h => by
   have step : ∀ {K' : Prop}, tj vs ws K → (∀ {H : Hp} {ρ : aL} {D : Nat → Prop} {x : Value}, RV H ρ D v x → RV H ρ D w x) →
      K ∧ (v :: vs).length = (w :: ws).length ∧ ∀ {H : Hp} {ρ : aL} {D : Nat → Prop} {j : Nat} {w' : V}, (w :: ws)[j]? = some w' → ∃ v', (v :: vs)[j]? = some v' ∧ ∀ {x : Value}, RV H ρ D v' x → RV H ρ D w' x := by
     intro _ h1 h2;obtain ⟨h3, h4, h5⟩ := FO h1;refine ⟨h3, by simp [h4], fun {H ρ D j e} hj => ?_⟩;cases j with
     | zero => simp at hj; subst hj; exact ⟨v, rfl, h2⟩
     | succ j => simpa using h5 (by simpa using hj)
   simp only [tj] at h
   split at h
   · exact step (K' := True) h fun _ => trivial
   · obtain ⟨h1, h2⟩ := xU h;exact step (K' := True) h1 h2
theorem FP {pk : List Nat} {σ τ : SS} (h : xX pk σ τ) : Sub pk σ τ := by
 intro Γ a w bN jq r;unfold xX at h
 split at h
 · rename_i aD hn;obtain ⟨H, ρ, r'⟩ := r.norm bN jq hn;obtain ⟨h1, h2, h3⟩ := FO h;obtain ⟨_, h4, h5⟩ := FL h1;have kb : ax τ.ai = ax aD.ai := by funext k; simp only [ax, h4]
   refine ⟨H, ρ, r'.b.as h4 h5, ⟨by rw [r'.e.size, h2], fun j c hj => ?_⟩, r'.d, r'.n, fun p hp => ?_, fun p hp => ?_⟩
   · rw [kb];obtain ⟨v, hv, hi⟩ := h3 hj;exact hi (r'.e.get j v hv)
   · rw [kb]; exact r'.hd p hp
   · rw [kb]; exact r'.hm p hp
 · cases h
theorem aU.by {pk : List Nat} {σ : SS} {R : SS → (SS → Prop) → Prop} {X : Type} (sl : X → List (Nat × V)) (bl : X → List (Nat × ar)) (φ : X → Prop) (m : X → Unit → Nat) (x0 : X) (h0 : φ x0)
  (hn : xX pk σ { env := xW (sl x0) 0 σ.env.length, ai := bl x0 })
  (hr : ∀ x, φ x → R { env := xW (sl x) 0 σ.env.length, ai := bl x } fun aD => aP pk X (fun x => { env := xW (sl x) 0 σ.env.length, ai := bl x }) φ m (m x) aD) : aU pk σ R :=
 ⟨X, _, φ, m, x0, h0, FP hn, hr⟩
theorem aP.by {pk : List Nat} {X : Type} {st : X → SS} {φ : X → Prop} {m : X → Unit → Nat} {n : Unit → Nat} {σ : SS} (x : X) (hm : m x () < n ()) (EP : φ x) (hn : xX pk σ (st x)) : aP pk X st φ m n σ := ⟨x, hm, EP, FP hn⟩
def ql (m : List (Nat × Nat)) : List (Bool × List C) → List (Bool × List C)
 | [] => []
 | p :: r => (p.1, lU m p.2) :: ql m r
def V.qm (m : List (Nat × Nat)) : V → V
 | .aT ps => .aT (ql m ps)
 | v => v.dP m
section
variable {H : Hp} {ρ ρ' : aL} {D D' : Nat → Prop} {m : List (Nat × Nat)}
theorem FQ : ∀ {cs : List (Bool × List C)} {j : Nat} {p : Bool × List C}, (ql m cs)[j]? = some p → ∃ p0, cs[j]? = some p0 ∧ p = (p0.1, lU m p0.2)
 | [], j, p, h => by simp [ql] at h
 | c0 :: cs, 0, p, h => by simp [ql] at h; exact ⟨c0, rfl, h.symm⟩
 | c0 :: cs, j + 1, p, h => by simp only [ql, List.getElem?_cons_succ] at h ⊢; exact FQ h
theorem FR : ∀ {cs : List (Bool × List C)}, (ql m cs).length = cs.length
 | [] => rfl
 | c :: cs => by simp [ql, FR (cs := cs)]
theorem RV.qm (hm : ∀ k k', lk m k = some k' → D' k' ∧ (ρ' k').1 = (ρ k).1) {c : V} {v : Value} (h : RV H ρ D c v) : RV H ρ' D' (c.qm m) v := by
 cases c with
 | c x => exact RV.dP hm (c := .c x) h
 | agg cs => exact RV.dP hm (c := .agg cs) h
 | aT cs =>
   obtain ⟨vs, h1, h2, h3⟩ := h;refine ⟨vs, h1, by rw [h2, FR], fun j p hj => ?_⟩;obtain ⟨p0, g1, rfl⟩ := FQ hj;have h4 := h3 j p0 g1;obtain ⟨b, A9⟩ := p0;cases b with
   | true =>
     obtain ⟨us, q1, q2⟩ := h4;exact ⟨us, q1, q2.dP hm⟩
   | false =>
     obtain ⟨c, q1, q2⟩ := h4;have q1 : A9 = [c] := q1;subst q1;exact ⟨c.dP m, rfl, q2.dP hm⟩
end
def mQ : List Sh → List C → List C
 | [], cs => cs
 | _ :: _, [] => []
 | s :: ss, c :: cs => (match s with | .any => .undef | _ => c) :: mQ ss cs
def qn : List (Bool × List Sh) → List (Bool × List C) → List (Bool × List C)
 | p :: ps, q :: qs => (q.1, mQ p.2 q.2) :: qn ps qs
 | _, qs => qs
def xY (s : dv) (v : V) : V :=
 match s, v with
 | .aT ps, .aT qs => .aT (qn ps qs)
 | _, v => v
section
variable {H : Hp} {ρ : aL} {D : Nat → Prop}
theorem FT : ∀ {ss : List Sh} {cs : List C}, (mQ ss cs).length = cs.length
 | [], cs => rfl
 | _ :: _, [] => rfl
 | s :: ss, c :: cs => by simp [mQ, FT (ss := ss) (cs := cs)]
theorem FU : ∀ {ss : List Sh} {cs : List C} {j : Nat} {c : C}, (mQ ss cs)[j]? = some c → ∃ c0, cs[j]? = some c0 ∧ (c = c0 ∨ c = .undef)
 | [], cs, j, c, h => ⟨c, h, .inl rfl⟩
 | _ :: _, [], j, c, h => by simp [mQ] at h
 | s :: ss, c0 :: cs, 0, c, h => by
   simp only [mQ, List.getElem?_cons_zero, Option.some.injEq] at h;refine ⟨c0, rfl, ?_⟩;subst h
   split
   · exact .inr rfl
   · exact .inl rfl
 | s :: ss, c0 :: cs, j + 1, c, h => by
   simp only [mQ, List.getElem?_cons_succ] at h ⊢;exact FU h
theorem FV : ∀ {ps : List (Bool × List Sh)} {qs : List (Bool × List C)}, (qn ps qs).length = qs.length
 | [], qs => by cases qs <;> rfl
 | _ :: _, [] => rfl
 | p :: ps, q :: qs => by simp [qn, FV (ps := ps) (qs := qs)]
theorem FW : ∀ {ps : List (Bool × List Sh)} {qs : List (Bool × List C)} {j : Nat} {q : Bool × List C}, (qn ps qs)[j]? = some q → ∃ q0 ss, qs[j]? = some q0 ∧ (q = q0 ∨ q = (q0.1, mQ ss q0.2))
 | [], qs, j, q, h => ⟨q, [], by cases qs <;> exact h, .inl rfl⟩
 | _ :: _, [], j, q, h => by simp [qn] at h
 | p :: ps, q0 :: qs, 0, q, h => by
   simp only [qn, List.getElem?_cons_zero, Option.some.injEq] at h;exact ⟨q0, p.2, rfl, .inr h.symm⟩
 | p :: ps, q0 :: qs, j + 1, q, h => by
   simp only [qn, List.getElem?_cons_succ] at h ⊢;exact FW h
theorem cU.mask {ss : List Sh} {cs : List C} {vs : Array Value} (h : cU H ρ D cs vs) : cU H ρ D (mQ ss cs) vs := by
 refine ⟨by rw [FT]; exact h.1, fun j c hj => ?_⟩;obtain ⟨c0, h1, h2⟩ := FU hj;rcases h2 with rfl | rfl
 · exact h.2 j _ h1
 · trivial
theorem RV.mask {s : dv} {c : V} {v : Value} (h : RV H ρ D c v) : RV H ρ D (xY s c) v := by
 unfold xY
 split
 · rename_i ps qs;obtain ⟨vs, h1, h2, h3⟩ := h;refine ⟨vs, h1, by rw [h2, FV], fun j q hj => ?_⟩;obtain ⟨q0, ss, g1, g2⟩ := FW hj;have h4 := h3 j q0 g1;rcases g2 with rfl | rfl
   · exact h4
   · obtain ⟨b, A9⟩ := q0;cases b with
     | true =>
       obtain ⟨us, q1, q2⟩ := h4;exact ⟨us, q1, q2.mask⟩
     | false =>
       obtain ⟨c, q1, q2⟩ := h4;have q1 : A9 = [c] := q1;subst q1;cases ss with
       | nil => exact ⟨c, rfl, q2⟩
       | cons s ss =>
         refine ⟨_, by simp only [mQ]; cases ss <;> rfl, ?_⟩
         split
         · trivial
         · exact q2
 · exact h
end
def vq (tab : bj) (rs : List ResultVar) (s : dv) (kp : List (Nat × dV)) (σ : SS) : Prop :=
 match sA tab σ rs with
 | some r0 =>
   match qh s (xY s r0) 9000000 with
   | (r', l) =>
     match lZ l (closeAll (σ.ai.map (·.1)) σ.ai) with
     | some bs =>
       match nF bs (hX (hO kp) (gL (eK r') 100)) (hX (hO kp) (gL (eK r') 100)) with
       | some out =>
         if eB ((hX (hO kp) (gL (eK r') 100)).map (·.1)) = true ∧ eB ((hX (hO kp) (gL (eK r') 100)).map (·.2)) = true ∧ (r'.qm (hX (hO kp) (gL (eK r') 100))).cl = true then
          mO out (iS s kp) (mV (r'.qm (hX (hO kp) (gL (eK r') 100))) (mN s) True)
         else False
       | none => False
     | none => False
 | none => False
section
variable {P : Program} {tab : bj} (hT : eW P tab = true) {Γ : Ctx} {H : Hp} {ρ : aL} {σ : SS} {a : Act} {w : World} (r : aM Γ H ρ σ a w)
include hT r
theorem L6 (bN : Γ.hd = []) {fn : Func} {s : dv} {kp : List (Nat × dV)} (h : vq tab fn.results.toList s kp σ) :
   ∃ v, (results fn a.tmps).run P w = .ok v w ∧ ∃ H' ρ', fM w.heap Γ.H0 H' ρ' (iS s kp) ∧ RV fv ρ' (ax (iS s kp)) (mN s) v ∧ ∀ p ∈ kp, ax σ.ai p.1 → (ρ' p.1).1 = (ρ p.1).1 := by
 unfold vq at h
 split at h
 · rename_i rv qU;obtain ⟨v, hv, vg⟩ := w5 hT r qU;cases hm : qh s (xY s rv) 9000000 with
   | mk vh l =>
   rw [hm] at h;simp only at h
   split at h
   · rename_i bs oV
     split at h
     · rename_i out vi
       split at h
       · rename_i hc;obtain ⟨ku, vj, fc⟩ := hc;obtain ⟨ρ1, r1, f1, f2⟩ := r.closeAll bN (ks := σ.ai.map (·.1));obtain ⟨ρ2, r2, f3, f4⟩ := aM.lZ (σ := { σ with ai := Go.Proofs.YticeaiiffeccmaaGreat.closeAll (σ.ai.map (·.1)) σ.ai }) r1 oV
         have hg : ∀ k, ax σ.ai k → ax bs k ∧ (ρ2 k).1 = (ρ k).1 := fun k hk => by
           obtain ⟨q1, q2⟩ := f3 k (by show ax (Go.Proofs.YticeaiiffeccmaaGreat.closeAll (σ.ai.map (·.1)) σ.ai) k; rw [f2]; exact hk);exact ⟨q1, by rw [q2, f1]⟩
         have mP := A2 hg hm f4 (RV.mask (s := s) hv);obtain ⟨rb, vk, fX⟩ := fM.ik vi ku vj r2.b;have vl := RV.qm vk mP;obtain ⟨vm, nB, iO⟩ := oW h;obtain ⟨_, vn⟩ := xU vm;have kb : ax (iS s kp) = ax out := by funext k; simp only [ax, nB]
         refine ⟨v, vg, H, _, rb.as nB iO, ?_, fun p hp => ?_⟩
         · rw [kb];exact vn (vl.cl fc)
         · have de := A3 (l := gL (eK vh) 100) p hp;obtain ⟨q1, q2⟩ := fX _ _ de;intro hd;show (ρ2 (inv _ p.1)).1 = _;rw [q2, (hg _ hd).2]
       · cases h
     · cases h
   · cases h
 · cases h
end
def xZ (tab : bj) (rs : List ResultVar) (X : Type) (φ : X → Prop) (s : X → dv) (kp : X → List (Nat × dV)) (σ : SS) : Prop := ∃ x : X, φ x ∧ vq tab rs (s x) (kp x) σ
theorem L7 {P : Program} {tab : bj} (hT : eW P tab = true) {f : FuncId} {fn : Func} {c : Code} (hf : P.funcs[f]? = some fn) (hb : fn.body = some c) (hF : (fn.name == "runtime.NumGoroutine") = false) {fr : Bool} (eO : fr = true → fW c = true)
  {as : List V} {bs : List (Nat × ar)} {X : Type} {φ : X → Prop} {s : X → dv} {kp : X → List (Nat × dV)} {pk : List Nat} (jq : ∀ x, (kp x).map (·.1) = pk) (jt : pk.all (fun k => (bs.map (·.1)).contains k) = true)
  (aR : (bs.map (·.1)).all (fun k => decide (k < 100)) = true)
  (h : jQ as → k8 bs → oX P tab fr fn c as bs pk (xZ tab fn.results.toList X φ s kp)) : cB P f as bs fun r b => ∃ x, φ x ∧ r = mN (s x) ∧ b = iS (s x) (kp x) := by
 refine ⟨⟨fn, hf, hF, by rw [hb]; rfl⟩, fun w vs ρ qj dO => ?_⟩;refine calls_of_wp hf hb ?_
 have vo : ∀ k ∈ pk, ax bs k := fun k hk => by
  have := List.all_eq_true.1 jt k hk;have : k ∈ bs.map (·.1) := List.contains_iff_mem.1 this;exact this
 let Γ : Ctx := ⟨fD w (aS ρ bs), [], w, pk.map fun k => (k, (ρ k).1)⟩
 have r : Rel Γ (nL as bs fn.ntmps) { tmps := vs ++ Array.replicate (fn.ntmps - vs.size) Go.undef, defers := [] } w := by
  refine ⟨fD w (aS ρ bs), ρ, ⟨qj, ⟨by simp [nL, dO.1], fun j c hj => ?_⟩, rfl, Ext.refl _, (fun p hp => by cases hp), fun p hp => ?_⟩⟩
  · simp only [nL] at hj;rcases Nat.lt_or_ge j as.length with aR | gK
    · rw [List.getElem?_append_left aR] at hj;have := dO.2 j c hj;rw [Array.getD_eq_getD_getElem?, Array.getElem?_append_left (by rw [dO.1]; exact aR), ← Array.getD_eq_getD_getElem?];exact this
    · rw [List.getElem?_append_right gK, List.getElem?_replicate] at hj
      split at hj
      · cases hj; trivial
      · cases hj
  · obtain ⟨k, hk, rfl⟩ := List.mem_map.1 hp;exact ⟨vo k hk, rfl⟩
 refine xL hT rfl (pk := pk) (fun p hp => by obtain ⟨k, hk, rfl⟩ := List.mem_map.1 hp; exact hk) c eO (h (xP dO.2) (A4 fun k B hk => qj.ai k B hk)) r fun e aD a' w' h' r' => ?_
 have done : xZ tab fn.results.toList X φ s kp aD → ∃ v, (results fn a'.tmps).run P w' = .ok v w' ∧ ∃ v' r cf H' ρ', Ending.returned v = .returned v' ∧ (∃ x, φ x ∧ r = mN (s x) ∧ cf = iS (s x) (kp x)) ∧ fM w'.heap (fD w (aS ρ bs)) H' ρ' cf ∧
    RV fv ρ' (ax cf) r v' ∧ Ext w w' ∧ ∀ k, ax cf k → ax bs k → (ρ' k).1 = (ρ k).1 := fun hf => by
  obtain ⟨x, hx, hf⟩ := hf;obtain ⟨H, ρ1, r'⟩ := r';obtain ⟨v, h1, H', ρ', h2, h3, h4⟩ := L6 hT r' rfl (fn := fn) hf;refine ⟨v, h1, v, _, _, H', ρ', rfl, ⟨x, hx, rfl, rfl⟩, h2, h3, r'.n, fun k hk oH => ?_⟩
  have de : ∃ q ∈ kp x, q.1 = k := by
    have bC : k ∈ (iS (s x) (kp x)).map (·.1) := hk
    have L3 : k < 100 := by
      have := List.all_eq_true.1 aR k oH;simpa using this
    have key : ∀ (l : List (Nat × dV)) (m : List (Nat × ar)), k ∈ (tf (iQ l) m).map (·.1) → (∃ q ∈ l, q.1 = k) ∨ k ∈ m.map (·.1) := by
      intro l m
      induction l with
      | nil => intro h; exact .inr h
      | cons q l ih =>
        intro h;simp only [iQ, tf, List.map_cons, List.mem_cons] at h;rcases h with h | h
        · exact .inl ⟨q, List.mem_cons_self, h.symm⟩
        · rcases ih h with ⟨q', h1, h2⟩ | h1
          · exact .inl ⟨q', List.mem_cons_of_mem _ h1, h2⟩
          · exact .inr h1
    rcases key _ _ bC with h | h
    · exact h
    · have : ax (num 100 (s x).bs) k := h;have := nr.1 this;omega
  obtain ⟨q, hq, rfl⟩ := de;have vp : q.1 ∈ pk := by rw [← jq x]; exact List.mem_map.2 ⟨q, hq, rfl⟩
  have qk := r'.hm (q.1, (ρ q.1).1) (List.mem_map.2 ⟨q.1, vp, rfl⟩);rw [h4 q hq qk.1];exact qk.2
 have mM : a'.defers = [] := by obtain ⟨H, ρ, r'⟩ := r'; exact r'.d
 cases e with
 | normal => obtain ⟨v, h1, h2⟩ := done h'; exact ⟨mM, v, h1, h2⟩
 | ret => obtain ⟨v, h1, h2⟩ := done h'; exact ⟨mM, v, h1, h2⟩
 | exit id => cases h'
 | goto l => cases h'
 | panic ch => cases h'
 | outgrown => cases h'
theorem FX {P : Program} {tab : bj} (hT : eW P tab = true) {f : FuncId} {fn : Func} {c : Code} (hf : P.funcs[f]? = some fn) (hb : fn.body = some c) (hF : (fn.name == "runtime.NumGoroutine") = false) {fr : Bool} (eO : fr = true → fW c = true)
  {as : List V} {bs : List (Nat × ar)} {s : dv} {kp : List (Nat × dV)} (jt : (kp.map (·.1)).all (fun k => (bs.map (·.1)).contains k) = true) (aR : (bs.map (·.1)).all (fun k => decide (k < 100)) = true)
  (h : ∀ P', P' = P → jQ as → k8 bs → oX P' tab fr fn c as bs (kp.map (·.1)) (vq tab fn.results.toList s kp)) : cB P f as bs (cV s kp) := by
 have h1 : jQ as → k8 bs → oX P tab fr fn c as bs (kp.map (·.1)) (xZ tab fn.results.toList Unit (fun _ => True) (fun _ => s) (fun _ => kp)) := by
  intro hA hB;have h0 := h P rfl hA hB
  have e : xZ tab fn.results.toList Unit (fun _ => True) (fun _ => s) (fun _ => kp) = vq tab fn.results.toList s kp := by
   funext σ
   exact propext ⟨fun ⟨_, _, h⟩ => h, fun h => ⟨(), trivial, h⟩⟩
  rw [e]; exact h0
 have h2 := L7 hT hf hb hF eO (X := Unit) (φ := fun _ => True) (s := fun _ => s) (kp := fun _ => kp) (pk := kp.map (·.1)) (fun _ => rfl) jt aR h1;refine ⟨h2.1, fun w vs ρ g1 g2 => (h2.2 w vs ρ g1 g2).mono fun e w' he => ?_⟩;obtain ⟨v, r, cf, H', ρ', q1, ⟨_, _, q2, q3⟩, q4⟩ := he;exact ⟨v, r, cf, H', ρ', q1, ⟨q2, q3⟩, q4⟩
end Go.Proofs.YticeaiiffeccmaaGreat

