/- Parts of a proof. No conditions. -/

import Derived.Test.YtehpbaiclfilaaaGreatG44
import Derived.Test.YtehpbaiclfilaaaGreatG08
set_option linter.unusedSimpArgs false
set_option linter.unusedVariables false
namespace Go.Proofs.YtehpbaiclfilaaaGreat
open Go
set_option maxRecDepth 100000
theorem IU {A B : au × Int × Int → Prop} (a1 a2 a3 a4 a5 a6 a7 a8 a9 oL i h : Int) (H : B (⟨a1, a2, a3, a4, a5, a6, a7, a8, a9, oL⟩, i, h)) (H1 : A (⟨a1, a2, a3, a4, a5, a6, a7, a8, a9, oL⟩, i, h)) : ∃ x, A x ∧ B x := ⟨_, H1, H⟩
theorem PE {A B : Entry × Int × Int → Prop} (a1 a2 a3 a4 i h : Int) (H : B (⟨a1, a2, a3, a4⟩, i, h)) (H1 : A (⟨a1, a2, a3, a4⟩, i, h)) : ∃ x, A x ∧ B x := ⟨_, H1, H⟩
theorem IV {A B : bA × Int × Int → Prop} (a1 a2 a3 a4 a5 i h : Int) (H : B (⟨a1, a2, a3, a4, a5⟩, i, h)) (H1 : A (⟨a1, a2, a3, a4, a5⟩, i, h)) : ∃ x, A x ∧ B x := ⟨_, H1, H⟩
theorem PF {A B : aA × Int × Int → Prop} (a1 a2 i h : Int) (H : B (⟨a1, a2⟩, i, h)) (H1 : A (⟨a1, a2⟩, i, h)) : ∃ x, A x ∧ B x := ⟨_, H1, H⟩
theorem IW {α : Type} {A B : α × Int × Int → Prop} (a : α) (i h : Int) (H : B (a, i, h)) (H1 : A (a, i, h)) : ∃ x, A x ∧ B x := ⟨_, H1, H⟩
theorem eO (code : List UInt8) (i h n : Int) (hi : dI code i) (hc : code.length ≤ aR) : bE Tryz.prog 78 [cP, iA n] (gQ code i h) (db code (fun _ : Bool => True) fun b => bR fun _ => b) := by
 unfold db;refine d_ (pk := [0, 1]) ay Tryz.func78 rfl rfl (fr := true) (fun _ => by kernel_rfl) (fun _ => rfl) rfl rfl fun P hP hA hB => ?_;cbv;refine aB.ex hP (cR code i h n hi hc) fun ⟨x, i2, h2⟩ ⟨_, aq⟩ => ?_;cbv;refine ⟨(x == 0, i2, h2), ⟨trivial, aq⟩, ?_⟩;cbv
 repeat' first | exact trivial | refine ⟨rfl, ?_⟩ | fail
theorem DG {r : bp} (h : rU r) : (1 ≤ r.cm ∧ r.cm ≤ 5) ∧ (1 ≤ r.size ∧ r.size ≤ 6) ∧ (1 ≤ r.ck ∧ r.ck ≤ 4) ∧ (0 ≤ r.rest ∧ r.rest ≤ 3) ∧ (1 ≤ r.tries ∧ r.tries ≤ 4) ∧ (1 ≤ r.ah.length ∧ r.ah.length ≤ 3) := by
 obtain ⟨a, _, b, _, c, d, e, _, f, _⟩ := h;exact ⟨a, b, c, d, e, f⟩
theorem PG (n lo hi : Int) (h : aj n lo hi = true) : Spec Tryz.prog 71 [iA n, iA lo, iA hi] (aE (bR fun _ => true)) := by
 have := da n lo hi
 rwa [h] at this
set_option maxHeartbeats 4000000 in
theorem IX (code : List UInt8) (i h : Int) (hi : dI code i) (hc : code.length ≤ aR) (r : bp) (hr : rU r) (now : Int) (hn : 0 ≤ now ∧ now ≤ 100) : bE Tryz.prog 191 [cP, gu r, iA now] (gQ code i h) (db code (fun _ : au => True) fun p => eR .az fun _ => p) := by
 obtain ⟨b1, b2, b3, b4, b5, b6⟩ := DG hr;unfold db;refine d_ (pk := [0, 1]) ay Tryz.func191 rfl rfl (fr := true) (fun _ => by kernel_rfl) (fun _ => rfl) rfl rfl fun P hP hA hB => ?_;cbv
 repeat' first
  | exact trivial
  | (refine Pz.mk ?_; cbv)
  | (refine ag.by hP (PG now 0 10000000 (by rw [aj, decide_eq_true (by omega), decide_eq_true (by omega)]; rfl)) ?_; cbv)
  | (refine Br.yes (by with_reducible rfl) ?_; cbv)
  | (refine aB.ex hP (cR code _ _ _ (by assumption) hc) ?_; rintro ⟨x, i2, h2⟩ ⟨hx, aq⟩; (try dsimp only at hx aq); cbv)
  | (refine aB.ex hP (eO code _ _ _ (by assumption) hc) ?_; rintro ⟨x, i2, h2⟩ ⟨hx, aq⟩; (try dsimp only at hx aq); cbv)
  | (refine aB.ex hP (eN code _ _ _ (by decide) (by assumption) hc) ?_; rintro ⟨x, i2, h2⟩ ⟨hx, aq⟩; (try dsimp only at hx aq); cbv)
  | (refine Br.yes (by first | assumption | exact decide_eq_true (by assumption)) ?_; cbv)
  | (refine Br.no (by first | assumption | exact decide_eq_false (by assumption)) ?_; cbv)
  | (refine Br.dec (fun hb => ?_) (fun hb => ?_) <;> cbv)
  | (refine Br.split (fun hb => ?_) (fun hb => ?_) <;> cbv)
  | (refine Ar.exact (by omega) (by omega) ?_; cbv)
  | (refine Ix.ex (by omega) (by (try simp only [nc] at *); omega) ?_; intro y; cbv)
  | (refine Ar.any ?_; intro u; cbv)
  | (refine bu.mk ?_ (by kernel_rfl) ?_; rotate_left; cbv; rotate_right) | refine ⟨rfl, ?_⟩ | refine And.intro ?_ ?_ | exact rfl | fail
 all_goals
  apply IU
  · cbv
    (try dsimp only)
    repeat' first | exact trivial | refine ⟨rfl, ?_⟩ | fail
  · exact ⟨trivial, by assumption⟩
set_option maxHeartbeats 4000000 in
theorem PH (code : List UInt8) (i h : Int) (hi : dI code i) (hc : code.length ≤ aR) (r : bp) (hr : rU r) (now : Int) (hn : 0 ≤ now ∧ now ≤ 100) : bE Tryz.prog 136 [cP, gu r, iA now] (gQ code i h) (db code (fun _ : au => True) fun p => eR .az fun _ => p) := by
 obtain ⟨b1, b2, b3, b4, b5, b6⟩ := DG hr;have hs : r.ah.length ≤ aR := Nat.le_trans b6.2 (by decide);unfold db;refine d_ (pk := [0, 1]) ay Tryz.func136 rfl rfl (fr := true) (fun _ => by kernel_rfl) (fun _ => rfl) rfl rfl fun P hP hA hB => ?_;cbv
 repeat' first
  | exact trivial
  | (refine Pz.mk ?_; cbv)
  | (refine ag.by hP (zN r hs (cw r) rfl) ?_; cbv)
  | (refine aB.ex hP (IX code _ _ (by assumption) hc r hr now hn) ?_; rintro ⟨x, i2, h2⟩ ⟨hx, aq⟩; (try dsimp only at hx aq); cbv)
  | (refine aB.ex hP (cR code _ _ _ (by assumption) hc) ?_; rintro ⟨x, i2, h2⟩ ⟨hx, aq⟩; (try dsimp only at hx aq); cbv)
  | (refine aB.ex hP (eO code _ _ _ (by assumption) hc) ?_; rintro ⟨x, i2, h2⟩ ⟨hx, aq⟩; (try dsimp only at hx aq); cbv)
  | (refine aB.ex hP (eN code _ _ _ (by decide) (by assumption) hc) ?_; rintro ⟨x, i2, h2⟩ ⟨hx, aq⟩; (try dsimp only at hx aq); cbv)
  | (refine Br.yes (by first | assumption | exact decide_eq_true (by assumption)) ?_; cbv)
  | (refine Br.no (by first | assumption | exact decide_eq_false (by assumption)) ?_; cbv)
  | (refine Br.dec (fun hb => ?_) (fun hb => ?_) <;> cbv)
  | (refine Br.split (fun hb => ?_) (fun hb => ?_) <;> cbv)
  | (refine Ar.exact (by omega) (by omega) ?_; cbv)
  | (refine Ix.ex (by omega) (by (try simp only [nc] at *); omega) ?_; intro y; cbv)
  | (refine Ar.any ?_; intro u; cbv)
  | (refine bu.mk ?_ (by kernel_rfl) ?_; rotate_left; cbv; rotate_right) | refine ⟨rfl, ?_⟩ | refine And.intro ?_ ?_ | exact rfl | fail
 all_goals
  apply IU
  · cbv
    (try dsimp only)
    repeat' first | exact trivial | refine ⟨rfl, ?_⟩ | fail
  · exact ⟨trivial, by assumption⟩
theorem aT.kj {pk : List Nat} {σ : SS} {R : SS → (SS → Prop) → Prop} {A : Type} (sl : A → List (Nat × V)) (bl : A → List (Nat × ak)) (φ : A → Prop) (m : A → Unit → Nat) (a : A)
  (hn : ij pk σ { env := dH (sl a) 0 σ.env.length, af := bl a }) (h0 : φ a)
  (hr : ∀ a, φ a → R { env := dH (sl a) 0 σ.env.length, af := bl a } fun ax => aJ pk A (fun x => { env := dH (sl x) 0 σ.env.length, af := bl x }) (fun x => φ x) (fun x => m x) (m a) ax) : aT pk σ R :=
 aT.by (X := A) (fun x => sl x) (fun x => bl x) (fun x => φ x) (fun x => m x) a h0 hn fun x hx => hr x hx
theorem aT.nh {pk : List Nat} {σ : SS} {R : SS → (SS → Prop) → Prop} {A B : Type} (sl : A → B → List (Nat × V)) (bl : A → B → List (Nat × ak)) (φ : A → B → Prop) (m : A → B → Unit → Nat) (a : A) (b : B)
  (hn : ij pk σ { env := dH (sl a b) 0 σ.env.length, af := bl a b }) (h0 : φ a b)
  (hr : ∀ a b, φ a b → R { env := dH (sl a b) 0 σ.env.length, af := bl a b } fun ax => aJ pk (A × B) (fun x => { env := dH (sl x.1 x.2) 0 σ.env.length, af := bl x.1 x.2 }) (fun x => φ x.1 x.2) (fun x => m x.1 x.2) (m a b) ax) : aT pk σ R :=
 aT.by (X := A × B) (fun x => sl x.1 x.2) (fun x => bl x.1 x.2) (fun x => φ x.1 x.2) (fun x => m x.1 x.2) (a, b) h0 hn fun x hx => hr x.1 x.2 hx
theorem aT.Ii {pk : List Nat} {σ : SS} {R : SS → (SS → Prop) → Prop} {A B C : Type} (sl : A → B → C → List (Nat × V)) (bl : A → B → C → List (Nat × ak)) (φ : A → B → C → Prop) (m : A → B → C → Unit → Nat) (a : A) (b : B) (c : C)
  (hn : ij pk σ { env := dH (sl a b c) 0 σ.env.length, af := bl a b c }) (h0 : φ a b c)
  (hr : ∀ a b c, φ a b c → R { env := dH (sl a b c) 0 σ.env.length, af := bl a b c } fun ax => aJ pk (A × B × C) (fun x => { env := dH (sl x.1 x.2.1 x.2.2) 0 σ.env.length, af := bl x.1 x.2.1 x.2.2 }) (fun x => φ x.1 x.2.1 x.2.2) (fun x => m x.1 x.2.1 x.2.2) (m a b c) ax) : aT pk σ R :=
 aT.by (X := A × B × C) (fun x => sl x.1 x.2.1 x.2.2) (fun x => bl x.1 x.2.1 x.2.2) (fun x => φ x.1 x.2.1 x.2.2) (fun x => m x.1 x.2.1 x.2.2) (a, b, c) h0 hn fun x hx => hr x.1 x.2.1 x.2.2 hx
theorem aT.Df {pk : List Nat} {σ : SS} {R : SS → (SS → Prop) → Prop} {A B C D : Type} (sl : A → B → C → D → List (Nat × V)) (bl : A → B → C → D → List (Nat × ak)) (φ : A → B → C → D → Prop) (m : A → B → C → D → Unit → Nat) (a : A) (b : B) (c : C) (d : D)
  (hn : ij pk σ { env := dH (sl a b c d) 0 σ.env.length, af := bl a b c d }) (h0 : φ a b c d)
  (hr : ∀ a b c d, φ a b c d → R { env := dH (sl a b c d) 0 σ.env.length, af := bl a b c d } fun ax => aJ pk (A × B × C × D) (fun x => { env := dH (sl x.1 x.2.1 x.2.2.1 x.2.2.2) 0 σ.env.length, af := bl x.1 x.2.1 x.2.2.1 x.2.2.2 }) (fun x => φ x.1 x.2.1 x.2.2.1 x.2.2.2) (fun x => m x.1 x.2.1 x.2.2.1 x.2.2.2) (m a b c d) ax) : aT pk σ R :=
 aT.by (X := A × B × C × D) (fun x => sl x.1 x.2.1 x.2.2.1 x.2.2.2) (fun x => bl x.1 x.2.1 x.2.2.1 x.2.2.2) (fun x => φ x.1 x.2.1 x.2.2.1 x.2.2.2) (fun x => m x.1 x.2.1 x.2.2.1 x.2.2.2) (a, b, c, d) h0 hn fun x hx => hr x.1 x.2.1 x.2.2.1 x.2.2.2 hx
theorem aT.zF {pk : List Nat} {σ : SS} {R : SS → (SS → Prop) → Prop} {A B C D E : Type} (sl : A → B → C → D → E → List (Nat × V)) (bl : A → B → C → D → E → List (Nat × ak)) (φ : A → B → C → D → E → Prop) (m : A → B → C → D → E → Unit → Nat) (a : A) (b : B) (c : C) (d : D) (e : E)
  (hn : ij pk σ { env := dH (sl a b c d e) 0 σ.env.length, af := bl a b c d e }) (h0 : φ a b c d e)
  (hr : ∀ a b c d e, φ a b c d e → R { env := dH (sl a b c d e) 0 σ.env.length, af := bl a b c d e } fun ax => aJ pk (A × B × C × D × E) (fun x => { env := dH (sl x.1 x.2.1 x.2.2.1 x.2.2.2.1 x.2.2.2.2) 0 σ.env.length, af := bl x.1 x.2.1 x.2.2.1 x.2.2.2.1 x.2.2.2.2 }) (fun x => φ x.1 x.2.1 x.2.2.1 x.2.2.2.1 x.2.2.2.2) (fun x => m x.1 x.2.1 x.2.2.1 x.2.2.2.1 x.2.2.2.2) (m a b c d e) ax) : aT pk σ R :=
 aT.by (X := A × B × C × D × E) (fun x => sl x.1 x.2.1 x.2.2.1 x.2.2.2.1 x.2.2.2.2) (fun x => bl x.1 x.2.1 x.2.2.1 x.2.2.2.1 x.2.2.2.2) (fun x => φ x.1 x.2.1 x.2.2.1 x.2.2.2.1 x.2.2.2.2) (fun x => m x.1 x.2.1 x.2.2.1 x.2.2.2.1 x.2.2.2.2) (a, b, c, d, e) h0 hn fun x hx => hr x.1 x.2.1 x.2.2.1 x.2.2.2.1 x.2.2.2.2 hx
theorem aT.Ij {pk : List Nat} {σ : SS} {R : SS → (SS → Prop) → Prop} {A B C D E F : Type} (sl : A → B → C → D → E → F → List (Nat × V)) (bl : A → B → C → D → E → F → List (Nat × ak)) (φ : A → B → C → D → E → F → Prop) (m : A → B → C → D → E → F → Unit → Nat) (a : A) (b : B) (c : C) (d : D) (e : E) (f : F)
  (hn : ij pk σ { env := dH (sl a b c d e f) 0 σ.env.length, af := bl a b c d e f }) (h0 : φ a b c d e f)
  (hr : ∀ a b c d e f, φ a b c d e f → R { env := dH (sl a b c d e f) 0 σ.env.length, af := bl a b c d e f } fun ax => aJ pk (A × B × C × D × E × F) (fun x => { env := dH (sl x.1 x.2.1 x.2.2.1 x.2.2.2.1 x.2.2.2.2.1 x.2.2.2.2.2) 0 σ.env.length, af := bl x.1 x.2.1 x.2.2.1 x.2.2.2.1 x.2.2.2.2.1 x.2.2.2.2.2 }) (fun x => φ x.1 x.2.1 x.2.2.1 x.2.2.2.1 x.2.2.2.2.1 x.2.2.2.2.2) (fun x => m x.1 x.2.1 x.2.2.1 x.2.2.2.1 x.2.2.2.2.1 x.2.2.2.2.2) (m a b c d e f) ax) : aT pk σ R :=
 aT.by (X := A × B × C × D × E × F) (fun x => sl x.1 x.2.1 x.2.2.1 x.2.2.2.1 x.2.2.2.2.1 x.2.2.2.2.2) (fun x => bl x.1 x.2.1 x.2.2.1 x.2.2.2.1 x.2.2.2.2.1 x.2.2.2.2.2) (fun x => φ x.1 x.2.1 x.2.2.1 x.2.2.2.1 x.2.2.2.2.1 x.2.2.2.2.2) (fun x => m x.1 x.2.1 x.2.2.1 x.2.2.2.1 x.2.2.2.2.1 x.2.2.2.2.2) (a, b, c, d, e, f) h0 hn fun x hx => hr x.1 x.2.1 x.2.2.1 x.2.2.2.1 x.2.2.2.2.1 x.2.2.2.2.2 hx
theorem Ix.ex {E : an} {xs : Unit → List E.α} {i : Unit → Int} {K : (Unit → E.α) → Prop} (h0 : 0 ≤ i ()) (h1 : (i ()).toNat < (xs ()).length) (hk : ∀ x, K fun _ => x) : Ix E xs i K := ⟨_, h0, List.getElem?_eq_getElem h1, hk _⟩
theorem Sv.sat {E : an} {t : Unit → List E.α} {K : (Unit → List E.α) → Prop} (φ : List E.α → Prop) (h0 : φ (t ())) (h : ∀ u : List E.α, φ u → K fun _ => u) : Sv E t K := ⟨fun _ => t (), rfl, h _ h0⟩
theorem Sv.len {E : an} {t : Unit → List E.α} {K : (Unit → List E.α) → Prop} (h : ∀ u : List E.α, u.length = (t ()).length → K fun _ => u) : Sv E t K := ⟨fun _ => t (), rfl, h _ rfl⟩
theorem aJ.kH {pk : List Nat} {A : Type} {st : A → SS} {φ : A → Prop} {m : A → Unit → Nat} {n : Unit → Nat} {σ : SS} (a : A) (hn : ij pk σ (st a)) (h0 : φ a) (hm : m a () < n ()) : aJ pk (A) st φ m n σ := ⟨_, hm, h0, lO hn⟩
theorem aJ.lj {pk : List Nat} {A B : Type} {st : A × B → SS} {φ : A × B → Prop} {m : A × B → Unit → Nat} {n : Unit → Nat} {σ : SS} (a : A) (b : B) (hn : ij pk σ (st (a, b))) (h0 : φ (a, b)) (hm : m (a, b) () < n ()) : aJ pk (A × B) st φ m n σ := ⟨_, hm, h0, lO hn⟩
theorem aJ.PI {pk : List Nat} {A B C D : Type} {st : A × B × C × D → SS} {φ : A × B × C × D → Prop} {m : A × B × C × D → Unit → Nat} {n : Unit → Nat} {σ : SS} (a : A) (b : B) (c : C) (d : D) (hn : ij pk σ (st (a, b, c, d))) (h0 : φ (a, b, c, d)) (hm : m (a, b, c, d) () < n ()) : aJ pk (A × B × C × D) st φ m n σ := ⟨_, hm, h0, lO hn⟩
theorem aJ.IY {pk : List Nat} {A B C D E : Type} {st : A × B × C × D × E → SS} {φ : A × B × C × D × E → Prop} {m : A × B × C × D × E → Unit → Nat} {n : Unit → Nat} {σ : SS} (a : A) (b : B) (c : C) (d : D) (e : E) (hn : ij pk σ (st (a, b, c, d, e))) (h0 : φ (a, b, c, d, e)) (hm : m (a, b, c, d, e) () < n ()) : aJ pk (A × B × C × D × E) st φ m n σ := ⟨_, hm, h0, lO hn⟩
theorem aJ.PJ {pk : List Nat} {A B C D E F : Type} {st : A × B × C × D × E × F → SS} {φ : A × B × C × D × E × F → Prop} {m : A × B × C × D × E × F → Unit → Nat} {n : Unit → Nat} {σ : SS} (a : A) (b : B) (c : C) (d : D) (e : E) (f : F) (hn : ij pk σ (st (a, b, c, d, e, f))) (h0 : φ (a, b, c, d, e, f)) (hm : m (a, b, c, d, e, f) () < n ()) : aJ pk (A × B × C × D × E × F) st φ m n σ := ⟨_, hm, h0, lO hn⟩
theorem Spec.nn {P : Program} {f : FuncId} {ar : List V} {X : Type} {φ : X → Prop} {s : X → dj} (x : X) (hx : φ x) (h : Spec P f ar (aE (s x))) : Spec P f ar (ix X φ s) := by
 refine ⟨h.1, fun w vs ha => Calls.mono (h.2 w vs ha) fun e w' hw => ?_⟩;obtain ⟨v, r, nb, H', ρ, e1, kF, rest⟩ := hw;exact ⟨v, r, nb, H', ρ, e1, ⟨x, hx, kF⟩, rest⟩
def tJ (i h : Int) : ak := .box [.own 1, .lf (.int .i64 fun _ => i), .lf (.int .i64 fun _ => h)]
def tK (code : List UInt8) : ak := .view .byte fun _ => code
theorem IZ (a : List au) (c : Int) (hn : a.length ≤ aR) : Spec Tryz.prog 133 [lA .az a, iA c] (ix Int (fun x => 0 ≤ x ∧ x ≤ 6291456) fun x => iR fun _ => x) := by
 have h := Dw c a hn a.length;rw [List.take_length] at h;exact Spec.nn ((aV (cp c) a : Nat) : Int) ⟨Int.natCast_nonneg _, by omega⟩ (IJ a c hn)
theorem I0 (a : List au) (c : Int) (hn : a.length ≤ aR) : Spec Tryz.prog 134 [lA .az a, iA c] (ix Int (fun x => 0 ≤ x ∧ x ≤ 6291456) fun x => iR fun _ => x) := by
 have h := Dx c a hn a.length;rw [List.take_length] at h;exact Spec.nn ((aV (cz c) a : Nat) : Int) ⟨Int.natCast_nonneg _, by omega⟩ (IK a c hn)
theorem DH (a b : Int) : Spec Tryz.prog 63 [iA a, iA b] (ix Int (fun x => a ≤ x ∧ b ≤ x ∧ (x = a ∨ x = b)) fun x => iR fun _ => x) :=
 Spec.nn (if a > b then a else b) (by split <;> omega) (Dz a b)
theorem PK (a b : Int) : Spec Tryz.prog 192 [iA a, iA b] (ix Int (fun x => x ≤ a ∧ x ≤ b ∧ (x = a ∨ x = b)) fun x => iR fun _ => x) := by
 refine aH ay Tryz.func192 rfl rfl (fr := true) (fun _ => by kernel_rfl) fun P hP hA => ?_;cbv;refine Br.dec (fun h => ?_) (fun h => ?_) <;> cbv
 · refine ⟨a, by omega, ?_⟩;cbv
   repeat' first | exact trivial | refine ⟨rfl, ?_⟩ | fail
 · refine ⟨b, by omega, ?_⟩;cbv
   repeat' first | exact trivial | refine ⟨rfl, ?_⟩ | fail
end Go.Proofs.YtehpbaiclfilaaaGreat

