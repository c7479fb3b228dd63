/- Parts of a proof. No conditions. -/

import Derived.Test.YtlochjpjlhkjaaaGWc
import Derived.Test.YtlochjpjlhkjaaaG08
set_option linter.unusedSimpArgs false
set_option linter.unusedVariables false
namespace Go.Proofs.Ytlochjpjlhkjaaa
open Go
theorem LoopE.by2 {pk : List Nat} {σ : SS} {R : SS → (SS → Prop) → Prop} {A B : Type} (sl : A → B → List (Nat × V)) (bl : A → B → List (Nat × Blk)) (φ : A → B → Prop) (m : A → B → Unit → Nat) (a : A) (b : B)
    (hn : normToH pk σ { env := mkEnv (sl a b) 0 σ.env.length, blk := bl a b }) (h0 : φ a b)
    (hr : ∀ a b, φ a b → R { env := mkEnv (sl a b) 0 σ.env.length, blk := bl a b } fun σ' => NextE pk (A × B) (fun x => { env := mkEnv (sl x.1 x.2) 0 σ.env.length, blk := bl x.1 x.2 }) (fun x => φ x.1 x.2) (fun x => m x.1 x.2) (m a b) σ') : LoopE pk σ R :=
  LoopE.by (X := A × B) (fun x => sl x.1 x.2) (fun x => bl x.1 x.2) (fun x => φ x.1 x.2) (fun x => m x.1 x.2) (a, b) h0 hn fun x hx => hr x.1 x.2 hx
theorem LoopE.by3 {pk : List Nat} {σ : SS} {R : SS → (SS → Prop) → Prop} {A B C : Type} (sl : A → B → C → List (Nat × V)) (bl : A → B → C → List (Nat × Blk)) (φ : A → B → C → Prop) (m : A → B → C → Unit → Nat) (a : A) (b : B) (c : C)
    (hn : normToH pk σ { env := mkEnv (sl a b c) 0 σ.env.length, blk := bl a b c }) (h0 : φ a b c)
    (hr : ∀ a b c, φ a b c → R { env := mkEnv (sl a b c) 0 σ.env.length, blk := bl a b c } fun σ' => NextE pk (A × B × C) (fun x => { env := mkEnv (sl x.1 x.2.1 x.2.2) 0 σ.env.length, blk := bl x.1 x.2.1 x.2.2 }) (fun x => φ x.1 x.2.1 x.2.2) (fun x => m x.1 x.2.1 x.2.2) (m a b c) σ') : LoopE pk σ R :=
  LoopE.by (X := A × B × C) (fun x => sl x.1 x.2.1 x.2.2) (fun x => bl x.1 x.2.1 x.2.2) (fun x => φ x.1 x.2.1 x.2.2) (fun x => m x.1 x.2.1 x.2.2) (a, b, c) h0 hn fun x hx => hr x.1 x.2.1 x.2.2 hx
theorem LoopE.by4 {pk : List Nat} {σ : SS} {R : SS → (SS → Prop) → Prop} {A B C D : Type} (sl : A → B → C → D → List (Nat × V)) (bl : A → B → C → D → List (Nat × Blk)) (φ : A → B → C → D → Prop) (m : A → B → C → D → Unit → Nat) (a : A) (b : B) (c : C) (d : D)
    (hn : normToH pk σ { env := mkEnv (sl a b c d) 0 σ.env.length, blk := bl a b c d }) (h0 : φ a b c d)
    (hr : ∀ a b c d, φ a b c d → R { env := mkEnv (sl a b c d) 0 σ.env.length, blk := bl a b c d } fun σ' => NextE pk (A × B × C × D) (fun x => { env := mkEnv (sl x.1 x.2.1 x.2.2.1 x.2.2.2) 0 σ.env.length, blk := bl x.1 x.2.1 x.2.2.1 x.2.2.2 }) (fun x => φ x.1 x.2.1 x.2.2.1 x.2.2.2) (fun x => m x.1 x.2.1 x.2.2.1 x.2.2.2) (m a b c d) σ') : LoopE pk σ R :=
  LoopE.by (X := A × B × C × D) (fun x => sl x.1 x.2.1 x.2.2.1 x.2.2.2) (fun x => bl x.1 x.2.1 x.2.2.1 x.2.2.2) (fun x => φ x.1 x.2.1 x.2.2.1 x.2.2.2) (fun x => m x.1 x.2.1 x.2.2.1 x.2.2.2) (a, b, c, d) h0 hn fun x hx => hr x.1 x.2.1 x.2.2.1 x.2.2.2 hx
theorem LoopE.by5 {pk : List Nat} {σ : SS} {R : SS → (SS → Prop) → Prop} {A B C D E : Type} (sl : A → B → C → D → E → List (Nat × V)) (bl : A → B → C → D → E → List (Nat × Blk)) (φ : A → B → C → D → E → Prop) (m : A → B → C → D → E → Unit → Nat) (a : A) (b : B) (c : C) (d : D) (e : E)
    (hn : normToH pk σ { env := mkEnv (sl a b c d e) 0 σ.env.length, blk := bl a b c d e }) (h0 : φ a b c d e)
    (hr : ∀ a b c d e, φ a b c d e → R { env := mkEnv (sl a b c d e) 0 σ.env.length, blk := bl a b c d e } fun σ' => NextE pk (A × B × C × D × E) (fun x => { env := mkEnv (sl x.1 x.2.1 x.2.2.1 x.2.2.2.1 x.2.2.2.2) 0 σ.env.length, blk := bl x.1 x.2.1 x.2.2.1 x.2.2.2.1 x.2.2.2.2 }) (fun x => φ x.1 x.2.1 x.2.2.1 x.2.2.2.1 x.2.2.2.2) (fun x => m x.1 x.2.1 x.2.2.1 x.2.2.2.1 x.2.2.2.2) (m a b c d e) σ') : LoopE pk σ R :=
  LoopE.by (X := A × B × C × D × E) (fun x => sl x.1 x.2.1 x.2.2.1 x.2.2.2.1 x.2.2.2.2) (fun x => bl x.1 x.2.1 x.2.2.1 x.2.2.2.1 x.2.2.2.2) (fun x => φ x.1 x.2.1 x.2.2.1 x.2.2.2.1 x.2.2.2.2) (fun x => m x.1 x.2.1 x.2.2.1 x.2.2.2.1 x.2.2.2.2) (a, b, c, d, e) h0 hn fun x hx => hr x.1 x.2.1 x.2.2.1 x.2.2.2.1 x.2.2.2.2 hx
theorem LoopE.by6 {pk : List Nat} {σ : SS} {R : SS → (SS → Prop) → Prop} {A B C D E F : Type} (sl : A → B → C → D → E → F → List (Nat × V)) (bl : A → B → C → D → E → F → List (Nat × Blk)) (φ : A → B → C → D → E → F → Prop) (m : A → B → C → D → E → F → Unit → Nat) (a : A) (b : B) (c : C) (d : D) (e : E) (f : F)
    (hn : normToH pk σ { env := mkEnv (sl a b c d e f) 0 σ.env.length, blk := bl a b c d e f }) (h0 : φ a b c d e f)
    (hr : ∀ a b c d e f, φ a b c d e f → R { env := mkEnv (sl a b c d e f) 0 σ.env.length, blk := bl a b c d e f } fun σ' => NextE pk (A × B × C × D × E × F) (fun x => { env := mkEnv (sl x.1 x.2.1 x.2.2.1 x.2.2.2.1 x.2.2.2.2.1 x.2.2.2.2.2) 0 σ.env.length, blk := bl x.1 x.2.1 x.2.2.1 x.2.2.2.1 x.2.2.2.2.1 x.2.2.2.2.2 }) (fun x => φ x.1 x.2.1 x.2.2.1 x.2.2.2.1 x.2.2.2.2.1 x.2.2.2.2.2) (fun x => m x.1 x.2.1 x.2.2.1 x.2.2.2.1 x.2.2.2.2.1 x.2.2.2.2.2) (m a b c d e f) σ') : LoopE pk σ R :=
  LoopE.by (X := A × B × C × D × E × F) (fun x => sl x.1 x.2.1 x.2.2.1 x.2.2.2.1 x.2.2.2.2.1 x.2.2.2.2.2) (fun x => bl x.1 x.2.1 x.2.2.1 x.2.2.2.1 x.2.2.2.2.1 x.2.2.2.2.2) (fun x => φ x.1 x.2.1 x.2.2.1 x.2.2.2.1 x.2.2.2.2.1 x.2.2.2.2.2) (fun x => m x.1 x.2.1 x.2.2.1 x.2.2.2.1 x.2.2.2.2.1 x.2.2.2.2.2) (a, b, c, d, e, f) h0 hn fun x hx => hr x.1 x.2.1 x.2.2.1 x.2.2.2.1 x.2.2.2.2.1 x.2.2.2.2.2 hx
theorem Sv.sat {E : ETy} {t : Unit → List E.α} {K : (Unit → List E.α) → Prop} (φ : List E.α → Prop) (h0 : φ (t ())) (h : ∀ u : List E.α, φ u → K fun _ => u) : Sv E t K := ⟨fun _ => t (), rfl, h _ h0⟩
theorem Sv.len {E : ETy} {t : Unit → List E.α} {K : (Unit → List E.α) → Prop} (h : ∀ u : List E.α, u.length = (t ()).length → K fun _ => u) : Sv E t K := ⟨fun _ => t (), rfl, h _ rfl⟩
theorem NextE.mk1 {pk : List Nat} {A : Type} {st : A → SS} {φ : A → Prop} {m : A → Unit → Nat} {n : Unit → Nat} {σ : SS} (a : A) (hn : normToH pk σ (st a)) (h0 : φ a) (hm : m a () < n ()) : NextE pk (A) st φ m n σ := ⟨_, hm, h0, normToH_ok hn⟩
theorem NextE.mk4 {pk : List Nat} {A B C D : Type} {st : A × B × C × D → SS} {φ : A × B × C × D → Prop} {m : A × B × C × D → Unit → Nat} {n : Unit → Nat} {σ : SS} (a : A) (b : B) (c : C) (d : D) (hn : normToH pk σ (st (a, b, c, d))) (h0 : φ (a, b, c, d)) (hm : m (a, b, c, d) () < n ()) : NextE pk (A × B × C × D) st φ m n σ := ⟨_, hm, h0, normToH_ok hn⟩
theorem NextE.mk5 {pk : List Nat} {A B C D E : Type} {st : A × B × C × D × E → SS} {φ : A × B × C × D × E → Prop} {m : A × B × C × D × E → Unit → Nat} {n : Unit → Nat} {σ : SS} (a : A) (b : B) (c : C) (d : D) (e : E) (hn : normToH pk σ (st (a, b, c, d, e))) (h0 : φ (a, b, c, d, e)) (hm : m (a, b, c, d, e) () < n ()) : NextE pk (A × B × C × D × E) st φ m n σ := ⟨_, hm, h0, normToH_ok hn⟩
theorem NextE.mk6 {pk : List Nat} {A B C D E F : Type} {st : A × B × C × D × E × F → SS} {φ : A × B × C × D × E × F → Prop} {m : A × B × C × D × E × F → Unit → Nat} {n : Unit → Nat} {σ : SS} (a : A) (b : B) (c : C) (d : D) (e : E) (f : F) (hn : normToH pk σ (st (a, b, c, d, e, f))) (h0 : φ (a, b, c, d, e, f)) (hm : m (a, b, c, d, e, f) () < n ()) : NextE pk (A × B × C × D × E × F) st φ m n σ := ⟨_, hm, h0, normToH_ok hn⟩
theorem Spec.toX {P : Program} {f : FuncId} {ar : List V} {X : Type} {φ : X → Prop} {s : X → RSh} (x : X) (hx : φ x) (h : Spec P f ar (Ret (s x))) : Spec P f ar (RetX X φ s) := by
  refine ⟨h.1, fun w vs ha => Calls.mono (h.2 w vs ha) fun e w' hw => ?_⟩
  obtain ⟨v, r, nb, H', ρ, e1, hret, rest⟩ := hw
  exact ⟨v, r, nb, H', ρ, e1, ⟨x, hx, hret⟩, rest⟩
def curBox (i h : Int) : Blk := .box [.own 1, .lf (.int .i64 fun _ => i), .lf (.int .i64 fun _ => h)]
def codeV (code : List UInt8) : Blk := .view .byte fun _ => code
theorem heldX_ok (a : List Party) (c : Int) (hn : a.length ≤ bigN) : Spec Try.prog 46 [lA .pty a, iA c] (RetX Int (fun x => 0 ≤ x ∧ x ≤ 6291456) fun x => iR fun _ => x) := by
  have h := held_le c a hn a.length
  rw [List.take_length] at h
  exact Spec.toX ((zAll (heldZ c) a : Nat) : Int) ⟨Int.natCast_nonneg _, by omega⟩ (specHeldIn_ok a c hn)
theorem tiedX_ok (a : List Party) (c : Int) (hn : a.length ≤ bigN) : Spec Try.prog 47 [lA .pty a, iA c] (RetX Int (fun x => 0 ≤ x ∧ x ≤ 6291456) fun x => iR fun _ => x) := by
  have h := tied_le c a hn a.length
  rw [List.take_length] at h
  exact Spec.toX ((zAll (tiedZ c) a : Nat) : Int) ⟨Int.natCast_nonneg _, by omega⟩ (specTiedIn_ok a c hn)
theorem maxX_ok (a b : Int) : Spec Try.prog 51 [iA a, iA b] (RetX Int (fun x => a ≤ x ∧ b ≤ x ∧ (x = a ∨ x = b)) fun x => iR fun _ => x) :=
  Spec.toX (if a > b then a else b) (by split <;> omega) (l1Max_ok a b)
theorem minX_ok (a b : Int) : Spec Try.prog 31 [iA a, iA b] (RetX Int (fun x => x ≤ a ∧ x ≤ b ∧ (x = a ∨ x = b)) fun x => iR fun _ => x) := by
  refine spec_of tabOk Try.func31 rfl rfl (fr := true) (fun _ => by kernel_rfl) fun P hP hA => ?_
  cbv
  repeat (refine Pz.mk ?_; cbv)
  refine Br.dec (fun h => ?_) (fun h => ?_) <;> (cbv; repeat (refine Pz.mk ?_; cbv))
  · refine ⟨a, by omega, ?_⟩
    cbv
    repeat (refine Pz.mk ?_; cbv)
    repeat' first | exact trivial | refine ⟨rfl, ?_⟩ | fail
  · refine ⟨b, by omega, ?_⟩
    cbv
    repeat (refine Pz.mk ?_; cbv)
    repeat' first | exact trivial | refine ⟨rfl, ?_⟩ | fail
end Go.Proofs.Ytlochjpjlhkjaaa

