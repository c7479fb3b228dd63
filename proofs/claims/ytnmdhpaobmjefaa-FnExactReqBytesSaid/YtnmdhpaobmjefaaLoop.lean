/-
  Loops by an invariant that is told slot by slot. No conditions.
-/
import Derived.Test.YtnmdhpaobmjefaaRetM
namespace Go.Proofs.Ytnmdhpaobmjefaa
open Go

def slotV : List (Nat × V) → Nat → V
  | [], _ => .c .undef
  | p :: r, j => if p.1 = j then p.2 else slotV r j

/-- n slots from j on -/
def mkEnv (sl : List (Nat × V)) : Nat → Nat → List V
  | _, 0 => []
  | j, n + 1 => slotV sl j :: mkEnv sl (j + 1) n

def mEnv : List V → List V → Prop → Prop
  | [], [], K => K
  | v :: vs, w :: ws, K => match w with
    | .c .undef => mEnv vs ws K
    | w => mV v w (mEnv vs ws K)
  | _, _, _ => False

/-! ### from the state that is told to what is kept of the one that is -/

def prC : C → C → List (Nat × Nat)
  | .own k, .own k' => [(k, k')]
  | .ptr k _, .ptr k' _ => [(k, k')]
  | _, _ => []

def prL : List C → List C → List (Nat × Nat)
  | c :: cs, d :: ds => prC c d ++ prL cs ds
  | _, _ => []

def prV : V → V → List (Nat × Nat)
  | .c x, .c y => prC x y
  | .agg xs, .agg ys => prL xs ys
  | _, _ => []

def prE : List V → List V → List (Nat × Nat)
  | v :: vs, w :: ws => prV v w ++ prE vs ws
  | _, _ => []

def prB (bs tb : List (Nat × Blk)) : List (Nat × Nat) → List (Nat × Nat)
  | [] => []
  | p :: r => (match getB bs p.1, getB tb p.2 with | some (.box cs), some (.box ds) => prL cs ds | _, _ => []) ++ prB bs tb r

/-- a nil slice gets a name, if it is to have one -/
def msE (tb : List (Nat × Blk)) : Nat → List V → List V → List Mat
  | j, v :: vs, w :: ws => (match v, w with
    | .c .nil, .c (.own k) => (match getB tb k with | some (.own E _ _) => [.env j E (9000000 + k)] | _ => [])
    | _, _ => []) ++ msE tb (j + 1) vs ws
  | _, _, _ => []

def msL (tb : List (Nat × Blk)) (bk : Nat) : Nat → List C → List C → List Mat
  | j, c :: cs, d :: ds => (match c, d with
    | .nil, .own k => (match getB tb k with | some (.own E _ _) => [.box bk j E (9000000 + k)] | _ => [])
    | _, _ => []) ++ msL tb bk (j + 1) cs ds
  | _, _, _ => []

def msB (bs tb : List (Nat × Blk)) : List (Nat × Nat) → List Mat
  | [] => []
  | p :: r => (match getB bs p.1, getB tb p.2 with | some (.box cs), some (.box ds) => msL tb p.1 0 cs ds | _, _ => []) ++ msB bs tb r

/-- the name that is to be k' -/
def lkR : List (Nat × Nat) → Nat → Option Nat
  | [], _ => none
  | p :: r, k => if p.2 = k then some p.1 else lkR r k

def nmOf (pr : List (Nat × Nat)) : List (Nat × Blk) → List (Nat × Nat)
  | [] => []
  | q :: r => match lkR pr q.1 with | some k => (k, q.1) :: nmOf pr r | none => nmOf pr r

def liveE : Nat → List V → List Nat
  | _, [] => []
  | j, v :: vs => match v with | .c .undef => liveE (j + 1) vs | _ => j :: liveE (j + 1) vs

def autoN (σ τ : SS) : Norm :=
  let ms := msE τ.blk 0 σ.env τ.env ++ msB σ.blk τ.blk (prE σ.env τ.env)
  match σ.mats ms with
  | some σ1 =>
    let p1 := prE σ1.env τ.env
    { ms := ms, L := liveE 0 τ.env, nm := nmOf (p1 ++ prB σ1.blk τ.blk p1) τ.blk }
  | none => { ms := [], L := [], nm := [] }

/-- what is to be shown for another state to be enough -/
def normTo (pk : List Nat) (σ τ : SS) : Prop :=
  match σ.norm pk (autoN σ τ) with
  | some σ' => mEnv σ'.env τ.env (mBs σ'.blk τ.blk True)
  | none => False

theorem mEnv_ok : ∀ {vs ws : List V} {K : Prop}, mEnv vs ws K → K ∧ vs.length = ws.length ∧ ∀ {H : Hp} {ρ : Rho} {D : Nat → Prop} {j : Nat} {w : V}, ws[j]? = some w → ∃ v, vs[j]? = some v ∧ ∀ {x : Value}, RV H ρ D v x → RV H ρ D w x
  | [], [], K, h => ⟨h, rfl, fun hj => by simp at hj⟩
  | [], _ :: _, K, h => by cases h
  | _ :: _, [], K, h => by cases h
  | v :: vs, w :: ws, K, h => by
    have step : ∀ {K' : Prop}, mEnv vs ws K → (∀ {H : Hp} {ρ : Rho} {D : Nat → Prop} {x : Value}, RV H ρ D v x → RV H ρ D w x) →
        K ∧ (v :: vs).length = (w :: ws).length ∧ ∀ {H : Hp} {ρ : Rho} {D : Nat → Prop} {j : Nat} {w' : V}, (w :: ws)[j]? = some w' → ∃ v', (v :: vs)[j]? = some v' ∧ ∀ {x : Value}, RV H ρ D v' x → RV H ρ D w' x := by
      intro _ h1 h2
      obtain ⟨h3, h4, h5⟩ := mEnv_ok h1
      refine ⟨h3, by simp [h4], fun {H ρ D j e} hj => ?_⟩
      cases j with
      | zero => simp at hj; subst hj; exact ⟨v, rfl, h2⟩
      | succ j => simpa using h5 (by simpa using hj)
    simp only [mEnv] at h
    split at h
    · exact step (K' := True) h fun _ => trivial
    · obtain ⟨h1, h2⟩ := mV_ok h
      exact step (K' := True) h1 h2

theorem normTo_ok {pk : List Nat} {σ τ : SS} (h : normTo pk σ τ) : Sub pk σ τ := by
  intro Γ a w hd0 hpk r
  unfold normTo at h
  split at h
  · rename_i σ' hn
    obtain ⟨H, ρ, r'⟩ := r.norm hd0 hpk hn
    obtain ⟨h1, h2, h3⟩ := mEnv_ok h
    obtain ⟨_, h4, h5⟩ := mBs_ok h1
    have hdom : dom τ.blk = dom σ'.blk := by funext k; simp only [dom, h4]
    refine ⟨H, ρ, r'.b.as h4 h5, ⟨by rw [r'.e.size, h2], fun j c hj => ?_⟩, r'.d, r'.n, fun p hp => ?_, fun p hp => ?_⟩
    · rw [hdom]
      obtain ⟨v, hv, hi⟩ := h3 hj
      exact hi (r'.e.get j v hv)
    · rw [hdom]; exact r'.hd p hp
    · rw [hdom]; exact r'.hm p hp
  · cases h

/-- A loop: at each round's head the slots hold what 'sl' tells, the blocks are those that 'bl' tells, for some value of which φ holds; a number goes down. -/
theorem LoopE.by {pk : List Nat} {σ : SS} {R : SS → (SS → Prop) → Prop} {X : Type} (sl : X → List (Nat × V)) (bl : X → List (Nat × Blk)) (φ : X → Prop) (m : X → Unit → Nat) (x0 : X) (h0 : φ x0)
    (hn : normTo pk σ { env := mkEnv (sl x0) 0 σ.env.length, blk := bl x0 })
    (hr : ∀ x, φ x → R { env := mkEnv (sl x) 0 σ.env.length, blk := bl x } fun σ' => NextE pk X (fun x => { env := mkEnv (sl x) 0 σ.env.length, blk := bl x }) φ m (m x) σ') : LoopE pk σ R :=
  ⟨X, _, φ, m, x0, h0, normTo_ok hn, hr⟩

theorem NextE.by {pk : List Nat} {X : Type} {st : X → SS} {φ : X → Prop} {m : X → Unit → Nat} {n : Unit → Nat} {σ : SS} (x : X) (hm : m x () < n ()) (hφ : φ x) (hn : normTo pk σ (st x)) : NextE pk X st φ m n σ := ⟨x, hm, hφ, normTo_ok hn⟩

end Go.Proofs.Ytnmdhpaobmjefaa
