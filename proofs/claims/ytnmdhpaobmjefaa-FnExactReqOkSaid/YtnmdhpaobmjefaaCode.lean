/-
  Lists of operations, code with branches and loops: what is to be shown, and that it gives a function's contract. No conditions.
-/
import Derived.Test.YtnmdhpaobmjefaaRun
namespace Go.Proofs.Ytnmdhpaobmjefaa
open Go

def isMem (σ : SS) (o : Oper) : Bool :=
  match o.op with
  | .box _ _ | .alloc _ | .buildSlice _ _ _ | .store _ _ _ | .makeSlice _ _ _ => true
  | .slice _ x _ _ _ => match σ.ev x with | .c (.own _) => true | _ => false
  | .convert _ _ x => match σ.ev x with | .c (.own _) => true | _ => false
  | .call c => match c.callee with | .builtin .append => true | .builtin .copy => true | .builtin .clear => true | _ => false
  | _ => false

/-- what is to be shown of one operation -/
def vcOp (P : Program) (tab : Tab) (o : Oper) (σ : SS) (K : SS → Prop) : Prop :=
  match calleeV σ o with
  | some (v, c) => vcCall P tab σ v c o.dst K
  | none => if isMem σ o then vcLst tab o σ K else vcDet tab o σ fun v => K (σ.put o.dst v)

/-- an operation that is passed over -/
def skipV : V := .tup []

def SS.setE (σ : SS) (d : Nat) (v : V) : SS := { σ with env := σ.env.set d v }

def guardDst (all : List Oper) (j : Nat) : Option Nat := (all[j]?).bind (·.dst)

/-- what is to be shown of a list of operations -/
def vcOps (P : Program) (tab : Tab) (all : List Oper) : List Oper → SS → (SS → Prop) → Prop
  | [], σ, K => K σ
  | o :: rest, σ, K =>
    match o.guard with
    | none => vcOp P tab o σ fun σ' => vcOps P tab all rest σ' K
    | some (j, want) =>
      match guardDst all j with
      | some d =>
        match σ.env.getD d (.c .undef) with
        | .c (.bl b) => if b = want then vcOp P tab o σ fun σ' => vcOps P tab all rest σ' K else vcOps P tab all rest (σ.put o.dst skipV) K
        | .tup [] => vcOps P tab all rest (σ.put o.dst skipV) K
        | .c (.lf (.bool t)) => Br t fun b =>
            if b = want then vcOp P tab o (σ.setE d (.c (.bl b))) fun σ' => vcOps P tab all rest σ' K else vcOps P tab all rest ((σ.setE d (.c (.bl b))).put o.dst skipV) K
        | _ => False
      | none => False

/-! ### another state for the same frame -/

/-- a nil slice gets a name -/
inductive Mat where
  | env (slot : Nat) (E : ETy) (key : Nat)
  | box (bk cell : Nat) (E : ETy) (key : Nat)

def isNilV : V → Bool
  | .c .nil => true
  | _ => false

def isNilC : C → Bool
  | .nil => true
  | _ => false

def SS.mat (σ : SS) : Mat → Option SS
  | .env s E k =>
    match σ.env[s]?, getB σ.blk k with
    | some v, none => if isNilV v then some { env := σ.env.set s (.c (.own k)), blk := insB σ.blk k (.own E (fun _ => []) false) } else none
    | _, _ => none
  | .box bk c E k =>
    match getB σ.blk bk, getB σ.blk k with
    | some (.box cs), none =>
      match cs[c]? with
      | some x => if isNilC x then some { σ with blk := setB (insB σ.blk k (.own E (fun _ => []) false)) bk (.box (cs.set c (.own k))) } else none
      | none => none
    | _, _ => none

def SS.mats (σ : SS) : List Mat → Option SS
  | [] => some σ
  | m :: ms => match σ.mat m with | some σ' => σ'.mats ms | none => none

def lk : List (Nat × Nat) → Nat → Option Nat
  | [], _ => none
  | p :: r, k => if p.1 = k then some p.2 else lk r k

def C.scr (m : List (Nat × Nat)) : C → C
  | .own k => match lk m k with | some k' => .own k' | none => .undef
  | .ptr k off => match lk m k with | some k' => .ptr k' off | none => .undef
  | .oel k E i off => match lk m k with | some k' => .oel k' E i off | none => .undef
  | .fn f [] => .fn f []
  | .fn _ _ => .undef
  | c => c

def scrL (m : List (Nat × Nat)) : List C → List C
  | [] => []
  | c :: cs => c.scr m :: scrL m cs

def V.scr (m : List (Nat × Nat)) : V → V
  | .c x => .c (x.scr m)
  | .agg cs => .agg (scrL m cs)
  | .tup [] => .tup []
  | .tup _ => .c .undef

def Blk.scr (m : List (Nat × Nat)) : Blk → Blk
  | .box cs => .box (scrL m cs)
  | B => B

/-- the slots that are kept -/
def keepE (L : List Nat) (m : List (Nat × Nat)) : Nat → List V → List V
  | _, [] => []
  | j, v :: vs => (if L.contains j then v.scr m else .c .undef) :: keepE L m (j + 1) vs

def keepB (bs : List (Nat × Blk)) (m : List (Nat × Nat)) : List (Nat × Nat) → Option (List (Nat × Blk))
  | [] => some []
  | p :: r => match getB bs p.1, keepB bs m r with | some B, some l => some ((p.2, B.scr m) :: l) | _, _ => none

structure Norm where
  ms : List Mat
  L : List Nat
  nm : List (Nat × Nat)

def SS.norm (σ : SS) (N : Norm) : Option SS :=
  match σ.mats N.ms with
  | some σ' =>
    match keepB σ'.blk N.nm N.nm with
    | some bs => if nodupB (N.nm.map (·.1)) = true ∧ nodupB (N.nm.map (·.2)) = true then some { env := keepE N.L N.nm 0 σ'.env, blk := bs } else none
    | none => none
  | none => none

/-- a loop: what holds at each round's head, with a number that goes down -/
inductive LoopE (σ : SS) (R : SS → (SS → Prop) → Prop) : Prop where
  | mk (N0 N1 : Norm) (I : Nat → SS → Prop) (h0 : ∃ n, match σ.norm N0 with | some σ' => I n σ' | none => False)
      (hr : ∀ n σ, I n σ → R σ fun σ' => ∃ m, m < n ∧ match σ'.norm N1 with | some σ'' => I m σ'' | none => False)

/-- a region whose order is open -/
inductive DrawE (P : Program) (tab : Tab) (ops : List Oper) (σ : SS) (K : SS → Prop) : Prop where
  | mk (h : False)

/-- what is to be shown of a piece of code -/
def vcCode (P : Program) (tab : Tab) : Code → SS → (Exit → SS → Prop) → Prop
  | .skip, σ, K => K .normal σ
  | .region _ ops draw, σ, K => match draw with
    | false => vcOps P tab ops.toList ops.toList σ fun σ' => K .normal σ'
    | true => DrawE P tab ops.toList σ fun σ' => K .normal σ'
  | .seq x y, σ, K => vcCode P tab x σ fun e σ' => match e with
    | .normal => vcCode P tab y σ' K
    | e => K e σ'
  | .cond c x y, σ, K => match σ.ev c with
    | .c (.bl true) => vcCode P tab x σ K
    | .c (.bl false) => vcCode P tab y σ K
    | .c (.lf (.bool t)) => Br t fun b => match b with
      | true => vcCode P tab x σ K
      | false => vcCode P tab y σ K
    | _ => False
  | .block id x, σ, K => vcCode P tab x σ fun e σ' => match e with
    | .exit i => if i = id then K .normal σ' else K (.exit i) σ'
    | e => K e σ'
  | .loop x, σ, K => LoopE σ fun σ' J => vcCode P tab x σ' fun e σ'' => match e with
    | .normal => J σ''
    | e => K e σ''
  | .exit id, σ, K => K (.exit id) σ
  | .ret, σ, K => K .ret σ
  | _, _, _ => False

section
variable {P : Program} {tab : Tab} (hT : tabB P tab = true) {Γ : Ctx}
include hT

theorem vcOp_ok {σ : SS} {a : Act} {w : World} {o : Oper} {K : SS → Prop} {Q : Exit → Act → World → Prop} (h : vcOp P tab o σ K) (r : Rel Γ σ a w) :
    o.wp P a w (fun a' w' => ∃ σ', K σ' ∧ Rel Γ σ' a' w') Q := by
  obtain ⟨H, ρ, r⟩ := r
  unfold vcOp at h
  split at h
  · rename_i v c hc; exact vcCall_ok r hc h
  · split at h
    · exact vcLst_ok hT r h
    · obtain ⟨v, y, hk, hv, hrun⟩ := vcDet_ok hT r h
      exact wp_value (hrun w (Keeps.refl r _)) ⟨_, hk, H, ρ, r.put hv _⟩

omit hT in
theorem Rel.setE {σ : SS} {a : Act} {w : World} (r : Rel Γ σ a w) {d : Nat} {t : Unit → Bool} (hd : σ.env.getD d (.c .undef) = .c (.lf (.bool t))) : Rel Γ (σ.setE d (.c (.bl (t ())))) a w := by
  obtain ⟨H, ρ, r⟩ := r
  refine ⟨H, ρ, ⟨r.b, ⟨by simpa [SS.setE] using r.e.size, fun j c hj => ?_⟩, r.d, r.n, r.hd⟩⟩
  simp only [SS.setE] at hj
  rw [List.getElem?_set] at hj
  split at hj
  · rename_i hdj
    split at hj
    · cases hj
      have := env_ok r d
      rw [hd] at this
      have h2 := RL.of_bool this
      rw [← hdj]
      exact h2
    · cases hj
  · exact r.e.get j c hj

omit hT in
theorem yielded_env {σ : SS} {a : Act} {w : World} (r : Rel Γ σ a w) {all : Array Oper} {j d : Nat} (hg : guardDst all.toList j = some d) :
    (∀ b, σ.env.getD d (.c .undef) = .c (.bl b) → yielded all a.tmps j = some b) ∧ (σ.env.getD d (.c .undef) = .tup [] → yielded all a.tmps j = none) := by
  obtain ⟨H, ρ, r⟩ := r
  have hg' : (all[j]?).bind (·.dst) = some d := by simpa [guardDst] using hg
  have he := env_ok r d
  have hlt : ∀ c, σ.env.getD d (.c .undef) = c → c ≠ .c .undef → a.tmps[d]? = some (a.tmps.getD d Go.undef) := fun c hc hne => by
    refine getD_some ?_
    rw [r.e.size]
    rcases Nat.lt_or_ge d σ.env.length with h | h
    · exact h
    · rw [List.getD_eq_getElem?_getD, List.getElem?_eq_none h] at hc
      exact (hne hc.symm).elim
  refine ⟨fun b hb => ?_, fun hb => ?_⟩
  · have h1 := hlt _ hb (by simp)
    rw [hb] at he
    simp only [RV, RC] at he
    unfold yielded
    rw [hg', Option.bind_some, h1, he]
  · have h1 := hlt _ hb (by simp)
    rw [hb] at he
    obtain ⟨vs, h2, h3, _⟩ := he
    unfold yielded
    rw [hg', Option.bind_some, h1, h2]

omit hT in
theorem Rel.skip {σ : SS} {a : Act} {w : World} (r : Rel Γ σ a w) (d : Option Nat) : Rel Γ (σ.put d skipV) (a.put d Go.undef) w := by
  obtain ⟨H, ρ, r⟩ := r
  have h : RV H ρ (dom σ.blk) (.tup []) Go.undef := ⟨#[], rfl, rfl, fun j p hj => by simp at hj⟩
  exact ⟨H, ρ, r.put h d⟩

theorem vcOps_ok {all : Array Oper} {Q : Exit → Act → World → Prop} : ∀ (l : List Oper) {σ : SS} {a : Act} {w : World} {K : SS → Prop}, vcOps P tab all.toList l σ K → Rel Γ σ a w →
    (∀ σ' a' w', K σ' → Rel Γ σ' a' w' → Q .normal a' w') → wpList P all Q l a w
  | [], σ, a, w, K, h, r, hQ => hQ σ a w h r
  | o :: rest, σ, a, w, K, h, r, hQ => by
    have go : ∀ {σ : SS}, vcOp P tab o σ (fun σ' => vcOps P tab all.toList rest σ' K) → Rel Γ σ a w → o.wp P a w (wpList P all Q rest) Q := fun h r =>
      Oper.wp_mono (fun a' w' ⟨σ', h1, h2⟩ => vcOps_ok rest h1 h2 hQ) (vcOp_ok hT h r)
    unfold wpList
    unfold vcOps at h
    split at h
    · rename_i hg
      rw [if_pos (by simp [Region.wanted, hg])]
      exact .inl (go h r)
    · rename_i j want hg
      split at h
      · rename_i d hd
        obtain ⟨y1, y2⟩ := yielded_env r hd
        split at h
        · rename_i b hb
          split at h
          · rename_i hbw
            rw [if_pos (by simp [Region.wanted, hg, y1 b hb, hbw])]
            exact .inl (go h r)
          · rename_i hbw
            rw [if_neg (by simp [Region.wanted, hg, y1 b hb, hbw])]
            exact vcOps_ok rest h (r.skip _) hQ
        · rename_i hb
          rw [if_neg (by simp [Region.wanted, hg, y2 hb])]
          exact vcOps_ok rest h (r.skip _) hQ
        · rename_i t hb
          obtain ⟨h⟩ := h
          have r' := r.setE hb
          have hlt : d < σ.env.length := by
            rcases Nat.lt_or_ge d σ.env.length with h | h
            · exact h
            · rw [List.getD_eq_getElem?_getD, List.getElem?_eq_none h] at hb; cases hb
          have y3 := (yielded_env r' hd).1 (t ()) (by simp [SS.setE, List.getD_eq_getElem?_getD, hlt])
          split at h
          · rename_i hbw
            rw [if_pos (by simp [Region.wanted, hg, y3, hbw])]
            exact .inl (go h r')
          · rename_i hbw
            rw [if_neg (by simp [Region.wanted, hg, y3, hbw])]
            exact vcOps_ok rest h (r'.skip _) hQ
        · cases h
      · cases h

end

end Go.Proofs.Ytnmdhpaobmjefaa
