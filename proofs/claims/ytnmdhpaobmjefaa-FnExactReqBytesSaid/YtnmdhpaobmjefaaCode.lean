/-
  Lists of operations, code with branches and loops: what is to be shown, and that it gives a function's contract. No conditions.
-/
import Derived.Test.YtnmdhpaobmjefaaMut
namespace Go.Proofs.Ytnmdhpaobmjefaa
open Go

def isOwnV : V → Bool
  | .c (.own _) => true
  | _ => false

def isOelV : V → Bool
  | .c (.oel _ _ _ _) => true
  | _ => false

def isMem (tab : Tab) (σ : SS) (o : Oper) : Bool :=
  match o.op with
  | .load T x => isOelV (σ.ev x) && tyL tab T
  | .box _ _ | .alloc _ | .buildSlice _ _ _ | .store _ _ _ | .makeSlice _ _ _ => true
  | .slice _ x _ _ _ => isOwnV (σ.ev x)
  | .convert _ _ x => isOwnV (σ.ev x)
  | .call c => match c.callee with | .builtin .append => true | .builtin .copy => true | .builtin .clear => true | _ => false
  | _ => false

/-- what is to be shown of one operation -/
def vcOp (P : Program) (tab : Tab) (o : Oper) (σ : SS) (K : SS → Prop) : Prop :=
  match calleeV σ o with
  | some (v, c) => vcCall P tab σ v c o.dst K
  | none => if isMem tab σ o then vcLst tab o σ K else vcDet tab o σ fun v => K (σ.put o.dst v)

/-- an operation that is passed over -/
def skipV : V := .tup []

def SS.setE (σ : SS) (d : Nat) (v : V) : SS := { σ with env := σ.env.set d v }

def guardDst (all : List Oper) (j : Nat) : Option Nat := (all[j]?).bind (·.dst)

/-- what is to be shown of a list of operations -/
def vcOps (P : Program) (tab : Tab) (all : List Oper) : List Oper → SS → (SS → Prop) → Prop
  | [], σ, K => K σ
  | o :: rest, σ, K =>
    match o.guard with
    | none => vcOp P tab o σ fun σ' => vcOps P tab all rest σ' K
    | some (j, want) =>
      match guardDst all j with
      | some d =>
        match σ.env.getD d (.c .undef) with
        | .c (.bl b) => if b = want then vcOp P tab o σ fun σ' => vcOps P tab all rest σ' K else vcOps P tab all rest (σ.put o.dst skipV) K
        | .tup [] => vcOps P tab all rest (σ.put o.dst skipV) K
        | .c (.lf (.bool t)) => Br t fun b =>
            if b = want then vcOp P tab o (σ.setE d (.c (.bl b))) fun σ' => vcOps P tab all rest σ' K else vcOps P tab all rest ((σ.setE d (.c (.bl b))).put o.dst skipV) K
        | _ => False
      | none => False

/-! ### another state for the same frame -/

/-- a nil slice gets a name -/
inductive Mat where
  | env (slot : Nat) (E : ETy) (key : Nat)
  | box (bk cell : Nat) (E : ETy) (key : Nat)

def isNilV : V → Bool
  | .c .nil => true
  | _ => false

def isNilC : C → Bool
  | .nil => true
  | _ => false

def SS.mat (σ : SS) : Mat → Option SS
  | .env s E k =>
    match σ.env[s]?, getB σ.blk k with
    | some v, none => if isNilV v then some { env := σ.env.set s (.c (.own k)), blk := insB σ.blk k (.own E (fun _ => []) false) } else none
    | _, _ => none
  | .box bk c E k =>
    match getB σ.blk bk, getB σ.blk k with
    | some (.box cs), none =>
      match cs[c]? with
      | some x => if isNilC x then some { σ with blk := setB (insB σ.blk k (.own E (fun _ => []) false)) bk (.box (cs.set c (.own k))) } else none
      | none => none
    | _, _ => none

def SS.mats (σ : SS) : List Mat → Option SS
  | [] => some σ
  | m :: ms => match σ.mat m with | some σ' => σ'.mats ms | none => none

def lk : List (Nat × Nat) → Nat → Option Nat
  | [], _ => none
  | p :: r, k => if p.1 = k then some p.2 else lk r k

/-- a captured variable that is only read -/
def Cp.rd : Cp → Bool
  | .ptr _ _ => false
  | _ => true

def C.scr (m : List (Nat × Nat)) : C → C
  | .own k => match lk m k with | some k' => .own k' | none => .undef
  | .ptr k off => match lk m k with | some k' => .ptr k' off | none => .undef
  | .oel k E i off => match lk m k with | some k' => .oel k' E i off | none => .undef
  | .fn f l => if l.all Cp.rd = true then .fn f l else .undef
  | c => c

def scrL (m : List (Nat × Nat)) : List C → List C
  | [] => []
  | c :: cs => c.scr m :: scrL m cs

def V.scr (m : List (Nat × Nat)) : V → V
  | .c x => .c (x.scr m)
  | .agg cs => .agg (scrL m cs)
  | .tup [] => .tup []
  | .tup _ => .c .undef

def Blk.scr (m : List (Nat × Nat)) : Blk → Blk
  | .box cs => .box (scrL m cs)
  | B => B

def Blk.isHol : Blk → Bool
  | .hol _ _ _ _ => true
  | _ => false

/-- the slots that are kept -/
def keepE (L : List Nat) (m : List (Nat × Nat)) : Nat → List V → List V
  | _, [] => []
  | j, v :: vs => (if L.contains j then v.scr m else .c .undef) :: keepE L m (j + 1) vs

def keepB (bs : List (Nat × Blk)) (m : List (Nat × Nat)) : List (Nat × Nat) → Option (List (Nat × Blk))
  | [] => some []
  | p :: r => match getB bs p.1, keepB bs m r with | some B, some l => if B.isHol = true then none else some ((p.2, B.scr m) :: l) | _, _ => none

structure Norm where
  ms : List Mat
  L : List Nat
  nm : List (Nat × Nat)

def closeHol (bs : List (Nat × Blk)) (k : Nat) : List (Nat × Blk) :=
  match getB bs k with
  | some (.hol _ _ _ _) => (match closeB bs k with | some bs' => bs' | none => bs)
  | _ => bs

def closeAll : List Nat → List (Nat × Blk) → List (Nat × Blk)
  | [], bs => bs
  | k :: ks, bs => closeAll ks (closeHol bs k)

def selfB (m : List (Nat × Nat)) : List Nat → Bool
  | [] => true
  | k :: ks => (match lk m k with | some k' => k' == k | none => false) && selfB m ks

def SS.norm (σ : SS) (pk : List Nat) (N : Norm) : Option SS :=
  match σ.mats N.ms with
  | some σ' =>
    match keepB (closeAll (σ'.blk.map (·.1)) σ'.blk) N.nm N.nm with
    | some bs => if nodupB (N.nm.map (·.1)) = true ∧ nodupB (N.nm.map (·.2)) = true ∧ selfB N.nm pk = true then some { env := keepE N.L N.nm 0 σ'.env, blk := bs } else none
    | none => none
  | none => none

/-- whatever stands as the one state says stands as the other says -/
def Sub (pk : List Nat) (σ τ : SS) : Prop := ∀ (Γ : Ctx) (a : Act) (w : World), Γ.hd = [] → (∀ p ∈ Γ.hm, p.1 ∈ pk) → Rel Γ σ a w → Rel Γ τ a w

/-- a round's end: the state stands as at a round's head, and the number is less -/
inductive NextE (pk : List Nat) (X : Type) (st : X → SS) (φ : X → Prop) (m : X → Unit → Nat) (n : Unit → Nat) (σ : SS) : Prop where
  | mk (x : X) (hm : m x () < n ()) (hφ : φ x) (hs : Sub pk σ (st x))

/-- a loop: what holds at each round's head, with a number that goes down -/
inductive LoopE (pk : List Nat) (σ : SS) (R : SS → (SS → Prop) → Prop) : Prop where
  | mk (X : Type) (st : X → SS) (φ : X → Prop) (m : X → Unit → Nat) (x0 : X) (h0 : φ x0) (hs : Sub pk σ (st x0)) (hr : ∀ x, φ x → R (st x) fun σ' => NextE pk X st φ m (m x) σ')

/-- one operation, with its guard -/
def vcG (P : Program) (tab : Tab) (all : List Oper) (o : Oper) (σ : SS) (K : SS → Prop) : Prop :=
  match o.guard with
  | none => vcOp P tab o σ K
  | some (j, want) =>
    match guardDst all j with
    | some d =>
      match σ.env.getD d (.c .undef) with
      | .c (.bl b) => if b = want then vcOp P tab o σ K else K (σ.put o.dst skipV)
      | .tup [] => K (σ.put o.dst skipV)
      | .c (.lf (.bool t)) => Br t fun b => if b = want then vcOp P tab o (σ.setE d (.c (.bl b))) K else K ((σ.setE d (.c (.bl b))).put o.dst skipV)
      | _ => False
    | none => False

def rdOk (b : Bool) (nm0 rd : List Nat) : Bool :=
  match b with
  | true => rd.all nm0.contains
  | false => rd.isEmpty

/-- an operation whose value does not hang on when it comes up -/
def isDet (tab : Tab) (b : Bool) (nm0 : List Nat) (σ : SS) (o : Oper) : Bool :=
  (calleeV σ o).isNone && !isMem tab σ o && rdOk b nm0 (rdN o σ)

def allOf : List Nat → (Nat → Prop) → Prop
  | [], _ => True
  | [i], p => p i
  | i :: j :: is, p => p i ∧ allOf (j :: is) p

/-- the first that may be taken alone -/
def pickI (tab : Tab) (ops : Array Oper) (b : Bool) (nm0 : List Nat) (listed : Array Bool) (σ : SS) : List Nat → Option Nat
  | [] => none
  | i :: is => match ops[i]? with
    | some o => if (isDet tab b nm0 σ o && Region.free .any ops listed i) = true then some i else pickI tab ops b nm0 listed σ is
    | none => pickI tab ops b nm0 listed σ is

/-- a region whose order is open -/
def vcDraw (P : Program) (tab : Tab) (ops : Array Oper) (b : Bool) (nm0 : List Nat) : Nat → Array Bool → SS → (SS → Prop) → Prop
  | 0, listed, σ, K => match Region.ready .any ops listed with | [] => K σ | _ => False
  | n + 1, listed, σ, K =>
    match Region.ready .any ops listed with
    | [] => K σ
    | r :: rs =>
      match pickI tab ops b nm0 listed σ (r :: rs) with
      | some i => (match ops[i]? with | some o => vcG P tab ops.toList o σ fun σ' => vcDraw P tab ops b nm0 n (listed.setIfInBounds i true) σ' K | none => False)
      | none => allOf (r :: rs) fun i => match ops[i]? with | some o => vcG P tab ops.toList o σ fun σ' => vcDraw P tab ops b nm0 n (listed.setIfInBounds i true) σ' K | none => False

/-- what is to be shown of a piece of code -/
def vcCode (P : Program) (tab : Tab) (pk : List Nat) : Code → SS → (Exit → SS → Prop) → Prop
  | .skip, σ, K => K .normal σ
  | .region _ ops draw, σ, K => match draw with
    | false => vcOps P tab ops.toList ops.toList σ fun σ' => K .normal σ'
    | true => if Region.noSelect ops = true then vcDraw P tab ops (ops.toList.all fun o => !isWr tab o) (σ.blk.map (·.1)) ops.size (Array.replicate ops.size false) σ fun σ' => K .normal σ' else False
  | .seq x y, σ, K => vcCode P tab pk x σ fun e σ' => match e with
    | .normal => vcCode P tab pk y σ' K
    | e => K e σ'
  | .cond c x y, σ, K => match σ.ev c with
    | .c (.bl true) => vcCode P tab pk x σ K
    | .c (.bl false) => vcCode P tab pk y σ K
    | .c (.lf (.bool t)) => Br t fun b => match b with
      | true => vcCode P tab pk x σ K
      | false => vcCode P tab pk y σ K
    | _ => False
  | .block id x, σ, K => vcCode P tab pk x σ fun e σ' => match e with
    | .exit i => if i = id then K .normal σ' else K (.exit i) σ'
    | e => K e σ'
  | .loop x, σ, K => LoopE pk σ fun σ' J => vcCode P tab pk x σ' fun e σ'' => match e with
    | .normal => J σ''
    | e => K e σ''
  | .exit id, σ, K => K (.exit id) σ
  | .ret, σ, K => K .ret σ
  | _, _, _ => False

section
variable {P : Program} {tab : Tab} (hT : tabB P tab = true) {Γ : Ctx}
include hT

theorem vcOpK_ok {H : Hp} {ρ : Rho} {σ : SS} {a : Act} {w : World} {o : Oper} {K : SS → Prop} {Q : Exit → Act → World → Prop} (hw : isWr tab o = true → Γ.hd = []) (h : vcOp P tab o σ K) (r : RelH Γ H ρ σ a w) :
    o.wp P a w (fun a' w' => ∃ σ', K σ' ∧ RelK Γ H (isWr tab o) w σ' a' w') Q := by
  unfold vcOp at h
  split at h
  · rename_i v c hc; exact vcCall_ok r hw hc h
  · split at h
    · exact vcLst_ok hT r hw h
    · obtain ⟨v, y, hk, hv, hrun⟩ := vcDet_ok hT r h
      exact wp_value (hrun w (Keeps.refl r _)) ⟨_, hk, ⟨ρ, r.put hv _⟩, fun _ => KeepW.refl w⟩

theorem vcOp_ok (hd0 : Γ.hd = []) {σ : SS} {a : Act} {w : World} {o : Oper} {K : SS → Prop} {Q : Exit → Act → World → Prop} (h : vcOp P tab o σ K) (r : Rel Γ σ a w) :
    o.wp P a w (fun a' w' => ∃ σ', K σ' ∧ Rel Γ σ' a' w') Q := by
  obtain ⟨H, ρ, r⟩ := r
  exact Oper.wp_mono (fun a' w' ⟨σ', h1, h2⟩ => ⟨σ', h1, h2.rel⟩) (vcOpK_ok hT (fun _ => hd0) h r)

omit hT in
theorem RelH.setE {H : Hp} {ρ : Rho} {σ : SS} {a : Act} {w : World} (r : RelH Γ H ρ σ a w) {d : Nat} {t : Unit → Bool} (hd : σ.env.getD d (.c .undef) = .c (.lf (.bool t))) : RelH Γ H ρ (σ.setE d (.c (.bl (t ())))) a w := by
  refine ⟨r.b, ⟨by simpa [SS.setE] using r.e.size, fun j c hj => ?_⟩, r.d, r.n, r.hd, r.hm⟩
  simp only [SS.setE] at hj
  rw [List.getElem?_set] at hj
  split at hj
  · rename_i hdj
    split at hj
    · cases hj
      have := env_ok r d
      rw [hd] at this
      have h2 := RL.of_bool this
      rw [← hdj]
      exact h2
    · cases hj
  · exact r.e.get j c hj

omit hT in
theorem Rel.setE {σ : SS} {a : Act} {w : World} (r : Rel Γ σ a w) {d : Nat} {t : Unit → Bool} (hd : σ.env.getD d (.c .undef) = .c (.lf (.bool t))) : Rel Γ (σ.setE d (.c (.bl (t ())))) a w := by
  obtain ⟨H, ρ, r⟩ := r
  exact ⟨H, ρ, r.setE hd⟩

omit hT in
theorem yielded_env {σ : SS} {a : Act} {w : World} (r : Rel Γ σ a w) {all : Array Oper} {j d : Nat} (hg : guardDst all.toList j = some d) :
    (∀ b, σ.env.getD d (.c .undef) = .c (.bl b) → yielded all a.tmps j = some b) ∧ (σ.env.getD d (.c .undef) = .tup [] → yielded all a.tmps j = none) := by
  obtain ⟨H, ρ, r⟩ := r
  have hg' : (all[j]?).bind (·.dst) = some d := by simpa [guardDst] using hg
  have he := env_ok r d
  have hlt : ∀ c, σ.env.getD d (.c .undef) = c → c ≠ .c .undef → a.tmps[d]? = some (a.tmps.getD d Go.undef) := fun c hc hne => by
    refine getD_some ?_
    rw [r.e.size]
    rcases Nat.lt_or_ge d σ.env.length with h | h
    · exact h
    · rw [List.getD_eq_getElem?_getD, List.getElem?_eq_none h] at hc
      exact (hne hc.symm).elim
  refine ⟨fun b hb => ?_, fun hb => ?_⟩
  · have h1 := hlt _ hb (by simp)
    rw [hb] at he
    simp only [RV, RC] at he
    unfold yielded
    rw [hg', Option.bind_some, h1, he]
  · have h1 := hlt _ hb (by simp)
    rw [hb] at he
    obtain ⟨vs, h2, h3, _⟩ := he
    unfold yielded
    rw [hg', Option.bind_some, h1, h2]

omit hT in
theorem RelH.skip {H : Hp} {ρ : Rho} {σ : SS} {a : Act} {w : World} (r : RelH Γ H ρ σ a w) (d : Option Nat) : RelH Γ H ρ (σ.put d skipV) (a.put d Go.undef) w := by
  have h : RV H ρ (dom σ.blk) (.tup []) Go.undef := ⟨#[], rfl, rfl, fun j p hj => by simp at hj⟩
  exact r.put h d

omit hT in
theorem Rel.skip {σ : SS} {a : Act} {w : World} (r : Rel Γ σ a w) (d : Option Nat) : Rel Γ (σ.put d skipV) (a.put d Go.undef) w := by
  obtain ⟨H, ρ, r⟩ := r
  exact ⟨H, ρ, r.skip d⟩

theorem vcOps_ok (hd0 : Γ.hd = []) {all : Array Oper} {Q : Exit → Act → World → Prop} : ∀ (l : List Oper) {σ : SS} {a : Act} {w : World} {K : SS → Prop}, vcOps P tab all.toList l σ K → Rel Γ σ a w →
    (∀ σ' a' w', K σ' → Rel Γ σ' a' w' → Q .normal a' w') → wpList P all Q l a w
  | [], σ, a, w, K, h, r, hQ => hQ σ a w h r
  | o :: rest, σ, a, w, K, h, r, hQ => by
    have go : ∀ {σ : SS}, vcOp P tab o σ (fun σ' => vcOps P tab all.toList rest σ' K) → Rel Γ σ a w → o.wp P a w (wpList P all Q rest) Q := fun h r =>
      Oper.wp_mono (fun a' w' ⟨σ', h1, h2⟩ => vcOps_ok hd0 rest h1 h2 hQ) (vcOp_ok hT hd0 h r)
    unfold wpList
    unfold vcOps at h
    split at h
    · rename_i hg
      rw [if_pos (by simp [Region.wanted, hg])]
      exact .inl (go h r)
    · rename_i j want hg
      split at h
      · rename_i d hd
        obtain ⟨y1, y2⟩ := yielded_env r hd
        split at h
        · rename_i b hb
          split at h
          · rename_i hbw
            rw [if_pos (by simp [Region.wanted, hg, y1 b hb, hbw])]
            exact .inl (go h r)
          · rename_i hbw
            rw [if_neg (by simp [Region.wanted, hg, y1 b hb, hbw])]
            exact vcOps_ok hd0 rest h (r.skip _) hQ
        · rename_i hb
          rw [if_neg (by simp [Region.wanted, hg, y2 hb])]
          exact vcOps_ok hd0 rest h (r.skip _) hQ
        · rename_i t hb
          obtain ⟨h⟩ := h
          have r' := r.setE hb
          have hlt : d < σ.env.length := by
            rcases Nat.lt_or_ge d σ.env.length with h | h
            · exact h
            · rw [List.getD_eq_getElem?_getD, List.getElem?_eq_none h] at hb; cases hb
          have y3 := (yielded_env r' hd).1 (t ()) (by simp [SS.setE, List.getD_eq_getElem?_getD, hlt])
          split at h
          · rename_i hbw
            rw [if_pos (by simp [Region.wanted, hg, y3, hbw])]
            exact .inl (go h r')
          · rename_i hbw
            rw [if_neg (by simp [Region.wanted, hg, y3, hbw])]
            exact vcOps_ok hd0 rest h (r'.skip _) hQ
        · cases h
      · cases h

/-- an operation with its guard, carried out -/
theorem vcG_ok {H : Hp} {ρ : Rho} {ops : Array Oper} {i : Nat} {o : Oper} (hw : isWr tab o = true → Γ.hd = []) (hi : ops[i]? = some o) {σ : SS} {a : Act} {w : World} {K : SS → Prop} {Q : Exit → Act → World → Prop} {next : Act → World → Prop}
    (h : vcG P tab ops.toList o σ K) (r : RelH Γ H ρ σ a w) (hn : ∀ σ' a' w', K σ' → RelK Γ H (isWr tab o) w σ' a' w' → next a' w') : wpOp P ops Q i next a w := by
  have go : ∀ {σ : SS}, vcOp P tab o σ K → RelH Γ H ρ σ a w → o.wp P a w next Q := fun h r => Oper.wp_mono (fun a' w' ⟨σ', h1, h2⟩ => hn σ' a' w' h1 h2) (vcOpK_ok hT hw h r)
  have sk : ∀ {σ : SS}, K (σ.put o.dst skipV) → RelH Γ H ρ σ a w → next (a.put o.dst Go.undef) w := fun h r => hn _ _ _ h ⟨⟨ρ, r.skip _⟩, fun _ => KeepW.refl w⟩
  unfold wpOp
  simp only [hi]
  unfold vcG at h
  split at h
  · rename_i hg
    rw [if_pos (by simp [Region.wanted, hg])]
    exact .inl (go h r)
  · rename_i j want hg
    split at h
    · rename_i d hd
      obtain ⟨y1, y2⟩ := yielded_env (⟨H, ρ, r⟩ : Rel Γ σ a w) hd
      split at h
      · rename_i b hb
        split at h
        · rename_i hbw
          rw [if_pos (by simp [Region.wanted, hg, y1 b hb, hbw])]
          exact .inl (go h r)
        · rename_i hbw
          rw [if_neg (by simp [Region.wanted, hg, y1 b hb, hbw])]
          exact sk h r
      · rename_i hb
        rw [if_neg (by simp [Region.wanted, hg, y2 hb])]
        exact sk h r
      · rename_i t hb
        obtain ⟨h⟩ := h
        have r' := r.setE hb
        have hlt : d < σ.env.length := by
          rcases Nat.lt_or_ge d σ.env.length with h | h
          · exact h
          · rw [List.getD_eq_getElem?_getD, List.getElem?_eq_none h] at hb; cases hb
        have y3 := (yielded_env (⟨H, ρ, r'⟩ : Rel Γ _ a w) hd).1 (t ()) (by simp [SS.setE, List.getD_eq_getElem?_getD, hlt])
        split at h
        · rename_i hbw
          rw [if_pos (by simp [Region.wanted, hg, y3, hbw])]
          exact .inl (go h r')
        · rename_i hbw
          rw [if_neg (by simp [Region.wanted, hg, y3, hbw])]
          exact sk h r'
      · cases h
    · cases h

end

end Go.Proofs.Ytnmdhpaobmjefaa
