/-
  The contract of a function that is handed blocks: what is to be shown at its return. No conditions.
-/
import Derived.Test.YtnmdhpaobmjefaaRet
namespace Go.Proofs.Ytnmdhpaobmjefaa
open Go

/-- what a cell of a variable is to be -/
inductive KC where
  | int (k : IntKind) (x : Unit → Int)
  | bool (x : Unit → Bool)
  | str (x : Unit → List UInt8)
  | nm (j : Nat)

/-- what a block that was handed over is to be -/
inductive KSh where
  | own (E : ETy) (x : Unit → List E.α)
  | box (cs : List KC)

def KC.c : KC → C
  | .int k x => .lf (.int k x)
  | .bool x => .lf (.bool x)
  | .str x => .lf (.str x)
  | .nm j => .own j

def kcs : List KC → List C
  | [] => []
  | c :: cs => c.c :: kcs cs

def KSh.blk : KSh → Blk
  | .own E x => .own E x false
  | .box cs => .box (kcs cs)

def kblks : List (Nat × KSh) → List (Nat × Blk)
  | [] => []
  | p :: r => (p.1, p.2.blk) :: kblks r

def appB : List (Nat × Blk) → List (Nat × Blk) → List (Nat × Blk)
  | [], bs => bs
  | p :: r, bs => p :: appB r bs

/-- the blocks and the result -/
def tgtB (s : RSh) (kp : List (Nat × KSh)) : List (Nat × Blk) := appB (kblks kp) (num 100 s.bs)
def tgtV (s : RSh) : V := s.v.ren (100 + ·)

/-! ### nil slices get names -/

def matS (s : Sh) (c : C) (kk : Nat) : C × List (Nat × ETy) :=
  match s, c with
  | .own E _, .nil => (.own kk, [(kk, E)])
  | _, c => (c, [])

def matL : List Sh → List C → Nat → List C × List (Nat × ETy)
  | s :: ss, c :: cs, kk => match matS s c kk, matL ss cs (kk + 1) with | (c', l), (cs', l') => (c' :: cs', l ++ l')
  | _, cs, _ => (cs, [])

def matP : List (Bool × List Sh) → List (Bool × List C) → Nat → List (Bool × List C) × List (Nat × ETy)
  | p :: ps, q :: qs, kk => match matL p.2 q.2 kk, matP ps qs (kk + 100) with | (cs, l), (r, l') => ((q.1, cs) :: r, l ++ l')
  | _, qs, _ => (qs, [])

def matV (s : RSh) (v : V) (kk : Nat) : V × List (Nat × ETy) :=
  match s, v with
  | .c s, .c x => (match matS s x kk with | (x', l) => (.c x', l))
  | .agg ss, .agg cs => (match matL ss cs kk with | (cs', l) => (.agg cs', l))
  | .tup ps, .tup qs => (match matP ps qs kk with | (qs', l) => (.tup qs', l))
  | _, v => (v, [])

def insMat : List (Nat × ETy) → List (Nat × Blk) → Option (List (Nat × Blk))
  | [], bs => some bs
  | p :: r, bs => match getB bs p.1 with | none => insMat r (insB bs p.1 (.own p.2 (fun _ => []) false)) | some _ => none

/-! ### what is owed -/

def mLf (l l0 : Lf) (K : Prop) : Prop :=
  match l, l0 with
  | .int i t, .int k x => if i = k then Eqn (fun _ => t () = x ()) K else False
  | .bool t, .bool x => Eqn (fun _ => t () = x ()) K
  | .str t, .str x => Eqn (fun _ => t () = x ()) K
  | .list E' t, .list E x => Eqn (fun _ => eqL E E' x t) K
  | _, _ => False

def mLfs : List Lf → List Lf → Prop → Prop
  | [], [], K => K
  | l :: ls, m :: ms, K => mLf l m (mLfs ls ms K)
  | _, _, _ => False

def mCp (c c0 : Cp) (K : Prop) : Prop :=
  match c, c0 with
  | .pcs ls o, .pcs ms o' => if o = o' then mLfs ls ms K else False
  | _, _ => False

def mCps : List Cp → List Cp → Prop → Prop
  | [], [], K => K
  | l :: ls, m :: ms, K => mCp l m (mCps ls ms K)
  | _, _, _ => False

def mC (c c0 : C) (K : Prop) : Prop :=
  match c, c0 with
  | _, .undef => K
  | .lf l, .lf l0 => mLf l l0 K
  | .bl b, .lf (.bool x) => Eqn (fun _ => b = x ()) K
  | .bl b, .bl b' => if b = b' then K else False
  | .own j, .own k => if j = k then K else False
  | .nil, .nil => K
  | .ptr j o, .ptr k o' => if j = k ∧ o = o' then K else False
  | .fn f l, .fn g m => if f = g then mCps l m K else False
  | _, _ => False

def mCs : List C → List C → Prop → Prop
  | [], [], K => K
  | c :: cs, d :: ds, K => mC c d (mCs cs ds K)
  | _, _, _ => False

def mPs : List (Bool × List C) → List (Bool × List C) → Prop → Prop
  | [], [], K => K
  | p :: ps, q :: qs, K => if p.1 = q.1 then mCs p.2 q.2 (mPs ps qs K) else False
  | _, _, _ => False

def mV (v v0 : V) (K : Prop) : Prop :=
  match v, v0 with
  | .c x, .c y => mC x y K
  | .agg xs, .agg ys => mCs xs ys K
  | .tup ps, .tup qs => mPs ps qs K
  | _, _ => False

def mBs : List (Nat × Blk) → List (Nat × Blk) → Prop → Prop
  | [], [], K => K
  | p :: ps, q :: qs, K =>
    if p.1 = q.1 then
      match p.2, q.2 with
      | .own E' t false, .own E x false => Eqn (fun _ => eqL E E' x t) (mBs ps qs K)
      | .box cs, .box ds => mCs cs ds (mBs ps qs K)
      | _, _ => False
    else False
  | _, _, _ => False

def selfN : List (Nat × KSh) → List (Nat × Nat)
  | [] => []
  | p :: r => (p.1, p.1) :: selfN r

def newN : List Nat → Nat → List (Nat × Nat)
  | [], _ => []
  | k :: ks, j => (k, j) :: newN ks (j + 1)

def appN : List (Nat × Nat) → List (Nat × Nat) → List (Nat × Nat)
  | [], b => b
  | p :: r, b => p :: appN r b

/-- what is to be shown at a return -/
def finM (tab : Tab) (rs : List ResultVar) (s : RSh) (kp : List (Nat × KSh)) (σ : SS) : Prop :=
  match resultV tab σ rs with
  | some r =>
    match matV s r 9000000 with
    | (r', l) =>
      match insMat l (closeAll (σ.blk.map (·.1)) σ.blk) with
      | some bs =>
        match keepB bs (appN (selfN kp) (newN (namesV r') 100)) (appN (selfN kp) (newN (namesV r') 100)) with
        | some out =>
          if nodupB ((appN (selfN kp) (newN (namesV r') 100)).map (·.1)) = true ∧ nodupB ((appN (selfN kp) (newN (namesV r') 100)).map (·.2)) = true ∧ (r'.scr (appN (selfN kp) (newN (namesV r') 100))).cl = true then
            mBs out (tgtB s kp) (mV (r'.scr (appN (selfN kp) (newN (namesV r') 100))) (tgtV s) True)
          else False
        | none => False
      | none => False
  | none => False

/-! ### it is enough -/

theorem eqL_lf {E E' : ETy} {x : Unit → List E.α} {t : Unit → List E'.α} (h : eqL E E' x t) : Lf.list E' t = Lf.list E x := by
  have := eqL_eq (l := false) h
  injection this with h1 h2
  subst h1
  rw [eq_of_heq h2]

theorem mLf_ok {l l0 : Lf} {K : Prop} (h : mLf l l0 K) : K ∧ ∀ {H : Hp} {v : Value}, RL H l v → RL H l0 v := by
  unfold mLf at h
  split at h
  · split at h
    · rename_i hi
      obtain ⟨h1, h2⟩ := h
      refine ⟨h2, fun {H v} hv => ?_⟩
      subst hi
      obtain ⟨rfl, h3⟩ := RL.of_int hv
      rw [h1] at h3 ⊢
      exact RL.int h3
    · cases h
  · obtain ⟨h1, h2⟩ := h
    refine ⟨h2, fun {H v} hv => ?_⟩
    have := RL.of_bool hv
    subst this
    rw [h1]
    exact RL.bool
  · obtain ⟨h1, h2⟩ := h
    refine ⟨h2, fun {H v} hv => ?_⟩
    obtain ⟨rfl, h3⟩ := RL.of_str hv
    rw [h1] at h3 ⊢
    exact RL.str h3
  · obtain ⟨h1, h2⟩ := h
    refine ⟨h2, fun {H v} hv => ?_⟩
    rw [← eqL_lf h1]
    exact hv
  · cases h

theorem mLfs_ok : ∀ {ls ms : List Lf} {K : Prop}, mLfs ls ms K → K ∧ ∀ {H : Hp} {j : Nat} {m : Lf}, ms[j]? = some m → ∃ l, ls[j]? = some l ∧ ∀ {v : Value}, RL H l v → RL H m v
  | [], [], K, h => ⟨h, fun hj => by simp at hj⟩
  | [], _ :: _, K, h => by cases h
  | _ :: _, [], K, h => by cases h
  | l :: ls, m :: ms, K, h => by
    simp only [mLfs] at h
    obtain ⟨h1, h2⟩ := mLf_ok h
    obtain ⟨h3, h5⟩ := mLfs_ok h1
    refine ⟨h3, fun {H j e} hj => ?_⟩
    cases j with
    | zero => simp at hj; subst hj; exact ⟨l, rfl, h2⟩
    | succ j => simpa using h5 (by simpa using hj)

theorem mCp_ok {c c0 : Cp} {K : Prop} (h : mCp c c0 K) : K ∧ ∀ {H : Hp} {ρ : Rho} {D : Nat → Prop} {v : Value}, RCp H ρ D c v → RCp H ρ D c0 v := by
  unfold mCp at h
  split at h
  · split at h
    · rename_i ho
      subst ho
      obtain ⟨h1, h2⟩ := mLfs_ok h
      refine ⟨h1, fun {H ρ D v} hv => ?_⟩
      obtain ⟨b, o, cs, e, fz, g1, g2, g3⟩ := hv
      refine ⟨b, o, cs, e, fz, g1, g2, fun j m hj => ?_⟩
      obtain ⟨l, hl, hi⟩ := h2 hj
      exact ⟨(g3 j l hl).1, hi (g3 j l hl).2⟩
    · cases h
  · cases h

theorem mCps_ok : ∀ {ls ms : List Cp} {K : Prop}, mCps ls ms K → K ∧ ls.length = ms.length ∧ ∀ {H : Hp} {ρ : Rho} {D : Nat → Prop} {j : Nat} {m : Cp}, ms[j]? = some m → ∃ l, ls[j]? = some l ∧ ∀ {v : Value}, RCp H ρ D l v → RCp H ρ D m v
  | [], [], K, h => ⟨h, rfl, fun hj => by simp at hj⟩
  | [], _ :: _, K, h => by cases h
  | _ :: _, [], K, h => by cases h
  | l :: ls, m :: ms, K, h => by
    simp only [mCps] at h
    obtain ⟨h1, h2⟩ := mCp_ok h
    obtain ⟨h3, h4, h5⟩ := mCps_ok h1
    refine ⟨h3, by simp [h4], fun {H ρ D j e} hj => ?_⟩
    cases j with
    | zero => simp at hj; subst hj; exact ⟨l, rfl, h2⟩
    | succ j => simpa using h5 (by simpa using hj)

theorem mC_ok {c c0 : C} {K : Prop} (h : mC c c0 K) : K ∧ ∀ {H : Hp} {ρ : Rho} {D : Nat → Prop} {v : Value}, RC H ρ D c v → RC H ρ D c0 v := by
  unfold mC at h
  split at h
  · exact ⟨h, fun _ => trivial⟩
  · obtain ⟨h1, h2⟩ := mLf_ok h
    exact ⟨h1, fun hv => h2 hv⟩
  · obtain ⟨h1, h2⟩ := h
    refine ⟨h2, fun {H ρ D v} hv => ?_⟩
    simp only [RC] at hv ⊢
    subst hv
    rw [h1]
    exact RL.bool
  · split at h
    · rename_i hb; subst hb; exact ⟨h, fun hv => hv⟩
    · cases h
  · split at h
    · rename_i hj; subst hj; exact ⟨h, fun hv => hv⟩
    · cases h
  · exact ⟨h, fun hv => hv⟩
  · split at h
    · rename_i hj; obtain ⟨rfl, rfl⟩ := hj; exact ⟨h, fun hv => hv⟩
    · cases h
  · split at h
    · rename_i hf
      subst hf
      obtain ⟨h1, h2, h3⟩ := mCps_ok h
      refine ⟨h1, fun {H ρ D v} hv => ?_⟩
      obtain ⟨vs, g1, g2, g3⟩ := hv
      refine ⟨vs, g1, by rw [g2, h2], fun j m hj => ?_⟩
      obtain ⟨l, hl, hi⟩ := h3 hj
      exact hi (g3 j l hl)
    · cases h
  · cases h

theorem mCs_ok : ∀ {cs ds : List C} {K : Prop}, mCs cs ds K → K ∧ cs.length = ds.length ∧ ∀ {H : Hp} {ρ : Rho} {D : Nat → Prop} {j : Nat} {d : C}, ds[j]? = some d → ∃ c, cs[j]? = some c ∧ ∀ {v : Value}, RC H ρ D c v → RC H ρ D d v
  | [], [], K, h => ⟨h, rfl, fun hj => by simp at hj⟩
  | [], _ :: _, K, h => by cases h
  | _ :: _, [], K, h => by cases h
  | c :: cs, d :: ds, K, h => by
    simp only [mCs] at h
    obtain ⟨h1, h2⟩ := mC_ok h
    obtain ⟨h3, h4, h5⟩ := mCs_ok h1
    refine ⟨h3, by simp [h4], fun {H ρ D j e} hj => ?_⟩
    cases j with
    | zero => simp at hj; subst hj; exact ⟨c, rfl, h2⟩
    | succ j => simpa using h5 (by simpa using hj)

theorem mCs_RCs {cs ds : List C} {K : Prop} (h : mCs cs ds K) {H : Hp} {ρ : Rho} {D : Nat → Prop} {vs : Array Value} (hv : RCs H ρ D cs vs) : RCs H ρ D ds vs := by
  obtain ⟨_, h4, h5⟩ := mCs_ok h
  refine ⟨by rw [← h4]; exact hv.1, fun j d hj => ?_⟩
  obtain ⟨c, hc, hi⟩ := h5 hj
  exact hi (hv.2 j c hc)

theorem mPs_ok : ∀ {ps qs : List (Bool × List C)} {K : Prop}, mPs ps qs K → K ∧ ps.length = qs.length ∧ ∀ {H : Hp} {ρ : Rho} {D : Nat → Prop} {j : Nat} {q : Bool × List C}, qs[j]? = some q → ∃ p, ps[j]? = some p ∧ ∀ {v : Value}, RT H ρ D p v → RT H ρ D q v
  | [], [], K, h => ⟨h, rfl, fun hj => by simp at hj⟩
  | [], _ :: _, K, h => by cases h
  | _ :: _, [], K, h => by cases h
  | p :: ps, q :: qs, K, h => by
    simp only [mPs] at h
    split at h
    · rename_i hpq
      obtain ⟨h1, h2, _⟩ := mCs_ok h
      obtain ⟨h3, h4, h5⟩ := mPs_ok h1
      refine ⟨h3, by simp [h4], fun {H ρ D j e} hj => ?_⟩
      cases j with
      | zero =>
        simp at hj; subst hj
        refine ⟨p, rfl, fun {v} hv => ?_⟩
        obtain ⟨b, cs⟩ := p
        obtain ⟨b', ds⟩ := q
        simp only at hpq h2 h
        subst hpq
        cases b with
        | true => obtain ⟨vs, g1, g2⟩ := hv; exact ⟨vs, g1, mCs_RCs h g2⟩
        | false =>
          obtain ⟨c, g1, g2⟩ := hv
          simp only at g1
          subst g1
          obtain ⟨d, rfl⟩ : ∃ d, ds = [d] := List.length_eq_one_iff.1 (by simpa using h2.symm)
          refine ⟨d, rfl, ?_⟩
          obtain ⟨c', hc', hi⟩ := (mCs_ok h).2.2 (H := H) (ρ := ρ) (D := D) (j := 0) (d := d) rfl
          simp at hc'
          subst hc'
          exact hi g2
      | succ j => simpa using h5 (by simpa using hj)
    · cases h

theorem mV_ok {v v0 : V} {K : Prop} (h : mV v v0 K) : K ∧ ∀ {H : Hp} {ρ : Rho} {D : Nat → Prop} {x : Value}, RV H ρ D v x → RV H ρ D v0 x := by
  unfold mV at h
  split at h
  · exact mC_ok h
  · exact ⟨(mCs_ok h).1, fun ⟨vs, h1, h2⟩ => ⟨vs, h1, mCs_RCs h h2⟩⟩
  · obtain ⟨h1, h2, h3⟩ := mPs_ok h
    refine ⟨h1, fun {H ρ D x} ⟨vs, g1, g2, g3⟩ => ⟨vs, g1, by rw [g2, h2], fun j q hj => ?_⟩⟩
    obtain ⟨p, hp, hi⟩ := h3 hj
    exact hi (g3 j p hp)
  · cases h

theorem mBs_ok : ∀ {ps qs : List (Nat × Blk)} {K : Prop}, mBs ps qs K → K ∧ qs.map (·.1) = ps.map (·.1) ∧ ∀ k B', (k, B') ∈ qs → ∃ B, (k, B) ∈ ps ∧
    (∀ {h : Array Obj} {H : Hp} {ρ : Rho} {D : Nat → Prop} {p : Value × (Nat → Nat)}, BlkR h H ρ D B p → BlkR h H ρ D B' p) ∧ ∀ (p : Value × (Nat → Nat)) x, Top B' p x → Top B p x
  | [], [], K, h => ⟨h, rfl, fun k B' hk => by cases hk⟩
  | [], _ :: _, K, h => by cases h
  | _ :: _, [], K, h => by cases h
  | (k, A) :: ps, (k', A') :: qs, K, h => by
    simp only [mBs] at h
    split at h
    · rename_i hk
      subst hk
      split at h
      · rename_i E' t E x
        obtain ⟨h1, h⟩ := h
        obtain ⟨h2, h3, h4⟩ := mBs_ok h
        have he := eqL_eq (l := false) h1
        refine ⟨h2, by simp [h3], fun j B' hj => ?_⟩
        rcases List.mem_cons.1 hj with hj | hj
        · cases hj; exact ⟨_, List.mem_cons_self, by rw [he]; exact ⟨fun h => h, fun _ _ h => h⟩⟩
        · obtain ⟨B, g1, g2⟩ := h4 j B' hj; exact ⟨B, List.mem_cons_of_mem _ g1, g2⟩
      · rename_i cs ds
        have hm := h
        obtain ⟨h, _, _⟩ := mCs_ok h
        obtain ⟨h2, h3, h4⟩ := mBs_ok h
        refine ⟨h2, by simp [h3], fun j B' hj => ?_⟩
        rcases List.mem_cons.1 hj with hj | hj
        · cases hj
          exact ⟨_, List.mem_cons_self, fun ⟨b, vs, e, fz, e1, e2, e3, e4, e5⟩ => ⟨b, vs, e, fz, e1, e2, e3, e4, mCs_RCs hm e5⟩, fun _ _ h => h⟩
        · obtain ⟨B, g1, g2⟩ := h4 j B' hj; exact ⟨B, List.mem_cons_of_mem _ g1, g2⟩
      · cases h
    · cases h

theorem tot_keys {ρ : Rho} {x : Nat} : ∀ {ps qs : List (Nat × Blk)}, qs.map (·.1) = ps.map (·.1) → tot ρ qs x = tot ρ ps x
  | [], [], _ => rfl
  | [], _ :: _, h => by simp at h
  | _ :: _, [], h => by simp at h
  | p :: ps, q :: qs, h => by
    simp only [List.map_cons, List.cons.injEq] at h
    simp only [tot, h.1, tot_keys h.2]

theorem RelB.as {h : Array Obj} {H0 H : Hp} {ρ : Rho} {ps qs : List (Nat × Blk)} (r : RelB h H0 H ρ ps) (hk : qs.map (·.1) = ps.map (·.1))
    (hb : ∀ k B', (k, B') ∈ qs → ∃ B, (k, B) ∈ ps ∧ (∀ {h : Array Obj} {H : Hp} {ρ : Rho} {D : Nat → Prop} {p : Value × (Nat → Nat)}, BlkR h H ρ D B p → BlkR h H ρ D B' p) ∧ ∀ (p : Value × (Nat → Nat)) x, Top B' p x → Top B p x) : RelB h H0 H ρ qs := by
  have hd : dom qs = dom ps := by funext k; simp only [dom, hk]
  refine ⟨by rw [hd]; exact r.oc, by rw [hk]; exact r.nd, r.h0, r.hh, fun k B' hk' => ?_, fun x => by rw [tot_keys hk]; exact r.sum x, fun k B' hk' x hx => ?_, fun k B' hk' x hx => ?_⟩
  · obtain ⟨B, g1, g2⟩ := hb k B' hk'
    rw [hd]
    exact g2.1 (r.blk k B g1)
  · obtain ⟨B, g1, _⟩ := hb k B' hk'
    exact r.fresh k B g1 x hx
  · obtain ⟨B, g1, g2⟩ := hb k B' hk'
    exact r.tops k B g1 x (g2.2 _ x hx)

theorem dom_closeB {bs bs' : List (Nat × Blk)} {k : Nat} (h : closeB bs k = some bs') : dom bs' = dom bs := by
  unfold closeB at h
  split at h
  · split at h
    · split at h
      · split at h
        · cases h; funext j; rw [dom_setB, dom_killL]
        · cases h
      · cases h
    · cases h
  · cases h; rfl
  · cases h

section
variable {Γ : Ctx} {H : Hp} {a : Act} {w : World}

theorem RelH.closeHol (hd0 : Γ.hd = []) {ρ : Rho} {σ : SS} (r : RelH Γ H ρ σ a w) (k : Nat) :
    ∃ ρ', RelH Γ H ρ' { σ with blk := Go.Proofs.Ytnmdhpaobmjefaa.closeHol σ.blk k } a w ∧ (∀ j, (ρ' j).1 = (ρ j).1) ∧ dom (Go.Proofs.Ytnmdhpaobmjefaa.closeHol σ.blk k) = dom σ.blk := by
  unfold Go.Proofs.Ytnmdhpaobmjefaa.closeHol
  split
  · split
    · rename_i bs' hc
      obtain ⟨ρ', r', h1⟩ := RelH.close hd0 r hc
      exact ⟨ρ', r', h1, dom_closeB hc⟩
    · exact ⟨ρ, r, fun _ => rfl, rfl⟩
  · exact ⟨ρ, r, fun _ => rfl, rfl⟩

theorem RelH.closeAll (hd0 : Γ.hd = []) : ∀ {ks : List Nat} {ρ : Rho} {σ : SS}, RelH Γ H ρ σ a w →
    ∃ ρ', RelH Γ H ρ' { σ with blk := Go.Proofs.Ytnmdhpaobmjefaa.closeAll ks σ.blk } a w ∧ (∀ j, (ρ' j).1 = (ρ j).1) ∧ dom (Go.Proofs.Ytnmdhpaobmjefaa.closeAll ks σ.blk) = dom σ.blk
  | [], ρ, σ, r => ⟨ρ, r, fun _ => rfl, rfl⟩
  | k :: ks, ρ, σ, r => by
    obtain ⟨ρ1, r1, h1, h2⟩ := r.closeHol hd0 k
    obtain ⟨ρ2, r2, h3, h4⟩ := RelH.closeAll hd0 (ks := ks) r1
    exact ⟨ρ2, r2, fun j => (h3 j).trans (h1 j), h4.trans h2⟩

theorem RelH.insMat : ∀ {l : List (Nat × ETy)} {ρ : Rho} {σ : SS} {bs : List (Nat × Blk)}, RelH Γ H ρ σ a w → Go.Proofs.Ytnmdhpaobmjefaa.insMat l σ.blk = some bs →
    ∃ ρ', RelH Γ H ρ' { σ with blk := bs } a w ∧ (∀ j, dom σ.blk j → dom bs j ∧ (ρ' j).1 = (ρ j).1) ∧ ∀ p ∈ l, dom bs p.1 ∧ (ρ' p.1).1 = .slice none 0 0
  | [], ρ, σ, bs, r, h => by
    simp only [Go.Proofs.Ytnmdhpaobmjefaa.insMat, Option.some.injEq] at h
    subst h
    exact ⟨ρ, r, fun j hj => ⟨hj, rfl⟩, fun p hp => by cases hp⟩
  | p :: l, ρ, σ, bs, r, h => by
    simp only [Go.Proofs.Ytnmdhpaobmjefaa.insMat] at h
    split at h
    · rename_i hk
      have r1 := r.new' (w' := w) (B := .own p.2 (fun _ => []) false) (p := (.slice none 0 0, fun _ => 0)) hk (fun _ _ _ => rfl) (fun _ _ => rfl) (Ext.refl _) rfl (fun x hx => by simp at hx) (fun x => by simp) (OwnL.nil rfl) (by simp)
      obtain ⟨ρ2, r2, g1, g2⟩ := RelH.insMat r1 h
      have hne : ∀ j, dom σ.blk j → j ≠ p.1 := fun j hj he => getB_none hk (he ▸ hj)
      refine ⟨ρ2, r2, fun j hj => ?_, fun q hq => ?_⟩
      · obtain ⟨f1, f2⟩ := g1 j (dom_insB.2 (.inr hj))
        exact ⟨f1, by rw [f2, upd_other (hne j hj)]⟩
      · rcases List.mem_cons.1 hq with rfl | hq
        · obtain ⟨f1, f2⟩ := g1 q.1 (dom_insB.2 (.inl rfl))
          exact ⟨f1, by rw [f2, upd_same]⟩
        · exact g2 q hq
    · cases h
end

section
variable {H : Hp} {ρ ρ' : Rho} {D D' : Nat → Prop} (hg : ∀ k, D k → D' k ∧ (ρ' k).1 = (ρ k).1)
include hg

theorem matS_ok {s : Sh} {c c' : C} {kk : Nat} {l : List (Nat × ETy)} {v : Value} (h : matS s c kk = (c', l)) (hl : ∀ p ∈ l, D' p.1 ∧ (ρ' p.1).1 = .slice none 0 0) (hv : RC H ρ D c v) : RC H ρ' D' c' v := by
  unfold matS at h
  split at h
  · cases h
    have := hl _ List.mem_cons_self
    simp only [RC] at hv
    exact ⟨this.1, by rw [hv, this.2]⟩
  · cases h
    exact hv.grow ⟨fun _ _ h => h, hg⟩

theorem matL_ok : ∀ {ss : List Sh} {cs cs' : List C} {kk : Nat} {l : List (Nat × ETy)}, matL ss cs kk = (cs', l) → (∀ p ∈ l, D' p.1 ∧ (ρ' p.1).1 = .slice none 0 0) →
    cs'.length = cs.length ∧ ∀ (j : Nat) c', cs'[j]? = some c' → ∃ c, cs[j]? = some c ∧ ∀ v, RC H ρ D c v → RC H ρ' D' c' v
  | [], cs, cs', kk, l, h, _ => by
    simp only [matL, Prod.mk.injEq] at h
    obtain ⟨rfl, rfl⟩ := h
    exact ⟨rfl, fun j c' hj => ⟨c', hj, fun v hv => hv.grow ⟨fun _ _ h => h, hg⟩⟩⟩
  | _ :: _, [], cs', kk, l, h, _ => by
    simp only [matL, Prod.mk.injEq] at h
    obtain ⟨rfl, rfl⟩ := h
    exact ⟨rfl, fun j c' hj => by simp at hj⟩
  | s :: ss, c :: cs, cs', kk, l, h, hl => by
    cases h1 : matS s c kk with
    | mk c1 l1 =>
    cases h2 : matL ss cs (kk + 1) with
    | mk cs2 l2 =>
    simp only [matL, h1, h2, Prod.mk.injEq] at h
    obtain ⟨rfl, rfl⟩ := h
    obtain ⟨g1, g2⟩ := matL_ok h2 fun p hp => hl p (List.mem_append_right _ hp)
    refine ⟨by simp [g1], fun j c' hj => ?_⟩
    cases j with
    | zero => simp at hj; subst hj; exact ⟨c, rfl, fun v hv => matS_ok hg h1 (fun p hp => hl p (List.mem_append_left _ hp)) hv⟩
    | succ j => simpa using g2 j c' (by simpa using hj)

theorem matP_ok : ∀ {ps : List (Bool × List Sh)} {qs qs' : List (Bool × List C)} {kk : Nat} {l : List (Nat × ETy)}, matP ps qs kk = (qs', l) → (∀ p ∈ l, D' p.1 ∧ (ρ' p.1).1 = .slice none 0 0) →
    qs'.length = qs.length ∧ ∀ (j : Nat) q', qs'[j]? = some q' → ∃ q, qs[j]? = some q ∧ ∀ v, RT H ρ D q v → RT H ρ' D' q' v
  | [], qs, qs', kk, l, h, _ => by
    simp only [matP, Prod.mk.injEq] at h
    obtain ⟨rfl, rfl⟩ := h
    exact ⟨rfl, fun j c' hj => ⟨c', hj, fun v hv => hv.grow ⟨fun _ _ h => h, hg⟩⟩⟩
  | _ :: _, [], qs', kk, l, h, _ => by
    simp only [matP, Prod.mk.injEq] at h
    obtain ⟨rfl, rfl⟩ := h
    exact ⟨rfl, fun j c' hj => by simp at hj⟩
  | p :: ps, q :: qs, qs', kk, l, h, hl => by
    cases h1 : matL p.2 q.2 kk with
    | mk c1 l1 =>
    cases h2 : matP ps qs (kk + 100) with
    | mk cs2 l2 =>
    simp only [matP, h1, h2, Prod.mk.injEq] at h
    obtain ⟨rfl, rfl⟩ := h
    obtain ⟨g1, g2⟩ := matP_ok h2 fun p hp => hl p (List.mem_append_right _ hp)
    refine ⟨by simp [g1], fun j q' hj => ?_⟩
    cases j with
    | zero =>
      simp at hj; subst hj
      refine ⟨q, rfl, fun v hv => ?_⟩
      obtain ⟨f1, f2⟩ := matL_ok hg h1 fun p hp => hl p (List.mem_append_left _ hp)
      obtain ⟨b, cs⟩ := q
      cases b with
      | true =>
        obtain ⟨vs, e1, e2⟩ := hv
        refine ⟨vs, e1, by rw [e2.1]; exact f1.symm, fun i c' hi => ?_⟩
        obtain ⟨c, hc, hcv⟩ := f2 i c' hi
        exact hcv _ (e2.2 i c hc)
      | false =>
        obtain ⟨c, e1, e2⟩ := hv
        simp only at e1 f1 f2
        subst e1
        obtain ⟨c', hc'⟩ : ∃ c', c1 = [c'] := List.length_eq_one_iff.1 (by simpa using f1)
        refine ⟨c', hc', ?_⟩
        obtain ⟨c0, hc0, hcv⟩ := f2 0 c' (by rw [hc']; rfl)
        simp at hc0
        subst hc0
        exact hcv _ e2
    | succ j => simpa using g2 j q' (by simpa using hj)

theorem matV_ok {s : RSh} {v v' : V} {kk : Nat} {l : List (Nat × ETy)} {x : Value} (h : matV s v kk = (v', l)) (hl : ∀ p ∈ l, D' p.1 ∧ (ρ' p.1).1 = .slice none 0 0) (hv : RV H ρ D v x) : RV H ρ' D' v' x := by
  unfold matV at h
  split at h
  · rename_i s c
    cases h1 : matS s c kk with
    | mk c1 l1 =>
    simp only [h1, Prod.mk.injEq] at h
    obtain ⟨rfl, rfl⟩ := h
    exact matS_ok hg h1 hl hv
  · rename_i ss cs
    cases h1 : matL ss cs kk with
    | mk c1 l1 =>
    simp only [h1, Prod.mk.injEq] at h
    obtain ⟨rfl, rfl⟩ := h
    obtain ⟨f1, f2⟩ := matL_ok hg h1 hl
    obtain ⟨vs, e1, e2⟩ := hv
    refine ⟨vs, e1, by rw [e2.1]; exact f1.symm, fun i c' hi => ?_⟩
    obtain ⟨c, hc, hcv⟩ := f2 i c' hi
    exact hcv _ (e2.2 i c hc)
  · rename_i ps qs
    cases h1 : matP ps qs kk with
    | mk c1 l1 =>
    simp only [h1, Prod.mk.injEq] at h
    obtain ⟨rfl, rfl⟩ := h
    obtain ⟨f1, f2⟩ := matP_ok hg h1 hl
    obtain ⟨vs, e1, e2, e3⟩ := hv
    refine ⟨vs, e1, by rw [e2, f1], fun i q' hi => ?_⟩
    obtain ⟨q, hq, hqv⟩ := f2 i q' hi
    exact hqv _ (e3 i q hq)
  · cases h
    exact hv.grow ⟨fun _ _ h => h, hg⟩
end

section
variable {P : Program} {tab : Tab} (hT : tabB P tab = true) {Γ : Ctx} {H : Hp} {ρ : Rho} {σ : SS} {a : Act} {w : World} (r : RelH Γ H ρ σ a w)
include hT r

omit hT r in
theorem appN_self {kp : List (Nat × KSh)} {l : List (Nat × Nat)} : ∀ p ∈ kp, (p.1, p.1) ∈ appN (selfN kp) l := by
  induction kp with
  | nil => intro p hp; cases hp
  | cons q kp ih =>
    intro p hp
    rcases List.mem_cons.1 hp with rfl | hp
    · exact List.mem_cons_self
    · exact List.mem_cons_of_mem _ (ih p hp)

theorem finM_ok (hd0 : Γ.hd = []) {fn : Func} {s : RSh} {kp : List (Nat × KSh)} (h : finM tab fn.results.toList s kp σ) :
    ∃ v, (results fn a.tmps).run P w = .ok v w ∧ ∃ H' ρ', RelB w.heap Γ.H0 H' ρ' (tgtB s kp) ∧ RV noH ρ' (dom (tgtB s kp)) (tgtV s) v ∧ ∀ p ∈ kp, dom σ.blk p.1 → (ρ' p.1).1 = (ρ p.1).1 := by
  unfold finM at h
  split at h
  · rename_i rv hrv
    obtain ⟨v, hv, hres⟩ := run_result hT r hrv
    cases hm : matV s rv 9000000 with
    | mk rv' l =>
    rw [hm] at h
    simp only at h
    split at h
    · rename_i bs hbs
      split at h
      · rename_i out hout
        split at h
        · rename_i hc
          obtain ⟨hn1, hn2, hcl⟩ := hc
          obtain ⟨ρ1, r1, f1, f2⟩ := r.closeAll hd0 (ks := σ.blk.map (·.1))
          obtain ⟨ρ2, r2, f3, f4⟩ := RelH.insMat (σ := { σ with blk := Go.Proofs.Ytnmdhpaobmjefaa.closeAll (σ.blk.map (·.1)) σ.blk }) r1 hbs
          have hg : ∀ k, dom σ.blk k → dom bs k ∧ (ρ2 k).1 = (ρ k).1 := fun k hk => by
            obtain ⟨q1, q2⟩ := f3 k (by show dom (Go.Proofs.Ytnmdhpaobmjefaa.closeAll (σ.blk.map (·.1)) σ.blk) k; rw [f2]; exact hk)
            exact ⟨q1, by rw [q2, f1]⟩
          have hv2 := matV_ok hg hm f4 hv
          obtain ⟨rb, hlk, hall⟩ := RelB.keep hout hn1 hn2 r2.b
          have hv3 := hv2.scr hlk
          obtain ⟨hmv, hkeys, hblk⟩ := mBs_ok h
          obtain ⟨_, hvv⟩ := mV_ok hmv
          have hdom : dom (tgtB s kp) = dom out := by funext k; simp only [dom, hkeys]
          refine ⟨v, hres, H, _, rb.as hkeys hblk, ?_, fun p hp => ?_⟩
          · rw [hdom]
            exact hvv (hv3.cl hcl)
          · have hmem := appN_self (l := newN (namesV rv') 100) p hp
            obtain ⟨q1, q2⟩ := hall _ _ hmem
            intro hd
            show (ρ2 (inv _ p.1)).1 = _
            rw [q2, (hg _ hd).2]
        · cases h
      · cases h
    · cases h
  · cases h

end

/-- what is known of blocks -/
def okBs : List (Nat × Blk) → Prop
  | [] => True
  | (_, .own E t _) :: r => ((t ()).length ≤ maxL ∧ ∀ x ∈ t (), deep E x) ∧ okBs r
  | (_, .box cs) :: r => okCs cs ∧ okBs r
  | _ :: r => okBs r

theorem okBs_ok {h : Array Obj} {H : Hp} {ρ : Rho} {D : Nat → Prop} : ∀ {bs : List (Nat × Blk)}, (∀ k B, (k, B) ∈ bs → BlkR h H ρ D B (ρ k)) → okBs bs := by
  intro bs
  induction bs with
  | nil => intro _; trivial
  | cons p bs ih =>
    intro hb
    have h1 := ih fun k B hk => hb k B (List.mem_cons_of_mem _ hk)
    have h2 := hb p.1 p.2 List.mem_cons_self
    obtain ⟨k, B⟩ := p
    cases B with
    | dead => exact h1
    | view E xs => exact h1
    | hol E xs i fs => exact h1
    | own E t l =>
      have h3 : OwnL h (.list E t) (ρ k).1 (ρ k).2 := h2
      exact ⟨(h3.rl (H := fun b => h[b]?) fun _ _ => rfl).ok, h1⟩
    | box cs =>
      obtain ⟨b, vs, e, fz, _, _, _, _, h4⟩ := h2
      exact ⟨RCs.ok (f := fun j => vs.getD j Go.undef) h4.2, h1⟩

/-- the state in which a function begins that is handed blocks -/
def startM (as : List V) (bs : List (Nat × Blk)) (n : Nat) : SS := { env := as ++ List.replicate (n - as.length) (.c .undef), blk := bs }

/-- what is to be shown of a function that is handed blocks; the result and the blocks may hang on a value of which something is known -/
def vcFuncM (P : Program) (tab : Tab) (fn : Func) (c : Code) (as : List V) (bs : List (Nat × Blk)) (pk : List Nat) (F : SS → Prop) : Prop :=
  vcCode P tab pk c (startM as bs fn.ntmps) fun e σ => match e with
    | .normal => F σ
    | .ret => F σ
    | _ => False

def FinM (tab : Tab) (rs : List ResultVar) (X : Type) (φ : X → Prop) (s : X → RSh) (kp : X → List (Nat × KSh)) (σ : SS) : Prop := ∃ x : X, φ x ∧ finM tab rs (s x) (kp x) σ

theorem dom_mem {bs : List (Nat × Blk)} {k : Nat} (h : dom bs k) : ∃ B, (k, B) ∈ bs := by
  obtain ⟨⟨k', B⟩, h1, rfl⟩ := List.mem_map.1 h
  exact ⟨B, h1⟩

theorem specM_of_vc {P : Program} {tab : Tab} (hT : tabB P tab = true) {f : FuncId} {fn : Func} {c : Code} (hf : P.funcs[f]? = some fn) (hb : fn.body = some c) (hnm : (fn.name == "runtime.NumGoroutine") = false)
    {as : List V} {bs : List (Nat × Blk)} {X : Type} {φ : X → Prop} {s : X → RSh} {kp : X → List (Nat × KSh)} {pk : List Nat} (hpk : ∀ x, (kp x).map (·.1) = pk) (hpb : pk.all (fun k => (bs.map (·.1)).contains k) = true)
    (hlt : (bs.map (·.1)).all (fun k => decide (k < 100)) = true)
    (h : okAs as → okBs bs → vcFuncM P tab fn c as bs pk (FinM tab fn.results.toList X φ s kp)) : SpecM P f as bs fun r b => ∃ x, φ x ∧ r = tgtV (s x) ∧ b = tgtB (s x) (kp x) := by
  refine ⟨⟨fn, hf, hnm, by rw [hb]; rfl⟩, fun w vs ρ hrel hargs => ?_⟩
  refine calls_of_wp hf hb ?_
  have hpb' : ∀ k ∈ pk, dom bs k := fun k hk => by
    have := List.all_eq_true.1 hpb k hk
    have : k ∈ bs.map (·.1) := List.contains_iff_mem.1 this
    exact this
  let Γ : Ctx := ⟨hpOf w (tot ρ bs), [], w, pk.map fun k => (k, (ρ k).1)⟩
  have r : Rel Γ (startM as bs fn.ntmps) { tmps := vs ++ Array.replicate (fn.ntmps - vs.size) Go.undef, defers := [] } w := by
    refine ⟨hpOf w (tot ρ bs), ρ, ⟨hrel, ⟨by simp [startM, hargs.1], fun j c hj => ?_⟩, rfl, Ext.refl _, (fun p hp => by cases hp), fun p hp => ?_⟩⟩
    · simp only [startM] at hj
      rcases Nat.lt_or_ge j as.length with hlt | hge
      · rw [List.getElem?_append_left hlt] at hj
        have := hargs.2 j c hj
        rw [Array.getD_eq_getD_getElem?, Array.getElem?_append_left (by rw [hargs.1]; exact hlt), ← Array.getD_eq_getD_getElem?]
        exact this
      · rw [List.getElem?_append_right hge, List.getElem?_replicate] at hj
        split at hj
        · cases hj; trivial
        · cases hj
    · obtain ⟨k, hk, rfl⟩ := List.mem_map.1 hp
      exact ⟨hpb' k hk, rfl⟩
  refine vcCode_ok hT rfl (pk := pk) (fun p hp => by obtain ⟨k, hk, rfl⟩ := List.mem_map.1 hp; exact hk) c (h (args_ok hargs.2) (okBs_ok fun k B hk => hrel.blk k B hk)) r fun e σ' a' w' h' r' => ?_
  have done : FinM tab fn.results.toList X φ s kp σ' → ∃ v, (results fn a'.tmps).run P w' = .ok v w' ∧ ∃ v' r bs' H' ρ', Ending.returned v = .returned v' ∧ (∃ x, φ x ∧ r = tgtV (s x) ∧ bs' = tgtB (s x) (kp x)) ∧ RelB w'.heap (hpOf w (tot ρ bs)) H' ρ' bs' ∧
      RV noH ρ' (dom bs') r v' ∧ Ext w w' ∧ ∀ k, dom bs' k → dom bs k → (ρ' k).1 = (ρ k).1 := fun hf => by
    obtain ⟨x, hx, hf⟩ := hf
    obtain ⟨H, ρ1, r'⟩ := r'
    obtain ⟨v, h1, H', ρ', h2, h3, h4⟩ := finM_ok hT r' rfl (fn := fn) hf
    refine ⟨v, h1, v, _, _, H', ρ', rfl, ⟨x, hx, rfl, rfl⟩, h2, h3, r'.n, fun k hk hkb => ?_⟩
    have hmem : ∃ q ∈ kp x, q.1 = k := by
      have hk' : k ∈ (tgtB (s x) (kp x)).map (·.1) := hk
      have hlt100 : k < 100 := by
        have := List.all_eq_true.1 hlt k hkb
        simpa using this
      have key : ∀ (l : List (Nat × KSh)) (m : List (Nat × Blk)), k ∈ (appB (kblks l) m).map (·.1) → (∃ q ∈ l, q.1 = k) ∨ k ∈ m.map (·.1) := by
        intro l m
        induction l with
        | nil => intro h; exact .inr h
        | cons q l ih =>
          intro h
          simp only [kblks, appB, List.map_cons, List.mem_cons] at h
          rcases h with h | h
          · exact .inl ⟨q, List.mem_cons_self, h.symm⟩
          · rcases ih h with ⟨q', h1, h2⟩ | h1
            · exact .inl ⟨q', List.mem_cons_of_mem _ h1, h2⟩
            · exact .inr h1
      rcases key _ _ hk' with h | h
      · exact h
      · have : dom (num 100 (s x).bs) k := h
        have := dom_num.1 this
        omega
    obtain ⟨q, hq, rfl⟩ := hmem
    have hqk : q.1 ∈ pk := by rw [← hpk x]; exact List.mem_map.2 ⟨q, hq, rfl⟩
    have hhm := r'.hm (q.1, (ρ q.1).1) (List.mem_map.2 ⟨q.1, hqk, rfl⟩)
    rw [h4 q hq hhm.1]
    exact hhm.2
  have hdf : a'.defers = [] := by obtain ⟨H, ρ, r'⟩ := r'; exact r'.d
  cases e with
  | normal => obtain ⟨v, h1, h2⟩ := done h'; exact ⟨hdf, v, h1, h2⟩
  | ret => obtain ⟨v, h1, h2⟩ := done h'; exact ⟨hdf, v, h1, h2⟩
  | exit id => cases h'
  | goto l => cases h'
  | panic ch => cases h'
  | outgrown => cases h'

/-- the result and the blocks, told outright -/
def RetM (s : RSh) (kp : List (Nat × KSh)) (r : V) (b : List (Nat × Blk)) : Prop := r = tgtV s ∧ b = tgtB s kp

theorem specM_of {P : Program} {tab : Tab} (hT : tabB P tab = true) {f : FuncId} {fn : Func} {c : Code} (hf : P.funcs[f]? = some fn) (hb : fn.body = some c) (hnm : (fn.name == "runtime.NumGoroutine") = false)
    {as : List V} {bs : List (Nat × Blk)} {s : RSh} {kp : List (Nat × KSh)} (hpb : (kp.map (·.1)).all (fun k => (bs.map (·.1)).contains k) = true) (hlt : (bs.map (·.1)).all (fun k => decide (k < 100)) = true)
    (h : ∀ P', P' = P → okAs as → okBs bs → vcFuncM P' tab fn c as bs (kp.map (·.1)) (finM tab fn.results.toList s kp)) : SpecM P f as bs (RetM s kp) := by
  have h1 : okAs as → okBs bs → vcFuncM P tab fn c as bs (kp.map (·.1)) (FinM tab fn.results.toList Unit (fun _ => True) (fun _ => s) (fun _ => kp)) := by
    intro hA hB
    have h0 := h P rfl hA hB
    have e : FinM tab fn.results.toList Unit (fun _ => True) (fun _ => s) (fun _ => kp) = finM tab fn.results.toList s kp := by
      funext σ
      exact propext ⟨fun ⟨_, _, h⟩ => h, fun h => ⟨(), trivial, h⟩⟩
    rw [e]; exact h0
  have h2 := specM_of_vc hT hf hb hnm (X := Unit) (φ := fun _ => True) (s := fun _ => s) (kp := fun _ => kp) (pk := kp.map (·.1)) (fun _ => rfl) hpb hlt h1
  refine ⟨h2.1, fun w vs ρ g1 g2 => (h2.2 w vs ρ g1 g2).mono fun e w' he => ?_⟩
  obtain ⟨v, r, bs', H', ρ', q1, ⟨_, _, q2, q3⟩, q4⟩ := he
  exact ⟨v, r, bs', H', ρ', q1, ⟨q2, q3⟩, q4⟩

/-- a call, by the function's contract -/
theorem CallM.by {P P0 : Program} {f : FuncId} {as : List V} {bs : List (Nat × Blk)} {K : V → List (Nat × Blk) → Prop} {s : RSh} {kp : List (Nat × KSh)} (hP : P = P0) (h : SpecM P0 f as bs (RetM s kp)) (hk : K (tgtV s) (tgtB s kp)) : CallM P f as bs K := by
  subst hP
  exact ⟨_, h, fun r b ⟨h1, h2⟩ => by rw [h1, h2]; exact hk⟩

theorem CallM.byE {P P0 : Program} {f : FuncId} {as as' : List V} {bs bs' : List (Nat × Blk)} {K : V → List (Nat × Blk) → Prop} {s : RSh} {kp : List (Nat × KSh)} (hP : P = P0) (h : SpecM P0 f as bs (RetM s kp)) (ha : as' = as) (hb : bs' = bs) (hk : K (tgtV s) (tgtB s kp)) : CallM P f as' bs' K := by
  subst ha; subst hb
  exact CallM.by hP h hk

end Go.Proofs.Ytnmdhpaobmjefaa
