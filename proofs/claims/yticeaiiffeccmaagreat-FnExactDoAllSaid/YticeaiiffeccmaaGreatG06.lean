/- Parts of a proof. No conditions. -/

import Derived.Test.YticeaiiffeccmaaGreatG05
set_option linter.unusedSimpArgs false
set_option linter.unusedVariables false
namespace Go.Proofs.YticeaiiffeccmaaGreat
open Go
set_option maxRecDepth 100000
def fY (x : bA) : V := .agg [.lf (.int .i64 fun _ => x.total), .lf (.int .i64 fun _ => x.free), .lf (.int .i64 fun _ => x.held), .lf (.int .i64 fun _ => x.bn), .lf (.int .i64 fun _ => x.tied)]
def Ms (x : Unit → bA) : dv := .agg [.int .i64 fun _ => (x ()).total, .int .i64 fun _ => (x ()).free, .int .i64 fun _ => (x ()).held, .int .i64 fun _ => (x ()).bn, .int .i64 fun _ => (x ()).tied]
def iU (x : List (List aB)) : V := .agg [.lf (.list .bZ fun _ => x)]
def Bd (x : Unit → List (List aB)) : dv := .agg [.own .bZ x]
def gM (x : bI) : V := .agg [.lf (.list .int fun _ => x.aj), .lf (.int .i64 fun _ => x.cn), .lf (.int .i64 fun _ => x.room), .lf (.int .i64 fun _ => x.size), .lf (.int .i64 fun _ => x.period), .lf (.int .i64 fun _ => x.cp), .lf (.int .i64 fun _ => x.rest), .lf (.int .i64 fun _ => x.tries), .lf (.int .i64 fun _ => x.cC)]
def Be (x : Unit → bI) : dv := .agg [.own .int fun _ => (x ()).aj, .int .i64 fun _ => (x ()).cn, .int .i64 fun _ => (x ()).room, .int .i64 fun _ => (x ()).size, .int .i64 fun _ => (x ()).period, .int .i64 fun _ => (x ()).cp, .int .i64 fun _ => (x ()).rest, .int .i64 fun _ => (x ()).tries, .int .i64 fun _ => (x ()).cC]
def cw (x : an) : V := .agg [.lf (.list .int fun _ => x.rules.aj), .lf (.int .i64 fun _ => x.rules.cn), .lf (.int .i64 fun _ => x.rules.room), .lf (.int .i64 fun _ => x.rules.size), .lf (.int .i64 fun _ => x.rules.period), .lf (.int .i64 fun _ => x.rules.cp), .lf (.int .i64 fun _ => x.rules.rest), .lf (.int .i64 fun _ => x.rules.tries), .lf (.int .i64 fun _ => x.rules.cC),
 .lf (.int .i64 fun _ => x.now), .lf (.int .i64 fun _ => x.aC), .lf (.list .aG fun _ => x.ae), .lf (.list .ah fun _ => x.cabins), .lf (.list .int fun _ => x.todo), .lf (.list .int fun _ => x.aF)]
def fT (x : Unit → an) : List Sh := [.own .int fun _ => (x ()).rules.aj, .int .i64 fun _ => (x ()).rules.cn, .int .i64 fun _ => (x ()).rules.room, .int .i64 fun _ => (x ()).rules.size, .int .i64 fun _ => (x ()).rules.period, .int .i64 fun _ => (x ()).rules.cp, .int .i64 fun _ => (x ()).rules.rest, .int .i64 fun _ => (x ()).rules.tries, .int .i64 fun _ => (x ()).rules.cC,
 .int .i64 fun _ => (x ()).now, .int .i64 fun _ => (x ()).aC, .own .aG fun _ => (x ()).ae, .own .ah fun _ => (x ()).cabins, .own .int fun _ => (x ()).todo, .own .int fun _ => (x ()).aF]
def kx (x : Unit → an) : dv := .agg (fT x)
def iW (a : List (List aB)) : Prop := a.length ≤ bc ∧ ∀ x ∈ a, x.length ≤ bc
def fU (x : bd) : Prop := x.row.length ≤ bc ∧ iW x.spoke
def jy (a : List bd) : Prop := a.length ≤ bc ∧ ∀ x ∈ a, fU x
def bh (x : an) : Prop := x.rules.aj.length ≤ bc ∧ x.ae.length ≤ bc ∧ jy x.cabins ∧ x.todo.length ≤ bc ∧ x.aF.length ≤ bc
theorem Mt (a b : aB) : Spec Tryz.prog 271 [eA .aI a, eA .aI b] (aE (bR fun _ => decide (a = b))) := by
 refine ay au Tryz.func271 rfl rfl (fr := true) (fun _ => by kernel_rfl) fun P hP hA => ?_;cbv;refine Br.split (fun h0 => ?_) (fun h0 => ?_) <;> cbv
 · refine ⟨?_, trivial⟩;have : a ≠ b := fun h => by subst h; simp at h0
   simp [this]
 refine Br.split (fun h1 => ?_) (fun h1 => ?_) <;> cbv
 · refine ⟨?_, trivial⟩;have : a ≠ b := fun h => by subst h; simp at h1
   simp [this]
 refine ⟨?_, trivial⟩;have e0 : a.tm = b.tm := by simpa using h0
 have e1 : a.pid = b.pid := by simpa using h1
 have : a = b := by
   cases a; cases b;simp only at e0 e1;subst e0 e1;rfl
 simp [this]
theorem Mu (a b : Entry) : Spec Tryz.prog 242 [eA .aH a, eA .aH b] (aE (bR fun _ => decide (a = b))) := by
 refine ay au Tryz.func242 rfl rfl (fr := true) (fun _ => by kernel_rfl) fun P hP hA => ?_;cbv;refine Br.split (fun h0 => ?_) (fun h0 => ?_) <;> cbv
 · refine ⟨?_, trivial⟩;have : a ≠ b := fun h => by subst h; simp at h0
   simp [this]
 refine Br.split (fun h1 => ?_) (fun h1 => ?_) <;> cbv
 · refine ⟨?_, trivial⟩;have : a ≠ b := fun h => by subst h; simp at h1
   simp [this]
 refine Br.split (fun h2 => ?_) (fun h2 => ?_) <;> cbv
 · refine ⟨?_, trivial⟩;have : a ≠ b := fun h => by subst h; simp at h2
   simp [this]
 refine Br.split (fun h3 => ?_) (fun h3 => ?_) <;> cbv
 · refine ⟨?_, trivial⟩;have : a ≠ b := fun h => by subst h; simp at h3
   simp [this]
 refine ⟨?_, trivial⟩;have e0 : a.lvl = b.lvl := by simpa using h0
 have e1 : a.aC = b.aC := by simpa using h1
 have e2 : a.aV = b.aV := by simpa using h2
 have e3 : a.al = b.al := by simpa using h3
 have : a = b := by
   cases a; cases b;simp only at e0 e1 e2 e3;subst e0 e1 e2 e3;rfl
 simp [this]
theorem Mv (a b : aw) : Spec Tryz.prog 118 [eA .aG a, eA .aG b] (aE (bR fun _ => decide (a = b))) := by
 refine ay au Tryz.func118 rfl rfl (fr := true) (fun _ => by kernel_rfl) fun P hP hA => ?_;cbv;refine Br.split (fun h0 => ?_) (fun h0 => ?_) <;> cbv
 · refine ⟨?_, trivial⟩;have : a ≠ b := fun h => by subst h; simp at h0
   simp [this]
 refine Br.split (fun h1 => ?_) (fun h1 => ?_) <;> cbv
 · refine ⟨?_, trivial⟩;have : a ≠ b := fun h => by subst h; simp at h1
   simp [this]
 refine Br.split (fun h2 => ?_) (fun h2 => ?_) <;> cbv
 · refine ⟨?_, trivial⟩;have : a ≠ b := fun h => by subst h; simp at h2
   simp [this]
 refine Br.split (fun h3 => ?_) (fun h3 => ?_) <;> cbv
 · refine ⟨?_, trivial⟩;have : a ≠ b := fun h => by subst h; simp at h3
   simp [this]
 refine Br.split (fun h4 => ?_) (fun h4 => ?_) <;> cbv
 · refine ⟨?_, trivial⟩;have : a ≠ b := fun h => by subst h; simp at h4
   simp [this]
 refine Br.split (fun h5 => ?_) (fun h5 => ?_) <;> cbv
 · refine ⟨?_, trivial⟩;have : a ≠ b := fun h => by subst h; simp at h5
   simp [this]
 refine Br.split (fun h6 => ?_) (fun h6 => ?_) <;> cbv
 · refine ⟨?_, trivial⟩;have : a ≠ b := fun h => by subst h; simp at h6
   simp [this]
 refine Br.split (fun h7 => ?_) (fun h7 => ?_) <;> cbv
 · refine ⟨?_, trivial⟩;have : a ≠ b := fun h => by subst h; simp at h7
   simp [this]
 refine Br.split (fun h8 => ?_) (fun h8 => ?_) <;> cbv
 · refine ⟨?_, trivial⟩;have : a ≠ b := fun h => by subst h; simp at h8
   simp [this]
 refine Br.split (fun h9 => ?_) (fun h9 => ?_) <;> cbv
 · refine ⟨?_, trivial⟩;have : a ≠ b := fun h => by subst h; simp at h9
   simp [this]
 refine ⟨?_, trivial⟩;have e0 : a.id = b.id := by simpa using h0
 have e1 : a.ah = b.ah := by simpa using h1
 have e2 : a.ak = b.ak := by simpa using h2
 have e3 : a.al = b.al := by simpa using h3
 have e4 : a.aJ = b.aJ := by simpa using h4
 have e5 : a.since = b.since := by simpa using h5
 have e6 : a.aC = b.aC := by simpa using h6
 have e7 : a.st = b.st := by simpa using h7
 have e8 : a.cm = b.cm := by simpa using h8
 have e9 : a.asked = b.asked := by simpa using h9
 have : a = b := by
   cases a; cases b;simp only at e0 e1 e2 e3 e4 e5 e6 e7 e8 e9;subst e0 e1 e2 e3 e4 e5 e6 e7 e8 e9;rfl
 simp [this]
theorem Mw (a b : bA) : Spec Tryz.prog 189 [fY a, fY b] (aE (bR fun _ => decide (a = b))) := by
 refine ay au Tryz.func189 rfl rfl (fr := true) (fun _ => by kernel_rfl) fun P hP hA => ?_;cbv;refine Br.split (fun h0 => ?_) (fun h0 => ?_) <;> cbv
 · refine ⟨?_, trivial⟩;have : a ≠ b := fun h => by subst h; simp at h0
   simp [this]
 refine Br.split (fun h1 => ?_) (fun h1 => ?_) <;> cbv
 · refine ⟨?_, trivial⟩;have : a ≠ b := fun h => by subst h; simp at h1
   simp [this]
 refine Br.split (fun h2 => ?_) (fun h2 => ?_) <;> cbv
 · refine ⟨?_, trivial⟩;have : a ≠ b := fun h => by subst h; simp at h2
   simp [this]
 refine Br.split (fun h3 => ?_) (fun h3 => ?_) <;> cbv
 · refine ⟨?_, trivial⟩;have : a ≠ b := fun h => by subst h; simp at h3
   simp [this]
 refine Br.split (fun h4 => ?_) (fun h4 => ?_) <;> cbv
 · refine ⟨?_, trivial⟩;have : a ≠ b := fun h => by subst h; simp at h4
   simp [this]
 refine ⟨?_, trivial⟩;have e0 : a.total = b.total := by simpa using h0
 have e1 : a.free = b.free := by simpa using h1
 have e2 : a.held = b.held := by simpa using h2
 have e3 : a.bn = b.bn := by simpa using h3
 have e4 : a.tied = b.tied := by simpa using h4
 have : a = b := by
   cases a; cases b;simp only at e0 e1 e2 e3 e4;subst e0 e1 e2 e3 e4;rfl
 simp [this]
theorem Mx (a b : List aB) : Spec Tryz.prog 262 [lA .aI a, lA .aI b] (aE (bR fun _ => decide (a = b))) := by
 refine ay au Tryz.func262 rfl rfl (fr := true) (fun _ => by kernel_rfl) fun P hP hA => ?_;obtain ⟨⟨ha, _⟩, _⟩ := hA;have ha : a.length ≤ 9223372036854775807 := ha;cbv;refine Br.split (fun h1 => ?_) (fun h1 => ?_) <;> cbv
 · refine ⟨?_, trivial⟩;have := l7 (a := a) (b := b) h1;simp [this]
 have h1 := l6 (a := a) (b := b) h1;refine aU.by (X := Nat) (fun i => [(0, lA .aI a), (1, lA .aI b), (5, nT fun _ => i)]) (fun _ => []) (fun i => i ≤ a.length ∧ a.take i = b.take i) (fun i _ => a.length - i) 0 ⟨Nat.zero_le _, by simp⟩ ?_ ?_
 · cbv; exact ⟨rfl, rfl, rfl, trivial⟩
 · intro i ⟨hi, ht⟩;cbv;refine Br.dec (fun h2 => ?_) (fun h2 => ?_) <;> cbv
   · have h2 : i < a.length := by simpa using h2
     refine ⟨a[i], by simp, get_cast a h2, ?_⟩;cbv;refine ⟨b[i], by simp, get_cast b (h1 ▸ h2), ?_⟩;cbv;refine ag.by hP (Mt a[i] (b[i]'(h1 ▸ h2))) ?_;cbv;refine Br.split (fun h3 => ?_) (fun h3 => ?_) <;> cbv
     · refine ⟨?_, trivial⟩;have := l4 h2 (h1 ▸ h2) (by simpa using h3);simp [this]
     · refine Ar.exact ?_ ?_ ?_
       · show -9223372036854775808 ≤ (i : Int) + 1;omega
       · show (i : Int) + 1 ≤ 9223372036854775807;omega
       cbv;refine aP.by (i + 1) ?_ ?_ ?_
       · show a.length - (i + 1) < a.length - i;omega
       · exact ⟨h2, l3 ht h2 (h1 ▸ h2) (by simpa using h3)⟩
       · cbv; exact ⟨rfl, rfl, rfl, trivial⟩
   · refine ⟨?_, trivial⟩;have h2 : a.length ≤ i := by simp at h2; omega
     simp [l5 h1 h2 ht]
theorem My (a b : List (List aB)) : Spec Tryz.prog 243 [lA .bZ a, lA .bZ b] (aE (bR fun _ => decide (a = b))) := by
 refine ay au Tryz.func243 rfl rfl (fr := true) (fun _ => by kernel_rfl) fun P hP hA => ?_;obtain ⟨⟨ha, _⟩, _⟩ := hA;have ha : a.length ≤ 9223372036854775807 := ha;cbv;refine Br.split (fun h1 => ?_) (fun h1 => ?_) <;> cbv
 · refine ⟨?_, trivial⟩;have := l7 (a := a) (b := b) h1;simp [this]
 have h1 := l6 (a := a) (b := b) h1;refine aU.by (X := Nat) (fun i => [(0, lA .bZ a), (1, lA .bZ b), (5, nT fun _ => i)]) (fun _ => []) (fun i => i ≤ a.length ∧ a.take i = b.take i) (fun i _ => a.length - i) 0 ⟨Nat.zero_le _, by simp⟩ ?_ ?_
 · cbv; exact ⟨rfl, rfl, rfl, trivial⟩
 · intro i ⟨hi, ht⟩;cbv;refine Br.dec (fun h2 => ?_) (fun h2 => ?_) <;> cbv
   · have h2 : i < a.length := by simpa using h2
     refine ⟨a[i], by simp, get_cast a h2, ?_⟩;cbv;refine ⟨b[i], by simp, get_cast b (h1 ▸ h2), ?_⟩;cbv;refine ag.by hP (Mx a[i] (b[i]'(h1 ▸ h2))) ?_;cbv;refine Br.split (fun h3 => ?_) (fun h3 => ?_) <;> cbv
     · refine ⟨?_, trivial⟩;have := l4 h2 (h1 ▸ h2) (by simpa using h3);simp [this]
     · refine Ar.exact ?_ ?_ ?_
       · show -9223372036854775808 ≤ (i : Int) + 1;omega
       · show (i : Int) + 1 ≤ 9223372036854775807;omega
       cbv;refine aP.by (i + 1) ?_ ?_ ?_
       · show a.length - (i + 1) < a.length - i;omega
       · exact ⟨h2, l3 ht h2 (h1 ▸ h2) (by simpa using h3)⟩
       · cbv; exact ⟨rfl, rfl, rfl, trivial⟩
   · refine ⟨?_, trivial⟩;have h2 : a.length ≤ i := by simp at h2; omega
     simp [l5 h1 h2 ht]
theorem Mz (a b : List Entry) : Spec Tryz.prog 190 [lA .aH a, lA .aH b] (aE (bR fun _ => decide (a = b))) := by
 refine ay au Tryz.func190 rfl rfl (fr := true) (fun _ => by kernel_rfl) fun P hP hA => ?_;obtain ⟨⟨ha, _⟩, _⟩ := hA;have ha : a.length ≤ 9223372036854775807 := ha;cbv;refine Br.split (fun h1 => ?_) (fun h1 => ?_) <;> cbv
 · refine ⟨?_, trivial⟩;have := l7 (a := a) (b := b) h1;simp [this]
 have h1 := l6 (a := a) (b := b) h1;refine aU.by (X := Nat) (fun i => [(0, lA .aH a), (1, lA .aH b), (5, nT fun _ => i)]) (fun _ => []) (fun i => i ≤ a.length ∧ a.take i = b.take i) (fun i _ => a.length - i) 0 ⟨Nat.zero_le _, by simp⟩ ?_ ?_
 · cbv; exact ⟨rfl, rfl, rfl, trivial⟩
 · intro i ⟨hi, ht⟩;cbv;refine Br.dec (fun h2 => ?_) (fun h2 => ?_) <;> cbv
   · have h2 : i < a.length := by simpa using h2
     refine ⟨a[i], by simp, get_cast a h2, ?_⟩;cbv;refine ⟨b[i], by simp, get_cast b (h1 ▸ h2), ?_⟩;cbv;refine ag.by hP (Mu a[i] (b[i]'(h1 ▸ h2))) ?_;cbv;refine Br.split (fun h3 => ?_) (fun h3 => ?_) <;> cbv
     · refine ⟨?_, trivial⟩;have := l4 h2 (h1 ▸ h2) (by simpa using h3);simp [this]
     · refine Ar.exact ?_ ?_ ?_
       · show -9223372036854775808 ≤ (i : Int) + 1;omega
       · show (i : Int) + 1 ≤ 9223372036854775807;omega
       cbv;refine aP.by (i + 1) ?_ ?_ ?_
       · show a.length - (i + 1) < a.length - i;omega
       · exact ⟨h2, l3 ht h2 (h1 ▸ h2) (by simpa using h3)⟩
       · cbv; exact ⟨rfl, rfl, rfl, trivial⟩
   · refine ⟨?_, trivial⟩;have h2 : a.length ≤ i := by simp at h2; omega
     simp [l5 h1 h2 ht]
theorem MA (a b : List aw) : Spec Tryz.prog 59 [lA .aG a, lA .aG b] (aE (bR fun _ => decide (a = b))) := by
 refine ay au Tryz.func59 rfl rfl (fr := true) (fun _ => by kernel_rfl) fun P hP hA => ?_;obtain ⟨⟨ha, _⟩, _⟩ := hA;have ha : a.length ≤ 9223372036854775807 := ha;cbv;refine Br.split (fun h1 => ?_) (fun h1 => ?_) <;> cbv
 · refine ⟨?_, trivial⟩;have := l7 (a := a) (b := b) h1;simp [this]
 have h1 := l6 (a := a) (b := b) h1;refine aU.by (X := Nat) (fun i => [(0, lA .aG a), (1, lA .aG b), (5, nT fun _ => i)]) (fun _ => []) (fun i => i ≤ a.length ∧ a.take i = b.take i) (fun i _ => a.length - i) 0 ⟨Nat.zero_le _, by simp⟩ ?_ ?_
 · cbv; exact ⟨rfl, rfl, rfl, trivial⟩
 · intro i ⟨hi, ht⟩;cbv;refine Br.dec (fun h2 => ?_) (fun h2 => ?_) <;> cbv
   · have h2 : i < a.length := by simpa using h2
     refine ⟨a[i], by simp, get_cast a h2, ?_⟩;cbv;refine ⟨b[i], by simp, get_cast b (h1 ▸ h2), ?_⟩;cbv;refine ag.by hP (Mv a[i] (b[i]'(h1 ▸ h2))) ?_;cbv;refine Br.split (fun h3 => ?_) (fun h3 => ?_) <;> cbv
     · refine ⟨?_, trivial⟩;have := l4 h2 (h1 ▸ h2) (by simpa using h3);simp [this]
     · refine Ar.exact ?_ ?_ ?_
       · show -9223372036854775808 ≤ (i : Int) + 1;omega
       · show (i : Int) + 1 ≤ 9223372036854775807;omega
       cbv;refine aP.by (i + 1) ?_ ?_ ?_
       · show a.length - (i + 1) < a.length - i;omega
       · exact ⟨h2, l3 ht h2 (h1 ▸ h2) (by simpa using h3)⟩
       · cbv; exact ⟨rfl, rfl, rfl, trivial⟩
   · refine ⟨?_, trivial⟩;have h2 : a.length ≤ i := by simp at h2; omega
     simp [l5 h1 h2 ht]
theorem MB (a b : List (List aB)) : Spec Tryz.prog 191 [iU a, iU b] (aE (bR fun _ => decide (a = b))) := by
 refine ay au Tryz.func191 rfl rfl (fr := true) (fun _ => by kernel_rfl) fun P hP hA => ?_;cbv;refine ag.by hP (My a b) ?_;cbv;refine Br.split (fun h => ?_) (fun h => ?_) <;> cbv
 · refine ⟨?_, trivial⟩;have : a ≠ b := by simpa using h
   simp [this]
 · refine ⟨?_, trivial⟩;have : a = b := by simpa using h
   simp [this]
theorem MC (a b : bd) : Spec Tryz.prog 119 [eA .ah a, eA .ah b] (aE (bR fun _ => decide (a = b))) := by
 refine ay au Tryz.func119 rfl rfl (fr := true) (fun _ => by kernel_rfl) fun P hP hA => ?_;cbv;refine ag.by hP (Mw a.aj b.aj) ?_;cbv;refine Br.split (fun h0 => ?_) (fun h0 => ?_) <;> cbv
 · refine ⟨?_, trivial⟩;have : a ≠ b := fun h => by subst h; simp at h0
   simp [this]
 have e0 : a.aj = b.aj := by simpa using h0
 refine ag.by hP (Mz a.row b.row) ?_;cbv;refine Br.split (fun h1 => ?_) (fun h1 => ?_) <;> cbv
 · refine ⟨?_, trivial⟩;have : a ≠ b := fun h => by subst h; simp at h1
   simp [this]
 have e1 : a.row = b.row := by simpa using h1
 refine ag.by hP (MB a.spoke b.spoke) ?_;cbv;refine Br.split (fun h2 => ?_) (fun h2 => ?_) <;> cbv
 · refine ⟨?_, trivial⟩;have : a ≠ b := fun h => by subst h; simp at h2
   simp [this]
 have e2 : a.spoke = b.spoke := by simpa using h2
 refine ⟨?_, trivial⟩
 have : a = b := by
   cases a; cases b;simp only at e0 e1 e2;subst e0 e1 e2;rfl
 simp [this]
theorem MD (a b : List bd) : Spec Tryz.prog 60 [lA .ah a, lA .ah b] (aE (bR fun _ => decide (a = b))) := by
 refine ay au Tryz.func60 rfl rfl (fr := true) (fun _ => by kernel_rfl) fun P hP hA => ?_;obtain ⟨⟨ha, _⟩, _⟩ := hA;have ha : a.length ≤ 9223372036854775807 := ha;cbv;refine Br.split (fun h1 => ?_) (fun h1 => ?_) <;> cbv
 · refine ⟨?_, trivial⟩;have := l7 (a := a) (b := b) h1;simp [this]
 have h1 := l6 (a := a) (b := b) h1;refine aU.by (X := Nat) (fun i => [(0, lA .ah a), (1, lA .ah b), (5, nT fun _ => i)]) (fun _ => []) (fun i => i ≤ a.length ∧ a.take i = b.take i) (fun i _ => a.length - i) 0 ⟨Nat.zero_le _, by simp⟩ ?_ ?_
 · cbv; exact ⟨rfl, rfl, rfl, trivial⟩
 · intro i ⟨hi, ht⟩;cbv;refine Br.dec (fun h2 => ?_) (fun h2 => ?_) <;> cbv
   · have h2 : i < a.length := by simpa using h2
     refine ⟨a[i], by simp, get_cast a h2, ?_⟩;cbv;refine ⟨b[i], by simp, get_cast b (h1 ▸ h2), ?_⟩;cbv;refine ag.by hP (MC a[i] (b[i]'(h1 ▸ h2))) ?_;cbv;refine Br.split (fun h3 => ?_) (fun h3 => ?_) <;> cbv
     · refine ⟨?_, trivial⟩;have := l4 h2 (h1 ▸ h2) (by simpa using h3);simp [this]
     · refine Ar.exact ?_ ?_ ?_
       · show -9223372036854775808 ≤ (i : Int) + 1;omega
       · show (i : Int) + 1 ≤ 9223372036854775807;omega
       cbv;refine aP.by (i + 1) ?_ ?_ ?_
       · show a.length - (i + 1) < a.length - i;omega
       · exact ⟨h2, l3 ht h2 (h1 ▸ h2) (by simpa using h3)⟩
       · cbv; exact ⟨rfl, rfl, rfl, trivial⟩
   · refine ⟨?_, trivial⟩;have h2 : a.length ≤ i := by simp at h2; omega
     simp [l5 h1 h2 ht]
theorem ME (a b : bI) : Spec Tryz.prog 58 [gM a, gM b] (aE (bR fun _ => decide (a = b))) := by
 refine ay au Tryz.func58 rfl rfl (fr := true) (fun _ => by kernel_rfl) fun P hP hA => ?_;cbv;refine ag.by hP (tw a.aj b.aj) ?_;cbv;refine Br.split (fun h0 => ?_) (fun h0 => ?_) <;> cbv
 · refine ⟨?_, trivial⟩;have : a ≠ b := fun h => by subst h; simp at h0
   simp [this]
 have e0 : a.aj = b.aj := by simpa using h0
 refine Br.split (fun h1 => ?_) (fun h1 => ?_) <;> cbv
 · refine ⟨?_, trivial⟩;have : a ≠ b := fun h => by subst h; simp at h1
   simp [this]
 have e1 : a.cn = b.cn := by simpa using h1
 refine Br.split (fun h2 => ?_) (fun h2 => ?_) <;> cbv
 · refine ⟨?_, trivial⟩;have : a ≠ b := fun h => by subst h; simp at h2
   simp [this]
 have e2 : a.room = b.room := by simpa using h2
 refine Br.split (fun h3 => ?_) (fun h3 => ?_) <;> cbv
 · refine ⟨?_, trivial⟩;have : a ≠ b := fun h => by subst h; simp at h3
   simp [this]
 have e3 : a.size = b.size := by simpa using h3
 refine Br.split (fun h4 => ?_) (fun h4 => ?_) <;> cbv
 · refine ⟨?_, trivial⟩;have : a ≠ b := fun h => by subst h; simp at h4
   simp [this]
 have e4 : a.period = b.period := by simpa using h4
 refine Br.split (fun h5 => ?_) (fun h5 => ?_) <;> cbv
 · refine ⟨?_, trivial⟩;have : a ≠ b := fun h => by subst h; simp at h5
   simp [this]
 have e5 : a.cp = b.cp := by simpa using h5
 refine Br.split (fun h6 => ?_) (fun h6 => ?_) <;> cbv
 · refine ⟨?_, trivial⟩;have : a ≠ b := fun h => by subst h; simp at h6
   simp [this]
 have e6 : a.rest = b.rest := by simpa using h6
 refine Br.split (fun h7 => ?_) (fun h7 => ?_) <;> cbv
 · refine ⟨?_, trivial⟩;have : a ≠ b := fun h => by subst h; simp at h7
   simp [this]
 have e7 : a.tries = b.tries := by simpa using h7
 refine Br.split (fun h8 => ?_) (fun h8 => ?_) <;> cbv
 · refine ⟨?_, trivial⟩;have : a ≠ b := fun h => by subst h; simp at h8
   simp [this]
 have e8 : a.cC = b.cC := by simpa using h8
 refine ⟨?_, trivial⟩
 have : a = b := by
   cases a; cases b;simp only at e0 e1 e2 e3 e4 e5 e6 e7 e8;subst e0 e1 e2 e3 e4 e5 e6 e7 e8;rfl
 simp [this]
theorem ky (a b : an) : Spec Tryz.prog 13 [cw a, cw b] (aE (bR fun _ => decide (a = b))) := by
 refine ay au Tryz.func13 rfl rfl (fr := true) (fun _ => by kernel_rfl) fun P hP hA => ?_;cbv;refine ag.by hP (ME a.rules b.rules) ?_;cbv;refine Br.split (fun h0 => ?_) (fun h0 => ?_) <;> cbv
 · refine ⟨?_, trivial⟩;have : a ≠ b := fun h => by subst h; simp at h0
   simp [this]
 have e0 : a.rules = b.rules := by simpa using h0
 refine Br.split (fun h1 => ?_) (fun h1 => ?_) <;> cbv
 · refine ⟨?_, trivial⟩;have : a ≠ b := fun h => by subst h; simp at h1
   simp [this]
 have e1 : a.now = b.now := by simpa using h1
 refine Br.split (fun h2 => ?_) (fun h2 => ?_) <;> cbv
 · refine ⟨?_, trivial⟩;have : a ≠ b := fun h => by subst h; simp at h2
   simp [this]
 have e2 : a.aC = b.aC := by simpa using h2
 refine ag.by hP (MA a.ae b.ae) ?_;cbv;refine Br.split (fun h3 => ?_) (fun h3 => ?_) <;> cbv
 · refine ⟨?_, trivial⟩;have : a ≠ b := fun h => by subst h; simp at h3
   simp [this]
 have e3 : a.ae = b.ae := by simpa using h3
 refine ag.by hP (MD a.cabins b.cabins) ?_;cbv;refine Br.split (fun h4 => ?_) (fun h4 => ?_) <;> cbv
 · refine ⟨?_, trivial⟩;have : a ≠ b := fun h => by subst h; simp at h4
   simp [this]
 have e4 : a.cabins = b.cabins := by simpa using h4
 refine ag.by hP (tw a.todo b.todo) ?_;cbv;refine Br.split (fun h5 => ?_) (fun h5 => ?_) <;> cbv
 · refine ⟨?_, trivial⟩;have : a ≠ b := fun h => by subst h; simp at h5
   simp [this]
 have e5 : a.todo = b.todo := by simpa using h5
 refine ag.by hP (tw a.aF b.aF) ?_;cbv;refine Br.split (fun h6 => ?_) (fun h6 => ?_) <;> cbv
 · refine ⟨?_, trivial⟩;have : a ≠ b := fun h => by subst h; simp at h6
   simp [this]
 have e6 : a.aF = b.aF := by simpa using h6
 refine ⟨?_, trivial⟩
 have : a = b := by
   cases a; cases b;simp only at e0 e1 e2 e3 e4 e5 e6;subst e0 e1 e2 e3 e4 e5 e6;rfl
 simp [this]
theorem MF (a : aB) : Spec Tryz.prog 270 [eA .aI a] (aE (eR .aI fun _ => a)) := by
 refine ay au Tryz.func270 rfl rfl (fr := true) (fun _ => by kernel_rfl) fun P hP hA => ?_;cbv;exact ⟨rfl, rfl, trivial⟩
theorem MG (a : Entry) : Spec Tryz.prog 236 [eA .aH a] (aE (eR .aH fun _ => a)) := by
 refine ay au Tryz.func236 rfl rfl (fr := true) (fun _ => by kernel_rfl) fun P hP hA => ?_;cbv;exact ⟨rfl, rfl, rfl, rfl, trivial⟩
theorem MH (a : aw) : Spec Tryz.prog 96 [eA .aG a] (aE (eR .aG fun _ => a)) := by
 refine ay au Tryz.func96 rfl rfl (fr := true) (fun _ => by kernel_rfl) fun P hP hA => ?_;cbv;exact ⟨rfl, rfl, rfl, rfl, rfl, rfl, rfl, rfl, rfl, rfl, trivial⟩
theorem MI (a : bA) : Spec Tryz.prog 175 [fY a] (aE (Ms fun _ => a)) := by
 refine ay au Tryz.func175 rfl rfl (fr := true) (fun _ => by kernel_rfl) fun P hP hA => ?_;cbv;exact ⟨rfl, rfl, rfl, rfl, rfl, trivial⟩
theorem MJ (a : List aB) (hs : a.length ≤ bc) : Spec Tryz.prog 259 [lA .aI a] (aE (lR .aI fun _ => a)) := by
 refine ay au Tryz.func259 rfl rfl (fr := true) (fun _ => by kernel_rfl) fun P hP hA => ?_;have hn : a.length ≤ 1048576 := hs;cbv;refine ⟨?_, ?_⟩
 · show 0 ≤ (a.length : Int) ∧ (a.length : Int) ≤ a.length ∧ (a.length : Int) * 16 ≤ 140737488355328;omega
 cbv;refine aU.by (X := Nat) (fun i => [(0, lA .aI a), (3, oN 0), (4, nT fun _ => i)]) (fun i => [(0, aN .aI fun _ => a.take i ++ List.replicate (a.length - i) default)]) (fun i => i ≤ a.length) (fun i _ => a.length - i) 0 (Nat.zero_le _) ?_ ?_
 · cbv;refine ⟨rfl, rfl, ?_, trivial⟩;show List.replicate ((a.length : Int)).toNat (default : aB) = a.take 0 ++ List.replicate (a.length - 0) default;simp
 · intro i hi;cbv;refine Br.dec (fun h2 => ?_) (fun h2 => ?_) <;> cbv
   · have h2 : i < a.length := by simpa using h2
     refine ⟨a[i], by simp, get_cast a h2, ?_⟩;cbv;refine ag.by hP (MF a[i]) ?_;cbv;refine ⟨?_, ?_⟩
     · show 0 ≤ (i : Int) ∧ (i : Int) < ((a.take i ++ List.replicate (a.length - i) (default : aB)).length : Int);rw [rC a default hi]; omega
     cbv;refine Sv.ik ?_;cbv;refine Ar.exact ?_ ?_ ?_
     · show -9223372036854775808 ≤ (i : Int) + 1;omega
     · show (i : Int) + 1 ≤ 9223372036854775807;omega
     cbv;refine aP.by (i + 1) ?_ ?_ ?_
     · show a.length - (i + 1) < a.length - i;omega
     · exact h2
     · cbv;refine ⟨rfl, rfl, ?_, trivial⟩;exact rB a default h2
   · have h2 : a.length ≤ i := by simp at h2; omega
     refine ⟨?_, trivial⟩;show a.take i ++ List.replicate (a.length - i) default = a;rw [show a.length - i = 0 by omega, List.take_of_length_le h2];simp
theorem MK (a : List (List aB)) (hs : iW a) : Spec Tryz.prog 237 [lA .bZ a] (aE (lR .bZ fun _ => a)) := by
 refine ay au Tryz.func237 rfl rfl (fr := true) (fun _ => by kernel_rfl) fun P hP hA => ?_;have hn : a.length ≤ 1048576 := hs.1;cbv;refine ⟨?_, ?_⟩
 · show 0 ≤ (a.length : Int) ∧ (a.length : Int) ≤ a.length ∧ (a.length : Int) * 24 ≤ 140737488355328;omega
 cbv;refine aU.by (X := Nat) (fun i => [(0, lA .bZ a), (3, oN 0), (4, nT fun _ => i)]) (fun i => [(0, aN .bZ fun _ => a.take i ++ List.replicate (a.length - i) [])]) (fun i => i ≤ a.length) (fun i _ => a.length - i) 0 (Nat.zero_le _) ?_ ?_
 · cbv;refine ⟨rfl, rfl, ?_, trivial⟩;show List.replicate ((a.length : Int)).toNat ([] : (List aB)) = a.take 0 ++ List.replicate (a.length - 0) [];simp
 · intro i hi;cbv;refine Br.dec (fun h2 => ?_) (fun h2 => ?_) <;> cbv
   · have h2 : i < a.length := by simpa using h2
     refine ⟨a[i], by simp, get_cast a h2, ?_⟩;cbv;refine ag.by hP (MJ a[i] (hs.2 _ (List.getElem_mem _))) ?_;cbv;refine ⟨?_, ?_⟩
     · show 0 ≤ (i : Int) ∧ (i : Int) < ((a.take i ++ List.replicate (a.length - i) ([] : (List aB))).length : Int);rw [rC a [] hi]; omega
     cbv;refine Sv.ik ?_;cbv;refine Ar.exact ?_ ?_ ?_
     · show -9223372036854775808 ≤ (i : Int) + 1;omega
     · show (i : Int) + 1 ≤ 9223372036854775807;omega
     cbv;refine aP.by (i + 1) ?_ ?_ ?_
     · show a.length - (i + 1) < a.length - i;omega
     · exact h2
     · cbv;refine ⟨rfl, rfl, ?_, trivial⟩;exact rB a [] h2
   · have h2 : a.length ≤ i := by simp at h2; omega
     refine ⟨?_, trivial⟩;show a.take i ++ List.replicate (a.length - i) [] = a;rw [show a.length - i = 0 by omega, List.take_of_length_le h2];simp
theorem ML (a : List Entry) (hs : a.length ≤ bc) : Spec Tryz.prog 176 [lA .aH a] (aE (lR .aH fun _ => a)) := by
 refine ay au Tryz.func176 rfl rfl (fr := true) (fun _ => by kernel_rfl) fun P hP hA => ?_;have hn : a.length ≤ 1048576 := hs;cbv;refine ⟨?_, ?_⟩
 · show 0 ≤ (a.length : Int) ∧ (a.length : Int) ≤ a.length ∧ (a.length : Int) * 32 ≤ 140737488355328;omega
 cbv;refine aU.by (X := Nat) (fun i => [(0, lA .aH a), (3, oN 0), (4, nT fun _ => i)]) (fun i => [(0, aN .aH fun _ => a.take i ++ List.replicate (a.length - i) default)]) (fun i => i ≤ a.length) (fun i _ => a.length - i) 0 (Nat.zero_le _) ?_ ?_
 · cbv;refine ⟨rfl, rfl, ?_, trivial⟩;show List.replicate ((a.length : Int)).toNat (default : Entry) = a.take 0 ++ List.replicate (a.length - 0) default;simp
 · intro i hi;cbv;refine Br.dec (fun h2 => ?_) (fun h2 => ?_) <;> cbv
   · have h2 : i < a.length := by simpa using h2
     refine ⟨a[i], by simp, get_cast a h2, ?_⟩;cbv;refine ag.by hP (MG a[i]) ?_;cbv;refine ⟨?_, ?_⟩
     · show 0 ≤ (i : Int) ∧ (i : Int) < ((a.take i ++ List.replicate (a.length - i) (default : Entry)).length : Int);rw [rC a default hi]; omega
     cbv;refine Sv.ik ?_;cbv;refine Ar.exact ?_ ?_ ?_
     · show -9223372036854775808 ≤ (i : Int) + 1;omega
     · show (i : Int) + 1 ≤ 9223372036854775807;omega
     cbv;refine aP.by (i + 1) ?_ ?_ ?_
     · show a.length - (i + 1) < a.length - i;omega
     · exact h2
     · cbv;refine ⟨rfl, rfl, ?_, trivial⟩;exact rB a default h2
   · have h2 : a.length ≤ i := by simp at h2; omega
     refine ⟨?_, trivial⟩;show a.take i ++ List.replicate (a.length - i) default = a;rw [show a.length - i = 0 by omega, List.take_of_length_le h2];simp
theorem MM (a : List aw) (hs : a.length ≤ bc) : Spec Tryz.prog 48 [lA .aG a] (aE (lR .aG fun _ => a)) := by
 refine ay au Tryz.func48 rfl rfl (fr := true) (fun _ => by kernel_rfl) fun P hP hA => ?_;have hn : a.length ≤ 1048576 := hs;cbv;refine ⟨?_, ?_⟩
 · show 0 ≤ (a.length : Int) ∧ (a.length : Int) ≤ a.length ∧ (a.length : Int) * 80 ≤ 140737488355328;omega
 cbv;refine aU.by (X := Nat) (fun i => [(0, lA .aG a), (3, oN 0), (4, nT fun _ => i)]) (fun i => [(0, aN .aG fun _ => a.take i ++ List.replicate (a.length - i) default)]) (fun i => i ≤ a.length) (fun i _ => a.length - i) 0 (Nat.zero_le _) ?_ ?_
 · cbv;refine ⟨rfl, rfl, ?_, trivial⟩;show List.replicate ((a.length : Int)).toNat (default : aw) = a.take 0 ++ List.replicate (a.length - 0) default;simp
 · intro i hi;cbv;refine Br.dec (fun h2 => ?_) (fun h2 => ?_) <;> cbv
   · have h2 : i < a.length := by simpa using h2
     refine ⟨a[i], by simp, get_cast a h2, ?_⟩;cbv;refine ag.by hP (MH a[i]) ?_;cbv;refine ⟨?_, ?_⟩
     · show 0 ≤ (i : Int) ∧ (i : Int) < ((a.take i ++ List.replicate (a.length - i) (default : aw)).length : Int);rw [rC a default hi]; omega
     cbv;refine Sv.ik ?_;cbv;refine Ar.exact ?_ ?_ ?_
     · show -9223372036854775808 ≤ (i : Int) + 1;omega
     · show (i : Int) + 1 ≤ 9223372036854775807;omega
     cbv;refine aP.by (i + 1) ?_ ?_ ?_
     · show a.length - (i + 1) < a.length - i;omega
     · exact h2
     · cbv;refine ⟨rfl, rfl, ?_, trivial⟩;exact rB a default h2
   · have h2 : a.length ≤ i := by simp at h2; omega
     refine ⟨?_, trivial⟩;show a.take i ++ List.replicate (a.length - i) default = a;rw [show a.length - i = 0 by omega, List.take_of_length_le h2];simp
theorem MN (a : List (List aB)) (hs : iW a) : Spec Tryz.prog 177 [iU a] (aE (Bd fun _ => a)) := by
 refine ay au Tryz.func177 rfl rfl (fr := true) (fun _ => by kernel_rfl) fun P hP hA => ?_;cbv;refine ag.by hP (MK a hs) ?_;cbv;exact ⟨rfl, trivial⟩
theorem MO (a : bd) (hs : fU a) : Spec Tryz.prog 97 [eA .ah a] (aE (eR .ah fun _ => a)) := by
 refine ay au Tryz.func97 rfl rfl (fr := true) (fun _ => by kernel_rfl) fun P hP hA => ?_;cbv;refine ag.by hP (MI a.aj) ?_;cbv;refine ag.by hP (ML a.row hs.1) ?_;cbv;refine ag.by hP (MN a.spoke hs.2) ?_;cbv;exact ⟨rfl, rfl, rfl, rfl, rfl, rfl, rfl, trivial⟩
theorem MP (a : List bd) (hs : jy a) : Spec Tryz.prog 49 [lA .ah a] (aE (lR .ah fun _ => a)) := by
 refine ay au Tryz.func49 rfl rfl (fr := true) (fun _ => by kernel_rfl) fun P hP hA => ?_;have hn : a.length ≤ 1048576 := hs.1;cbv;refine ⟨?_, ?_⟩
 · show 0 ≤ (a.length : Int) ∧ (a.length : Int) ≤ a.length ∧ (a.length : Int) * 88 ≤ 140737488355328;omega
 cbv;refine aU.by (X := Nat) (fun i => [(0, lA .ah a), (3, oN 0), (4, nT fun _ => i)]) (fun i => [(0, aN .ah fun _ => a.take i ++ List.replicate (a.length - i) default)]) (fun i => i ≤ a.length) (fun i _ => a.length - i) 0 (Nat.zero_le _) ?_ ?_
 · cbv;refine ⟨rfl, rfl, ?_, trivial⟩;show List.replicate ((a.length : Int)).toNat (default : bd) = a.take 0 ++ List.replicate (a.length - 0) default;simp
 · intro i hi;cbv;refine Br.dec (fun h2 => ?_) (fun h2 => ?_) <;> cbv
   · have h2 : i < a.length := by simpa using h2
     refine ⟨a[i], by simp, get_cast a h2, ?_⟩;cbv;refine ag.by hP (MO a[i] (hs.2 _ (List.getElem_mem _))) ?_;cbv;refine ⟨?_, ?_⟩
     · show 0 ≤ (i : Int) ∧ (i : Int) < ((a.take i ++ List.replicate (a.length - i) (default : bd)).length : Int);rw [rC a default hi]; omega
     cbv;refine Sv.ik ?_;cbv;refine Ar.exact ?_ ?_ ?_
     · show -9223372036854775808 ≤ (i : Int) + 1;omega
     · show (i : Int) + 1 ≤ 9223372036854775807;omega
     cbv;refine aP.by (i + 1) ?_ ?_ ?_
     · show a.length - (i + 1) < a.length - i;omega
     · exact h2
     · cbv;refine ⟨rfl, rfl, ?_, trivial⟩;exact rB a default h2
   · have h2 : a.length ≤ i := by simp at h2; omega
     refine ⟨?_, trivial⟩;show a.take i ++ List.replicate (a.length - i) default = a;rw [show a.length - i = 0 by omega, List.take_of_length_le h2];simp
theorem MQ (a : bI) (hs : a.aj.length ≤ bc) : Spec Tryz.prog 47 [gM a] (aE (Be fun _ => a)) := by
 refine ay au Tryz.func47 rfl rfl (fr := true) (fun _ => by kernel_rfl) fun P hP hA => ?_;cbv;refine ag.by hP (Bb a.aj hs) ?_;cbv;exact ⟨rfl, rfl, rfl, rfl, rfl, rfl, rfl, rfl, rfl, trivial⟩
theorem l8 (a : an) (hs : bh a) : Spec Tryz.prog 11 [cw a] (aE (kx fun _ => a)) := by
 refine ay au Tryz.func11 rfl rfl (fr := true) (fun _ => by kernel_rfl) fun P hP hA => ?_;obtain ⟨h1, h2, h3, h4, h5⟩ := hs;cbv;refine ag.by hP (MQ a.rules h1) ?_;cbv;refine ag.by hP (MM a.ae h2) ?_;cbv;refine ag.by hP (MP a.cabins h3) ?_;cbv;refine ag.by hP (Bb a.todo h4) ?_;cbv;refine ag.by hP (Bb a.aF h5) ?_;cbv;exact ⟨rfl, rfl, rfl, rfl, rfl, rfl, rfl, rfl, rfl, rfl, rfl, rfl, rfl, rfl, rfl, trivial⟩
theorem MR (a : List aB) (left : Int) (h0 : 0 ≤ left) (hb : left ≤ 1048576) : Spec Tryz.prog 257 [lA .aI a, iA left] (jR Int (fun r => mR (a.length ≤ bc) left r) fun r => iR fun _ => r) := by
 refine ay au Tryz.func257 rfl rfl (fr := true) (fun _ => by kernel_rfl) fun P hP hA => ?_;obtain ⟨⟨ha, _⟩, hl, _⟩ := hA;have ha : a.length ≤ 9223372036854775807 := ha;cbv;refine Ar.exact ?_ ?_ ?_
 · show -9223372036854775808 ≤ left - (a.length : Int);omega
 · show left - (a.length : Int) ≤ 9223372036854775807;omega
 cbv;refine Br.dec (fun h => ?_) (fun h => ?_) <;> cbv
 · refine ⟨-1, ⟨by omega, by omega, by omega⟩, ?_⟩;cbv; exact ⟨rfl, trivial⟩
 · have h : ¬ left - (a.length : Int) < 0 := h;refine ⟨left - a.length, ⟨by omega, by omega, fun _ => ?_⟩, ?_⟩
   · show a.length ≤ 1048576;omega
   · cbv; exact ⟨rfl, trivial⟩
theorem MS (a : List Entry) (left : Int) (h0 : 0 ≤ left) (hb : left ≤ 1048576) : Spec Tryz.prog 160 [lA .aH a, iA left] (jR Int (fun r => mR (a.length ≤ bc) left r) fun r => iR fun _ => r) := by
 refine ay au Tryz.func160 rfl rfl (fr := true) (fun _ => by kernel_rfl) fun P hP hA => ?_;obtain ⟨⟨ha, _⟩, hl, _⟩ := hA;have ha : a.length ≤ 9223372036854775807 := ha;cbv;refine Ar.exact ?_ ?_ ?_
 · show -9223372036854775808 ≤ left - (a.length : Int);omega
 · show left - (a.length : Int) ≤ 9223372036854775807;omega
 cbv;refine Br.dec (fun h => ?_) (fun h => ?_) <;> cbv
 · refine ⟨-1, ⟨by omega, by omega, by omega⟩, ?_⟩;cbv; exact ⟨rfl, trivial⟩
 · have h : ¬ left - (a.length : Int) < 0 := h;refine ⟨left - a.length, ⟨by omega, by omega, fun _ => ?_⟩, ?_⟩
   · show a.length ≤ 1048576;omega
   · cbv; exact ⟨rfl, trivial⟩
theorem MT (a : List aw) (left : Int) (h0 : 0 ≤ left) (hb : left ≤ 1048576) : Spec Tryz.prog 41 [lA .aG a, iA left] (jR Int (fun r => mR (a.length ≤ bc) left r) fun r => iR fun _ => r) := by
 refine ay au Tryz.func41 rfl rfl (fr := true) (fun _ => by kernel_rfl) fun P hP hA => ?_;obtain ⟨⟨ha, _⟩, hl, _⟩ := hA;have ha : a.length ≤ 9223372036854775807 := ha;cbv;refine Ar.exact ?_ ?_ ?_
 · show -9223372036854775808 ≤ left - (a.length : Int);omega
 · show left - (a.length : Int) ≤ 9223372036854775807;omega
 cbv;refine Br.dec (fun h => ?_) (fun h => ?_) <;> cbv
 · refine ⟨-1, ⟨by omega, by omega, by omega⟩, ?_⟩;cbv; exact ⟨rfl, trivial⟩
 · have h : ¬ left - (a.length : Int) < 0 := h;refine ⟨left - a.length, ⟨by omega, by omega, fun _ => ?_⟩, ?_⟩
   · show a.length ≤ 1048576;omega
   · cbv; exact ⟨rfl, trivial⟩
theorem MU (a : List (List aB)) (left : Int) (h0 : 0 ≤ left) (hb : left ≤ 1048576) : Spec Tryz.prog 224 [lA .bZ a, iA left] (jR Int (fun r => mR (a.length ≤ bc ∧ ∀ x ∈ a, x.length ≤ bc) left r) fun r => iR fun _ => r) := by
 refine ay au Tryz.func224 rfl rfl (fr := true) (fun _ => by kernel_rfl) fun P hP hA => ?_;obtain ⟨⟨ha, _⟩, hl, _⟩ := hA;have ha : a.length ≤ 9223372036854775807 := ha;cbv;refine Ar.exact ?_ ?_ ?_
 · show -9223372036854775808 ≤ left - (a.length : Int);omega
 · show left - (a.length : Int) ≤ 9223372036854775807;omega
 cbv;refine Br.dec (fun h => ?_) (fun h => ?_) <;> cbv
 · refine ⟨-1, ⟨by omega, by omega, by omega⟩, ?_⟩;cbv; exact ⟨rfl, trivial⟩
 have h : ¬ left - (a.length : Int) < 0 := h;have hn : a.length ≤ 1048576 := by omega
 refine aU.by (X := Nat × Int) (fun p => [(0, lA .bZ a), (1, iT fun _ => p.2), (5, nT fun _ => p.1)]) (fun _ => []) (fun p => p.1 ≤ a.length ∧ 0 ≤ p.2 ∧ p.2 ≤ left ∧ ∀ x ∈ a.take p.1, x.length ≤ bc) (fun p _ => a.length - p.1) (0, left - a.length) ⟨Nat.zero_le _, by show 0 ≤ left - (a.length : Int); omega, by show left - (a.length : Int) ≤ left; omega, by simp⟩ ?_ ?_
 · cbv; exact ⟨rfl, rfl, rfl, trivial⟩
 · rintro ⟨i, l⟩ ⟨hi, h1, h2, h3⟩
   have hi : i ≤ a.length := hi;have h1 : 0 ≤ l := h1;have h2 : l ≤ left := h2;cbv;refine Br.dec (fun h4 => ?_) (fun h4 => ?_) <;> cbv
   · have h4 : (i : Int) < (a.length : Int) := h4;have h4 : i < a.length := by omega
     refine ⟨a[i], by simp, get_cast a h4, ?_⟩;cbv;refine ag.ex hP (MR a[i] l h1 (by omega)) fun r hr => ?_;cbv;refine Br.dec (fun h5 => ?_) (fun h5 => ?_) <;> cbv
     · refine ⟨-1, ⟨by omega, by omega, by omega⟩, ?_⟩;cbv; exact ⟨rfl, trivial⟩
     have h5 : 0 ≤ r := by have h5 : ¬ r < 0 := h5; omega
     refine Ar.exact ?_ ?_ ?_
     · show -9223372036854775808 ≤ (i : Int) + 1;omega
     · show (i : Int) + 1 ≤ 9223372036854775807;omega
     cbv;refine aP.by (i + 1, r) ?_ ?_ ?_
     · show a.length - (i + 1) < a.length - i;omega
     · refine ⟨h4, h5, Int.le_trans hr.hi h2, fun y hy => ?_⟩;have hy : y ∈ a.take (i + 1) := hy;rw [List.take_add_one, List.getElem?_eq_getElem h4, List.mem_append] at hy;rcases hy with hy | hy
       · exact h3 y hy
       · simp at hy; subst hy; exact hr.ok h5
     · cbv; exact ⟨rfl, rfl, rfl, trivial⟩
   · have h4 : ¬ (i : Int) < (a.length : Int) := h4;have h4 : a.length ≤ i := by omega
     refine ⟨l, ⟨by omega, h2, fun _ => ⟨hn, fun x hx => h3 x ?_⟩⟩, ?_⟩
     · show x ∈ a.take i;rw [List.take_of_length_le h4]; exact hx
     · cbv; exact ⟨rfl, trivial⟩
theorem MV (a : List (List aB)) (left : Int) (h0 : 0 ≤ left) (hb : left ≤ 1048576) : Spec Tryz.prog 161 [iU a, iA left] (jR Int (fun r => mR (iW a) left r) fun r => iR fun _ => r) := by
 refine ay au Tryz.func161 rfl rfl (fr := true) (fun _ => by kernel_rfl) fun P hP hA => ?_;cbv;have g0 : left ≤ 1048576 := by omega
 refine ag.ex hP (MU a left h0 g0) fun r0 mT => ?_;cbv;have Bf := mT.hi;refine Br.dec (fun k0 => ?_) (fun k0 => ?_) <;> cbv
 · refine ⟨-1, ⟨by omega, by omega, by omega⟩, ?_⟩;cbv; exact ⟨rfl, trivial⟩
 have p0 : 0 ≤ r0 := by
   have k : ¬ r0 < 0 := k0;omega
 refine ⟨r0, ⟨by omega, by omega, fun _ => mT.ok p0⟩, ?_⟩;cbv; exact ⟨rfl, trivial⟩
theorem MW (a : bd) (left : Int) (h0 : 0 ≤ left) (hb : left ≤ 1048576) : Spec Tryz.prog 85 [eA .ah a, iA left] (jR Int (fun r => mR (fU a) left r) fun r => iR fun _ => r) := by
 refine ay au Tryz.func85 rfl rfl (fr := true) (fun _ => by kernel_rfl) fun P hP hA => ?_;cbv;have g0 : left ≤ 1048576 := by omega
 refine ag.ex hP (MS a.row left h0 g0) fun r0 mT => ?_;cbv;have Bf := mT.hi;refine Br.dec (fun k0 => ?_) (fun k0 => ?_) <;> cbv
 · refine ⟨-1, ⟨by omega, by omega, by omega⟩, ?_⟩;cbv; exact ⟨rfl, trivial⟩
 have p0 : 0 ≤ r0 := by
   have k : ¬ r0 < 0 := k0;omega
 have g1 : r0 ≤ 1048576 := by omega
 refine ag.ex hP (MV a.spoke r0 p0 g1) fun r1 vu => ?_;cbv;have MX := vu.hi;refine Br.dec (fun k1 => ?_) (fun k1 => ?_) <;> cbv
 · refine ⟨-1, ⟨by omega, by omega, by omega⟩, ?_⟩;cbv; exact ⟨rfl, trivial⟩
 have p1 : 0 ≤ r1 := by
   have k : ¬ r1 < 0 := k1;omega
 refine ⟨r1, ⟨by omega, by omega, fun _ => ⟨mT.ok p0, vu.ok p1⟩⟩, ?_⟩;cbv; exact ⟨rfl, trivial⟩
theorem MY (a : List bd) (left : Int) (h0 : 0 ≤ left) (hb : left ≤ 1048576) : Spec Tryz.prog 42 [lA .ah a, iA left] (jR Int (fun r => mR (a.length ≤ bc ∧ ∀ x ∈ a, fU x) left r) fun r => iR fun _ => r) := by
 refine ay au Tryz.func42 rfl rfl (fr := true) (fun _ => by kernel_rfl) fun P hP hA => ?_;obtain ⟨⟨ha, _⟩, hl, _⟩ := hA;have ha : a.length ≤ 9223372036854775807 := ha;cbv;refine Ar.exact ?_ ?_ ?_
 · show -9223372036854775808 ≤ left - (a.length : Int);omega
 · show left - (a.length : Int) ≤ 9223372036854775807;omega
 cbv;refine Br.dec (fun h => ?_) (fun h => ?_) <;> cbv
 · refine ⟨-1, ⟨by omega, by omega, by omega⟩, ?_⟩;cbv; exact ⟨rfl, trivial⟩
 have h : ¬ left - (a.length : Int) < 0 := h;have hn : a.length ≤ 1048576 := by omega
 refine aU.by (X := Nat × Int) (fun p => [(0, lA .ah a), (1, iT fun _ => p.2), (5, nT fun _ => p.1)]) (fun _ => []) (fun p => p.1 ≤ a.length ∧ 0 ≤ p.2 ∧ p.2 ≤ left ∧ ∀ x ∈ a.take p.1, fU x) (fun p _ => a.length - p.1) (0, left - a.length) ⟨Nat.zero_le _, by show 0 ≤ left - (a.length : Int); omega, by show left - (a.length : Int) ≤ left; omega, by simp⟩ ?_ ?_
 · cbv; exact ⟨rfl, rfl, rfl, trivial⟩
 · rintro ⟨i, l⟩ ⟨hi, h1, h2, h3⟩
   have hi : i ≤ a.length := hi;have h1 : 0 ≤ l := h1;have h2 : l ≤ left := h2;cbv;refine Br.dec (fun h4 => ?_) (fun h4 => ?_) <;> cbv
   · have h4 : (i : Int) < (a.length : Int) := h4;have h4 : i < a.length := by omega
     refine ⟨a[i], by simp, get_cast a h4, ?_⟩;cbv;refine ag.ex hP (MW a[i] l h1 (by omega)) fun r hr => ?_;cbv;refine Br.dec (fun h5 => ?_) (fun h5 => ?_) <;> cbv
     · refine ⟨-1, ⟨by omega, by omega, by omega⟩, ?_⟩;cbv; exact ⟨rfl, trivial⟩
     have h5 : 0 ≤ r := by have h5 : ¬ r < 0 := h5; omega
     refine Ar.exact ?_ ?_ ?_
     · show -9223372036854775808 ≤ (i : Int) + 1;omega
     · show (i : Int) + 1 ≤ 9223372036854775807;omega
     cbv;refine aP.by (i + 1, r) ?_ ?_ ?_
     · show a.length - (i + 1) < a.length - i;omega
     · refine ⟨h4, h5, Int.le_trans hr.hi h2, fun y hy => ?_⟩;have hy : y ∈ a.take (i + 1) := hy;rw [List.take_add_one, List.getElem?_eq_getElem h4, List.mem_append] at hy;rcases hy with hy | hy
       · exact h3 y hy
       · simp at hy; subst hy; exact hr.ok h5
     · cbv; exact ⟨rfl, rfl, rfl, trivial⟩
   · have h4 : ¬ (i : Int) < (a.length : Int) := h4;have h4 : a.length ≤ i := by omega
     refine ⟨l, ⟨by omega, h2, fun _ => ⟨hn, fun x hx => h3 x ?_⟩⟩, ?_⟩
     · show x ∈ a.take i;rw [List.take_of_length_le h4]; exact hx
     · cbv; exact ⟨rfl, trivial⟩
theorem MZ (a : bI) (left : Int) (h0 : 0 ≤ left) (hb : left ≤ 1048576) : Spec Tryz.prog 40 [gM a, iA left] (jR Int (fun r => mR (a.aj.length ≤ bc) left r) fun r => iR fun _ => r) := by
 refine ay au Tryz.func40 rfl rfl (fr := true) (fun _ => by kernel_rfl) fun P hP hA => ?_;cbv;have g0 : left ≤ 1048576 := by omega
 refine ag.ex hP (Ba a.aj left h0 g0) fun r0 mT => ?_;cbv;have Bf := mT.hi;refine Br.dec (fun k0 => ?_) (fun k0 => ?_) <;> cbv
 · refine ⟨-1, ⟨by omega, by omega, by omega⟩, ?_⟩;cbv; exact ⟨rfl, trivial⟩
 have p0 : 0 ≤ r0 := by
   have k : ¬ r0 < 0 := k0;omega
 refine ⟨r0, ⟨by omega, by omega, fun _ => mT.ok p0⟩, ?_⟩;cbv; exact ⟨rfl, trivial⟩
theorem tz (a : an) (left : Int) (h0 : 0 ≤ left) (hb : left ≤ 1048576) : Spec Tryz.prog 9 [cw a, iA left] (jR Int (fun r => mR (bh a) left r) fun r => iR fun _ => r) := by
 refine ay au Tryz.func9 rfl rfl (fr := true) (fun _ => by kernel_rfl) fun P hP hA => ?_;cbv;have g0 : left ≤ 1048576 := by omega
 refine ag.ex hP (MZ a.rules left h0 g0) fun r0 mT => ?_;cbv;have Bf := mT.hi;refine Br.dec (fun k0 => ?_) (fun k0 => ?_) <;> cbv
 · refine ⟨-1, ⟨by omega, by omega, by omega⟩, ?_⟩;cbv; exact ⟨rfl, trivial⟩
 have p0 : 0 ≤ r0 := by
   have k : ¬ r0 < 0 := k0;omega
 have g1 : r0 ≤ 1048576 := by omega
 refine ag.ex hP (MT a.ae r0 p0 g1) fun r1 vu => ?_;cbv;have MX := vu.hi;refine Br.dec (fun k1 => ?_) (fun k1 => ?_) <;> cbv
 · refine ⟨-1, ⟨by omega, by omega, by omega⟩, ?_⟩;cbv; exact ⟨rfl, trivial⟩
 have p1 : 0 ≤ r1 := by
   have k : ¬ r1 < 0 := k1;omega
 have g2 : r1 ≤ 1048576 := by omega
 refine ag.ex hP (MY a.cabins r1 p1 g2) fun r2 yd => ?_;cbv;have Rm := yd.hi;refine Br.dec (fun k2 => ?_) (fun k2 => ?_) <;> cbv
 · refine ⟨-1, ⟨by omega, by omega, by omega⟩, ?_⟩;cbv; exact ⟨rfl, trivial⟩
 have p2 : 0 ≤ r2 := by
   have k : ¬ r2 < 0 := k2;omega
 have g3 : r2 ≤ 1048576 := by omega
 refine ag.ex hP (Ba a.todo r2 p2 g3) fun r3 F3 => ?_;cbv;have Rn := F3.hi;refine Br.dec (fun k3 => ?_) (fun k3 => ?_) <;> cbv
 · refine ⟨-1, ⟨by omega, by omega, by omega⟩, ?_⟩;cbv; exact ⟨rfl, trivial⟩
 have p3 : 0 ≤ r3 := by
   have k : ¬ r3 < 0 := k3;omega
 have g4 : r3 ≤ 1048576 := by omega
 refine ag.ex hP (Ba a.aF r3 p3 g4) fun r4 F4 => ?_;cbv;have Ro := F4.hi;refine Br.dec (fun k4 => ?_) (fun k4 => ?_) <;> cbv
 · refine ⟨-1, ⟨by omega, by omega, by omega⟩, ?_⟩;cbv; exact ⟨rfl, trivial⟩
 have p4 : 0 ≤ r4 := by
   have k : ¬ r4 < 0 := k4;omega
 refine ⟨r4, ⟨by omega, by omega, fun _ => ⟨mT.ok p0, vu.ok p1, yd.ok p2, F3.ok p3, F4.ok p4⟩⟩, ?_⟩;cbv; exact ⟨rfl, trivial⟩
end Go.Proofs.YticeaiiffeccmaaGreat

