/- Parts of a proof. No conditions. -/

import Derived.Test.YticeaiiffeccmaaGreatG05
import Derived.Test.YticeaiiffeccmaaGreatG07
set_option linter.unusedSimpArgs false
set_option linter.unusedVariables false
namespace Go.Proofs.YticeaiiffeccmaaGreat
open Go
set_option maxRecDepth 100000
def rA (x : fK) : V := eA .rep x
theorem CO (a b : fK) : Spec Tryz.prog 28 [rA a, rA b] (aE (bR fun _ => decide (a = b))) := by
 refine ay au Tryz.func28 rfl rfl (fr := true) (fun _ => by kernel_rfl) fun P hP hA => ?_;cbv;refine Br.split (fun h1 => ?_) (fun h1 => ?_) <;> cbv
 · refine ⟨?_, trivial⟩;have : a ≠ b := fun h => by subst h; simp at h1
   simp [this]
 refine ag.by hP (tw a.ids b.ids) ?_;cbv;refine Br.split (fun h2 => ?_) (fun h2 => ?_) <;> cbv
 · refine ⟨?_, trivial⟩;have : a ≠ b := fun h => by subst h; simp at h2
   simp [this]
 · refine ⟨?_, trivial⟩;have : a = b := by cases a; cases b; simp_all
   simp [this]
def yP (a : List fK) : Prop := a.length ≤ bc ∧ ∀ x ∈ a, x.ids.length ≤ bc
theorem QR (a b : List fK) : Spec Tryz.prog 35 [lA .rep a, lA .rep b] (aE (bR fun _ => decide (a = b))) := by
 refine ay au Tryz.func35 rfl rfl (fr := true) (fun _ => by kernel_rfl) fun P hP hA => ?_;obtain ⟨⟨ha, _⟩, _⟩ := hA;have ha : a.length ≤ 9223372036854775807 := ha;cbv;refine Br.split (fun h1 => ?_) (fun h1 => ?_) <;> cbv
 · refine ⟨?_, trivial⟩;have := l7 (a := a) (b := b) h1;simp [this]
 have h1 := l6 (a := a) (b := b) h1;refine aU.by (X := Nat) (fun i => [(0, lA .rep a), (1, lA .rep b), (5, nT fun _ => i)]) (fun _ => []) (fun i => i ≤ a.length ∧ a.take i = b.take i) (fun i _ => a.length - i) 0 ⟨Nat.zero_le _, by simp⟩ ?_ ?_
 · cbv; exact ⟨rfl, rfl, rfl, trivial⟩
 · intro i ⟨hi, ht⟩;cbv;refine Br.dec (fun h2 => ?_) (fun h2 => ?_) <;> cbv
   · have h2 : i < a.length := by simpa using h2
     refine ⟨a[i], by simp, get_cast a h2, ?_⟩;cbv;refine ⟨b[i], by simp, get_cast b (h1 ▸ h2), ?_⟩;cbv;refine ag.by hP (CO a[i] (b[i]'(h1 ▸ h2))) ?_;cbv;refine Br.split (fun h3 => ?_) (fun h3 => ?_) <;> cbv
     · refine ⟨?_, trivial⟩;have := l4 h2 (h1 ▸ h2) (by simpa using h3);simp [this]
     · refine Ar.exact ?_ ?_ ?_
       · show -9223372036854775808 ≤ (i : Int) + 1;omega
       · show (i : Int) + 1 ≤ 9223372036854775807;omega
       cbv;refine aP.by (i + 1) ?_ ?_ ?_
       · show a.length - (i + 1) < a.length - i;omega
       · exact ⟨h2, l3 ht h2 (h1 ▸ h2) (by simpa using h3)⟩
       · cbv; exact ⟨rfl, rfl, rfl, trivial⟩
   · refine ⟨?_, trivial⟩;have h2 : a.length ≤ i := by simp at h2; omega
     simp [l5 h1 h2 ht]
def eG : List fK → Nat → List fK
 | [], _ => []
 | x :: xs, k => ⟨((k : Nat) : Int), eY x.ids.length (k + 1)⟩ :: eG xs (k + 1 + x.ids.length)
def cH : List fK → Nat → Nat
 | [], k => k
 | x :: xs, k => cH xs (k + 1 + x.ids.length)
theorem nY : ∀ (a : List fK) (k : Nat), (eG a k).length = a.length
 | [], _ => rfl
 | x :: xs, k => by simp [eG, nY xs]
theorem CP : ∀ (a b : List fK) (k : Nat), eG (a ++ b) k = eG a k ++ eG b (cH a k)
 | [], _, _ => rfl
 | x :: xs, b, k => by simp [eG, cH, CP xs b]
theorem CQ : ∀ (a b : List fK) (k : Nat), cH (a ++ b) k = cH b (cH a k)
 | [], _, _ => rfl
 | x :: xs, b, k => by simp [cH, CQ xs b]
theorem I6 : ∀ (a : List fK) (k n : Nat), (∀ x ∈ a, x.ids.length ≤ n) → cH a k ≤ k + a.length * (n + 1)
 | [], k, n, _ => by simp [cH]
 | x :: xs, k, n, h => by
   have h1 := I6 xs (k + 1 + x.ids.length) n fun y hy => h y (List.mem_cons_of_mem _ hy);have h2 := h x List.mem_cons_self;simp only [cH, List.length_cons, Nat.add_mul];omega
theorem I7 {a : List fK} {k i : Nat} (hs : yP a) (hk : k + a.length * 1048577 ≤ 4611686018427387904) (h : i < a.length) : cH (a.take i) k + 1048577 ≤ 4611686018427387904 := by
 have h1 := I6 (a.take i) k 1048576 fun x ov => hs.2 x (List.mem_of_mem_take ov);have h3 := Nat.mul_le_mul_right 1048577 (show (a.take i).length + 1 ≤ a.length by rw [List.length_take]; omega);rw [Nat.add_mul] at h3; omega
theorem QS {a : List fK} {i : Nat} (k : Nat) (h : i < a.length) : (eG a k)[i]? = some ⟨((cH (a.take i) k : Nat) : Int), eY a[i].ids.length (cH (a.take i) k + 1)⟩ := by
 conv => lhs; rw [← List.take_append_drop i a, CP, List.getElem?_append_right (by rw [nY, List.length_take]; omega), nY, List.length_take, Nat.min_eq_left (by omega), Nat.sub_self, List.drop_eq_getElem_cons h]
 rfl
theorem QT {a : List fK} {i : Nat} (k : Nat) (h : i < a.length) : cH (a.take (i + 1)) k = cH (a.take i) k + 1 + a[i].ids.length := by
 rw [List.take_add_one, List.getElem?_eq_getElem h];simp only [Option.toList_some];rw [CQ]; rfl
theorem QU (a : List fK) (k : Nat) (hs : yP a) (hk : k + a.length * 1048577 ≤ 4611686018427387904) : Spec Tryz.prog 39 [lT .rep fun _ => eG a k, nT fun _ => k] (aE (nR fun _ => cH a k)) := by
 have hn : a.length ≤ 1048576 := hs.1;refine ay au Tryz.func39 rfl rfl (fr := true) (fun _ => by kernel_rfl) fun P hP hA => ?_;cbv;refine aU.by (X := Nat) (fun i => [(0, lT .rep fun _ => eG a k), (1, nT fun _ => cH (a.take i) k), (5, nT fun _ => i)]) (fun _ => []) (fun i => i ≤ a.length) (fun i _ => a.length - i) 0 (Nat.zero_le _) ?_ ?_
 · cbv
   repeat' first | exact trivial | refine ⟨rfl, ?_⟩ | fail
 · intro i hi;cbv;refine Br.dec (fun h2 => ?_) (fun h2 => ?_) <;> cbv
   · have h2 : (i : Int) < ((eG a k).length : Int) := h2;rw [nY] at h2;have h2 : i < a.length := by omega
     have A_ := I7 hs hk h2;have QV : a[i].ids.length ≤ 1048576 := hs.2 _ (List.getElem_mem _)
     have hg : (eG a k)[((i : Int)).toNat]? = some ⟨((cH (a.take i) k : Nat) : Int), eY a[i].ids.length (cH (a.take i) k + 1)⟩ := by
       rw [Int.toNat_natCast, QS k h2]
     refine Ix.mk ⟨((cH (a.take i) k : Nat) : Int), eY a[i].ids.length (cH (a.take i) k + 1)⟩ (by simp) hg ?_;cbv;refine Br.split (fun g0 => ?_) (fun g0 => ?_) <;> cbv
     · exfalso;have g0 : (((cH (a.take i) k : Nat) : Int) != ((cH (a.take i) k : Nat) : Int)) = true := g0;simp at g0
     refine Ar.exact ?_ ?_ ?_
     · show -9223372036854775808 ≤ ((cH (a.take i) k : Nat) : Int) + 1;omega
     · show ((cH (a.take i) k : Nat) : Int) + 1 ≤ 9223372036854775807;omega
     cbv;refine Ix.mk ⟨((cH (a.take i) k : Nat) : Int), eY a[i].ids.length (cH (a.take i) k + 1)⟩ (by simp) hg ?_;cbv;refine ag.by hP (rE a[i].ids.length (cH (a.take i) k + 1) (by omega)) ?_;cbv;refine Br.dec (fun g1 => ?_) (fun g1 => ?_) <;> cbv
     · exfalso;have g1 : ((cH (a.take i) k + 1 + a[i].ids.length : Nat) : Int) < 0 := g1;omega
     refine Ar.exact ?_ ?_ ?_
     · show -9223372036854775808 ≤ (i : Int) + 1;omega
     · show (i : Int) + 1 ≤ 9223372036854775807;omega
     cbv;refine aP.by (i + 1) ?_ ?_ ?_
     · show a.length - (i + 1) < a.length - i;omega
     · exact h2
     · cbv;refine ⟨rfl, ?_, rfl, trivial⟩;show ((cH (a.take i) k + 1 + a[i].ids.length : Nat) : Int) = ((cH (a.take (i + 1)) k : Nat) : Int);rw [QT k h2]
   · have h2 : ¬ (i : Int) < ((eG a k).length : Int) := h2;rw [nY] at h2;have h2 : a.length ≤ i := by omega
     refine ⟨?_, trivial⟩;show ((cH (a.take i) k : Nat) : Int) = ((cH a k : Nat) : Int);rw [List.take_of_length_le h2]
theorem QW (a : List fK) (k : Nat) (hs : yP a) (hk : k + a.length * 1048577 ≤ 4611686018427387904) :
   cB Tryz.prog 38 [oN 0, nT fun _ => k] [(0, aN .rep fun _ => a)] (cV (nR fun _ => cH a k) [(0, .own .rep fun _ => eG a k)]) := by
 refine dW au Tryz.func38 rfl rfl (fr := true) (fun _ => by kernel_rfl) rfl rfl fun P hP hA hB => ?_;have hn : a.length ≤ 1048576 := hs.1;have hx := hs.2;cbv;refine aU.by (X := Nat) (fun i => [(0, oN 0), (1, nT fun _ => cH (a.take i) k), (5, nT fun _ => i)]) (fun i => [(0, aN .rep fun _ => eG (a.take i) k ++ a.drop i)]) (fun i => i ≤ a.length) (fun i _ => a.length - i) 0 (Nat.zero_le _) ?_ ?_
 · cbv;exact ⟨rfl, rfl, rfl, trivial⟩
 · intro i hi
   have hlen : (eG (a.take i) k ++ a.drop i).length = a.length := by
     rw [List.length_append, nY, List.length_take, List.length_drop]; omega
   cbv;refine Br.dec (fun h2 => ?_) (fun h2 => ?_) <;> cbv
   · have h2 : (i : Int) < ((eG (a.take i) k ++ a.drop i).length : Int) := h2;rw [hlen] at h2;have h2 : i < a.length := by omega
     have A_ : cH (a.take i) k + 1048577 ≤ 4611686018427387904 := I7 hs hk h2
     have eJ : (eG (a.take i) k ++ a.drop i)[i]? = some a[i] := by
       rw [List.getElem?_append_right (by rw [nY, List.length_take]; omega), nY, List.length_take, Nat.min_eq_left hi, Nat.sub_self, List.getElem?_drop, Nat.add_zero, List.getElem?_eq_getElem h2]
     have QV : a[i].ids.length ≤ 1048576 := hx _ (List.getElem_mem _);refine ⟨?_, ?_⟩
     · show 0 ≤ (i : Int) ∧ (i : Int) < ((eG (a.take i) k ++ a.drop i).length : Int);rw [hlen]; omega
     cbv;refine Sv.mk (fun _ => (eG (a.take i) k ++ a.drop i).set i ⟨((cH (a.take i) k : Nat) : Int), a[i].ids⟩) ?_ ?_
     · show (eG (a.take i) k ++ a.drop i).set ((i : Int)).toNat ⟨((cH (a.take i) k : Nat) : Int), ((eG (a.take i) k ++ a.drop i).getD ((i : Int)).toNat default).ids⟩ = _;rw [Int.toNat_natCast, List.getD_eq_getElem?_getD, eJ]; rfl
     cbv;refine Ar.exact ?_ ?_ ?_
     · show -9223372036854775808 ≤ ((cH (a.take i) k : Nat) : Int) + 1;omega
     · show ((cH (a.take i) k : Nat) : Int) + 1 ≤ 9223372036854775807;omega
     cbv;refine ⟨?_, ?_⟩
     · show 0 ≤ (i : Int) ∧ (i : Int) < (((eG (a.take i) k ++ a.drop i).set i ⟨((cH (a.take i) k : Nat) : Int), a[i].ids⟩).length : Int);rw [List.length_set, hlen]; omega
     cbv
     have vv : ((eG (a.take i) k ++ a.drop i).set i ⟨((cH (a.take i) k : Nat) : Int), a[i].ids⟩)[i]? = some ⟨((cH (a.take i) k : Nat) : Int), a[i].ids⟩ := by
       rw [List.getElem?_set_self (by rw [hlen]; exact h2)]
     refine bB.dL hP (rD a[i].ids (cH (a.take i) k + 1) (by omega)) rfl ?_ ?_
     · refine congrArg (fun l => [(0, ar.own .int (fun _ => l) false)]) ?_;show (((eG (a.take i) k ++ a.drop i).set i ⟨((cH (a.take i) k : Nat) : Int), a[i].ids⟩).getD ((i : Int)).toNat default).ids = a[i].ids;rw [Int.toNat_natCast, List.getD_eq_getElem?_getD, vv]; rfl
     cbv;refine Ar.exact ?_ ?_ ?_
     · show -9223372036854775808 ≤ (i : Int) + 1;omega
     · show (i : Int) + 1 ≤ 9223372036854775807;omega
     cbv;have I8 : a.take (i + 1) = a.take i ++ [a[i]] := by rw [List.take_add_one, List.getElem?_eq_getElem h2]; rfl
     refine aP.by (i + 1) ?_ ?_ ?_
     · show a.length - (i + 1) < a.length - i;omega
     · exact h2
     · cbv;refine ⟨?_, rfl, ?_, trivial⟩
       · show ((cH (a.take i) k + 1 + a[i].ids.length : Nat) : Int) = ((cH (a.take (i + 1)) k : Nat) : Int);rw [I8, CQ]; rfl
       · show ((eG (a.take i) k ++ a.drop i).set i ⟨((cH (a.take i) k : Nat) : Int), a[i].ids⟩).set ((i : Int)).toNat
           ⟨(((eG (a.take i) k ++ a.drop i).set i ⟨((cH (a.take i) k : Nat) : Int), a[i].ids⟩).getD ((i : Int)).toNat default).code, eY a[i].ids.length (cH (a.take i) k + 1)⟩ =
          eG (a.take (i + 1)) k ++ a.drop (i + 1)
         rw [Int.toNat_natCast, List.getD_eq_getElem?_getD, vv, I8, CP];simp only [Option.getD_some, List.set_set, eG, List.append_assoc, List.singleton_append];rw [List.set_append_right _ _ (by rw [nY, List.length_take]; omega), nY, List.length_take, Nat.min_eq_left hi, Nat.sub_self, List.drop_eq_getElem_cons h2, List.set_cons_zero]
   · have h2 : ¬ (i : Int) < ((eG (a.take i) k ++ a.drop i).length : Int) := h2;rw [hlen] at h2;have h2 : a.length ≤ i := by omega
     refine ⟨?_, ?_, trivial⟩
     · show eG (a.take i) k ++ a.drop i = eG a k;rw [List.take_of_length_le h2, List.drop_of_length_le h2, List.append_nil]
     · show ((cH (a.take i) k : Nat) : Int) = ((cH a k : Nat) : Int);rw [List.take_of_length_le h2]
theorem QX (a : List bF) (left : Int) (h0 : 0 ≤ left) (hb : left ≤ 1048576) : Spec Tryz.prog 31 [lA .cT a, iA left] (jR Int (fun r => mR (a.length ≤ bc) left r) fun r => iR fun _ => r) := by
 refine ay au Tryz.func31 rfl rfl (fr := true) (fun _ => by kernel_rfl) fun P hP hA => ?_;obtain ⟨⟨ha, _⟩, hl, _⟩ := hA;have ha : a.length ≤ 9223372036854775807 := ha;cbv;refine Ar.exact ?_ ?_ ?_
 · show -9223372036854775808 ≤ left - (a.length : Int);omega
 · show left - (a.length : Int) ≤ 9223372036854775807;omega
 cbv;refine Br.dec (fun h => ?_) (fun h => ?_) <;> cbv
 · refine ⟨-1, ⟨by omega, by omega, by omega⟩, ?_⟩;cbv; exact ⟨rfl, trivial⟩
 · have h : ¬ left - (a.length : Int) < 0 := h;refine ⟨left - a.length, ⟨by omega, by omega, fun _ => ?_⟩, ?_⟩
   · show a.length ≤ 1048576;omega
   · cbv; exact ⟨rfl, trivial⟩
theorem QY (a : List bF) (hs : a.length ≤ bc) : Spec Tryz.prog 33 [lA .cT a] (aE (lR .cT fun _ => a)) := by
 refine ay au Tryz.func33 rfl rfl (fr := true) (fun _ => by kernel_rfl) fun P hP hA => ?_;have hn : a.length ≤ 1048576 := hs;cbv;refine ⟨?_, ?_⟩
 · show 0 ≤ (a.length : Int) ∧ (a.length : Int) ≤ a.length ∧ (a.length : Int) * 48 ≤ 140737488355328;omega
 cbv;refine aU.by (X := Nat) (fun i => [(0, lA .cT a), (3, oN 0), (4, nT fun _ => i)]) (fun i => [(0, aN .cT fun _ => a.take i ++ List.replicate (a.length - i) default)]) (fun i => i ≤ a.length) (fun i _ => a.length - i) 0 (Nat.zero_le _) ?_ ?_
 · cbv;refine ⟨rfl, rfl, ?_, trivial⟩;show List.replicate ((a.length : Int)).toNat (default : bF) = a.take 0 ++ List.replicate (a.length - 0) default;simp
 · intro i hi;cbv;refine Br.dec (fun h2 => ?_) (fun h2 => ?_) <;> cbv
   · have h2 : i < a.length := by simpa using h2
     refine ⟨a[i], by simp, get_cast a h2, ?_⟩;cbv;refine ag.by hP (rF a[i]) ?_;cbv;refine ⟨?_, ?_⟩
     · show 0 ≤ (i : Int) ∧ (i : Int) < ((a.take i ++ List.replicate (a.length - i) (default : bF)).length : Int);rw [rC a default hi]; omega
     cbv;refine Sv.ik ?_;cbv;refine Ar.exact ?_ ?_ ?_
     · show -9223372036854775808 ≤ (i : Int) + 1;omega
     · show (i : Int) + 1 ≤ 9223372036854775807;omega
     cbv;refine aP.by (i + 1) ?_ ?_ ?_
     · show a.length - (i + 1) < a.length - i;omega
     · exact h2
     · cbv;refine ⟨rfl, rfl, ?_, trivial⟩;exact rB a default h2
   · have h2 : a.length ≤ i := by simp at h2; omega
     refine ⟨?_, trivial⟩;show a.take i ++ List.replicate (a.length - i) default = a;rw [show a.length - i = 0 by omega, List.take_of_length_le h2];simp
theorem CR (a b : bF) : Spec Tryz.prog 84 [eA .cT a, eA .cT b] (aE (bR fun _ => decide (a = b))) := by
 refine ay au Tryz.func84 rfl rfl (fr := true) (fun _ => by kernel_rfl) fun P hP hA => ?_;cbv;refine Br.split (fun h0 => ?_) (fun h0 => ?_) <;> cbv
 · refine ⟨?_, trivial⟩;have : a ≠ b := fun h => by subst h; simp at h0
   simp [this]
 refine Br.split (fun h1 => ?_) (fun h1 => ?_) <;> cbv
 · refine ⟨?_, trivial⟩;have : a ≠ b := fun h => by subst h; simp at h1
   simp [this]
 refine Br.split (fun h2 => ?_) (fun h2 => ?_) <;> cbv
 · refine ⟨?_, trivial⟩;have : a ≠ b := fun h => by subst h; simp at h2
   simp [this]
 refine Br.split (fun h3 => ?_) (fun h3 => ?_) <;> cbv
 · refine ⟨?_, trivial⟩;have : a ≠ b := fun h => by subst h; simp at h3
   simp [this]
 refine Br.split (fun h4 => ?_) (fun h4 => ?_) <;> cbv
 · refine ⟨?_, trivial⟩;have : a ≠ b := fun h => by subst h; simp at h4
   simp [this]
 refine Br.split (fun h5 => ?_) (fun h5 => ?_) <;> cbv
 · refine ⟨?_, trivial⟩;have : a ≠ b := fun h => by subst h; simp at h5
   simp [this]
 refine ⟨?_, trivial⟩;have e0 : a.kind = b.kind := by simpa using h0
 have e1 : a.id = b.id := by simpa using h1
 have e2 : a.ah = b.ah := by simpa using h2
 have e3 : a.ak = b.ak := by simpa using h3
 have e4 : a.al = b.al := by simpa using h4
 have e5 : a.aJ = b.aJ := by simpa using h5
 have : a = b := by
   cases a; cases b;simp only at e0 e1 e2 e3 e4 e5;subst e0 e1 e2 e3 e4 e5;rfl
 simp [this]
theorem QZ (a b : List bF) : Spec Tryz.prog 36 [lA .cT a, lA .cT b] (aE (bR fun _ => decide (a = b))) := by
 refine ay au Tryz.func36 rfl rfl (fr := true) (fun _ => by kernel_rfl) fun P hP hA => ?_;obtain ⟨⟨ha, _⟩, _⟩ := hA;have ha : a.length ≤ 9223372036854775807 := ha;cbv;refine Br.split (fun h1 => ?_) (fun h1 => ?_) <;> cbv
 · refine ⟨?_, trivial⟩;have := l7 (a := a) (b := b) h1;simp [this]
 have h1 := l6 (a := a) (b := b) h1;refine aU.by (X := Nat) (fun i => [(0, lA .cT a), (1, lA .cT b), (5, nT fun _ => i)]) (fun _ => []) (fun i => i ≤ a.length ∧ a.take i = b.take i) (fun i _ => a.length - i) 0 ⟨Nat.zero_le _, by simp⟩ ?_ ?_
 · cbv; exact ⟨rfl, rfl, rfl, trivial⟩
 · intro i ⟨hi, ht⟩;cbv;refine Br.dec (fun h2 => ?_) (fun h2 => ?_) <;> cbv
   · have h2 : i < a.length := by simpa using h2
     refine ⟨a[i], by simp, get_cast a h2, ?_⟩;cbv;refine ⟨b[i], by simp, get_cast b (h1 ▸ h2), ?_⟩;cbv;refine ag.by hP (CR a[i] (b[i]'(h1 ▸ h2))) ?_;cbv;refine Br.split (fun h3 => ?_) (fun h3 => ?_) <;> cbv
     · refine ⟨?_, trivial⟩;have := l4 h2 (h1 ▸ h2) (by simpa using h3);simp [this]
     · refine Ar.exact ?_ ?_ ?_
       · show -9223372036854775808 ≤ (i : Int) + 1;omega
       · show (i : Int) + 1 ≤ 9223372036854775807;omega
       cbv;refine aP.by (i + 1) ?_ ?_ ?_
       · show a.length - (i + 1) < a.length - i;omega
       · exact ⟨h2, l3 ht h2 (h1 ▸ h2) (by simpa using h3)⟩
       · cbv; exact ⟨rfl, rfl, rfl, trivial⟩
   · refine ⟨?_, trivial⟩;have h2 : a.length ≤ i := by simp at h2; omega
     simp [l5 h1 h2 ht]
def gC (_ : bF) (k : Nat) : bF := ⟨(k : Int), (k : Int) + 1, (k : Int) + 1 + 1, (k : Int) + 1 + 1 + 1, (k : Int) + 1 + 1 + 1 + 1, (k : Int) + 1 + 1 + 1 + 1 + 1⟩
def bu (_ : bF) : Nat := 6
theorem Q0 (a : List bF) (k : Nat) (hk : k + af bu a ≤ 4611686018427387904) :
   cB Tryz.prog 37 [oN 0, nT fun _ => k] [(0, aN .cT fun _ => a)] (cV (nR fun _ => k + af bu a) [(0, .own .cT fun _ => aO gC bu a k)]) := by
 refine dW au Tryz.func37 rfl rfl (fr := true) (fun _ => by kernel_rfl) rfl rfl fun P hP hA hB => ?_;cbv;refine aU.by (X := Nat) (fun i => [(0, oN 0), (1, nT fun _ => k + af bu (a.take i)), (5, nT fun _ => i)]) (fun i => [(0, aN .cT fun _ => aO gC bu (a.take i) k ++ a.drop i)]) (fun i => i ≤ a.length) (fun i _ => a.length - i) 0 (Nat.zero_le _) ?_ ?_
 · cbv;exact ⟨rfl, rfl, rfl, trivial⟩
 · intro i hi;have hlen : (aO gC bu (a.take i) k ++ a.drop i).length = a.length := tB gC bu a i k;cbv;refine Br.dec (fun h2 => ?_) (fun h2 => ?_) <;> cbv
   · have h2 : (i : Int) < ((aO gC bu (a.take i) k ++ a.drop i).length : Int) := h2;rw [hlen] at h2;have h2 : i < a.length := by omega
     have hM : (aO gC bu (a.take i) k).length = i := tD gC bu k h2;have hR : (a.drop (i + 1)).length = a.length - (i + 1) := by simp
     have hz : k + af bu (a.take i) + 6 ≤ 4611686018427387904 := by
       have := mU bu h2;have : af bu (a.take i) + 6 ≤ af bu a := this;omega
     have gK : a.length ≤ af bu a := qp bu a fun _ => by show 1 ≤ 6; omega
     refine ⟨?_, ?_⟩
     · show 0 ≤ (i : Int) ∧ (i : Int) < ((aO gC bu (a.take i) k ++ a.drop i).length : Int);rw [hlen]; omega
     cbv;refine Sv.mk (fun _ => aO gC bu (a.take i) k ++ (⟨((k + af bu (a.take i) : Nat) : Int), a[i].id, a[i].ah, a[i].ak, a[i].al, a[i].aJ⟩ : bF) :: a.drop (i + 1)) ?_ ?_
     · exact e_ (fun y => ⟨((k + af bu (a.take i) : Nat) : Int), y.id, y.ah, y.ak, y.al, y.aJ⟩) hM (rJ gC bu k h2)
     cbv;refine Ar.exact ?_ ?_ ?_
     · show -9223372036854775808 ≤ (((k + af bu (a.take i) : Nat) : Int)) + 1;omega
     · show (((k + af bu (a.take i) : Nat) : Int)) + 1 ≤ 9223372036854775807;omega
     cbv;refine ⟨?_, ?_⟩
     · show 0 ≤ (i : Int) ∧ (i : Int) < ((aO gC bu (a.take i) k ++ (⟨((k + af bu (a.take i) : Nat) : Int), a[i].id, a[i].ah, a[i].ak, a[i].al, a[i].aJ⟩ : bF) :: a.drop (i + 1)).length : Int);rw [fZ hM hR h2]; omega
     cbv;refine Sv.mk (fun _ => aO gC bu (a.take i) k ++ (⟨((k + af bu (a.take i) : Nat) : Int), ((k + af bu (a.take i) : Nat) : Int) + 1, a[i].ah, a[i].ak, a[i].al, a[i].aJ⟩ : bF) :: a.drop (i + 1)) ?_ ?_
     · exact e_ (fun y => ⟨y.kind, ((k + af bu (a.take i) : Nat) : Int) + 1, y.ah, y.ak, y.al, y.aJ⟩) hM rfl
     cbv;refine Ar.exact ?_ ?_ ?_
     · show -9223372036854775808 ≤ (((k + af bu (a.take i) : Nat) : Int) + 1) + 1;omega
     · show (((k + af bu (a.take i) : Nat) : Int) + 1) + 1 ≤ 9223372036854775807;omega
     cbv;refine ⟨?_, ?_⟩
     · show 0 ≤ (i : Int) ∧ (i : Int) < ((aO gC bu (a.take i) k ++ (⟨((k + af bu (a.take i) : Nat) : Int), ((k + af bu (a.take i) : Nat) : Int) + 1, a[i].ah, a[i].ak, a[i].al, a[i].aJ⟩ : bF) :: a.drop (i + 1)).length : Int);rw [fZ hM hR h2]; omega
     cbv;refine Sv.mk (fun _ => aO gC bu (a.take i) k ++ (⟨((k + af bu (a.take i) : Nat) : Int), ((k + af bu (a.take i) : Nat) : Int) + 1, ((k + af bu (a.take i) : Nat) : Int) + 1 + 1, a[i].ak, a[i].al, a[i].aJ⟩ : bF) :: a.drop (i + 1)) ?_ ?_
     · exact e_ (fun y => ⟨y.kind, y.id, ((k + af bu (a.take i) : Nat) : Int) + 1 + 1, y.ak, y.al, y.aJ⟩) hM rfl
     cbv;refine Ar.exact ?_ ?_ ?_
     · show -9223372036854775808 ≤ (((k + af bu (a.take i) : Nat) : Int) + 1 + 1) + 1;omega
     · show (((k + af bu (a.take i) : Nat) : Int) + 1 + 1) + 1 ≤ 9223372036854775807;omega
     cbv;refine ⟨?_, ?_⟩
     · show 0 ≤ (i : Int) ∧ (i : Int) < ((aO gC bu (a.take i) k ++ (⟨((k + af bu (a.take i) : Nat) : Int), ((k + af bu (a.take i) : Nat) : Int) + 1, ((k + af bu (a.take i) : Nat) : Int) + 1 + 1, a[i].ak, a[i].al, a[i].aJ⟩ : bF) :: a.drop (i + 1)).length : Int);rw [fZ hM hR h2]; omega
     cbv;refine Sv.mk (fun _ => aO gC bu (a.take i) k ++ (⟨((k + af bu (a.take i) : Nat) : Int), ((k + af bu (a.take i) : Nat) : Int) + 1, ((k + af bu (a.take i) : Nat) : Int) + 1 + 1, ((k + af bu (a.take i) : Nat) : Int) + 1 + 1 + 1, a[i].al, a[i].aJ⟩ : bF) :: a.drop (i + 1)) ?_ ?_
     · exact e_ (fun y => ⟨y.kind, y.id, y.ah, ((k + af bu (a.take i) : Nat) : Int) + 1 + 1 + 1, y.al, y.aJ⟩) hM rfl
     cbv;refine Ar.exact ?_ ?_ ?_
     · show -9223372036854775808 ≤ (((k + af bu (a.take i) : Nat) : Int) + 1 + 1 + 1) + 1;omega
     · show (((k + af bu (a.take i) : Nat) : Int) + 1 + 1 + 1) + 1 ≤ 9223372036854775807;omega
     cbv;refine ⟨?_, ?_⟩
     · show 0 ≤ (i : Int) ∧ (i : Int) < ((aO gC bu (a.take i) k ++ (⟨((k + af bu (a.take i) : Nat) : Int), ((k + af bu (a.take i) : Nat) : Int) + 1, ((k + af bu (a.take i) : Nat) : Int) + 1 + 1, ((k + af bu (a.take i) : Nat) : Int) + 1 + 1 + 1, a[i].al, a[i].aJ⟩ : bF) :: a.drop (i + 1)).length : Int);rw [fZ hM hR h2]; omega
     cbv;refine Sv.mk (fun _ => aO gC bu (a.take i) k ++ (⟨((k + af bu (a.take i) : Nat) : Int), ((k + af bu (a.take i) : Nat) : Int) + 1, ((k + af bu (a.take i) : Nat) : Int) + 1 + 1, ((k + af bu (a.take i) : Nat) : Int) + 1 + 1 + 1, ((k + af bu (a.take i) : Nat) : Int) + 1 + 1 + 1 + 1, a[i].aJ⟩ : bF) :: a.drop (i + 1)) ?_ ?_
     · exact e_ (fun y => ⟨y.kind, y.id, y.ah, y.ak, ((k + af bu (a.take i) : Nat) : Int) + 1 + 1 + 1 + 1, y.aJ⟩) hM rfl
     cbv;refine Ar.exact ?_ ?_ ?_
     · show -9223372036854775808 ≤ (((k + af bu (a.take i) : Nat) : Int) + 1 + 1 + 1 + 1) + 1;omega
     · show (((k + af bu (a.take i) : Nat) : Int) + 1 + 1 + 1 + 1) + 1 ≤ 9223372036854775807;omega
     cbv;refine ⟨?_, ?_⟩
     · show 0 ≤ (i : Int) ∧ (i : Int) < ((aO gC bu (a.take i) k ++ (⟨((k + af bu (a.take i) : Nat) : Int), ((k + af bu (a.take i) : Nat) : Int) + 1, ((k + af bu (a.take i) : Nat) : Int) + 1 + 1, ((k + af bu (a.take i) : Nat) : Int) + 1 + 1 + 1, ((k + af bu (a.take i) : Nat) : Int) + 1 + 1 + 1 + 1, a[i].aJ⟩ : bF) :: a.drop (i + 1)).length : Int);rw [fZ hM hR h2]; omega
     cbv;refine Sv.mk (fun _ => aO gC bu (a.take i) k ++ (⟨((k + af bu (a.take i) : Nat) : Int), ((k + af bu (a.take i) : Nat) : Int) + 1, ((k + af bu (a.take i) : Nat) : Int) + 1 + 1, ((k + af bu (a.take i) : Nat) : Int) + 1 + 1 + 1, ((k + af bu (a.take i) : Nat) : Int) + 1 + 1 + 1 + 1, ((k + af bu (a.take i) : Nat) : Int) + 1 + 1 + 1 + 1 + 1⟩ : bF) :: a.drop (i + 1)) ?_ ?_
     · exact e_ (fun y => ⟨y.kind, y.id, y.ah, y.ak, y.al, ((k + af bu (a.take i) : Nat) : Int) + 1 + 1 + 1 + 1 + 1⟩) hM rfl
     cbv;refine Ar.exact ?_ ?_ ?_
     · show -9223372036854775808 ≤ (((k + af bu (a.take i) : Nat) : Int) + 1 + 1 + 1 + 1 + 1) + 1;omega
     · show (((k + af bu (a.take i) : Nat) : Int) + 1 + 1 + 1 + 1 + 1) + 1 ≤ 9223372036854775807;omega
     cbv;refine Ar.exact ?_ ?_ ?_
     · show -9223372036854775808 ≤ (i : Int) + 1;omega
     · show (i : Int) + 1 ≤ 9223372036854775807;omega
     cbv;refine aP.by (i + 1) ?_ ?_ ?_
     · show a.length - (i + 1) < a.length - i;omega
     · exact h2
     · cbv;refine ⟨?_, rfl, ?_, trivial⟩
       · show ((k + af bu (a.take i) : Nat) : Int) + 1 + 1 + 1 + 1 + 1 + 1 = ((k + af bu (a.take (i + 1)) : Nat) : Int);rw [kz bu h2, show bu a[i] = 6 from rfl];omega
       · exact mid_end gC bu k h2
   · have h2 : ¬ (i : Int) < ((aO gC bu (a.take i) k ++ a.drop i).length : Int) := h2;rw [hlen] at h2;have h2 : a.length ≤ i := by omega
     refine ⟨?_, ?_, trivial⟩
     · exact tC gC bu k h2
     · show ((k + af bu (a.take i) : Nat) : Int) = ((k + af bu a : Nat) : Int);rw [List.take_of_length_le h2]
theorem I9 (a : fK) (k : Nat) (hk : k + a.ids.length ≤ 4611686018427387904) :
  cB Tryz.prog 29 [.agg [.lf (.int .i64 fun _ => a.code), .own 0], nT fun _ => k] [(0, aN .int fun _ => a.ids)] (cV (nR fun _ => k + a.ids.length) [(0, .own .int fun _ => eY a.ids.length k)]) := by
 refine dW au Tryz.func29 rfl rfl (fr := true) (fun _ => by kernel_rfl) rfl rfl fun P hP hA hB => ?_;cbv;refine bB.by hP (rD a.ids k hk) ?_;cbv
 repeat' first | exact trivial | refine ⟨rfl, ?_⟩ | fail
theorem I_ (c : Int) (n k : Nat) (hk : k + n ≤ 4611686018427387904) : Spec Tryz.prog 30 [.agg [.lf (.int .i64 fun _ => c), .lf (.list .int fun _ => eY n k)], nT fun _ => k] (aE (nR fun _ => k + n)) := by
 refine ay au Tryz.func30 rfl rfl (fr := true) (fun _ => by kernel_rfl) fun P hP hA => ?_;cbv;refine ag.by hP (rE n k hk) ?_;cbv;refine Br.dec (fun g => ?_) (fun g => ?_) <;> cbv
 · exfalso;have g : ((k + n : Nat) : Int) < 0 := g;omega
 · repeat' first | exact trivial | refine ⟨rfl, ?_⟩ | fail
end Go.Proofs.YticeaiiffeccmaaGreat

