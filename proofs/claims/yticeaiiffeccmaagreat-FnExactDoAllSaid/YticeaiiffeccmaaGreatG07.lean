/- Parts of a proof. No conditions. -/

import Derived.Test.YticeaiiffeccmaaGreatG06
set_option linter.unusedSimpArgs false
set_option linter.unusedVariables false
namespace Go.Proofs.YticeaiiffeccmaaGreat
open Go
set_option maxRecDepth 100000
def aO {α : Type} (m : α → Nat → α) (z : α → Nat) : List α → Nat → List α
 | [], _ => []
 | x :: xs, k => m x k :: aO m z xs (k + z x)
def af {α : Type} (z : α → Nat) : List α → Nat
 | [] => 0
 | x :: xs => z x + af z xs
section
variable {α : Type} (m : α → Nat → α) (z : α → Nat)
theorem la : ∀ (a : List α) (k : Nat), (aO m z a k).length = a.length
 | [], _ => rfl
 | x :: xs, k => by simp [aO, la xs]
theorem rI : ∀ (a b : List α), af z (a ++ b) = af z a + af z b
 | [], b => by simp [af]
 | x :: xs, b => by simp [af, rI xs b, Nat.add_assoc]
theorem Gl : ∀ (a b : List α) (k : Nat), aO m z (a ++ b) k = aO m z a k ++ aO m z b (k + af z a)
 | [], _, _ => rfl
 | x :: xs, b, k => by simp [aO, af, Gl xs b, Nat.add_assoc]
theorem take_one {a : List α} {i : Nat} (h : i < a.length) : a.take (i + 1) = a.take i ++ [a[i]] := by
 rw [List.take_add_one, List.getElem?_eq_getElem h]; rfl
theorem kz {a : List α} {i : Nat} (h : i < a.length) : af z (a.take (i + 1)) = af z (a.take i) + z a[i] := by
 rw [take_one h, rI]; simp [af]
theorem mU {a : List α} {i : Nat} (h : i < a.length) : af z (a.take i) + z a[i] ≤ af z a := by
 rw [← kz z h]
 conv => rhs; rw [← List.take_append_drop (i + 1) a, rI]
 omega
theorem Gm (c : Nat) : ∀ (a : List α), (∀ x ∈ a, z x ≤ c) → af z a ≤ a.length * c
 | [], _ => by simp [af]
 | x :: xs, h => by
   have h1 := Gm c xs fun y hy => h y (List.mem_cons_of_mem _ hy);have h2 := h x List.mem_cons_self;simp only [af, List.length_cons, Nat.add_mul];omega
theorem o6 (c n : Nat) (a : List α) (h : ∀ x ∈ a, z x ≤ c) (hn : a.length ≤ n) : af z a ≤ n * c :=
 Nat.le_trans (Gm z c a h) (Nat.mul_le_mul_right c hn)
theorem qp : ∀ (a : List α), (∀ x, 1 ≤ z x) → a.length ≤ af z a
 | [], _ => by simp
 | x :: xs, h => by
   have h1 := qp xs h;have h2 := h x;simp only [af, List.length_cons];omega
theorem tB (a : List α) (i k : Nat) : (aO m z (a.take i) k ++ a.drop i).length = a.length := by
 rw [List.length_append, la, List.length_take, List.length_drop]; omega
theorem rJ {a : List α} {i : Nat} (k : Nat) (h : i < a.length) : aO m z (a.take i) k ++ a.drop i = aO m z (a.take i) k ++ a[i] :: a.drop (i + 1) := by
 rw [List.drop_eq_getElem_cons h]
theorem mid_end {a : List α} {i : Nat} (k : Nat) (h : i < a.length) : aO m z (a.take i) k ++ m a[i] (k + af z (a.take i)) :: a.drop (i + 1) = aO m z (a.take (i + 1)) k ++ a.drop (i + 1) := by
 rw [take_one h, Gl]; simp [aO]
theorem tC {a : List α} {i : Nat} (k : Nat) (h : a.length ≤ i) : aO m z (a.take i) k ++ a.drop i = aO m z a k := by
 rw [List.take_of_length_le h, List.drop_of_length_le h, List.append_nil]
theorem tD {a : List α} {i : Nat} (k : Nat) (h : i < a.length) : (aO m z (a.take i) k).length = i := by
 rw [la, List.length_take]; omega
theorem fZ {M R : List α} {x : α} {i n : Nat} (hM : M.length = i) (hR : R.length = n - (i + 1)) (h : i < n) : (M ++ x :: R).length = n := by
 rw [List.length_append, List.length_cons, hM, hR]; omega
theorem Gn {M R : List α} {x d : α} {i : Nat} (hM : M.length = i) : (M ++ x :: R).getD ((i : Int)).toNat d = x := by
 rw [Int.toNat_natCast, List.getD_eq_getElem?_getD, List.getElem?_append_right (by omega), hM, Nat.sub_self]; rfl
theorem Nj {M R : List α} {x y : α} {i : Nat} (hM : M.length = i) : (M ++ x :: R).set ((i : Int)).toNat y = M ++ y :: R := by
 rw [Int.toNat_natCast, List.set_append_right _ _ (by omega), hM, Nat.sub_self]; rfl
theorem e_ (f : α → α) {L M R : List α} {x d : α} {i : Nat} (hM : M.length = i) (hL : L = M ++ x :: R) : L.set ((i : Int)).toNat (f (L.getD ((i : Int)).toNat d)) = M ++ f x :: R := by
 subst hL; rw [Gn hM, Nj hM]
theorem Bp {L M R : List α} {x d : α} {i : Nat} (hM : M.length = i) (hL : L = M ++ x :: R) : L.getD ((i : Int)).toNat d = x := by
 subst hL; rw [Gn hM]
theorem tE : ∀ {a : List α} {i : Nat} (k : Nat) (h : i < a.length), (aO m z a k)[i]? = some (m a[i] (k + af z (a.take i)))
 | x :: xs, 0, k, _ => by simp [aO, af]
 | x :: xs, i + 1, k, h => by
   have h : i < xs.length := by simpa using h
   simp only [aO, List.getElem?_cons_succ, List.getElem_cons_succ, List.take_succ_cons, af];rw [tE (k + z x) h, Nat.add_assoc]
end
theorem gU {x : Int} (h : (x != x) = true) : False := by simp at h
def fF (_ : aB) (k : Nat) : aB := ⟨(k : Int), (k : Int) + 1⟩
def bH (_ : aB) : Nat := 2
def dX (_ : Entry) (k : Nat) : Entry := ⟨(k : Int), (k : Int) + 1, (k : Int) + 1 + 1, (k : Int) + 1 + 1 + 1⟩
def aW (_ : Entry) : Nat := 4
def cP (_ : aw) (k : Nat) : aw := ⟨(k : Int), (k : Int) + 1, (k : Int) + 1 + 1, (k : Int) + 1 + 1 + 1, (k : Int) + 1 + 1 + 1 + 1, (k : Int) + 1 + 1 + 1 + 1 + 1, (k : Int) + 1 + 1 + 1 + 1 + 1 + 1, (k : Int) + 1 + 1 + 1 + 1 + 1 + 1 + 1, (k : Int) + 1 + 1 + 1 + 1 + 1 + 1 + 1 + 1, (k : Int) + 1 + 1 + 1 + 1 + 1 + 1 + 1 + 1 + 1⟩
def az (_ : aw) : Nat := 10
def gw (x : List aB) (k : Nat) : List aB := aO fF bH x k
def cj (x : List aB) : Nat := af bH x
def dn (x : bd) (k : Nat) : bd := ⟨⟨(k : Int), (k : Int) + 1, (k : Int) + 1 + 1, (k : Int) + 1 + 1 + 1, (k : Int) + 1 + 1 + 1 + 1⟩, aO dX aW x.row (k + 5), aO gw cj x.spoke (k + 5 + af aW x.row)⟩
def aK (x : bd) : Nat := 5 + af aW x.row + af cj x.spoke
theorem Nk (a : List aB) (k : Nat) (hk : k + af bH a ≤ 4611686018427387904) :
   cB Tryz.prog 192 [oN 0, nT fun _ => k] [(0, aN .aI fun _ => a)] (cV (nR fun _ => k + af bH a) [(0, .own .aI fun _ => aO fF bH a k)]) := by
 refine dW au Tryz.func192 rfl rfl (fr := true) (fun _ => by kernel_rfl) rfl rfl fun P hP hA hB => ?_;cbv;refine aU.by (X := Nat) (fun i => [(0, oN 0), (1, nT fun _ => k + af bH (a.take i)), (5, nT fun _ => i)]) (fun i => [(0, aN .aI fun _ => aO fF bH (a.take i) k ++ a.drop i)]) (fun i => i ≤ a.length) (fun i _ => a.length - i) 0 (Nat.zero_le _) ?_ ?_
 · cbv;exact ⟨rfl, rfl, rfl, trivial⟩
 · intro i hi;have hlen : (aO fF bH (a.take i) k ++ a.drop i).length = a.length := tB fF bH a i k;cbv;refine Br.dec (fun h2 => ?_) (fun h2 => ?_) <;> cbv
   · have h2 : (i : Int) < ((aO fF bH (a.take i) k ++ a.drop i).length : Int) := h2;rw [hlen] at h2;have h2 : i < a.length := by omega
     have hM : (aO fF bH (a.take i) k).length = i := tD fF bH k h2;have hR : (a.drop (i + 1)).length = a.length - (i + 1) := by simp
     have hz : k + af bH (a.take i) + 2 ≤ 4611686018427387904 := by
       have := mU bH h2;have : af bH (a.take i) + 2 ≤ af bH a := this;omega
     have gK : a.length ≤ af bH a := qp bH a fun _ => by show 1 ≤ 2; omega
     refine ⟨?_, ?_⟩
     · show 0 ≤ (i : Int) ∧ (i : Int) < ((aO fF bH (a.take i) k ++ a.drop i).length : Int);rw [hlen]; omega
     cbv;refine Sv.mk (fun _ => aO fF bH (a.take i) k ++ (⟨((k + af bH (a.take i) : Nat) : Int), a[i].pid⟩ : aB) :: a.drop (i + 1)) ?_ ?_
     · exact e_ (fun y => ⟨((k + af bH (a.take i) : Nat) : Int), y.pid⟩) hM (rJ fF bH k h2)
     cbv;refine Ar.exact ?_ ?_ ?_
     · show -9223372036854775808 ≤ (((k + af bH (a.take i) : Nat) : Int)) + 1;omega
     · show (((k + af bH (a.take i) : Nat) : Int)) + 1 ≤ 9223372036854775807;omega
     cbv;refine ⟨?_, ?_⟩
     · show 0 ≤ (i : Int) ∧ (i : Int) < ((aO fF bH (a.take i) k ++ (⟨((k + af bH (a.take i) : Nat) : Int), a[i].pid⟩ : aB) :: a.drop (i + 1)).length : Int);rw [fZ hM hR h2]; omega
     cbv;refine Sv.mk (fun _ => aO fF bH (a.take i) k ++ (⟨((k + af bH (a.take i) : Nat) : Int), ((k + af bH (a.take i) : Nat) : Int) + 1⟩ : aB) :: a.drop (i + 1)) ?_ ?_
     · exact e_ (fun y => ⟨y.tm, ((k + af bH (a.take i) : Nat) : Int) + 1⟩) hM rfl
     cbv;refine Ar.exact ?_ ?_ ?_
     · show -9223372036854775808 ≤ (((k + af bH (a.take i) : Nat) : Int) + 1) + 1;omega
     · show (((k + af bH (a.take i) : Nat) : Int) + 1) + 1 ≤ 9223372036854775807;omega
     cbv;refine Ar.exact ?_ ?_ ?_
     · show -9223372036854775808 ≤ (i : Int) + 1;omega
     · show (i : Int) + 1 ≤ 9223372036854775807;omega
     cbv;refine aP.by (i + 1) ?_ ?_ ?_
     · show a.length - (i + 1) < a.length - i;omega
     · exact h2
     · cbv;refine ⟨?_, rfl, ?_, trivial⟩
       · show ((k + af bH (a.take i) : Nat) : Int) + 1 + 1 = ((k + af bH (a.take (i + 1)) : Nat) : Int);rw [kz bH h2, show bH a[i] = 2 from rfl];omega
       · exact mid_end fF bH k h2
   · have h2 : ¬ (i : Int) < ((aO fF bH (a.take i) k ++ a.drop i).length : Int) := h2;rw [hlen] at h2;have h2 : a.length ≤ i := by omega
     refine ⟨?_, ?_, trivial⟩
     · exact tC fF bH k h2
     · show ((k + af bH (a.take i) : Nat) : Int) = ((k + af bH a : Nat) : Int);rw [List.take_of_length_le h2]
theorem Nl (a : List aB) (k : Nat) (hk : k + af bH a ≤ 4611686018427387904) : Spec Tryz.prog 193 [lT .aI fun _ => aO fF bH a k, nT fun _ => k] (aE (nR fun _ => k + af bH a)) := by
 refine ay au Tryz.func193 rfl rfl (fr := true) (fun _ => by kernel_rfl) fun P hP hA => ?_;cbv;refine aU.by (X := Nat) (fun i => [(0, lT .aI fun _ => aO fF bH a k), (1, nT fun _ => k + af bH (a.take i)), (5, nT fun _ => i)]) (fun _ => []) (fun i => i ≤ a.length) (fun i _ => a.length - i) 0 (Nat.zero_le _) ?_ ?_
 · cbv;exact ⟨rfl, rfl, rfl, trivial⟩
 · intro i hi;cbv;refine Br.dec (fun h2 => ?_) (fun h2 => ?_) <;> cbv
   · have h2 : (i : Int) < ((aO fF bH a k).length : Int) := h2;rw [la] at h2;have h2 : i < a.length := by omega
     have hz : k + af bH (a.take i) + 2 ≤ 4611686018427387904 := by
       have := mU bH h2;have : af bH (a.take i) + 2 ≤ af bH a := this;omega
     have gK : a.length ≤ af bH a := qp bH a fun _ => by show 1 ≤ 2; omega
     have hg : (aO fF bH a k)[((i : Int)).toNat]? = some (fF a[i] (k + af bH (a.take i))) := by
       rw [Int.toNat_natCast, tE fF bH k h2]
     refine ⟨fF a[i] (k + af bH (a.take i)), by simp, hg, ?_⟩;cbv;refine Br.split (fun g0 => ?_) (fun g0 => ?_) <;> cbv
     · exact (gU g0).elim
     refine Ar.exact ?_ ?_ ?_
     · show -9223372036854775808 ≤ (((k + af bH (a.take i) : Nat) : Int)) + 1;omega
     · show (((k + af bH (a.take i) : Nat) : Int)) + 1 ≤ 9223372036854775807;omega
     cbv;refine ⟨fF a[i] (k + af bH (a.take i)), by simp, hg, ?_⟩;cbv;refine Br.split (fun g1 => ?_) (fun g1 => ?_) <;> cbv
     · exact (gU g1).elim
     refine Ar.exact ?_ ?_ ?_
     · show -9223372036854775808 ≤ (((k + af bH (a.take i) : Nat) : Int) + 1) + 1;omega
     · show (((k + af bH (a.take i) : Nat) : Int) + 1) + 1 ≤ 9223372036854775807;omega
     cbv;refine Ar.exact ?_ ?_ ?_
     · show -9223372036854775808 ≤ (i : Int) + 1;omega
     · show (i : Int) + 1 ≤ 9223372036854775807;omega
     cbv;refine aP.by (i + 1) ?_ ?_ ?_
     · show a.length - (i + 1) < a.length - i;omega
     · exact h2
     · cbv;refine ⟨rfl, ?_, rfl, trivial⟩;show ((k + af bH (a.take i) : Nat) : Int) + 1 + 1 = ((k + af bH (a.take (i + 1)) : Nat) : Int);rw [kz bH h2, show bH a[i] = 2 from rfl];omega
   · have h2 : ¬ (i : Int) < ((aO fF bH a k).length : Int) := h2;rw [la] at h2;have h2 : a.length ≤ i := by omega
     refine ⟨?_, trivial⟩;show ((k + af bH (a.take i) : Nat) : Int) = ((k + af bH a : Nat) : Int);rw [List.take_of_length_le h2]
theorem Nm (a : List Entry) (k : Nat) (hk : k + af aW a ≤ 4611686018427387904) :
   cB Tryz.prog 120 [oN 0, nT fun _ => k] [(0, aN .aH fun _ => a)] (cV (nR fun _ => k + af aW a) [(0, .own .aH fun _ => aO dX aW a k)]) := by
 refine dW au Tryz.func120 rfl rfl (fr := true) (fun _ => by kernel_rfl) rfl rfl fun P hP hA hB => ?_;cbv;refine aU.by (X := Nat) (fun i => [(0, oN 0), (1, nT fun _ => k + af aW (a.take i)), (5, nT fun _ => i)]) (fun i => [(0, aN .aH fun _ => aO dX aW (a.take i) k ++ a.drop i)]) (fun i => i ≤ a.length) (fun i _ => a.length - i) 0 (Nat.zero_le _) ?_ ?_
 · cbv;exact ⟨rfl, rfl, rfl, trivial⟩
 · intro i hi;have hlen : (aO dX aW (a.take i) k ++ a.drop i).length = a.length := tB dX aW a i k;cbv;refine Br.dec (fun h2 => ?_) (fun h2 => ?_) <;> cbv
   · have h2 : (i : Int) < ((aO dX aW (a.take i) k ++ a.drop i).length : Int) := h2;rw [hlen] at h2;have h2 : i < a.length := by omega
     have hM : (aO dX aW (a.take i) k).length = i := tD dX aW k h2;have hR : (a.drop (i + 1)).length = a.length - (i + 1) := by simp
     have hz : k + af aW (a.take i) + 4 ≤ 4611686018427387904 := by
       have := mU aW h2;have : af aW (a.take i) + 4 ≤ af aW a := this;omega
     have gK : a.length ≤ af aW a := qp aW a fun _ => by show 1 ≤ 4; omega
     refine ⟨?_, ?_⟩
     · show 0 ≤ (i : Int) ∧ (i : Int) < ((aO dX aW (a.take i) k ++ a.drop i).length : Int);rw [hlen]; omega
     cbv;refine Sv.mk (fun _ => aO dX aW (a.take i) k ++ (⟨((k + af aW (a.take i) : Nat) : Int), a[i].aC, a[i].aV, a[i].al⟩ : Entry) :: a.drop (i + 1)) ?_ ?_
     · exact e_ (fun y => ⟨((k + af aW (a.take i) : Nat) : Int), y.aC, y.aV, y.al⟩) hM (rJ dX aW k h2)
     cbv;refine Ar.exact ?_ ?_ ?_
     · show -9223372036854775808 ≤ (((k + af aW (a.take i) : Nat) : Int)) + 1;omega
     · show (((k + af aW (a.take i) : Nat) : Int)) + 1 ≤ 9223372036854775807;omega
     cbv;refine ⟨?_, ?_⟩
     · show 0 ≤ (i : Int) ∧ (i : Int) < ((aO dX aW (a.take i) k ++ (⟨((k + af aW (a.take i) : Nat) : Int), a[i].aC, a[i].aV, a[i].al⟩ : Entry) :: a.drop (i + 1)).length : Int);rw [fZ hM hR h2]; omega
     cbv;refine Sv.mk (fun _ => aO dX aW (a.take i) k ++ (⟨((k + af aW (a.take i) : Nat) : Int), ((k + af aW (a.take i) : Nat) : Int) + 1, a[i].aV, a[i].al⟩ : Entry) :: a.drop (i + 1)) ?_ ?_
     · exact e_ (fun y => ⟨y.lvl, ((k + af aW (a.take i) : Nat) : Int) + 1, y.aV, y.al⟩) hM rfl
     cbv;refine Ar.exact ?_ ?_ ?_
     · show -9223372036854775808 ≤ (((k + af aW (a.take i) : Nat) : Int) + 1) + 1;omega
     · show (((k + af aW (a.take i) : Nat) : Int) + 1) + 1 ≤ 9223372036854775807;omega
     cbv;refine ⟨?_, ?_⟩
     · show 0 ≤ (i : Int) ∧ (i : Int) < ((aO dX aW (a.take i) k ++ (⟨((k + af aW (a.take i) : Nat) : Int), ((k + af aW (a.take i) : Nat) : Int) + 1, a[i].aV, a[i].al⟩ : Entry) :: a.drop (i + 1)).length : Int);rw [fZ hM hR h2]; omega
     cbv;refine Sv.mk (fun _ => aO dX aW (a.take i) k ++ (⟨((k + af aW (a.take i) : Nat) : Int), ((k + af aW (a.take i) : Nat) : Int) + 1, ((k + af aW (a.take i) : Nat) : Int) + 1 + 1, a[i].al⟩ : Entry) :: a.drop (i + 1)) ?_ ?_
     · exact e_ (fun y => ⟨y.lvl, y.aC, ((k + af aW (a.take i) : Nat) : Int) + 1 + 1, y.al⟩) hM rfl
     cbv;refine Ar.exact ?_ ?_ ?_
     · show -9223372036854775808 ≤ (((k + af aW (a.take i) : Nat) : Int) + 1 + 1) + 1;omega
     · show (((k + af aW (a.take i) : Nat) : Int) + 1 + 1) + 1 ≤ 9223372036854775807;omega
     cbv;refine ⟨?_, ?_⟩
     · show 0 ≤ (i : Int) ∧ (i : Int) < ((aO dX aW (a.take i) k ++ (⟨((k + af aW (a.take i) : Nat) : Int), ((k + af aW (a.take i) : Nat) : Int) + 1, ((k + af aW (a.take i) : Nat) : Int) + 1 + 1, a[i].al⟩ : Entry) :: a.drop (i + 1)).length : Int);rw [fZ hM hR h2]; omega
     cbv;refine Sv.mk (fun _ => aO dX aW (a.take i) k ++ (⟨((k + af aW (a.take i) : Nat) : Int), ((k + af aW (a.take i) : Nat) : Int) + 1, ((k + af aW (a.take i) : Nat) : Int) + 1 + 1, ((k + af aW (a.take i) : Nat) : Int) + 1 + 1 + 1⟩ : Entry) :: a.drop (i + 1)) ?_ ?_
     · exact e_ (fun y => ⟨y.lvl, y.aC, y.aV, ((k + af aW (a.take i) : Nat) : Int) + 1 + 1 + 1⟩) hM rfl
     cbv;refine Ar.exact ?_ ?_ ?_
     · show -9223372036854775808 ≤ (((k + af aW (a.take i) : Nat) : Int) + 1 + 1 + 1) + 1;omega
     · show (((k + af aW (a.take i) : Nat) : Int) + 1 + 1 + 1) + 1 ≤ 9223372036854775807;omega
     cbv;refine Ar.exact ?_ ?_ ?_
     · show -9223372036854775808 ≤ (i : Int) + 1;omega
     · show (i : Int) + 1 ≤ 9223372036854775807;omega
     cbv;refine aP.by (i + 1) ?_ ?_ ?_
     · show a.length - (i + 1) < a.length - i;omega
     · exact h2
     · cbv;refine ⟨?_, rfl, ?_, trivial⟩
       · show ((k + af aW (a.take i) : Nat) : Int) + 1 + 1 + 1 + 1 = ((k + af aW (a.take (i + 1)) : Nat) : Int);rw [kz aW h2, show aW a[i] = 4 from rfl];omega
       · exact mid_end dX aW k h2
   · have h2 : ¬ (i : Int) < ((aO dX aW (a.take i) k ++ a.drop i).length : Int) := h2;rw [hlen] at h2;have h2 : a.length ≤ i := by omega
     refine ⟨?_, ?_, trivial⟩
     · exact tC dX aW k h2
     · show ((k + af aW (a.take i) : Nat) : Int) = ((k + af aW a : Nat) : Int);rw [List.take_of_length_le h2]
theorem Nn (a : List Entry) (k : Nat) (hk : k + af aW a ≤ 4611686018427387904) : Spec Tryz.prog 122 [lT .aH fun _ => aO dX aW a k, nT fun _ => k] (aE (nR fun _ => k + af aW a)) := by
 refine ay au Tryz.func122 rfl rfl (fr := true) (fun _ => by kernel_rfl) fun P hP hA => ?_;cbv;refine aU.by (X := Nat) (fun i => [(0, lT .aH fun _ => aO dX aW a k), (1, nT fun _ => k + af aW (a.take i)), (5, nT fun _ => i)]) (fun _ => []) (fun i => i ≤ a.length) (fun i _ => a.length - i) 0 (Nat.zero_le _) ?_ ?_
 · cbv;exact ⟨rfl, rfl, rfl, trivial⟩
 · intro i hi;cbv;refine Br.dec (fun h2 => ?_) (fun h2 => ?_) <;> cbv
   · have h2 : (i : Int) < ((aO dX aW a k).length : Int) := h2;rw [la] at h2;have h2 : i < a.length := by omega
     have hz : k + af aW (a.take i) + 4 ≤ 4611686018427387904 := by
       have := mU aW h2;have : af aW (a.take i) + 4 ≤ af aW a := this;omega
     have gK : a.length ≤ af aW a := qp aW a fun _ => by show 1 ≤ 4; omega
     have hg : (aO dX aW a k)[((i : Int)).toNat]? = some (dX a[i] (k + af aW (a.take i))) := by
       rw [Int.toNat_natCast, tE dX aW k h2]
     refine ⟨dX a[i] (k + af aW (a.take i)), by simp, hg, ?_⟩;cbv;refine Br.split (fun g0 => ?_) (fun g0 => ?_) <;> cbv
     · exact (gU g0).elim
     refine Ar.exact ?_ ?_ ?_
     · show -9223372036854775808 ≤ (((k + af aW (a.take i) : Nat) : Int)) + 1;omega
     · show (((k + af aW (a.take i) : Nat) : Int)) + 1 ≤ 9223372036854775807;omega
     cbv;refine ⟨dX a[i] (k + af aW (a.take i)), by simp, hg, ?_⟩;cbv;refine Br.split (fun g1 => ?_) (fun g1 => ?_) <;> cbv
     · exact (gU g1).elim
     refine Ar.exact ?_ ?_ ?_
     · show -9223372036854775808 ≤ (((k + af aW (a.take i) : Nat) : Int) + 1) + 1;omega
     · show (((k + af aW (a.take i) : Nat) : Int) + 1) + 1 ≤ 9223372036854775807;omega
     cbv;refine ⟨dX a[i] (k + af aW (a.take i)), by simp, hg, ?_⟩;cbv;refine Br.split (fun g2 => ?_) (fun g2 => ?_) <;> cbv
     · exact (gU g2).elim
     refine Ar.exact ?_ ?_ ?_
     · show -9223372036854775808 ≤ (((k + af aW (a.take i) : Nat) : Int) + 1 + 1) + 1;omega
     · show (((k + af aW (a.take i) : Nat) : Int) + 1 + 1) + 1 ≤ 9223372036854775807;omega
     cbv;refine ⟨dX a[i] (k + af aW (a.take i)), by simp, hg, ?_⟩;cbv;refine Br.split (fun g3 => ?_) (fun g3 => ?_) <;> cbv
     · exact (gU g3).elim
     refine Ar.exact ?_ ?_ ?_
     · show -9223372036854775808 ≤ (((k + af aW (a.take i) : Nat) : Int) + 1 + 1 + 1) + 1;omega
     · show (((k + af aW (a.take i) : Nat) : Int) + 1 + 1 + 1) + 1 ≤ 9223372036854775807;omega
     cbv;refine Ar.exact ?_ ?_ ?_
     · show -9223372036854775808 ≤ (i : Int) + 1;omega
     · show (i : Int) + 1 ≤ 9223372036854775807;omega
     cbv;refine aP.by (i + 1) ?_ ?_ ?_
     · show a.length - (i + 1) < a.length - i;omega
     · exact h2
     · cbv;refine ⟨rfl, ?_, rfl, trivial⟩;show ((k + af aW (a.take i) : Nat) : Int) + 1 + 1 + 1 + 1 = ((k + af aW (a.take (i + 1)) : Nat) : Int);rw [kz aW h2, show aW a[i] = 4 from rfl];omega
   · have h2 : ¬ (i : Int) < ((aO dX aW a k).length : Int) := h2;rw [la] at h2;have h2 : a.length ≤ i := by omega
     refine ⟨?_, trivial⟩;show ((k + af aW (a.take i) : Nat) : Int) = ((k + af aW a : Nat) : Int);rw [List.take_of_length_le h2]
theorem No (a : List aw) (k : Nat) (hk : k + af az a ≤ 4611686018427387904) :
   cB Tryz.prog 62 [oN 0, nT fun _ => k] [(0, aN .aG fun _ => a)] (cV (nR fun _ => k + af az a) [(0, .own .aG fun _ => aO cP az a k)]) := by
 refine dW au Tryz.func62 rfl rfl (fr := true) (fun _ => by kernel_rfl) rfl rfl fun P hP hA hB => ?_;cbv;refine aU.by (X := Nat) (fun i => [(0, oN 0), (1, nT fun _ => k + af az (a.take i)), (5, nT fun _ => i)]) (fun i => [(0, aN .aG fun _ => aO cP az (a.take i) k ++ a.drop i)]) (fun i => i ≤ a.length) (fun i _ => a.length - i) 0 (Nat.zero_le _) ?_ ?_
 · cbv;exact ⟨rfl, rfl, rfl, trivial⟩
 · intro i hi;have hlen : (aO cP az (a.take i) k ++ a.drop i).length = a.length := tB cP az a i k;cbv;refine Br.dec (fun h2 => ?_) (fun h2 => ?_) <;> cbv
   · have h2 : (i : Int) < ((aO cP az (a.take i) k ++ a.drop i).length : Int) := h2;rw [hlen] at h2;have h2 : i < a.length := by omega
     have hM : (aO cP az (a.take i) k).length = i := tD cP az k h2;have hR : (a.drop (i + 1)).length = a.length - (i + 1) := by simp
     have hz : k + af az (a.take i) + 10 ≤ 4611686018427387904 := by
       have := mU az h2;have : af az (a.take i) + 10 ≤ af az a := this;omega
     have gK : a.length ≤ af az a := qp az a fun _ => by show 1 ≤ 10; omega
     refine ⟨?_, ?_⟩
     · show 0 ≤ (i : Int) ∧ (i : Int) < ((aO cP az (a.take i) k ++ a.drop i).length : Int);rw [hlen]; omega
     cbv;refine Sv.mk (fun _ => aO cP az (a.take i) k ++ (⟨((k + af az (a.take i) : Nat) : Int), a[i].ah, a[i].ak, a[i].al, a[i].aJ, a[i].since, a[i].aC, a[i].st, a[i].cm, a[i].asked⟩ : aw) :: a.drop (i + 1)) ?_ ?_
     · exact e_ (fun y => ⟨((k + af az (a.take i) : Nat) : Int), y.ah, y.ak, y.al, y.aJ, y.since, y.aC, y.st, y.cm, y.asked⟩) hM (rJ cP az k h2)
     cbv;refine Ar.exact ?_ ?_ ?_
     · show -9223372036854775808 ≤ (((k + af az (a.take i) : Nat) : Int)) + 1;omega
     · show (((k + af az (a.take i) : Nat) : Int)) + 1 ≤ 9223372036854775807;omega
     cbv;refine ⟨?_, ?_⟩
     · show 0 ≤ (i : Int) ∧ (i : Int) < ((aO cP az (a.take i) k ++ (⟨((k + af az (a.take i) : Nat) : Int), a[i].ah, a[i].ak, a[i].al, a[i].aJ, a[i].since, a[i].aC, a[i].st, a[i].cm, a[i].asked⟩ : aw) :: a.drop (i + 1)).length : Int);rw [fZ hM hR h2]; omega
     cbv;refine Sv.mk (fun _ => aO cP az (a.take i) k ++ (⟨((k + af az (a.take i) : Nat) : Int), ((k + af az (a.take i) : Nat) : Int) + 1, a[i].ak, a[i].al, a[i].aJ, a[i].since, a[i].aC, a[i].st, a[i].cm, a[i].asked⟩ : aw) :: a.drop (i + 1)) ?_ ?_
     · exact e_ (fun y => ⟨y.id, ((k + af az (a.take i) : Nat) : Int) + 1, y.ak, y.al, y.aJ, y.since, y.aC, y.st, y.cm, y.asked⟩) hM rfl
     cbv;refine Ar.exact ?_ ?_ ?_
     · show -9223372036854775808 ≤ (((k + af az (a.take i) : Nat) : Int) + 1) + 1;omega
     · show (((k + af az (a.take i) : Nat) : Int) + 1) + 1 ≤ 9223372036854775807;omega
     cbv;refine ⟨?_, ?_⟩
     · show 0 ≤ (i : Int) ∧ (i : Int) < ((aO cP az (a.take i) k ++ (⟨((k + af az (a.take i) : Nat) : Int), ((k + af az (a.take i) : Nat) : Int) + 1, a[i].ak, a[i].al, a[i].aJ, a[i].since, a[i].aC, a[i].st, a[i].cm, a[i].asked⟩ : aw) :: a.drop (i + 1)).length : Int);rw [fZ hM hR h2]; omega
     cbv;refine Sv.mk (fun _ => aO cP az (a.take i) k ++ (⟨((k + af az (a.take i) : Nat) : Int), ((k + af az (a.take i) : Nat) : Int) + 1, ((k + af az (a.take i) : Nat) : Int) + 1 + 1, a[i].al, a[i].aJ, a[i].since, a[i].aC, a[i].st, a[i].cm, a[i].asked⟩ : aw) :: a.drop (i + 1)) ?_ ?_
     · exact e_ (fun y => ⟨y.id, y.ah, ((k + af az (a.take i) : Nat) : Int) + 1 + 1, y.al, y.aJ, y.since, y.aC, y.st, y.cm, y.asked⟩) hM rfl
     cbv;refine Ar.exact ?_ ?_ ?_
     · show -9223372036854775808 ≤ (((k + af az (a.take i) : Nat) : Int) + 1 + 1) + 1;omega
     · show (((k + af az (a.take i) : Nat) : Int) + 1 + 1) + 1 ≤ 9223372036854775807;omega
     cbv;refine ⟨?_, ?_⟩
     · show 0 ≤ (i : Int) ∧ (i : Int) < ((aO cP az (a.take i) k ++ (⟨((k + af az (a.take i) : Nat) : Int), ((k + af az (a.take i) : Nat) : Int) + 1, ((k + af az (a.take i) : Nat) : Int) + 1 + 1, a[i].al, a[i].aJ, a[i].since, a[i].aC, a[i].st, a[i].cm, a[i].asked⟩ : aw) :: a.drop (i + 1)).length : Int);rw [fZ hM hR h2]; omega
     cbv;refine Sv.mk (fun _ => aO cP az (a.take i) k ++ (⟨((k + af az (a.take i) : Nat) : Int), ((k + af az (a.take i) : Nat) : Int) + 1, ((k + af az (a.take i) : Nat) : Int) + 1 + 1, ((k + af az (a.take i) : Nat) : Int) + 1 + 1 + 1, a[i].aJ, a[i].since, a[i].aC, a[i].st, a[i].cm, a[i].asked⟩ : aw) :: a.drop (i + 1)) ?_ ?_
     · exact e_ (fun y => ⟨y.id, y.ah, y.ak, ((k + af az (a.take i) : Nat) : Int) + 1 + 1 + 1, y.aJ, y.since, y.aC, y.st, y.cm, y.asked⟩) hM rfl
     cbv;refine Ar.exact ?_ ?_ ?_
     · show -9223372036854775808 ≤ (((k + af az (a.take i) : Nat) : Int) + 1 + 1 + 1) + 1;omega
     · show (((k + af az (a.take i) : Nat) : Int) + 1 + 1 + 1) + 1 ≤ 9223372036854775807;omega
     cbv;refine ⟨?_, ?_⟩
     · show 0 ≤ (i : Int) ∧ (i : Int) < ((aO cP az (a.take i) k ++ (⟨((k + af az (a.take i) : Nat) : Int), ((k + af az (a.take i) : Nat) : Int) + 1, ((k + af az (a.take i) : Nat) : Int) + 1 + 1, ((k + af az (a.take i) : Nat) : Int) + 1 + 1 + 1, a[i].aJ, a[i].since, a[i].aC, a[i].st, a[i].cm, a[i].asked⟩ : aw) :: a.drop (i + 1)).length : Int);rw [fZ hM hR h2]; omega
     cbv;refine Sv.mk (fun _ => aO cP az (a.take i) k ++ (⟨((k + af az (a.take i) : Nat) : Int), ((k + af az (a.take i) : Nat) : Int) + 1, ((k + af az (a.take i) : Nat) : Int) + 1 + 1, ((k + af az (a.take i) : Nat) : Int) + 1 + 1 + 1, ((k + af az (a.take i) : Nat) : Int) + 1 + 1 + 1 + 1, a[i].since, a[i].aC, a[i].st, a[i].cm, a[i].asked⟩ : aw) :: a.drop (i + 1)) ?_ ?_
     · exact e_ (fun y => ⟨y.id, y.ah, y.ak, y.al, ((k + af az (a.take i) : Nat) : Int) + 1 + 1 + 1 + 1, y.since, y.aC, y.st, y.cm, y.asked⟩) hM rfl
     cbv;refine Ar.exact ?_ ?_ ?_
     · show -9223372036854775808 ≤ (((k + af az (a.take i) : Nat) : Int) + 1 + 1 + 1 + 1) + 1;omega
     · show (((k + af az (a.take i) : Nat) : Int) + 1 + 1 + 1 + 1) + 1 ≤ 9223372036854775807;omega
     cbv;refine ⟨?_, ?_⟩
     · show 0 ≤ (i : Int) ∧ (i : Int) < ((aO cP az (a.take i) k ++ (⟨((k + af az (a.take i) : Nat) : Int), ((k + af az (a.take i) : Nat) : Int) + 1, ((k + af az (a.take i) : Nat) : Int) + 1 + 1, ((k + af az (a.take i) : Nat) : Int) + 1 + 1 + 1, ((k + af az (a.take i) : Nat) : Int) + 1 + 1 + 1 + 1, a[i].since, a[i].aC, a[i].st, a[i].cm, a[i].asked⟩ : aw) :: a.drop (i + 1)).length : Int);rw [fZ hM hR h2]; omega
     cbv;refine Sv.mk (fun _ => aO cP az (a.take i) k ++ (⟨((k + af az (a.take i) : Nat) : Int), ((k + af az (a.take i) : Nat) : Int) + 1, ((k + af az (a.take i) : Nat) : Int) + 1 + 1, ((k + af az (a.take i) : Nat) : Int) + 1 + 1 + 1, ((k + af az (a.take i) : Nat) : Int) + 1 + 1 + 1 + 1, ((k + af az (a.take i) : Nat) : Int) + 1 + 1 + 1 + 1 + 1, a[i].aC, a[i].st, a[i].cm, a[i].asked⟩ : aw) :: a.drop (i + 1)) ?_ ?_
     · exact e_ (fun y => ⟨y.id, y.ah, y.ak, y.al, y.aJ, ((k + af az (a.take i) : Nat) : Int) + 1 + 1 + 1 + 1 + 1, y.aC, y.st, y.cm, y.asked⟩) hM rfl
     cbv;refine Ar.exact ?_ ?_ ?_
     · show -9223372036854775808 ≤ (((k + af az (a.take i) : Nat) : Int) + 1 + 1 + 1 + 1 + 1) + 1;omega
     · show (((k + af az (a.take i) : Nat) : Int) + 1 + 1 + 1 + 1 + 1) + 1 ≤ 9223372036854775807;omega
     cbv;refine ⟨?_, ?_⟩
     · show 0 ≤ (i : Int) ∧ (i : Int) < ((aO cP az (a.take i) k ++ (⟨((k + af az (a.take i) : Nat) : Int), ((k + af az (a.take i) : Nat) : Int) + 1, ((k + af az (a.take i) : Nat) : Int) + 1 + 1, ((k + af az (a.take i) : Nat) : Int) + 1 + 1 + 1, ((k + af az (a.take i) : Nat) : Int) + 1 + 1 + 1 + 1, ((k + af az (a.take i) : Nat) : Int) + 1 + 1 + 1 + 1 + 1, a[i].aC, a[i].st, a[i].cm, a[i].asked⟩ : aw) :: a.drop (i + 1)).length : Int);rw [fZ hM hR h2]; omega
     cbv;refine Sv.mk (fun _ => aO cP az (a.take i) k ++ (⟨((k + af az (a.take i) : Nat) : Int), ((k + af az (a.take i) : Nat) : Int) + 1, ((k + af az (a.take i) : Nat) : Int) + 1 + 1, ((k + af az (a.take i) : Nat) : Int) + 1 + 1 + 1, ((k + af az (a.take i) : Nat) : Int) + 1 + 1 + 1 + 1, ((k + af az (a.take i) : Nat) : Int) + 1 + 1 + 1 + 1 + 1, ((k + af az (a.take i) : Nat) : Int) + 1 + 1 + 1 + 1 + 1 + 1, a[i].st, a[i].cm, a[i].asked⟩ : aw) :: a.drop (i + 1)) ?_ ?_
     · exact e_ (fun y => ⟨y.id, y.ah, y.ak, y.al, y.aJ, y.since, ((k + af az (a.take i) : Nat) : Int) + 1 + 1 + 1 + 1 + 1 + 1, y.st, y.cm, y.asked⟩) hM rfl
     cbv;refine Ar.exact ?_ ?_ ?_
     · show -9223372036854775808 ≤ (((k + af az (a.take i) : Nat) : Int) + 1 + 1 + 1 + 1 + 1 + 1) + 1;omega
     · show (((k + af az (a.take i) : Nat) : Int) + 1 + 1 + 1 + 1 + 1 + 1) + 1 ≤ 9223372036854775807;omega
     cbv;refine ⟨?_, ?_⟩
     · show 0 ≤ (i : Int) ∧ (i : Int) < ((aO cP az (a.take i) k ++ (⟨((k + af az (a.take i) : Nat) : Int), ((k + af az (a.take i) : Nat) : Int) + 1, ((k + af az (a.take i) : Nat) : Int) + 1 + 1, ((k + af az (a.take i) : Nat) : Int) + 1 + 1 + 1, ((k + af az (a.take i) : Nat) : Int) + 1 + 1 + 1 + 1, ((k + af az (a.take i) : Nat) : Int) + 1 + 1 + 1 + 1 + 1, ((k + af az (a.take i) : Nat) : Int) + 1 + 1 + 1 + 1 + 1 + 1, a[i].st, a[i].cm, a[i].asked⟩ : aw) :: a.drop (i + 1)).length : Int);rw [fZ hM hR h2]; omega
     cbv;refine Sv.mk (fun _ => aO cP az (a.take i) k ++ (⟨((k + af az (a.take i) : Nat) : Int), ((k + af az (a.take i) : Nat) : Int) + 1, ((k + af az (a.take i) : Nat) : Int) + 1 + 1, ((k + af az (a.take i) : Nat) : Int) + 1 + 1 + 1, ((k + af az (a.take i) : Nat) : Int) + 1 + 1 + 1 + 1, ((k + af az (a.take i) : Nat) : Int) + 1 + 1 + 1 + 1 + 1, ((k + af az (a.take i) : Nat) : Int) + 1 + 1 + 1 + 1 + 1 + 1, ((k + af az (a.take i) : Nat) : Int) + 1 + 1 + 1 + 1 + 1 + 1 + 1, a[i].cm, a[i].asked⟩ : aw) :: a.drop (i + 1)) ?_ ?_
     · exact e_ (fun y => ⟨y.id, y.ah, y.ak, y.al, y.aJ, y.since, y.aC, ((k + af az (a.take i) : Nat) : Int) + 1 + 1 + 1 + 1 + 1 + 1 + 1, y.cm, y.asked⟩) hM rfl
     cbv;refine Ar.exact ?_ ?_ ?_
     · show -9223372036854775808 ≤ (((k + af az (a.take i) : Nat) : Int) + 1 + 1 + 1 + 1 + 1 + 1 + 1) + 1;omega
     · show (((k + af az (a.take i) : Nat) : Int) + 1 + 1 + 1 + 1 + 1 + 1 + 1) + 1 ≤ 9223372036854775807;omega
     cbv;refine ⟨?_, ?_⟩
     · show 0 ≤ (i : Int) ∧ (i : Int) < ((aO cP az (a.take i) k ++ (⟨((k + af az (a.take i) : Nat) : Int), ((k + af az (a.take i) : Nat) : Int) + 1, ((k + af az (a.take i) : Nat) : Int) + 1 + 1, ((k + af az (a.take i) : Nat) : Int) + 1 + 1 + 1, ((k + af az (a.take i) : Nat) : Int) + 1 + 1 + 1 + 1, ((k + af az (a.take i) : Nat) : Int) + 1 + 1 + 1 + 1 + 1, ((k + af az (a.take i) : Nat) : Int) + 1 + 1 + 1 + 1 + 1 + 1, ((k + af az (a.take i) : Nat) : Int) + 1 + 1 + 1 + 1 + 1 + 1 + 1, a[i].cm, a[i].asked⟩ : aw) :: a.drop (i + 1)).length : Int);rw [fZ hM hR h2]; omega
     cbv;refine Sv.mk (fun _ => aO cP az (a.take i) k ++ (⟨((k + af az (a.take i) : Nat) : Int), ((k + af az (a.take i) : Nat) : Int) + 1, ((k + af az (a.take i) : Nat) : Int) + 1 + 1, ((k + af az (a.take i) : Nat) : Int) + 1 + 1 + 1, ((k + af az (a.take i) : Nat) : Int) + 1 + 1 + 1 + 1, ((k + af az (a.take i) : Nat) : Int) + 1 + 1 + 1 + 1 + 1, ((k + af az (a.take i) : Nat) : Int) + 1 + 1 + 1 + 1 + 1 + 1, ((k + af az (a.take i) : Nat) : Int) + 1 + 1 + 1 + 1 + 1 + 1 + 1, ((k + af az (a.take i) : Nat) : Int) + 1 + 1 + 1 + 1 + 1 + 1 + 1 + 1, a[i].asked⟩ : aw) :: a.drop (i + 1)) ?_ ?_
     · exact e_ (fun y => ⟨y.id, y.ah, y.ak, y.al, y.aJ, y.since, y.aC, y.st, ((k + af az (a.take i) : Nat) : Int) + 1 + 1 + 1 + 1 + 1 + 1 + 1 + 1, y.asked⟩) hM rfl
     cbv;refine Ar.exact ?_ ?_ ?_
     · show -9223372036854775808 ≤ (((k + af az (a.take i) : Nat) : Int) + 1 + 1 + 1 + 1 + 1 + 1 + 1 + 1) + 1;omega
     · show (((k + af az (a.take i) : Nat) : Int) + 1 + 1 + 1 + 1 + 1 + 1 + 1 + 1) + 1 ≤ 9223372036854775807;omega
     cbv;refine ⟨?_, ?_⟩
     · show 0 ≤ (i : Int) ∧ (i : Int) < ((aO cP az (a.take i) k ++ (⟨((k + af az (a.take i) : Nat) : Int), ((k + af az (a.take i) : Nat) : Int) + 1, ((k + af az (a.take i) : Nat) : Int) + 1 + 1, ((k + af az (a.take i) : Nat) : Int) + 1 + 1 + 1, ((k + af az (a.take i) : Nat) : Int) + 1 + 1 + 1 + 1, ((k + af az (a.take i) : Nat) : Int) + 1 + 1 + 1 + 1 + 1, ((k + af az (a.take i) : Nat) : Int) + 1 + 1 + 1 + 1 + 1 + 1, ((k + af az (a.take i) : Nat) : Int) + 1 + 1 + 1 + 1 + 1 + 1 + 1, ((k + af az (a.take i) : Nat) : Int) + 1 + 1 + 1 + 1 + 1 + 1 + 1 + 1, a[i].asked⟩ : aw) :: a.drop (i + 1)).length : Int);rw [fZ hM hR h2]; omega
     cbv;refine Sv.mk (fun _ => aO cP az (a.take i) k ++ (⟨((k + af az (a.take i) : Nat) : Int), ((k + af az (a.take i) : Nat) : Int) + 1, ((k + af az (a.take i) : Nat) : Int) + 1 + 1, ((k + af az (a.take i) : Nat) : Int) + 1 + 1 + 1, ((k + af az (a.take i) : Nat) : Int) + 1 + 1 + 1 + 1, ((k + af az (a.take i) : Nat) : Int) + 1 + 1 + 1 + 1 + 1, ((k + af az (a.take i) : Nat) : Int) + 1 + 1 + 1 + 1 + 1 + 1, ((k + af az (a.take i) : Nat) : Int) + 1 + 1 + 1 + 1 + 1 + 1 + 1, ((k + af az (a.take i) : Nat) : Int) + 1 + 1 + 1 + 1 + 1 + 1 + 1 + 1, ((k + af az (a.take i) : Nat) : Int) + 1 + 1 + 1 + 1 + 1 + 1 + 1 + 1 + 1⟩ : aw) :: a.drop (i + 1)) ?_ ?_
     · exact e_ (fun y => ⟨y.id, y.ah, y.ak, y.al, y.aJ, y.since, y.aC, y.st, y.cm, ((k + af az (a.take i) : Nat) : Int) + 1 + 1 + 1 + 1 + 1 + 1 + 1 + 1 + 1⟩) hM rfl
     cbv;refine Ar.exact ?_ ?_ ?_
     · show -9223372036854775808 ≤ (((k + af az (a.take i) : Nat) : Int) + 1 + 1 + 1 + 1 + 1 + 1 + 1 + 1 + 1) + 1;omega
     · show (((k + af az (a.take i) : Nat) : Int) + 1 + 1 + 1 + 1 + 1 + 1 + 1 + 1 + 1) + 1 ≤ 9223372036854775807;omega
     cbv;refine Ar.exact ?_ ?_ ?_
     · show -9223372036854775808 ≤ (i : Int) + 1;omega
     · show (i : Int) + 1 ≤ 9223372036854775807;omega
     cbv;refine aP.by (i + 1) ?_ ?_ ?_
     · show a.length - (i + 1) < a.length - i;omega
     · exact h2
     · cbv;refine ⟨?_, rfl, ?_, trivial⟩
       · show ((k + af az (a.take i) : Nat) : Int) + 1 + 1 + 1 + 1 + 1 + 1 + 1 + 1 + 1 + 1 = ((k + af az (a.take (i + 1)) : Nat) : Int);rw [kz az h2, show az a[i] = 10 from rfl];omega
       · exact mid_end cP az k h2
   · have h2 : ¬ (i : Int) < ((aO cP az (a.take i) k ++ a.drop i).length : Int) := h2;rw [hlen] at h2;have h2 : a.length ≤ i := by omega
     refine ⟨?_, ?_, trivial⟩
     · exact tC cP az k h2
     · show ((k + af az (a.take i) : Nat) : Int) = ((k + af az a : Nat) : Int);rw [List.take_of_length_le h2]
theorem Np (a : List aw) (k : Nat) (hk : k + af az a ≤ 4611686018427387904) : Spec Tryz.prog 65 [lT .aG fun _ => aO cP az a k, nT fun _ => k] (aE (nR fun _ => k + af az a)) := by
 refine ay au Tryz.func65 rfl rfl (fr := true) (fun _ => by kernel_rfl) fun P hP hA => ?_;cbv;refine aU.by (X := Nat) (fun i => [(0, lT .aG fun _ => aO cP az a k), (1, nT fun _ => k + af az (a.take i)), (5, nT fun _ => i)]) (fun _ => []) (fun i => i ≤ a.length) (fun i _ => a.length - i) 0 (Nat.zero_le _) ?_ ?_
 · cbv;exact ⟨rfl, rfl, rfl, trivial⟩
 · intro i hi;cbv;refine Br.dec (fun h2 => ?_) (fun h2 => ?_) <;> cbv
   · have h2 : (i : Int) < ((aO cP az a k).length : Int) := h2;rw [la] at h2;have h2 : i < a.length := by omega
     have hz : k + af az (a.take i) + 10 ≤ 4611686018427387904 := by
       have := mU az h2;have : af az (a.take i) + 10 ≤ af az a := this;omega
     have gK : a.length ≤ af az a := qp az a fun _ => by show 1 ≤ 10; omega
     have hg : (aO cP az a k)[((i : Int)).toNat]? = some (cP a[i] (k + af az (a.take i))) := by
       rw [Int.toNat_natCast, tE cP az k h2]
     refine ⟨cP a[i] (k + af az (a.take i)), by simp, hg, ?_⟩;cbv;refine Br.split (fun g0 => ?_) (fun g0 => ?_) <;> cbv
     · exact (gU g0).elim
     refine Ar.exact ?_ ?_ ?_
     · show -9223372036854775808 ≤ (((k + af az (a.take i) : Nat) : Int)) + 1;omega
     · show (((k + af az (a.take i) : Nat) : Int)) + 1 ≤ 9223372036854775807;omega
     cbv;refine ⟨cP a[i] (k + af az (a.take i)), by simp, hg, ?_⟩;cbv;refine Br.split (fun g1 => ?_) (fun g1 => ?_) <;> cbv
     · exact (gU g1).elim
     refine Ar.exact ?_ ?_ ?_
     · show -9223372036854775808 ≤ (((k + af az (a.take i) : Nat) : Int) + 1) + 1;omega
     · show (((k + af az (a.take i) : Nat) : Int) + 1) + 1 ≤ 9223372036854775807;omega
     cbv;refine ⟨cP a[i] (k + af az (a.take i)), by simp, hg, ?_⟩;cbv;refine Br.split (fun g2 => ?_) (fun g2 => ?_) <;> cbv
     · exact (gU g2).elim
     refine Ar.exact ?_ ?_ ?_
     · show -9223372036854775808 ≤ (((k + af az (a.take i) : Nat) : Int) + 1 + 1) + 1;omega
     · show (((k + af az (a.take i) : Nat) : Int) + 1 + 1) + 1 ≤ 9223372036854775807;omega
     cbv;refine ⟨cP a[i] (k + af az (a.take i)), by simp, hg, ?_⟩;cbv;refine Br.split (fun g3 => ?_) (fun g3 => ?_) <;> cbv
     · exact (gU g3).elim
     refine Ar.exact ?_ ?_ ?_
     · show -9223372036854775808 ≤ (((k + af az (a.take i) : Nat) : Int) + 1 + 1 + 1) + 1;omega
     · show (((k + af az (a.take i) : Nat) : Int) + 1 + 1 + 1) + 1 ≤ 9223372036854775807;omega
     cbv;refine ⟨cP a[i] (k + af az (a.take i)), by simp, hg, ?_⟩;cbv;refine Br.split (fun g4 => ?_) (fun g4 => ?_) <;> cbv
     · exact (gU g4).elim
     refine Ar.exact ?_ ?_ ?_
     · show -9223372036854775808 ≤ (((k + af az (a.take i) : Nat) : Int) + 1 + 1 + 1 + 1) + 1;omega
     · show (((k + af az (a.take i) : Nat) : Int) + 1 + 1 + 1 + 1) + 1 ≤ 9223372036854775807;omega
     cbv;refine ⟨cP a[i] (k + af az (a.take i)), by simp, hg, ?_⟩;cbv;refine Br.split (fun g5 => ?_) (fun g5 => ?_) <;> cbv
     · exact (gU g5).elim
     refine Ar.exact ?_ ?_ ?_
     · show -9223372036854775808 ≤ (((k + af az (a.take i) : Nat) : Int) + 1 + 1 + 1 + 1 + 1) + 1;omega
     · show (((k + af az (a.take i) : Nat) : Int) + 1 + 1 + 1 + 1 + 1) + 1 ≤ 9223372036854775807;omega
     cbv;refine ⟨cP a[i] (k + af az (a.take i)), by simp, hg, ?_⟩;cbv;refine Br.split (fun g6 => ?_) (fun g6 => ?_) <;> cbv
     · exact (gU g6).elim
     refine Ar.exact ?_ ?_ ?_
     · show -9223372036854775808 ≤ (((k + af az (a.take i) : Nat) : Int) + 1 + 1 + 1 + 1 + 1 + 1) + 1;omega
     · show (((k + af az (a.take i) : Nat) : Int) + 1 + 1 + 1 + 1 + 1 + 1) + 1 ≤ 9223372036854775807;omega
     cbv;refine ⟨cP a[i] (k + af az (a.take i)), by simp, hg, ?_⟩;cbv;refine Br.split (fun g7 => ?_) (fun g7 => ?_) <;> cbv
     · exact (gU g7).elim
     refine Ar.exact ?_ ?_ ?_
     · show -9223372036854775808 ≤ (((k + af az (a.take i) : Nat) : Int) + 1 + 1 + 1 + 1 + 1 + 1 + 1) + 1;omega
     · show (((k + af az (a.take i) : Nat) : Int) + 1 + 1 + 1 + 1 + 1 + 1 + 1) + 1 ≤ 9223372036854775807;omega
     cbv;refine ⟨cP a[i] (k + af az (a.take i)), by simp, hg, ?_⟩;cbv;refine Br.split (fun g8 => ?_) (fun g8 => ?_) <;> cbv
     · exact (gU g8).elim
     refine Ar.exact ?_ ?_ ?_
     · show -9223372036854775808 ≤ (((k + af az (a.take i) : Nat) : Int) + 1 + 1 + 1 + 1 + 1 + 1 + 1 + 1) + 1;omega
     · show (((k + af az (a.take i) : Nat) : Int) + 1 + 1 + 1 + 1 + 1 + 1 + 1 + 1) + 1 ≤ 9223372036854775807;omega
     cbv;refine ⟨cP a[i] (k + af az (a.take i)), by simp, hg, ?_⟩;cbv;refine Br.split (fun g9 => ?_) (fun g9 => ?_) <;> cbv
     · exact (gU g9).elim
     refine Ar.exact ?_ ?_ ?_
     · show -9223372036854775808 ≤ (((k + af az (a.take i) : Nat) : Int) + 1 + 1 + 1 + 1 + 1 + 1 + 1 + 1 + 1) + 1;omega
     · show (((k + af az (a.take i) : Nat) : Int) + 1 + 1 + 1 + 1 + 1 + 1 + 1 + 1 + 1) + 1 ≤ 9223372036854775807;omega
     cbv;refine Ar.exact ?_ ?_ ?_
     · show -9223372036854775808 ≤ (i : Int) + 1;omega
     · show (i : Int) + 1 ≤ 9223372036854775807;omega
     cbv;refine aP.by (i + 1) ?_ ?_ ?_
     · show a.length - (i + 1) < a.length - i;omega
     · exact h2
     · cbv;refine ⟨rfl, ?_, rfl, trivial⟩;show ((k + af az (a.take i) : Nat) : Int) + 1 + 1 + 1 + 1 + 1 + 1 + 1 + 1 + 1 + 1 = ((k + af az (a.take (i + 1)) : Nat) : Int);rw [kz az h2, show az a[i] = 10 from rfl];omega
   · have h2 : ¬ (i : Int) < ((aO cP az a k).length : Int) := h2;rw [la] at h2;have h2 : a.length ≤ i := by omega
     refine ⟨?_, trivial⟩;show ((k + af az (a.take i) : Nat) : Int) = ((k + af az a : Nat) : Int);rw [List.take_of_length_le h2]
theorem Nq (a : List (List aB)) (k : Nat) (hn : a.length ≤ bc) (hk : k + af cj a ≤ 4611686018427387904) :
   cB Tryz.prog 121 [oN 0, nT fun _ => k] [(0, aN .bZ fun _ => a)] (cV (nR fun _ => k + af cj a) [(0, .own .bZ fun _ => aO gw cj a k)]) := by
 refine dW au Tryz.func121 rfl rfl (fr := true) (fun _ => by kernel_rfl) rfl rfl fun P hP hA hB => ?_;have hn : a.length ≤ 1048576 := hn;cbv;refine aU.by (X := Nat) (fun i => [(0, oN 0), (1, nT fun _ => k + af cj (a.take i)), (5, nT fun _ => i)]) (fun i => [(0, aN .bZ fun _ => aO gw cj (a.take i) k ++ a.drop i)]) (fun i => i ≤ a.length) (fun i _ => a.length - i) 0 (Nat.zero_le _) ?_ ?_
 · cbv;exact ⟨rfl, rfl, rfl, trivial⟩
 · intro i hi;have hlen : (aO gw cj (a.take i) k ++ a.drop i).length = a.length := tB gw cj a i k;cbv;refine Br.dec (fun h2 => ?_) (fun h2 => ?_) <;> cbv
   · have h2 : (i : Int) < ((aO gw cj (a.take i) k ++ a.drop i).length : Int) := h2;rw [hlen] at h2;have h2 : i < a.length := by omega
     have hM : (aO gw cj (a.take i) k).length = i := tD gw cj k h2
     have hz : k + af cj (a.take i) + af bH a[i] ≤ 4611686018427387904 := by
       have := mU cj h2;have : af cj (a.take i) + af bH a[i] ≤ af cj a := this;omega
     refine ⟨?_, ?_⟩
     · show 0 ≤ (i : Int) ∧ (i : Int) < ((aO gw cj (a.take i) k ++ a.drop i).length : Int);rw [hlen]; omega
     cbv;refine bB.dL hP (Nk a[i] (k + af cj (a.take i)) hz) rfl ?_ ?_
     · refine congrArg (fun l => [(0, ar.own .aI (fun _ => l) false)]) ?_;exact Bp hM (rJ gw cj k h2)
     cbv;refine Ar.exact ?_ ?_ ?_
     · show -9223372036854775808 ≤ (i : Int) + 1;omega
     · show (i : Int) + 1 ≤ 9223372036854775807;omega
     cbv;refine aP.by (i + 1) ?_ ?_ ?_
     · show a.length - (i + 1) < a.length - i;omega
     · exact h2
     · cbv;refine ⟨?_, rfl, ?_, trivial⟩
       · show ((k + af cj (a.take i) + af bH a[i] : Nat) : Int) = ((k + af cj (a.take (i + 1)) : Nat) : Int);rw [kz cj h2, show cj a[i] = af bH a[i] from rfl, Nat.add_assoc]
       · exact (e_ (fun _ => aO fF bH a[i] (k + af cj (a.take i))) (d := []) hM (rJ gw cj k h2)).trans (mid_end gw cj k h2)
   · have h2 : ¬ (i : Int) < ((aO gw cj (a.take i) k ++ a.drop i).length : Int) := h2;rw [hlen] at h2;have h2 : a.length ≤ i := by omega
     refine ⟨?_, ?_, trivial⟩
     · exact tC gw cj k h2
     · show ((k + af cj (a.take i) : Nat) : Int) = ((k + af cj a : Nat) : Int);rw [List.take_of_length_le h2]
theorem Nr (a : List (List aB)) (k : Nat) (hn : a.length ≤ bc) (hk : k + af cj a ≤ 4611686018427387904) : Spec Tryz.prog 123 [lT .bZ fun _ => aO gw cj a k, nT fun _ => k] (aE (nR fun _ => k + af cj a)) := by
 refine ay au Tryz.func123 rfl rfl (fr := true) (fun _ => by kernel_rfl) fun P hP hA => ?_;have hn : a.length ≤ 1048576 := hn;cbv;refine aU.by (X := Nat) (fun i => [(0, lT .bZ fun _ => aO gw cj a k), (1, nT fun _ => k + af cj (a.take i)), (5, nT fun _ => i)]) (fun _ => []) (fun i => i ≤ a.length) (fun i _ => a.length - i) 0 (Nat.zero_le _) ?_ ?_
 · cbv;exact ⟨rfl, rfl, rfl, trivial⟩
 · intro i hi;cbv;refine Br.dec (fun h2 => ?_) (fun h2 => ?_) <;> cbv
   · have h2 : (i : Int) < ((aO gw cj a k).length : Int) := h2;rw [la] at h2;have h2 : i < a.length := by omega
     have hz : k + af cj (a.take i) + af bH a[i] ≤ 4611686018427387904 := by
       have := mU cj h2;have : af cj (a.take i) + af bH a[i] ≤ af cj a := this;omega
     have hg : (aO gw cj a k)[((i : Int)).toNat]? = some (gw a[i] (k + af cj (a.take i))) := by
       rw [Int.toNat_natCast, tE gw cj k h2]
     refine ⟨gw a[i] (k + af cj (a.take i)), by simp, hg, ?_⟩;cbv;refine ag.dL hP (Nl a[i] (k + af cj (a.take i)) hz) rfl ?_;cbv;refine Br.split (fun g => ?_) (fun g => ?_) <;> cbv
     · exact (jx g).elim
     refine Ar.exact ?_ ?_ ?_
     · show -9223372036854775808 ≤ (i : Int) + 1;omega
     · show (i : Int) + 1 ≤ 9223372036854775807;omega
     cbv;refine aP.by (i + 1) ?_ ?_ ?_
     · show a.length - (i + 1) < a.length - i;omega
     · exact h2
     · cbv;refine ⟨rfl, ?_, rfl, trivial⟩;show ((k + af cj (a.take i) + af bH a[i] : Nat) : Int) = ((k + af cj (a.take (i + 1)) : Nat) : Int);rw [kz cj h2, show cj a[i] = af bH a[i] from rfl, Nat.add_assoc]
   · have h2 : ¬ (i : Int) < ((aO gw cj a k).length : Int) := h2;rw [la] at h2;have h2 : a.length ≤ i := by omega
     refine ⟨?_, trivial⟩;show ((k + af cj (a.take i) : Nat) : Int) = ((k + af cj a : Nat) : Int);rw [List.take_of_length_le h2]
theorem Ns (a : List bd) (k : Nat) (hs : jy a) (hk : k + af aK a ≤ 4611686018427387904) :
   cB Tryz.prog 63 [oN 0, nT fun _ => k] [(0, aN .ah fun _ => a)] (cV (nR fun _ => k + af aK a) [(0, .own .ah fun _ => aO dn aK a k)]) := by
 refine dW au Tryz.func63 rfl rfl (fr := true) (fun _ => by kernel_rfl) rfl rfl fun P hP hA hB => ?_;have hn : a.length ≤ 1048576 := hs.1;cbv;refine aU.by (X := Nat) (fun i => [(0, oN 0), (1, nT fun _ => k + af aK (a.take i)), (5, nT fun _ => i)]) (fun i => [(0, aN .ah fun _ => aO dn aK (a.take i) k ++ a.drop i)]) (fun i => i ≤ a.length) (fun i _ => a.length - i) 0 (Nat.zero_le _) ?_ ?_
 · cbv;exact ⟨rfl, rfl, rfl, trivial⟩
 · intro i hi;have hlen : (aO dn aK (a.take i) k ++ a.drop i).length = a.length := tB dn aK a i k;cbv;refine Br.dec (fun h2 => ?_) (fun h2 => ?_) <;> cbv
   · have h2 : (i : Int) < ((aO dn aK (a.take i) k ++ a.drop i).length : Int) := h2;rw [hlen] at h2;have h2 : i < a.length := by omega
     have hM : (aO dn aK (a.take i) k).length = i := tD dn aK k h2;have hR : (a.drop (i + 1)).length = a.length - (i + 1) := by simp
     have hx : fU a[i] := hs.2 _ (List.getElem_mem _)
     have hz : k + af aK (a.take i) + (5 + af aW a[i].row + af cj a[i].spoke) ≤ 4611686018427387904 := by
       have := mU aK h2;have : af aK (a.take i) + (5 + af aW a[i].row + af cj a[i].spoke) ≤ af aK a := this;omega
     refine ⟨?_, ?_⟩
     · show 0 ≤ (i : Int) ∧ (i : Int) < ((aO dn aK (a.take i) k ++ a.drop i).length : Int);rw [hlen]; omega
     cbv;refine Sv.mk (fun _ => aO dn aK (a.take i) k ++ (⟨⟨((k + af aK (a.take i) : Nat) : Int), a[i].aj.free, a[i].aj.held, a[i].aj.bn, a[i].aj.tied⟩, a[i].row, a[i].spoke⟩ : bd) :: a.drop (i + 1)) ?_ ?_
     · exact e_ (fun y => ⟨⟨((k + af aK (a.take i) : Nat) : Int), y.aj.free, y.aj.held, y.aj.bn, y.aj.tied⟩, y.row, y.spoke⟩) hM (rJ dn aK k h2)
     cbv;refine Ar.exact ?_ ?_ ?_
     · show -9223372036854775808 ≤ (((k + af aK (a.take i) : Nat) : Int)) + 1;omega
     · show (((k + af aK (a.take i) : Nat) : Int)) + 1 ≤ 9223372036854775807;omega
     cbv;refine ⟨?_, ?_⟩
     · show 0 ≤ (i : Int) ∧ (i : Int) < ((aO dn aK (a.take i) k ++ (⟨⟨((k + af aK (a.take i) : Nat) : Int), a[i].aj.free, a[i].aj.held, a[i].aj.bn, a[i].aj.tied⟩, a[i].row, a[i].spoke⟩ : bd) :: a.drop (i + 1)).length : Int);rw [fZ hM hR h2]; omega
     cbv;refine Sv.mk (fun _ => aO dn aK (a.take i) k ++ (⟨⟨((k + af aK (a.take i) : Nat) : Int), ((k + af aK (a.take i) : Nat) : Int) + 1, a[i].aj.held, a[i].aj.bn, a[i].aj.tied⟩, a[i].row, a[i].spoke⟩ : bd) :: a.drop (i + 1)) ?_ ?_
     · exact e_ (fun y => ⟨⟨y.aj.total, ((k + af aK (a.take i) : Nat) : Int) + 1, y.aj.held, y.aj.bn, y.aj.tied⟩, y.row, y.spoke⟩) hM rfl
     cbv;refine Ar.exact ?_ ?_ ?_
     · show -9223372036854775808 ≤ (((k + af aK (a.take i) : Nat) : Int) + 1) + 1;omega
     · show (((k + af aK (a.take i) : Nat) : Int) + 1) + 1 ≤ 9223372036854775807;omega
     cbv;refine ⟨?_, ?_⟩
     · show 0 ≤ (i : Int) ∧ (i : Int) < ((aO dn aK (a.take i) k ++ (⟨⟨((k + af aK (a.take i) : Nat) : Int), ((k + af aK (a.take i) : Nat) : Int) + 1, a[i].aj.held, a[i].aj.bn, a[i].aj.tied⟩, a[i].row, a[i].spoke⟩ : bd) :: a.drop (i + 1)).length : Int);rw [fZ hM hR h2]; omega
     cbv;refine Sv.mk (fun _ => aO dn aK (a.take i) k ++ (⟨⟨((k + af aK (a.take i) : Nat) : Int), ((k + af aK (a.take i) : Nat) : Int) + 1, ((k + af aK (a.take i) : Nat) : Int) + 1 + 1, a[i].aj.bn, a[i].aj.tied⟩, a[i].row, a[i].spoke⟩ : bd) :: a.drop (i + 1)) ?_ ?_
     · exact e_ (fun y => ⟨⟨y.aj.total, y.aj.free, ((k + af aK (a.take i) : Nat) : Int) + 1 + 1, y.aj.bn, y.aj.tied⟩, y.row, y.spoke⟩) hM rfl
     cbv;refine Ar.exact ?_ ?_ ?_
     · show -9223372036854775808 ≤ (((k + af aK (a.take i) : Nat) : Int) + 1 + 1) + 1;omega
     · show (((k + af aK (a.take i) : Nat) : Int) + 1 + 1) + 1 ≤ 9223372036854775807;omega
     cbv;refine ⟨?_, ?_⟩
     · show 0 ≤ (i : Int) ∧ (i : Int) < ((aO dn aK (a.take i) k ++ (⟨⟨((k + af aK (a.take i) : Nat) : Int), ((k + af aK (a.take i) : Nat) : Int) + 1, ((k + af aK (a.take i) : Nat) : Int) + 1 + 1, a[i].aj.bn, a[i].aj.tied⟩, a[i].row, a[i].spoke⟩ : bd) :: a.drop (i + 1)).length : Int);rw [fZ hM hR h2]; omega
     cbv;refine Sv.mk (fun _ => aO dn aK (a.take i) k ++ (⟨⟨((k + af aK (a.take i) : Nat) : Int), ((k + af aK (a.take i) : Nat) : Int) + 1, ((k + af aK (a.take i) : Nat) : Int) + 1 + 1, ((k + af aK (a.take i) : Nat) : Int) + 1 + 1 + 1, a[i].aj.tied⟩, a[i].row, a[i].spoke⟩ : bd) :: a.drop (i + 1)) ?_ ?_
     · exact e_ (fun y => ⟨⟨y.aj.total, y.aj.free, y.aj.held, ((k + af aK (a.take i) : Nat) : Int) + 1 + 1 + 1, y.aj.tied⟩, y.row, y.spoke⟩) hM rfl
     cbv;refine Ar.exact ?_ ?_ ?_
     · show -9223372036854775808 ≤ (((k + af aK (a.take i) : Nat) : Int) + 1 + 1 + 1) + 1;omega
     · show (((k + af aK (a.take i) : Nat) : Int) + 1 + 1 + 1) + 1 ≤ 9223372036854775807;omega
     cbv;refine ⟨?_, ?_⟩
     · show 0 ≤ (i : Int) ∧ (i : Int) < ((aO dn aK (a.take i) k ++ (⟨⟨((k + af aK (a.take i) : Nat) : Int), ((k + af aK (a.take i) : Nat) : Int) + 1, ((k + af aK (a.take i) : Nat) : Int) + 1 + 1, ((k + af aK (a.take i) : Nat) : Int) + 1 + 1 + 1, a[i].aj.tied⟩, a[i].row, a[i].spoke⟩ : bd) :: a.drop (i + 1)).length : Int);rw [fZ hM hR h2]; omega
     cbv;refine Sv.mk (fun _ => aO dn aK (a.take i) k ++ (⟨⟨((k + af aK (a.take i) : Nat) : Int), ((k + af aK (a.take i) : Nat) : Int) + 1, ((k + af aK (a.take i) : Nat) : Int) + 1 + 1, ((k + af aK (a.take i) : Nat) : Int) + 1 + 1 + 1, ((k + af aK (a.take i) : Nat) : Int) + 1 + 1 + 1 + 1⟩, a[i].row, a[i].spoke⟩ : bd) :: a.drop (i + 1)) ?_ ?_
     · exact e_ (fun y => ⟨⟨y.aj.total, y.aj.free, y.aj.held, y.aj.bn, ((k + af aK (a.take i) : Nat) : Int) + 1 + 1 + 1 + 1⟩, y.row, y.spoke⟩) hM rfl
     cbv;refine Ar.exact ?_ ?_ ?_
     · show -9223372036854775808 ≤ (((k + af aK (a.take i) : Nat) : Int) + 1 + 1 + 1 + 1) + 1;omega
     · show (((k + af aK (a.take i) : Nat) : Int) + 1 + 1 + 1 + 1) + 1 ≤ 9223372036854775807;omega
     cbv;refine ⟨?_, ?_⟩
     · show 0 ≤ (i : Int) ∧ (i : Int) < ((aO dn aK (a.take i) k ++ (⟨⟨((k + af aK (a.take i) : Nat) : Int), ((k + af aK (a.take i) : Nat) : Int) + 1, ((k + af aK (a.take i) : Nat) : Int) + 1 + 1, ((k + af aK (a.take i) : Nat) : Int) + 1 + 1 + 1, ((k + af aK (a.take i) : Nat) : Int) + 1 + 1 + 1 + 1⟩, a[i].row, a[i].spoke⟩ : bd) :: a.drop (i + 1)).length : Int);rw [fZ hM hR h2]; omega
     cbv;refine bB.dL hP (Nm a[i].row (k + af aK (a.take i) + 5) (by omega)) ?_ ?_ ?_
     · refine congrArg (fun l => [oN 0, iT fun _ => l]) ?_;show ((k + af aK (a.take i) : Nat) : Int) + 1 + 1 + 1 + 1 + 1 = ((k + af aK (a.take i) + 5 : Nat) : Int);omega
     · refine congrArg (fun l => [(0, ar.own .aH (fun _ => l) false)]) ?_;have e := Bp (x := (⟨⟨((k + af aK (a.take i) : Nat) : Int), ((k + af aK (a.take i) : Nat) : Int) + 1, ((k + af aK (a.take i) : Nat) : Int) + 1 + 1, ((k + af aK (a.take i) : Nat) : Int) + 1 + 1 + 1, ((k + af aK (a.take i) : Nat) : Int) + 1 + 1 + 1 + 1⟩, a[i].row, a[i].spoke⟩ : bd)) (R := a.drop (i + 1)) (d := default) hM rfl;have e := congrArg bd.row e;exact e
     cbv
     have vv : (aO dn aK (a.take i) k ++ (⟨⟨((k + af aK (a.take i) : Nat) : Int), ((k + af aK (a.take i) : Nat) : Int) + 1, ((k + af aK (a.take i) : Nat) : Int) + 1 + 1, ((k + af aK (a.take i) : Nat) : Int) + 1 + 1 + 1, ((k + af aK (a.take i) : Nat) : Int) + 1 + 1 + 1 + 1⟩, a[i].row, a[i].spoke⟩ : bd) :: a.drop (i + 1)).set ((i : Int)).toNat
         ⟨((aO dn aK (a.take i) k ++ (⟨⟨((k + af aK (a.take i) : Nat) : Int), ((k + af aK (a.take i) : Nat) : Int) + 1, ((k + af aK (a.take i) : Nat) : Int) + 1 + 1, ((k + af aK (a.take i) : Nat) : Int) + 1 + 1 + 1, ((k + af aK (a.take i) : Nat) : Int) + 1 + 1 + 1 + 1⟩, a[i].row, a[i].spoke⟩ : bd) :: a.drop (i + 1)).getD ((i : Int)).toNat default).aj, aO dX aW a[i].row (k + af aK (a.take i) + 5), ((aO dn aK (a.take i) k ++ (⟨⟨((k + af aK (a.take i) : Nat) : Int), ((k + af aK (a.take i) : Nat) : Int) + 1, ((k + af aK (a.take i) : Nat) : Int) + 1 + 1, ((k + af aK (a.take i) : Nat) : Int) + 1 + 1 + 1, ((k + af aK (a.take i) : Nat) : Int) + 1 + 1 + 1 + 1⟩, a[i].row, a[i].spoke⟩ : bd) :: a.drop (i + 1)).getD ((i : Int)).toNat default).spoke⟩ =
         aO dn aK (a.take i) k ++ (⟨⟨((k + af aK (a.take i) : Nat) : Int), ((k + af aK (a.take i) : Nat) : Int) + 1, ((k + af aK (a.take i) : Nat) : Int) + 1 + 1, ((k + af aK (a.take i) : Nat) : Int) + 1 + 1 + 1, ((k + af aK (a.take i) : Nat) : Int) + 1 + 1 + 1 + 1⟩, aO dX aW a[i].row (k + af aK (a.take i) + 5), a[i].spoke⟩ : bd) :: a.drop (i + 1) :=
       e_ (fun y => ⟨y.aj, aO dX aW a[i].row (k + af aK (a.take i) + 5), y.spoke⟩) hM rfl
     refine ⟨?_, ?_⟩
     · show 0 ≤ (i : Int) ∧ (i : Int) < ((aO dn aK (a.take i) k ++ (⟨⟨((k + af aK (a.take i) : Nat) : Int), ((k + af aK (a.take i) : Nat) : Int) + 1, ((k + af aK (a.take i) : Nat) : Int) + 1 + 1, ((k + af aK (a.take i) : Nat) : Int) + 1 + 1 + 1, ((k + af aK (a.take i) : Nat) : Int) + 1 + 1 + 1 + 1⟩, a[i].row, a[i].spoke⟩ : bd) :: a.drop (i + 1)).length : Int);rw [fZ hM hR h2]; omega
     cbv;refine bB.dL hP (Nq a[i].spoke (k + af aK (a.take i) + 5 + af aW a[i].row) hx.2.1 (by omega)) ?_ ?_ ?_
     · rfl
     · refine congrArg (fun l => [(0, ar.own .bZ (fun _ => l) false)]) ?_;have e := Bp (d := default) hM vv;have e := congrArg bd.spoke e;exact e
     cbv;refine Ar.exact ?_ ?_ ?_
     · show -9223372036854775808 ≤ (i : Int) + 1;omega
     · show (i : Int) + 1 ≤ 9223372036854775807;omega
     cbv;refine aP.by (i + 1) ?_ ?_ ?_
     · show a.length - (i + 1) < a.length - i;omega
     · exact h2
     · cbv;refine ⟨?_, rfl, ?_, trivial⟩
       · show ((k + af aK (a.take i) + 5 + af aW a[i].row + af cj a[i].spoke : Nat) : Int) = ((k + af aK (a.take (i + 1)) : Nat) : Int);rw [kz aK h2, show aK a[i] = 5 + af aW a[i].row + af cj a[i].spoke from rfl];omega
       · have := (e_ (fun y => ⟨y.aj, y.row, aO gw cj a[i].spoke (k + af aK (a.take i) + 5 + af aW a[i].row)⟩) (d := default) hM vv).trans (mid_end dn aK k h2);exact this
   · have h2 : ¬ (i : Int) < ((aO dn aK (a.take i) k ++ a.drop i).length : Int) := h2;rw [hlen] at h2;have h2 : a.length ≤ i := by omega
     refine ⟨?_, ?_, trivial⟩
     · exact tC dn aK k h2
     · show ((k + af aK (a.take i) : Nat) : Int) = ((k + af aK a : Nat) : Int);rw [List.take_of_length_le h2]
theorem Nt (a : List bd) (k : Nat) (hs : jy a) (hk : k + af aK a ≤ 4611686018427387904) : Spec Tryz.prog 66 [lT .ah fun _ => aO dn aK a k, nT fun _ => k] (aE (nR fun _ => k + af aK a)) := by
 refine ay au Tryz.func66 rfl rfl (fr := true) (fun _ => by kernel_rfl) fun P hP hA => ?_;have hn : a.length ≤ 1048576 := hs.1;cbv;refine aU.by (X := Nat) (fun i => [(0, lT .ah fun _ => aO dn aK a k), (1, nT fun _ => k + af aK (a.take i)), (5, nT fun _ => i)]) (fun _ => []) (fun i => i ≤ a.length) (fun i _ => a.length - i) 0 (Nat.zero_le _) ?_ ?_
 · cbv;exact ⟨rfl, rfl, rfl, trivial⟩
 · intro i hi;cbv;refine Br.dec (fun h2 => ?_) (fun h2 => ?_) <;> cbv
   · have h2 : (i : Int) < ((aO dn aK a k).length : Int) := h2;rw [la] at h2;have h2 : i < a.length := by omega
     have hx : fU a[i] := hs.2 _ (List.getElem_mem _)
     have hz : k + af aK (a.take i) + (5 + af aW a[i].row + af cj a[i].spoke) ≤ 4611686018427387904 := by
       have := mU aK h2;have : af aK (a.take i) + (5 + af aW a[i].row + af cj a[i].spoke) ≤ af aK a := this;omega
     have hg : (aO dn aK a k)[((i : Int)).toNat]? = some (dn a[i] (k + af aK (a.take i))) := by
       rw [Int.toNat_natCast, tE dn aK k h2]
     refine ⟨dn a[i] (k + af aK (a.take i)), by simp, hg, ?_⟩;cbv;refine Br.split (fun g0 => ?_) (fun g0 => ?_) <;> cbv
     · exact (gU g0).elim
     refine Ar.exact ?_ ?_ ?_
     · show -9223372036854775808 ≤ (((k + af aK (a.take i) : Nat) : Int)) + 1;omega
     · show (((k + af aK (a.take i) : Nat) : Int)) + 1 ≤ 9223372036854775807;omega
     cbv;refine ⟨dn a[i] (k + af aK (a.take i)), by simp, hg, ?_⟩;cbv;refine Br.split (fun g1 => ?_) (fun g1 => ?_) <;> cbv
     · exact (gU g1).elim
     refine Ar.exact ?_ ?_ ?_
     · show -9223372036854775808 ≤ (((k + af aK (a.take i) : Nat) : Int) + 1) + 1;omega
     · show (((k + af aK (a.take i) : Nat) : Int) + 1) + 1 ≤ 9223372036854775807;omega
     cbv;refine ⟨dn a[i] (k + af aK (a.take i)), by simp, hg, ?_⟩;cbv;refine Br.split (fun g2 => ?_) (fun g2 => ?_) <;> cbv
     · exact (gU g2).elim
     refine Ar.exact ?_ ?_ ?_
     · show -9223372036854775808 ≤ (((k + af aK (a.take i) : Nat) : Int) + 1 + 1) + 1;omega
     · show (((k + af aK (a.take i) : Nat) : Int) + 1 + 1) + 1 ≤ 9223372036854775807;omega
     cbv;refine ⟨dn a[i] (k + af aK (a.take i)), by simp, hg, ?_⟩;cbv;refine Br.split (fun g3 => ?_) (fun g3 => ?_) <;> cbv
     · exact (gU g3).elim
     refine Ar.exact ?_ ?_ ?_
     · show -9223372036854775808 ≤ (((k + af aK (a.take i) : Nat) : Int) + 1 + 1 + 1) + 1;omega
     · show (((k + af aK (a.take i) : Nat) : Int) + 1 + 1 + 1) + 1 ≤ 9223372036854775807;omega
     cbv;refine ⟨dn a[i] (k + af aK (a.take i)), by simp, hg, ?_⟩;cbv;refine Br.split (fun g4 => ?_) (fun g4 => ?_) <;> cbv
     · exact (gU g4).elim
     refine Ar.exact ?_ ?_ ?_
     · show -9223372036854775808 ≤ (((k + af aK (a.take i) : Nat) : Int) + 1 + 1 + 1 + 1) + 1;omega
     · show (((k + af aK (a.take i) : Nat) : Int) + 1 + 1 + 1 + 1) + 1 ≤ 9223372036854775807;omega
     cbv;refine ⟨dn a[i] (k + af aK (a.take i)), by simp, hg, ?_⟩;cbv;refine ag.dL hP (Nn a[i].row (k + af aK (a.take i) + 5) (by omega)) ?_ ?_
     · refine congrArg (fun l => [lT .aH fun _ => aO dX aW a[i].row (k + af aK (a.take i) + 5), iT fun _ => l]) ?_;show ((k + af aK (a.take i) : Nat) : Int) + 1 + 1 + 1 + 1 + 1 = ((k + af aK (a.take i) + 5 : Nat) : Int);omega
     cbv;refine Br.split (fun g5 => ?_) (fun g5 => ?_) <;> cbv
     · exact (jx g5).elim
     refine ⟨dn a[i] (k + af aK (a.take i)), by simp, hg, ?_⟩;cbv;refine ag.dL hP (Nr a[i].spoke (k + af aK (a.take i) + 5 + af aW a[i].row) hx.2.1 (by omega)) rfl ?_;cbv;refine Br.split (fun g6 => ?_) (fun g6 => ?_) <;> cbv
     · exact (jx g6).elim
     refine Ar.exact ?_ ?_ ?_
     · show -9223372036854775808 ≤ (i : Int) + 1;omega
     · show (i : Int) + 1 ≤ 9223372036854775807;omega
     cbv;refine aP.by (i + 1) ?_ ?_ ?_
     · show a.length - (i + 1) < a.length - i;omega
     · exact h2
     · cbv;refine ⟨rfl, ?_, rfl, trivial⟩;show ((k + af aK (a.take i) + 5 + af aW a[i].row + af cj a[i].spoke : Nat) : Int) = ((k + af aK (a.take (i + 1)) : Nat) : Int);rw [kz aK h2, show aK a[i] = 5 + af aW a[i].row + af cj a[i].spoke from rfl];omega
   · have h2 : ¬ (i : Int) < ((aO dn aK a k).length : Int) := h2;rw [la] at h2;have h2 : a.length ≤ i := by omega
     refine ⟨?_, trivial⟩;show ((k + af aK (a.take i) : Nat) : Int) = ((k + af aK a : Nat) : Int);rw [List.take_of_length_le h2]
def Nu (x : bI) : V := .agg [.own 0, .lf (.int .i64 fun _ => x.cn), .lf (.int .i64 fun _ => x.room), .lf (.int .i64 fun _ => x.size), .lf (.int .i64 fun _ => x.period), .lf (.int .i64 fun _ => x.cp), .lf (.int .i64 fun _ => x.rest), .lf (.int .i64 fun _ => x.tries), .lf (.int .i64 fun _ => x.cC)]
def kD (x : an) : V := .agg [.own 0, .lf (.int .i64 fun _ => x.rules.cn), .lf (.int .i64 fun _ => x.rules.room), .lf (.int .i64 fun _ => x.rules.size), .lf (.int .i64 fun _ => x.rules.period), .lf (.int .i64 fun _ => x.rules.cp), .lf (.int .i64 fun _ => x.rules.rest), .lf (.int .i64 fun _ => x.rules.tries), .lf (.int .i64 fun _ => x.rules.cC), .lf (.int .i64 fun _ => x.now), .lf (.int .i64 fun _ => x.aC), .own 1, .own 2, .own 3, .own 4]
def lg (x : an) : List (Nat × ar) := [(0, aN .int fun _ => x.rules.aj), (1, aN .aG fun _ => x.ae), (2, aN .ah fun _ => x.cabins), (3, aN .int fun _ => x.todo), (4, aN .int fun _ => x.aF)]
def Nv (x : Unit → bI) : V := .agg [.lf (.list .int fun _ => (x ()).aj), .lf (.int .i64 fun _ => (x ()).cn), .lf (.int .i64 fun _ => (x ()).room), .lf (.int .i64 fun _ => (x ()).size), .lf (.int .i64 fun _ => (x ()).period), .lf (.int .i64 fun _ => (x ()).cp), .lf (.int .i64 fun _ => (x ()).rest), .lf (.int .i64 fun _ => (x ()).tries), .lf (.int .i64 fun _ => (x ()).cC)]
def Nw (x : Unit → an) : V := .agg [.lf (.list .int fun _ => (x ()).rules.aj), .lf (.int .i64 fun _ => (x ()).rules.cn), .lf (.int .i64 fun _ => (x ()).rules.room), .lf (.int .i64 fun _ => (x ()).rules.size), .lf (.int .i64 fun _ => (x ()).rules.period), .lf (.int .i64 fun _ => (x ()).rules.cp), .lf (.int .i64 fun _ => (x ()).rules.rest), .lf (.int .i64 fun _ => (x ()).rules.tries), .lf (.int .i64 fun _ => (x ()).rules.cC), .lf (.int .i64 fun _ => (x ()).now), .lf (.int .i64 fun _ => (x ()).aC), .lf (.list .aG fun _ => (x ()).ae), .lf (.list .ah fun _ => (x ()).cabins), .lf (.list .int fun _ => (x ()).todo), .lf (.list .int fun _ => (x ()).aF)]
def Gp (x : bI) (k : Nat) : bI := ⟨eY x.aj.length k, x.cn, x.room, x.size, x.period, x.cp, x.rest, x.tries, x.cC⟩
def tF (x : an) (k : Nat) : an := ⟨Gp x.rules k, x.now, x.aC, aO cP az x.ae (k + x.rules.aj.length), aO dn aK x.cabins (k + x.rules.aj.length + af az x.ae), eY x.todo.length (k + x.rules.aj.length + af az x.ae + af aK x.cabins), eY x.aF.length (k + x.rules.aj.length + af az x.ae + af aK x.cabins + x.todo.length)⟩
def gN (x : an) : Nat := x.rules.aj.length + af az x.ae + af aK x.cabins + x.todo.length + x.aF.length
theorem Nx (a : bI) (k : Nat) (hk : k + a.aj.length ≤ 4611686018427387904) :
  cB Tryz.prog 61 [Nu a, nT fun _ => k] [(0, aN .int fun _ => a.aj)] (cV (nR fun _ => k + a.aj.length) [(0, .own .int fun _ => eY a.aj.length k)]) := by
 refine dW au Tryz.func61 rfl rfl (fr := true) (fun _ => by kernel_rfl) rfl rfl fun P hP hA hB => ?_;cbv;refine bB.by hP (rD a.aj k hk) ?_;cbv;exact ⟨rfl, rfl, trivial⟩
theorem Ny (a : bI) (k : Nat) (hk : k + a.aj.length ≤ 4611686018427387904) : Spec Tryz.prog 64 [Nv fun _ => Gp a k, nT fun _ => k] (aE (nR fun _ => k + a.aj.length)) := by
 refine ay au Tryz.func64 rfl rfl (fr := true) (fun _ => by kernel_rfl) fun P hP hA => ?_;cbv;refine ag.by hP (rE a.aj.length k hk) ?_;cbv;refine Br.split (fun g => ?_) (fun g => ?_) <;> cbv
 · exact (jx g).elim
 exact ⟨rfl, trivial⟩
theorem kE (a : an) (k : Nat) (hs : jy a.cabins) (hk : k + gN a ≤ 4611686018427387904) :
  cB Tryz.prog 14 [kD a, nT fun _ => k] (lg a) (cV (nR fun _ => k + gN a) [(0, .own .int fun _ => (tF a k).rules.aj), (1, .own .aG fun _ => (tF a k).ae), (2, .own .ah fun _ => (tF a k).cabins), (3, .own .int fun _ => (tF a k).todo), (4, .own .int fun _ => (tF a k).aF)]) := by
 refine dW au Tryz.func14 rfl rfl (fr := true) (fun _ => by kernel_rfl) rfl rfl fun P hP hA hB => ?_;have hk : k + (a.rules.aj.length + af az a.ae + af aK a.cabins + a.todo.length + a.aF.length) ≤ 4611686018427387904 := hk;cbv;refine bB.by hP (Nx a.rules k (by omega)) ?_;cbv;refine bB.by hP (No a.ae (k + a.rules.aj.length) (by omega)) ?_;cbv;refine bB.by hP (Ns a.cabins (k + a.rules.aj.length + af az a.ae) hs (by omega)) ?_;cbv;refine bB.by hP (rD a.todo (k + a.rules.aj.length + af az a.ae + af aK a.cabins) (by omega)) ?_;cbv;refine bB.by hP (rD a.aF (k + a.rules.aj.length + af az a.ae + af aK a.cabins + a.todo.length) (by omega)) ?_;cbv;refine ⟨rfl, rfl, rfl, rfl, rfl, ?_, trivial⟩;show ((k + a.rules.aj.length + af az a.ae + af aK a.cabins + a.todo.length + a.aF.length : Nat) : Int) = ((k + (a.rules.aj.length + af az a.ae + af aK a.cabins + a.todo.length + a.aF.length) : Nat) : Int);omega
theorem rK (a : an) (k : Nat) (hs : jy a.cabins) (hk : k + gN a ≤ 4611686018427387904) : Spec Tryz.prog 15 [Nw fun _ => tF a k, nT fun _ => k] (aE (nR fun _ => k + gN a)) := by
 refine ay au Tryz.func15 rfl rfl (fr := true) (fun _ => by kernel_rfl) fun P hP hA => ?_;have hk : k + (a.rules.aj.length + af az a.ae + af aK a.cabins + a.todo.length + a.aF.length) ≤ 4611686018427387904 := hk;cbv;refine ag.by hP (Ny a.rules k (by omega)) ?_;cbv;refine Br.split (fun g0 => ?_) (fun g0 => ?_) <;> cbv
 · exact (jx g0).elim
 refine ag.by hP (Np a.ae (k + a.rules.aj.length) (by omega)) ?_;cbv;refine Br.split (fun g1 => ?_) (fun g1 => ?_) <;> cbv
 · exact (jx g1).elim
 refine ag.by hP (Nt a.cabins (k + a.rules.aj.length + af az a.ae) hs (by omega)) ?_;cbv;refine Br.split (fun g2 => ?_) (fun g2 => ?_) <;> cbv
 · exact (jx g2).elim
 refine ag.by hP (rE a.todo.length (k + a.rules.aj.length + af az a.ae + af aK a.cabins) (by omega)) ?_;cbv;refine Br.split (fun g3 => ?_) (fun g3 => ?_) <;> cbv
 · exact (jx g3).elim
 refine ag.by hP (rE a.aF.length (k + a.rules.aj.length + af az a.ae + af aK a.cabins + a.todo.length) (by omega)) ?_;cbv;refine Br.split (fun g4 => ?_) (fun g4 => ?_) <;> cbv
 · exact (jx g4).elim
 refine ⟨?_, trivial⟩;show ((k + a.rules.aj.length + af az a.ae + af aK a.cabins + a.todo.length + a.aF.length : Nat) : Int) = ((k + (a.rules.aj.length + af az a.ae + af aK a.cabins + a.todo.length + a.aF.length) : Nat) : Int);omega
end Go.Proofs.YticeaiiffeccmaaGreat

