/- Parts of a proof. No conditions. -/

import Derived.Test.YtlochjpjlhkjaaaG06
set_option linter.unusedSimpArgs false
set_option linter.unusedVariables false
namespace Go.Proofs.Ytlochjpjlhkjaaa
open Go
set_option maxRecDepth 100000
def zAll {α : Type} (z : α → Nat) : List α → Nat
  | [] => 0
  | x :: xs => z x + zAll z xs
section
variable {α : Type} (m : α → Nat → α) (z : α → Nat)
theorem zAll_app : ∀ (a b : List α), zAll z (a ++ b) = zAll z a + zAll z b
  | [], b => by simp [zAll]
  | x :: xs, b => by simp [zAll, zAll_app xs b, Nat.add_assoc]
theorem take_one {a : List α} {i : Nat} (h : i < a.length) : a.take (i + 1) = a.take i ++ [a[i]] := by
  rw [List.take_add_one, List.getElem?_eq_getElem h]; rfl
theorem zAll_step {a : List α} {i : Nat} (h : i < a.length) : zAll z (a.take (i + 1)) = zAll z (a.take i) + z a[i] := by
  rw [take_one h, zAll_app]; simp [zAll]
theorem zAll_bound (c : Nat) : ∀ (a : List α), (∀ x ∈ a, z x ≤ c) → zAll z a ≤ a.length * c
  | [], _ => by simp [zAll]
  | x :: xs, h => by
    have h1 := zAll_bound c xs fun y hy => h y (List.mem_cons_of_mem _ hy)
    have h2 := h x List.mem_cons_self
    simp only [zAll, List.length_cons, Nat.add_mul]
    omega
theorem zAll_le (c n : Nat) (a : List α) (h : ∀ x ∈ a, z x ≤ c) (hn : a.length ≤ n) : zAll z a ≤ n * c :=
  Nat.le_trans (zAll_bound z c a h) (Nat.mul_le_mul_right c hn)
end
end Go.Proofs.Ytlochjpjlhkjaaa
namespace Go.Proofs.Ytlochjpjlhkjaaa
open Go
set_option maxRecDepth 100000
end Go.Proofs.Ytlochjpjlhkjaaa

