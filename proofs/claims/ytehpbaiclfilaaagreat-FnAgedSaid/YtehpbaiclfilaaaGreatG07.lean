/- Parts of a proof. No conditions. -/

import Derived.Test.YtehpbaiclfilaaaGreatG06
set_option linter.unusedSimpArgs false
set_option linter.unusedVariables false
namespace Go.Proofs.YtehpbaiclfilaaaGreat
open Go
set_option maxRecDepth 100000
def aV {α : Type} (z : α → Nat) : List α → Nat
 | [] => 0
 | x :: xs => z x + aV z xs
section
variable {α : Type} (m : α → Nat → α) (z : α → Nat)
theorem rW : ∀ (a b : List α), aV z (a ++ b) = aV z a + aV z b
 | [], b => by simp [aV]
 | x :: xs, b => by simp [aV, rW xs b, Nat.add_assoc]
theorem take_one {a : List α} {i : Nat} (h : i < a.length) : a.take (i + 1) = a.take i ++ [a[i]] := by
 rw [List.take_add_one, List.getElem?_eq_getElem h]; rfl
theorem IH {a : List α} {i : Nat} (h : i < a.length) : aV z (a.take (i + 1)) = aV z (a.take i) + z a[i] := by
 rw [take_one h, rW]; simp [aV]
theorem I1 (c : Nat) : ∀ (a : List α), (∀ x ∈ a, z x ≤ c) → aV z a ≤ a.length * c
 | [], _ => by simp [aV]
 | x :: xs, h => by
   have h1 := I1 c xs fun y hy => h y (List.mem_cons_of_mem _ hy);have h2 := h x List.mem_cons_self;simp only [aV, List.length_cons, Nat.add_mul];omega
theorem Dv (c n : Nat) (a : List α) (h : ∀ x ∈ a, z x ≤ c) (hn : a.length ≤ n) : aV z a ≤ n * c :=
 Nat.le_trans (I1 z c a h) (Nat.mul_le_mul_right c hn)
end
def PL (x : ai) : V := .agg [.own 0, .lf (.int .i64 fun _ => x.rules.cm), .lf (.int .i64 fun _ => x.rules.room), .lf (.int .i64 fun _ => x.rules.size), .lf (.int .i64 fun _ => x.rules.period), .lf (.int .i64 fun _ => x.rules.ck), .lf (.int .i64 fun _ => x.rules.rest), .lf (.int .i64 fun _ => x.rules.tries), .lf (.int .i64 fun _ => x.rules.bP), .lf (.int .i64 fun _ => x.now), .lf (.int .i64 fun _ => x.aw), .own 1, .own 2, .own 3, .own 4]
def PM (x : ai) : List (Nat × ak) := [(0, aQ .int fun _ => x.rules.ah), (1, aQ .az fun _ => x.ae), (2, aQ .cf fun _ => x.cabins), (3, aQ .int fun _ => x.todo), (4, aQ .int fun _ => x.aN)]
end Go.Proofs.YtehpbaiclfilaaaGreat

