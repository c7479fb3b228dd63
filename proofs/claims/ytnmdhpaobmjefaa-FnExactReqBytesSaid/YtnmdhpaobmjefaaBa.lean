/-
  Small functions that many use. No conditions.
-/
import Derived.Test.YtnmdhpaobmjefaaPl
namespace Go.Proofs.Ytnmdhpaobmjefaa
open Go
set_option maxRecDepth 100000

theorem within_ok (n lo hi : Int) : Spec Try.prog 37 [iA n, iA lo, iA hi] (Ret (bR fun _ => (decide (lo ≤ n) && decide (n ≤ hi)))) := by
  refine spec_of tabOk Try.func37 rfl rfl fun P hP hA => ?_
  cbv
  refine Br.dec (fun h1 => ?_) (fun h1 => ?_) <;> cbv
  · refine ⟨?_, trivial⟩
    simp [h1]
  · refine ⟨?_, trivial⟩
    simp [h1]

theorem l1In_ok (n lo hi : Int) : Spec Try.prog 32 [iA n, iA lo, iA hi] (Ret (bR fun _ => (decide (lo ≤ n) && decide (n ≤ hi)))) := by
  refine spec_of tabOk Try.func32 rfl rfl fun P hP hA => ?_
  cbv
  refine Br.dec (fun h1 => ?_) (fun h1 => ?_) <;> cbv
  · refine ⟨?_, trivial⟩
    simp [h1]
  · refine ⟨?_, trivial⟩
    simp [h1]

theorem isIndex_ok (n sz : Int) (h0 : 0 ≤ sz) (h1 : sz ≤ 9223372036854775807) : Spec Try.prog 34 [iA n, iA sz] (Ret (bR fun _ => (decide (0 ≤ n) && decide (n < sz)))) := by
  refine spec_of tabOk Try.func34 rfl rfl fun P hP hA => ?_
  cbv
  refine Ar.exact ?_ ?_ ?_
  · show -9223372036854775808 ≤ sz - 1
    omega
  · show sz - 1 ≤ _
    omega
  cbv
  refine CallA.by hP (within_ok _ _ _) ?_
  cbv
  refine ⟨?_, trivial⟩
  rw [Bool.eq_iff_iff]; simp only [Bool.and_eq_true, decide_eq_true_eq]; omega

/-- a number between two -/
def isIn (n lo hi : Int) : Bool := decide (lo ≤ n) && decide (n ≤ hi)

theorem isIn_ok {n lo hi : Int} (h : isIn n lo hi = true) : lo ≤ n ∧ n ≤ hi := by simpa [isIn] using h

theorem withinB_ok (n lo hi : Int) : Spec Try.prog 37 [iA n, iA lo, iA hi] (Ret (bR fun _ => isIn n lo hi)) := within_ok n lo hi
theorem l1InB_ok (n lo hi : Int) : Spec Try.prog 32 [iA n, iA lo, iA hi] (Ret (bR fun _ => isIn n lo hi)) := l1In_ok n lo hi

end Go.Proofs.Ytnmdhpaobmjefaa
