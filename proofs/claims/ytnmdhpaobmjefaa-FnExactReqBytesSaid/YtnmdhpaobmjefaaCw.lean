/-
  The words of a code: the contracts. No conditions.
-/
import Derived.Test.YtnmdhpaobmjefaaBa
namespace Go.Proofs.Ytnmdhpaobmjefaa
open Go
set_option maxRecDepth 100000

def words : List (List UInt8) := [[100, 111, 110, 101], [104, 111, 117, 115, 101], [107, 105, 110, 100], [102, 111, 114, 109], [99, 97, 98, 105, 110], [115, 105, 122, 101], [116, 105, 101, 114], [105, 100], [116, 104, 101, 114, 101], [102, 117, 108, 108], [116, 105, 101, 100], [116, 117, 114, 110], [115, 101, 97, 116, 115], [111, 102, 102, 101, 114], [108, 97, 116, 101], [99, 108, 111, 99, 107], [99, 114, 101, 119], [105, 100, 108, 101]]

theorem l12Words_ok : Spec Try.prog 33 [] (Ret (lR .str fun _ => words)) := by
  refine spec_of tabOk Try.func33 rfl rfl fun P hP hA => ?_
  cbv
  exact ⟨rfl, trivial⟩

def codeWord (c : Int) : List UInt8 := if 0 ≤ c ∧ c ≤ 17 then words.getD c.toNat [] else [63]

theorem specCodeWord_ok (c : Int) : Spec Try.prog 9 [iA c] (Ret (sR fun _ => codeWord c)) := by
  refine spec_of tabOk Try.func9 rfl rfl fun P hP hA => ?_
  cbv
  refine CallA.by hP (l1In_ok _ _ _) ?_
  cbv
  refine Br.split (fun h => ?_) (fun h => ?_) <;> cbv
  · refine ⟨?_, trivial⟩
    simp only [codeWord]
    rw [if_neg fun hc => by simp at h; omega]
  · refine CallA.by hP l12Words_ok ?_
    cbv
    have h : 0 ≤ c ∧ c ≤ 17 := by simpa using h
    refine ⟨⟨h.1, ?_⟩, ?_⟩
    · show c < (words.length : Int)
      have : words.length = 18 := rfl
      omega
    cbv
    refine ⟨?_, trivial⟩
    simp only [codeWord]
    rw [if_pos h]
    rfl

theorem implCodeWord_ok (c : Int) : Spec Try.prog 10 [iA c] (Ret (sR fun _ => codeWord c)) := by
  refine spec_of tabOk Try.func10 rfl rfl fun P hP hA => ?_
  cbv
  refine CallA.by hP (isIndex_ok c 18 (by omega) (by omega)) ?_
  cbv
  refine Br.split (fun h => ?_) (fun h => ?_) <;> cbv
  · refine ⟨?_, trivial⟩
    simp only [codeWord]
    rw [if_neg fun hc => by simp at h; omega]
  · have h : 0 ≤ c ∧ c ≤ 17 := by simp at h; omega
    refine ⟨⟨h.1, ?_⟩, ?_⟩
    · show c < (words.length : Int)
      have : words.length = 18 := rfl
      omega
    cbv
    refine ⟨?_, trivial⟩
    simp only [codeWord]
    rw [if_pos h]
    rfl

theorem lawCodeWord_ok (c : Int) : Spec Try.prog 3 [iA c] (Ret (bR fun _ => true)) := by
  refine spec_of tabOk Try.func3 rfl rfl fun P hP hA => ?_
  cbv
  refine CallA.by hP (specCodeWord_ok c) ?_
  cbv
  refine CallA.by hP (implCodeWord_ok c) ?_
  cbv
  refine Br.split (fun h => ?_) (fun h => ?_) <;> cbv
  · simp at h
  · exact ⟨rfl, trivial⟩

end Go.Proofs.Ytnmdhpaobmjefaa
