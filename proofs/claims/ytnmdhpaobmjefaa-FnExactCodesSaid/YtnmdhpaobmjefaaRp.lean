/-
  Replies: the contracts of SameReply and of the law on it. No conditions.
-/
import Derived.Test.YtnmdhpaobmjefaaIs
namespace Go.Proofs.Ytnmdhpaobmjefaa
open Go
set_option maxRecDepth 100000

def rA (x : Reply) : V := eA .rep x
def rR (x : Unit → Reply) : RSh := .agg [.int .i64 fun _ => (x ()).code, .own .int fun _ => (x ()).ids]

theorem szReply_ok (a : Reply) (left : Int) (h0 : 0 ≤ left) (hb : left ≤ 1048576) : Spec Try.prog 14 [rA a, iA left] (RetX Int (fun r => szP (a.ids.length ≤ bigN) left r) fun r => iR fun _ => r) := by
  refine spec_of tabOk Try.func14 rfl rfl fun P hP hA => ?_
  cbv
  refine CallA.ex hP (szIntS_ok a.ids left h0 hb) fun r hr => ?_
  cbv
  refine Br.dec (fun h => ?_) (fun h => ?_) <;> cbv
  · refine ⟨-1, ⟨by omega, by omega, by omega⟩, ?_⟩
    cbv; exact ⟨rfl, trivial⟩
  · refine ⟨r, hr, ?_⟩
    cbv; exact ⟨rfl, trivial⟩

theorem toReply_ok (a : Reply) (hn : a.ids.length ≤ bigN) : Spec Try.prog 16 [rA a] (Ret (rR fun _ => a)) := by
  refine spec_of tabOk Try.func16 rfl rfl fun P hP hA => ?_
  cbv
  refine CallA.by hP (toIntS_ok a.ids hn) ?_
  cbv
  exact ⟨rfl, rfl, trivial⟩

theorem eqReply_ok (a b : Reply) : Spec Try.prog 18 [rA a, rA b] (Ret (bR fun _ => decide (a = b))) := by
  refine spec_of tabOk Try.func18 rfl rfl fun P hP hA => ?_
  cbv
  refine Br.split (fun h1 => ?_) (fun h1 => ?_) <;> cbv
  · refine ⟨?_, trivial⟩
    have : a ≠ b := fun h => by subst h; simp at h1
    simp [this]
  refine CallA.by hP (eqIntS_ok a.ids b.ids) ?_
  cbv
  refine Br.split (fun h2 => ?_) (fun h2 => ?_) <;> cbv
  · refine ⟨?_, trivial⟩
    have : a ≠ b := fun h => by subst h; simp at h2
    simp [this]
  · refine ⟨?_, trivial⟩
    have : a = b := by cases a; cases b; simp_all
    simp [this]

theorem specSameReply_ok (a b : Reply) : Spec Try.prog 15 [rA a, rA b] (Ret (bR fun _ => decide (a = b))) := by
  refine spec_of tabOk Try.func15 rfl rfl fun P hP hA => ?_
  cbv
  refine Br.split (fun h1 => ?_) (fun h1 => ?_) <;> cbv
  · refine CallA.by hP (l1Same_ok a.ids b.ids) ?_
    cbv
    refine ⟨?_, trivial⟩
    have h1 : a.code = b.code := by simpa using h1
    cases a; cases b; simp_all
  · refine ⟨?_, trivial⟩
    have : a ≠ b := fun h => by subst h; simp at h1
    simp [this]

theorem implSameReply_ok (a b : Reply) : Spec Try.prog 17 [rA a, rA b] (Ret (bR fun _ => decide (a = b))) := by
  refine spec_of tabOk Try.func17 rfl rfl fun P hP hA => ?_
  cbv
  refine Br.split (fun h1 => ?_) (fun h1 => ?_) <;> cbv
  · refine CallA.by hP (equalInt_ok a.ids b.ids) ?_
    cbv
    refine ⟨?_, trivial⟩
    have h1 : a.code = b.code := by simpa using h1
    cases a; cases b; simp_all
  · refine ⟨?_, trivial⟩
    have : a ≠ b := fun h => by subst h; simp at h1
    simp [this]

theorem lawSameReply_ok (a b : Reply) : Spec Try.prog 5 [rA a, rA b] (Ret (bR fun _ => true)) := by
  refine spec_of tabOk Try.func5 rfl rfl fun P hP hA => ?_
  cbv
  refine CallA.ex hP (szReply_ok a 1048576 (by omega) (by omega)) fun r hr => ?_
  cbv
  refine Br.dec (fun h => ?_) (fun h => ?_) <;> cbv
  · exact ⟨rfl, trivial⟩
  have h0 : 0 ≤ r := by simp at h; omega
  have ha := hr.ok h0
  refine CallA.ex hP (szReply_ok b r h0 hr.hi) fun r2 hr2 => ?_
  cbv
  refine Br.dec (fun h => ?_) (fun h => ?_) <;> cbv
  · exact ⟨rfl, trivial⟩
  have h0 : 0 ≤ r2 := by simp at h; omega
  have hb := hr2.ok h0
  repeat' first
    | exact trivial
    | exact ⟨rfl, trivial⟩
    | (refine CallA.by hP (toReply_ok a ha) ?_; cbv)
    | (refine CallA.by hP (toReply_ok b hb) ?_; cbv)
    | (refine CallA.by hP (specSameReply_ok a b) ?_; cbv)
    | (refine CallA.by hP (implSameReply_ok a b) ?_; cbv)
    | (refine CallA.by hP (eqReply_ok _ _) ?_; cbv)
    | (refine Br.split (fun h => ?_) (fun h => ?_) <;> cbv)
    | (exfalso; simp at h; done)
    | refine And.intro ?_ ?_

theorem szReplyS_ok (a : List Reply) (left : Int) (h0 : 0 ≤ left) (hb : left ≤ 1048576) : Spec Try.prog 21 [lA .rep a, iA left] (RetX Int (fun r => szP (a.length ≤ bigN ∧ ∀ x ∈ a, x.ids.length ≤ bigN) left r) fun r => iR fun _ => r) := by
  refine spec_of tabOk Try.func21 rfl rfl fun P hP hA => ?_
  obtain ⟨⟨ha, _⟩, hl, _⟩ := hA
  have ha : a.length ≤ 9223372036854775807 := ha
  cbv
  refine Ar.exact ?_ ?_ ?_
  · show -9223372036854775808 ≤ left - (a.length : Int)
    omega
  · show left - (a.length : Int) ≤ 9223372036854775807
    omega
  cbv
  refine Br.dec (fun h => ?_) (fun h => ?_) <;> cbv
  · refine ⟨-1, ⟨by omega, by omega, by omega⟩, ?_⟩
    cbv; exact ⟨rfl, trivial⟩
  have h : ¬ left - (a.length : Int) < 0 := h
  have hn : a.length ≤ 1048576 := by omega
  refine LoopE.by (X := Nat × Int) (fun x => [(0, lA .rep a), (1, iT fun _ => x.2), (5, nT fun _ => x.1)]) (fun _ => []) (fun x => x.1 ≤ a.length ∧ 0 ≤ x.2 ∧ x.2 ≤ left ∧ ∀ y ∈ a.take x.1, y.ids.length ≤ bigN) (fun x _ => a.length - x.1) (0, left - a.length) ⟨Nat.zero_le _, by show 0 ≤ left - (a.length : Int); omega, by show left - (a.length : Int) ≤ left; omega, by simp⟩ ?_ ?_
  · cbv; exact ⟨rfl, rfl, rfl, trivial⟩
  · rintro ⟨i, l⟩ ⟨hi, h1, h2, h3⟩
    have hi : i ≤ a.length := hi
    have h1 : 0 ≤ l := h1
    have h2 : l ≤ left := h2
    cbv
    refine Br.dec (fun h4 => ?_) (fun h4 => ?_) <;> cbv
    · have h4 : (i : Int) < (a.length : Int) := h4
      have h4 : i < a.length := by omega
      refine ⟨a[i], by simp, get_cast a h4, ?_⟩
      cbv
      refine CallA.ex hP (szReply_ok a[i] l h1 (by omega)) fun r hr => ?_
      cbv
      refine Br.dec (fun h5 => ?_) (fun h5 => ?_) <;> cbv
      · refine ⟨-1, ⟨by omega, by omega, by omega⟩, ?_⟩
        cbv; exact ⟨rfl, trivial⟩
      have h5 : 0 ≤ r := by have h5 : ¬ r < 0 := h5; omega
      refine Ar.exact ?_ ?_ ?_
      · show -9223372036854775808 ≤ (i : Int) + 1
        omega
      · show (i : Int) + 1 ≤ 9223372036854775807
        omega
      cbv
      refine NextE.by (i + 1, r) ?_ ?_ ?_
      · show a.length - (i + 1) < a.length - i
        omega
      · refine ⟨h4, h5, Int.le_trans hr.hi h2, fun y hy => ?_⟩
        have hy : y ∈ a.take (i + 1) := hy
        rw [List.take_add_one, List.getElem?_eq_getElem h4, List.mem_append] at hy
        rcases hy with hy | hy
        · exact h3 y hy
        · simp at hy; subst hy; exact hr.ok h5
      · cbv; exact ⟨rfl, rfl, rfl, trivial⟩
    · have h4 : ¬ (i : Int) < (a.length : Int) := h4
      have h4 : a.length ≤ i := by omega
      refine ⟨l, ⟨by omega, h2, fun _ => ⟨hn, fun x hx => h3 x ?_⟩⟩, ?_⟩
      · show x ∈ a.take i
        rw [List.take_of_length_le h4]; exact hx
      · cbv; exact ⟨rfl, trivial⟩

end Go.Proofs.Ytnmdhpaobmjefaa
