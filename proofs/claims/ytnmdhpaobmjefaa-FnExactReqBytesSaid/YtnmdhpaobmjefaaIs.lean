/-
  Lists of integers: sizes, copies, comparison, marks: the contracts. No conditions.
-/
import Derived.Test.YtnmdhpaobmjefaaPl
namespace Go.Proofs.Ytnmdhpaobmjefaa
open Go
set_option maxRecDepth 100000

theorem szIntS_ok (a : List Int) (left : Int) (h0 : 0 ≤ left) (hb : left ≤ 1048576) : Spec Try.prog 38 [lA .int a, iA left] (RetX Int (fun r => szP (a.length ≤ bigN) left r) fun r => iR fun _ => r) := by
  refine spec_of tabOk Try.func38 rfl rfl fun P hP hA => ?_
  obtain ⟨⟨ha, _⟩, hl, _⟩ := hA
  have ha : a.length ≤ 9223372036854775807 := ha
  cbv
  refine Ar.exact ?_ ?_ ?_
  · show -9223372036854775808 ≤ left - (a.length : Int)
    omega
  · show left - (a.length : Int) ≤ 9223372036854775807
    omega
  cbv
  refine Br.dec (fun h => ?_) (fun h => ?_) <;> cbv
  · refine ⟨-1, ⟨by omega, by omega, by omega⟩, ?_⟩
    cbv; exact ⟨rfl, trivial⟩
  · have h : ¬ left - (a.length : Int) < 0 := h
    refine ⟨left - a.length, ⟨by omega, by omega, fun _ => ?_⟩, ?_⟩
    · show a.length ≤ 1048576
      omega
    · cbv; exact ⟨rfl, trivial⟩

theorem toIntS_ok (a : List Int) (hn : a.length ≤ bigN) : Spec Try.prog 40 [lA .int a] (Ret (lR .int fun _ => a)) := by
  refine spec_of tabOk Try.func40 rfl rfl fun P hP hA => ?_
  have hn : a.length ≤ 1048576 := hn
  cbv
  refine ⟨?_, ?_⟩
  · show 0 ≤ (a.length : Int) ∧ (a.length : Int) ≤ a.length ∧ (a.length : Int) * 8 ≤ 140737488355328
    omega
  cbv
  refine LoopE.by (X := Nat) (fun i => [(0, lA .int a), (3, oN 0), (4, iT fun _ => i)]) (fun i => [(0, ownB' .int fun _ => a.take i ++ List.replicate (a.length - i) 0)]) (fun i => i ≤ a.length) (fun i _ => a.length - i) 0 (Nat.zero_le _) ?_ ?_
  · cbv
    refine ⟨rfl, rfl, ?_, trivial⟩
    show List.replicate ((a.length : Int)).toNat (0 : Int) = a.take 0 ++ List.replicate (a.length - 0) 0
    simp
  · intro i hi
    cbv
    refine Br.dec (fun h2 => ?_) (fun h2 => ?_) <;> cbv
    · have h2 : i < a.length := by simpa using h2
      refine ⟨a[i], by simp, get_cast a h2, ?_⟩
      cbv
      refine ⟨?_, ?_⟩
      · show 0 ≤ (i : Int) ∧ (i : Int) < ((a.take i ++ List.replicate (a.length - i) (0 : Int)).length : Int)
        rw [fill_len a 0 hi]; omega
      cbv
      refine Sv.keep ?_
      cbv
      refine Ar.exact ?_ ?_ ?_
      · show -9223372036854775808 ≤ (i : Int) + 1
        omega
      · show (i : Int) + 1 ≤ 9223372036854775807
        omega
      cbv
      refine NextE.by (i + 1) ?_ ?_ ?_
      · show a.length - (i + 1) < a.length - i
        omega
      · exact h2
      · cbv
        refine ⟨rfl, rfl, ?_, trivial⟩
        exact fill_set a 0 h2
    · have h2 : a.length ≤ i := by simp at h2; omega
      refine ⟨?_, trivial⟩
      show a.take i ++ List.replicate (a.length - i) 0 = a
      rw [show a.length - i = 0 by omega, List.take_of_length_le h2]
      simp

theorem l1Same_ok (a b : List Int) : Spec Try.prog 39 [lA .int a, lA .int b] (Ret (bR fun _ => decide (a = b))) := by
  refine spec_of tabOk Try.func39 rfl rfl fun P hP hA => ?_
  obtain ⟨⟨ha, _⟩, _⟩ := hA
  have ha : a.length ≤ 9223372036854775807 := ha
  cbv
  refine Br.split (fun h1 => ?_) (fun h1 => ?_) <;> cbv
  · refine ⟨?_, trivial⟩
    have := len_ne (a := a) (b := b) h1
    simp [this]
  have h1 := len_eq (a := a) (b := b) h1
  refine LoopE.by (X := Nat) (fun i => [(0, lA .int a), (1, lA .int b), (5, iT fun _ => i)]) (fun _ => []) (fun i => i ≤ a.length ∧ a.take i = b.take i) (fun i _ => a.length - i) 0 ⟨Nat.zero_le _, by simp⟩ ?_ ?_
  · cbv; exact ⟨rfl, rfl, rfl, trivial⟩
  · intro i ⟨hi, ht⟩
    cbv
    refine Br.dec (fun h2 => ?_) (fun h2 => ?_) <;> cbv
    · have h2 : i < a.length := by simpa using h2
      refine ⟨a[i], by simp, get_cast a h2, ?_⟩
      cbv
      refine ⟨b[i], by simp, get_cast b (h1 ▸ h2), ?_⟩
      cbv
      refine Br.split (fun h3 => ?_) (fun h3 => ?_) <;> cbv
      · refine ⟨?_, trivial⟩
        have := take_ne h2 (h1 ▸ h2) (by simpa using h3)
        simp [this]
      · refine Ar.exact ?_ ?_ ?_
        · show -9223372036854775808 ≤ (i : Int) + 1
          omega
        · show (i : Int) + 1 ≤ 9223372036854775807
          omega
        cbv
        refine NextE.by (i + 1) ?_ ?_ ?_
        · show a.length - (i + 1) < a.length - i
          omega
        · exact ⟨h2, take_step ht h2 (h1 ▸ h2) (by simpa using h3)⟩
        · cbv; exact ⟨rfl, rfl, rfl, trivial⟩
    · refine ⟨?_, trivial⟩
      have h2 : a.length ≤ i := by simp at h2; omega
      simp [take_all h1 h2 ht]

theorem eqIntS_ok (a b : List Int) : Spec Try.prog 25 [lA .int a, lA .int b] (Ret (bR fun _ => decide (a = b))) := by
  refine spec_of tabOk Try.func25 rfl rfl fun P hP hA => ?_
  obtain ⟨⟨ha, _⟩, _⟩ := hA
  have ha : a.length ≤ 9223372036854775807 := ha
  cbv
  refine Br.split (fun h1 => ?_) (fun h1 => ?_) <;> cbv
  · refine ⟨?_, trivial⟩
    have := len_ne (a := a) (b := b) h1
    simp [this]
  have h1 := len_eq (a := a) (b := b) h1
  refine LoopE.by (X := Nat) (fun i => [(0, lA .int a), (1, lA .int b), (5, iT fun _ => i)]) (fun _ => []) (fun i => i ≤ a.length ∧ a.take i = b.take i) (fun i _ => a.length - i) 0 ⟨Nat.zero_le _, by simp⟩ ?_ ?_
  · cbv; exact ⟨rfl, rfl, rfl, trivial⟩
  · intro i ⟨hi, ht⟩
    cbv
    refine Br.dec (fun h2 => ?_) (fun h2 => ?_) <;> cbv
    · have h2 : i < a.length := by simpa using h2
      refine ⟨a[i], by simp, get_cast a h2, ?_⟩
      cbv
      refine ⟨b[i], by simp, get_cast b (h1 ▸ h2), ?_⟩
      cbv
      refine Br.split (fun h3 => ?_) (fun h3 => ?_) <;> cbv
      · refine ⟨?_, trivial⟩
        have := take_ne h2 (h1 ▸ h2) (by simpa using h3)
        simp [this]
      · refine Ar.exact ?_ ?_ ?_
        · show -9223372036854775808 ≤ (i : Int) + 1
          omega
        · show (i : Int) + 1 ≤ 9223372036854775807
          omega
        cbv
        refine NextE.by (i + 1) ?_ ?_ ?_
        · show a.length - (i + 1) < a.length - i
          omega
        · exact ⟨h2, take_step ht h2 (h1 ▸ h2) (by simpa using h3)⟩
        · cbv; exact ⟨rfl, rfl, rfl, trivial⟩
    · refine ⟨?_, trivial⟩
      have h2 : a.length ≤ i := by simp at h2; omega
      simp [take_all h1 h2 ht]

theorem equalInt_ok (a b : List Int) : Spec Try.prog 41 [lA .int a, lA .int b] (Ret (bR fun _ => decide (a = b))) := by
  refine spec_of tabOk Try.func41 rfl rfl fun P hP hA => ?_
  obtain ⟨⟨ha, _⟩, _⟩ := hA
  have ha : a.length ≤ 9223372036854775807 := ha
  cbv
  refine Br.split (fun h1 => ?_) (fun h1 => ?_) <;> cbv
  · refine ⟨?_, trivial⟩
    have := len_ne (a := a) (b := b) h1
    simp [this]
  have h1 := len_eq (a := a) (b := b) h1
  refine LoopE.by (X := Nat) (fun i => [(0, lA .int a), (1, lA .int b), (12, iT fun _ => a.length), (13, iT fun _ => i)]) (fun _ => []) (fun i => i ≤ a.length ∧ a.take i = b.take i) (fun i _ => a.length - i) 0 ⟨Nat.zero_le _, by simp⟩ ?_ ?_
  · cbv; exact ⟨rfl, rfl, rfl, rfl, trivial⟩
  · intro i ⟨hi, ht⟩
    cbv
    refine Br.dec (fun h2 => ?_) (fun h2 => ?_) <;> cbv
    · have h2 : i < a.length := by simpa using h2
      refine ⟨a[i], by simp, get_cast a h2, ?_⟩
      cbv
      refine ⟨b[i], by simp, get_cast b (h1 ▸ h2), ?_⟩
      cbv
      refine Br.split (fun h3 => ?_) (fun h3 => ?_) <;> cbv
      · refine ⟨?_, trivial⟩
        have := take_ne h2 (h1 ▸ h2) (by simpa using h3)
        simp [this]
      · refine Ar.exact ?_ ?_ ?_
        · show -9223372036854775808 ≤ (i : Int) + 1
          omega
        · show (i : Int) + 1 ≤ 9223372036854775807
          omega
        cbv
        refine NextE.by (i + 1) ?_ ?_ ?_
        · show a.length - (i + 1) < a.length - i
          omega
        · exact ⟨h2, take_step ht h2 (h1 ▸ h2) (by simpa using h3)⟩
        · cbv; exact ⟨rfl, rfl, rfl, rfl, trivial⟩
    · refine ⟨?_, trivial⟩
      have h2 : a.length ≤ i := by simp at h2; omega
      simp [take_all h1 h2 ht]

theorem markIntS_ok (a : List Int) (k : Nat) (hk : k + a.length ≤ 4611686018427387904) :
    SpecM Try.prog 28 [oN 0, nT fun _ => k] [(0, ownB' .int fun _ => a)] (RetM (nR fun _ => k + a.length) [(0, .own .int fun _ => markL a.length k)]) := by
  refine specM_of tabOk Try.func28 rfl rfl rfl rfl fun P hP hA hB => ?_
  cbv
  refine LoopE.by (X := Nat) (fun i => [(0, oN 0), (1, nT fun _ => k + i), (5, nT fun _ => i)]) (fun i => [(0, ownB' .int fun _ => (markL a.length k).take i ++ a.drop i)]) (fun i => i ≤ a.length) (fun i _ => a.length - i) 0 (Nat.zero_le _) ?_ ?_
  · cbv
    refine ⟨rfl, rfl, ?_, trivial⟩
    show a = (markL a.length k).take 0 ++ a.drop 0
    simp
  · intro i hi
    have hlen : ((markL a.length k).take i ++ a.drop i).length = a.length := over_len (markL_len _ _) i
    cbv
    refine Br.dec (fun h2 => ?_) (fun h2 => ?_) <;> cbv
    · have h2 : (i : Int) < (((markL a.length k).take i ++ a.drop i).length : Int) := h2
      rw [hlen] at h2
      have h2 : i < a.length := by omega
      refine ⟨?_, ?_⟩
      · show 0 ≤ (i : Int) ∧ (i : Int) < (((markL a.length k).take i ++ a.drop i).length : Int)
        rw [hlen]; omega
      cbv
      refine Sv.keep ?_
      cbv
      refine Ar.exact ?_ ?_ ?_
      · show -9223372036854775808 ≤ ((k + i : Nat) : Int) + 1
        omega
      · show ((k + i : Nat) : Int) + 1 ≤ 9223372036854775807
        omega
      cbv
      refine Ar.exact ?_ ?_ ?_
      · show -9223372036854775808 ≤ (i : Int) + 1
        omega
      · show (i : Int) + 1 ≤ 9223372036854775807
        omega
      cbv
      refine NextE.by (i + 1) ?_ ?_ ?_
      · show a.length - (i + 1) < a.length - i
        omega
      · exact h2
      · cbv
        refine ⟨rfl, rfl, ?_, trivial⟩
        have := over_set (b := markL a.length k) (markL_len _ _) h2
        rw [markL_get] at this
        exact this
    · have h2 : ¬ (i : Int) < (((markL a.length k).take i ++ a.drop i).length : Int) := h2
      rw [hlen] at h2
      have h2 : a.length ≤ i := by omega
      refine ⟨?_, ?_, trivial⟩
      · exact over_all (markL_len _ _) h2
      · show ((k + i : Nat) : Int) = ((k + a.length : Nat) : Int)
        omega

theorem heldIntS_ok (n k : Nat) (hk : k + n ≤ 4611686018427387904) : Spec Try.prog 29 [lT .int fun _ => markL n k, nT fun _ => k] (Ret (nR fun _ => k + n)) := by
  refine spec_of tabOk Try.func29 rfl rfl fun P hP hA => ?_
  cbv
  refine LoopE.by (X := Nat) (fun i => [(0, lT .int fun _ => markL n k), (1, nT fun _ => k + i), (5, nT fun _ => i)]) (fun _ => []) (fun i => i ≤ n) (fun i _ => n - i) 0 (Nat.zero_le _) ?_ ?_
  · cbv
    exact ⟨rfl, rfl, rfl, trivial⟩
  · intro i hi
    cbv
    refine Br.dec (fun h2 => ?_) (fun h2 => ?_) <;> cbv
    · have h2 : (i : Int) < ((markL n k).length : Int) := h2
      rw [markL_len] at h2
      have h2 : i < n := by omega
      refine ⟨((k + i : Nat) : Int), by simp, ?_, ?_⟩
      · show (markL n k)[((i : Int)).toNat]? = _
        rw [get_cast _ (by rw [markL_len]; exact h2), markL_get]
      cbv
      refine Br.split (fun h3 => ?_) (fun h3 => ?_) <;> cbv
      · exfalso
        have h3 : (((k + i : Nat) : Int) != ((k + i : Nat) : Int)) = true := h3
        simp at h3
      refine Ar.exact ?_ ?_ ?_
      · show -9223372036854775808 ≤ ((k + i : Nat) : Int) + 1
        omega
      · show ((k + i : Nat) : Int) + 1 ≤ 9223372036854775807
        omega
      cbv
      refine Ar.exact ?_ ?_ ?_
      · show -9223372036854775808 ≤ (i : Int) + 1
        omega
      · show (i : Int) + 1 ≤ 9223372036854775807
        omega
      cbv
      refine NextE.by (i + 1) ?_ ?_ ?_
      · show n - (i + 1) < n - i
        omega
      · exact h2
      · cbv
        exact ⟨rfl, rfl, rfl, trivial⟩
    · have h2 : ¬ (i : Int) < ((markL n k).length : Int) := h2
      rw [markL_len] at h2
      refine ⟨?_, trivial⟩
      show ((k + i : Nat) : Int) = ((k + n : Nat) : Int)
      omega

end Go.Proofs.Ytnmdhpaobmjefaa
