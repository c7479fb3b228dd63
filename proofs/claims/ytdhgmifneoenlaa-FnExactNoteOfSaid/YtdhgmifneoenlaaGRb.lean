/- Parts of a proof. No conditions. -/

import Derived.Test.YtdhgmifneoenlaaG05
import Derived.Test.YtdhgmifneoenlaaGRq
set_option linter.unusedSimpArgs false
set_option linter.unusedVariables false
namespace Go.Proofs.Ytdhgmifneoenlaa
open Go
set_option maxRecDepth 100000
def byt (x : Int) : UInt8 := UInt8.ofNat (IntKind.u8.wrap x).toNat
def putN (n : Nat) : List UInt8 := if n < 128 then [byt n] else byt (((n % 128 : Nat) : Int) + 128) :: putN (n / 128)
termination_by n
decreasing_by omega
theorem putN_small {n : Nat} (h : n < 128) : putN n = [byt n] := by
  rw [putN, if_pos h]
theorem putN_big {n : Nat} (h : ¬ n < 128) : putN n = byt (((n % 128 : Nat) : Int) + 128) :: putN (n / 128) := by
  rw [putN, if_neg h]
theorem putN_len (n : Nat) : (putN n).length ≤ n + 1 := by
  induction n using Nat.strongRecOn with
  | ind n ih =>
    by_cases h : n < 128
    · rw [putN_small h]; simp
    · rw [putN_big h]
      have := ih (n / 128) (by omega)
      simp only [List.length_cons]
      omega
def putI (n : Int) : List UInt8 := if isIn n 0 2147483647 = true then putN n.toNat else []
theorem putI_len (n : Int) : (putI n).length ≤ 2147483648 := by
  unfold putI
  split
  · rename_i h
    have := isIn_ok h
    have := putN_len n.toNat
    omega
  · simp
theorem specPutNum_ok (n : Int) (x : List UInt8) (hx : x = putI n) : Spec Try.prog 14 [iA n] (Ret (lR .byte fun _ => x)) := by
  refine spec_of tabOk Try.func14 rfl rfl (fr := true) (fun _ => by kernel_rfl) fun P hP hA => ?_
  cbv
  refine CallA.by hP (l1InB_ok n 0 2147483647) ?_
  cbv
  repeat (refine Pz.mk ?_; cbv)
  refine Br.split (fun h => ?_) (fun h => ?_) <;> (cbv; repeat (refine Pz.mk ?_; cbv))
  · have h : isIn n 0 2147483647 = false := by simpa using h
    obtain rfl : x = [] := hx.trans (if_neg (by rw [h]; simp))
    repeat' first | exact trivial | refine ⟨rfl, ?_⟩ | fail
  have h : isIn n 0 2147483647 = true := by simpa using h
  obtain rfl : x = putN n.toNat := hx.trans (if_pos h)
  obtain ⟨h0, h1⟩ := isIn_ok h
  obtain ⟨m, rfl⟩ : ∃ m : Nat, n = m := ⟨n.toNat, by omega⟩
  have hm : m ≤ 2147483647 := by omega
  have hml := putN_len m
  refine LoopE.by (X := List UInt8 × Nat) (fun p => [(0, nT fun _ => p.2), (3, oN 0)]) (fun p => [(0, ownB' .byte fun _ => p.1)]) (fun p => p.1 ++ putN p.2 = putN m ∧ p.2 ≤ m) (fun p _ => p.2) ([], m) ⟨rfl, Nat.le_refl _⟩ ?_ ?_
  · cbv
    repeat' first | exact trivial | refine ⟨rfl, ?_⟩ | fail
  · rintro ⟨l, k⟩ ⟨hp, hk⟩
    have hp : l ++ putN k = putN m := hp
    have hk : k ≤ m := hk
    have hl : l.length + (putN k).length = (putN m).length := by rw [← hp, List.length_append]
    have hb : (l.length + 1) * 1 ≤ 140737488355328 := by omega
    cbv
    refine Br.dec (fun h2 => ?_) (fun h2 => ?_) <;> (cbv; repeat (refine Pz.mk ?_; cbv))
    · have h2 : (k : Int) > 127 := h2
      have h2 : ¬ k < 128 := by omega
      refine ⟨by decide, ?_⟩
      cbv
      refine Ar.exact ?_ ?_ ?_
      · show -9223372036854775808 ≤ (((k % 128 : Nat) : Int)) + 128
        omega
      · show (((k % 128 : Nat) : Int)) + 128 ≤ 9223372036854775807
        omega
      cbv
      refine ⟨hb, ?_⟩
      cbv
      refine ⟨by decide, ?_⟩
      cbv
      refine Ar.exact ?_ ?_ ?_
      · show -9223372036854775808 ≤ (((k / 128 : Nat) : Int))
        omega
      · show (((k / 128 : Nat) : Int)) ≤ 9223372036854775807
        omega
      cbv
      refine NextE.by (l ++ [byt (((k % 128 : Nat) : Int) + 128)], k / 128) ?_ ?_ ?_
      · show k / 128 < k
        omega
      · refine ⟨?_, ?_⟩
        · show (l ++ [byt (((k % 128 : Nat) : Int) + 128)]) ++ putN (k / 128) = putN m
          rw [← hp, putN_big h2, List.append_assoc, List.singleton_append]
        · show k / 128 ≤ m
          omega
      · cbv
        repeat' first | exact trivial | refine ⟨rfl, ?_⟩ | fail
    · have h2 : ¬ (k : Int) > 127 := h2
      have h2 : k < 128 := by omega
      refine ⟨hb, ?_⟩
      cbv
      refine ⟨?_, trivial⟩
      show l ++ [byt (k : Int)] = putN ((m : Int)).toNat
      rw [Int.toNat_natCast, ← hp, putN_small h2]
theorem implPutNum_ok (n : Int) (x : List UInt8) (hx : x = putI n) : Spec Try.prog 18 [iA n] (Ret (lR .byte fun _ => x)) := by
  refine spec_of tabOk Try.func18 rfl rfl (fr := true) (fun _ => by kernel_rfl) fun P hP hA => ?_
  cbv
  refine CallA.by hP (withinB_ok n 0 2147483647) ?_
  cbv
  repeat (refine Pz.mk ?_; cbv)
  refine Br.split (fun h => ?_) (fun h => ?_) <;> (cbv; repeat (refine Pz.mk ?_; cbv))
  · have h : isIn n 0 2147483647 = false := by simpa using h
    obtain rfl : x = [] := hx.trans (if_neg (by rw [h]; simp))
    repeat' first | exact trivial | refine ⟨rfl, ?_⟩ | fail
  have h : isIn n 0 2147483647 = true := by simpa using h
  obtain rfl : x = putN n.toNat := hx.trans (if_pos h)
  obtain ⟨h0, h1⟩ := isIn_ok h
  obtain ⟨m, rfl⟩ : ∃ m : Nat, n = m := ⟨n.toNat, by omega⟩
  have hm : m ≤ 2147483647 := by omega
  have hml := putN_len m
  refine LoopE.by (X := List UInt8 × Nat) (fun p => [(0, nT fun _ => p.2), (3, oN 0)]) (fun p => [(0, ownB' .byte fun _ => p.1)]) (fun p => p.1 ++ putN p.2 = putN m ∧ p.2 ≤ m) (fun p _ => p.2) ([], m) ⟨rfl, Nat.le_refl _⟩ ?_ ?_
  · cbv
    repeat' first | exact trivial | refine ⟨rfl, ?_⟩ | fail
  · rintro ⟨l, k⟩ ⟨hp, hk⟩
    have hp : l ++ putN k = putN m := hp
    have hk : k ≤ m := hk
    have hl : l.length + (putN k).length = (putN m).length := by rw [← hp, List.length_append]
    have hb : (l.length + 1) * 1 ≤ 140737488355328 := by omega
    cbv
    refine Br.dec (fun h2 => ?_) (fun h2 => ?_) <;> (cbv; repeat (refine Pz.mk ?_; cbv))
    · have h2 : (k : Int) ≥ 128 := h2
      have h2 : ¬ k < 128 := by omega
      refine ⟨by decide, ?_⟩
      cbv
      refine Ar.exact ?_ ?_ ?_
      · show -9223372036854775808 ≤ (((k % 128 : Nat) : Int)) + 128
        omega
      · show (((k % 128 : Nat) : Int)) + 128 ≤ 9223372036854775807
        omega
      cbv
      refine ⟨hb, ?_⟩
      cbv
      refine ⟨by decide, ?_⟩
      cbv
      refine Ar.exact ?_ ?_ ?_
      · show -9223372036854775808 ≤ (((k / 128 : Nat) : Int))
        omega
      · show (((k / 128 : Nat) : Int)) ≤ 9223372036854775807
        omega
      cbv
      refine NextE.by (l ++ [byt (((k % 128 : Nat) : Int) + 128)], k / 128) ?_ ?_ ?_
      · show k / 128 < k
        omega
      · refine ⟨?_, ?_⟩
        · show (l ++ [byt (((k % 128 : Nat) : Int) + 128)]) ++ putN (k / 128) = putN m
          rw [← hp, putN_big h2, List.append_assoc, List.singleton_append]
        · show k / 128 ≤ m
          omega
      · cbv
        repeat' first | exact trivial | refine ⟨rfl, ?_⟩ | fail
    · have h2 : ¬ (k : Int) ≥ 128 := h2
      have h2 : k < 128 := by omega
      refine ⟨hb, ?_⟩
      cbv
      refine ⟨?_, trivial⟩
      show l ++ [byt (k : Int)] = putN ((m : Int)).toNat
      rw [Int.toNat_natCast, ← hp, putN_small h2]
def nums (a : List Int) : List UInt8 := a.flatMap putI
theorem nums_step {a : List Int} {i : Nat} (h : i < a.length) : nums (a.take i) ++ putI a[i] = nums (a.take (i + 1)) := by
  rw [List.take_add_one, List.getElem?_eq_getElem h]
  simp only [nums, Option.toList_some, List.flatMap_append, List.flatMap_cons, List.flatMap_nil, List.append_nil]
theorem nums_len : ∀ (a : List Int), (nums a).length ≤ a.length * 2147483648
  | [] => by simp [nums]
  | x :: xs => by
    have h1 := nums_len xs
    have h2 := putI_len x
    simp only [nums, List.flatMap_cons, List.length_append, List.length_cons] at h1 ⊢
    omega
theorem nums_le {a : List Int} (h : a.length ≤ 16) (i : Nat) : (nums (a.take i)).length ≤ 34359738368 := by
  have h1 := nums_len (a.take i)
  have h2 : (a.take i).length ≤ 16 := by rw [List.length_take]; omega
  omega
theorem l18Nums_ok (a : List Int) (hn : a.length ≤ 16) : Spec Try.prog 12 [lA .int a] (Ret (sR fun _ => nums a)) := by
  refine spec_of tabOk Try.func12 rfl rfl (fr := true) (fun _ => by kernel_rfl) fun P hP hA => ?_
  cbv
  refine LoopE.by (X := Nat) (fun i => [(0, lA .int a), (3, oN 0), (4, nT fun _ => i)]) (fun i => [(0, ownB' .byte fun _ => nums (a.take i))]) (fun i => i ≤ a.length) (fun i _ => a.length - i) 0 (Nat.zero_le _) ?_ ?_
  · cbv
    repeat' first | exact trivial | refine ⟨rfl, ?_⟩ | fail
  · intro i hi
    cbv
    refine Br.dec (fun h2 => ?_) (fun h2 => ?_) <;> (cbv; repeat (refine Pz.mk ?_; cbv))
    · have h2 : i < a.length := by simpa using h2
      refine ⟨a[i], by simp, get_cast a h2, ?_⟩
      cbv
      refine CallA.by hP (specPutNum_ok a[i] (putI a[i]) rfl) ?_
      cbv
      repeat (refine Pz.mk ?_; cbv)
      refine ⟨?_, ?_⟩
      · show ((nums (a.take i)).length + (putI a[i]).length) * 1 ≤ 140737488355328
        have := nums_le hn i
        have := putI_len a[i]
        omega
      cbv
      refine Ar.exact ?_ ?_ ?_
      · show -9223372036854775808 ≤ (i : Int) + 1
        omega
      · show (i : Int) + 1 ≤ 9223372036854775807
        omega
      cbv
      refine NextE.by (i + 1) ?_ ?_ ?_
      · show a.length - (i + 1) < a.length - i
        omega
      · exact h2
      · cbv
        repeat' first | exact trivial | refine ⟨rfl, ?_⟩ | fail
        refine ⟨?_, trivial⟩
        exact nums_step h2
    · have h2 : a.length ≤ i := by simp at h2; omega
      refine ⟨?_, trivial⟩
      show nums (a.take i) = nums a
      rw [List.take_of_length_le h2]
theorem putNums_ok (a : List Int) (hn : a.length ≤ 16) : Spec Try.prog 21 [lA .int a] (Ret (sR fun _ => nums a)) := by
  refine spec_of tabOk Try.func21 rfl rfl (fr := true) (fun _ => by kernel_rfl) fun P hP hA => ?_
  cbv
  refine LoopE.by (X := Nat) (fun i => [(3, oN 0), (6, lA .int a), (7, nT fun _ => a.length), (8, nT fun _ => i)]) (fun i => [(0, ownB' .byte fun _ => nums (a.take i))]) (fun i => i ≤ a.length) (fun i _ => a.length - i) 0 (Nat.zero_le _) ?_ ?_
  · cbv
    repeat' first | exact trivial | refine ⟨rfl, ?_⟩ | fail
  · intro i hi
    cbv
    refine Br.dec (fun h2 => ?_) (fun h2 => ?_) <;> (cbv; repeat (refine Pz.mk ?_; cbv))
    · have h2 : i < a.length := by simpa using h2
      refine ⟨a[i], by simp, get_cast a h2, ?_⟩
      cbv
      refine CallA.by hP (implPutNum_ok a[i] (putI a[i]) rfl) ?_
      cbv
      repeat (refine Pz.mk ?_; cbv)
      refine ⟨?_, ?_⟩
      · show ((nums (a.take i)).length + (putI a[i]).length) * 1 ≤ 140737488355328
        have := nums_le hn i
        have := putI_len a[i]
        omega
      cbv
      refine Ar.exact ?_ ?_ ?_
      · show -9223372036854775808 ≤ (i : Int) + 1
        omega
      · show (i : Int) + 1 ≤ 9223372036854775807
        omega
      cbv
      refine NextE.by (i + 1) ?_ ?_ ?_
      · show a.length - (i + 1) < a.length - i
        omega
      · exact h2
      · cbv
        repeat' first | exact trivial | refine ⟨rfl, ?_⟩ | fail
        refine ⟨?_, trivial⟩
        exact nums_step h2
    · have h2 : a.length ≤ i := by simp at h2; omega
      refine ⟨?_, trivial⟩
      show nums (a.take i) = nums a
      rw [List.take_of_length_le h2]
def reqNums (q : Req) : List Int :=
  if q.kind = 1 then [q.kind, q.id, q.cab, q.frm + 1, q.siz, q.tier]
  else if q.kind = 3 then [q.kind, q.cab, q.siz]
  else if q.kind = 6 then [q.kind]
  else [q.kind, q.id]
def reqBytes (q : Req) : List UInt8 := if reqOk q = true then nums (reqNums q) else []
theorem frm_ok {q : Req} (h : reqOk q = true) (h1 : q.kind = 1) : -1 ≤ q.frm ∧ q.frm ≤ 9999 := by
  unfold reqOk at h
  rw [if_pos h1] at h
  simp only [Bool.and_eq_true, decide_eq_true_eq] at h
  exact h.1.1.2
theorem bytes_nil {q : Req} (h : reqOk q = false) : reqBytes q = [] := if_neg (by rw [h]; simp)
theorem bytes_of {q : Req} (h : reqOk q = true) {l : List Int} (e : reqNums q = l) : reqBytes q = nums l := by
  rw [← e]; exact if_pos h
theorem nums1 {q : Req} (h : q.kind = 1) : reqNums q = [q.kind, q.id, q.cab, q.frm + 1, q.siz, q.tier] := by rw [reqNums, if_pos h]
theorem nums3 {q : Req} (h1 : ¬ q.kind = 1) (h : q.kind = 3) : reqNums q = [q.kind, q.cab, q.siz] := by rw [reqNums, if_neg h1, if_pos h]
theorem nums6 {q : Req} (h1 : ¬ q.kind = 1) (h3 : ¬ q.kind = 3) (h : q.kind = 6) : reqNums q = [q.kind] := by rw [reqNums, if_neg h1, if_neg h3, if_pos h]
theorem nums0 {q : Req} (h1 : ¬ q.kind = 1) (h3 : ¬ q.kind = 3) (h : ¬ q.kind = 6) : reqNums q = [q.kind, q.id] := by rw [reqNums, if_neg h1, if_neg h3, if_neg h]
theorem specReqBytes_ok (q : Req) (x : List UInt8) (hx : x = reqBytes q) : Spec Try.prog 7 [eA .req q] (Ret (sR fun _ => x)) := by
  refine spec_of tabOk Try.func7 rfl rfl (fr := true) (fun _ => by kernel_rfl) fun P hP hA => ?_
  cbv
  refine CallA.by hP (specReqOk_ok q) ?_
  cbv
  repeat (refine Pz.mk ?_; cbv)
  refine Br.split (fun h => ?_) (fun h => ?_) <;> (cbv; repeat (refine Pz.mk ?_; cbv))
  · have h : reqOk q = false := by simpa using h
    obtain rfl : x = [] := hx.trans (bytes_nil h)
    repeat' first | exact trivial | refine ⟨rfl, ?_⟩ | fail
  have h : reqOk q = true := by simpa using h
  refine Br.split (fun h1 => ?_) (fun h1 => ?_) <;> (cbv; repeat (refine Pz.mk ?_; cbv))
  · have h1 : q.kind = 1 := by simpa using h1
    have hf := frm_ok h h1
    refine Ar.exact ?_ ?_ ?_
    · show -9223372036854775808 ≤ q.frm + 1
      omega
    · show q.frm + 1 ≤ 9223372036854775807
      omega
    cbv
    obtain rfl : x = nums [q.kind, q.id, q.cab, q.frm + 1, q.siz, q.tier] := hx.trans (bytes_of h (nums1 h1))
    refine CallA.byE hP (l18Nums_ok [q.kind, q.id, q.cab, q.frm + 1, q.siz, q.tier] (by decide : 6 ≤ 16)) rfl ?_
    cbv
    repeat' first | exact trivial | refine ⟨rfl, ?_⟩ | fail
  have h1 : ¬ q.kind = 1 := by simpa using h1
  refine Br.split (fun h3 => ?_) (fun h3 => ?_) <;> (cbv; repeat (refine Pz.mk ?_; cbv))
  · have h3 : q.kind = 3 := by simpa using h3
    obtain rfl : x = nums [q.kind, q.cab, q.siz] := hx.trans (bytes_of h (nums3 h1 h3))
    refine CallA.byE hP (l18Nums_ok [q.kind, q.cab, q.siz] (by decide : 3 ≤ 16)) rfl ?_
    cbv
    repeat' first | exact trivial | refine ⟨rfl, ?_⟩ | fail
  have h3 : ¬ q.kind = 3 := by simpa using h3
  refine Br.split (fun h6 => ?_) (fun h6 => ?_) <;> (cbv; repeat (refine Pz.mk ?_; cbv))
  · have h6 : q.kind = 6 := by simpa using h6
    obtain rfl : x = nums [q.kind] := hx.trans (bytes_of h (nums6 h1 h3 h6))
    refine CallA.byE hP (l18Nums_ok [q.kind] (by decide : 1 ≤ 16)) rfl ?_
    cbv
    repeat' first | exact trivial | refine ⟨rfl, ?_⟩ | fail
  have h6 : ¬ q.kind = 6 := by simpa using h6
  obtain rfl : x = nums [q.kind, q.id] := hx.trans (bytes_of h (nums0 h1 h3 h6))
  refine CallA.byE hP (l18Nums_ok [q.kind, q.id] (by decide : 2 ≤ 16)) rfl ?_
  cbv
  repeat' first | exact trivial | refine ⟨rfl, ?_⟩ | fail
theorem implReqBytes_ok (q : Req) (x : List UInt8) (hx : x = reqBytes q) : Spec Try.prog 10 [eA .req q] (Ret (sR fun _ => x)) := by
  refine spec_of tabOk Try.func10 rfl rfl (fr := true) (fun _ => by kernel_rfl) fun P hP hA => ?_
  cbv
  refine CallA.by hP (implReqOk_ok q) ?_
  cbv
  repeat (refine Pz.mk ?_; cbv)
  refine Br.split (fun h => ?_) (fun h => ?_) <;> (cbv; repeat (refine Pz.mk ?_; cbv))
  · have h : reqOk q = false := by simpa using h
    obtain rfl : x = [] := hx.trans (bytes_nil h)
    repeat' first | exact trivial | refine ⟨rfl, ?_⟩ | fail
  have h : reqOk q = true := by simpa using h
  refine Br.split (fun h1 => ?_) (fun h1 => ?_) <;> (cbv; repeat (refine Pz.mk ?_; cbv))
  · have h1 : q.kind = 1 := by simpa using h1
    have hf := frm_ok h h1
    refine Ar.exact ?_ ?_ ?_
    · show -9223372036854775808 ≤ q.frm + 1
      omega
    · show q.frm + 1 ≤ 9223372036854775807
      omega
    cbv
    obtain rfl : x = nums [q.kind, q.id, q.cab, q.frm + 1, q.siz, q.tier] := hx.trans (bytes_of h (nums1 h1))
    refine ⟨by show (1 + 5) * 8 ≤ 140737488355328; omega, ?_⟩
    cbv
    refine CallA.byE hP (putNums_ok [q.kind, q.id, q.cab, q.frm + 1, q.siz, q.tier] (by decide : 6 ≤ 16)) rfl ?_
    cbv
    repeat' first | exact trivial | refine ⟨rfl, ?_⟩ | fail
  have h1 : ¬ q.kind = 1 := by simpa using h1
  refine Br.split (fun h3 => ?_) (fun h3 => ?_) <;> (cbv; repeat (refine Pz.mk ?_; cbv))
  · have h3 : q.kind = 3 := by simpa using h3
    obtain rfl : x = nums [q.kind, q.cab, q.siz] := hx.trans (bytes_of h (nums3 h1 h3))
    refine ⟨by show (1 + 2) * 8 ≤ 140737488355328; omega, ?_⟩
    cbv
    refine CallA.byE hP (putNums_ok [q.kind, q.cab, q.siz] (by decide : 3 ≤ 16)) rfl ?_
    cbv
    repeat' first | exact trivial | refine ⟨rfl, ?_⟩ | fail
  have h3 : ¬ q.kind = 3 := by simpa using h3
  refine Br.split (fun h6 => ?_) (fun h6 => ?_) <;> (cbv; repeat (refine Pz.mk ?_; cbv))
  · have h6 : q.kind = 6 := by simpa using h6
    obtain rfl : x = nums [q.kind] := hx.trans (bytes_of h (nums6 h1 h3 h6))
    refine CallA.byE hP (putNums_ok [q.kind] (by decide : 1 ≤ 16)) rfl ?_
    cbv
    repeat' first | exact trivial | refine ⟨rfl, ?_⟩ | fail
  have h6 : ¬ q.kind = 6 := by simpa using h6
  obtain rfl : x = nums [q.kind, q.id] := hx.trans (bytes_of h (nums0 h1 h3 h6))
  refine ⟨by show (1 + 1) * 8 ≤ 140737488355328; omega, ?_⟩
  cbv
  refine CallA.byE hP (putNums_ok [q.kind, q.id] (by decide : 2 ≤ 16)) rfl ?_
  cbv
  repeat' first | exact trivial | refine ⟨rfl, ?_⟩ | fail
end Go.Proofs.Ytdhgmifneoenlaa

