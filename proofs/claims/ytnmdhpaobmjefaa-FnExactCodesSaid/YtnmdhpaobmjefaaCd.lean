/-
  The codes of replies: the contracts of Codes and of the law on it. No conditions.
-/
import Derived.Test.YtnmdhpaobmjefaaRp
namespace Go.Proofs.Ytnmdhpaobmjefaa
open Go
set_option maxRecDepth 100000

def smallRep (a : List Reply) : Prop := a.length ≤ bigN ∧ ∀ x ∈ a, x.ids.length ≤ bigN

theorem toReplyS_ok (a : List Reply) (hs : smallRep a) : Spec Try.prog 23 [lA .rep a] (Ret (lR .rep fun _ => a)) := by
  refine spec_of tabOk Try.func23 rfl rfl fun P hP hA => ?_
  have hn : a.length ≤ 1048576 := hs.1
  have hx := hs.2
  cbv
  refine ⟨?_, ?_⟩
  · show 0 ≤ (a.length : Int) ∧ (a.length : Int) ≤ a.length ∧ (a.length : Int) * 32 ≤ 140737488355328
    omega
  cbv
  refine LoopE.by (X := Nat) (fun i => [(0, lA .rep a), (3, oN 0), (4, nT fun _ => i)]) (fun i => [(0, ownB' .rep fun _ => a.take i ++ List.replicate (a.length - i) default)]) (fun i => i ≤ a.length) (fun i _ => a.length - i) 0 (Nat.zero_le _) ?_ ?_
  · cbv
    refine ⟨rfl, rfl, ?_, trivial⟩
    show List.replicate ((a.length : Int)).toNat (default : Reply) = a.take 0 ++ List.replicate (a.length - 0) default
    simp
  · intro i hi
    cbv
    refine Br.dec (fun h2 => ?_) (fun h2 => ?_) <;> cbv
    · have h2 : i < a.length := by simpa using h2
      refine ⟨a[i], by simp, get_cast a h2, ?_⟩
      cbv
      refine CallA.by hP (toReply_ok a[i] (hx _ (List.getElem_mem _))) ?_
      cbv
      refine ⟨?_, ?_⟩
      · show 0 ≤ (i : Int) ∧ (i : Int) < ((a.take i ++ List.replicate (a.length - i) (default : Reply)).length : Int)
        rw [fill_len a default hi]; omega
      cbv
      refine Sv.keep ?_
      cbv
      refine Ar.exact ?_ ?_ ?_
      · show -9223372036854775808 ≤ (i : Int) + 1
        omega
      · show (i : Int) + 1 ≤ 9223372036854775807
        omega
      cbv
      refine NextE.by (i + 1) ?_ ?_ ?_
      · show a.length - (i + 1) < a.length - i
        omega
      · exact h2
      · cbv
        refine ⟨rfl, rfl, ?_, trivial⟩
        exact fill_set a default h2
    · have h2 : a.length ≤ i := by simp at h2; omega
      refine ⟨?_, trivial⟩
      show a.take i ++ List.replicate (a.length - i) default = a
      rw [show a.length - i = 0 by omega, List.take_of_length_le h2]
      simp

theorem eqReplyS_ok (a b : List Reply) : Spec Try.prog 26 [lA .rep a, lA .rep b] (Ret (bR fun _ => decide (a = b))) := by
  refine spec_of tabOk Try.func26 rfl rfl fun P hP hA => ?_
  obtain ⟨⟨ha, _⟩, _⟩ := hA
  have ha : a.length ≤ 9223372036854775807 := ha
  cbv
  refine Br.split (fun h1 => ?_) (fun h1 => ?_) <;> cbv
  · refine ⟨?_, trivial⟩
    have := len_ne (a := a) (b := b) h1
    simp [this]
  have h1 := len_eq (a := a) (b := b) h1
  refine LoopE.by (X := Nat) (fun i => [(0, lA .rep a), (1, lA .rep b), (5, nT fun _ => i)]) (fun _ => []) (fun i => i ≤ a.length ∧ a.take i = b.take i) (fun i _ => a.length - i) 0 ⟨Nat.zero_le _, by simp⟩ ?_ ?_
  · cbv; exact ⟨rfl, rfl, rfl, trivial⟩
  · intro i ⟨hi, ht⟩
    cbv
    refine Br.dec (fun h2 => ?_) (fun h2 => ?_) <;> cbv
    · have h2 : i < a.length := by simpa using h2
      refine ⟨a[i], by simp, get_cast a h2, ?_⟩
      cbv
      refine ⟨b[i], by simp, get_cast b (h1 ▸ h2), ?_⟩
      cbv
      refine CallA.by hP (eqReply_ok a[i] (b[i]'(h1 ▸ h2))) ?_
      cbv
      refine Br.split (fun h3 => ?_) (fun h3 => ?_) <;> cbv
      · refine ⟨?_, trivial⟩
        have := take_ne h2 (h1 ▸ h2) (by simpa using h3)
        simp [this]
      · refine Ar.exact ?_ ?_ ?_
        · show -9223372036854775808 ≤ (i : Int) + 1
          omega
        · show (i : Int) + 1 ≤ 9223372036854775807
          omega
        cbv
        refine NextE.by (i + 1) ?_ ?_ ?_
        · show a.length - (i + 1) < a.length - i
          omega
        · exact ⟨h2, take_step ht h2 (h1 ▸ h2) (by simpa using h3)⟩
        · cbv; exact ⟨rfl, rfl, rfl, trivial⟩
    · refine ⟨?_, trivial⟩
      have h2 : a.length ≤ i := by simp at h2; omega
      simp [take_all h1 h2 ht]

theorem map_step {α β : Type} (f : α → β) (a : List α) {i : Nat} (h : i < a.length) : (a.take i).map f ++ [f a[i]] = (a.take (i + 1)).map f := by
  rw [List.take_add_one, List.getElem?_eq_getElem h]; simp only [Option.toList_some, List.map_append, List.map_cons, List.map_nil]

theorem specCodes_ok (a : List Reply) (hn : a.length ≤ bigN) : Spec Try.prog 22 [lA .rep a] (Ret (lR .int fun _ => a.map Reply.code)) := by
  refine spec_of tabOk Try.func22 rfl rfl fun P hP hA => ?_
  have hn : a.length ≤ 1048576 := hn
  cbv
  refine LoopE.by (X := Nat) (fun i => [(0, lA .rep a), (3, oN 0), (4, nT fun _ => i)]) (fun i => [(0, ownB' .int fun _ => (a.take i).map Reply.code)]) (fun i => i ≤ a.length) (fun i _ => a.length - i) 0 (Nat.zero_le _) ?_ ?_
  · cbv
    exact ⟨rfl, rfl, rfl, trivial⟩
  · intro i hi
    cbv
    refine Br.dec (fun h2 => ?_) (fun h2 => ?_) <;> cbv
    · have h2 : i < a.length := by simpa using h2
      refine ⟨a[i], by simp, get_cast a h2, ?_⟩
      cbv
      refine ⟨?_, ?_⟩
      · show (((a.take i).map Reply.code).length + 1) * 8 ≤ 140737488355328
        rw [List.length_map, List.length_take]; omega
      cbv
      refine Ar.exact ?_ ?_ ?_
      · show -9223372036854775808 ≤ (i : Int) + 1
        omega
      · show (i : Int) + 1 ≤ 9223372036854775807
        omega
      cbv
      refine NextE.by (i + 1) ?_ ?_ ?_
      · show a.length - (i + 1) < a.length - i
        omega
      · exact h2
      · cbv
        refine ⟨rfl, rfl, ?_, trivial⟩
        exact map_step Reply.code a h2
    · have h2 : a.length ≤ i := by simp at h2; omega
      refine ⟨?_, trivial⟩
      show (a.take i).map Reply.code = a.map Reply.code
      rw [List.take_of_length_le h2]

theorem implCodes_ok (a : List Reply) (hn : a.length ≤ bigN) : Spec Try.prog 24 [lA .rep a] (Ret (lR .int fun _ => a.map Reply.code)) := by
  refine spec_of tabOk Try.func24 rfl rfl fun P hP hA => ?_
  have hn : a.length ≤ 1048576 := hn
  cbv
  refine LoopE.by (X := Nat) (fun i => [(3, oN 0), (6, lA .rep a), (7, nT fun _ => a.length), (8, nT fun _ => i)]) (fun i => [(0, ownB' .int fun _ => (a.take i).map Reply.code)]) (fun i => i ≤ a.length) (fun i _ => a.length - i) 0 (Nat.zero_le _) ?_ ?_
  · cbv
    exact ⟨rfl, rfl, rfl, rfl, trivial⟩
  · intro i hi
    cbv
    refine Br.dec (fun h2 => ?_) (fun h2 => ?_) <;> cbv
    · have h2 : i < a.length := by simpa using h2
      refine ⟨a[i], by simp, get_cast a h2, ?_⟩
      cbv
      refine ⟨?_, ?_⟩
      · show (((a.take i).map Reply.code).length + 1) * 8 ≤ 140737488355328
        rw [List.length_map, List.length_take]; omega
      cbv
      refine Ar.exact ?_ ?_ ?_
      · show -9223372036854775808 ≤ (i : Int) + 1
        omega
      · show (i : Int) + 1 ≤ 9223372036854775807
        omega
      cbv
      refine NextE.by (i + 1) ?_ ?_ ?_
      · show a.length - (i + 1) < a.length - i
        omega
      · exact h2
      · cbv
        refine ⟨rfl, rfl, rfl, ?_, trivial⟩
        exact map_step Reply.code a h2
    · have h2 : a.length ≤ i := by simp at h2; omega
      refine ⟨?_, trivial⟩
      show (a.take i).map Reply.code = a.map Reply.code
      rw [List.take_of_length_le h2]

/-- replies that are marked with numbers from k on -/
def markRep : List Reply → Nat → List Reply
  | [], _ => []
  | x :: xs, k => ⟨((k : Nat) : Int), markL x.ids.length (k + 1)⟩ :: markRep xs (k + 1 + x.ids.length)

def nextRep : List Reply → Nat → Nat
  | [], k => k
  | x :: xs, k => nextRep xs (k + 1 + x.ids.length)

def sumIds : List Reply → Nat
  | [] => 0
  | x :: xs => x.ids.length + sumIds xs

theorem markRep_len : ∀ (a : List Reply) (k : Nat), (markRep a k).length = a.length
  | [], _ => rfl
  | x :: xs, k => by simp [markRep, markRep_len xs]

theorem markRep_app : ∀ (a b : List Reply) (k : Nat), markRep (a ++ b) k = markRep a k ++ markRep b (nextRep a k)
  | [], _, _ => rfl
  | x :: xs, b, k => by simp [markRep, nextRep, markRep_app xs b]

theorem nextRep_app : ∀ (a b : List Reply) (k : Nat), nextRep (a ++ b) k = nextRep b (nextRep a k)
  | [], _, _ => rfl
  | x :: xs, b, k => by simp [nextRep, nextRep_app xs b]

theorem nextRep_le : ∀ (a : List Reply) (k n : Nat), (∀ x ∈ a, x.ids.length ≤ n) → nextRep a k ≤ k + a.length * (n + 1)
  | [], k, n, _ => by simp [nextRep]
  | x :: xs, k, n, h => by
    have h1 := nextRep_le xs (k + 1 + x.ids.length) n fun y hy => h y (List.mem_cons_of_mem _ hy)
    have h2 := h x List.mem_cons_self
    simp only [nextRep, List.length_cons, Nat.add_mul]
    omega

theorem markReplyS_ok (a : List Reply) (k : Nat) (hs : smallRep a) (hk : k ≤ 1048576) :
    SpecM Try.prog 27 [oN 0, nT fun _ => k] [(0, ownB' .rep fun _ => a)] (RetM (nR fun _ => nextRep a k) [(0, .own .rep fun _ => markRep a k)]) := by
  refine specM_of tabOk Try.func27 rfl rfl rfl rfl fun P hP hA hB => ?_
  have hn : a.length ≤ 1048576 := hs.1
  have hx := hs.2
  cbv
  refine LoopE.by (X := Nat) (fun i => [(0, oN 0), (1, nT fun _ => nextRep (a.take i) k), (5, nT fun _ => i)]) (fun i => [(0, ownB' .rep fun _ => markRep (a.take i) k ++ a.drop i)]) (fun i => i ≤ a.length) (fun i _ => a.length - i) 0 (Nat.zero_le _) ?_ ?_
  · cbv
    exact ⟨rfl, rfl, rfl, trivial⟩
  · intro i hi
    have hlen : (markRep (a.take i) k ++ a.drop i).length = a.length := by
      rw [List.length_append, markRep_len, List.length_take, List.length_drop]; omega
    have hmax : nextRep (a.take i) k ≤ 1048576 + 1048576 * 1048577 := by
      have h1 := nextRep_le (a.take i) k 1048576 fun x hx' => hx x (List.mem_of_mem_take hx')
      have h2 := Nat.mul_le_mul_right 1048577 (show (a.take i).length ≤ 1048576 by rw [List.length_take]; omega)
      omega
    cbv
    refine Br.dec (fun h2 => ?_) (fun h2 => ?_) <;> cbv
    · have h2 : (i : Int) < ((markRep (a.take i) k ++ a.drop i).length : Int) := h2
      rw [hlen] at h2
      have h2 : i < a.length := by omega
      have hget : (markRep (a.take i) k ++ a.drop i)[i]? = some a[i] := by
        rw [List.getElem?_append_right (by rw [markRep_len, List.length_take]; omega), markRep_len, List.length_take, Nat.min_eq_left hi, Nat.sub_self, List.getElem?_drop, Nat.add_zero, List.getElem?_eq_getElem h2]
      have hids : a[i].ids.length ≤ 1048576 := hx _ (List.getElem_mem _)
      refine ⟨?_, ?_⟩
      · show 0 ≤ (i : Int) ∧ (i : Int) < ((markRep (a.take i) k ++ a.drop i).length : Int)
        rw [hlen]; omega
      cbv
      refine Sv.mk (fun _ => (markRep (a.take i) k ++ a.drop i).set i ⟨((nextRep (a.take i) k : Nat) : Int), a[i].ids⟩) ?_ ?_
      · show (markRep (a.take i) k ++ a.drop i).set ((i : Int)).toNat ⟨((nextRep (a.take i) k : Nat) : Int), ((markRep (a.take i) k ++ a.drop i).getD ((i : Int)).toNat default).ids⟩ = _
        rw [Int.toNat_natCast, List.getD_eq_getElem?_getD, hget]; rfl
      cbv
      refine Ar.exact ?_ ?_ ?_
      · show -9223372036854775808 ≤ ((nextRep (a.take i) k : Nat) : Int) + 1
        omega
      · show ((nextRep (a.take i) k : Nat) : Int) + 1 ≤ 9223372036854775807
        omega
      cbv
      refine ⟨?_, ?_⟩
      · show 0 ≤ (i : Int) ∧ (i : Int) < (((markRep (a.take i) k ++ a.drop i).set i ⟨((nextRep (a.take i) k : Nat) : Int), a[i].ids⟩).length : Int)
        rw [List.length_set, hlen]; omega
      cbv
      have hset : ((markRep (a.take i) k ++ a.drop i).set i ⟨((nextRep (a.take i) k : Nat) : Int), a[i].ids⟩)[i]? = some ⟨((nextRep (a.take i) k : Nat) : Int), a[i].ids⟩ := by
        rw [List.getElem?_set_self (by rw [hlen]; exact h2)]
      refine CallM.byE hP (markIntS_ok a[i].ids (nextRep (a.take i) k + 1) (by omega)) rfl ?_ ?_
      · refine congrArg (fun l => [(0, Blk.own .int (fun _ => l) false)]) ?_
        show (((markRep (a.take i) k ++ a.drop i).set i ⟨((nextRep (a.take i) k : Nat) : Int), a[i].ids⟩).getD ((i : Int)).toNat default).ids = a[i].ids
        rw [Int.toNat_natCast, List.getD_eq_getElem?_getD, hset]; rfl
      cbv
      refine Ar.exact ?_ ?_ ?_
      · show -9223372036854775808 ≤ (i : Int) + 1
        omega
      · show (i : Int) + 1 ≤ 9223372036854775807
        omega
      cbv
      have htake : a.take (i + 1) = a.take i ++ [a[i]] := by rw [List.take_add_one, List.getElem?_eq_getElem h2]; rfl
      refine NextE.by (i + 1) ?_ ?_ ?_
      · show a.length - (i + 1) < a.length - i
        omega
      · exact h2
      · cbv
        refine ⟨?_, rfl, ?_, trivial⟩
        · show ((nextRep (a.take i) k + 1 + a[i].ids.length : Nat) : Int) = ((nextRep (a.take (i + 1)) k : Nat) : Int)
          rw [htake, nextRep_app]; rfl
        · show ((markRep (a.take i) k ++ a.drop i).set i ⟨((nextRep (a.take i) k : Nat) : Int), a[i].ids⟩).set ((i : Int)).toNat
              ⟨(((markRep (a.take i) k ++ a.drop i).set i ⟨((nextRep (a.take i) k : Nat) : Int), a[i].ids⟩).getD ((i : Int)).toNat default).code, markL a[i].ids.length (nextRep (a.take i) k + 1)⟩ =
            markRep (a.take (i + 1)) k ++ a.drop (i + 1)
          rw [Int.toNat_natCast, List.getD_eq_getElem?_getD, hset, htake, markRep_app]
          simp only [Option.getD_some, List.set_set, markRep, List.append_assoc, List.singleton_append]
          rw [List.set_append_right _ _ (by rw [markRep_len, List.length_take]; omega), markRep_len, List.length_take, Nat.min_eq_left hi, Nat.sub_self, List.drop_eq_getElem_cons h2, List.set_cons_zero]
    · have h2 : ¬ (i : Int) < ((markRep (a.take i) k ++ a.drop i).length : Int) := h2
      rw [hlen] at h2
      have h2 : a.length ≤ i := by omega
      refine ⟨?_, ?_, trivial⟩
      · show markRep (a.take i) k ++ a.drop i = markRep a k
        rw [List.take_of_length_le h2, List.drop_of_length_le h2, List.append_nil]
      · show ((nextRep (a.take i) k : Nat) : Int) = ((nextRep a k : Nat) : Int)
        rw [List.take_of_length_le h2]


theorem lawCodes_ok (a : List Reply) : Spec Try.prog 7 [lA .rep a] (Ret (bR fun _ => true)) := by
  refine spec_of tabOk Try.func7 rfl rfl fun P hP hA => ?_
  cbv
  refine CallA.ex hP (szReplyS_ok a 1048576 (by omega) (by omega)) fun r hr => ?_
  cbv
  refine Br.dec (fun h => ?_) (fun h => ?_) <;> cbv
  · exact ⟨rfl, trivial⟩
  have h0 : 0 ≤ r := by have h : ¬ r < 0 := h; omega
  have hs : smallRep a := hr.ok h0
  have hn : a.length ≤ 1048576 := hs.1
  repeat' first
    | exact trivial
    | exact ⟨rfl, trivial⟩
    | exact ⟨rfl, rfl⟩
    | (refine CallA.by hP (toReplyS_ok a hs) ?_; cbv)
    | (refine CallA.by hP (specCodes_ok a hs.1) ?_; cbv)
    | (refine CallA.by hP (implCodes_ok a hs.1) ?_; cbv)
    | (refine CallA.by hP (eqIntS_ok (a.map Reply.code) (a.map Reply.code)) ?_; cbv)
    | (refine CallA.by hP (eqReplyS_ok a a) ?_; cbv)
    | (refine CallM.byE hP (markReplyS_ok a 1 hs (by omega)) rfl rfl ?_; cbv)
    | (refine CallM.byE hP (markIntS_ok (a.map Reply.code) 1 (by rw [List.length_map]; omega)) rfl rfl ?_; cbv)
    | (refine CallA.byE hP (heldIntS_ok (a.map Reply.code).length 1 (by rw [List.length_map]; omega)) rfl ?_; cbv)
    | (refine Br.split (fun h => ?_) (fun h => ?_) <;> cbv)
    | exact (neg_no h).elim
    | (exfalso; simp at h; done)
    | refine And.intro ?_ ?_

end Go.Proofs.Ytnmdhpaobmjefaa
