/- Parts of a proof. No conditions. -/

import Derived.Test.YtnenmkiabclncaaGreatGTab
set_option linter.unusedSimpArgs false
set_option linter.unusedVariables false
namespace Go.Proofs.YtnenmkiabclncaaGreat
open Go
def iT (t : Unit → Int) : V := .c (.lf (.int .i64 t))
def lT (E : ETy) (t : Unit → List E.α) : V := .c (.lf (.list E t))
def oN (k : Nat) : V := .c (.own k)
def pN (k : Nat) : V := .c (.ptr k 0)
def ownB' (E : ETy) (t : Unit → List E.α) : Blk := .own E t false
section
variable {α : Type}
theorem fill_set (a : List α) (d : α) {i : Nat} (h : i < a.length) : (a.take i ++ List.replicate (a.length - i) d).set i a[i] = a.take (i + 1) ++ List.replicate (a.length - (i + 1)) d := by
  obtain ⟨m, hm⟩ : ∃ m, a.length - i = m + 1 := ⟨a.length - i - 1, by omega⟩
  have h2 : a.length - (i + 1) = m := by omega
  rw [hm, h2, List.set_append_right _ _ (by rw [List.length_take]; omega), List.length_take, Nat.min_eq_left (by omega), Nat.sub_self, List.replicate_succ, List.set_cons_zero, List.take_add_one, List.getElem?_eq_getElem h]
  simp only [Option.toList_some, List.append_assoc, List.singleton_append]
theorem fill_len (a : List α) (d : α) {i : Nat} (h : i ≤ a.length) : (a.take i ++ List.replicate (a.length - i) d).length = a.length := by
  simp; omega
theorem take_step {a b : List α} {i : Nat} (h : a.take i = b.take i) (ha : i < a.length) (hb : i < b.length) (he : a[i] = b[i]) : a.take (i + 1) = b.take (i + 1) := by
  rw [List.take_add_one, List.take_add_one, h, List.getElem?_eq_getElem ha, List.getElem?_eq_getElem hb, he]
theorem take_ne {a b : List α} {i : Nat} (ha : i < a.length) (hb : i < b.length) (he : a[i] ≠ b[i]) : a ≠ b := fun h => by
  subst h; exact he rfl
theorem take_all {a b : List α} (hl : a.length = b.length) {i : Nat} (hi : a.length ≤ i) (h : a.take i = b.take i) : a = b := by
  rwa [List.take_of_length_le hi, List.take_of_length_le (by omega)] at h
theorem len_eq {a b : List α} (h : (((a.length : Nat) : Int) != ((b.length : Nat) : Int)) = false) : a.length = b.length := by
  simp at h; omega
theorem len_ne {a b : List α} (h : (((a.length : Nat) : Int) != ((b.length : Nat) : Int)) = true) : a ≠ b := by
  intro he; subst he; simp at h
theorem get_cast (xs : List α) {i : Nat} (h : i < xs.length) : xs[((i : Int)).toNat]? = some xs[i] := by
  rw [Int.toNat_natCast]; exact List.getElem?_eq_getElem h
end
structure szP (ok : Prop) (left r : Int) : Prop where
  lo : -1 ≤ r
  hi : r ≤ left
  ok : 0 ≤ r → ok
def bigN : Nat := 1048576
def markL (n k : Nat) : List Int := (List.range n).map fun (i : Nat) => ((k + i : Nat) : Int)
theorem markL_len (n k : Nat) : (markL n k).length = n := by simp [markL]
theorem markL_get (n k : Nat) {i : Nat} (h : i < (markL n k).length) : (markL n k)[i] = ((k + i : Nat) : Int) := by simp [markL]
def nT (t : Unit → Nat) : V := .c (.lf (.int .i64 fun _ => ((t () : Nat) : Int)))
def nR (t : Unit → Nat) : RSh := iR fun _ => ((t () : Nat) : Int)
theorem neg_no {n : Nat} (h : decide (((n : Nat) : Int) < 0) = true) : False := by
  have h := of_decide_eq_true h
  omega
theorem over_set {α : Type} {a b : List α} (hl : b.length = a.length) {i : Nat} (h : i < a.length) : (b.take i ++ a.drop i).set i (b[i]'(by omega)) = b.take (i + 1) ++ a.drop (i + 1) := by
  have hi : i < b.length := by omega
  rw [List.set_append_right _ _ (by rw [List.length_take]; omega), List.length_take, Nat.min_eq_left (by omega), Nat.sub_self, List.drop_eq_getElem_cons h, List.set_cons_zero, List.take_add_one, List.getElem?_eq_getElem hi]
  simp only [Option.toList_some, List.append_assoc, List.singleton_append]
theorem over_len {α : Type} {a b : List α} (hl : b.length = a.length) (i : Nat) : (b.take i ++ a.drop i).length = a.length := by
  simp; omega
theorem over_all {α : Type} {a b : List α} (hl : b.length = a.length) {i : Nat} (h : a.length ≤ i) : b.take i ++ a.drop i = b := by
  rw [List.take_of_length_le (by omega), List.drop_of_length_le h, List.append_nil]
end Go.Proofs.YtnenmkiabclncaaGreat
namespace Go.Proofs.YtnenmkiabclncaaGreat
open Go
set_option maxRecDepth 100000
theorem szIntS_ok (a : List Int) (left : Int) (h0 : 0 ≤ left) (hb : left ≤ 1048576) : Spec Tryz.prog 54 [lA .int a, iA left] (RetX Int (fun r => szP (a.length ≤ bigN) left r) fun r => iR fun _ => r) := by
  refine spec_of tabOk Tryz.func54 rfl rfl (fr := true) (fun _ => by kernel_rfl) fun P hP hA => ?_
  obtain ⟨⟨ha, _⟩, hl, _⟩ := hA
  have ha : a.length ≤ 9223372036854775807 := ha
  cbv
  refine Ar.exact ?_ ?_ ?_
  · show -9223372036854775808 ≤ left - (a.length : Int)
    omega
  · show left - (a.length : Int) ≤ 9223372036854775807
    omega
  cbv
  refine Br.dec (fun h => ?_) (fun h => ?_) <;> (cbv; repeat (refine Pz.mk ?_; cbv))
  · refine ⟨-1, ⟨by omega, by omega, by omega⟩, ?_⟩
    cbv; exact ⟨rfl, trivial⟩
  · have h : ¬ left - (a.length : Int) < 0 := h
    refine ⟨left - a.length, ⟨by omega, by omega, fun _ => ?_⟩, ?_⟩
    · show a.length ≤ 1048576
      omega
    · cbv; exact ⟨rfl, trivial⟩
theorem toIntS_ok (a : List Int) (hn : a.length ≤ bigN) : Spec Tryz.prog 61 [lA .int a] (Ret (lR .int fun _ => a)) := by
  refine spec_of tabOk Tryz.func61 rfl rfl (fr := true) (fun _ => by kernel_rfl) fun P hP hA => ?_
  have hn : a.length ≤ 1048576 := hn
  cbv
  refine ⟨?_, ?_⟩
  · show 0 ≤ (a.length : Int) ∧ (a.length : Int) ≤ a.length ∧ (a.length : Int) * 8 ≤ 140737488355328
    omega
  cbv
  refine LoopE.by (X := Nat) (fun i => [(0, lA .int a), (3, oN 0), (4, iT fun _ => i)]) (fun i => [(0, ownB' .int fun _ => a.take i ++ List.replicate (a.length - i) 0)]) (fun i => i ≤ a.length) (fun i _ => a.length - i) 0 (Nat.zero_le _) ?_ ?_
  · cbv
    refine ⟨rfl, rfl, ?_, trivial⟩
    show List.replicate ((a.length : Int)).toNat (0 : Int) = a.take 0 ++ List.replicate (a.length - 0) 0
    simp
  · intro i hi
    cbv
    refine Br.dec (fun h2 => ?_) (fun h2 => ?_) <;> (cbv; repeat (refine Pz.mk ?_; cbv))
    · have h2 : i < a.length := by simpa using h2
      refine ⟨a[i], by simp, get_cast a h2, ?_⟩
      cbv
      refine ⟨?_, ?_⟩
      · show 0 ≤ (i : Int) ∧ (i : Int) < ((a.take i ++ List.replicate (a.length - i) (0 : Int)).length : Int)
        rw [fill_len a 0 hi]; omega
      cbv
      refine Sv.keep ?_
      cbv
      refine Ar.exact ?_ ?_ ?_
      · show -9223372036854775808 ≤ (i : Int) + 1
        omega
      · show (i : Int) + 1 ≤ 9223372036854775807
        omega
      cbv
      refine NextE.by (i + 1) ?_ ?_ ?_
      · show a.length - (i + 1) < a.length - i
        omega
      · exact h2
      · cbv
        refine ⟨rfl, rfl, ?_, trivial⟩
        exact fill_set a 0 h2
    · have h2 : a.length ≤ i := by simp at h2; omega
      refine ⟨?_, trivial⟩
      show a.take i ++ List.replicate (a.length - i) 0 = a
      rw [show a.length - i = 0 by omega, List.take_of_length_le h2]
      simp
theorem eqIntS_ok (a b : List Int) : Spec Tryz.prog 26 [lA .int a, lA .int b] (Ret (bR fun _ => decide (a = b))) := by
  refine spec_of tabOk Tryz.func26 rfl rfl (fr := true) (fun _ => by kernel_rfl) fun P hP hA => ?_
  obtain ⟨⟨ha, _⟩, _⟩ := hA
  have ha : a.length ≤ 9223372036854775807 := ha
  cbv
  refine Br.split (fun h1 => ?_) (fun h1 => ?_) <;> (cbv; repeat (refine Pz.mk ?_; cbv))
  · refine ⟨?_, trivial⟩
    have := len_ne (a := a) (b := b) h1
    simp [this]
  have h1 := len_eq (a := a) (b := b) h1
  refine LoopE.by (X := Nat) (fun i => [(0, lA .int a), (1, lA .int b), (5, iT fun _ => i)]) (fun _ => []) (fun i => i ≤ a.length ∧ a.take i = b.take i) (fun i _ => a.length - i) 0 ⟨Nat.zero_le _, by simp⟩ ?_ ?_
  · cbv; exact ⟨rfl, rfl, rfl, trivial⟩
  · intro i ⟨hi, ht⟩
    cbv
    refine Br.dec (fun h2 => ?_) (fun h2 => ?_) <;> (cbv; repeat (refine Pz.mk ?_; cbv))
    · have h2 : i < a.length := by simpa using h2
      refine ⟨a[i], by simp, get_cast a h2, ?_⟩
      cbv
      refine ⟨b[i], by simp, get_cast b (h1 ▸ h2), ?_⟩
      cbv
      refine Br.split (fun h3 => ?_) (fun h3 => ?_) <;> (cbv; repeat (refine Pz.mk ?_; cbv))
      · refine ⟨?_, trivial⟩
        have := take_ne h2 (h1 ▸ h2) (by simpa using h3)
        simp [this]
      · refine Ar.exact ?_ ?_ ?_
        · show -9223372036854775808 ≤ (i : Int) + 1
          omega
        · show (i : Int) + 1 ≤ 9223372036854775807
          omega
        cbv
        refine NextE.by (i + 1) ?_ ?_ ?_
        · show a.length - (i + 1) < a.length - i
          omega
        · exact ⟨h2, take_step ht h2 (h1 ▸ h2) (by simpa using h3)⟩
        · cbv; exact ⟨rfl, rfl, rfl, trivial⟩
    · refine ⟨?_, trivial⟩
      have h2 : a.length ≤ i := by simp at h2; omega
      simp [take_all h1 h2 ht]
theorem markIntS_ok (a : List Int) (k : Nat) (hk : k + a.length ≤ 4611686018427387904) :
    SpecM Tryz.prog 27 [oN 0, nT fun _ => k] [(0, ownB' .int fun _ => a)] (RetM (nR fun _ => k + a.length) [(0, .own .int fun _ => markL a.length k)]) := by
  refine specM_of tabOk Tryz.func27 rfl rfl (fr := true) (fun _ => by kernel_rfl) rfl rfl fun P hP hA hB => ?_
  cbv
  refine LoopE.by (X := Nat) (fun i => [(0, oN 0), (1, nT fun _ => k + i), (5, nT fun _ => i)]) (fun i => [(0, ownB' .int fun _ => (markL a.length k).take i ++ a.drop i)]) (fun i => i ≤ a.length) (fun i _ => a.length - i) 0 (Nat.zero_le _) ?_ ?_
  · cbv
    refine ⟨rfl, rfl, ?_, trivial⟩
    show a = (markL a.length k).take 0 ++ a.drop 0
    simp
  · intro i hi
    have hlen : ((markL a.length k).take i ++ a.drop i).length = a.length := over_len (markL_len _ _) i
    cbv
    refine Br.dec (fun h2 => ?_) (fun h2 => ?_) <;> (cbv; repeat (refine Pz.mk ?_; cbv))
    · have h2 : (i : Int) < (((markL a.length k).take i ++ a.drop i).length : Int) := h2
      rw [hlen] at h2
      have h2 : i < a.length := by omega
      refine ⟨?_, ?_⟩
      · show 0 ≤ (i : Int) ∧ (i : Int) < (((markL a.length k).take i ++ a.drop i).length : Int)
        rw [hlen]; omega
      cbv
      refine Sv.keep ?_
      cbv
      refine Ar.exact ?_ ?_ ?_
      · show -9223372036854775808 ≤ ((k + i : Nat) : Int) + 1
        omega
      · show ((k + i : Nat) : Int) + 1 ≤ 9223372036854775807
        omega
      cbv
      refine Ar.exact ?_ ?_ ?_
      · show -9223372036854775808 ≤ (i : Int) + 1
        omega
      · show (i : Int) + 1 ≤ 9223372036854775807
        omega
      cbv
      refine NextE.by (i + 1) ?_ ?_ ?_
      · show a.length - (i + 1) < a.length - i
        omega
      · exact h2
      · cbv
        refine ⟨rfl, rfl, ?_, trivial⟩
        have := over_set (b := markL a.length k) (markL_len _ _) h2
        rw [markL_get] at this
        exact this
    · have h2 : ¬ (i : Int) < (((markL a.length k).take i ++ a.drop i).length : Int) := h2
      rw [hlen] at h2
      have h2 : a.length ≤ i := by omega
      refine ⟨?_, ?_, trivial⟩
      · exact over_all (markL_len _ _) h2
      · show ((k + i : Nat) : Int) = ((k + a.length : Nat) : Int)
        omega
theorem heldIntS_ok (n k : Nat) (hk : k + n ≤ 4611686018427387904) : Spec Tryz.prog 28 [lT .int fun _ => markL n k, nT fun _ => k] (Ret (nR fun _ => k + n)) := by
  refine spec_of tabOk Tryz.func28 rfl rfl (fr := true) (fun _ => by kernel_rfl) fun P hP hA => ?_
  cbv
  refine LoopE.by (X := Nat) (fun i => [(0, lT .int fun _ => markL n k), (1, nT fun _ => k + i), (5, nT fun _ => i)]) (fun _ => []) (fun i => i ≤ n) (fun i _ => n - i) 0 (Nat.zero_le _) ?_ ?_
  · cbv
    exact ⟨rfl, rfl, rfl, trivial⟩
  · intro i hi
    cbv
    refine Br.dec (fun h2 => ?_) (fun h2 => ?_) <;> (cbv; repeat (refine Pz.mk ?_; cbv))
    · have h2 : (i : Int) < ((markL n k).length : Int) := h2
      rw [markL_len] at h2
      have h2 : i < n := by omega
      refine ⟨((k + i : Nat) : Int), by simp, ?_, ?_⟩
      · show (markL n k)[((i : Int)).toNat]? = _
        rw [get_cast _ (by rw [markL_len]; exact h2), markL_get]
      cbv
      refine Br.split (fun h3 => ?_) (fun h3 => ?_) <;> (cbv; repeat (refine Pz.mk ?_; cbv))
      · exfalso
        have h3 : (((k + i : Nat) : Int) != ((k + i : Nat) : Int)) = true := h3
        simp at h3
      refine Ar.exact ?_ ?_ ?_
      · show -9223372036854775808 ≤ ((k + i : Nat) : Int) + 1
        omega
      · show ((k + i : Nat) : Int) + 1 ≤ 9223372036854775807
        omega
      cbv
      refine Ar.exact ?_ ?_ ?_
      · show -9223372036854775808 ≤ (i : Int) + 1
        omega
      · show (i : Int) + 1 ≤ 9223372036854775807
        omega
      cbv
      refine NextE.by (i + 1) ?_ ?_ ?_
      · show n - (i + 1) < n - i
        omega
      · exact h2
      · cbv
        exact ⟨rfl, rfl, rfl, trivial⟩
    · have h2 : ¬ (i : Int) < ((markL n k).length : Int) := h2
      rw [markL_len] at h2
      refine ⟨?_, trivial⟩
      show ((k + i : Nat) : Int) = ((k + n : Nat) : Int)
      omega
end Go.Proofs.YtnenmkiabclncaaGreat
namespace Go.Proofs.YtnenmkiabclncaaGreat
open Go
set_option maxRecDepth 100000
theorem within_ok (n lo hi : Int) : Spec Tryz.prog 63 [iA n, iA lo, iA hi] (Ret (bR fun _ => (decide (lo ≤ n) && decide (n ≤ hi)))) := by
  refine spec_of tabOk Tryz.func63 rfl rfl (fr := true) (fun _ => by kernel_rfl) fun P hP hA => ?_
  cbv
  refine Br.dec (fun h1 => ?_) (fun h1 => ?_) <;> (cbv; repeat (refine Pz.mk ?_; cbv))
  · refine ⟨?_, trivial⟩
    simp [h1]
  · refine ⟨?_, trivial⟩
    simp [h1]
theorem l1In_ok (n lo hi : Int) : Spec Tryz.prog 56 [iA n, iA lo, iA hi] (Ret (bR fun _ => (decide (lo ≤ n) && decide (n ≤ hi)))) := by
  refine spec_of tabOk Tryz.func56 rfl rfl (fr := true) (fun _ => by kernel_rfl) fun P hP hA => ?_
  cbv
  refine Br.dec (fun h1 => ?_) (fun h1 => ?_) <;> (cbv; repeat (refine Pz.mk ?_; cbv))
  · refine ⟨?_, trivial⟩
    simp [h1]
  · refine ⟨?_, trivial⟩
    simp [h1]
theorem isIndex_ok (n sz : Int) (h0 : 0 ≤ sz) (h1 : sz ≤ 9223372036854775807) : Spec Tryz.prog 82 [iA n, iA sz] (Ret (bR fun _ => (decide (0 ≤ n) && decide (n < sz)))) := by
  refine spec_of tabOk Tryz.func82 rfl rfl (fr := true) (fun _ => by kernel_rfl) fun P hP hA => ?_
  cbv
  refine Ar.exact ?_ ?_ ?_
  · show -9223372036854775808 ≤ sz - 1
    omega
  · show sz - 1 ≤ _
    omega
  cbv
  refine CallA.by hP (within_ok _ _ _) ?_
  cbv
  repeat (refine Pz.mk ?_; cbv)
  refine ⟨?_, trivial⟩
  rw [Bool.eq_iff_iff]; simp only [Bool.and_eq_true, decide_eq_true_eq]; omega
def isIn (n lo hi : Int) : Bool := decide (lo ≤ n) && decide (n ≤ hi)
theorem isIn_ok {n lo hi : Int} (h : isIn n lo hi = true) : lo ≤ n ∧ n ≤ hi := by simpa [isIn] using h
theorem withinB_ok (n lo hi : Int) : Spec Tryz.prog 63 [iA n, iA lo, iA hi] (Ret (bR fun _ => isIn n lo hi)) := within_ok n lo hi
theorem l1InB_ok (n lo hi : Int) : Spec Tryz.prog 56 [iA n, iA lo, iA hi] (Ret (bR fun _ => isIn n lo hi)) := l1In_ok n lo hi
end Go.Proofs.YtnenmkiabclncaaGreat
namespace Go.Proofs.YtnenmkiabclncaaGreat
open Go
set_option maxRecDepth 100000
def field (n : Int) : Bool := decide (0 ≤ n) && decide (n ≤ 9999)
theorem l12Field_ok (n : Int) : Spec Tryz.prog 142 [iA n] (Ret (bR fun _ => field n)) := by
  refine spec_of tabOk Tryz.func142 rfl rfl (fr := true) (fun _ => by kernel_rfl) fun P hP hA => ?_
  cbv
  refine CallA.by hP (l1In_ok _ _ _) ?_
  cbv
  repeat (refine Pz.mk ?_; cbv)
  exact ⟨rfl, trivial⟩
theorem used_ok (n : Int) : Spec Tryz.prog 145 [iA n] (Ret (bR fun _ => field n)) := by
  refine spec_of tabOk Tryz.func145 rfl rfl (fr := true) (fun _ => by kernel_rfl) fun P hP hA => ?_
  cbv
  refine CallA.by hP (within_ok _ _ _) ?_
  cbv
  repeat (refine Pz.mk ?_; cbv)
  exact ⟨rfl, trivial⟩
def reqOk (q : Req) : Bool :=
  if q.kind = 1 then field q.id && field q.cab && (decide (-1 ≤ q.frm) && decide (q.frm ≤ 9999)) && field q.siz && field q.tier
  else if q.kind = 2 ∨ q.kind = 4 ∨ q.kind = 5 ∨ q.kind = 7 then field q.id && (q.cab == 0 && (q.frm == 0 && (q.siz == 0 && q.tier == 0)))
  else if q.kind = 3 then field q.cab && field q.siz && (q.id == 0 && (q.frm == 0 && q.tier == 0))
  else if q.kind = 6 then q.id == 0 && (q.cab == 0 && (q.frm == 0 && (q.siz == 0 && q.tier == 0)))
  else false
theorem specReqOk_ok (q : Req) (b : Bool) (hb : b = reqOk q) : Spec Tryz.prog 76 [eA .req q] (Ret (bR fun _ => b)) := by
  refine spec_of tabOk Tryz.func76 rfl rfl (fr := true) (fun _ => by kernel_rfl) fun P hP hA => ?_
  subst hb
  cbv
  repeat' first
    | (refine CallA.by hP (l12Field_ok _) ?_; cbv)
    | (refine CallA.by hP (l1In_ok _ _ _) ?_; cbv)
    | (refine Br.split (fun h => ?_) (fun h => ?_) <;> cbv)
  all_goals refine ⟨?_, trivial⟩
  all_goals first
    | (simp_all [reqOk]; done)
    | (simp_all [reqOk]; intro a b; have := h a; omega)
theorem implReqOk_ok (q : Req) (b : Bool) (hb : b = reqOk q) : Spec Tryz.prog 81 [eA .req q] (Ret (bR fun _ => b)) := by
  refine spec_of tabOk Tryz.func81 rfl rfl (fr := true) (fun _ => by kernel_rfl) fun P hP hA => ?_
  subst hb
  cbv
  repeat' first
    | (refine CallA.by hP (used_ok _) ?_; cbv)
    | (refine CallA.by hP (within_ok _ _ _) ?_; cbv)
    | (refine Br.split (fun h => ?_) (fun h => ?_) <;> cbv)
  all_goals refine ⟨?_, trivial⟩
  all_goals first
    | (simp_all [reqOk]; done)
    | (simp_all [reqOk]; intro a b; have := h a; omega)
end Go.Proofs.YtnenmkiabclncaaGreat

