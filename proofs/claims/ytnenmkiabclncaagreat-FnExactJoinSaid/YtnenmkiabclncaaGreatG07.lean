/- Parts of a proof. No conditions. -/

import Derived.Test.YtnenmkiabclncaaGreatG06
set_option linter.unusedSimpArgs false
set_option linter.unusedVariables false
namespace Go.Proofs.YtnenmkiabclncaaGreat
open Go
set_option maxRecDepth 100000
def mkAll {α : Type} (m : α → Nat → α) (z : α → Nat) : List α → Nat → List α
  | [], _ => []
  | x :: xs, k => m x k :: mkAll m z xs (k + z x)
def zAll {α : Type} (z : α → Nat) : List α → Nat
  | [] => 0
  | x :: xs => z x + zAll z xs
section
variable {α : Type} (m : α → Nat → α) (z : α → Nat)
theorem mkAll_len : ∀ (a : List α) (k : Nat), (mkAll m z a k).length = a.length
  | [], _ => rfl
  | x :: xs, k => by simp [mkAll, mkAll_len xs]
theorem zAll_app : ∀ (a b : List α), zAll z (a ++ b) = zAll z a + zAll z b
  | [], b => by simp [zAll]
  | x :: xs, b => by simp [zAll, zAll_app xs b, Nat.add_assoc]
theorem mkAll_app : ∀ (a b : List α) (k : Nat), mkAll m z (a ++ b) k = mkAll m z a k ++ mkAll m z b (k + zAll z a)
  | [], _, _ => rfl
  | x :: xs, b, k => by simp [mkAll, zAll, mkAll_app xs b, Nat.add_assoc]
theorem take_one {a : List α} {i : Nat} (h : i < a.length) : a.take (i + 1) = a.take i ++ [a[i]] := by
  rw [List.take_add_one, List.getElem?_eq_getElem h]; rfl
theorem zAll_step {a : List α} {i : Nat} (h : i < a.length) : zAll z (a.take (i + 1)) = zAll z (a.take i) + z a[i] := by
  rw [take_one h, zAll_app]; simp [zAll]
theorem zAll_lt {a : List α} {i : Nat} (h : i < a.length) : zAll z (a.take i) + z a[i] ≤ zAll z a := by
  rw [← zAll_step z h]
  conv => rhs; rw [← List.take_append_drop (i + 1) a, zAll_app]
  omega
theorem zAll_bound (c : Nat) : ∀ (a : List α), (∀ x ∈ a, z x ≤ c) → zAll z a ≤ a.length * c
  | [], _ => by simp [zAll]
  | x :: xs, h => by
    have h1 := zAll_bound c xs fun y hy => h y (List.mem_cons_of_mem _ hy)
    have h2 := h x List.mem_cons_self
    simp only [zAll, List.length_cons, Nat.add_mul]
    omega
theorem zAll_le (c n : Nat) (a : List α) (h : ∀ x ∈ a, z x ≤ c) (hn : a.length ≤ n) : zAll z a ≤ n * c :=
  Nat.le_trans (zAll_bound z c a h) (Nat.mul_le_mul_right c hn)
theorem zAll_ge : ∀ (a : List α), (∀ x, 1 ≤ z x) → a.length ≤ zAll z a
  | [], _ => by simp
  | x :: xs, h => by
    have h1 := zAll_ge xs h
    have h2 := h x
    simp only [zAll, List.length_cons]
    omega
theorem mid_len (a : List α) (i k : Nat) : (mkAll m z (a.take i) k ++ a.drop i).length = a.length := by
  rw [List.length_append, mkAll_len, List.length_take, List.length_drop]; omega
theorem mid_eq {a : List α} {i : Nat} (k : Nat) (h : i < a.length) : mkAll m z (a.take i) k ++ a.drop i = mkAll m z (a.take i) k ++ a[i] :: a.drop (i + 1) := by
  rw [List.drop_eq_getElem_cons h]
theorem mid_end {a : List α} {i : Nat} (k : Nat) (h : i < a.length) : mkAll m z (a.take i) k ++ m a[i] (k + zAll z (a.take i)) :: a.drop (i + 1) = mkAll m z (a.take (i + 1)) k ++ a.drop (i + 1) := by
  rw [take_one h, mkAll_app]; simp [mkAll]
theorem mid_all {a : List α} {i : Nat} (k : Nat) (h : a.length ≤ i) : mkAll m z (a.take i) k ++ a.drop i = mkAll m z a k := by
  rw [List.take_of_length_le h, List.drop_of_length_le h, List.append_nil]
theorem mid_lt {a : List α} {i : Nat} (k : Nat) (h : i < a.length) : (mkAll m z (a.take i) k).length = i := by
  rw [mkAll_len, List.length_take]; omega
theorem len_mid {M R : List α} {x : α} {i n : Nat} (hM : M.length = i) (hR : R.length = n - (i + 1)) (h : i < n) : (M ++ x :: R).length = n := by
  rw [List.length_append, List.length_cons, hM, hR]; omega
theorem get_mid {M R : List α} {x d : α} {i : Nat} (hM : M.length = i) : (M ++ x :: R).getD ((i : Int)).toNat d = x := by
  rw [Int.toNat_natCast, List.getD_eq_getElem?_getD, List.getElem?_append_right (by omega), hM, Nat.sub_self]; rfl
theorem set_mid {M R : List α} {x y : α} {i : Nat} (hM : M.length = i) : (M ++ x :: R).set ((i : Int)).toNat y = M ++ y :: R := by
  rw [Int.toNat_natCast, List.set_append_right _ _ (by omega), hM, Nat.sub_self]; rfl
theorem set_fld (f : α → α) {L M R : List α} {x d : α} {i : Nat} (hM : M.length = i) (hL : L = M ++ x :: R) : L.set ((i : Int)).toNat (f (L.getD ((i : Int)).toNat d)) = M ++ f x :: R := by
  subst hL; rw [get_mid hM, set_mid hM]
theorem getD_fld {L M R : List α} {x d : α} {i : Nat} (hM : M.length = i) (hL : L = M ++ x :: R) : L.getD ((i : Int)).toNat d = x := by
  subst hL; rw [get_mid hM]
theorem mkAll_get : ∀ {a : List α} {i : Nat} (k : Nat) (h : i < a.length), (mkAll m z a k)[i]? = some (m a[i] (k + zAll z (a.take i)))
  | x :: xs, 0, k, _ => by simp [mkAll, zAll]
  | x :: xs, i + 1, k, h => by
    have h : i < xs.length := by simpa using h
    simp only [mkAll, List.getElem?_cons_succ, List.getElem_cons_succ, List.take_succ_cons, zAll]
    rw [mkAll_get (k + z x) h, Nat.add_assoc]
end
theorem bne_no {x : Int} (h : (x != x) = true) : False := by simp at h
def mPin (_ : Pin) (k : Nat) : Pin := ⟨(k : Int), (k : Int) + 1⟩
def zPin (_ : Pin) : Nat := 2
def mEnt (_ : Entry) (k : Nat) : Entry := ⟨(k : Int), (k : Int) + 1, (k : Int) + 1 + 1, (k : Int) + 1 + 1 + 1⟩
def zEnt (_ : Entry) : Nat := 4
def mPty (_ : Party) (k : Nat) : Party := ⟨(k : Int), (k : Int) + 1, (k : Int) + 1 + 1, (k : Int) + 1 + 1 + 1, (k : Int) + 1 + 1 + 1 + 1, (k : Int) + 1 + 1 + 1 + 1 + 1, (k : Int) + 1 + 1 + 1 + 1 + 1 + 1, (k : Int) + 1 + 1 + 1 + 1 + 1 + 1 + 1, (k : Int) + 1 + 1 + 1 + 1 + 1 + 1 + 1 + 1, (k : Int) + 1 + 1 + 1 + 1 + 1 + 1 + 1 + 1 + 1⟩
def zPty (_ : Party) : Nat := 10
def mPinS (x : List Pin) (k : Nat) : List Pin := mkAll mPin zPin x k
def zPinS (x : List Pin) : Nat := zAll zPin x
def mCab (x : Cabin) (k : Nat) : Cabin := ⟨⟨(k : Int), (k : Int) + 1, (k : Int) + 1 + 1, (k : Int) + 1 + 1 + 1, (k : Int) + 1 + 1 + 1 + 1⟩, mkAll mEnt zEnt x.row (k + 5), mkAll mPinS zPinS x.spoke (k + 5 + zAll zEnt x.row)⟩
def zCab (x : Cabin) : Nat := 5 + zAll zEnt x.row + zAll zPinS x.spoke
theorem markPinS_ok (a : List Pin) (k : Nat) (hk : k + zAll zPin a ≤ 4611686018427387904) :
    SpecM Tryz.prog 221 [oN 0, nT fun _ => k] [(0, ownB' .pin fun _ => a)] (RetM (nR fun _ => k + zAll zPin a) [(0, .own .pin fun _ => mkAll mPin zPin a k)]) := by
  refine specM_of tabOk Tryz.func221 rfl rfl (fr := true) (fun _ => by kernel_rfl) rfl rfl fun P hP hA hB => ?_
  cbv
  refine LoopE.by (X := Nat) (fun i => [(0, oN 0), (1, nT fun _ => k + zAll zPin (a.take i)), (5, nT fun _ => i)]) (fun i => [(0, ownB' .pin fun _ => mkAll mPin zPin (a.take i) k ++ a.drop i)]) (fun i => i ≤ a.length) (fun i _ => a.length - i) 0 (Nat.zero_le _) ?_ ?_
  · cbv
    exact ⟨rfl, rfl, rfl, trivial⟩
  · intro i hi
    have hlen : (mkAll mPin zPin (a.take i) k ++ a.drop i).length = a.length := mid_len mPin zPin a i k
    cbv
    refine Br.dec (fun h2 => ?_) (fun h2 => ?_) <;> (cbv; repeat (refine Pz.mk ?_; cbv))
    · have h2 : (i : Int) < ((mkAll mPin zPin (a.take i) k ++ a.drop i).length : Int) := h2
      rw [hlen] at h2
      have h2 : i < a.length := by omega
      have hM : (mkAll mPin zPin (a.take i) k).length = i := mid_lt mPin zPin k h2
      have hR : (a.drop (i + 1)).length = a.length - (i + 1) := by simp
      have hz : k + zAll zPin (a.take i) + 2 ≤ 4611686018427387904 := by
        have := zAll_lt zPin h2
        have : zAll zPin (a.take i) + 2 ≤ zAll zPin a := this
        omega
      have hge : a.length ≤ zAll zPin a := zAll_ge zPin a fun _ => by show 1 ≤ 2; omega
      refine ⟨?_, ?_⟩
      · show 0 ≤ (i : Int) ∧ (i : Int) < ((mkAll mPin zPin (a.take i) k ++ a.drop i).length : Int)
        rw [hlen]; omega
      cbv
      refine Sv.mk (fun _ => mkAll mPin zPin (a.take i) k ++ (⟨((k + zAll zPin (a.take i) : Nat) : Int), a[i].pid⟩ : Pin) :: a.drop (i + 1)) ?_ ?_
      · exact set_fld (fun y => ⟨((k + zAll zPin (a.take i) : Nat) : Int), y.pid⟩) hM (mid_eq mPin zPin k h2)
      cbv
      refine Ar.exact ?_ ?_ ?_
      · show -9223372036854775808 ≤ (((k + zAll zPin (a.take i) : Nat) : Int)) + 1
        omega
      · show (((k + zAll zPin (a.take i) : Nat) : Int)) + 1 ≤ 9223372036854775807
        omega
      cbv
      refine ⟨?_, ?_⟩
      · show 0 ≤ (i : Int) ∧ (i : Int) < ((mkAll mPin zPin (a.take i) k ++ (⟨((k + zAll zPin (a.take i) : Nat) : Int), a[i].pid⟩ : Pin) :: a.drop (i + 1)).length : Int)
        rw [len_mid hM hR h2]; omega
      cbv
      refine Sv.mk (fun _ => mkAll mPin zPin (a.take i) k ++ (⟨((k + zAll zPin (a.take i) : Nat) : Int), ((k + zAll zPin (a.take i) : Nat) : Int) + 1⟩ : Pin) :: a.drop (i + 1)) ?_ ?_
      · exact set_fld (fun y => ⟨y.tm, ((k + zAll zPin (a.take i) : Nat) : Int) + 1⟩) hM rfl
      cbv
      refine Ar.exact ?_ ?_ ?_
      · show -9223372036854775808 ≤ (((k + zAll zPin (a.take i) : Nat) : Int) + 1) + 1
        omega
      · show (((k + zAll zPin (a.take i) : Nat) : Int) + 1) + 1 ≤ 9223372036854775807
        omega
      cbv
      refine Ar.exact ?_ ?_ ?_
      · show -9223372036854775808 ≤ (i : Int) + 1
        omega
      · show (i : Int) + 1 ≤ 9223372036854775807
        omega
      cbv
      refine NextE.by (i + 1) ?_ ?_ ?_
      · show a.length - (i + 1) < a.length - i
        omega
      · exact h2
      · cbv
        refine ⟨?_, rfl, ?_, trivial⟩
        · show ((k + zAll zPin (a.take i) : Nat) : Int) + 1 + 1 = ((k + zAll zPin (a.take (i + 1)) : Nat) : Int)
          rw [zAll_step zPin h2, show zPin a[i] = 2 from rfl]
          omega
        · exact mid_end mPin zPin k h2
    · have h2 : ¬ (i : Int) < ((mkAll mPin zPin (a.take i) k ++ a.drop i).length : Int) := h2
      rw [hlen] at h2
      have h2 : a.length ≤ i := by omega
      refine ⟨?_, ?_, trivial⟩
      · exact mid_all mPin zPin k h2
      · show ((k + zAll zPin (a.take i) : Nat) : Int) = ((k + zAll zPin a : Nat) : Int)
        rw [List.take_of_length_le h2]
theorem heldPinS_ok (a : List Pin) (k : Nat) (hk : k + zAll zPin a ≤ 4611686018427387904) : Spec Tryz.prog 224 [lT .pin fun _ => mkAll mPin zPin a k, nT fun _ => k] (Ret (nR fun _ => k + zAll zPin a)) := by
  refine spec_of tabOk Tryz.func224 rfl rfl (fr := true) (fun _ => by kernel_rfl) fun P hP hA => ?_
  cbv
  refine LoopE.by (X := Nat) (fun i => [(0, lT .pin fun _ => mkAll mPin zPin a k), (1, nT fun _ => k + zAll zPin (a.take i)), (5, nT fun _ => i)]) (fun _ => []) (fun i => i ≤ a.length) (fun i _ => a.length - i) 0 (Nat.zero_le _) ?_ ?_
  · cbv
    exact ⟨rfl, rfl, rfl, trivial⟩
  · intro i hi
    cbv
    refine Br.dec (fun h2 => ?_) (fun h2 => ?_) <;> (cbv; repeat (refine Pz.mk ?_; cbv))
    · have h2 : (i : Int) < ((mkAll mPin zPin a k).length : Int) := h2
      rw [mkAll_len] at h2
      have h2 : i < a.length := by omega
      have hz : k + zAll zPin (a.take i) + 2 ≤ 4611686018427387904 := by
        have := zAll_lt zPin h2
        have : zAll zPin (a.take i) + 2 ≤ zAll zPin a := this
        omega
      have hge : a.length ≤ zAll zPin a := zAll_ge zPin a fun _ => by show 1 ≤ 2; omega
      have hg : (mkAll mPin zPin a k)[((i : Int)).toNat]? = some (mPin a[i] (k + zAll zPin (a.take i))) := by
        rw [Int.toNat_natCast, mkAll_get mPin zPin k h2]
      refine ⟨mPin a[i] (k + zAll zPin (a.take i)), by simp, hg, ?_⟩
      cbv
      refine Br.split (fun g0 => ?_) (fun g0 => ?_) <;> (cbv; repeat (refine Pz.mk ?_; cbv))
      · exact (bne_no g0).elim
      refine Ar.exact ?_ ?_ ?_
      · show -9223372036854775808 ≤ (((k + zAll zPin (a.take i) : Nat) : Int)) + 1
        omega
      · show (((k + zAll zPin (a.take i) : Nat) : Int)) + 1 ≤ 9223372036854775807
        omega
      cbv
      refine ⟨mPin a[i] (k + zAll zPin (a.take i)), by simp, hg, ?_⟩
      cbv
      refine Br.split (fun g1 => ?_) (fun g1 => ?_) <;> (cbv; repeat (refine Pz.mk ?_; cbv))
      · exact (bne_no g1).elim
      refine Ar.exact ?_ ?_ ?_
      · show -9223372036854775808 ≤ (((k + zAll zPin (a.take i) : Nat) : Int) + 1) + 1
        omega
      · show (((k + zAll zPin (a.take i) : Nat) : Int) + 1) + 1 ≤ 9223372036854775807
        omega
      cbv
      refine Ar.exact ?_ ?_ ?_
      · show -9223372036854775808 ≤ (i : Int) + 1
        omega
      · show (i : Int) + 1 ≤ 9223372036854775807
        omega
      cbv
      refine NextE.by (i + 1) ?_ ?_ ?_
      · show a.length - (i + 1) < a.length - i
        omega
      · exact h2
      · cbv
        refine ⟨rfl, ?_, rfl, trivial⟩
        show ((k + zAll zPin (a.take i) : Nat) : Int) + 1 + 1 = ((k + zAll zPin (a.take (i + 1)) : Nat) : Int)
        rw [zAll_step zPin h2, show zPin a[i] = 2 from rfl]
        omega
    · have h2 : ¬ (i : Int) < ((mkAll mPin zPin a k).length : Int) := h2
      rw [mkAll_len] at h2
      have h2 : a.length ≤ i := by omega
      refine ⟨?_, trivial⟩
      show ((k + zAll zPin (a.take i) : Nat) : Int) = ((k + zAll zPin a : Nat) : Int)
      rw [List.take_of_length_le h2]
theorem markEntryS_ok (a : List Entry) (k : Nat) (hk : k + zAll zEnt a ≤ 4611686018427387904) :
    SpecM Tryz.prog 22 [oN 0, nT fun _ => k] [(0, ownB' .ent fun _ => a)] (RetM (nR fun _ => k + zAll zEnt a) [(0, .own .ent fun _ => mkAll mEnt zEnt a k)]) := by
  refine specM_of tabOk Tryz.func22 rfl rfl (fr := true) (fun _ => by kernel_rfl) rfl rfl fun P hP hA hB => ?_
  cbv
  refine LoopE.by (X := Nat) (fun i => [(0, oN 0), (1, nT fun _ => k + zAll zEnt (a.take i)), (5, nT fun _ => i)]) (fun i => [(0, ownB' .ent fun _ => mkAll mEnt zEnt (a.take i) k ++ a.drop i)]) (fun i => i ≤ a.length) (fun i _ => a.length - i) 0 (Nat.zero_le _) ?_ ?_
  · cbv
    exact ⟨rfl, rfl, rfl, trivial⟩
  · intro i hi
    have hlen : (mkAll mEnt zEnt (a.take i) k ++ a.drop i).length = a.length := mid_len mEnt zEnt a i k
    cbv
    refine Br.dec (fun h2 => ?_) (fun h2 => ?_) <;> (cbv; repeat (refine Pz.mk ?_; cbv))
    · have h2 : (i : Int) < ((mkAll mEnt zEnt (a.take i) k ++ a.drop i).length : Int) := h2
      rw [hlen] at h2
      have h2 : i < a.length := by omega
      have hM : (mkAll mEnt zEnt (a.take i) k).length = i := mid_lt mEnt zEnt k h2
      have hR : (a.drop (i + 1)).length = a.length - (i + 1) := by simp
      have hz : k + zAll zEnt (a.take i) + 4 ≤ 4611686018427387904 := by
        have := zAll_lt zEnt h2
        have : zAll zEnt (a.take i) + 4 ≤ zAll zEnt a := this
        omega
      have hge : a.length ≤ zAll zEnt a := zAll_ge zEnt a fun _ => by show 1 ≤ 4; omega
      refine ⟨?_, ?_⟩
      · show 0 ≤ (i : Int) ∧ (i : Int) < ((mkAll mEnt zEnt (a.take i) k ++ a.drop i).length : Int)
        rw [hlen]; omega
      cbv
      refine Sv.mk (fun _ => mkAll mEnt zEnt (a.take i) k ++ (⟨((k + zAll zEnt (a.take i) : Nat) : Int), a[i].turn, a[i].eid, a[i].siz⟩ : Entry) :: a.drop (i + 1)) ?_ ?_
      · exact set_fld (fun y => ⟨((k + zAll zEnt (a.take i) : Nat) : Int), y.turn, y.eid, y.siz⟩) hM (mid_eq mEnt zEnt k h2)
      cbv
      refine Ar.exact ?_ ?_ ?_
      · show -9223372036854775808 ≤ (((k + zAll zEnt (a.take i) : Nat) : Int)) + 1
        omega
      · show (((k + zAll zEnt (a.take i) : Nat) : Int)) + 1 ≤ 9223372036854775807
        omega
      cbv
      refine ⟨?_, ?_⟩
      · show 0 ≤ (i : Int) ∧ (i : Int) < ((mkAll mEnt zEnt (a.take i) k ++ (⟨((k + zAll zEnt (a.take i) : Nat) : Int), a[i].turn, a[i].eid, a[i].siz⟩ : Entry) :: a.drop (i + 1)).length : Int)
        rw [len_mid hM hR h2]; omega
      cbv
      refine Sv.mk (fun _ => mkAll mEnt zEnt (a.take i) k ++ (⟨((k + zAll zEnt (a.take i) : Nat) : Int), ((k + zAll zEnt (a.take i) : Nat) : Int) + 1, a[i].eid, a[i].siz⟩ : Entry) :: a.drop (i + 1)) ?_ ?_
      · exact set_fld (fun y => ⟨y.lvl, ((k + zAll zEnt (a.take i) : Nat) : Int) + 1, y.eid, y.siz⟩) hM rfl
      cbv
      refine Ar.exact ?_ ?_ ?_
      · show -9223372036854775808 ≤ (((k + zAll zEnt (a.take i) : Nat) : Int) + 1) + 1
        omega
      · show (((k + zAll zEnt (a.take i) : Nat) : Int) + 1) + 1 ≤ 9223372036854775807
        omega
      cbv
      refine ⟨?_, ?_⟩
      · show 0 ≤ (i : Int) ∧ (i : Int) < ((mkAll mEnt zEnt (a.take i) k ++ (⟨((k + zAll zEnt (a.take i) : Nat) : Int), ((k + zAll zEnt (a.take i) : Nat) : Int) + 1, a[i].eid, a[i].siz⟩ : Entry) :: a.drop (i + 1)).length : Int)
        rw [len_mid hM hR h2]; omega
      cbv
      refine Sv.mk (fun _ => mkAll mEnt zEnt (a.take i) k ++ (⟨((k + zAll zEnt (a.take i) : Nat) : Int), ((k + zAll zEnt (a.take i) : Nat) : Int) + 1, ((k + zAll zEnt (a.take i) : Nat) : Int) + 1 + 1, a[i].siz⟩ : Entry) :: a.drop (i + 1)) ?_ ?_
      · exact set_fld (fun y => ⟨y.lvl, y.turn, ((k + zAll zEnt (a.take i) : Nat) : Int) + 1 + 1, y.siz⟩) hM rfl
      cbv
      refine Ar.exact ?_ ?_ ?_
      · show -9223372036854775808 ≤ (((k + zAll zEnt (a.take i) : Nat) : Int) + 1 + 1) + 1
        omega
      · show (((k + zAll zEnt (a.take i) : Nat) : Int) + 1 + 1) + 1 ≤ 9223372036854775807
        omega
      cbv
      refine ⟨?_, ?_⟩
      · show 0 ≤ (i : Int) ∧ (i : Int) < ((mkAll mEnt zEnt (a.take i) k ++ (⟨((k + zAll zEnt (a.take i) : Nat) : Int), ((k + zAll zEnt (a.take i) : Nat) : Int) + 1, ((k + zAll zEnt (a.take i) : Nat) : Int) + 1 + 1, a[i].siz⟩ : Entry) :: a.drop (i + 1)).length : Int)
        rw [len_mid hM hR h2]; omega
      cbv
      refine Sv.mk (fun _ => mkAll mEnt zEnt (a.take i) k ++ (⟨((k + zAll zEnt (a.take i) : Nat) : Int), ((k + zAll zEnt (a.take i) : Nat) : Int) + 1, ((k + zAll zEnt (a.take i) : Nat) : Int) + 1 + 1, ((k + zAll zEnt (a.take i) : Nat) : Int) + 1 + 1 + 1⟩ : Entry) :: a.drop (i + 1)) ?_ ?_
      · exact set_fld (fun y => ⟨y.lvl, y.turn, y.eid, ((k + zAll zEnt (a.take i) : Nat) : Int) + 1 + 1 + 1⟩) hM rfl
      cbv
      refine Ar.exact ?_ ?_ ?_
      · show -9223372036854775808 ≤ (((k + zAll zEnt (a.take i) : Nat) : Int) + 1 + 1 + 1) + 1
        omega
      · show (((k + zAll zEnt (a.take i) : Nat) : Int) + 1 + 1 + 1) + 1 ≤ 9223372036854775807
        omega
      cbv
      refine Ar.exact ?_ ?_ ?_
      · show -9223372036854775808 ≤ (i : Int) + 1
        omega
      · show (i : Int) + 1 ≤ 9223372036854775807
        omega
      cbv
      refine NextE.by (i + 1) ?_ ?_ ?_
      · show a.length - (i + 1) < a.length - i
        omega
      · exact h2
      · cbv
        refine ⟨?_, rfl, ?_, trivial⟩
        · show ((k + zAll zEnt (a.take i) : Nat) : Int) + 1 + 1 + 1 + 1 = ((k + zAll zEnt (a.take (i + 1)) : Nat) : Int)
          rw [zAll_step zEnt h2, show zEnt a[i] = 4 from rfl]
          omega
        · exact mid_end mEnt zEnt k h2
    · have h2 : ¬ (i : Int) < ((mkAll mEnt zEnt (a.take i) k ++ a.drop i).length : Int) := h2
      rw [hlen] at h2
      have h2 : a.length ≤ i := by omega
      refine ⟨?_, ?_, trivial⟩
      · exact mid_all mEnt zEnt k h2
      · show ((k + zAll zEnt (a.take i) : Nat) : Int) = ((k + zAll zEnt a : Nat) : Int)
        rw [List.take_of_length_le h2]
theorem heldEntryS_ok (a : List Entry) (k : Nat) (hk : k + zAll zEnt a ≤ 4611686018427387904) : Spec Tryz.prog 23 [lT .ent fun _ => mkAll mEnt zEnt a k, nT fun _ => k] (Ret (nR fun _ => k + zAll zEnt a)) := by
  refine spec_of tabOk Tryz.func23 rfl rfl (fr := true) (fun _ => by kernel_rfl) fun P hP hA => ?_
  cbv
  refine LoopE.by (X := Nat) (fun i => [(0, lT .ent fun _ => mkAll mEnt zEnt a k), (1, nT fun _ => k + zAll zEnt (a.take i)), (5, nT fun _ => i)]) (fun _ => []) (fun i => i ≤ a.length) (fun i _ => a.length - i) 0 (Nat.zero_le _) ?_ ?_
  · cbv
    exact ⟨rfl, rfl, rfl, trivial⟩
  · intro i hi
    cbv
    refine Br.dec (fun h2 => ?_) (fun h2 => ?_) <;> (cbv; repeat (refine Pz.mk ?_; cbv))
    · have h2 : (i : Int) < ((mkAll mEnt zEnt a k).length : Int) := h2
      rw [mkAll_len] at h2
      have h2 : i < a.length := by omega
      have hz : k + zAll zEnt (a.take i) + 4 ≤ 4611686018427387904 := by
        have := zAll_lt zEnt h2
        have : zAll zEnt (a.take i) + 4 ≤ zAll zEnt a := this
        omega
      have hge : a.length ≤ zAll zEnt a := zAll_ge zEnt a fun _ => by show 1 ≤ 4; omega
      have hg : (mkAll mEnt zEnt a k)[((i : Int)).toNat]? = some (mEnt a[i] (k + zAll zEnt (a.take i))) := by
        rw [Int.toNat_natCast, mkAll_get mEnt zEnt k h2]
      refine ⟨mEnt a[i] (k + zAll zEnt (a.take i)), by simp, hg, ?_⟩
      cbv
      refine Br.split (fun g0 => ?_) (fun g0 => ?_) <;> (cbv; repeat (refine Pz.mk ?_; cbv))
      · exact (bne_no g0).elim
      refine Ar.exact ?_ ?_ ?_
      · show -9223372036854775808 ≤ (((k + zAll zEnt (a.take i) : Nat) : Int)) + 1
        omega
      · show (((k + zAll zEnt (a.take i) : Nat) : Int)) + 1 ≤ 9223372036854775807
        omega
      cbv
      refine ⟨mEnt a[i] (k + zAll zEnt (a.take i)), by simp, hg, ?_⟩
      cbv
      refine Br.split (fun g1 => ?_) (fun g1 => ?_) <;> (cbv; repeat (refine Pz.mk ?_; cbv))
      · exact (bne_no g1).elim
      refine Ar.exact ?_ ?_ ?_
      · show -9223372036854775808 ≤ (((k + zAll zEnt (a.take i) : Nat) : Int) + 1) + 1
        omega
      · show (((k + zAll zEnt (a.take i) : Nat) : Int) + 1) + 1 ≤ 9223372036854775807
        omega
      cbv
      refine ⟨mEnt a[i] (k + zAll zEnt (a.take i)), by simp, hg, ?_⟩
      cbv
      refine Br.split (fun g2 => ?_) (fun g2 => ?_) <;> (cbv; repeat (refine Pz.mk ?_; cbv))
      · exact (bne_no g2).elim
      refine Ar.exact ?_ ?_ ?_
      · show -9223372036854775808 ≤ (((k + zAll zEnt (a.take i) : Nat) : Int) + 1 + 1) + 1
        omega
      · show (((k + zAll zEnt (a.take i) : Nat) : Int) + 1 + 1) + 1 ≤ 9223372036854775807
        omega
      cbv
      refine ⟨mEnt a[i] (k + zAll zEnt (a.take i)), by simp, hg, ?_⟩
      cbv
      refine Br.split (fun g3 => ?_) (fun g3 => ?_) <;> (cbv; repeat (refine Pz.mk ?_; cbv))
      · exact (bne_no g3).elim
      refine Ar.exact ?_ ?_ ?_
      · show -9223372036854775808 ≤ (((k + zAll zEnt (a.take i) : Nat) : Int) + 1 + 1 + 1) + 1
        omega
      · show (((k + zAll zEnt (a.take i) : Nat) : Int) + 1 + 1 + 1) + 1 ≤ 9223372036854775807
        omega
      cbv
      refine Ar.exact ?_ ?_ ?_
      · show -9223372036854775808 ≤ (i : Int) + 1
        omega
      · show (i : Int) + 1 ≤ 9223372036854775807
        omega
      cbv
      refine NextE.by (i + 1) ?_ ?_ ?_
      · show a.length - (i + 1) < a.length - i
        omega
      · exact h2
      · cbv
        refine ⟨rfl, ?_, rfl, trivial⟩
        show ((k + zAll zEnt (a.take i) : Nat) : Int) + 1 + 1 + 1 + 1 = ((k + zAll zEnt (a.take (i + 1)) : Nat) : Int)
        rw [zAll_step zEnt h2, show zEnt a[i] = 4 from rfl]
        omega
    · have h2 : ¬ (i : Int) < ((mkAll mEnt zEnt a k).length : Int) := h2
      rw [mkAll_len] at h2
      have h2 : a.length ≤ i := by omega
      refine ⟨?_, trivial⟩
      show ((k + zAll zEnt (a.take i) : Nat) : Int) = ((k + zAll zEnt a : Nat) : Int)
      rw [List.take_of_length_le h2]
theorem markPartyS_ok (a : List Party) (k : Nat) (hk : k + zAll zPty a ≤ 4611686018427387904) :
    SpecM Tryz.prog 70 [oN 0, nT fun _ => k] [(0, ownB' .pty fun _ => a)] (RetM (nR fun _ => k + zAll zPty a) [(0, .own .pty fun _ => mkAll mPty zPty a k)]) := by
  refine specM_of tabOk Tryz.func70 rfl rfl (fr := true) (fun _ => by kernel_rfl) rfl rfl fun P hP hA hB => ?_
  cbv
  refine LoopE.by (X := Nat) (fun i => [(0, oN 0), (1, nT fun _ => k + zAll zPty (a.take i)), (5, nT fun _ => i)]) (fun i => [(0, ownB' .pty fun _ => mkAll mPty zPty (a.take i) k ++ a.drop i)]) (fun i => i ≤ a.length) (fun i _ => a.length - i) 0 (Nat.zero_le _) ?_ ?_
  · cbv
    exact ⟨rfl, rfl, rfl, trivial⟩
  · intro i hi
    have hlen : (mkAll mPty zPty (a.take i) k ++ a.drop i).length = a.length := mid_len mPty zPty a i k
    cbv
    refine Br.dec (fun h2 => ?_) (fun h2 => ?_) <;> (cbv; repeat (refine Pz.mk ?_; cbv))
    · have h2 : (i : Int) < ((mkAll mPty zPty (a.take i) k ++ a.drop i).length : Int) := h2
      rw [hlen] at h2
      have h2 : i < a.length := by omega
      have hM : (mkAll mPty zPty (a.take i) k).length = i := mid_lt mPty zPty k h2
      have hR : (a.drop (i + 1)).length = a.length - (i + 1) := by simp
      have hz : k + zAll zPty (a.take i) + 10 ≤ 4611686018427387904 := by
        have := zAll_lt zPty h2
        have : zAll zPty (a.take i) + 10 ≤ zAll zPty a := this
        omega
      have hge : a.length ≤ zAll zPty a := zAll_ge zPty a fun _ => by show 1 ≤ 10; omega
      refine ⟨?_, ?_⟩
      · show 0 ≤ (i : Int) ∧ (i : Int) < ((mkAll mPty zPty (a.take i) k ++ a.drop i).length : Int)
        rw [hlen]; omega
      cbv
      refine Sv.mk (fun _ => mkAll mPty zPty (a.take i) k ++ (⟨((k + zAll zPty (a.take i) : Nat) : Int), a[i].cab, a[i].frm, a[i].siz, a[i].tier, a[i].since, a[i].turn, a[i].st, a[i].untl, a[i].asked⟩ : Party) :: a.drop (i + 1)) ?_ ?_
      · exact set_fld (fun y => ⟨((k + zAll zPty (a.take i) : Nat) : Int), y.cab, y.frm, y.siz, y.tier, y.since, y.turn, y.st, y.untl, y.asked⟩) hM (mid_eq mPty zPty k h2)
      cbv
      refine Ar.exact ?_ ?_ ?_
      · show -9223372036854775808 ≤ (((k + zAll zPty (a.take i) : Nat) : Int)) + 1
        omega
      · show (((k + zAll zPty (a.take i) : Nat) : Int)) + 1 ≤ 9223372036854775807
        omega
      cbv
      refine ⟨?_, ?_⟩
      · show 0 ≤ (i : Int) ∧ (i : Int) < ((mkAll mPty zPty (a.take i) k ++ (⟨((k + zAll zPty (a.take i) : Nat) : Int), a[i].cab, a[i].frm, a[i].siz, a[i].tier, a[i].since, a[i].turn, a[i].st, a[i].untl, a[i].asked⟩ : Party) :: a.drop (i + 1)).length : Int)
        rw [len_mid hM hR h2]; omega
      cbv
      refine Sv.mk (fun _ => mkAll mPty zPty (a.take i) k ++ (⟨((k + zAll zPty (a.take i) : Nat) : Int), ((k + zAll zPty (a.take i) : Nat) : Int) + 1, a[i].frm, a[i].siz, a[i].tier, a[i].since, a[i].turn, a[i].st, a[i].untl, a[i].asked⟩ : Party) :: a.drop (i + 1)) ?_ ?_
      · exact set_fld (fun y => ⟨y.id, ((k + zAll zPty (a.take i) : Nat) : Int) + 1, y.frm, y.siz, y.tier, y.since, y.turn, y.st, y.untl, y.asked⟩) hM rfl
      cbv
      refine Ar.exact ?_ ?_ ?_
      · show -9223372036854775808 ≤ (((k + zAll zPty (a.take i) : Nat) : Int) + 1) + 1
        omega
      · show (((k + zAll zPty (a.take i) : Nat) : Int) + 1) + 1 ≤ 9223372036854775807
        omega
      cbv
      refine ⟨?_, ?_⟩
      · show 0 ≤ (i : Int) ∧ (i : Int) < ((mkAll mPty zPty (a.take i) k ++ (⟨((k + zAll zPty (a.take i) : Nat) : Int), ((k + zAll zPty (a.take i) : Nat) : Int) + 1, a[i].frm, a[i].siz, a[i].tier, a[i].since, a[i].turn, a[i].st, a[i].untl, a[i].asked⟩ : Party) :: a.drop (i + 1)).length : Int)
        rw [len_mid hM hR h2]; omega
      cbv
      refine Sv.mk (fun _ => mkAll mPty zPty (a.take i) k ++ (⟨((k + zAll zPty (a.take i) : Nat) : Int), ((k + zAll zPty (a.take i) : Nat) : Int) + 1, ((k + zAll zPty (a.take i) : Nat) : Int) + 1 + 1, a[i].siz, a[i].tier, a[i].since, a[i].turn, a[i].st, a[i].untl, a[i].asked⟩ : Party) :: a.drop (i + 1)) ?_ ?_
      · exact set_fld (fun y => ⟨y.id, y.cab, ((k + zAll zPty (a.take i) : Nat) : Int) + 1 + 1, y.siz, y.tier, y.since, y.turn, y.st, y.untl, y.asked⟩) hM rfl
      cbv
      refine Ar.exact ?_ ?_ ?_
      · show -9223372036854775808 ≤ (((k + zAll zPty (a.take i) : Nat) : Int) + 1 + 1) + 1
        omega
      · show (((k + zAll zPty (a.take i) : Nat) : Int) + 1 + 1) + 1 ≤ 9223372036854775807
        omega
      cbv
      refine ⟨?_, ?_⟩
      · show 0 ≤ (i : Int) ∧ (i : Int) < ((mkAll mPty zPty (a.take i) k ++ (⟨((k + zAll zPty (a.take i) : Nat) : Int), ((k + zAll zPty (a.take i) : Nat) : Int) + 1, ((k + zAll zPty (a.take i) : Nat) : Int) + 1 + 1, a[i].siz, a[i].tier, a[i].since, a[i].turn, a[i].st, a[i].untl, a[i].asked⟩ : Party) :: a.drop (i + 1)).length : Int)
        rw [len_mid hM hR h2]; omega
      cbv
      refine Sv.mk (fun _ => mkAll mPty zPty (a.take i) k ++ (⟨((k + zAll zPty (a.take i) : Nat) : Int), ((k + zAll zPty (a.take i) : Nat) : Int) + 1, ((k + zAll zPty (a.take i) : Nat) : Int) + 1 + 1, ((k + zAll zPty (a.take i) : Nat) : Int) + 1 + 1 + 1, a[i].tier, a[i].since, a[i].turn, a[i].st, a[i].untl, a[i].asked⟩ : Party) :: a.drop (i + 1)) ?_ ?_
      · exact set_fld (fun y => ⟨y.id, y.cab, y.frm, ((k + zAll zPty (a.take i) : Nat) : Int) + 1 + 1 + 1, y.tier, y.since, y.turn, y.st, y.untl, y.asked⟩) hM rfl
      cbv
      refine Ar.exact ?_ ?_ ?_
      · show -9223372036854775808 ≤ (((k + zAll zPty (a.take i) : Nat) : Int) + 1 + 1 + 1) + 1
        omega
      · show (((k + zAll zPty (a.take i) : Nat) : Int) + 1 + 1 + 1) + 1 ≤ 9223372036854775807
        omega
      cbv
      refine ⟨?_, ?_⟩
      · show 0 ≤ (i : Int) ∧ (i : Int) < ((mkAll mPty zPty (a.take i) k ++ (⟨((k + zAll zPty (a.take i) : Nat) : Int), ((k + zAll zPty (a.take i) : Nat) : Int) + 1, ((k + zAll zPty (a.take i) : Nat) : Int) + 1 + 1, ((k + zAll zPty (a.take i) : Nat) : Int) + 1 + 1 + 1, a[i].tier, a[i].since, a[i].turn, a[i].st, a[i].untl, a[i].asked⟩ : Party) :: a.drop (i + 1)).length : Int)
        rw [len_mid hM hR h2]; omega
      cbv
      refine Sv.mk (fun _ => mkAll mPty zPty (a.take i) k ++ (⟨((k + zAll zPty (a.take i) : Nat) : Int), ((k + zAll zPty (a.take i) : Nat) : Int) + 1, ((k + zAll zPty (a.take i) : Nat) : Int) + 1 + 1, ((k + zAll zPty (a.take i) : Nat) : Int) + 1 + 1 + 1, ((k + zAll zPty (a.take i) : Nat) : Int) + 1 + 1 + 1 + 1, a[i].since, a[i].turn, a[i].st, a[i].untl, a[i].asked⟩ : Party) :: a.drop (i + 1)) ?_ ?_
      · exact set_fld (fun y => ⟨y.id, y.cab, y.frm, y.siz, ((k + zAll zPty (a.take i) : Nat) : Int) + 1 + 1 + 1 + 1, y.since, y.turn, y.st, y.untl, y.asked⟩) hM rfl
      cbv
      refine Ar.exact ?_ ?_ ?_
      · show -9223372036854775808 ≤ (((k + zAll zPty (a.take i) : Nat) : Int) + 1 + 1 + 1 + 1) + 1
        omega
      · show (((k + zAll zPty (a.take i) : Nat) : Int) + 1 + 1 + 1 + 1) + 1 ≤ 9223372036854775807
        omega
      cbv
      refine ⟨?_, ?_⟩
      · show 0 ≤ (i : Int) ∧ (i : Int) < ((mkAll mPty zPty (a.take i) k ++ (⟨((k + zAll zPty (a.take i) : Nat) : Int), ((k + zAll zPty (a.take i) : Nat) : Int) + 1, ((k + zAll zPty (a.take i) : Nat) : Int) + 1 + 1, ((k + zAll zPty (a.take i) : Nat) : Int) + 1 + 1 + 1, ((k + zAll zPty (a.take i) : Nat) : Int) + 1 + 1 + 1 + 1, a[i].since, a[i].turn, a[i].st, a[i].untl, a[i].asked⟩ : Party) :: a.drop (i + 1)).length : Int)
        rw [len_mid hM hR h2]; omega
      cbv
      refine Sv.mk (fun _ => mkAll mPty zPty (a.take i) k ++ (⟨((k + zAll zPty (a.take i) : Nat) : Int), ((k + zAll zPty (a.take i) : Nat) : Int) + 1, ((k + zAll zPty (a.take i) : Nat) : Int) + 1 + 1, ((k + zAll zPty (a.take i) : Nat) : Int) + 1 + 1 + 1, ((k + zAll zPty (a.take i) : Nat) : Int) + 1 + 1 + 1 + 1, ((k + zAll zPty (a.take i) : Nat) : Int) + 1 + 1 + 1 + 1 + 1, a[i].turn, a[i].st, a[i].untl, a[i].asked⟩ : Party) :: a.drop (i + 1)) ?_ ?_
      · exact set_fld (fun y => ⟨y.id, y.cab, y.frm, y.siz, y.tier, ((k + zAll zPty (a.take i) : Nat) : Int) + 1 + 1 + 1 + 1 + 1, y.turn, y.st, y.untl, y.asked⟩) hM rfl
      cbv
      refine Ar.exact ?_ ?_ ?_
      · show -9223372036854775808 ≤ (((k + zAll zPty (a.take i) : Nat) : Int) + 1 + 1 + 1 + 1 + 1) + 1
        omega
      · show (((k + zAll zPty (a.take i) : Nat) : Int) + 1 + 1 + 1 + 1 + 1) + 1 ≤ 9223372036854775807
        omega
      cbv
      refine ⟨?_, ?_⟩
      · show 0 ≤ (i : Int) ∧ (i : Int) < ((mkAll mPty zPty (a.take i) k ++ (⟨((k + zAll zPty (a.take i) : Nat) : Int), ((k + zAll zPty (a.take i) : Nat) : Int) + 1, ((k + zAll zPty (a.take i) : Nat) : Int) + 1 + 1, ((k + zAll zPty (a.take i) : Nat) : Int) + 1 + 1 + 1, ((k + zAll zPty (a.take i) : Nat) : Int) + 1 + 1 + 1 + 1, ((k + zAll zPty (a.take i) : Nat) : Int) + 1 + 1 + 1 + 1 + 1, a[i].turn, a[i].st, a[i].untl, a[i].asked⟩ : Party) :: a.drop (i + 1)).length : Int)
        rw [len_mid hM hR h2]; omega
      cbv
      refine Sv.mk (fun _ => mkAll mPty zPty (a.take i) k ++ (⟨((k + zAll zPty (a.take i) : Nat) : Int), ((k + zAll zPty (a.take i) : Nat) : Int) + 1, ((k + zAll zPty (a.take i) : Nat) : Int) + 1 + 1, ((k + zAll zPty (a.take i) : Nat) : Int) + 1 + 1 + 1, ((k + zAll zPty (a.take i) : Nat) : Int) + 1 + 1 + 1 + 1, ((k + zAll zPty (a.take i) : Nat) : Int) + 1 + 1 + 1 + 1 + 1, ((k + zAll zPty (a.take i) : Nat) : Int) + 1 + 1 + 1 + 1 + 1 + 1, a[i].st, a[i].untl, a[i].asked⟩ : Party) :: a.drop (i + 1)) ?_ ?_
      · exact set_fld (fun y => ⟨y.id, y.cab, y.frm, y.siz, y.tier, y.since, ((k + zAll zPty (a.take i) : Nat) : Int) + 1 + 1 + 1 + 1 + 1 + 1, y.st, y.untl, y.asked⟩) hM rfl
      cbv
      refine Ar.exact ?_ ?_ ?_
      · show -9223372036854775808 ≤ (((k + zAll zPty (a.take i) : Nat) : Int) + 1 + 1 + 1 + 1 + 1 + 1) + 1
        omega
      · show (((k + zAll zPty (a.take i) : Nat) : Int) + 1 + 1 + 1 + 1 + 1 + 1) + 1 ≤ 9223372036854775807
        omega
      cbv
      refine ⟨?_, ?_⟩
      · show 0 ≤ (i : Int) ∧ (i : Int) < ((mkAll mPty zPty (a.take i) k ++ (⟨((k + zAll zPty (a.take i) : Nat) : Int), ((k + zAll zPty (a.take i) : Nat) : Int) + 1, ((k + zAll zPty (a.take i) : Nat) : Int) + 1 + 1, ((k + zAll zPty (a.take i) : Nat) : Int) + 1 + 1 + 1, ((k + zAll zPty (a.take i) : Nat) : Int) + 1 + 1 + 1 + 1, ((k + zAll zPty (a.take i) : Nat) : Int) + 1 + 1 + 1 + 1 + 1, ((k + zAll zPty (a.take i) : Nat) : Int) + 1 + 1 + 1 + 1 + 1 + 1, a[i].st, a[i].untl, a[i].asked⟩ : Party) :: a.drop (i + 1)).length : Int)
        rw [len_mid hM hR h2]; omega
      cbv
      refine Sv.mk (fun _ => mkAll mPty zPty (a.take i) k ++ (⟨((k + zAll zPty (a.take i) : Nat) : Int), ((k + zAll zPty (a.take i) : Nat) : Int) + 1, ((k + zAll zPty (a.take i) : Nat) : Int) + 1 + 1, ((k + zAll zPty (a.take i) : Nat) : Int) + 1 + 1 + 1, ((k + zAll zPty (a.take i) : Nat) : Int) + 1 + 1 + 1 + 1, ((k + zAll zPty (a.take i) : Nat) : Int) + 1 + 1 + 1 + 1 + 1, ((k + zAll zPty (a.take i) : Nat) : Int) + 1 + 1 + 1 + 1 + 1 + 1, ((k + zAll zPty (a.take i) : Nat) : Int) + 1 + 1 + 1 + 1 + 1 + 1 + 1, a[i].untl, a[i].asked⟩ : Party) :: a.drop (i + 1)) ?_ ?_
      · exact set_fld (fun y => ⟨y.id, y.cab, y.frm, y.siz, y.tier, y.since, y.turn, ((k + zAll zPty (a.take i) : Nat) : Int) + 1 + 1 + 1 + 1 + 1 + 1 + 1, y.untl, y.asked⟩) hM rfl
      cbv
      refine Ar.exact ?_ ?_ ?_
      · show -9223372036854775808 ≤ (((k + zAll zPty (a.take i) : Nat) : Int) + 1 + 1 + 1 + 1 + 1 + 1 + 1) + 1
        omega
      · show (((k + zAll zPty (a.take i) : Nat) : Int) + 1 + 1 + 1 + 1 + 1 + 1 + 1) + 1 ≤ 9223372036854775807
        omega
      cbv
      refine ⟨?_, ?_⟩
      · show 0 ≤ (i : Int) ∧ (i : Int) < ((mkAll mPty zPty (a.take i) k ++ (⟨((k + zAll zPty (a.take i) : Nat) : Int), ((k + zAll zPty (a.take i) : Nat) : Int) + 1, ((k + zAll zPty (a.take i) : Nat) : Int) + 1 + 1, ((k + zAll zPty (a.take i) : Nat) : Int) + 1 + 1 + 1, ((k + zAll zPty (a.take i) : Nat) : Int) + 1 + 1 + 1 + 1, ((k + zAll zPty (a.take i) : Nat) : Int) + 1 + 1 + 1 + 1 + 1, ((k + zAll zPty (a.take i) : Nat) : Int) + 1 + 1 + 1 + 1 + 1 + 1, ((k + zAll zPty (a.take i) : Nat) : Int) + 1 + 1 + 1 + 1 + 1 + 1 + 1, a[i].untl, a[i].asked⟩ : Party) :: a.drop (i + 1)).length : Int)
        rw [len_mid hM hR h2]; omega
      cbv
      refine Sv.mk (fun _ => mkAll mPty zPty (a.take i) k ++ (⟨((k + zAll zPty (a.take i) : Nat) : Int), ((k + zAll zPty (a.take i) : Nat) : Int) + 1, ((k + zAll zPty (a.take i) : Nat) : Int) + 1 + 1, ((k + zAll zPty (a.take i) : Nat) : Int) + 1 + 1 + 1, ((k + zAll zPty (a.take i) : Nat) : Int) + 1 + 1 + 1 + 1, ((k + zAll zPty (a.take i) : Nat) : Int) + 1 + 1 + 1 + 1 + 1, ((k + zAll zPty (a.take i) : Nat) : Int) + 1 + 1 + 1 + 1 + 1 + 1, ((k + zAll zPty (a.take i) : Nat) : Int) + 1 + 1 + 1 + 1 + 1 + 1 + 1, ((k + zAll zPty (a.take i) : Nat) : Int) + 1 + 1 + 1 + 1 + 1 + 1 + 1 + 1, a[i].asked⟩ : Party) :: a.drop (i + 1)) ?_ ?_
      · exact set_fld (fun y => ⟨y.id, y.cab, y.frm, y.siz, y.tier, y.since, y.turn, y.st, ((k + zAll zPty (a.take i) : Nat) : Int) + 1 + 1 + 1 + 1 + 1 + 1 + 1 + 1, y.asked⟩) hM rfl
      cbv
      refine Ar.exact ?_ ?_ ?_
      · show -9223372036854775808 ≤ (((k + zAll zPty (a.take i) : Nat) : Int) + 1 + 1 + 1 + 1 + 1 + 1 + 1 + 1) + 1
        omega
      · show (((k + zAll zPty (a.take i) : Nat) : Int) + 1 + 1 + 1 + 1 + 1 + 1 + 1 + 1) + 1 ≤ 9223372036854775807
        omega
      cbv
      refine ⟨?_, ?_⟩
      · show 0 ≤ (i : Int) ∧ (i : Int) < ((mkAll mPty zPty (a.take i) k ++ (⟨((k + zAll zPty (a.take i) : Nat) : Int), ((k + zAll zPty (a.take i) : Nat) : Int) + 1, ((k + zAll zPty (a.take i) : Nat) : Int) + 1 + 1, ((k + zAll zPty (a.take i) : Nat) : Int) + 1 + 1 + 1, ((k + zAll zPty (a.take i) : Nat) : Int) + 1 + 1 + 1 + 1, ((k + zAll zPty (a.take i) : Nat) : Int) + 1 + 1 + 1 + 1 + 1, ((k + zAll zPty (a.take i) : Nat) : Int) + 1 + 1 + 1 + 1 + 1 + 1, ((k + zAll zPty (a.take i) : Nat) : Int) + 1 + 1 + 1 + 1 + 1 + 1 + 1, ((k + zAll zPty (a.take i) : Nat) : Int) + 1 + 1 + 1 + 1 + 1 + 1 + 1 + 1, a[i].asked⟩ : Party) :: a.drop (i + 1)).length : Int)
        rw [len_mid hM hR h2]; omega
      cbv
      refine Sv.mk (fun _ => mkAll mPty zPty (a.take i) k ++ (⟨((k + zAll zPty (a.take i) : Nat) : Int), ((k + zAll zPty (a.take i) : Nat) : Int) + 1, ((k + zAll zPty (a.take i) : Nat) : Int) + 1 + 1, ((k + zAll zPty (a.take i) : Nat) : Int) + 1 + 1 + 1, ((k + zAll zPty (a.take i) : Nat) : Int) + 1 + 1 + 1 + 1, ((k + zAll zPty (a.take i) : Nat) : Int) + 1 + 1 + 1 + 1 + 1, ((k + zAll zPty (a.take i) : Nat) : Int) + 1 + 1 + 1 + 1 + 1 + 1, ((k + zAll zPty (a.take i) : Nat) : Int) + 1 + 1 + 1 + 1 + 1 + 1 + 1, ((k + zAll zPty (a.take i) : Nat) : Int) + 1 + 1 + 1 + 1 + 1 + 1 + 1 + 1, ((k + zAll zPty (a.take i) : Nat) : Int) + 1 + 1 + 1 + 1 + 1 + 1 + 1 + 1 + 1⟩ : Party) :: a.drop (i + 1)) ?_ ?_
      · exact set_fld (fun y => ⟨y.id, y.cab, y.frm, y.siz, y.tier, y.since, y.turn, y.st, y.untl, ((k + zAll zPty (a.take i) : Nat) : Int) + 1 + 1 + 1 + 1 + 1 + 1 + 1 + 1 + 1⟩) hM rfl
      cbv
      refine Ar.exact ?_ ?_ ?_
      · show -9223372036854775808 ≤ (((k + zAll zPty (a.take i) : Nat) : Int) + 1 + 1 + 1 + 1 + 1 + 1 + 1 + 1 + 1) + 1
        omega
      · show (((k + zAll zPty (a.take i) : Nat) : Int) + 1 + 1 + 1 + 1 + 1 + 1 + 1 + 1 + 1) + 1 ≤ 9223372036854775807
        omega
      cbv
      refine Ar.exact ?_ ?_ ?_
      · show -9223372036854775808 ≤ (i : Int) + 1
        omega
      · show (i : Int) + 1 ≤ 9223372036854775807
        omega
      cbv
      refine NextE.by (i + 1) ?_ ?_ ?_
      · show a.length - (i + 1) < a.length - i
        omega
      · exact h2
      · cbv
        refine ⟨?_, rfl, ?_, trivial⟩
        · show ((k + zAll zPty (a.take i) : Nat) : Int) + 1 + 1 + 1 + 1 + 1 + 1 + 1 + 1 + 1 + 1 = ((k + zAll zPty (a.take (i + 1)) : Nat) : Int)
          rw [zAll_step zPty h2, show zPty a[i] = 10 from rfl]
          omega
        · exact mid_end mPty zPty k h2
    · have h2 : ¬ (i : Int) < ((mkAll mPty zPty (a.take i) k ++ a.drop i).length : Int) := h2
      rw [hlen] at h2
      have h2 : a.length ≤ i := by omega
      refine ⟨?_, ?_, trivial⟩
      · exact mid_all mPty zPty k h2
      · show ((k + zAll zPty (a.take i) : Nat) : Int) = ((k + zAll zPty a : Nat) : Int)
        rw [List.take_of_length_le h2]
theorem heldPartyS_ok (a : List Party) (k : Nat) (hk : k + zAll zPty a ≤ 4611686018427387904) : Spec Tryz.prog 93 [lT .pty fun _ => mkAll mPty zPty a k, nT fun _ => k] (Ret (nR fun _ => k + zAll zPty a)) := by
  refine spec_of tabOk Tryz.func93 rfl rfl (fr := true) (fun _ => by kernel_rfl) fun P hP hA => ?_
  cbv
  refine LoopE.by (X := Nat) (fun i => [(0, lT .pty fun _ => mkAll mPty zPty a k), (1, nT fun _ => k + zAll zPty (a.take i)), (5, nT fun _ => i)]) (fun _ => []) (fun i => i ≤ a.length) (fun i _ => a.length - i) 0 (Nat.zero_le _) ?_ ?_
  · cbv
    exact ⟨rfl, rfl, rfl, trivial⟩
  · intro i hi
    cbv
    refine Br.dec (fun h2 => ?_) (fun h2 => ?_) <;> (cbv; repeat (refine Pz.mk ?_; cbv))
    · have h2 : (i : Int) < ((mkAll mPty zPty a k).length : Int) := h2
      rw [mkAll_len] at h2
      have h2 : i < a.length := by omega
      have hz : k + zAll zPty (a.take i) + 10 ≤ 4611686018427387904 := by
        have := zAll_lt zPty h2
        have : zAll zPty (a.take i) + 10 ≤ zAll zPty a := this
        omega
      have hge : a.length ≤ zAll zPty a := zAll_ge zPty a fun _ => by show 1 ≤ 10; omega
      have hg : (mkAll mPty zPty a k)[((i : Int)).toNat]? = some (mPty a[i] (k + zAll zPty (a.take i))) := by
        rw [Int.toNat_natCast, mkAll_get mPty zPty k h2]
      refine ⟨mPty a[i] (k + zAll zPty (a.take i)), by simp, hg, ?_⟩
      cbv
      refine Br.split (fun g0 => ?_) (fun g0 => ?_) <;> (cbv; repeat (refine Pz.mk ?_; cbv))
      · exact (bne_no g0).elim
      refine Ar.exact ?_ ?_ ?_
      · show -9223372036854775808 ≤ (((k + zAll zPty (a.take i) : Nat) : Int)) + 1
        omega
      · show (((k + zAll zPty (a.take i) : Nat) : Int)) + 1 ≤ 9223372036854775807
        omega
      cbv
      refine ⟨mPty a[i] (k + zAll zPty (a.take i)), by simp, hg, ?_⟩
      cbv
      refine Br.split (fun g1 => ?_) (fun g1 => ?_) <;> (cbv; repeat (refine Pz.mk ?_; cbv))
      · exact (bne_no g1).elim
      refine Ar.exact ?_ ?_ ?_
      · show -9223372036854775808 ≤ (((k + zAll zPty (a.take i) : Nat) : Int) + 1) + 1
        omega
      · show (((k + zAll zPty (a.take i) : Nat) : Int) + 1) + 1 ≤ 9223372036854775807
        omega
      cbv
      refine ⟨mPty a[i] (k + zAll zPty (a.take i)), by simp, hg, ?_⟩
      cbv
      refine Br.split (fun g2 => ?_) (fun g2 => ?_) <;> (cbv; repeat (refine Pz.mk ?_; cbv))
      · exact (bne_no g2).elim
      refine Ar.exact ?_ ?_ ?_
      · show -9223372036854775808 ≤ (((k + zAll zPty (a.take i) : Nat) : Int) + 1 + 1) + 1
        omega
      · show (((k + zAll zPty (a.take i) : Nat) : Int) + 1 + 1) + 1 ≤ 9223372036854775807
        omega
      cbv
      refine ⟨mPty a[i] (k + zAll zPty (a.take i)), by simp, hg, ?_⟩
      cbv
      refine Br.split (fun g3 => ?_) (fun g3 => ?_) <;> (cbv; repeat (refine Pz.mk ?_; cbv))
      · exact (bne_no g3).elim
      refine Ar.exact ?_ ?_ ?_
      · show -9223372036854775808 ≤ (((k + zAll zPty (a.take i) : Nat) : Int) + 1 + 1 + 1) + 1
        omega
      · show (((k + zAll zPty (a.take i) : Nat) : Int) + 1 + 1 + 1) + 1 ≤ 9223372036854775807
        omega
      cbv
      refine ⟨mPty a[i] (k + zAll zPty (a.take i)), by simp, hg, ?_⟩
      cbv
      refine Br.split (fun g4 => ?_) (fun g4 => ?_) <;> (cbv; repeat (refine Pz.mk ?_; cbv))
      · exact (bne_no g4).elim
      refine Ar.exact ?_ ?_ ?_
      · show -9223372036854775808 ≤ (((k + zAll zPty (a.take i) : Nat) : Int) + 1 + 1 + 1 + 1) + 1
        omega
      · show (((k + zAll zPty (a.take i) : Nat) : Int) + 1 + 1 + 1 + 1) + 1 ≤ 9223372036854775807
        omega
      cbv
      refine ⟨mPty a[i] (k + zAll zPty (a.take i)), by simp, hg, ?_⟩
      cbv
      refine Br.split (fun g5 => ?_) (fun g5 => ?_) <;> (cbv; repeat (refine Pz.mk ?_; cbv))
      · exact (bne_no g5).elim
      refine Ar.exact ?_ ?_ ?_
      · show -9223372036854775808 ≤ (((k + zAll zPty (a.take i) : Nat) : Int) + 1 + 1 + 1 + 1 + 1) + 1
        omega
      · show (((k + zAll zPty (a.take i) : Nat) : Int) + 1 + 1 + 1 + 1 + 1) + 1 ≤ 9223372036854775807
        omega
      cbv
      refine ⟨mPty a[i] (k + zAll zPty (a.take i)), by simp, hg, ?_⟩
      cbv
      refine Br.split (fun g6 => ?_) (fun g6 => ?_) <;> (cbv; repeat (refine Pz.mk ?_; cbv))
      · exact (bne_no g6).elim
      refine Ar.exact ?_ ?_ ?_
      · show -9223372036854775808 ≤ (((k + zAll zPty (a.take i) : Nat) : Int) + 1 + 1 + 1 + 1 + 1 + 1) + 1
        omega
      · show (((k + zAll zPty (a.take i) : Nat) : Int) + 1 + 1 + 1 + 1 + 1 + 1) + 1 ≤ 9223372036854775807
        omega
      cbv
      refine ⟨mPty a[i] (k + zAll zPty (a.take i)), by simp, hg, ?_⟩
      cbv
      refine Br.split (fun g7 => ?_) (fun g7 => ?_) <;> (cbv; repeat (refine Pz.mk ?_; cbv))
      · exact (bne_no g7).elim
      refine Ar.exact ?_ ?_ ?_
      · show -9223372036854775808 ≤ (((k + zAll zPty (a.take i) : Nat) : Int) + 1 + 1 + 1 + 1 + 1 + 1 + 1) + 1
        omega
      · show (((k + zAll zPty (a.take i) : Nat) : Int) + 1 + 1 + 1 + 1 + 1 + 1 + 1) + 1 ≤ 9223372036854775807
        omega
      cbv
      refine ⟨mPty a[i] (k + zAll zPty (a.take i)), by simp, hg, ?_⟩
      cbv
      refine Br.split (fun g8 => ?_) (fun g8 => ?_) <;> (cbv; repeat (refine Pz.mk ?_; cbv))
      · exact (bne_no g8).elim
      refine Ar.exact ?_ ?_ ?_
      · show -9223372036854775808 ≤ (((k + zAll zPty (a.take i) : Nat) : Int) + 1 + 1 + 1 + 1 + 1 + 1 + 1 + 1) + 1
        omega
      · show (((k + zAll zPty (a.take i) : Nat) : Int) + 1 + 1 + 1 + 1 + 1 + 1 + 1 + 1) + 1 ≤ 9223372036854775807
        omega
      cbv
      refine ⟨mPty a[i] (k + zAll zPty (a.take i)), by simp, hg, ?_⟩
      cbv
      refine Br.split (fun g9 => ?_) (fun g9 => ?_) <;> (cbv; repeat (refine Pz.mk ?_; cbv))
      · exact (bne_no g9).elim
      refine Ar.exact ?_ ?_ ?_
      · show -9223372036854775808 ≤ (((k + zAll zPty (a.take i) : Nat) : Int) + 1 + 1 + 1 + 1 + 1 + 1 + 1 + 1 + 1) + 1
        omega
      · show (((k + zAll zPty (a.take i) : Nat) : Int) + 1 + 1 + 1 + 1 + 1 + 1 + 1 + 1 + 1) + 1 ≤ 9223372036854775807
        omega
      cbv
      refine Ar.exact ?_ ?_ ?_
      · show -9223372036854775808 ≤ (i : Int) + 1
        omega
      · show (i : Int) + 1 ≤ 9223372036854775807
        omega
      cbv
      refine NextE.by (i + 1) ?_ ?_ ?_
      · show a.length - (i + 1) < a.length - i
        omega
      · exact h2
      · cbv
        refine ⟨rfl, ?_, rfl, trivial⟩
        show ((k + zAll zPty (a.take i) : Nat) : Int) + 1 + 1 + 1 + 1 + 1 + 1 + 1 + 1 + 1 + 1 = ((k + zAll zPty (a.take (i + 1)) : Nat) : Int)
        rw [zAll_step zPty h2, show zPty a[i] = 10 from rfl]
        omega
    · have h2 : ¬ (i : Int) < ((mkAll mPty zPty a k).length : Int) := h2
      rw [mkAll_len] at h2
      have h2 : a.length ≤ i := by omega
      refine ⟨?_, trivial⟩
      show ((k + zAll zPty (a.take i) : Nat) : Int) = ((k + zAll zPty a : Nat) : Int)
      rw [List.take_of_length_le h2]
end Go.Proofs.YtnenmkiabclncaaGreat
namespace Go.Proofs.YtnenmkiabclncaaGreat
open Go
set_option maxRecDepth 100000
theorem markPinSS_ok (a : List (List Pin)) (k : Nat) (hn : a.length ≤ bigN) (hk : k + zAll zPinS a ≤ 4611686018427387904) :
    SpecM Tryz.prog 139 [oN 0, nT fun _ => k] [(0, ownB' .spk fun _ => a)] (RetM (nR fun _ => k + zAll zPinS a) [(0, .own .spk fun _ => mkAll mPinS zPinS a k)]) := by
  refine specM_of tabOk Tryz.func139 rfl rfl (fr := true) (fun _ => by kernel_rfl) rfl rfl fun P hP hA hB => ?_
  have hn : a.length ≤ 1048576 := hn
  cbv
  refine LoopE.by (X := Nat) (fun i => [(0, oN 0), (1, nT fun _ => k + zAll zPinS (a.take i)), (5, nT fun _ => i)]) (fun i => [(0, ownB' .spk fun _ => mkAll mPinS zPinS (a.take i) k ++ a.drop i)]) (fun i => i ≤ a.length) (fun i _ => a.length - i) 0 (Nat.zero_le _) ?_ ?_
  · cbv
    exact ⟨rfl, rfl, rfl, trivial⟩
  · intro i hi
    have hlen : (mkAll mPinS zPinS (a.take i) k ++ a.drop i).length = a.length := mid_len mPinS zPinS a i k
    cbv
    refine Br.dec (fun h2 => ?_) (fun h2 => ?_) <;> (cbv; repeat (refine Pz.mk ?_; cbv))
    · have h2 : (i : Int) < ((mkAll mPinS zPinS (a.take i) k ++ a.drop i).length : Int) := h2
      rw [hlen] at h2
      have h2 : i < a.length := by omega
      have hM : (mkAll mPinS zPinS (a.take i) k).length = i := mid_lt mPinS zPinS k h2
      have hz : k + zAll zPinS (a.take i) + zAll zPin a[i] ≤ 4611686018427387904 := by
        have := zAll_lt zPinS h2
        have : zAll zPinS (a.take i) + zAll zPin a[i] ≤ zAll zPinS a := this
        omega
      refine ⟨?_, ?_⟩
      · show 0 ≤ (i : Int) ∧ (i : Int) < ((mkAll mPinS zPinS (a.take i) k ++ a.drop i).length : Int)
        rw [hlen]; omega
      cbv
      refine CallM.byE hP (markPinS_ok a[i] (k + zAll zPinS (a.take i)) hz) rfl ?_ ?_
      · refine congrArg (fun l => [(0, Blk.own .pin (fun _ => l) false)]) ?_
        exact getD_fld hM (mid_eq mPinS zPinS k h2)
      cbv
      refine Ar.exact ?_ ?_ ?_
      · show -9223372036854775808 ≤ (i : Int) + 1
        omega
      · show (i : Int) + 1 ≤ 9223372036854775807
        omega
      cbv
      refine NextE.by (i + 1) ?_ ?_ ?_
      · show a.length - (i + 1) < a.length - i
        omega
      · exact h2
      · cbv
        refine ⟨?_, rfl, ?_, trivial⟩
        · show ((k + zAll zPinS (a.take i) + zAll zPin a[i] : Nat) : Int) = ((k + zAll zPinS (a.take (i + 1)) : Nat) : Int)
          rw [zAll_step zPinS h2, show zPinS a[i] = zAll zPin a[i] from rfl, Nat.add_assoc]
        · exact (set_fld (fun _ => mkAll mPin zPin a[i] (k + zAll zPinS (a.take i))) (d := []) hM (mid_eq mPinS zPinS k h2)).trans (mid_end mPinS zPinS k h2)
    · have h2 : ¬ (i : Int) < ((mkAll mPinS zPinS (a.take i) k ++ a.drop i).length : Int) := h2
      rw [hlen] at h2
      have h2 : a.length ≤ i := by omega
      refine ⟨?_, ?_, trivial⟩
      · exact mid_all mPinS zPinS k h2
      · show ((k + zAll zPinS (a.take i) : Nat) : Int) = ((k + zAll zPinS a : Nat) : Int)
        rw [List.take_of_length_le h2]
theorem heldPinSS_ok (a : List (List Pin)) (k : Nat) (hn : a.length ≤ bigN) (hk : k + zAll zPinS a ≤ 4611686018427387904) : Spec Tryz.prog 153 [lT .spk fun _ => mkAll mPinS zPinS a k, nT fun _ => k] (Ret (nR fun _ => k + zAll zPinS a)) := by
  refine spec_of tabOk Tryz.func153 rfl rfl (fr := true) (fun _ => by kernel_rfl) fun P hP hA => ?_
  have hn : a.length ≤ 1048576 := hn
  cbv
  refine LoopE.by (X := Nat) (fun i => [(0, lT .spk fun _ => mkAll mPinS zPinS a k), (1, nT fun _ => k + zAll zPinS (a.take i)), (5, nT fun _ => i)]) (fun _ => []) (fun i => i ≤ a.length) (fun i _ => a.length - i) 0 (Nat.zero_le _) ?_ ?_
  · cbv
    exact ⟨rfl, rfl, rfl, trivial⟩
  · intro i hi
    cbv
    refine Br.dec (fun h2 => ?_) (fun h2 => ?_) <;> (cbv; repeat (refine Pz.mk ?_; cbv))
    · have h2 : (i : Int) < ((mkAll mPinS zPinS a k).length : Int) := h2
      rw [mkAll_len] at h2
      have h2 : i < a.length := by omega
      have hz : k + zAll zPinS (a.take i) + zAll zPin a[i] ≤ 4611686018427387904 := by
        have := zAll_lt zPinS h2
        have : zAll zPinS (a.take i) + zAll zPin a[i] ≤ zAll zPinS a := this
        omega
      have hg : (mkAll mPinS zPinS a k)[((i : Int)).toNat]? = some (mPinS a[i] (k + zAll zPinS (a.take i))) := by
        rw [Int.toNat_natCast, mkAll_get mPinS zPinS k h2]
      refine ⟨mPinS a[i] (k + zAll zPinS (a.take i)), by simp, hg, ?_⟩
      cbv
      refine CallA.byE hP (heldPinS_ok a[i] (k + zAll zPinS (a.take i)) hz) rfl ?_
      cbv
      refine Br.split (fun g => ?_) (fun g => ?_) <;> (cbv; repeat (refine Pz.mk ?_; cbv))
      · exact (neg_no g).elim
      refine Ar.exact ?_ ?_ ?_
      · show -9223372036854775808 ≤ (i : Int) + 1
        omega
      · show (i : Int) + 1 ≤ 9223372036854775807
        omega
      cbv
      refine NextE.by (i + 1) ?_ ?_ ?_
      · show a.length - (i + 1) < a.length - i
        omega
      · exact h2
      · cbv
        refine ⟨rfl, ?_, rfl, trivial⟩
        show ((k + zAll zPinS (a.take i) + zAll zPin a[i] : Nat) : Int) = ((k + zAll zPinS (a.take (i + 1)) : Nat) : Int)
        rw [zAll_step zPinS h2, show zPinS a[i] = zAll zPin a[i] from rfl, Nat.add_assoc]
    · have h2 : ¬ (i : Int) < ((mkAll mPinS zPinS a k).length : Int) := h2
      rw [mkAll_len] at h2
      have h2 : a.length ≤ i := by omega
      refine ⟨?_, trivial⟩
      show ((k + zAll zPinS (a.take i) : Nat) : Int) = ((k + zAll zPinS a : Nat) : Int)
      rw [List.take_of_length_le h2]
theorem markCabinS_ok (a : List Cabin) (k : Nat) (hs : smallCabs a) (hk : k + zAll zCab a ≤ 4611686018427387904) :
    SpecM Tryz.prog 71 [oN 0, nT fun _ => k] [(0, ownB' .cab fun _ => a)] (RetM (nR fun _ => k + zAll zCab a) [(0, .own .cab fun _ => mkAll mCab zCab a k)]) := by
  refine specM_of tabOk Tryz.func71 rfl rfl (fr := true) (fun _ => by kernel_rfl) rfl rfl fun P hP hA hB => ?_
  have hn : a.length ≤ 1048576 := hs.1
  cbv
  refine LoopE.by (X := Nat) (fun i => [(0, oN 0), (1, nT fun _ => k + zAll zCab (a.take i)), (5, nT fun _ => i)]) (fun i => [(0, ownB' .cab fun _ => mkAll mCab zCab (a.take i) k ++ a.drop i)]) (fun i => i ≤ a.length) (fun i _ => a.length - i) 0 (Nat.zero_le _) ?_ ?_
  · cbv
    exact ⟨rfl, rfl, rfl, trivial⟩
  · intro i hi
    have hlen : (mkAll mCab zCab (a.take i) k ++ a.drop i).length = a.length := mid_len mCab zCab a i k
    cbv
    refine Br.dec (fun h2 => ?_) (fun h2 => ?_) <;> (cbv; repeat (refine Pz.mk ?_; cbv))
    · have h2 : (i : Int) < ((mkAll mCab zCab (a.take i) k ++ a.drop i).length : Int) := h2
      rw [hlen] at h2
      have h2 : i < a.length := by omega
      have hM : (mkAll mCab zCab (a.take i) k).length = i := mid_lt mCab zCab k h2
      have hR : (a.drop (i + 1)).length = a.length - (i + 1) := by simp
      have hx : smallCab a[i] := hs.2 _ (List.getElem_mem _)
      have hz : k + zAll zCab (a.take i) + (5 + zAll zEnt a[i].row + zAll zPinS a[i].spoke) ≤ 4611686018427387904 := by
        have := zAll_lt zCab h2
        have : zAll zCab (a.take i) + (5 + zAll zEnt a[i].row + zAll zPinS a[i].spoke) ≤ zAll zCab a := this
        omega
      refine ⟨?_, ?_⟩
      · show 0 ≤ (i : Int) ∧ (i : Int) < ((mkAll mCab zCab (a.take i) k ++ a.drop i).length : Int)
        rw [hlen]; omega
      cbv
      refine Sv.mk (fun _ => mkAll mCab zCab (a.take i) k ++ (⟨⟨((k + zAll zCab (a.take i) : Nat) : Int), a[i].seats.free, a[i].seats.held, a[i].seats.sold, a[i].seats.tied⟩, a[i].row, a[i].spoke⟩ : Cabin) :: a.drop (i + 1)) ?_ ?_
      · exact set_fld (fun y => ⟨⟨((k + zAll zCab (a.take i) : Nat) : Int), y.seats.free, y.seats.held, y.seats.sold, y.seats.tied⟩, y.row, y.spoke⟩) hM (mid_eq mCab zCab k h2)
      cbv
      refine Ar.exact ?_ ?_ ?_
      · show -9223372036854775808 ≤ (((k + zAll zCab (a.take i) : Nat) : Int)) + 1
        omega
      · show (((k + zAll zCab (a.take i) : Nat) : Int)) + 1 ≤ 9223372036854775807
        omega
      cbv
      refine ⟨?_, ?_⟩
      · show 0 ≤ (i : Int) ∧ (i : Int) < ((mkAll mCab zCab (a.take i) k ++ (⟨⟨((k + zAll zCab (a.take i) : Nat) : Int), a[i].seats.free, a[i].seats.held, a[i].seats.sold, a[i].seats.tied⟩, a[i].row, a[i].spoke⟩ : Cabin) :: a.drop (i + 1)).length : Int)
        rw [len_mid hM hR h2]; omega
      cbv
      refine Sv.mk (fun _ => mkAll mCab zCab (a.take i) k ++ (⟨⟨((k + zAll zCab (a.take i) : Nat) : Int), ((k + zAll zCab (a.take i) : Nat) : Int) + 1, a[i].seats.held, a[i].seats.sold, a[i].seats.tied⟩, a[i].row, a[i].spoke⟩ : Cabin) :: a.drop (i + 1)) ?_ ?_
      · exact set_fld (fun y => ⟨⟨y.seats.total, ((k + zAll zCab (a.take i) : Nat) : Int) + 1, y.seats.held, y.seats.sold, y.seats.tied⟩, y.row, y.spoke⟩) hM rfl
      cbv
      refine Ar.exact ?_ ?_ ?_
      · show -9223372036854775808 ≤ (((k + zAll zCab (a.take i) : Nat) : Int) + 1) + 1
        omega
      · show (((k + zAll zCab (a.take i) : Nat) : Int) + 1) + 1 ≤ 9223372036854775807
        omega
      cbv
      refine ⟨?_, ?_⟩
      · show 0 ≤ (i : Int) ∧ (i : Int) < ((mkAll mCab zCab (a.take i) k ++ (⟨⟨((k + zAll zCab (a.take i) : Nat) : Int), ((k + zAll zCab (a.take i) : Nat) : Int) + 1, a[i].seats.held, a[i].seats.sold, a[i].seats.tied⟩, a[i].row, a[i].spoke⟩ : Cabin) :: a.drop (i + 1)).length : Int)
        rw [len_mid hM hR h2]; omega
      cbv
      refine Sv.mk (fun _ => mkAll mCab zCab (a.take i) k ++ (⟨⟨((k + zAll zCab (a.take i) : Nat) : Int), ((k + zAll zCab (a.take i) : Nat) : Int) + 1, ((k + zAll zCab (a.take i) : Nat) : Int) + 1 + 1, a[i].seats.sold, a[i].seats.tied⟩, a[i].row, a[i].spoke⟩ : Cabin) :: a.drop (i + 1)) ?_ ?_
      · exact set_fld (fun y => ⟨⟨y.seats.total, y.seats.free, ((k + zAll zCab (a.take i) : Nat) : Int) + 1 + 1, y.seats.sold, y.seats.tied⟩, y.row, y.spoke⟩) hM rfl
      cbv
      refine Ar.exact ?_ ?_ ?_
      · show -9223372036854775808 ≤ (((k + zAll zCab (a.take i) : Nat) : Int) + 1 + 1) + 1
        omega
      · show (((k + zAll zCab (a.take i) : Nat) : Int) + 1 + 1) + 1 ≤ 9223372036854775807
        omega
      cbv
      refine ⟨?_, ?_⟩
      · show 0 ≤ (i : Int) ∧ (i : Int) < ((mkAll mCab zCab (a.take i) k ++ (⟨⟨((k + zAll zCab (a.take i) : Nat) : Int), ((k + zAll zCab (a.take i) : Nat) : Int) + 1, ((k + zAll zCab (a.take i) : Nat) : Int) + 1 + 1, a[i].seats.sold, a[i].seats.tied⟩, a[i].row, a[i].spoke⟩ : Cabin) :: a.drop (i + 1)).length : Int)
        rw [len_mid hM hR h2]; omega
      cbv
      refine Sv.mk (fun _ => mkAll mCab zCab (a.take i) k ++ (⟨⟨((k + zAll zCab (a.take i) : Nat) : Int), ((k + zAll zCab (a.take i) : Nat) : Int) + 1, ((k + zAll zCab (a.take i) : Nat) : Int) + 1 + 1, ((k + zAll zCab (a.take i) : Nat) : Int) + 1 + 1 + 1, a[i].seats.tied⟩, a[i].row, a[i].spoke⟩ : Cabin) :: a.drop (i + 1)) ?_ ?_
      · exact set_fld (fun y => ⟨⟨y.seats.total, y.seats.free, y.seats.held, ((k + zAll zCab (a.take i) : Nat) : Int) + 1 + 1 + 1, y.seats.tied⟩, y.row, y.spoke⟩) hM rfl
      cbv
      refine Ar.exact ?_ ?_ ?_
      · show -9223372036854775808 ≤ (((k + zAll zCab (a.take i) : Nat) : Int) + 1 + 1 + 1) + 1
        omega
      · show (((k + zAll zCab (a.take i) : Nat) : Int) + 1 + 1 + 1) + 1 ≤ 9223372036854775807
        omega
      cbv
      refine ⟨?_, ?_⟩
      · show 0 ≤ (i : Int) ∧ (i : Int) < ((mkAll mCab zCab (a.take i) k ++ (⟨⟨((k + zAll zCab (a.take i) : Nat) : Int), ((k + zAll zCab (a.take i) : Nat) : Int) + 1, ((k + zAll zCab (a.take i) : Nat) : Int) + 1 + 1, ((k + zAll zCab (a.take i) : Nat) : Int) + 1 + 1 + 1, a[i].seats.tied⟩, a[i].row, a[i].spoke⟩ : Cabin) :: a.drop (i + 1)).length : Int)
        rw [len_mid hM hR h2]; omega
      cbv
      refine Sv.mk (fun _ => mkAll mCab zCab (a.take i) k ++ (⟨⟨((k + zAll zCab (a.take i) : Nat) : Int), ((k + zAll zCab (a.take i) : Nat) : Int) + 1, ((k + zAll zCab (a.take i) : Nat) : Int) + 1 + 1, ((k + zAll zCab (a.take i) : Nat) : Int) + 1 + 1 + 1, ((k + zAll zCab (a.take i) : Nat) : Int) + 1 + 1 + 1 + 1⟩, a[i].row, a[i].spoke⟩ : Cabin) :: a.drop (i + 1)) ?_ ?_
      · exact set_fld (fun y => ⟨⟨y.seats.total, y.seats.free, y.seats.held, y.seats.sold, ((k + zAll zCab (a.take i) : Nat) : Int) + 1 + 1 + 1 + 1⟩, y.row, y.spoke⟩) hM rfl
      cbv
      refine Ar.exact ?_ ?_ ?_
      · show -9223372036854775808 ≤ (((k + zAll zCab (a.take i) : Nat) : Int) + 1 + 1 + 1 + 1) + 1
        omega
      · show (((k + zAll zCab (a.take i) : Nat) : Int) + 1 + 1 + 1 + 1) + 1 ≤ 9223372036854775807
        omega
      cbv
      refine ⟨?_, ?_⟩
      · show 0 ≤ (i : Int) ∧ (i : Int) < ((mkAll mCab zCab (a.take i) k ++ (⟨⟨((k + zAll zCab (a.take i) : Nat) : Int), ((k + zAll zCab (a.take i) : Nat) : Int) + 1, ((k + zAll zCab (a.take i) : Nat) : Int) + 1 + 1, ((k + zAll zCab (a.take i) : Nat) : Int) + 1 + 1 + 1, ((k + zAll zCab (a.take i) : Nat) : Int) + 1 + 1 + 1 + 1⟩, a[i].row, a[i].spoke⟩ : Cabin) :: a.drop (i + 1)).length : Int)
        rw [len_mid hM hR h2]; omega
      cbv
      refine CallM.byE hP (markEntryS_ok a[i].row (k + zAll zCab (a.take i) + 5) (by omega)) ?_ ?_ ?_
      · refine congrArg (fun l => [oN 0, iT fun _ => l]) ?_
        show ((k + zAll zCab (a.take i) : Nat) : Int) + 1 + 1 + 1 + 1 + 1 = ((k + zAll zCab (a.take i) + 5 : Nat) : Int)
        omega
      · refine congrArg (fun l => [(0, Blk.own .ent (fun _ => l) false)]) ?_
        have e := getD_fld (x := (⟨⟨((k + zAll zCab (a.take i) : Nat) : Int), ((k + zAll zCab (a.take i) : Nat) : Int) + 1, ((k + zAll zCab (a.take i) : Nat) : Int) + 1 + 1, ((k + zAll zCab (a.take i) : Nat) : Int) + 1 + 1 + 1, ((k + zAll zCab (a.take i) : Nat) : Int) + 1 + 1 + 1 + 1⟩, a[i].row, a[i].spoke⟩ : Cabin)) (R := a.drop (i + 1)) (d := default) hM rfl
        have e := congrArg Cabin.row e
        exact e
      cbv
      have hset : (mkAll mCab zCab (a.take i) k ++ (⟨⟨((k + zAll zCab (a.take i) : Nat) : Int), ((k + zAll zCab (a.take i) : Nat) : Int) + 1, ((k + zAll zCab (a.take i) : Nat) : Int) + 1 + 1, ((k + zAll zCab (a.take i) : Nat) : Int) + 1 + 1 + 1, ((k + zAll zCab (a.take i) : Nat) : Int) + 1 + 1 + 1 + 1⟩, a[i].row, a[i].spoke⟩ : Cabin) :: a.drop (i + 1)).set ((i : Int)).toNat
          ⟨((mkAll mCab zCab (a.take i) k ++ (⟨⟨((k + zAll zCab (a.take i) : Nat) : Int), ((k + zAll zCab (a.take i) : Nat) : Int) + 1, ((k + zAll zCab (a.take i) : Nat) : Int) + 1 + 1, ((k + zAll zCab (a.take i) : Nat) : Int) + 1 + 1 + 1, ((k + zAll zCab (a.take i) : Nat) : Int) + 1 + 1 + 1 + 1⟩, a[i].row, a[i].spoke⟩ : Cabin) :: a.drop (i + 1)).getD ((i : Int)).toNat default).seats, mkAll mEnt zEnt a[i].row (k + zAll zCab (a.take i) + 5), ((mkAll mCab zCab (a.take i) k ++ (⟨⟨((k + zAll zCab (a.take i) : Nat) : Int), ((k + zAll zCab (a.take i) : Nat) : Int) + 1, ((k + zAll zCab (a.take i) : Nat) : Int) + 1 + 1, ((k + zAll zCab (a.take i) : Nat) : Int) + 1 + 1 + 1, ((k + zAll zCab (a.take i) : Nat) : Int) + 1 + 1 + 1 + 1⟩, a[i].row, a[i].spoke⟩ : Cabin) :: a.drop (i + 1)).getD ((i : Int)).toNat default).spoke⟩ =
          mkAll mCab zCab (a.take i) k ++ (⟨⟨((k + zAll zCab (a.take i) : Nat) : Int), ((k + zAll zCab (a.take i) : Nat) : Int) + 1, ((k + zAll zCab (a.take i) : Nat) : Int) + 1 + 1, ((k + zAll zCab (a.take i) : Nat) : Int) + 1 + 1 + 1, ((k + zAll zCab (a.take i) : Nat) : Int) + 1 + 1 + 1 + 1⟩, mkAll mEnt zEnt a[i].row (k + zAll zCab (a.take i) + 5), a[i].spoke⟩ : Cabin) :: a.drop (i + 1) :=
        set_fld (fun y => ⟨y.seats, mkAll mEnt zEnt a[i].row (k + zAll zCab (a.take i) + 5), y.spoke⟩) hM rfl
      refine ⟨?_, ?_⟩
      · show 0 ≤ (i : Int) ∧ (i : Int) < ((mkAll mCab zCab (a.take i) k ++ (⟨⟨((k + zAll zCab (a.take i) : Nat) : Int), ((k + zAll zCab (a.take i) : Nat) : Int) + 1, ((k + zAll zCab (a.take i) : Nat) : Int) + 1 + 1, ((k + zAll zCab (a.take i) : Nat) : Int) + 1 + 1 + 1, ((k + zAll zCab (a.take i) : Nat) : Int) + 1 + 1 + 1 + 1⟩, a[i].row, a[i].spoke⟩ : Cabin) :: a.drop (i + 1)).length : Int)
        rw [len_mid hM hR h2]; omega
      cbv
      refine CallM.byE hP (markPinSS_ok a[i].spoke (k + zAll zCab (a.take i) + 5 + zAll zEnt a[i].row) hx.2.1 (by omega)) ?_ ?_ ?_
      · rfl
      · refine congrArg (fun l => [(0, Blk.own .spk (fun _ => l) false)]) ?_
        have e := getD_fld (d := default) hM hset
        have e := congrArg Cabin.spoke e
        exact e
      cbv
      refine Ar.exact ?_ ?_ ?_
      · show -9223372036854775808 ≤ (i : Int) + 1
        omega
      · show (i : Int) + 1 ≤ 9223372036854775807
        omega
      cbv
      refine NextE.by (i + 1) ?_ ?_ ?_
      · show a.length - (i + 1) < a.length - i
        omega
      · exact h2
      · cbv
        refine ⟨?_, rfl, ?_, trivial⟩
        · show ((k + zAll zCab (a.take i) + 5 + zAll zEnt a[i].row + zAll zPinS a[i].spoke : Nat) : Int) = ((k + zAll zCab (a.take (i + 1)) : Nat) : Int)
          rw [zAll_step zCab h2, show zCab a[i] = 5 + zAll zEnt a[i].row + zAll zPinS a[i].spoke from rfl]
          omega
        · have := (set_fld (fun y => ⟨y.seats, y.row, mkAll mPinS zPinS a[i].spoke (k + zAll zCab (a.take i) + 5 + zAll zEnt a[i].row)⟩) (d := default) hM hset).trans (mid_end mCab zCab k h2)
          exact this
    · have h2 : ¬ (i : Int) < ((mkAll mCab zCab (a.take i) k ++ a.drop i).length : Int) := h2
      rw [hlen] at h2
      have h2 : a.length ≤ i := by omega
      refine ⟨?_, ?_, trivial⟩
      · exact mid_all mCab zCab k h2
      · show ((k + zAll zCab (a.take i) : Nat) : Int) = ((k + zAll zCab a : Nat) : Int)
        rw [List.take_of_length_le h2]
theorem heldCabinS_ok (a : List Cabin) (k : Nat) (hs : smallCabs a) (hk : k + zAll zCab a ≤ 4611686018427387904) : Spec Tryz.prog 94 [lT .cab fun _ => mkAll mCab zCab a k, nT fun _ => k] (Ret (nR fun _ => k + zAll zCab a)) := by
  refine spec_of tabOk Tryz.func94 rfl rfl (fr := true) (fun _ => by kernel_rfl) fun P hP hA => ?_
  have hn : a.length ≤ 1048576 := hs.1
  cbv
  refine LoopE.by (X := Nat) (fun i => [(0, lT .cab fun _ => mkAll mCab zCab a k), (1, nT fun _ => k + zAll zCab (a.take i)), (5, nT fun _ => i)]) (fun _ => []) (fun i => i ≤ a.length) (fun i _ => a.length - i) 0 (Nat.zero_le _) ?_ ?_
  · cbv
    exact ⟨rfl, rfl, rfl, trivial⟩
  · intro i hi
    cbv
    refine Br.dec (fun h2 => ?_) (fun h2 => ?_) <;> (cbv; repeat (refine Pz.mk ?_; cbv))
    · have h2 : (i : Int) < ((mkAll mCab zCab a k).length : Int) := h2
      rw [mkAll_len] at h2
      have h2 : i < a.length := by omega
      have hx : smallCab a[i] := hs.2 _ (List.getElem_mem _)
      have hz : k + zAll zCab (a.take i) + (5 + zAll zEnt a[i].row + zAll zPinS a[i].spoke) ≤ 4611686018427387904 := by
        have := zAll_lt zCab h2
        have : zAll zCab (a.take i) + (5 + zAll zEnt a[i].row + zAll zPinS a[i].spoke) ≤ zAll zCab a := this
        omega
      have hg : (mkAll mCab zCab a k)[((i : Int)).toNat]? = some (mCab a[i] (k + zAll zCab (a.take i))) := by
        rw [Int.toNat_natCast, mkAll_get mCab zCab k h2]
      refine ⟨mCab a[i] (k + zAll zCab (a.take i)), by simp, hg, ?_⟩
      cbv
      refine Br.split (fun g0 => ?_) (fun g0 => ?_) <;> (cbv; repeat (refine Pz.mk ?_; cbv))
      · exact (bne_no g0).elim
      refine Ar.exact ?_ ?_ ?_
      · show -9223372036854775808 ≤ (((k + zAll zCab (a.take i) : Nat) : Int)) + 1
        omega
      · show (((k + zAll zCab (a.take i) : Nat) : Int)) + 1 ≤ 9223372036854775807
        omega
      cbv
      refine ⟨mCab a[i] (k + zAll zCab (a.take i)), by simp, hg, ?_⟩
      cbv
      refine Br.split (fun g1 => ?_) (fun g1 => ?_) <;> (cbv; repeat (refine Pz.mk ?_; cbv))
      · exact (bne_no g1).elim
      refine Ar.exact ?_ ?_ ?_
      · show -9223372036854775808 ≤ (((k + zAll zCab (a.take i) : Nat) : Int) + 1) + 1
        omega
      · show (((k + zAll zCab (a.take i) : Nat) : Int) + 1) + 1 ≤ 9223372036854775807
        omega
      cbv
      refine ⟨mCab a[i] (k + zAll zCab (a.take i)), by simp, hg, ?_⟩
      cbv
      refine Br.split (fun g2 => ?_) (fun g2 => ?_) <;> (cbv; repeat (refine Pz.mk ?_; cbv))
      · exact (bne_no g2).elim
      refine Ar.exact ?_ ?_ ?_
      · show -9223372036854775808 ≤ (((k + zAll zCab (a.take i) : Nat) : Int) + 1 + 1) + 1
        omega
      · show (((k + zAll zCab (a.take i) : Nat) : Int) + 1 + 1) + 1 ≤ 9223372036854775807
        omega
      cbv
      refine ⟨mCab a[i] (k + zAll zCab (a.take i)), by simp, hg, ?_⟩
      cbv
      refine Br.split (fun g3 => ?_) (fun g3 => ?_) <;> (cbv; repeat (refine Pz.mk ?_; cbv))
      · exact (bne_no g3).elim
      refine Ar.exact ?_ ?_ ?_
      · show -9223372036854775808 ≤ (((k + zAll zCab (a.take i) : Nat) : Int) + 1 + 1 + 1) + 1
        omega
      · show (((k + zAll zCab (a.take i) : Nat) : Int) + 1 + 1 + 1) + 1 ≤ 9223372036854775807
        omega
      cbv
      refine ⟨mCab a[i] (k + zAll zCab (a.take i)), by simp, hg, ?_⟩
      cbv
      refine Br.split (fun g4 => ?_) (fun g4 => ?_) <;> (cbv; repeat (refine Pz.mk ?_; cbv))
      · exact (bne_no g4).elim
      refine Ar.exact ?_ ?_ ?_
      · show -9223372036854775808 ≤ (((k + zAll zCab (a.take i) : Nat) : Int) + 1 + 1 + 1 + 1) + 1
        omega
      · show (((k + zAll zCab (a.take i) : Nat) : Int) + 1 + 1 + 1 + 1) + 1 ≤ 9223372036854775807
        omega
      cbv
      refine ⟨mCab a[i] (k + zAll zCab (a.take i)), by simp, hg, ?_⟩
      cbv
      refine CallA.byE hP (heldEntryS_ok a[i].row (k + zAll zCab (a.take i) + 5) (by omega)) ?_ ?_
      · refine congrArg (fun l => [lT .ent fun _ => mkAll mEnt zEnt a[i].row (k + zAll zCab (a.take i) + 5), iT fun _ => l]) ?_
        show ((k + zAll zCab (a.take i) : Nat) : Int) + 1 + 1 + 1 + 1 + 1 = ((k + zAll zCab (a.take i) + 5 : Nat) : Int)
        omega
      cbv
      refine Br.split (fun g5 => ?_) (fun g5 => ?_) <;> (cbv; repeat (refine Pz.mk ?_; cbv))
      · exact (neg_no g5).elim
      refine ⟨mCab a[i] (k + zAll zCab (a.take i)), by simp, hg, ?_⟩
      cbv
      refine CallA.byE hP (heldPinSS_ok a[i].spoke (k + zAll zCab (a.take i) + 5 + zAll zEnt a[i].row) hx.2.1 (by omega)) rfl ?_
      cbv
      refine Br.split (fun g6 => ?_) (fun g6 => ?_) <;> (cbv; repeat (refine Pz.mk ?_; cbv))
      · exact (neg_no g6).elim
      refine Ar.exact ?_ ?_ ?_
      · show -9223372036854775808 ≤ (i : Int) + 1
        omega
      · show (i : Int) + 1 ≤ 9223372036854775807
        omega
      cbv
      refine NextE.by (i + 1) ?_ ?_ ?_
      · show a.length - (i + 1) < a.length - i
        omega
      · exact h2
      · cbv
        refine ⟨rfl, ?_, rfl, trivial⟩
        show ((k + zAll zCab (a.take i) + 5 + zAll zEnt a[i].row + zAll zPinS a[i].spoke : Nat) : Int) = ((k + zAll zCab (a.take (i + 1)) : Nat) : Int)
        rw [zAll_step zCab h2, show zCab a[i] = 5 + zAll zEnt a[i].row + zAll zPinS a[i].spoke from rfl]
        omega
    · have h2 : ¬ (i : Int) < ((mkAll mCab zCab a k).length : Int) := h2
      rw [mkAll_len] at h2
      have h2 : a.length ≤ i := by omega
      refine ⟨?_, trivial⟩
      show ((k + zAll zCab (a.take i) : Nat) : Int) = ((k + zAll zCab a : Nat) : Int)
      rw [List.take_of_length_le h2]
def ruO (x : Rules) : V := .agg [.own 0, .lf (.int .i64 fun _ => x.tiers), .lf (.int .i64 fun _ => x.room), .lf (.int .i64 fun _ => x.size), .lf (.int .i64 fun _ => x.period), .lf (.int .i64 fun _ => x.window), .lf (.int .i64 fun _ => x.rest), .lf (.int .i64 fun _ => x.tries), .lf (.int .i64 fun _ => x.crew)]
def hoO (x : House) : V := .agg [.own 0, .lf (.int .i64 fun _ => x.rules.tiers), .lf (.int .i64 fun _ => x.rules.room), .lf (.int .i64 fun _ => x.rules.size), .lf (.int .i64 fun _ => x.rules.period), .lf (.int .i64 fun _ => x.rules.window), .lf (.int .i64 fun _ => x.rules.rest), .lf (.int .i64 fun _ => x.rules.tries), .lf (.int .i64 fun _ => x.rules.crew), .lf (.int .i64 fun _ => x.now), .lf (.int .i64 fun _ => x.turn), .own 1, .own 2, .own 3, .own 4]
def hoBs (x : House) : List (Nat × Blk) := [(0, ownB' .int fun _ => x.rules.seats), (1, ownB' .pty fun _ => x.parties), (2, ownB' .cab fun _ => x.cabins), (3, ownB' .int fun _ => x.todo), (4, ownB' .int fun _ => x.jobs)]
def ruT (x : Unit → Rules) : V := .agg [.lf (.list .int fun _ => (x ()).seats), .lf (.int .i64 fun _ => (x ()).tiers), .lf (.int .i64 fun _ => (x ()).room), .lf (.int .i64 fun _ => (x ()).size), .lf (.int .i64 fun _ => (x ()).period), .lf (.int .i64 fun _ => (x ()).window), .lf (.int .i64 fun _ => (x ()).rest), .lf (.int .i64 fun _ => (x ()).tries), .lf (.int .i64 fun _ => (x ()).crew)]
def hoT (x : Unit → House) : V := .agg [.lf (.list .int fun _ => (x ()).rules.seats), .lf (.int .i64 fun _ => (x ()).rules.tiers), .lf (.int .i64 fun _ => (x ()).rules.room), .lf (.int .i64 fun _ => (x ()).rules.size), .lf (.int .i64 fun _ => (x ()).rules.period), .lf (.int .i64 fun _ => (x ()).rules.window), .lf (.int .i64 fun _ => (x ()).rules.rest), .lf (.int .i64 fun _ => (x ()).rules.tries), .lf (.int .i64 fun _ => (x ()).rules.crew), .lf (.int .i64 fun _ => (x ()).now), .lf (.int .i64 fun _ => (x ()).turn), .lf (.list .pty fun _ => (x ()).parties), .lf (.list .cab fun _ => (x ()).cabins), .lf (.list .int fun _ => (x ()).todo), .lf (.list .int fun _ => (x ()).jobs)]
def mRu (x : Rules) (k : Nat) : Rules := ⟨markL x.seats.length k, x.tiers, x.room, x.size, x.period, x.window, x.rest, x.tries, x.crew⟩
def mHo (x : House) (k : Nat) : House := ⟨mRu x.rules k, x.now, x.turn, mkAll mPty zPty x.parties (k + x.rules.seats.length), mkAll mCab zCab x.cabins (k + x.rules.seats.length + zAll zPty x.parties), markL x.todo.length (k + x.rules.seats.length + zAll zPty x.parties + zAll zCab x.cabins), markL x.jobs.length (k + x.rules.seats.length + zAll zPty x.parties + zAll zCab x.cabins + x.todo.length)⟩
def zHo (x : House) : Nat := x.rules.seats.length + zAll zPty x.parties + zAll zCab x.cabins + x.todo.length + x.jobs.length
theorem markRules_ok (a : Rules) (k : Nat) (hk : k + a.seats.length ≤ 4611686018427387904) :
    SpecM Tryz.prog 69 [ruO a, nT fun _ => k] [(0, ownB' .int fun _ => a.seats)] (RetM (nR fun _ => k + a.seats.length) [(0, .own .int fun _ => markL a.seats.length k)]) := by
  refine specM_of tabOk Tryz.func69 rfl rfl (fr := true) (fun _ => by kernel_rfl) rfl rfl fun P hP hA hB => ?_
  cbv
  refine CallM.by hP (markIntS_ok a.seats k hk) ?_
  cbv
  repeat (refine Pz.mk ?_; cbv)
  exact ⟨rfl, rfl, trivial⟩
theorem heldRules_ok (a : Rules) (k : Nat) (hk : k + a.seats.length ≤ 4611686018427387904) : Spec Tryz.prog 92 [ruT fun _ => mRu a k, nT fun _ => k] (Ret (nR fun _ => k + a.seats.length)) := by
  refine spec_of tabOk Tryz.func92 rfl rfl (fr := true) (fun _ => by kernel_rfl) fun P hP hA => ?_
  cbv
  refine CallA.by hP (heldIntS_ok a.seats.length k hk) ?_
  cbv
  repeat (refine Pz.mk ?_; cbv)
  refine Br.split (fun g => ?_) (fun g => ?_) <;> (cbv; repeat (refine Pz.mk ?_; cbv))
  · exact (neg_no g).elim
  exact ⟨rfl, trivial⟩
theorem markHouse_ok (a : House) (k : Nat) (hs : smallCabs a.cabins) (hk : k + zHo a ≤ 4611686018427387904) :
    SpecM Tryz.prog 21 [hoO a, nT fun _ => k] (hoBs a) (RetM (nR fun _ => k + zHo a) [(0, .own .int fun _ => (mHo a k).rules.seats), (1, .own .pty fun _ => (mHo a k).parties), (2, .own .cab fun _ => (mHo a k).cabins), (3, .own .int fun _ => (mHo a k).todo), (4, .own .int fun _ => (mHo a k).jobs)]) := by
  refine specM_of tabOk Tryz.func21 rfl rfl (fr := true) (fun _ => by kernel_rfl) rfl rfl fun P hP hA hB => ?_
  have hk : k + (a.rules.seats.length + zAll zPty a.parties + zAll zCab a.cabins + a.todo.length + a.jobs.length) ≤ 4611686018427387904 := hk
  cbv
  refine CallM.by hP (markRules_ok a.rules k (by omega)) ?_
  cbv
  repeat (refine Pz.mk ?_; cbv)
  refine CallM.by hP (markPartyS_ok a.parties (k + a.rules.seats.length) (by omega)) ?_
  cbv
  repeat (refine Pz.mk ?_; cbv)
  refine CallM.by hP (markCabinS_ok a.cabins (k + a.rules.seats.length + zAll zPty a.parties) hs (by omega)) ?_
  cbv
  repeat (refine Pz.mk ?_; cbv)
  refine CallM.by hP (markIntS_ok a.todo (k + a.rules.seats.length + zAll zPty a.parties + zAll zCab a.cabins) (by omega)) ?_
  cbv
  repeat (refine Pz.mk ?_; cbv)
  refine CallM.by hP (markIntS_ok a.jobs (k + a.rules.seats.length + zAll zPty a.parties + zAll zCab a.cabins + a.todo.length) (by omega)) ?_
  cbv
  repeat (refine Pz.mk ?_; cbv)
  refine ⟨rfl, rfl, rfl, rfl, rfl, ?_, trivial⟩
  show ((k + a.rules.seats.length + zAll zPty a.parties + zAll zCab a.cabins + a.todo.length + a.jobs.length : Nat) : Int) = ((k + (a.rules.seats.length + zAll zPty a.parties + zAll zCab a.cabins + a.todo.length + a.jobs.length) : Nat) : Int)
  omega
theorem heldHouse_ok (a : House) (k : Nat) (hs : smallCabs a.cabins) (hk : k + zHo a ≤ 4611686018427387904) : Spec Tryz.prog 34 [hoT fun _ => mHo a k, nT fun _ => k] (Ret (nR fun _ => k + zHo a)) := by
  refine spec_of tabOk Tryz.func34 rfl rfl (fr := true) (fun _ => by kernel_rfl) fun P hP hA => ?_
  have hk : k + (a.rules.seats.length + zAll zPty a.parties + zAll zCab a.cabins + a.todo.length + a.jobs.length) ≤ 4611686018427387904 := hk
  cbv
  refine CallA.by hP (heldRules_ok a.rules k (by omega)) ?_
  cbv
  repeat (refine Pz.mk ?_; cbv)
  refine Br.split (fun g0 => ?_) (fun g0 => ?_) <;> (cbv; repeat (refine Pz.mk ?_; cbv))
  · exact (neg_no g0).elim
  refine CallA.by hP (heldPartyS_ok a.parties (k + a.rules.seats.length) (by omega)) ?_
  cbv
  repeat (refine Pz.mk ?_; cbv)
  refine Br.split (fun g1 => ?_) (fun g1 => ?_) <;> (cbv; repeat (refine Pz.mk ?_; cbv))
  · exact (neg_no g1).elim
  refine CallA.by hP (heldCabinS_ok a.cabins (k + a.rules.seats.length + zAll zPty a.parties) hs (by omega)) ?_
  cbv
  repeat (refine Pz.mk ?_; cbv)
  refine Br.split (fun g2 => ?_) (fun g2 => ?_) <;> (cbv; repeat (refine Pz.mk ?_; cbv))
  · exact (neg_no g2).elim
  refine CallA.by hP (heldIntS_ok a.todo.length (k + a.rules.seats.length + zAll zPty a.parties + zAll zCab a.cabins) (by omega)) ?_
  cbv
  repeat (refine Pz.mk ?_; cbv)
  refine Br.split (fun g3 => ?_) (fun g3 => ?_) <;> (cbv; repeat (refine Pz.mk ?_; cbv))
  · exact (neg_no g3).elim
  refine CallA.by hP (heldIntS_ok a.jobs.length (k + a.rules.seats.length + zAll zPty a.parties + zAll zCab a.cabins + a.todo.length) (by omega)) ?_
  cbv
  repeat (refine Pz.mk ?_; cbv)
  refine Br.split (fun g4 => ?_) (fun g4 => ?_) <;> (cbv; repeat (refine Pz.mk ?_; cbv))
  · exact (neg_no g4).elim
  refine ⟨?_, trivial⟩
  show ((k + a.rules.seats.length + zAll zPty a.parties + zAll zCab a.cabins + a.todo.length + a.jobs.length : Nat) : Int) = ((k + (a.rules.seats.length + zAll zPty a.parties + zAll zCab a.cabins + a.todo.length + a.jobs.length) : Nat) : Int)
  omega
end Go.Proofs.YtnenmkiabclncaaGreat

