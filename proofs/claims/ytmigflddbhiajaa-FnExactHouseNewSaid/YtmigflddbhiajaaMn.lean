/-
  Marks of nested lists and of structs with lists. No conditions.
-/
import Derived.Test.YtmigflddbhiajaaMk
namespace Go.Proofs.Ytmigflddbhiajaa
open Go
set_option maxRecDepth 100000

theorem markPinSS_ok (a : List (List Pin)) (k : Nat) (hn : a.length ≤ bigN) (hk : k + zAll zPinS a ≤ 4611686018427387904) :
    SpecM Try.prog 41 [oN 0, nT fun _ => k] [(0, ownB' .spk fun _ => a)] (RetM (nR fun _ => k + zAll zPinS a) [(0, .own .spk fun _ => mkAll mPinS zPinS a k)]) := by
  refine specM_of tabOk Try.func41 rfl rfl rfl rfl fun P hP hA hB => ?_
  have hn : a.length ≤ 1048576 := hn
  cbv
  refine LoopE.by (X := Nat) (fun i => [(0, oN 0), (1, nT fun _ => k + zAll zPinS (a.take i)), (5, nT fun _ => i)]) (fun i => [(0, ownB' .spk fun _ => mkAll mPinS zPinS (a.take i) k ++ a.drop i)]) (fun i => i ≤ a.length) (fun i _ => a.length - i) 0 (Nat.zero_le _) ?_ ?_
  · cbv
    exact ⟨rfl, rfl, rfl, trivial⟩
  · intro i hi
    have hlen : (mkAll mPinS zPinS (a.take i) k ++ a.drop i).length = a.length := mid_len mPinS zPinS a i k
    cbv
    refine Br.dec (fun h2 => ?_) (fun h2 => ?_) <;> cbv
    · have h2 : (i : Int) < ((mkAll mPinS zPinS (a.take i) k ++ a.drop i).length : Int) := h2
      rw [hlen] at h2
      have h2 : i < a.length := by omega
      have hM : (mkAll mPinS zPinS (a.take i) k).length = i := mid_lt mPinS zPinS k h2
      have hz : k + zAll zPinS (a.take i) + zAll zPin a[i] ≤ 4611686018427387904 := by
        have := zAll_lt zPinS h2
        have : zAll zPinS (a.take i) + zAll zPin a[i] ≤ zAll zPinS a := this
        omega
      refine ⟨?_, ?_⟩
      · show 0 ≤ (i : Int) ∧ (i : Int) < ((mkAll mPinS zPinS (a.take i) k ++ a.drop i).length : Int)
        rw [hlen]; omega
      cbv
      refine CallM.byE hP (markPinS_ok a[i] (k + zAll zPinS (a.take i)) hz) rfl ?_ ?_
      · refine congrArg (fun l => [(0, Blk.own .pin (fun _ => l) false)]) ?_
        exact getD_fld hM (mid_eq mPinS zPinS k h2)
      cbv
      refine Ar.exact ?_ ?_ ?_
      · show -9223372036854775808 ≤ (i : Int) + 1
        omega
      · show (i : Int) + 1 ≤ 9223372036854775807
        omega
      cbv
      refine NextE.by (i + 1) ?_ ?_ ?_
      · show a.length - (i + 1) < a.length - i
        omega
      · exact h2
      · cbv
        refine ⟨?_, rfl, ?_, trivial⟩
        · show ((k + zAll zPinS (a.take i) + zAll zPin a[i] : Nat) : Int) = ((k + zAll zPinS (a.take (i + 1)) : Nat) : Int)
          rw [zAll_step zPinS h2, show zPinS a[i] = zAll zPin a[i] from rfl, Nat.add_assoc]
        · exact (set_fld (fun _ => mkAll mPin zPin a[i] (k + zAll zPinS (a.take i))) (d := []) hM (mid_eq mPinS zPinS k h2)).trans (mid_end mPinS zPinS k h2)
    · have h2 : ¬ (i : Int) < ((mkAll mPinS zPinS (a.take i) k ++ a.drop i).length : Int) := h2
      rw [hlen] at h2
      have h2 : a.length ≤ i := by omega
      refine ⟨?_, ?_, trivial⟩
      · exact mid_all mPinS zPinS k h2
      · show ((k + zAll zPinS (a.take i) : Nat) : Int) = ((k + zAll zPinS a : Nat) : Int)
        rw [List.take_of_length_le h2]

theorem heldPinSS_ok (a : List (List Pin)) (k : Nat) (hn : a.length ≤ bigN) (hk : k + zAll zPinS a ≤ 4611686018427387904) : Spec Try.prog 43 [lT .spk fun _ => mkAll mPinS zPinS a k, nT fun _ => k] (Ret (nR fun _ => k + zAll zPinS a)) := by
  refine spec_of tabOk Try.func43 rfl rfl fun P hP hA => ?_
  have hn : a.length ≤ 1048576 := hn
  cbv
  refine LoopE.by (X := Nat) (fun i => [(0, lT .spk fun _ => mkAll mPinS zPinS a k), (1, nT fun _ => k + zAll zPinS (a.take i)), (5, nT fun _ => i)]) (fun _ => []) (fun i => i ≤ a.length) (fun i _ => a.length - i) 0 (Nat.zero_le _) ?_ ?_
  · cbv
    exact ⟨rfl, rfl, rfl, trivial⟩
  · intro i hi
    cbv
    refine Br.dec (fun h2 => ?_) (fun h2 => ?_) <;> cbv
    · have h2 : (i : Int) < ((mkAll mPinS zPinS a k).length : Int) := h2
      rw [mkAll_len] at h2
      have h2 : i < a.length := by omega
      have hz : k + zAll zPinS (a.take i) + zAll zPin a[i] ≤ 4611686018427387904 := by
        have := zAll_lt zPinS h2
        have : zAll zPinS (a.take i) + zAll zPin a[i] ≤ zAll zPinS a := this
        omega
      have hg : (mkAll mPinS zPinS a k)[((i : Int)).toNat]? = some (mPinS a[i] (k + zAll zPinS (a.take i))) := by
        rw [Int.toNat_natCast, mkAll_get mPinS zPinS k h2]
      refine ⟨mPinS a[i] (k + zAll zPinS (a.take i)), by simp, hg, ?_⟩
      cbv
      refine CallA.byE hP (heldPinS_ok a[i] (k + zAll zPinS (a.take i)) hz) rfl ?_
      cbv
      refine Br.split (fun g => ?_) (fun g => ?_) <;> cbv
      · exact (neg_no g).elim
      refine Ar.exact ?_ ?_ ?_
      · show -9223372036854775808 ≤ (i : Int) + 1
        omega
      · show (i : Int) + 1 ≤ 9223372036854775807
        omega
      cbv
      refine NextE.by (i + 1) ?_ ?_ ?_
      · show a.length - (i + 1) < a.length - i
        omega
      · exact h2
      · cbv
        refine ⟨rfl, ?_, rfl, trivial⟩
        show ((k + zAll zPinS (a.take i) + zAll zPin a[i] : Nat) : Int) = ((k + zAll zPinS (a.take (i + 1)) : Nat) : Int)
        rw [zAll_step zPinS h2, show zPinS a[i] = zAll zPin a[i] from rfl, Nat.add_assoc]
    · have h2 : ¬ (i : Int) < ((mkAll mPinS zPinS a k).length : Int) := h2
      rw [mkAll_len] at h2
      have h2 : a.length ≤ i := by omega
      refine ⟨?_, trivial⟩
      show ((k + zAll zPinS (a.take i) : Nat) : Int) = ((k + zAll zPinS a : Nat) : Int)
      rw [List.take_of_length_le h2]

theorem markCabinS_ok (a : List Cabin) (k : Nat) (hs : smallCabs a) (hk : k + zAll zCab a ≤ 4611686018427387904) :
    SpecM Try.prog 26 [oN 0, nT fun _ => k] [(0, ownB' .cab fun _ => a)] (RetM (nR fun _ => k + zAll zCab a) [(0, .own .cab fun _ => mkAll mCab zCab a k)]) := by
  refine specM_of tabOk Try.func26 rfl rfl rfl rfl fun P hP hA hB => ?_
  have hn : a.length ≤ 1048576 := hs.1
  cbv
  refine LoopE.by (X := Nat) (fun i => [(0, oN 0), (1, nT fun _ => k + zAll zCab (a.take i)), (5, nT fun _ => i)]) (fun i => [(0, ownB' .cab fun _ => mkAll mCab zCab (a.take i) k ++ a.drop i)]) (fun i => i ≤ a.length) (fun i _ => a.length - i) 0 (Nat.zero_le _) ?_ ?_
  · cbv
    exact ⟨rfl, rfl, rfl, trivial⟩
  · intro i hi
    have hlen : (mkAll mCab zCab (a.take i) k ++ a.drop i).length = a.length := mid_len mCab zCab a i k
    cbv
    refine Br.dec (fun h2 => ?_) (fun h2 => ?_) <;> cbv
    · have h2 : (i : Int) < ((mkAll mCab zCab (a.take i) k ++ a.drop i).length : Int) := h2
      rw [hlen] at h2
      have h2 : i < a.length := by omega
      have hM : (mkAll mCab zCab (a.take i) k).length = i := mid_lt mCab zCab k h2
      have hR : (a.drop (i + 1)).length = a.length - (i + 1) := by simp
      have hx : smallCab a[i] := hs.2 _ (List.getElem_mem _)
      have hz : k + zAll zCab (a.take i) + (5 + zAll zEnt a[i].row + zAll zPinS a[i].spoke) ≤ 4611686018427387904 := by
        have := zAll_lt zCab h2
        have : zAll zCab (a.take i) + (5 + zAll zEnt a[i].row + zAll zPinS a[i].spoke) ≤ zAll zCab a := this
        omega
      refine ⟨?_, ?_⟩
      · show 0 ≤ (i : Int) ∧ (i : Int) < ((mkAll mCab zCab (a.take i) k ++ a.drop i).length : Int)
        rw [hlen]; omega
      cbv
      refine Sv.mk (fun _ => mkAll mCab zCab (a.take i) k ++ (⟨⟨((k + zAll zCab (a.take i) : Nat) : Int), a[i].seats.free, a[i].seats.held, a[i].seats.sold, a[i].seats.tied⟩, a[i].row, a[i].spoke⟩ : Cabin) :: a.drop (i + 1)) ?_ ?_
      · exact set_fld (fun y => ⟨⟨((k + zAll zCab (a.take i) : Nat) : Int), y.seats.free, y.seats.held, y.seats.sold, y.seats.tied⟩, y.row, y.spoke⟩) hM (mid_eq mCab zCab k h2)
      cbv
      refine Ar.exact ?_ ?_ ?_
      · show -9223372036854775808 ≤ (((k + zAll zCab (a.take i) : Nat) : Int)) + 1
        omega
      · show (((k + zAll zCab (a.take i) : Nat) : Int)) + 1 ≤ 9223372036854775807
        omega
      cbv
      refine ⟨?_, ?_⟩
      · show 0 ≤ (i : Int) ∧ (i : Int) < ((mkAll mCab zCab (a.take i) k ++ (⟨⟨((k + zAll zCab (a.take i) : Nat) : Int), a[i].seats.free, a[i].seats.held, a[i].seats.sold, a[i].seats.tied⟩, a[i].row, a[i].spoke⟩ : Cabin) :: a.drop (i + 1)).length : Int)
        rw [len_mid hM hR h2]; omega
      cbv
      refine Sv.mk (fun _ => mkAll mCab zCab (a.take i) k ++ (⟨⟨((k + zAll zCab (a.take i) : Nat) : Int), ((k + zAll zCab (a.take i) : Nat) : Int) + 1, a[i].seats.held, a[i].seats.sold, a[i].seats.tied⟩, a[i].row, a[i].spoke⟩ : Cabin) :: a.drop (i + 1)) ?_ ?_
      · exact set_fld (fun y => ⟨⟨y.seats.total, ((k + zAll zCab (a.take i) : Nat) : Int) + 1, y.seats.held, y.seats.sold, y.seats.tied⟩, y.row, y.spoke⟩) hM rfl
      cbv
      refine Ar.exact ?_ ?_ ?_
      · show -9223372036854775808 ≤ (((k + zAll zCab (a.take i) : Nat) : Int) + 1) + 1
        omega
      · show (((k + zAll zCab (a.take i) : Nat) : Int) + 1) + 1 ≤ 9223372036854775807
        omega
      cbv
      refine ⟨?_, ?_⟩
      · show 0 ≤ (i : Int) ∧ (i : Int) < ((mkAll mCab zCab (a.take i) k ++ (⟨⟨((k + zAll zCab (a.take i) : Nat) : Int), ((k + zAll zCab (a.take i) : Nat) : Int) + 1, a[i].seats.held, a[i].seats.sold, a[i].seats.tied⟩, a[i].row, a[i].spoke⟩ : Cabin) :: a.drop (i + 1)).length : Int)
        rw [len_mid hM hR h2]; omega
      cbv
      refine Sv.mk (fun _ => mkAll mCab zCab (a.take i) k ++ (⟨⟨((k + zAll zCab (a.take i) : Nat) : Int), ((k + zAll zCab (a.take i) : Nat) : Int) + 1, ((k + zAll zCab (a.take i) : Nat) : Int) + 1 + 1, a[i].seats.sold, a[i].seats.tied⟩, a[i].row, a[i].spoke⟩ : Cabin) :: a.drop (i + 1)) ?_ ?_
      · exact set_fld (fun y => ⟨⟨y.seats.total, y.seats.free, ((k + zAll zCab (a.take i) : Nat) : Int) + 1 + 1, y.seats.sold, y.seats.tied⟩, y.row, y.spoke⟩) hM rfl
      cbv
      refine Ar.exact ?_ ?_ ?_
      · show -9223372036854775808 ≤ (((k + zAll zCab (a.take i) : Nat) : Int) + 1 + 1) + 1
        omega
      · show (((k + zAll zCab (a.take i) : Nat) : Int) + 1 + 1) + 1 ≤ 9223372036854775807
        omega
      cbv
      refine ⟨?_, ?_⟩
      · show 0 ≤ (i : Int) ∧ (i : Int) < ((mkAll mCab zCab (a.take i) k ++ (⟨⟨((k + zAll zCab (a.take i) : Nat) : Int), ((k + zAll zCab (a.take i) : Nat) : Int) + 1, ((k + zAll zCab (a.take i) : Nat) : Int) + 1 + 1, a[i].seats.sold, a[i].seats.tied⟩, a[i].row, a[i].spoke⟩ : Cabin) :: a.drop (i + 1)).length : Int)
        rw [len_mid hM hR h2]; omega
      cbv
      refine Sv.mk (fun _ => mkAll mCab zCab (a.take i) k ++ (⟨⟨((k + zAll zCab (a.take i) : Nat) : Int), ((k + zAll zCab (a.take i) : Nat) : Int) + 1, ((k + zAll zCab (a.take i) : Nat) : Int) + 1 + 1, ((k + zAll zCab (a.take i) : Nat) : Int) + 1 + 1 + 1, a[i].seats.tied⟩, a[i].row, a[i].spoke⟩ : Cabin) :: a.drop (i + 1)) ?_ ?_
      · exact set_fld (fun y => ⟨⟨y.seats.total, y.seats.free, y.seats.held, ((k + zAll zCab (a.take i) : Nat) : Int) + 1 + 1 + 1, y.seats.tied⟩, y.row, y.spoke⟩) hM rfl
      cbv
      refine Ar.exact ?_ ?_ ?_
      · show -9223372036854775808 ≤ (((k + zAll zCab (a.take i) : Nat) : Int) + 1 + 1 + 1) + 1
        omega
      · show (((k + zAll zCab (a.take i) : Nat) : Int) + 1 + 1 + 1) + 1 ≤ 9223372036854775807
        omega
      cbv
      refine ⟨?_, ?_⟩
      · show 0 ≤ (i : Int) ∧ (i : Int) < ((mkAll mCab zCab (a.take i) k ++ (⟨⟨((k + zAll zCab (a.take i) : Nat) : Int), ((k + zAll zCab (a.take i) : Nat) : Int) + 1, ((k + zAll zCab (a.take i) : Nat) : Int) + 1 + 1, ((k + zAll zCab (a.take i) : Nat) : Int) + 1 + 1 + 1, a[i].seats.tied⟩, a[i].row, a[i].spoke⟩ : Cabin) :: a.drop (i + 1)).length : Int)
        rw [len_mid hM hR h2]; omega
      cbv
      refine Sv.mk (fun _ => mkAll mCab zCab (a.take i) k ++ (⟨⟨((k + zAll zCab (a.take i) : Nat) : Int), ((k + zAll zCab (a.take i) : Nat) : Int) + 1, ((k + zAll zCab (a.take i) : Nat) : Int) + 1 + 1, ((k + zAll zCab (a.take i) : Nat) : Int) + 1 + 1 + 1, ((k + zAll zCab (a.take i) : Nat) : Int) + 1 + 1 + 1 + 1⟩, a[i].row, a[i].spoke⟩ : Cabin) :: a.drop (i + 1)) ?_ ?_
      · exact set_fld (fun y => ⟨⟨y.seats.total, y.seats.free, y.seats.held, y.seats.sold, ((k + zAll zCab (a.take i) : Nat) : Int) + 1 + 1 + 1 + 1⟩, y.row, y.spoke⟩) hM rfl
      cbv
      refine Ar.exact ?_ ?_ ?_
      · show -9223372036854775808 ≤ (((k + zAll zCab (a.take i) : Nat) : Int) + 1 + 1 + 1 + 1) + 1
        omega
      · show (((k + zAll zCab (a.take i) : Nat) : Int) + 1 + 1 + 1 + 1) + 1 ≤ 9223372036854775807
        omega
      cbv
      refine ⟨?_, ?_⟩
      · show 0 ≤ (i : Int) ∧ (i : Int) < ((mkAll mCab zCab (a.take i) k ++ (⟨⟨((k + zAll zCab (a.take i) : Nat) : Int), ((k + zAll zCab (a.take i) : Nat) : Int) + 1, ((k + zAll zCab (a.take i) : Nat) : Int) + 1 + 1, ((k + zAll zCab (a.take i) : Nat) : Int) + 1 + 1 + 1, ((k + zAll zCab (a.take i) : Nat) : Int) + 1 + 1 + 1 + 1⟩, a[i].row, a[i].spoke⟩ : Cabin) :: a.drop (i + 1)).length : Int)
        rw [len_mid hM hR h2]; omega
      cbv
      refine CallM.byE hP (markEntryS_ok a[i].row (k + zAll zCab (a.take i) + 5) (by omega)) ?_ ?_ ?_
      · refine congrArg (fun l => [oN 0, iT fun _ => l]) ?_
        show ((k + zAll zCab (a.take i) : Nat) : Int) + 1 + 1 + 1 + 1 + 1 = ((k + zAll zCab (a.take i) + 5 : Nat) : Int)
        omega
      · refine congrArg (fun l => [(0, Blk.own .ent (fun _ => l) false)]) ?_
        have e := getD_fld (x := (⟨⟨((k + zAll zCab (a.take i) : Nat) : Int), ((k + zAll zCab (a.take i) : Nat) : Int) + 1, ((k + zAll zCab (a.take i) : Nat) : Int) + 1 + 1, ((k + zAll zCab (a.take i) : Nat) : Int) + 1 + 1 + 1, ((k + zAll zCab (a.take i) : Nat) : Int) + 1 + 1 + 1 + 1⟩, a[i].row, a[i].spoke⟩ : Cabin)) (R := a.drop (i + 1)) (d := default) hM rfl
        have e := congrArg Cabin.row e
        exact e
      cbv
      have hset : (mkAll mCab zCab (a.take i) k ++ (⟨⟨((k + zAll zCab (a.take i) : Nat) : Int), ((k + zAll zCab (a.take i) : Nat) : Int) + 1, ((k + zAll zCab (a.take i) : Nat) : Int) + 1 + 1, ((k + zAll zCab (a.take i) : Nat) : Int) + 1 + 1 + 1, ((k + zAll zCab (a.take i) : Nat) : Int) + 1 + 1 + 1 + 1⟩, a[i].row, a[i].spoke⟩ : Cabin) :: a.drop (i + 1)).set ((i : Int)).toNat
          ⟨((mkAll mCab zCab (a.take i) k ++ (⟨⟨((k + zAll zCab (a.take i) : Nat) : Int), ((k + zAll zCab (a.take i) : Nat) : Int) + 1, ((k + zAll zCab (a.take i) : Nat) : Int) + 1 + 1, ((k + zAll zCab (a.take i) : Nat) : Int) + 1 + 1 + 1, ((k + zAll zCab (a.take i) : Nat) : Int) + 1 + 1 + 1 + 1⟩, a[i].row, a[i].spoke⟩ : Cabin) :: a.drop (i + 1)).getD ((i : Int)).toNat default).seats, mkAll mEnt zEnt a[i].row (k + zAll zCab (a.take i) + 5), ((mkAll mCab zCab (a.take i) k ++ (⟨⟨((k + zAll zCab (a.take i) : Nat) : Int), ((k + zAll zCab (a.take i) : Nat) : Int) + 1, ((k + zAll zCab (a.take i) : Nat) : Int) + 1 + 1, ((k + zAll zCab (a.take i) : Nat) : Int) + 1 + 1 + 1, ((k + zAll zCab (a.take i) : Nat) : Int) + 1 + 1 + 1 + 1⟩, a[i].row, a[i].spoke⟩ : Cabin) :: a.drop (i + 1)).getD ((i : Int)).toNat default).spoke⟩ =
          mkAll mCab zCab (a.take i) k ++ (⟨⟨((k + zAll zCab (a.take i) : Nat) : Int), ((k + zAll zCab (a.take i) : Nat) : Int) + 1, ((k + zAll zCab (a.take i) : Nat) : Int) + 1 + 1, ((k + zAll zCab (a.take i) : Nat) : Int) + 1 + 1 + 1, ((k + zAll zCab (a.take i) : Nat) : Int) + 1 + 1 + 1 + 1⟩, mkAll mEnt zEnt a[i].row (k + zAll zCab (a.take i) + 5), a[i].spoke⟩ : Cabin) :: a.drop (i + 1) :=
        set_fld (fun y => ⟨y.seats, mkAll mEnt zEnt a[i].row (k + zAll zCab (a.take i) + 5), y.spoke⟩) hM rfl
      refine ⟨?_, ?_⟩
      · show 0 ≤ (i : Int) ∧ (i : Int) < ((mkAll mCab zCab (a.take i) k ++ (⟨⟨((k + zAll zCab (a.take i) : Nat) : Int), ((k + zAll zCab (a.take i) : Nat) : Int) + 1, ((k + zAll zCab (a.take i) : Nat) : Int) + 1 + 1, ((k + zAll zCab (a.take i) : Nat) : Int) + 1 + 1 + 1, ((k + zAll zCab (a.take i) : Nat) : Int) + 1 + 1 + 1 + 1⟩, a[i].row, a[i].spoke⟩ : Cabin) :: a.drop (i + 1)).length : Int)
        rw [len_mid hM hR h2]; omega
      cbv
      refine CallM.byE hP (markPinSS_ok a[i].spoke (k + zAll zCab (a.take i) + 5 + zAll zEnt a[i].row) hx.2.1 (by omega)) ?_ ?_ ?_
      · rfl
      · refine congrArg (fun l => [(0, Blk.own .spk (fun _ => l) false)]) ?_
        have e := getD_fld (d := default) hM hset
        have e := congrArg Cabin.spoke e
        exact e
      cbv
      refine Ar.exact ?_ ?_ ?_
      · show -9223372036854775808 ≤ (i : Int) + 1
        omega
      · show (i : Int) + 1 ≤ 9223372036854775807
        omega
      cbv
      refine NextE.by (i + 1) ?_ ?_ ?_
      · show a.length - (i + 1) < a.length - i
        omega
      · exact h2
      · cbv
        refine ⟨?_, rfl, ?_, trivial⟩
        · show ((k + zAll zCab (a.take i) + 5 + zAll zEnt a[i].row + zAll zPinS a[i].spoke : Nat) : Int) = ((k + zAll zCab (a.take (i + 1)) : Nat) : Int)
          rw [zAll_step zCab h2, show zCab a[i] = 5 + zAll zEnt a[i].row + zAll zPinS a[i].spoke from rfl]
          omega
        · have := (set_fld (fun y => ⟨y.seats, y.row, mkAll mPinS zPinS a[i].spoke (k + zAll zCab (a.take i) + 5 + zAll zEnt a[i].row)⟩) (d := default) hM hset).trans (mid_end mCab zCab k h2)
          exact this
    · have h2 : ¬ (i : Int) < ((mkAll mCab zCab (a.take i) k ++ a.drop i).length : Int) := h2
      rw [hlen] at h2
      have h2 : a.length ≤ i := by omega
      refine ⟨?_, ?_, trivial⟩
      · exact mid_all mCab zCab k h2
      · show ((k + zAll zCab (a.take i) : Nat) : Int) = ((k + zAll zCab a : Nat) : Int)
        rw [List.take_of_length_le h2]

theorem heldCabinS_ok (a : List Cabin) (k : Nat) (hs : smallCabs a) (hk : k + zAll zCab a ≤ 4611686018427387904) : Spec Try.prog 29 [lT .cab fun _ => mkAll mCab zCab a k, nT fun _ => k] (Ret (nR fun _ => k + zAll zCab a)) := by
  refine spec_of tabOk Try.func29 rfl rfl fun P hP hA => ?_
  have hn : a.length ≤ 1048576 := hs.1
  cbv
  refine LoopE.by (X := Nat) (fun i => [(0, lT .cab fun _ => mkAll mCab zCab a k), (1, nT fun _ => k + zAll zCab (a.take i)), (5, nT fun _ => i)]) (fun _ => []) (fun i => i ≤ a.length) (fun i _ => a.length - i) 0 (Nat.zero_le _) ?_ ?_
  · cbv
    exact ⟨rfl, rfl, rfl, trivial⟩
  · intro i hi
    cbv
    refine Br.dec (fun h2 => ?_) (fun h2 => ?_) <;> cbv
    · have h2 : (i : Int) < ((mkAll mCab zCab a k).length : Int) := h2
      rw [mkAll_len] at h2
      have h2 : i < a.length := by omega
      have hx : smallCab a[i] := hs.2 _ (List.getElem_mem _)
      have hz : k + zAll zCab (a.take i) + (5 + zAll zEnt a[i].row + zAll zPinS a[i].spoke) ≤ 4611686018427387904 := by
        have := zAll_lt zCab h2
        have : zAll zCab (a.take i) + (5 + zAll zEnt a[i].row + zAll zPinS a[i].spoke) ≤ zAll zCab a := this
        omega
      have hg : (mkAll mCab zCab a k)[((i : Int)).toNat]? = some (mCab a[i] (k + zAll zCab (a.take i))) := by
        rw [Int.toNat_natCast, mkAll_get mCab zCab k h2]
      refine ⟨mCab a[i] (k + zAll zCab (a.take i)), by simp, hg, ?_⟩
      cbv
      refine Br.split (fun g0 => ?_) (fun g0 => ?_) <;> cbv
      · exact (bne_no g0).elim
      refine Ar.exact ?_ ?_ ?_
      · show -9223372036854775808 ≤ (((k + zAll zCab (a.take i) : Nat) : Int)) + 1
        omega
      · show (((k + zAll zCab (a.take i) : Nat) : Int)) + 1 ≤ 9223372036854775807
        omega
      cbv
      refine ⟨mCab a[i] (k + zAll zCab (a.take i)), by simp, hg, ?_⟩
      cbv
      refine Br.split (fun g1 => ?_) (fun g1 => ?_) <;> cbv
      · exact (bne_no g1).elim
      refine Ar.exact ?_ ?_ ?_
      · show -9223372036854775808 ≤ (((k + zAll zCab (a.take i) : Nat) : Int) + 1) + 1
        omega
      · show (((k + zAll zCab (a.take i) : Nat) : Int) + 1) + 1 ≤ 9223372036854775807
        omega
      cbv
      refine ⟨mCab a[i] (k + zAll zCab (a.take i)), by simp, hg, ?_⟩
      cbv
      refine Br.split (fun g2 => ?_) (fun g2 => ?_) <;> cbv
      · exact (bne_no g2).elim
      refine Ar.exact ?_ ?_ ?_
      · show -9223372036854775808 ≤ (((k + zAll zCab (a.take i) : Nat) : Int) + 1 + 1) + 1
        omega
      · show (((k + zAll zCab (a.take i) : Nat) : Int) + 1 + 1) + 1 ≤ 9223372036854775807
        omega
      cbv
      refine ⟨mCab a[i] (k + zAll zCab (a.take i)), by simp, hg, ?_⟩
      cbv
      refine Br.split (fun g3 => ?_) (fun g3 => ?_) <;> cbv
      · exact (bne_no g3).elim
      refine Ar.exact ?_ ?_ ?_
      · show -9223372036854775808 ≤ (((k + zAll zCab (a.take i) : Nat) : Int) + 1 + 1 + 1) + 1
        omega
      · show (((k + zAll zCab (a.take i) : Nat) : Int) + 1 + 1 + 1) + 1 ≤ 9223372036854775807
        omega
      cbv
      refine ⟨mCab a[i] (k + zAll zCab (a.take i)), by simp, hg, ?_⟩
      cbv
      refine Br.split (fun g4 => ?_) (fun g4 => ?_) <;> cbv
      · exact (bne_no g4).elim
      refine Ar.exact ?_ ?_ ?_
      · show -9223372036854775808 ≤ (((k + zAll zCab (a.take i) : Nat) : Int) + 1 + 1 + 1 + 1) + 1
        omega
      · show (((k + zAll zCab (a.take i) : Nat) : Int) + 1 + 1 + 1 + 1) + 1 ≤ 9223372036854775807
        omega
      cbv
      refine ⟨mCab a[i] (k + zAll zCab (a.take i)), by simp, hg, ?_⟩
      cbv
      refine CallA.byE hP (heldEntryS_ok a[i].row (k + zAll zCab (a.take i) + 5) (by omega)) ?_ ?_
      · refine congrArg (fun l => [lT .ent fun _ => mkAll mEnt zEnt a[i].row (k + zAll zCab (a.take i) + 5), iT fun _ => l]) ?_
        show ((k + zAll zCab (a.take i) : Nat) : Int) + 1 + 1 + 1 + 1 + 1 = ((k + zAll zCab (a.take i) + 5 : Nat) : Int)
        omega
      cbv
      refine Br.split (fun g5 => ?_) (fun g5 => ?_) <;> cbv
      · exact (neg_no g5).elim
      refine ⟨mCab a[i] (k + zAll zCab (a.take i)), by simp, hg, ?_⟩
      cbv
      refine CallA.byE hP (heldPinSS_ok a[i].spoke (k + zAll zCab (a.take i) + 5 + zAll zEnt a[i].row) hx.2.1 (by omega)) rfl ?_
      cbv
      refine Br.split (fun g6 => ?_) (fun g6 => ?_) <;> cbv
      · exact (neg_no g6).elim
      refine Ar.exact ?_ ?_ ?_
      · show -9223372036854775808 ≤ (i : Int) + 1
        omega
      · show (i : Int) + 1 ≤ 9223372036854775807
        omega
      cbv
      refine NextE.by (i + 1) ?_ ?_ ?_
      · show a.length - (i + 1) < a.length - i
        omega
      · exact h2
      · cbv
        refine ⟨rfl, ?_, rfl, trivial⟩
        show ((k + zAll zCab (a.take i) + 5 + zAll zEnt a[i].row + zAll zPinS a[i].spoke : Nat) : Int) = ((k + zAll zCab (a.take (i + 1)) : Nat) : Int)
        rw [zAll_step zCab h2, show zCab a[i] = 5 + zAll zEnt a[i].row + zAll zPinS a[i].spoke from rfl]
        omega
    · have h2 : ¬ (i : Int) < ((mkAll mCab zCab a k).length : Int) := h2
      rw [mkAll_len] at h2
      have h2 : a.length ≤ i := by omega
      refine ⟨?_, trivial⟩
      show ((k + zAll zCab (a.take i) : Nat) : Int) = ((k + zAll zCab a : Nat) : Int)
      rw [List.take_of_length_le h2]

/-- rules and a house of which the lists stand under names -/
def ruO (x : Rules) : V := .agg [.own 0, .lf (.int .i64 fun _ => x.tiers), .lf (.int .i64 fun _ => x.room), .lf (.int .i64 fun _ => x.size), .lf (.int .i64 fun _ => x.period), .lf (.int .i64 fun _ => x.window), .lf (.int .i64 fun _ => x.rest), .lf (.int .i64 fun _ => x.tries), .lf (.int .i64 fun _ => x.crew)]
def hoO (x : House) : V := .agg [.own 0, .lf (.int .i64 fun _ => x.rules.tiers), .lf (.int .i64 fun _ => x.rules.room), .lf (.int .i64 fun _ => x.rules.size), .lf (.int .i64 fun _ => x.rules.period), .lf (.int .i64 fun _ => x.rules.window), .lf (.int .i64 fun _ => x.rules.rest), .lf (.int .i64 fun _ => x.rules.tries), .lf (.int .i64 fun _ => x.rules.crew), .lf (.int .i64 fun _ => x.now), .lf (.int .i64 fun _ => x.turn), .own 1, .own 2, .own 3, .own 4]
def hoBs (x : House) : List (Nat × Blk) := [(0, ownB' .int fun _ => x.rules.seats), (1, ownB' .pty fun _ => x.parties), (2, ownB' .cab fun _ => x.cabins), (3, ownB' .int fun _ => x.todo), (4, ownB' .int fun _ => x.jobs)]
def ruT (x : Unit → Rules) : V := .agg [.lf (.list .int fun _ => (x ()).seats), .lf (.int .i64 fun _ => (x ()).tiers), .lf (.int .i64 fun _ => (x ()).room), .lf (.int .i64 fun _ => (x ()).size), .lf (.int .i64 fun _ => (x ()).period), .lf (.int .i64 fun _ => (x ()).window), .lf (.int .i64 fun _ => (x ()).rest), .lf (.int .i64 fun _ => (x ()).tries), .lf (.int .i64 fun _ => (x ()).crew)]
def hoT (x : Unit → House) : V := .agg [.lf (.list .int fun _ => (x ()).rules.seats), .lf (.int .i64 fun _ => (x ()).rules.tiers), .lf (.int .i64 fun _ => (x ()).rules.room), .lf (.int .i64 fun _ => (x ()).rules.size), .lf (.int .i64 fun _ => (x ()).rules.period), .lf (.int .i64 fun _ => (x ()).rules.window), .lf (.int .i64 fun _ => (x ()).rules.rest), .lf (.int .i64 fun _ => (x ()).rules.tries), .lf (.int .i64 fun _ => (x ()).rules.crew), .lf (.int .i64 fun _ => (x ()).now), .lf (.int .i64 fun _ => (x ()).turn), .lf (.list .pty fun _ => (x ()).parties), .lf (.list .cab fun _ => (x ()).cabins), .lf (.list .int fun _ => (x ()).todo), .lf (.list .int fun _ => (x ()).jobs)]
def mRu (x : Rules) (k : Nat) : Rules := ⟨markL x.seats.length k, x.tiers, x.room, x.size, x.period, x.window, x.rest, x.tries, x.crew⟩
def mHo (x : House) (k : Nat) : House := ⟨mRu x.rules k, x.now, x.turn, mkAll mPty zPty x.parties (k + x.rules.seats.length), mkAll mCab zCab x.cabins (k + x.rules.seats.length + zAll zPty x.parties), markL x.todo.length (k + x.rules.seats.length + zAll zPty x.parties + zAll zCab x.cabins), markL x.jobs.length (k + x.rules.seats.length + zAll zPty x.parties + zAll zCab x.cabins + x.todo.length)⟩
def zHo (x : House) : Nat := x.rules.seats.length + zAll zPty x.parties + zAll zCab x.cabins + x.todo.length + x.jobs.length

theorem markRules_ok (a : Rules) (k : Nat) (hk : k + a.seats.length ≤ 4611686018427387904) :
    SpecM Try.prog 10 [ruO a, nT fun _ => k] [(0, ownB' .int fun _ => a.seats)] (RetM (nR fun _ => k + a.seats.length) [(0, .own .int fun _ => markL a.seats.length k)]) := by
  refine specM_of tabOk Try.func10 rfl rfl rfl rfl fun P hP hA hB => ?_
  cbv
  refine CallM.by hP (markIntS_ok a.seats k hk) ?_
  cbv
  exact ⟨rfl, rfl, trivial⟩

theorem heldRules_ok (a : Rules) (k : Nat) (hk : k + a.seats.length ≤ 4611686018427387904) : Spec Try.prog 27 [ruT fun _ => mRu a k, nT fun _ => k] (Ret (nR fun _ => k + a.seats.length)) := by
  refine spec_of tabOk Try.func27 rfl rfl fun P hP hA => ?_
  cbv
  refine CallA.by hP (heldIntS_ok a.seats.length k hk) ?_
  cbv
  refine Br.split (fun g => ?_) (fun g => ?_) <;> cbv
  · exact (neg_no g).elim
  exact ⟨rfl, trivial⟩

theorem markHouse_ok (a : House) (k : Nat) (hs : smallCabs a.cabins) (hk : k + zHo a ≤ 4611686018427387904) :
    SpecM Try.prog 11 [hoO a, nT fun _ => k] (hoBs a) (RetM (nR fun _ => k + zHo a) [(0, .own .int fun _ => (mHo a k).rules.seats), (1, .own .pty fun _ => (mHo a k).parties), (2, .own .cab fun _ => (mHo a k).cabins), (3, .own .int fun _ => (mHo a k).todo), (4, .own .int fun _ => (mHo a k).jobs)]) := by
  refine specM_of tabOk Try.func11 rfl rfl rfl rfl fun P hP hA hB => ?_
  have hk : k + (a.rules.seats.length + zAll zPty a.parties + zAll zCab a.cabins + a.todo.length + a.jobs.length) ≤ 4611686018427387904 := hk
  cbv
  refine CallM.by hP (markRules_ok a.rules k (by omega)) ?_
  cbv
  refine CallM.by hP (markPartyS_ok a.parties (k + a.rules.seats.length) (by omega)) ?_
  cbv
  refine CallM.by hP (markCabinS_ok a.cabins (k + a.rules.seats.length + zAll zPty a.parties) hs (by omega)) ?_
  cbv
  refine CallM.by hP (markIntS_ok a.todo (k + a.rules.seats.length + zAll zPty a.parties + zAll zCab a.cabins) (by omega)) ?_
  cbv
  refine CallM.by hP (markIntS_ok a.jobs (k + a.rules.seats.length + zAll zPty a.parties + zAll zCab a.cabins + a.todo.length) (by omega)) ?_
  cbv
  refine ⟨rfl, rfl, rfl, rfl, rfl, ?_, trivial⟩
  show ((k + a.rules.seats.length + zAll zPty a.parties + zAll zCab a.cabins + a.todo.length + a.jobs.length : Nat) : Int) = ((k + (a.rules.seats.length + zAll zPty a.parties + zAll zCab a.cabins + a.todo.length + a.jobs.length) : Nat) : Int)
  omega

theorem heldHouse_ok (a : House) (k : Nat) (hs : smallCabs a.cabins) (hk : k + zHo a ≤ 4611686018427387904) : Spec Try.prog 12 [hoT fun _ => mHo a k, nT fun _ => k] (Ret (nR fun _ => k + zHo a)) := by
  refine spec_of tabOk Try.func12 rfl rfl fun P hP hA => ?_
  have hk : k + (a.rules.seats.length + zAll zPty a.parties + zAll zCab a.cabins + a.todo.length + a.jobs.length) ≤ 4611686018427387904 := hk
  cbv
  refine CallA.by hP (heldRules_ok a.rules k (by omega)) ?_
  cbv
  refine Br.split (fun g0 => ?_) (fun g0 => ?_) <;> cbv
  · exact (neg_no g0).elim
  refine CallA.by hP (heldPartyS_ok a.parties (k + a.rules.seats.length) (by omega)) ?_
  cbv
  refine Br.split (fun g1 => ?_) (fun g1 => ?_) <;> cbv
  · exact (neg_no g1).elim
  refine CallA.by hP (heldCabinS_ok a.cabins (k + a.rules.seats.length + zAll zPty a.parties) hs (by omega)) ?_
  cbv
  refine Br.split (fun g2 => ?_) (fun g2 => ?_) <;> cbv
  · exact (neg_no g2).elim
  refine CallA.by hP (heldIntS_ok a.todo.length (k + a.rules.seats.length + zAll zPty a.parties + zAll zCab a.cabins) (by omega)) ?_
  cbv
  refine Br.split (fun g3 => ?_) (fun g3 => ?_) <;> cbv
  · exact (neg_no g3).elim
  refine CallA.by hP (heldIntS_ok a.jobs.length (k + a.rules.seats.length + zAll zPty a.parties + zAll zCab a.cabins + a.todo.length) (by omega)) ?_
  cbv
  refine Br.split (fun g4 => ?_) (fun g4 => ?_) <;> cbv
  · exact (neg_no g4).elim
  refine ⟨?_, trivial⟩
  show ((k + a.rules.seats.length + zAll zPty a.parties + zAll zCab a.cabins + a.todo.length + a.jobs.length : Nat) : Int) = ((k + (a.rules.seats.length + zAll zPty a.parties + zAll zCab a.cabins + a.todo.length + a.jobs.length) : Nat) : Int)
  omega

end Go.Proofs.Ytmigflddbhiajaa
