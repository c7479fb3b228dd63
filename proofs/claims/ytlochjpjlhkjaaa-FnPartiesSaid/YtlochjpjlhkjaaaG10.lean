/- Parts of a proof. No conditions. -/

import Derived.Test.YtlochjpjlhkjaaaG08
import Derived.Test.YtlochjpjlhkjaaaG09
set_option linter.unusedSimpArgs false
set_option linter.unusedVariables false
namespace Go.Proofs.Ytlochjpjlhkjaaa
open Go
set_option maxRecDepth 100000
end Go.Proofs.Ytlochjpjlhkjaaa
namespace Go.Proofs.Ytlochjpjlhkjaaa
open Go
set_option maxRecDepth 100000
end Go.Proofs.Ytlochjpjlhkjaaa
namespace Go.Proofs.Ytlochjpjlhkjaaa
open Go
set_option maxRecDepth 100000
def ruC (R : Rules) : List C := [.lf (.list .int fun _ => R.seats), .lf (.int .i64 fun _ => R.tiers), .lf (.int .i64 fun _ => R.room), .lf (.int .i64 fun _ => R.size), .lf (.int .i64 fun _ => R.period), .lf (.int .i64 fun _ => R.window), .lf (.int .i64 fun _ => R.rest), .lf (.int .i64 fun _ => R.tries), .lf (.int .i64 fun _ => R.crew)]
def entsOf (R : Rules) (c now : Int) (l : List Party) : List Entry := (l.filter fun p => entOkB R p now && p.cab == c).map fun p => entryOf R p now
def queueOf (R : Rules) (l : List Party) (c now : Int) : List Entry := sortR entLt (entsOf R c now l)
def pinsOfP (c : Int) (l : List Party) : List Pin := (l.filter fun p => p.st == 2 && p.cab == c).map fun p => ⟨p.untl, p.id⟩
def pinsIn (l : List Party) (c : Int) : List Pin := sortR pinLt (pinsOfP c l)
section
variable {α β : Type} (q : α → Bool) (f : α → β)
theorem fm_yes {l : List α} {i : Nat} (h : i < l.length) (hq : q l[i] = true) : ((l.take i).filter q).map f ++ [f l[i]] = ((l.take (i + 1)).filter q).map f := by
  rw [List.take_add_one, List.getElem?_eq_getElem h, List.filter_append, List.map_append]; simp [hq]
theorem fm_no {l : List α} {i : Nat} (h : i < l.length) (hq : q l[i] = false) : ((l.take i).filter q).map f = ((l.take (i + 1)).filter q).map f := by
  rw [List.take_add_one, List.getElem?_eq_getElem h, List.filter_append, List.map_append]; simp [hq]
theorem fm_len {l : List α} : ((l.filter q).map f).length ≤ l.length := by rw [List.length_map]; exact List.length_filter_le _ _
theorem fd_yes {l : List α} {i : Nat} (h : i < l.length) (hq : q l[i] = true) : ((l.drop i).filter q).map f = f l[i] :: ((l.drop (i + 1)).filter q).map f := by
  rw [List.drop_eq_getElem_cons h, List.filter_cons_of_pos hq]; rfl
theorem fd_no {l : List α} {i : Nat} (h : i < l.length) (hq : q l[i] = false) : ((l.drop i).filter q).map f = ((l.drop (i + 1)).filter q).map f := by
  rw [List.drop_eq_getElem_cons h, List.filter_cons_of_neg (by rw [hq]; simp)]
end
theorem entsOf_len (R : Rules) (c now : Int) (l : List Party) : (entsOf R c now l).length ≤ l.length := fm_len _ _
theorem sortL_len {l : List Entry} : (sortL entLt l).length = l.length := by rw [sortL_eq entSWO, sortR_len]
theorem specQueueOf_ok (R : Rules) (l : List Party) (c now : Int) (hs : R.seats.length ≤ bigN) (hl : l.length ≤ bigN) : Spec Try.prog 52 [ruA R, lA .pty l, iA c, iA now] (Ret (lR .ent fun _ => queueOf R l c now)) := by
  refine spec_of tabOk Try.func52 rfl rfl (fr := true) (fun _ => by kernel_rfl) fun P hP hA => ?_
  have hl' : l.length ≤ 1048576 := hl
  cbv
  refine Ar.exact (by (try simp only [nc] at *); omega) (by (try simp only [nc] at *); omega) ?_
  cbv
  repeat (refine Pz.mk ?_; cbv)
  refine LoopE.by (X := Nat) (fun m => [(1, lA .pty l), (2, iA c), (3, iA now), (4, pN 0), (9, oN 1), (10, iT fun _ => (m : Int) - 1)]) (fun m => [(0, .box (ruC R)), (1, ownB' .ent fun _ => sortL entLt (entsOf R c now (l.drop m)))]) (fun m => m ≤ l.length) (fun m _ => m) l.length (Nat.le_refl _) ?_ ?_
  · cbv
    repeat' first | exact trivial | refine ⟨rfl, ?_⟩ | fail
    refine ⟨?_, trivial⟩
    show [] = sortL entLt (entsOf R c now (l.drop l.length))
    rw [List.drop_length]; rfl
  · intro m hm
    cbv
    refine Br.dec (fun h2 => ?_) (fun h2 => ?_) <;> (cbv; repeat (refine Pz.mk ?_; cbv))
    rotate_left
    · have h2 : m = 0 := by simp only [nc] at *; omega
      subst h2
      refine ⟨?_, trivial⟩
      show sortL entLt (entsOf R c now (l.drop 0)) = queueOf R l c now
      rw [List.drop_zero, sortL_eq entSWO]; rfl
    have h2 : 1 ≤ m := by simp only [nc] at *; omega
    obtain ⟨i, rfl⟩ : ∃ i, m = i + 1 := ⟨m - 1, by omega⟩
    have hi : i < l.length := hm
    have ei : (((i + 1 : Nat) : Int) - 1).toNat = i := by omega
    have hlen : (sortL entLt (entsOf R c now (l.drop (i + 1)))).length ≤ bigN := by
      rw [sortL_len]
      exact Nat.le_trans (entsOf_len _ _ _ _) (by rw [List.length_drop]; exact Nat.le_trans (Nat.sub_le _ _) hl)
    have hpos : 0 ≤ ((i + 1 : Nat) : Int) - 1 := by omega
    have hget : l[(((i + 1 : Nat) : Int) - 1).toNat]? = some l[i] := by rw [ei]; exact List.getElem?_eq_getElem hi
    have no : (entOkB R l[i] now && l[i].cab == c) = false → sortL entLt (entsOf R c now (l.drop (i + 1))) = sortL entLt (entsOf R c now (l.drop i)) := fun h => by
      unfold entsOf; rw [fd_no _ _ hi h]
    have yes : (entOkB R l[i] now && l[i].cab == c) = true → insL entLt (entryOf R l[i] now) (sortL entLt (entsOf R c now (l.drop (i + 1)))) = sortL entLt (entsOf R c now (l.drop i)) := fun h => by
      unfold entsOf; rw [fd_yes _ _ hi h]; rfl
    have e1 : ((i + 1 : Nat) : Int) - 1 - 1 = (i : Int) - 1 := by omega
    refine ⟨l[i], hpos, hget, ?_⟩
    cbv
    repeat' first
      | (refine CallA.by hP (specEntryOf_ok R l[i] now hs (entryOf R l[i] now) rfl (entOkB R l[i] now) rfl) ?_; cbv)
      | (refine And.intro ?_ ?_)
      | fail
    all_goals
      refine Br.split (fun k0 => ?_) (fun k0 => ?_) <;> (cbv; repeat (refine Pz.mk ?_; cbv))
      · refine ⟨l[i], hpos, hget, ?_⟩
        cbv
        refine Br.split (fun k1 => ?_) (fun k1 => ?_) <;> (cbv; repeat (refine Pz.mk ?_; cbv))
        · refine CallA.by hP (l7Put_ok (sortL entLt (entsOf R c now (l.drop (i + 1)))) (entryOf R l[i] now) hlen) ?_
          cbv
          repeat (refine Pz.mk ?_; cbv)
          refine Ar.exact (by (try simp only [nc] at *); omega) (by (try simp only [nc] at *); omega) ?_
          cbv
          repeat (refine Pz.mk ?_; cbv)
          refine NextE.by i ?_ ?_ ?_
          · show i < i + 1
            omega
          · show i ≤ l.length
            omega
          · cbv
            repeat' first | exact trivial | refine ⟨rfl, ?_⟩ | fail
            refine ⟨e1, ?_⟩
            repeat' first | exact trivial | refine ⟨rfl, ?_⟩ | fail
            refine ⟨yes (by rw [k0]; exact k1), ?_⟩
            repeat' first | exact trivial | refine ⟨rfl, ?_⟩ | fail
        · refine Ar.exact (by (try simp only [nc] at *); omega) (by (try simp only [nc] at *); omega) ?_
          cbv
          repeat (refine Pz.mk ?_; cbv)
          refine NextE.by i ?_ ?_ ?_
          · show i < i + 1
            omega
          · show i ≤ l.length
            omega
          · cbv
            repeat' first | exact trivial | refine ⟨rfl, ?_⟩ | fail
            refine ⟨e1, ?_⟩
            repeat' first | exact trivial | refine ⟨rfl, ?_⟩ | fail
            refine ⟨no (by rw [k0]; exact k1), ?_⟩
            repeat' first | exact trivial | refine ⟨rfl, ?_⟩ | fail
      · refine Ar.exact (by (try simp only [nc] at *); omega) (by (try simp only [nc] at *); omega) ?_
        cbv
        repeat (refine Pz.mk ?_; cbv)
        refine NextE.by i ?_ ?_ ?_
        · show i < i + 1
          omega
        · show i ≤ l.length
          omega
        · cbv
          repeat' first | exact trivial | refine ⟨rfl, ?_⟩ | fail
          refine ⟨e1, ?_⟩
          repeat' first | exact trivial | refine ⟨rfl, ?_⟩ | fail
          refine ⟨no (by rw [k0]; rfl), ?_⟩
          repeat' first | exact trivial | refine ⟨rfl, ?_⟩ | fail
theorem pinsOfP_len (c : Int) (l : List Party) : (pinsOfP c l).length ≤ l.length := fm_len _ _
theorem sortF_len {l : List Pin} : (sortF pinLt l).length = l.length := by rw [sortF_eq pinSWO pin_anti, sortR_len]
theorem specPinsIn_ok (l : List Party) (c : Int) (hl : l.length ≤ bigN) : Spec Try.prog 49 [lA .pty l, iA c] (Ret (lR .pin fun _ => pinsIn l c)) := by
  refine spec_of tabOk Try.func49 rfl rfl (fr := true) (fun _ => by kernel_rfl) fun P hP hA => ?_
  have hl' : l.length ≤ 1048576 := hl
  cbv
  refine LoopE.by (X := Nat) (fun i => [(0, lA .pty l), (1, iA c), (5, oN 0), (6, nT fun _ => i)]) (fun i => [(0, ownB' .pin fun _ => sortF pinLt (pinsOfP c (l.take i)))]) (fun i => i ≤ l.length) (fun i _ => l.length - i) 0 (Nat.zero_le _) ?_ ?_
  · cbv
    repeat' first | exact trivial | refine ⟨rfl, ?_⟩ | fail
  · intro i hi
    cbv
    refine Br.dec (fun h2 => ?_) (fun h2 => ?_) <;> (cbv; repeat (refine Pz.mk ?_; cbv))
    rotate_left
    · have h2 : l.length ≤ i := by simp at h2; omega
      refine ⟨?_, trivial⟩
      show sortF pinLt (pinsOfP c (l.take i)) = pinsIn l c
      rw [List.take_of_length_le h2, sortF_eq pinSWO pin_anti]; rfl
    have h2 : i < l.length := by simpa using h2
    have hlen : (sortF pinLt (pinsOfP c (l.take i))).length ≤ bigN := by
      rw [sortF_len]
      exact Nat.le_trans (pinsOfP_len _ _) (by rw [List.length_take]; exact Nat.le_trans (Nat.min_le_right _ _) hl)
    have no : (l[i].st == 2 && l[i].cab == c) = false → sortF pinLt (pinsOfP c (l.take i)) = sortF pinLt (pinsOfP c (l.take (i + 1))) := fun h => by
      unfold pinsOfP; rw [fm_no _ (fun p : Party => (⟨p.untl, p.id⟩ : Pin)) h2 h]
    have yes : (l[i].st == 2 && l[i].cab == c) = true → insL pinLt ⟨l[i].untl, l[i].id⟩ (sortF pinLt (pinsOfP c (l.take i))) = sortF pinLt (pinsOfP c (l.take (i + 1))) := fun h => by
      have e := fm_yes (fun p : Party => p.st == 2 && p.cab == c) (fun p : Party => (⟨p.untl, p.id⟩ : Pin)) h2 h
      show _ = sortF pinLt (((l.take (i + 1)).filter _).map _)
      rw [← e, sortF_snoc]; rfl
    refine ⟨l[i], by simp, get_cast l h2, ?_⟩
    cbv
    repeat (refine Pz.mk ?_; cbv)
    refine Br.split (fun k0 => ?_) (fun k0 => ?_) <;> (cbv; repeat (refine Pz.mk ?_; cbv))
    · refine ⟨l[i], by simp, get_cast l h2, ?_⟩
      cbv
      repeat (refine Pz.mk ?_; cbv)
      refine Br.split (fun k1 => ?_) (fun k1 => ?_) <;> (cbv; repeat (refine Pz.mk ?_; cbv))
      · repeat' first
          | (refine CallA.by hP (l9Put_ok (sortF pinLt (pinsOfP c (l.take i))) ⟨l[i].untl, l[i].id⟩ hlen) ?_; cbv)
          | (refine Ix.mk l[i] (by simp) (get_cast l h2) ?_; cbv)
          | (refine And.intro ?_ ?_)
          | fail
        all_goals
          refine Ar.exact (by (try simp only [nc] at *); omega) (by (try simp only [nc] at *); omega) ?_
          cbv
          repeat (refine Pz.mk ?_; cbv)
          refine NextE.by (i + 1) ?_ ?_ ?_
          · show l.length - (i + 1) < l.length - i
            omega
          · exact h2
          · cbv
            repeat' first | exact trivial | refine ⟨rfl, ?_⟩ | fail
            refine ⟨yes (by rw [k0]; exact k1), ?_⟩
            repeat' first | exact trivial | refine ⟨rfl, ?_⟩ | fail
      · refine Ar.exact (by (try simp only [nc] at *); omega) (by (try simp only [nc] at *); omega) ?_
        cbv
        repeat (refine Pz.mk ?_; cbv)
        refine NextE.by (i + 1) ?_ ?_ ?_
        · show l.length - (i + 1) < l.length - i
          omega
        · exact h2
        · cbv
          repeat' first | exact trivial | refine ⟨rfl, ?_⟩ | fail
          refine ⟨no (by rw [k0]; exact k1), ?_⟩
          repeat' first | exact trivial | refine ⟨rfl, ?_⟩ | fail
    · refine Ar.exact (by (try simp only [nc] at *); omega) (by (try simp only [nc] at *); omega) ?_
      cbv
      repeat (refine Pz.mk ?_; cbv)
      refine NextE.by (i + 1) ?_ ?_ ?_
      · show l.length - (i + 1) < l.length - i
        omega
      · exact h2
      · cbv
        repeat' first | exact trivial | refine ⟨rfl, ?_⟩ | fail
        refine ⟨no (by rw [k0]; rfl), ?_⟩
        repeat' first | exact trivial | refine ⟨rfl, ?_⟩ | fail
end Go.Proofs.Ytlochjpjlhkjaaa

