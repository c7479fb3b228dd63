/- Parts of a proof. No conditions. -/

import Derived.Test.YtlochjpjlhkjaaaG09
import Derived.Test.YtlochjpjlhkjaaaG18
set_option linter.unusedSimpArgs false
set_option linter.unusedVariables false
namespace Go.Proofs.Ytlochjpjlhkjaaa
open Go
set_option maxRecDepth 100000
def cutAt {α : Type} (l : List α) (a : Int) : List α := if a < 0 then l else l.take a.toNat ++ l.drop (a.toNat + 1)
def partyCut (l : List Party) (id : Int) : List Party := cutAt l (pAt l id)
def gtAt (l : List Party) (id : Int) : Int := atOf (fun q => decide (q.id > id)) l
def putAt (l : List Party) (id : Int) : Nat := if gtAt l id < 0 then l.length else (gtAt l id).toNat
def partyPut (l : List Party) (p : Party) : List Party := if 0 ≤ pAt l p.id then l.set (pAt l p.id).toNat p else l.take (putAt l p.id) ++ p :: l.drop (putAt l p.id)
theorem put_set {l : List Party} {q : Party} {i : Nat} (h : pAt l q.id = (i : Int)) : partyPut l q = l.set i q := by
  rw [partyPut, if_pos (by omega), h, Int.toNat_natCast]
theorem cut_at {l : List Party} {id : Int} {i : Nat} (h : pAt l id = (i : Int)) : partyCut l id = l.take i ++ l.drop (i + 1) := by
  rw [partyCut, cutAt, h, if_neg (by omega), Int.toNat_natCast]
theorem implPartyCut_ok (l : List Party) (id : Int) (hl : l.length ≤ bigN) (x : List Party) (hx : x = partyCut l id) : Spec Try.prog 7 [lA .pty l, iA id] (Ret (lR .pty fun _ => x)) := by
  have hn : l.length ≤ 1048576 := hl
  refine spec_of tabOk Try.func7 rfl rfl (fr := true) (fun _ => by kernel_rfl) fun P hP hA => ?_
  cbv
  repeat (refine Pz.mk ?_; cbv)
  refine ⟨by show (0 + l.length) * 80 ≤ 140737488355328; omega, ?_⟩
  cbv
  repeat (refine Pz.mk ?_; cbv)
  refine CallA.by hP (partyAt_ok l id (pAt l id) rfl) ?_
  cbv
  repeat (refine Pz.mk ?_; cbv)
  refine Br.dec (fun h0 => ?_) (fun h0 => ?_) <;> (cbv; repeat (refine Pz.mk ?_; cbv))
  · have h0 : pAt l id ≥ 0 := h0
    rcases atOf_cases (fun p : Party => p.id == id) l with ⟨e, _⟩ | ⟨i, hi, e, _, _⟩
    · have : pAt l id = -1 := e
      omega
    have e : pAt l id = (i : Int) := e
    have hx : x = l.take i ++ l.drop (i + 1) := hx.trans (by rw [partyCut, cutAt, e, if_neg (by omega), Int.toNat_natCast])
    rw [e]
    cbv
    repeat (refine Pz.mk ?_; cbv)
    refine Ar.exact (by (try simp only [nc] at *); omega) (by (try simp only [nc] at *); omega) ?_
    cbv
    repeat (refine Pz.mk ?_; cbv)
    refine CallM.by hP (deleteParty_ok l i hi) ?_
    cbv
    repeat (refine Pz.mk ?_; cbv)
    refine ⟨?_, trivial⟩
    exact hx.symm
  · have h0 : ¬ pAt l id ≥ 0 := h0
    obtain rfl : l = x := (hx.trans (if_pos (by omega))).symm
    repeat' first | exact trivial | refine ⟨rfl, ?_⟩ | fail
theorem specPartyCut_ok (l : List Party) (id : Int) (hl : l.length ≤ bigN) (x : List Party) (hx : x = partyCut l id) : Spec Try.prog 9 [lA .pty l, iA id] (Ret (lR .pty fun _ => x)) := by
  have hn : l.length ≤ 1048576 := hl
  refine spec_of tabOk Try.func9 rfl rfl (fr := true) (fun _ => by kernel_rfl) fun P hP hA => ?_
  cbv
  repeat (refine Pz.mk ?_; cbv)
  refine CallA.by hP (l11At_ok l id (pAt l id) rfl) ?_
  cbv
  repeat (refine Pz.mk ?_; cbv)
  refine Br.dec (fun h0 => ?_) (fun h0 => ?_) <;> (cbv; repeat (refine Pz.mk ?_; cbv))
  · have h0 : pAt l id < 0 := h0
    obtain rfl : l = x := (hx.trans (if_pos h0)).symm
    refine ⟨by show (0 + l.length) * 80 ≤ 140737488355328; omega, ?_⟩
    cbv
    repeat (refine Pz.mk ?_; cbv)
    repeat' first | exact trivial | refine ⟨rfl, ?_⟩ | fail
  · have h0 : ¬ pAt l id < 0 := h0
    rcases atOf_cases (fun p : Party => p.id == id) l with ⟨e, _⟩ | ⟨i, hi, e, _, _⟩
    · have : pAt l id = -1 := e
      omega
    have e : pAt l id = (i : Int) := e
    have hx : x = l.take i ++ l.drop (i + 1) := hx.trans (by rw [partyCut, cutAt, e, if_neg (by omega), Int.toNat_natCast])
    have o1 : 0 ≤ (0 : Int) ∧ (0 : Int) ≤ (i : Int) ∧ (i : Int) ≤ (l.length : Int) := ⟨by omega, by omega, by omega⟩
    have o2 : (([] : List Party).length + ((l.take ((i : Int)).toNat).drop ((0 : Int)).toNat).length) * 80 ≤ 140737488355328 := by
      rw [List.length_drop, List.length_take]; simp only [List.length_nil]; omega
    have o3 : 0 ≤ (i : Int) + 1 ∧ (i : Int) + 1 ≤ (l.length : Int) ∧ (l.length : Int) ≤ (l.length : Int) := ⟨by omega, by omega, by omega⟩
    have o4 : (([] ++ (l.take ((i : Int)).toNat).drop ((0 : Int)).toNat : List Party).length + ((l.take ((l.length : Int)).toNat).drop ((i : Int) + 1).toNat).length) * 80 ≤ 140737488355328 := by
      rw [List.length_append, List.length_drop, List.length_take, List.length_drop, List.length_take]; simp only [List.length_nil]; omega
    have fin : [] ++ (l.take ((i : Int)).toNat).drop ((0 : Int)).toNat ++ (l.take ((l.length : Int)).toNat).drop ((i : Int) + 1).toNat = x := by
      rw [hx, show ((i : Int) + 1).toNat = i + 1 by omega]; simp
    rw [e]
    cbv
    repeat (refine Pz.mk ?_; cbv)
    repeat' first
      | (refine Ob.mk o1 ?_; cbv; repeat (refine Pz.mk ?_; cbv))
      | (refine Ob.mk o3 ?_; cbv; repeat (refine Pz.mk ?_; cbv))
      | (refine Ob.mk o2 ?_; cbv; repeat (refine Pz.mk ?_; cbv))
      | (refine Ob.mk o4 ?_; cbv; repeat (refine Pz.mk ?_; cbv))
      | (refine Ar.exact (by (try simp only [nc] at *); omega) (by (try simp only [nc] at *); omega) ?_; cbv; repeat (refine Pz.mk ?_; cbv))
      | refine And.intro ?_ ?_
      | fail
    all_goals
      refine ⟨?_, trivial⟩
      exact fin
theorem partyPut1_ok (q p : Party) : Spec Try.prog 16 [eA .pty q, .c (.pcs (cellsT .pty fun _ => p) 0)] (Ret (bR fun _ => decide (q.id > p.id))) := by
  refine spec_of tabOk Try.func16 rfl rfl (fr := true) (fun _ => by kernel_rfl) fun P hP hA => ?_
  cbv
  repeat (refine Pz.mk ?_; cbv)
  repeat' first | exact trivial | refine ⟨rfl, ?_⟩ | fail
theorem indexPut_ok (a : List Party) (p : Party) (x : Int) (hx : x = gtAt a p.id) : Spec Try.prog 15 [lA .pty a, .c (.fn 16 [.pcs (cellsT .pty fun _ => p) 0])] (Ret (iR fun _ => x)) := by
  refine spec_of tabOk Try.func15 rfl rfl (fr := true) (fun _ => by kernel_rfl) fun P hP hA => ?_
  have ha : a.length ≤ 9223372036854775807 := hA.1.1
  cbv
  repeat (refine Pz.mk ?_; cbv)
  refine LoopE.by (X := Nat) (fun i => [(0, lA .pty a), (1, .c (.fn 16 [.pcs (cellsT .pty fun _ => p) 0])), (7, nT fun _ => a.length), (8, nT fun _ => i)]) (fun _ => []) (fun i => i ≤ a.length ∧ ∀ (j : Nat) y, j < i → a[j]? = some y → decide (y.id > p.id) = false) (fun i _ => a.length - i) 0 ⟨Nat.zero_le _, fun j y hj => by omega⟩ ?_ ?_
  · cbv
    repeat (refine Pz.mk ?_; cbv)
    repeat' first | exact trivial | refine ⟨rfl, ?_⟩ | fail
  · intro i ⟨hi, hn⟩
    cbv
    repeat (refine Pz.mk ?_; cbv)
    refine Br.dec (fun h2 => ?_) (fun h2 => ?_) <;> (cbv; repeat (refine Pz.mk ?_; cbv))
    · have h2 : i < a.length := by simpa using h2
      refine ⟨a[i], by simp, get_cast a h2, ?_⟩
      cbv
      repeat (refine Pz.mk ?_; cbv)
      refine CallA.by hP (partyPut1_ok a[i] p) ?_
      cbv
      repeat (refine Pz.mk ?_; cbv)
      refine Br.dec (fun h3 => ?_) (fun h3 => ?_) <;> (cbv; repeat (refine Pz.mk ?_; cbv))
      · have h3 : a[i].id > p.id := h3
        refine ⟨?_, trivial⟩
        exact (hx.trans (atOf_hit (p := fun q : Party => decide (q.id > p.id)) h2 (decide_eq_true h3) hn)).symm
      · have h3 : ¬ a[i].id > p.id := h3
        refine Ar.exact (by (try simp only [nc] at *); omega) (by (try simp only [nc] at *); omega) ?_
        cbv
        repeat (refine Pz.mk ?_; cbv)
        refine NextE.by (i + 1) ?_ ?_ ?_
        · show a.length - (i + 1) < a.length - i
          omega
        · exact ⟨h2, pre_step h2 hn (decide_eq_false h3)⟩
        · cbv
          repeat (refine Pz.mk ?_; cbv)
          repeat' first | exact trivial | refine ⟨rfl, ?_⟩ | fail
    · have h2 : a.length ≤ i := by simp at h2; omega
      refine ⟨?_, trivial⟩
      exact (hx.trans (atOf_miss (pre_all h2 hn))).symm
theorem putAt_le (l : List Party) (id : Int) : putAt l id ≤ l.length := by
  unfold putAt
  have h := atOf_range (fun q : Party => decide (q.id > id)) l
  have h : -1 ≤ gtAt l id ∧ gtAt l id < l.length := h
  split <;> omega
set_option maxHeartbeats 1000000 in
theorem implPartyPut_ok (l : List Party) (p : Party) (hl : l.length ≤ bigN) (x : List Party) (hx : x = partyPut l p) : Spec Try.prog 6 [lA .pty l, eA .pty p] (Ret (lR .pty fun _ => x)) := by
  have hn : l.length ≤ 1048576 := hl
  refine spec_of tabOk Try.func6 rfl rfl (fr := true) (fun _ => by kernel_rfl) fun P hP hA => ?_
  cbv
  repeat (refine Pz.mk ?_; cbv)
  refine ⟨by show (0 + l.length) * 80 ≤ 140737488355328; omega, ?_⟩
  cbv
  repeat (refine Pz.mk ?_; cbv)
  refine CallA.by hP (partyAt_ok l p.id (pAt l p.id) rfl) ?_
  cbv
  repeat (refine Pz.mk ?_; cbv)
  refine Br.dec (fun h0 => ?_) (fun h0 => ?_) <;> (cbv; repeat (refine Pz.mk ?_; cbv))
  · have h0 : pAt l p.id ≥ 0 := h0
    have h1 := atOf_range (fun q : Party => q.id == p.id) l
    have h1 : -1 ≤ pAt l p.id ∧ pAt l p.id < l.length := h1
    have oi : 0 ≤ pAt l p.id ∧ pAt l p.id < (l.length : Int) := ⟨h0, h1.2⟩
    refine ⟨oi, ?_⟩
    cbv
    repeat (refine Pz.mk ?_; cbv)
    refine Sv.mk (fun _ => l.set (pAt l p.id).toNat p) rfl ?_
    cbv
    repeat (refine Pz.mk ?_; cbv)
    refine ⟨?_, trivial⟩
    exact (hx.trans (if_pos h0)).symm
  have h0 : ¬ pAt l p.id ≥ 0 := h0
  have hx := hx.trans (if_neg h0)
  have hp := putAt_le l p.id
  refine CallA.by hP (indexPut_ok l p (gtAt l p.id) rfl) ?_
  cbv
  repeat (refine Pz.mk ?_; cbv)
  refine Br.dec (fun h1 => ?_) (fun h1 => ?_) <;> (cbv; repeat (refine Pz.mk ?_; cbv))
  · have h1 : gtAt l p.id < 0 := h1
    have e : putAt l p.id = l.length := if_pos h1
    refine CallM.by hP (insertParty_ok l p l.length (Nat.le_refl _) hl) ?_
    cbv
    repeat (refine Pz.mk ?_; cbv)
    refine ⟨?_, trivial⟩
    rw [hx, e]
    rfl
  · have h1 : ¬ gtAt l p.id < 0 := h1
    have e : putAt l p.id = (gtAt l p.id).toNat := if_neg h1
    have e2 : gtAt l p.id = ((gtAt l p.id).toNat : Int) := by omega
    rw [e] at hp hx
    generalize hg : (gtAt l p.id).toNat = g at hp hx e2
    rw [e2]
    cbv
    repeat (refine Pz.mk ?_; cbv)
    refine CallM.by hP (insertParty_ok l p g hp hl) ?_
    cbv
    repeat (refine Pz.mk ?_; cbv)
    refine ⟨?_, trivial⟩
    exact hx.symm
theorem putAt_end {l : List Party} {id : Int} {i : Nat} (hi : l.length ≤ i) (hn : ∀ (j : Nat) y, j < i → l[j]? = some y → y.id < id) : putAt l id = l.length := by
  have e : gtAt l id = -1 := atOf_miss fun j y hy => by
    have := hn j y (Nat.lt_of_lt_of_le (lt_of_get hy) hi) hy
    exact decide_eq_false (by omega)
  rw [putAt, if_pos (by omega)]
theorem putAt_hit {l : List Party} {id : Int} {i : Nat} (hi : i < l.length) (hn : ∀ (j : Nat) y, j < i → l[j]? = some y → y.id < id) (h : l[i].id > id) : putAt l id = i := by
  have e : gtAt l id = (i : Int) := atOf_hit (p := fun q : Party => decide (q.id > id)) hi (decide_eq_true h) fun j y hj hy => by
    have := hn j y hj hy
    exact decide_eq_false (by omega)
  rw [putAt, e, if_neg (by omega), Int.toNat_natCast]
set_option maxHeartbeats 1000000 in
theorem specPartyPut_ok (l : List Party) (p : Party) (hl : l.length ≤ bigN) (x : List Party) (hx : x = partyPut l p) : Spec Try.prog 34 [lA .pty l, eA .pty p] (Ret (lR .pty fun _ => x)) := by
  have hn : l.length ≤ 1048576 := hl
  refine spec_of tabOk Try.func34 rfl rfl (fr := true) (fun _ => by kernel_rfl) fun P hP hA => ?_
  cbv
  repeat (refine Pz.mk ?_; cbv)
  refine CallA.by hP (l11At_ok l p.id (pAt l p.id) rfl) ?_
  cbv
  repeat (refine Pz.mk ?_; cbv)
  refine ⟨by show (0 + l.length) * 80 ≤ 140737488355328; omega, ?_⟩
  cbv
  repeat (refine Pz.mk ?_; cbv)
  refine Br.dec (fun h0 => ?_) (fun h0 => ?_) <;> (cbv; repeat (refine Pz.mk ?_; cbv))
  · have h0 : pAt l p.id ≥ 0 := h0
    have h1 := atOf_range (fun q : Party => q.id == p.id) l
    have h1 : -1 ≤ pAt l p.id ∧ pAt l p.id < l.length := h1
    have oi : 0 ≤ pAt l p.id ∧ pAt l p.id < (l.length : Int) := ⟨h0, h1.2⟩
    refine ⟨oi, ?_⟩
    cbv
    repeat (refine Pz.mk ?_; cbv)
    refine Sv.mk (fun _ => l.set (pAt l p.id).toNat p) rfl ?_
    cbv
    repeat (refine Pz.mk ?_; cbv)
    refine ⟨?_, trivial⟩
    exact (hx.trans (if_pos h0)).symm
  have h0 : ¬ pAt l p.id ≥ 0 := h0
  have hx := hx.trans (if_neg h0)
  have hne : ∀ q ∈ l, ¬ q.id = p.id := fun q hq he => by
    rcases atOf_cases (fun q : Party => q.id == p.id) l with ⟨_, e⟩ | ⟨i, hi, e, _, _⟩
    · have := e q hq
      simp [he] at this
    · have e : pAt l p.id = (i : Int) := e
      omega
  refine LoopE.by (X := Nat) (fun i => [(0, lA .pty l), (3, pN 0), (5, nT fun _ => i)]) (fun _ => [(0, .box ((cellsT .pty fun _ => p).map .lf))]) (fun i => i ≤ l.length ∧ ∀ (j : Nat) y, j < i → l[j]? = some y → y.id < p.id) (fun i _ => l.length - i) 0 ⟨Nat.zero_le _, fun j y hj => by omega⟩ ?_ ?_
  · cbv
    repeat (refine Pz.mk ?_; cbv)
    repeat' first | exact trivial | refine ⟨rfl, ?_⟩ | fail
  · intro i ⟨hi, hb⟩
    have o1 : 0 ≤ (0 : Int) ∧ (0 : Int) ≤ (i : Int) ∧ (i : Int) ≤ (l.length : Int) := ⟨by omega, by omega, by omega⟩
    have o2 : (([] : List Party).length + ((l.take ((i : Int)).toNat).drop ((0 : Int)).toNat).length) * 80 ≤ 140737488355328 := by
      rw [List.length_drop, List.length_take]; simp only [List.length_nil]; omega
    have o3 : 0 ≤ (i : Int) ∧ (i : Int) ≤ (l.length : Int) ∧ (l.length : Int) ≤ (l.length : Int) := ⟨by omega, by omega, by omega⟩
    have o5 : (([] ++ (l.take ((i : Int)).toNat).drop ((0 : Int)).toNat : List Party).length + 1) * 80 ≤ 140737488355328 := by
      rw [List.length_append, List.length_drop, List.length_take]; simp only [List.length_nil]; omega
    have o4 : (([] ++ (l.take ((i : Int)).toNat).drop ((0 : Int)).toNat ++ [p] : List Party).length + ((l.take ((l.length : Int)).toNat).drop ((i : Int)).toNat).length) * 80 ≤ 140737488355328 := by
      rw [List.length_append, List.length_append, List.length_drop, List.length_take, List.length_drop, List.length_take]; simp only [List.length_nil, List.length_cons]; omega
    have fin : putAt l p.id = i → [] ++ (l.take ((i : Int)).toNat).drop ((0 : Int)).toNat ++ [p] ++ (l.take ((l.length : Int)).toNat).drop ((i : Int)).toNat = x := fun e => by
      rw [hx, e]; simp
    cbv
    repeat (refine Pz.mk ?_; cbv)
    refine Br.dec (fun h2 => ?_) (fun h2 => ?_) <;> (cbv; repeat (refine Pz.mk ?_; cbv))
    · have h2 : i < l.length := by simpa using h2
      refine ⟨l[i], by simp, get_cast l h2, ?_⟩
      cbv
      repeat (refine Pz.mk ?_; cbv)
      refine Br.dec (fun h3 => ?_) (fun h3 => ?_) <;> (cbv; repeat (refine Pz.mk ?_; cbv))
      · have h3 : l[i].id < p.id := h3
        refine Ar.exact (by (try simp only [nc] at *); omega) (by (try simp only [nc] at *); omega) ?_
        cbv
        repeat (refine Pz.mk ?_; cbv)
        refine NextE.by (i + 1) ?_ ?_ ?_
        · show l.length - (i + 1) < l.length - i
          omega
        · exact ⟨h2, pre_step h2 hb h3⟩
        · cbv
          repeat (refine Pz.mk ?_; cbv)
          repeat' first | exact trivial | refine ⟨rfl, ?_⟩ | fail
      · have h3 : ¬ l[i].id < p.id := h3
        have e := putAt_hit h2 hb (by have := hne _ (List.getElem_mem h2); omega)
        repeat' first
          | (refine Ob.mk o1 ?_; cbv; repeat (refine Pz.mk ?_; cbv))
          | (refine Ob.mk o3 ?_; cbv; repeat (refine Pz.mk ?_; cbv))
          | (refine Ob.mk o2 ?_; cbv; repeat (refine Pz.mk ?_; cbv))
          | (refine Ob.mk o4 ?_; cbv; repeat (refine Pz.mk ?_; cbv))
          | (refine Ob.mk o5 ?_; cbv; repeat (refine Pz.mk ?_; cbv))
          | refine And.intro ?_ ?_
          | fail
        all_goals first | exact trivial | exact ⟨fin e, trivial⟩ | exact fin e
    · have h2 : l.length ≤ i := by simp at h2; omega
      have e : putAt l p.id = i := (putAt_end h2 hb).trans (by omega)
      repeat' first
        | (refine Ob.mk o1 ?_; cbv; repeat (refine Pz.mk ?_; cbv))
        | (refine Ob.mk o3 ?_; cbv; repeat (refine Pz.mk ?_; cbv))
        | (refine Ob.mk o2 ?_; cbv; repeat (refine Pz.mk ?_; cbv))
        | (refine Ob.mk o4 ?_; cbv; repeat (refine Pz.mk ?_; cbv))
        | (refine Ob.mk o5 ?_; cbv; repeat (refine Pz.mk ?_; cbv))
        | refine And.intro ?_ ?_
        | fail
      all_goals first | exact trivial | exact ⟨fin e, trivial⟩ | exact fin e
end Go.Proofs.Ytlochjpjlhkjaaa

