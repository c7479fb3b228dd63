/- Parts of a proof. No conditions. -/

import Derived.Test.YtlochjpjlhkjaaaGWl
import Derived.Test.YtlochjpjlhkjaaaG24
import Derived.Test.YtlochjpjlhkjaaaG09
import Derived.Test.YtlochjpjlhkjaaaG10
set_option linter.unusedSimpArgs false
set_option linter.unusedVariables false
namespace Go.Proofs.Ytlochjpjlhkjaaa
open Go
set_option maxRecDepth 100000
set_option maxHeartbeats 4000000 in
theorem l7Entry_ok (code : List UInt8) (i h : Int) (hi : CurOk code i) (hc : code.length ≤ bigN) : SpecM Try.prog 56 [cP] (curB code i h) (RetC code (fun _ : Entry => True) fun p => eR .ent fun _ => p) := by
  unfold RetC
  refine specX_of (pk := [0, 1]) tabOk Try.func56 rfl rfl (fr := true) (fun _ => by kernel_rfl) (fun _ => rfl) rfl rfl fun P hP hA hB => ?_
  cbv
  repeat (refine Pz.mk ?_; cbv)
  repeat' first
    | exact trivial
    | (refine Pz.mk ?_; cbv)
    | (refine CallM.ex hP (l1Below_ok code _ _ _ (by assumption) hc) ?_; rintro ⟨x, i2, h2⟩ ⟨hx, hi2⟩; (try dsimp only at hx hi2); cbv)
    | (refine CallM.ex hP (l1Once_ok code _ _ _ (by assumption) hc) ?_; rintro ⟨x, i2, h2⟩ ⟨hx, hi2⟩; (try dsimp only at hx hi2); cbv)
    | (refine CallM.ex hP (l1PickInt_ok code _ _ _ (by decide) (by assumption) hc) ?_; rintro ⟨x, i2, h2⟩ ⟨hx, hi2⟩; (try dsimp only at hx hi2); cbv)
    | (refine Br.dec (fun hb => ?_) (fun hb => ?_) <;> cbv)
    | (refine Br.split (fun hb => ?_) (fun hb => ?_) <;> cbv)
    | (refine Ar.exact (by omega) (by omega) ?_; cbv)
    | (refine TabG.mk ?_ (by kernel_rfl) ?_; rotate_left; cbv; rotate_right) | refine ⟨rfl, ?_⟩ | refine And.intro ?_ ?_ | exact rfl | fail
  all_goals
    apply exEnt
    · cbv
      (try dsimp only)
      repeat' first | exact trivial | refine ⟨rfl, ?_⟩ | fail
    · exact ⟨trivial, by assumption⟩
set_option maxHeartbeats 4000000 in
theorem l8Right_ok (code : List UInt8) (i h : Int) (hi : CurOk code i) (hc : code.length ≤ bigN) : SpecM Try.prog 54 [cP] (curB code i h) (RetC code (fun _ : Ledger => True) fun p => leR fun _ => p) := by
  unfold RetC
  refine specX_of (pk := [0, 1]) tabOk Try.func54 rfl rfl (fr := true) (fun _ => by kernel_rfl) (fun _ => rfl) rfl rfl fun P hP hA hB => ?_
  cbv
  repeat (refine Pz.mk ?_; cbv)
  repeat' first
    | exact trivial
    | (refine Pz.mk ?_; cbv)
    | (refine CallM.ex hP (l1Below_ok code _ _ _ (by assumption) hc) ?_; rintro ⟨x, i2, h2⟩ ⟨hx, hi2⟩; (try dsimp only at hx hi2); cbv)
    | (refine CallM.ex hP (l1Once_ok code _ _ _ (by assumption) hc) ?_; rintro ⟨x, i2, h2⟩ ⟨hx, hi2⟩; (try dsimp only at hx hi2); cbv)
    | (refine CallM.ex hP (l1PickInt_ok code _ _ _ (by decide) (by assumption) hc) ?_; rintro ⟨x, i2, h2⟩ ⟨hx, hi2⟩; (try dsimp only at hx hi2); cbv)
    | (refine Br.dec (fun hb => ?_) (fun hb => ?_) <;> cbv)
    | (refine Br.split (fun hb => ?_) (fun hb => ?_) <;> cbv)
    | (refine Ar.exact (by omega) (by omega) ?_; cbv)
    | (refine TabG.mk ?_ (by kernel_rfl) ?_; rotate_left; cbv; rotate_right) | refine ⟨rfl, ?_⟩ | refine And.intro ?_ ?_ | exact rfl | fail
  all_goals
    apply exLed
    · cbv
      (try dsimp only)
      repeat' first | exact trivial | refine ⟨rfl, ?_⟩ | fail
    · exact ⟨trivial, by assumption⟩
set_option maxHeartbeats 4000000 in
theorem l8Draw_ok (code : List UInt8) (i h : Int) (hi : CurOk code i) (hc : code.length ≤ bigN) : SpecM Try.prog 39 [cP] (curB code i h) (RetC code (fun _ : Ledger => True) fun p => leR fun _ => p) := by
  unfold RetC
  refine specX_of (pk := [0, 1]) tabOk Try.func39 rfl rfl (fr := true) (fun _ => by kernel_rfl) (fun _ => rfl) rfl rfl fun P hP hA hB => ?_
  cbv
  repeat (refine Pz.mk ?_; cbv)
  repeat' first
    | exact trivial
    | (refine Pz.mk ?_; cbv)
    | (refine CallM.ex hP (l8Right_ok code _ _ (by assumption) hc) ?_; rintro ⟨x, i2, h2⟩ ⟨hx, hi2⟩; (try dsimp only at hx hi2); cbv)
    | (refine CallM.ex hP (l1Below_ok code _ _ _ (by assumption) hc) ?_; rintro ⟨x, i2, h2⟩ ⟨hx, hi2⟩; (try dsimp only at hx hi2); cbv)
    | (refine CallM.ex hP (l1Once_ok code _ _ _ (by assumption) hc) ?_; rintro ⟨x, i2, h2⟩ ⟨hx, hi2⟩; (try dsimp only at hx hi2); cbv)
    | (refine CallM.ex hP (l1PickInt_ok code _ _ _ (by decide) (by assumption) hc) ?_; rintro ⟨x, i2, h2⟩ ⟨hx, hi2⟩; (try dsimp only at hx hi2); cbv)
    | (refine Br.dec (fun hb => ?_) (fun hb => ?_) <;> cbv)
    | (refine Br.split (fun hb => ?_) (fun hb => ?_) <;> cbv)
    | (refine Ar.exact (by omega) (by omega) ?_; cbv)
    | (refine TabG.mk ?_ (by kernel_rfl) ?_; rotate_left; cbv; rotate_right) | refine ⟨rfl, ?_⟩ | refine And.intro ?_ ?_ | exact rfl | fail
  all_goals
    apply exLed
    · cbv
      (try dsimp only)
      repeat' first | exact trivial | refine ⟨rfl, ?_⟩ | fail
    · exact ⟨trivial, by assumption⟩
set_option maxHeartbeats 4000000 in
theorem l9Pin_ok (code : List UInt8) (i h : Int) (hi : CurOk code i) (hc : code.length ≤ bigN) : SpecM Try.prog 58 [cP] (curB code i h) (RetC code (fun _ : Pin => True) fun p => eR .pin fun _ => p) := by
  unfold RetC
  refine specX_of (pk := [0, 1]) tabOk Try.func58 rfl rfl (fr := true) (fun _ => by kernel_rfl) (fun _ => rfl) rfl rfl fun P hP hA hB => ?_
  cbv
  repeat (refine Pz.mk ?_; cbv)
  repeat' first
    | exact trivial
    | (refine Pz.mk ?_; cbv)
    | (refine CallM.ex hP (l1Below_ok code _ _ _ (by assumption) hc) ?_; rintro ⟨x, i2, h2⟩ ⟨hx, hi2⟩; (try dsimp only at hx hi2); cbv)
    | (refine CallM.ex hP (l1Once_ok code _ _ _ (by assumption) hc) ?_; rintro ⟨x, i2, h2⟩ ⟨hx, hi2⟩; (try dsimp only at hx hi2); cbv)
    | (refine CallM.ex hP (l1PickInt_ok code _ _ _ (by decide) (by assumption) hc) ?_; rintro ⟨x, i2, h2⟩ ⟨hx, hi2⟩; (try dsimp only at hx hi2); cbv)
    | (refine Br.dec (fun hb => ?_) (fun hb => ?_) <;> cbv)
    | (refine Br.split (fun hb => ?_) (fun hb => ?_) <;> cbv)
    | (refine Ar.exact (by omega) (by omega) ?_; cbv)
    | (refine TabG.mk ?_ (by kernel_rfl) ?_; rotate_left; cbv; rotate_right) | refine ⟨rfl, ?_⟩ | refine And.intro ?_ ?_ | exact rfl | fail
  all_goals
    apply exPin
    · cbv
      (try dsimp only)
      repeat' first | exact trivial | refine ⟨rfl, ?_⟩ | fail
    · exact ⟨trivial, by assumption⟩
theorem specQueuePut_ok (a : List Entry) (e : Entry) (hn : a.length + 1 ≤ bigN) : Spec Try.prog 66 [lA .ent a, eA .ent e] (RetX (List Entry × Bool) (fun x => x.1.length ≤ a.length + 1) fun x => .tup [(false, [.own .ent fun _ => x.1]), (false, [.bool fun _ => x.2])]) := by
  have ha : a.length ≤ bigN := Nat.le_trans (Nat.le_succ _) hn
  refine spec_of tabOk Try.func66 rfl rfl (fr := true) (fun _ => by kernel_rfl) fun P hP hA => ?_
  cbv
  repeat (refine Pz.mk ?_; cbv)
  repeat' first
    | exact trivial
    | (refine Pz.mk ?_; cbv)
    | (refine CallA.by hP (l7Put_ok a e ha) ?_; cbv)
    | (refine CallA.by hP (specQueueOk_ok a (queueOkB a) rfl) ?_; cbv)
    | (refine CallA.by hP (specQueueOk_ok (insL entLt e a) (queueOkB (insL entLt e a)) rfl) ?_; cbv)
    | (refine CallA.by hP (l7Copy_ok a ha) ?_; cbv)
    | (refine Br.split (fun hb => ?_) (fun hb => ?_) <;> cbv)
    | fail
  all_goals first
    | (refine ⟨(a, false), Nat.le_succ _, ?_⟩; cbv; (repeat' first | exact trivial | refine ⟨rfl, ?_⟩ | fail); done)
    | (refine ⟨(insL entLt e a, true), Nat.le_of_eq insL_len, ?_⟩; cbv; (repeat' first | exact trivial | refine ⟨rfl, ?_⟩ | fail); done)
set_option maxHeartbeats 4000000 in
theorem l7Right_ok (code : List UInt8) (i h : Int) (hi : CurOk code i) (hc : code.length ≤ bigN) : SpecM Try.prog 55 [cP] (curB code i h) (RetC code (fun l : List Entry => l.length ≤ 16) fun l => lR .ent fun _ => l) := by
  unfold RetC
  refine specX_of (pk := [0, 1]) tabOk Try.func55 rfl rfl (fr := true) (fun _ => by kernel_rfl) (fun _ => rfl) rfl rfl fun P hP hA hB => ?_
  cbv
  repeat (refine Pz.mk ?_; cbv)
  repeat' first
    | exact trivial
    | (refine Pz.mk ?_; cbv)
    | (refine CallM.ex hP (l1Below_ok code _ _ _ (by assumption) hc) ?_; rintro ⟨x, i2, h2⟩ ⟨hx, hi2⟩; (try dsimp only at hx hi2); cbv)
    | (refine CallM.ex hP (l1Once_ok code _ _ _ (by assumption) hc) ?_; rintro ⟨x, i2, h2⟩ ⟨hx, hi2⟩; (try dsimp only at hx hi2); cbv)
    | (refine CallM.ex hP (l1PickInt_ok code _ _ _ (by decide) (by assumption) hc) ?_; rintro ⟨x, i2, h2⟩ ⟨hx, hi2⟩; (try dsimp only at hx hi2); cbv)
    | (refine Br.dec (fun hb => ?_) (fun hb => ?_) <;> cbv)
    | (refine Br.split (fun hb => ?_) (fun hb => ?_) <;> cbv)
    | (refine Ar.exact (by omega) (by omega) ?_; cbv)
    | (refine TabG.mk ?_ (by kernel_rfl) ?_; rotate_left; cbv; rotate_right) | refine ⟨rfl, ?_⟩ | refine And.intro ?_ ?_ | exact rfl | fail
  all_goals
    apply LoopE.by5 (A := List Entry) (B := Int) (C := Int) (D := Int) (E := Int) (fun l j n i h => [(0, pN 0), (3, oN 2), (4, iT fun _ => n), (5, iT fun _ => j)]) (fun l j n i h => [(0, curBox i h), (1, codeV code), (2, ownB' .ent fun _ => l)]) (fun l j n i h => 0 ≤ j ∧ j ≤ 16 ∧ n ≤ 13 ∧ l.length ≤ j.toNat ∧ CurOk code i) (fun l j n i h _ => (13 - j).toNat)
    · cbv
      repeat' first | exact trivial | refine ⟨rfl, ?_⟩ | fail
    · exact ⟨by omega, by omega, by omega, Nat.zero_le _, by assumption⟩
    · rintro l j n i1 h1 ⟨q1, q2, q3, q4, q5⟩
      cbv
      have hq : l.length + 1 ≤ bigN := by show l.length + 1 ≤ 1048576; omega
      repeat' first
        | exact trivial
        | (refine Pz.mk ?_; cbv)
        | (refine CallM.ex hP (l7Entry_ok code _ _ (by assumption) hc) ?_; rintro ⟨x, i2, h2⟩ ⟨hx, hi2⟩; (try dsimp only at hx hi2); cbv)
        | (refine CallA.ex hP (specQueuePut_ok l x hq) ?_; rintro x hx; (try dsimp only at hx); cbv)
        | (refine CallA.ex hP (specQueuePut_ok l ⟨x.lvl, x.turn, 100 + j, x.siz⟩ hq) ?_; rintro x hx; (try dsimp only at hx); cbv)
        | (refine CallM.ex hP (l1Below_ok code _ _ _ (by assumption) hc) ?_; rintro ⟨x, i2, h2⟩ ⟨hx, hi2⟩; (try dsimp only at hx hi2); cbv)
        | (refine CallM.ex hP (l1Once_ok code _ _ _ (by assumption) hc) ?_; rintro ⟨x, i2, h2⟩ ⟨hx, hi2⟩; (try dsimp only at hx hi2); cbv)
        | (refine CallM.ex hP (l1PickInt_ok code _ _ _ (by decide) (by assumption) hc) ?_; rintro ⟨x, i2, h2⟩ ⟨hx, hi2⟩; (try dsimp only at hx hi2); cbv)
        | (refine Br.dec (fun hb => ?_) (fun hb => ?_) <;> cbv)
        | (refine Br.split (fun hb => ?_) (fun hb => ?_) <;> cbv)
        | (refine Ar.exact (by omega) (by omega) ?_; cbv)
        | (refine TabG.mk ?_ (by kernel_rfl) ?_; rotate_left; cbv; rotate_right) | refine ⟨rfl, ?_⟩ | refine And.intro ?_ ?_ | exact rfl | fail
      · refine NextE.by (x.1, j + 1, n, i2, h2) ?_ ?_ ?_
        · dsimp only; omega
        · dsimp only; exact ⟨by omega, by omega, q3, by omega, by assumption⟩
        · cbv
          repeat' first | exact trivial | refine ⟨rfl, ?_⟩ | fail
      · refine NextE.by (x.1, j + 1, n, i2, h2) ?_ ?_ ?_
        · dsimp only; omega
        · dsimp only; exact ⟨by omega, by omega, q3, by omega, by assumption⟩
        · cbv
          repeat' first | exact trivial | refine ⟨rfl, ?_⟩ | fail
      · refine ⟨(l, i1, h1), ⟨(by omega : l.length ≤ 16), q5⟩, ?_⟩
        cbv
        repeat' first | exact trivial | refine ⟨rfl, ?_⟩ | fail
set_option maxHeartbeats 4000000 in
theorem l7Draw_ok (code : List UInt8) (i h : Int) (hi : CurOk code i) (hc : code.length ≤ bigN) : SpecM Try.prog 40 [cP] (curB code i h) (RetC code (fun l : List Entry => l.length ≤ 17) fun l => lR .ent fun _ => l) := by
  unfold RetC
  refine specX_of (pk := [0, 1]) tabOk Try.func40 rfl rfl (fr := true) (fun _ => by kernel_rfl) (fun _ => rfl) rfl rfl fun P hP hA hB => ?_
  cbv
  repeat (refine Pz.mk ?_; cbv)
  refine CallM.ex hP (l7Right_ok code i h hi hc) fun ⟨l, i1, h1⟩ ⟨hl, hi1⟩ => ?_
  cbv
  repeat (refine Pz.mk ?_; cbv)
  have hl : l.length ≤ 16 := hl
  have ob : (l.length + 1) * 32 ≤ 140737488355328 := by omega
  repeat' first
    | exact trivial
    | (refine Pz.mk ?_; cbv)
    | (refine CallM.ex hP (l7Entry_ok code _ _ (by assumption) hc) ?_; rintro ⟨x, i2, h2⟩ ⟨hx, hi2⟩; (try dsimp only at hx hi2); cbv)
    | (refine Ob.mk (ob) ?_; cbv)
    | (refine Sv.len ?_; intro u hu; simp only [List.length_set] at hu; cbv)
    | (refine Ob.mk (by (try simp only [nc] at *); omega) ?_; cbv)
    | (refine CallM.ex hP (l1Below_ok code _ _ _ (by assumption) hc) ?_; rintro ⟨x, i2, h2⟩ ⟨hx, hi2⟩; (try dsimp only at hx hi2); cbv)
    | (refine CallM.ex hP (l1Once_ok code _ _ _ (by assumption) hc) ?_; rintro ⟨x, i2, h2⟩ ⟨hx, hi2⟩; (try dsimp only at hx hi2); cbv)
    | (refine CallM.ex hP (l1PickInt_ok code _ _ _ (by decide) (by assumption) hc) ?_; rintro ⟨x, i2, h2⟩ ⟨hx, hi2⟩; (try dsimp only at hx hi2); cbv)
    | (refine Br.dec (fun hb => ?_) (fun hb => ?_) <;> cbv)
    | (refine Br.split (fun hb => ?_) (fun hb => ?_) <;> cbv)
    | (refine Ar.exact (by omega) (by omega) ?_; cbv)
    | (refine TabG.mk ?_ (by kernel_rfl) ?_; rotate_left; cbv; rotate_right) | refine ⟨rfl, ?_⟩ | refine And.intro ?_ ?_ | exact rfl | fail
  all_goals
    apply exOne
    · cbv
      (try dsimp only)
      repeat' first | exact trivial | refine ⟨rfl, ?_⟩ | fail
    · exact ⟨by simp only [List.length_set, List.length_append, List.length_singleton, List.length_cons, List.length_nil]; omega, by assumption⟩
set_option maxHeartbeats 4000000 in
theorem l9Pins_ok (code : List UInt8) (i h : Int) (hi : CurOk code i) (hc : code.length ≤ bigN) : SpecM Try.prog 67 [cP] (curB code i h) (RetC code (fun l : List Pin => l.length ≤ 8) fun l => lR .pin fun _ => l) := by
  unfold RetC
  refine specX_of (pk := [0, 1]) tabOk Try.func67 rfl rfl (fr := true) (fun _ => by kernel_rfl) (fun _ => rfl) rfl rfl fun P hP hA hB => ?_
  cbv
  repeat (refine Pz.mk ?_; cbv)
  refine CallM.ex hP (l1Below_ok code i h 8 hi hc) fun ⟨n, i1, h1⟩ ⟨hn, hi1⟩ => ?_
  cbv
  repeat (refine Pz.mk ?_; cbv)
  have hn : 0 ≤ n ∧ (n < 8 ∨ n = 0) := hn
  apply LoopE.by4 (A := List Pin) (B := Int) (C := Int) (D := Int) (fun l j i h => [(0, pN 0), (3, oN 2), (4, iT fun _ => n), (5, iT fun _ => j)]) (fun l j i h => [(0, curBox i h), (1, codeV code), (2, ownB' .pin fun _ => l)]) (fun l j i h => 0 ≤ j ∧ j ≤ 8 ∧ l.length ≤ j.toNat ∧ CurOk code i) (fun l j i h _ => (8 - j).toNat)
  · cbv
    repeat' first | exact trivial | refine ⟨rfl, ?_⟩ | fail
  · exact ⟨by omega, by omega, Nat.zero_le _, hi1⟩
  · rintro l j i2 h2 ⟨q1, q2, q3, q4⟩
    have ob : (l.length + 1) * 16 ≤ 140737488355328 := by omega
    cbv
    repeat' first
      | exact trivial
      | (refine Pz.mk ?_; cbv)
      | (refine CallM.ex hP (l9Pin_ok code _ _ (by assumption) hc) ?_; rintro ⟨x, i2, h2⟩ ⟨hx, hi2⟩; (try dsimp only at hx hi2); cbv)
      | (refine Ob.mk (ob) ?_; cbv)
      | (refine CallM.ex hP (l1Below_ok code _ _ _ (by assumption) hc) ?_; rintro ⟨x, i2, h2⟩ ⟨hx, hi2⟩; (try dsimp only at hx hi2); cbv)
      | (refine CallM.ex hP (l1Once_ok code _ _ _ (by assumption) hc) ?_; rintro ⟨x, i2, h2⟩ ⟨hx, hi2⟩; (try dsimp only at hx hi2); cbv)
      | (refine CallM.ex hP (l1PickInt_ok code _ _ _ (by decide) (by assumption) hc) ?_; rintro ⟨x, i2, h2⟩ ⟨hx, hi2⟩; (try dsimp only at hx hi2); cbv)
      | (refine Br.dec (fun hb => ?_) (fun hb => ?_) <;> cbv)
      | (refine Br.split (fun hb => ?_) (fun hb => ?_) <;> cbv)
      | (refine Ar.exact (by omega) (by omega) ?_; cbv)
      | (refine TabG.mk ?_ (by kernel_rfl) ?_; rotate_left; cbv; rotate_right) | refine ⟨rfl, ?_⟩ | refine And.intro ?_ ?_ | exact rfl | fail
    · refine NextE.by (l ++ [x], j + 1, i2, h2) ?_ ?_ ?_
      · dsimp only; omega
      · dsimp only; exact ⟨by omega, by omega, by rw [List.length_append, List.length_singleton]; omega, by assumption⟩
      · cbv
        repeat' first | exact trivial | refine ⟨rfl, ?_⟩ | fail
    · refine ⟨(l, i2, h2), ⟨(by omega : l.length ≤ 8), q4⟩, ?_⟩
      cbv
      repeat' first | exact trivial | refine ⟨rfl, ?_⟩ | fail
def fewW (w : List (List Pin)) : Prop := w.length = 9 ∧ ∀ x ∈ w, x.length ≤ 10
def fewV (w : List (List Pin)) : Prop := w.length ≤ 10 ∧ ∀ x ∈ w, x.length ≤ 11
theorem fewW.small {w : List (List Pin)} (h : fewW w) : smallSpk w := by
  refine ⟨?_, fun x hx => Nat.le_trans (h.2 x hx) (by decide)⟩
  rw [h.1]; decide
theorem fewV.small {w : List (List Pin)} (h : fewV w) : smallSpk w := ⟨Nat.le_trans h.1 (by decide), fun x hx => Nat.le_trans (h.2 x hx) (by decide)⟩
theorem fewW.v {w : List (List Pin)} (h : fewW w) : fewV w := ⟨by rw [h.1]; decide, fun x hx => Nat.le_trans (h.2 x hx) (by decide)⟩
theorem wheelOk_few {w : List (List Pin)} (h : wheelOkB w = true) : fewW w := by
  have h := of_decide_eq_true h
  exact ⟨h.len, fun x hx => Nat.le_trans (List.sublist_flatten_of_mem hx).length_le h.few⟩
theorem wPut_few {w : List (List Pin)} (hw : fewW w) (p : Pin) : fewW (wPut w p) := by
  unfold wPut
  split
  · rename_i h
    simp only [wPutB, Bool.and_eq_true] at h
    exact wheelOk_few h.2.2
  · exact hw
theorem fewW.get {w : List (List Pin)} (h : fewW w) (k : Unit → Nat) : List.length (getE .spk (fun _ => w) k ()) ≤ 10 := by
  show (w.getD (k ()) []).length ≤ 10
  rw [List.getD_eq_getElem?_getD]
  cases hk : w[k ()]? with
  | none => exact Nat.zero_le _
  | some x => exact h.2 x (List.mem_of_getElem? hk)
theorem fewW.set {w : List (List Pin)} (h : fewW w) (k : Nat) {l : List Pin} (hl : l.length ≤ 11) : fewV (w.set k l) := by
  refine ⟨by rw [List.length_set, h.1]; decide, fun x hx => ?_⟩
  rcases List.mem_or_eq_of_mem_set hx with hx | rfl
  · exact Nat.le_trans (h.2 x hx) (by decide)
  · exact hl
theorem fewW.app {w : List (List Pin)} (h : fewW w) {l : List (List Pin)} (hl : l.length ≤ 1) (hl2 : ∀ x ∈ l, x.length ≤ 11) : fewV (w ++ l) := by
  refine ⟨by rw [List.length_append, h.1]; omega, fun x hx => ?_⟩
  rcases List.mem_append.1 hx with hx | hx
  · exact Nat.le_trans (h.2 x hx) (by decide)
  · exact hl2 x hx
theorem fewW.take {w : List (List Pin)} (h : fewW w) (n : Nat) : fewV ((w.take n).drop (Int.toNat 0)) := by
  refine ⟨by rw [List.length_drop, List.length_take, h.1]; omega, fun x hx => ?_⟩
  exact Nat.le_trans (h.2 x (List.mem_of_mem_take (List.mem_of_mem_drop hx))) (by decide)
theorem specWheelPutX_ok (w : List (List Pin)) (p : Pin) (hw : fewW w) : Spec Try.prog 50 [whA w, eA .pin p] (RetX (List (List Pin) × Bool) (fun x => fewW x.1) fun x => .tup [(true, [.own .spk fun _ => x.1]), (false, [.bool fun _ => x.2])]) :=
  Spec.toX (wPut w p, wPutB w p) (wPut_few hw p) (specWheelPut_ok w p hw.small _ rfl _ rfl)
set_option maxHeartbeats 4000000 in
theorem l9Right_ok (code : List UInt8) (i h : Int) (hi : CurOk code i) (hc : code.length ≤ bigN) : SpecM Try.prog 57 [cP] (curB code i h) (RetC code fewW fun w => whR fun _ => w) := by
  have w0 : fewW (List.replicate 9 ([] : List Pin)) := wheelOk_few (by decide)
  unfold RetC
  refine specX_of (pk := [0, 1]) tabOk Try.func57 rfl rfl (fr := true) (fun _ => by kernel_rfl) (fun _ => rfl) rfl rfl fun P hP hA hB => ?_
  cbv
  repeat (refine Pz.mk ?_; cbv)
  repeat' first
    | exact trivial
    | (refine Pz.mk ?_; cbv)
    | (refine CallA.by hP (specWheelNew_ok) ?_; cbv)
    | (refine CallM.ex hP (l9Pins_ok code _ _ (by assumption) hc) ?_; rintro ⟨x, i2, h2⟩ ⟨hx, hi2⟩; (try dsimp only at hx hi2); cbv)
    | (refine CallM.ex hP (l1Below_ok code _ _ _ (by assumption) hc) ?_; rintro ⟨x, i2, h2⟩ ⟨hx, hi2⟩; (try dsimp only at hx hi2); cbv)
    | (refine CallM.ex hP (l1Once_ok code _ _ _ (by assumption) hc) ?_; rintro ⟨x, i2, h2⟩ ⟨hx, hi2⟩; (try dsimp only at hx hi2); cbv)
    | (refine CallM.ex hP (l1PickInt_ok code _ _ _ (by decide) (by assumption) hc) ?_; rintro ⟨x, i2, h2⟩ ⟨hx, hi2⟩; (try dsimp only at hx hi2); cbv)
    | (refine Br.dec (fun hb => ?_) (fun hb => ?_) <;> cbv)
    | (refine Br.split (fun hb => ?_) (fun hb => ?_) <;> cbv)
    | (refine Ar.exact (by omega) (by omega) ?_; cbv)
    | (refine TabG.mk ?_ (by kernel_rfl) ?_; rotate_left; cbv; rotate_right) | refine ⟨rfl, ?_⟩ | refine And.intro ?_ ?_ | exact rfl | fail
  apply LoopE.by2 (A := List Pin) (B := Int) (fun l j => [(0, pN 0), (2, pN 2), (3, pN 3), (4, oN 4), (5, iT fun _ => j)]) (fun l j => [(0, curBox i2 h2), (1, codeV code), (2, .box [.nil]), (3, .box [.own 5]), (4, ownB' .pin fun _ => l), (5, ownB' .spk fun _ => List.replicate 9 [])]) (fun l j => 0 ≤ j ∧ j ≤ 10 ∧ l.length ≤ 8 + j.toNat) (fun l j _ => (10 - j).toNat)
  · cbv
    repeat' first | exact trivial | refine ⟨rfl, ?_⟩ | fail
  · exact ⟨by omega, by omega, by omega⟩
  rintro l j ⟨q1, q2, q3⟩
  have ob : (l.length + 1) * 16 ≤ 140737488355328 := by omega
  cbv
  repeat' first
    | exact trivial
    | (refine Pz.mk ?_; cbv)
    | (refine Ob.mk (ob) ?_; cbv)
    | (refine CallM.ex hP (l1Below_ok code _ _ _ (by assumption) hc) ?_; rintro ⟨x, i2, h2⟩ ⟨hx, hi2⟩; (try dsimp only at hx hi2); cbv)
    | (refine CallM.ex hP (l1Once_ok code _ _ _ (by assumption) hc) ?_; rintro ⟨x, i2, h2⟩ ⟨hx, hi2⟩; (try dsimp only at hx hi2); cbv)
    | (refine CallM.ex hP (l1PickInt_ok code _ _ _ (by decide) (by assumption) hc) ?_; rintro ⟨x, i2, h2⟩ ⟨hx, hi2⟩; (try dsimp only at hx hi2); cbv)
    | (refine Br.dec (fun hb => ?_) (fun hb => ?_) <;> cbv)
    | (refine Br.split (fun hb => ?_) (fun hb => ?_) <;> cbv)
    | (refine Ar.exact (by omega) (by omega) ?_; cbv)
    | (refine TabG.mk ?_ (by kernel_rfl) ?_; rotate_left; cbv; rotate_right) | refine ⟨rfl, ?_⟩ | refine And.intro ?_ ?_ | exact rfl | fail
  · refine NextE.by (l ++ [⟨3 + j, 100 + j⟩], j + 1) ?_ ?_ ?_
    · dsimp only; omega
    · dsimp only; exact ⟨by omega, by omega, by rw [List.length_append, List.length_singleton]; omega⟩
    · cbv
      repeat' first | exact trivial | refine ⟨rfl, ?_⟩ | fail
  all_goals
    apply LoopE.by3 (A := List (List Pin)) (B := List Pin) (C := Int) (fun w l j => [(0, pN 0), (2, pN 2), (3, pN 3), (4, oN 4), (6, iT fun _ => j)]) (fun w l j => [(0, curBox i2 h2), (1, codeV code), (2, .box [.nil]), (3, .box [.own 5]), (4, ownB' .pin fun _ => l), (5, ownB' .spk fun _ => w)]) (fun w l j => fewW w ∧ l.length ≤ 18 ∧ 0 ≤ j ∧ j.toNat ≤ l.length) (fun w l j _ => l.length - j.toNat)
    · cbv
      repeat' first | exact trivial | refine ⟨rfl, ?_⟩ | fail
    · exact ⟨w0, by omega, by omega, Nat.zero_le _⟩
    rintro w l j ⟨hw, q1, q2, q3⟩
    cbv
    repeat' first
      | exact trivial
      | (refine Pz.mk ?_; cbv)
      | (refine CallA.ex hP (specWheelPutX_ok w _ hw) ?_; rintro x hx; (try dsimp only at hx); cbv)
      | (refine Ob.mk ⟨q2, hb⟩ ?_; cbv)
      | (refine CallM.ex hP (l1Below_ok code _ _ _ (by assumption) hc) ?_; rintro ⟨x, i2, h2⟩ ⟨hx, hi2⟩; (try dsimp only at hx hi2); cbv)
      | (refine CallM.ex hP (l1Once_ok code _ _ _ (by assumption) hc) ?_; rintro ⟨x, i2, h2⟩ ⟨hx, hi2⟩; (try dsimp only at hx hi2); cbv)
      | (refine CallM.ex hP (l1PickInt_ok code _ _ _ (by decide) (by assumption) hc) ?_; rintro ⟨x, i2, h2⟩ ⟨hx, hi2⟩; (try dsimp only at hx hi2); cbv)
      | (refine Br.dec (fun hb => ?_) (fun hb => ?_) <;> cbv)
      | (refine Br.split (fun hb => ?_) (fun hb => ?_) <;> cbv)
      | (refine Ar.exact (by omega) (by omega) ?_; cbv)
      | (refine TabG.mk ?_ (by kernel_rfl) ?_; rotate_left; cbv; rotate_right) | refine ⟨rfl, ?_⟩ | refine And.intro ?_ ?_ | exact rfl | fail
    · have hb : j < (l.length : Int) := hb
      refine NextE.by (x.1, l, j + 1) ?_ ?_ ?_
      · dsimp only; omega
      · dsimp only; exact ⟨hx, by omega, by omega, by omega⟩
      · cbv
        repeat' first | exact trivial | refine ⟨rfl, ?_⟩ | fail
    · refine ⟨(w, i2, h2), ⟨hw, by assumption⟩, ?_⟩
      cbv
      repeat' first | exact trivial | refine ⟨rfl, ?_⟩ | fail
set_option maxHeartbeats 4000000 in
theorem l9Draw_ok (code : List UInt8) (i h : Int) (hi : CurOk code i) (hc : code.length ≤ bigN) : SpecM Try.prog 41 [cP] (curB code i h) (RetC code fewV fun w => whR fun _ => w) := by
  unfold RetC
  refine specX_of (pk := [0, 1]) tabOk Try.func41 rfl rfl (fr := true) (fun _ => by kernel_rfl) (fun _ => rfl) rfl rfl fun P hP hA hB => ?_
  cbv
  repeat (refine Pz.mk ?_; cbv)
  refine CallM.ex hP (l9Right_ok code i h hi hc) fun ⟨w, i1, h1⟩ ⟨hw, hi1⟩ => ?_
  cbv
  repeat (refine Pz.mk ?_; cbv)
  have hw : fewW w := hw
  have hl : w.length = 9 := hw.1
  have obw : (w.length + 1) * 24 ≤ 140737488355328 := by rw [hl]; decide
  have hg : ∀ k : Unit → Nat, (List.length (getE .spk (fun _ => w) k ()) + 1) * 16 ≤ 140737488355328 := fun k => by have := hw.get k; omega
  have hg2 : ∀ (k : Unit → Nat) (p : Pin), List.length (getE .spk (fun _ => w) k () ++ [p]) ≤ 11 := fun k p => by have := hw.get k; rw [List.length_append, List.length_singleton]; omega
  repeat' first
    | exact trivial
    | (refine Pz.mk ?_; cbv)
    | (refine CallM.ex hP (l1Below_ok code _ _ _ (by assumption) hc) ?_; rintro ⟨k, i2, h2⟩ ⟨hk, hi2⟩; (try dsimp only at hk hi2); cbv)
    | (refine CallM.ex hP (l9Pin_ok code _ _ (by assumption) hc) ?_; rintro ⟨x, i2, h2⟩ ⟨hx, hi2⟩; (try dsimp only at hx hi2); cbv)
    | (refine Ob.mk (hg fun _ => k.toNat) ?_; cbv)
    | (refine Sv.sat fewV (hw.set k.toNat (hg2 (fun _ => k.toNat) ⟨x.tm, x.pid⟩)) ?_; intro u hu; cbv)
    | (refine Ob.mk (obw) ?_; cbv)
    | (refine Ob.mk (by (try simp only [nc] at *); omega) ?_; cbv)
    | (refine CallM.ex hP (l1Below_ok code _ _ _ (by assumption) hc) ?_; rintro ⟨x, i2, h2⟩ ⟨hx, hi2⟩; (try dsimp only at hx hi2); cbv)
    | (refine CallM.ex hP (l1Once_ok code _ _ _ (by assumption) hc) ?_; rintro ⟨x, i2, h2⟩ ⟨hx, hi2⟩; (try dsimp only at hx hi2); cbv)
    | (refine CallM.ex hP (l1PickInt_ok code _ _ _ (by decide) (by assumption) hc) ?_; rintro ⟨x, i2, h2⟩ ⟨hx, hi2⟩; (try dsimp only at hx hi2); cbv)
    | (refine Br.dec (fun hb => ?_) (fun hb => ?_) <;> cbv)
    | (refine Br.split (fun hb => ?_) (fun hb => ?_) <;> cbv)
    | (refine Ar.exact (by omega) (by omega) ?_; cbv)
    | (refine TabG.mk ?_ (by kernel_rfl) ?_; rotate_left; cbv; rotate_right) | refine ⟨rfl, ?_⟩ | refine And.intro ?_ ?_ | exact rfl | fail
  all_goals
    apply exOne
    · cbv
      (try dsimp only)
      repeat' first | exact trivial | refine ⟨rfl, ?_⟩ | fail
    · exact ⟨by first | assumption | exact hw.v | exact hw.take _ | exact hw.app (by decide) (by decide), by assumption⟩
def caRight (c : Cabin) : Prop := c.row.length ≤ 17 ∧ fewV c.spoke
theorem caRight.small {c : Cabin} (h : caRight c) : smallCab c := ⟨Nat.le_trans h.1 (by decide), h.2.small⟩
theorem exCab {A B : Cabin × Int × Int → Prop} (a1 a2 a3 a4 a5 : Int) (r : List Entry) (w : List (List Pin)) (i h : Int) (H : B (⟨⟨a1, a2, a3, a4, a5⟩, r, w⟩, i, h)) (H1 : A (⟨⟨a1, a2, a3, a4, a5⟩, r, w⟩, i, h)) : ∃ x, A x ∧ B x := ⟨_, H1, H⟩
set_option maxHeartbeats 4000000 in
theorem l10Right_ok (code : List UInt8) (i h : Int) (hi : CurOk code i) (hc : code.length ≤ bigN) : SpecM Try.prog 42 [cP] (curB code i h) (RetC code caRight fun c => .agg (caS fun _ => c)) := by
  unfold RetC
  refine specX_of (pk := [0, 1]) tabOk Try.func42 rfl rfl (fr := true) (fun _ => by kernel_rfl) (fun _ => rfl) rfl rfl fun P hP hA hB => ?_
  cbv
  repeat (refine Pz.mk ?_; cbv)
  refine CallM.ex hP (l8Right_ok code i h hi hc) fun ⟨a, i1, h1⟩ ⟨_, hi1⟩ => ?_
  cbv
  repeat (refine Pz.mk ?_; cbv)
  refine CallM.ex hP (l7Right_ok code i1 h1 hi1 hc) fun ⟨r, i2, h2⟩ ⟨hr, hi2⟩ => ?_
  cbv
  repeat (refine Pz.mk ?_; cbv)
  refine CallM.ex hP (l9Right_ok code i2 h2 hi2 hc) fun ⟨w, i3, h3⟩ ⟨hw, hi3⟩ => ?_
  cbv
  repeat (refine Pz.mk ?_; cbv)
  refine ⟨(⟨a, r, w⟩, i3, h3), ⟨⟨Nat.le_trans hr (by decide), fewW.v hw⟩, hi3⟩, ?_⟩
  cbv
  repeat (refine Pz.mk ?_; cbv)
  repeat' first | exact trivial | refine ⟨rfl, ?_⟩ | fail
set_option maxHeartbeats 4000000 in
theorem l10Draw_ok (code : List UInt8) (i h : Int) (hi : CurOk code i) (hc : code.length ≤ bigN) : SpecM Try.prog 24 [cP] (curB code i h) (RetC code caRight fun c => .agg (caS fun _ => c)) := by
  unfold RetC
  refine specX_of (pk := [0, 1]) tabOk Try.func24 rfl rfl (fr := true) (fun _ => by kernel_rfl) (fun _ => rfl) rfl rfl fun P hP hA hB => ?_
  cbv
  repeat (refine Pz.mk ?_; cbv)
  refine CallM.ex hP (l1Once_ok code i h 4 hi hc) fun ⟨b, i1, h1⟩ ⟨_, hi1⟩ => ?_
  cbv
  repeat (refine Pz.mk ?_; cbv)
  refine Br.split (fun hb => ?_) (fun hb => ?_) <;> (cbv; repeat (refine Pz.mk ?_; cbv))
  · refine CallM.ex hP (l8Draw_ok code i1 h1 hi1 hc) fun ⟨a, i2, h2⟩ ⟨_, hi2⟩ => ?_
    cbv
    repeat (refine Pz.mk ?_; cbv)
    refine CallM.ex hP (l7Draw_ok code i2 h2 hi2 hc) fun ⟨r, i3, h3⟩ ⟨hr, hi3⟩ => ?_
    cbv
    repeat (refine Pz.mk ?_; cbv)
    refine CallM.ex hP (l9Draw_ok code i3 h3 hi3 hc) fun ⟨w, i4, h4⟩ ⟨hw, hi4⟩ => ?_
    cbv
    repeat (refine Pz.mk ?_; cbv)
    refine ⟨(⟨a, r, w⟩, i4, h4), ⟨⟨hr, hw⟩, hi4⟩, ?_⟩
    cbv
    repeat (refine Pz.mk ?_; cbv)
    repeat' first | exact trivial | refine ⟨rfl, ?_⟩ | fail
  · refine CallM.ex hP (l10Right_ok code i1 h1 hi1 hc) fun ⟨c, i2, h2⟩ ⟨hc1, hi2⟩ => ?_
    cbv
    repeat (refine Pz.mk ?_; cbv)
    have hc1 : caRight c := hc1
    repeat' first
      | exact trivial
      | (refine Pz.mk ?_; cbv)
      | (refine CallM.ex hP (l1Below_ok code _ _ _ (by assumption) hc) ?_; rintro ⟨x, i2, h2⟩ ⟨hx, hi2⟩; (try dsimp only at hx hi2); cbv)
      | (refine CallM.ex hP (l1Once_ok code _ _ _ (by assumption) hc) ?_; rintro ⟨x, i2, h2⟩ ⟨hx, hi2⟩; (try dsimp only at hx hi2); cbv)
      | (refine CallM.ex hP (l1PickInt_ok code _ _ _ (by decide) (by assumption) hc) ?_; rintro ⟨x, i2, h2⟩ ⟨hx, hi2⟩; (try dsimp only at hx hi2); cbv)
      | (refine Br.dec (fun hb => ?_) (fun hb => ?_) <;> cbv)
      | (refine Br.split (fun hb => ?_) (fun hb => ?_) <;> cbv)
      | (refine Ar.exact (by omega) (by omega) ?_; cbv)
      | (refine TabG.mk ?_ (by kernel_rfl) ?_; rotate_left; cbv; rotate_right) | refine ⟨rfl, ?_⟩ | refine And.intro ?_ ?_ | exact rfl | fail
    all_goals
      apply exCab
      · cbv
        (try dsimp only)
        repeat' first | exact trivial | refine ⟨rfl, ?_⟩ | fail
      · exact ⟨hc1, hi2⟩
theorem queueX_ok (R : Rules) (l : List Party) (c now : Int) (hs : R.seats.length ≤ bigN) (hl : l.length ≤ bigN) : Spec Try.prog 52 [ruA R, lA .pty l, iA c, iA now] (RetX (List Entry) (fun x => x.length ≤ l.length) fun x => lR .ent fun _ => x) :=
  Spec.toX (queueOf R l c now) (by rw [queueOf, sortR_len]; exact entsOf_len _ _ _ _) (specQueueOf_ok R l c now hs hl)
theorem pinsX_ok (l : List Party) (c : Int) (hl : l.length ≤ bigN) : Spec Try.prog 49 [lA .pty l, iA c] (RetX (List Pin) (fun x => x.length ≤ l.length) fun x => lR .pin fun _ => x) :=
  Spec.toX (pinsIn l c) (by rw [pinsIn, sortR_len]; exact fm_len _ _) (specPinsIn_ok l c hl)
set_option maxHeartbeats 4000000 in
theorem l10Made_ok (r : Rules) (l : List Party) (k now free : Int) (hs : r.seats.length ≤ bigN) (hl : l.length ≤ 16) (hk : 0 ≤ k ∧ k < r.seats.length) (hf : 0 ≤ free ∧ free ≤ 100) (hr : ∀ x ∈ r.seats, 0 ≤ x ∧ x ≤ 100) : Spec Try.prog 35 [ruA r, lA .pty l, iA k, iA now, iA free] (RetX Cabin caRight fun c => .agg (caS fun _ => c)) := by
  have hl2 : l.length ≤ bigN := Nat.le_trans hl (by decide)
  have w0 : fewW (List.replicate 9 ([] : List Pin)) := wheelOk_few (by decide)
  obtain ⟨n, rfl⟩ : ∃ n : Nat, k = n := ⟨k.toNat, by omega⟩
  have hn : n < r.seats.length := by omega
  obtain ⟨s, hs2⟩ : ∃ s, s = r.seats[n] := ⟨_, rfl⟩
  have hs3 : 0 ≤ s ∧ s ≤ 100 := by rw [hs2]; exact hr _ (List.getElem_mem hn)
  have hs4 := get_cast r.seats hn
  rw [← hs2] at hs4
  refine spec_of tabOk Try.func35 rfl rfl (fr := true) (fun _ => by kernel_rfl) fun P hP hA => ?_
  cbv
  repeat (refine Pz.mk ?_; cbv)
  refine CallA.by hP (specWheelNew_ok) ?_
  cbv
  repeat (refine Pz.mk ?_; cbv)
  refine CallA.ex hP (pinsX_ok l (n : Int) hl2) fun ps hps => ?_
  cbv
  repeat (refine Pz.mk ?_; cbv)
  apply LoopE.by2 (A := List (List Pin)) (B := Int) (fun w j => [(1, lA .pty l), (2, iA (n : Int)), (3, iA now), (4, iA free), (5, pN 5), (10, pN 10), (11, pN 11), (12, oN 12), (13, iT fun _ => j)]) (fun w j => [(5, .box (ruC r)), (10, .box [.lf (.int .i64 fun _ => 0), .lf (.int .i64 fun _ => 0), .lf (.int .i64 fun _ => 0), .lf (.int .i64 fun _ => 0), .lf (.int .i64 fun _ => 0), .nil, .nil]), (11, .box [.own 13]), (12, ownB' .pin fun _ => ps), (13, ownB' .spk fun _ => w)]) (fun w j => fewW w ∧ 0 ≤ j ∧ j.toNat ≤ ps.length) (fun w j _ => ps.length - j.toNat)
  · cbv
    repeat' first | exact trivial | refine ⟨rfl, ?_⟩ | fail
  · exact ⟨w0, by omega, Nat.zero_le _⟩
  rintro w j ⟨hw, q2, q3⟩
  cbv
  repeat' first
    | exact trivial
    | (refine Pz.mk ?_; cbv)
    | (refine CallA.ex hP (specWheelPutX_ok w _ hw) ?_; rintro x hx; (try dsimp only at hx); cbv)
    | (refine Ob.mk ⟨q2, hb⟩ ?_; cbv)
    | (refine CallA.ex hP (heldX_ok l (n : Int) hl2) ?_; intro u1 hu1; cbv)
    | (refine CallA.ex hP (tiedX_ok l (n : Int) hl2) ?_; intro u2 hu2; cbv)
    | (refine Ix.mk s (by simp) hs4 ?_; cbv)
    | (refine CallA.ex hP (maxX_ok _ _) ?_; intro u3 hu3; cbv)
    | (refine CallA.ex hP (queueX_ok r l (n : Int) now hs hl2) ?_; intro u4 hu4; cbv)
    | (refine CallM.ex hP (l1Below_ok code _ _ _ (by assumption) hc) ?_; rintro ⟨x, i2, h2⟩ ⟨hx, hi2⟩; (try dsimp only at hx hi2); cbv)
    | (refine CallM.ex hP (l1Once_ok code _ _ _ (by assumption) hc) ?_; rintro ⟨x, i2, h2⟩ ⟨hx, hi2⟩; (try dsimp only at hx hi2); cbv)
    | (refine CallM.ex hP (l1PickInt_ok code _ _ _ (by decide) (by assumption) hc) ?_; rintro ⟨x, i2, h2⟩ ⟨hx, hi2⟩; (try dsimp only at hx hi2); cbv)
    | (refine Br.dec (fun hb => ?_) (fun hb => ?_) <;> cbv)
    | (refine Br.split (fun hb => ?_) (fun hb => ?_) <;> cbv)
    | (refine Ar.exact (by omega) (by omega) ?_; cbv)
    | (refine TabG.mk ?_ (by kernel_rfl) ?_; rotate_left; cbv; rotate_right) | refine ⟨rfl, ?_⟩ | refine And.intro ?_ ?_ | exact rfl | fail
  · have hb : j < (ps.length : Int) := hb
    refine NextE.by (x.1, j + 1) ?_ ?_ ?_
    · dsimp only; omega
    · dsimp only; exact ⟨hx, by omega, by omega⟩
    · cbv
      repeat' first | exact trivial | refine ⟨rfl, ?_⟩ | fail
  · refine ⟨⟨⟨s, s - u1 - u3, u1, u3, u2⟩, u4, w⟩, ⟨Nat.le_trans hu4 (Nat.le_trans hl (by decide)), hw.v⟩, ?_⟩
    cbv
    repeat' first | exact trivial | refine ⟨rfl, ?_⟩ | fail
end Go.Proofs.Ytlochjpjlhkjaaa

