/- Parts of a proof. No conditions. -/

import Derived.Test.YtlochjpjlhkjaaaGWa
import Derived.Test.YtlochjpjlhkjaaaG08
set_option linter.unusedSimpArgs false
set_option linter.unusedVariables false
namespace Go.Proofs.Ytlochjpjlhkjaaa
open Go
set_option maxRecDepth 100000
theorem exPty {A B : Party × Int × Int → Prop} (a1 a2 a3 a4 a5 a6 a7 a8 a9 a10 i h : Int) (H : B (⟨a1, a2, a3, a4, a5, a6, a7, a8, a9, a10⟩, i, h)) (H1 : A (⟨a1, a2, a3, a4, a5, a6, a7, a8, a9, a10⟩, i, h)) : ∃ x, A x ∧ B x := ⟨_, H1, H⟩
theorem exEnt {A B : Entry × Int × Int → Prop} (a1 a2 a3 a4 i h : Int) (H : B (⟨a1, a2, a3, a4⟩, i, h)) (H1 : A (⟨a1, a2, a3, a4⟩, i, h)) : ∃ x, A x ∧ B x := ⟨_, H1, H⟩
theorem exLed {A B : Ledger × Int × Int → Prop} (a1 a2 a3 a4 a5 i h : Int) (H : B (⟨a1, a2, a3, a4, a5⟩, i, h)) (H1 : A (⟨a1, a2, a3, a4, a5⟩, i, h)) : ∃ x, A x ∧ B x := ⟨_, H1, H⟩
theorem exPin {A B : Pin × Int × Int → Prop} (a1 a2 i h : Int) (H : B (⟨a1, a2⟩, i, h)) (H1 : A (⟨a1, a2⟩, i, h)) : ∃ x, A x ∧ B x := ⟨_, H1, H⟩
theorem exOne {α : Type} {A B : α × Int × Int → Prop} (a : α) (i h : Int) (H : B (a, i, h)) (H1 : A (a, i, h)) : ∃ x, A x ∧ B x := ⟨_, H1, H⟩
theorem l1Once_ok (code : List UInt8) (i h n : Int) (hi : CurOk code i) (hc : code.length ≤ bigN) : SpecM Try.prog 26 [cP, iA n] (curB code i h) (RetC code (fun _ : Bool => True) fun b => bR fun _ => b) := by
  unfold RetC
  refine specX_of (pk := [0, 1]) tabOk Try.func26 rfl rfl (fr := true) (fun _ => by kernel_rfl) (fun _ => rfl) rfl rfl fun P hP hA hB => ?_
  cbv
  repeat (refine Pz.mk ?_; cbv)
  refine CallM.ex hP (l1Below_ok code i h n hi hc) fun ⟨x, i2, h2⟩ ⟨_, hi2⟩ => ?_
  cbv
  repeat (refine Pz.mk ?_; cbv)
  refine ⟨(x == 0, i2, h2), ⟨trivial, hi2⟩, ?_⟩
  cbv
  repeat (refine Pz.mk ?_; cbv)
  repeat' first | exact trivial | refine ⟨rfl, ?_⟩ | fail
theorem ruRight_b {r : Rules} (h : ruRight r) : (1 ≤ r.tiers ∧ r.tiers ≤ 5) ∧ (1 ≤ r.size ∧ r.size ≤ 6) ∧ (1 ≤ r.window ∧ r.window ≤ 4) ∧ (0 ≤ r.rest ∧ r.rest ≤ 3) ∧ (1 ≤ r.tries ∧ r.tries ≤ 4) ∧ (1 ≤ r.seats.length ∧ r.seats.length ≤ 3) := by
  obtain ⟨a, _, b, _, c, d, e, _, f, _⟩ := h
  exact ⟨a, b, c, d, e, f⟩
theorem l1InT_ok (n lo hi : Int) (h : isIn n lo hi = true) : Spec Try.prog 25 [iA n, iA lo, iA hi] (Ret (bR fun _ => true)) := by
  have := l1InB_ok n lo hi
  rwa [h] at this
set_option maxHeartbeats 4000000 in
theorem l6Right_ok (code : List UInt8) (i h : Int) (hi : CurOk code i) (hc : code.length ≤ bigN) (r : Rules) (hr : ruRight r) (now : Int) (hn : 0 ≤ now ∧ now ≤ 100) : SpecM Try.prog 12 [cP, ruA r, iA now] (curB code i h) (RetC code (fun _ : Party => True) fun p => eR .pty fun _ => p) := by
  obtain ⟨b1, b2, b3, b4, b5, b6⟩ := ruRight_b hr
  unfold RetC
  refine specX_of (pk := [0, 1]) tabOk Try.func12 rfl rfl (fr := true) (fun _ => by kernel_rfl) (fun _ => rfl) rfl rfl fun P hP hA hB => ?_
  cbv
  repeat (refine Pz.mk ?_; cbv)
  repeat' first
    | exact trivial
    | (refine Pz.mk ?_; cbv)
    | (refine CallA.by hP (l1InT_ok now 0 10000000 (by rw [isIn, decide_eq_true (by omega), decide_eq_true (by omega)]; rfl)) ?_; cbv)
    | (refine Br.yes (by with_reducible rfl) ?_; cbv)
    | (refine CallM.ex hP (l1Below_ok code _ _ _ (by assumption) hc) ?_; rintro ⟨x, i2, h2⟩ ⟨hx, hi2⟩; (try dsimp only at hx hi2); cbv)
    | (refine CallM.ex hP (l1Once_ok code _ _ _ (by assumption) hc) ?_; rintro ⟨x, i2, h2⟩ ⟨hx, hi2⟩; (try dsimp only at hx hi2); cbv)
    | (refine CallM.ex hP (l1PickInt_ok code _ _ _ (by decide) (by assumption) hc) ?_; rintro ⟨x, i2, h2⟩ ⟨hx, hi2⟩; (try dsimp only at hx hi2); cbv)
    | (refine Br.dec (fun hb => ?_) (fun hb => ?_) <;> cbv)
    | (refine Br.split (fun hb => ?_) (fun hb => ?_) <;> cbv)
    | (refine Ar.exact (by omega) (by omega) ?_; cbv)
    | (refine TabG.mk ?_ (by kernel_rfl) ?_; rotate_left; cbv; rotate_right) | refine ⟨rfl, ?_⟩ | refine And.intro ?_ ?_ | exact rfl | fail
  all_goals
    apply exPty
    · cbv
      (try dsimp only)
      repeat' first | exact trivial | refine ⟨rfl, ?_⟩ | fail
    · exact ⟨trivial, by assumption⟩
set_option maxHeartbeats 4000000 in
theorem l6Bent_ok (code : List UInt8) (i h : Int) (hi : CurOk code i) (hc : code.length ≤ bigN) (r : Rules) (hr : ruRight r) (now : Int) (hn : 0 ≤ now ∧ now ≤ 100) : SpecM Try.prog 23 [cP, ruA r, iA now] (curB code i h) (RetC code (fun _ : Party => True) fun p => eR .pty fun _ => p) := by
  obtain ⟨b1, b2, b3, b4, b5, b6⟩ := ruRight_b hr
  have hs : r.seats.length ≤ bigN := Nat.le_trans b6.2 (by decide)
  unfold RetC
  refine specX_of (pk := [0, 1]) tabOk Try.func23 rfl rfl (fr := true) (fun _ => by kernel_rfl) (fun _ => rfl) rfl rfl fun P hP hA hB => ?_
  cbv
  repeat (refine Pz.mk ?_; cbv)
  repeat' first
    | exact trivial
    | (refine Pz.mk ?_; cbv)
    | (refine CallA.by hP (specRulesOk_ok r hs (rulesOkB r) rfl) ?_; cbv)
    | (refine CallM.ex hP (l6Right_ok code _ _ (by assumption) hc r hr now hn) ?_; rintro ⟨x, i2, h2⟩ ⟨hx, hi2⟩; (try dsimp only at hx hi2); cbv)
    | (refine CallM.ex hP (l1Below_ok code _ _ _ (by assumption) hc) ?_; rintro ⟨x, i2, h2⟩ ⟨hx, hi2⟩; (try dsimp only at hx hi2); cbv)
    | (refine CallM.ex hP (l1Once_ok code _ _ _ (by assumption) hc) ?_; rintro ⟨x, i2, h2⟩ ⟨hx, hi2⟩; (try dsimp only at hx hi2); cbv)
    | (refine CallM.ex hP (l1PickInt_ok code _ _ _ (by decide) (by assumption) hc) ?_; rintro ⟨x, i2, h2⟩ ⟨hx, hi2⟩; (try dsimp only at hx hi2); cbv)
    | (refine Br.dec (fun hb => ?_) (fun hb => ?_) <;> cbv)
    | (refine Br.split (fun hb => ?_) (fun hb => ?_) <;> cbv)
    | (refine Ar.exact (by omega) (by omega) ?_; cbv)
    | (refine TabG.mk ?_ (by kernel_rfl) ?_; rotate_left; cbv; rotate_right) | refine ⟨rfl, ?_⟩ | refine And.intro ?_ ?_ | exact rfl | fail
  all_goals
    apply exPty
    · cbv
      (try dsimp only)
      repeat' first | exact trivial | refine ⟨rfl, ?_⟩ | fail
    · exact ⟨trivial, by assumption⟩
end Go.Proofs.Ytlochjpjlhkjaaa

