/- Parts of a proof. No conditions. -/

import Derived.Test.YtehpbaiclfilaaaGreatG45
import Derived.Test.YtehpbaiclfilaaaGreatG24
import Derived.Test.YtehpbaiclfilaaaGreatG09
import Derived.Test.YtehpbaiclfilaaaGreatG10
set_option linter.unusedSimpArgs false
set_option linter.unusedVariables false
namespace Go.Proofs.YtehpbaiclfilaaaGreat
open Go
set_option maxRecDepth 100000
set_option maxHeartbeats 4000000 in
theorem J9 (code : List UInt8) (i h : Int) (hi : dI code i) (hc : code.length ≤ aR) : bE Tryz.prog 222 [cP] (gQ code i h) (db code (fun _ : Entry => True) fun p => eR .aD fun _ => p) := by
 unfold db;refine d_ (pk := [0, 1]) ay Tryz.func222 rfl rfl (fr := true) (fun _ => by kernel_rfl) (fun _ => rfl) rfl rfl fun P hP hA hB => ?_;cbv
 repeat' first
  | exact trivial
  | (refine Pz.mk ?_; cbv)
  | (refine aB.ex hP (cR code _ _ _ (by assumption) hc) ?_; rintro ⟨x, i2, h2⟩ ⟨hx, aq⟩; (try dsimp only at hx aq); cbv)
  | (refine aB.ex hP (eO code _ _ _ (by assumption) hc) ?_; rintro ⟨x, i2, h2⟩ ⟨hx, aq⟩; (try dsimp only at hx aq); cbv)
  | (refine aB.ex hP (eN code _ _ _ (by decide) (by assumption) hc) ?_; rintro ⟨x, i2, h2⟩ ⟨hx, aq⟩; (try dsimp only at hx aq); cbv)
  | (refine Br.yes (by first | assumption | exact decide_eq_true (by assumption)) ?_; cbv)
  | (refine Br.no (by first | assumption | exact decide_eq_false (by assumption)) ?_; cbv)
  | (refine Br.dec (fun hb => ?_) (fun hb => ?_) <;> cbv)
  | (refine Br.split (fun hb => ?_) (fun hb => ?_) <;> cbv)
  | (refine Ar.exact (by omega) (by omega) ?_; cbv)
  | (refine Ix.ex (by omega) (by (try simp only [nc] at *); omega) ?_; intro y; cbv)
  | (refine Ar.any ?_; intro u; cbv)
  | (refine bu.mk ?_ (by kernel_rfl) ?_; rotate_left; cbv; rotate_right) | refine ⟨rfl, ?_⟩ | refine And.intro ?_ ?_ | exact rfl | fail
 all_goals
  apply PE
  · cbv
    (try dsimp only)
    repeat' first | exact trivial | refine ⟨rfl, ?_⟩ | fail
  · exact ⟨trivial, by assumption⟩
set_option maxHeartbeats 4000000 in
theorem J_ (code : List UInt8) (i h : Int) (hi : dI code i) (hc : code.length ≤ aR) : bE Tryz.prog 220 [cP] (gQ code i h) (db code (fun _ : bA => True) fun p => Iw fun _ => p) := by
 unfold db;refine d_ (pk := [0, 1]) ay Tryz.func220 rfl rfl (fr := true) (fun _ => by kernel_rfl) (fun _ => rfl) rfl rfl fun P hP hA hB => ?_;cbv
 repeat' first
  | exact trivial
  | (refine Pz.mk ?_; cbv)
  | (refine aB.ex hP (cR code _ _ _ (by assumption) hc) ?_; rintro ⟨x, i2, h2⟩ ⟨hx, aq⟩; (try dsimp only at hx aq); cbv)
  | (refine aB.ex hP (eO code _ _ _ (by assumption) hc) ?_; rintro ⟨x, i2, h2⟩ ⟨hx, aq⟩; (try dsimp only at hx aq); cbv)
  | (refine aB.ex hP (eN code _ _ _ (by decide) (by assumption) hc) ?_; rintro ⟨x, i2, h2⟩ ⟨hx, aq⟩; (try dsimp only at hx aq); cbv)
  | (refine Br.yes (by first | assumption | exact decide_eq_true (by assumption)) ?_; cbv)
  | (refine Br.no (by first | assumption | exact decide_eq_false (by assumption)) ?_; cbv)
  | (refine Br.dec (fun hb => ?_) (fun hb => ?_) <;> cbv)
  | (refine Br.split (fun hb => ?_) (fun hb => ?_) <;> cbv)
  | (refine Ar.exact (by omega) (by omega) ?_; cbv)
  | (refine Ix.ex (by omega) (by (try simp only [nc] at *); omega) ?_; intro y; cbv)
  | (refine Ar.any ?_; intro u; cbv)
  | (refine bu.mk ?_ (by kernel_rfl) ?_; rotate_left; cbv; rotate_right) | refine ⟨rfl, ?_⟩ | refine And.intro ?_ ?_ | exact rfl | fail
 all_goals
  apply IV
  · cbv
    (try dsimp only)
    repeat' first | exact trivial | refine ⟨rfl, ?_⟩ | fail
  · exact ⟨trivial, by assumption⟩
set_option maxHeartbeats 4000000 in
theorem RB (code : List UInt8) (i h : Int) (hi : dI code i) (hc : code.length ≤ aR) : bE Tryz.prog 197 [cP] (gQ code i h) (db code (fun _ : bA => True) fun p => Iw fun _ => p) := by
 unfold db;refine d_ (pk := [0, 1]) ay Tryz.func197 rfl rfl (fr := true) (fun _ => by kernel_rfl) (fun _ => rfl) rfl rfl fun P hP hA hB => ?_;cbv
 repeat' first
  | exact trivial
  | (refine Pz.mk ?_; cbv)
  | (refine aB.ex hP (J_ code _ _ (by assumption) hc) ?_; rintro ⟨x, i2, h2⟩ ⟨hx, aq⟩; (try dsimp only at hx aq); cbv)
  | (refine aB.ex hP (cR code _ _ _ (by assumption) hc) ?_; rintro ⟨x, i2, h2⟩ ⟨hx, aq⟩; (try dsimp only at hx aq); cbv)
  | (refine aB.ex hP (eO code _ _ _ (by assumption) hc) ?_; rintro ⟨x, i2, h2⟩ ⟨hx, aq⟩; (try dsimp only at hx aq); cbv)
  | (refine aB.ex hP (eN code _ _ _ (by decide) (by assumption) hc) ?_; rintro ⟨x, i2, h2⟩ ⟨hx, aq⟩; (try dsimp only at hx aq); cbv)
  | (refine Br.yes (by first | assumption | exact decide_eq_true (by assumption)) ?_; cbv)
  | (refine Br.no (by first | assumption | exact decide_eq_false (by assumption)) ?_; cbv)
  | (refine Br.dec (fun hb => ?_) (fun hb => ?_) <;> cbv)
  | (refine Br.split (fun hb => ?_) (fun hb => ?_) <;> cbv)
  | (refine Ar.exact (by omega) (by omega) ?_; cbv)
  | (refine Ix.ex (by omega) (by (try simp only [nc] at *); omega) ?_; intro y; cbv)
  | (refine Ar.any ?_; intro u; cbv)
  | (refine bu.mk ?_ (by kernel_rfl) ?_; rotate_left; cbv; rotate_right) | refine ⟨rfl, ?_⟩ | refine And.intro ?_ ?_ | exact rfl | fail
 all_goals
  apply IV
  · cbv
    (try dsimp only)
    repeat' first | exact trivial | refine ⟨rfl, ?_⟩ | fail
  · exact ⟨trivial, by assumption⟩
set_option maxHeartbeats 4000000 in
theorem Ka (code : List UInt8) (i h : Int) (hi : dI code i) (hc : code.length ≤ aR) : bE Tryz.prog 224 [cP] (gQ code i h) (db code (fun _ : aA => True) fun p => eR .aF fun _ => p) := by
 unfold db;refine d_ (pk := [0, 1]) ay Tryz.func224 rfl rfl (fr := true) (fun _ => by kernel_rfl) (fun _ => rfl) rfl rfl fun P hP hA hB => ?_;cbv
 repeat' first
  | exact trivial
  | (refine Pz.mk ?_; cbv)
  | (refine aB.ex hP (cR code _ _ _ (by assumption) hc) ?_; rintro ⟨x, i2, h2⟩ ⟨hx, aq⟩; (try dsimp only at hx aq); cbv)
  | (refine aB.ex hP (eO code _ _ _ (by assumption) hc) ?_; rintro ⟨x, i2, h2⟩ ⟨hx, aq⟩; (try dsimp only at hx aq); cbv)
  | (refine aB.ex hP (eN code _ _ _ (by decide) (by assumption) hc) ?_; rintro ⟨x, i2, h2⟩ ⟨hx, aq⟩; (try dsimp only at hx aq); cbv)
  | (refine Br.yes (by first | assumption | exact decide_eq_true (by assumption)) ?_; cbv)
  | (refine Br.no (by first | assumption | exact decide_eq_false (by assumption)) ?_; cbv)
  | (refine Br.dec (fun hb => ?_) (fun hb => ?_) <;> cbv)
  | (refine Br.split (fun hb => ?_) (fun hb => ?_) <;> cbv)
  | (refine Ar.exact (by omega) (by omega) ?_; cbv)
  | (refine Ix.ex (by omega) (by (try simp only [nc] at *); omega) ?_; intro y; cbv)
  | (refine Ar.any ?_; intro u; cbv)
  | (refine bu.mk ?_ (by kernel_rfl) ?_; rotate_left; cbv; rotate_right) | refine ⟨rfl, ?_⟩ | refine And.intro ?_ ?_ | exact rfl | fail
 all_goals
  apply PF
  · cbv
    (try dsimp only)
    repeat' first | exact trivial | refine ⟨rfl, ?_⟩ | fail
  · exact ⟨trivial, by assumption⟩
theorem Kb (a : List Entry) (e : Entry) (hn : a.length + 1 ≤ aR) : Spec Tryz.prog 238 [lA .aD a, eA .aD e] (ix (List Entry × Bool) (fun x => x.1.length ≤ a.length + 1) fun x => .bc [(false, [.own .aD fun _ => x.1]), (false, [.bool fun _ => x.2])]) := by
 have ha : a.length ≤ aR := Nat.le_trans (Nat.le_succ _) hn;refine aH ay Tryz.func238 rfl rfl (fr := true) (fun _ => by kernel_rfl) fun P hP hA => ?_;cbv
 repeat' first
  | exact trivial
  | (refine Pz.mk ?_; cbv)
  | (refine ag.by hP (I7 a e ha) ?_; cbv)
  | (refine ag.by hP (DM a (dJ a) rfl) ?_; cbv)
  | (refine ag.by hP (DM (bG aY e a) (dJ (bG aY e a)) rfl) ?_; cbv)
  | (refine ag.by hP (DO a ha) ?_; cbv)
  | (refine Br.split (fun hb => ?_) (fun hb => ?_) <;> cbv)
  | fail
 all_goals first
  | (refine ⟨(a, false), Nat.le_succ _, ?_⟩; cbv; (repeat' first | exact trivial | refine ⟨rfl, ?_⟩ | fail); done)
  | (refine ⟨(bG aY e a, true), Nat.le_of_eq wA, ?_⟩; cbv; (repeat' first | exact trivial | refine ⟨rfl, ?_⟩ | fail); done)
set_option maxHeartbeats 4000000 in
theorem Kc (code : List UInt8) (i h : Int) (hi : dI code i) (hc : code.length ≤ aR) : bE Tryz.prog 221 [cP] (gQ code i h) (db code (fun l : List Entry => l.length ≤ 16) fun l => lR .aD fun _ => l) := by
 unfold db;refine d_ (pk := [0, 1]) ay Tryz.func221 rfl rfl (fr := true) (fun _ => by kernel_rfl) (fun _ => rfl) rfl rfl fun P hP hA hB => ?_;cbv
 repeat' first
  | exact trivial
  | (refine Pz.mk ?_; cbv)
  | (refine aB.ex hP (cR code _ _ _ (by assumption) hc) ?_; rintro ⟨x, i2, h2⟩ ⟨hx, aq⟩; (try dsimp only at hx aq); cbv)
  | (refine aB.ex hP (eO code _ _ _ (by assumption) hc) ?_; rintro ⟨x, i2, h2⟩ ⟨hx, aq⟩; (try dsimp only at hx aq); cbv)
  | (refine aB.ex hP (eN code _ _ _ (by decide) (by assumption) hc) ?_; rintro ⟨x, i2, h2⟩ ⟨hx, aq⟩; (try dsimp only at hx aq); cbv)
  | (refine Br.yes (by first | assumption | exact decide_eq_true (by assumption)) ?_; cbv)
  | (refine Br.no (by first | assumption | exact decide_eq_false (by assumption)) ?_; cbv)
  | (refine Br.dec (fun hb => ?_) (fun hb => ?_) <;> cbv)
  | (refine Br.split (fun hb => ?_) (fun hb => ?_) <;> cbv)
  | (refine Ar.exact (by omega) (by omega) ?_; cbv)
  | (refine Ix.ex (by omega) (by (try simp only [nc] at *); omega) ?_; intro y; cbv)
  | (refine Ar.any ?_; intro u; cbv)
  | (refine bu.mk ?_ (by kernel_rfl) ?_; rotate_left; cbv; rotate_right) | refine ⟨rfl, ?_⟩ | refine And.intro ?_ ?_ | exact rfl | fail
 all_goals
  apply aT.zF (A := List Entry) (B := Int) (C := Int) (D := Int) (E := Int) (fun l j n i h => [(0, pN 0), (3, oN 2), (4, iT fun _ => n), (5, iT fun _ => j)]) (fun l j n i h => [(0, tJ i h), (1, tK code), (2, aQ .aD fun _ => l)]) (fun l j n i h => 0 ≤ j ∧ j ≤ 16 ∧ n ≤ 13 ∧ l.length ≤ j.toNat ∧ dI code i) (fun l j n i h _ => (13 - j).toNat)
  · cbv
    repeat' first | exact trivial | refine ⟨rfl, ?_⟩ | fail
  · exact ⟨by omega, by omega, by omega, Nat.zero_le _, by assumption⟩
  · rintro l j n i1 h1 ⟨q1, q2, q3, q4, q5⟩
    cbv;have hq : l.length + 1 ≤ aR := by show l.length + 1 ≤ 1048576; omega
    repeat' first
      | exact trivial
      | (refine Pz.mk ?_; cbv)
      | (refine aB.ex hP (J9 code _ _ (by assumption) hc) ?_; rintro ⟨x, i2, h2⟩ ⟨hx, aq⟩; (try dsimp only at hx aq); cbv)
      | (refine ag.ex hP (Kb l x hq) ?_; rintro x hx; (try dsimp only at hx); cbv)
      | (refine ag.ex hP (Kb l ⟨x.lvl, x.aw, 100 + j, x.siz⟩ hq) ?_; rintro x hx; (try dsimp only at hx); cbv)
      | (refine aB.ex hP (cR code _ _ _ (by assumption) hc) ?_; rintro ⟨x, i2, h2⟩ ⟨hx, aq⟩; (try dsimp only at hx aq); cbv)
      | (refine aB.ex hP (eO code _ _ _ (by assumption) hc) ?_; rintro ⟨x, i2, h2⟩ ⟨hx, aq⟩; (try dsimp only at hx aq); cbv)
      | (refine aB.ex hP (eN code _ _ _ (by decide) (by assumption) hc) ?_; rintro ⟨x, i2, h2⟩ ⟨hx, aq⟩; (try dsimp only at hx aq); cbv)
      | (refine Br.yes (by first | assumption | exact decide_eq_true (by assumption)) ?_; cbv)
      | (refine Br.no (by first | assumption | exact decide_eq_false (by assumption)) ?_; cbv)
      | (refine Br.dec (fun hb => ?_) (fun hb => ?_) <;> cbv)
      | (refine Br.split (fun hb => ?_) (fun hb => ?_) <;> cbv)
      | (refine Ar.exact (by omega) (by omega) ?_; cbv)
      | (refine Ix.ex (by omega) (by (try simp only [nc] at *); omega) ?_; intro y; cbv)
      | (refine Ar.any ?_; intro u; cbv)
      | (refine bu.mk ?_ (by kernel_rfl) ?_; rotate_left; cbv; rotate_right) | refine ⟨rfl, ?_⟩ | refine And.intro ?_ ?_ | exact rfl | fail
    · refine aJ.by (x.1, j + 1, n, i2, h2) ?_ ?_ ?_
      · dsimp only; omega
      · dsimp only; exact ⟨by omega, by omega, q3, by omega, by assumption⟩
      · cbv
        repeat' first | exact trivial | refine ⟨rfl, ?_⟩ | fail
    · refine aJ.by (x.1, j + 1, n, i2, h2) ?_ ?_ ?_
      · dsimp only; omega
      · dsimp only; exact ⟨by omega, by omega, q3, by omega, by assumption⟩
      · cbv
        repeat' first | exact trivial | refine ⟨rfl, ?_⟩ | fail
    · refine ⟨(l, i1, h1), ⟨(by omega : l.length ≤ 16), q5⟩, ?_⟩;cbv
      repeat' first | exact trivial | refine ⟨rfl, ?_⟩ | fail
set_option maxHeartbeats 4000000 in
theorem RD (code : List UInt8) (i h : Int) (hi : dI code i) (hc : code.length ≤ aR) : bE Tryz.prog 198 [cP] (gQ code i h) (db code (fun l : List Entry => l.length ≤ 17) fun l => lR .aD fun _ => l) := by
 unfold db;refine d_ (pk := [0, 1]) ay Tryz.func198 rfl rfl (fr := true) (fun _ => by kernel_rfl) (fun _ => rfl) rfl rfl fun P hP hA hB => ?_;cbv;refine aB.ex hP (Kc code i h hi hc) fun ⟨l, i1, h1⟩ ⟨hl, jX⟩ => ?_;cbv;have hl : l.length ≤ 16 := hl;have ob : (l.length + 1) * 32 ≤ 140737488355328 := by omega
 repeat' first
  | exact trivial
  | (refine Pz.mk ?_; cbv)
  | (refine aB.ex hP (J9 code _ _ (by assumption) hc) ?_; rintro ⟨x, i2, h2⟩ ⟨hx, aq⟩; (try dsimp only at hx aq); cbv)
  | (refine Ob.mk (ob) ?_; cbv)
  | (refine Sv.len ?_; intro u hu; simp only [List.length_set] at hu; cbv)
  | (refine Ob.mk (by (try simp only [nc] at *); omega) ?_; cbv)
  | (refine aB.ex hP (cR code _ _ _ (by assumption) hc) ?_; rintro ⟨x, i2, h2⟩ ⟨hx, aq⟩; (try dsimp only at hx aq); cbv)
  | (refine aB.ex hP (eO code _ _ _ (by assumption) hc) ?_; rintro ⟨x, i2, h2⟩ ⟨hx, aq⟩; (try dsimp only at hx aq); cbv)
  | (refine aB.ex hP (eN code _ _ _ (by decide) (by assumption) hc) ?_; rintro ⟨x, i2, h2⟩ ⟨hx, aq⟩; (try dsimp only at hx aq); cbv)
  | (refine Br.yes (by first | assumption | exact decide_eq_true (by assumption)) ?_; cbv)
  | (refine Br.no (by first | assumption | exact decide_eq_false (by assumption)) ?_; cbv)
  | (refine Br.dec (fun hb => ?_) (fun hb => ?_) <;> cbv)
  | (refine Br.split (fun hb => ?_) (fun hb => ?_) <;> cbv)
  | (refine Ar.exact (by omega) (by omega) ?_; cbv)
  | (refine Ix.ex (by omega) (by (try simp only [nc] at *); omega) ?_; intro y; cbv)
  | (refine Ar.any ?_; intro u; cbv)
  | (refine bu.mk ?_ (by kernel_rfl) ?_; rotate_left; cbv; rotate_right) | refine ⟨rfl, ?_⟩ | refine And.intro ?_ ?_ | exact rfl | fail
 all_goals
  apply IW
  · cbv
    (try dsimp only)
    repeat' first | exact trivial | refine ⟨rfl, ?_⟩ | fail
  · exact ⟨by simp only [List.length_set, List.length_append, List.length_singleton, List.length_cons, List.length_nil]; omega, by assumption⟩
set_option maxHeartbeats 4000000 in
theorem RE (code : List UInt8) (i h : Int) (hi : dI code i) (hc : code.length ≤ aR) : bE Tryz.prog 239 [cP] (gQ code i h) (db code (fun l : List aA => l.length ≤ 8) fun l => lR .aF fun _ => l) := by
 unfold db;refine d_ (pk := [0, 1]) ay Tryz.func239 rfl rfl (fr := true) (fun _ => by kernel_rfl) (fun _ => rfl) rfl rfl fun P hP hA hB => ?_;cbv;refine aB.ex hP (cR code i h 8 hi hc) fun ⟨n, i1, h1⟩ ⟨hn, jX⟩ => ?_;cbv;have hn : 0 ≤ n ∧ (n < 8 ∨ n = 0) := hn;apply aT.Df (A := List aA) (B := Int) (C := Int) (D := Int) (fun l j i h => [(0, pN 0), (3, oN 2), (4, iT fun _ => n), (5, iT fun _ => j)]) (fun l j i h => [(0, tJ i h), (1, tK code), (2, aQ .aF fun _ => l)]) (fun l j i h => 0 ≤ j ∧ j ≤ 8 ∧ l.length ≤ j.toNat ∧ dI code i) (fun l j i h _ => (8 - j).toNat)
 · cbv
   repeat' first | exact trivial | refine ⟨rfl, ?_⟩ | fail
 · exact ⟨by omega, by omega, Nat.zero_le _, jX⟩
 · rintro l j i2 h2 ⟨q1, q2, q3, q4⟩
   have ob : (l.length + 1) * 16 ≤ 140737488355328 := by omega
   cbv
   repeat' first
     | exact trivial
     | (refine Pz.mk ?_; cbv)
     | (refine aB.ex hP (Ka code _ _ (by assumption) hc) ?_; rintro ⟨x, i2, h2⟩ ⟨hx, aq⟩; (try dsimp only at hx aq); cbv)
     | (refine Ob.mk (ob) ?_; cbv)
     | (refine aB.ex hP (cR code _ _ _ (by assumption) hc) ?_; rintro ⟨x, i2, h2⟩ ⟨hx, aq⟩; (try dsimp only at hx aq); cbv)
     | (refine aB.ex hP (eO code _ _ _ (by assumption) hc) ?_; rintro ⟨x, i2, h2⟩ ⟨hx, aq⟩; (try dsimp only at hx aq); cbv)
     | (refine aB.ex hP (eN code _ _ _ (by decide) (by assumption) hc) ?_; rintro ⟨x, i2, h2⟩ ⟨hx, aq⟩; (try dsimp only at hx aq); cbv)
     | (refine Br.yes (by first | assumption | exact decide_eq_true (by assumption)) ?_; cbv)
     | (refine Br.no (by first | assumption | exact decide_eq_false (by assumption)) ?_; cbv)
     | (refine Br.dec (fun hb => ?_) (fun hb => ?_) <;> cbv)
     | (refine Br.split (fun hb => ?_) (fun hb => ?_) <;> cbv)
     | (refine Ar.exact (by omega) (by omega) ?_; cbv)
     | (refine Ix.ex (by omega) (by (try simp only [nc] at *); omega) ?_; intro y; cbv)
     | (refine Ar.any ?_; intro u; cbv)
     | (refine bu.mk ?_ (by kernel_rfl) ?_; rotate_left; cbv; rotate_right) | refine ⟨rfl, ?_⟩ | refine And.intro ?_ ?_ | exact rfl | fail
   · refine aJ.by (l ++ [x], j + 1, i2, h2) ?_ ?_ ?_
     · dsimp only; omega
     · dsimp only; exact ⟨by omega, by omega, by rw [List.length_append, List.length_singleton]; omega, by assumption⟩
     · cbv
       repeat' first | exact trivial | refine ⟨rfl, ?_⟩ | fail
   · refine ⟨(l, i2, h2), ⟨(by omega : l.length ≤ 8), q4⟩, ?_⟩;cbv
     repeat' first | exact trivial | refine ⟨rfl, ?_⟩ | fail
def gG (w : List (List aA)) : Prop := w.length = 9 ∧ ∀ x ∈ w, x.length ≤ 10
def qp (w : List (List aA)) : Prop := w.length ≤ 10 ∧ ∀ x ∈ w, x.length ≤ 11
theorem gG.small {w : List (List aA)} (h : gG w) : k9 w := by
 refine ⟨?_, fun x hx => Nat.le_trans (h.2 x hx) (by decide)⟩;rw [h.1]; decide
theorem qp.small {w : List (List aA)} (h : qp w) : k9 w := ⟨Nat.le_trans h.1 (by decide), fun x hx => Nat.le_trans (h.2 x hx) (by decide)⟩
theorem gG.v {w : List (List aA)} (h : gG w) : qp w := ⟨by rw [h.1]; decide, fun x hx => Nat.le_trans (h.2 x hx) (by decide)⟩
theorem Ao {w : List (List aA)} (h : br w = true) : gG w := by
 have h := of_decide_eq_true h;exact ⟨h.len, fun x hx => Nat.le_trans (List.sublist_flatten_of_mem hx).length_le h.dn⟩
theorem RF {w : List (List aA)} (hw : gG w) (p : aA) : gG (kJ w p) := by
 unfold kJ
 split
 · rename_i h;simp only [gv, Bool.and_eq_true] at h;exact Ao h.2.2
 · exact hw
theorem gG.get {w : List (List aA)} (h : gG w) (k : Unit → Nat) : List.length (aO .cF (fun _ => w) k ()) ≤ 10 := by
 show (w.getD (k ()) []).length ≤ 10;rw [List.getD_eq_getElem?_getD];cases hk : w[k ()]? with
 | none => exact Nat.zero_le _
 | some x => exact h.2 x (List.mem_of_getElem? hk)
theorem gG.set {w : List (List aA)} (h : gG w) (k : Nat) {l : List aA} (hl : l.length ≤ 11) : qp (w.set k l) := by
 refine ⟨by rw [List.length_set, h.1]; decide, fun x hx => ?_⟩;rcases List.mem_or_eq_of_mem_set hx with hx | rfl
 · exact Nat.le_trans (h.2 x hx) (by decide)
 · exact hl
theorem gG.app {w : List (List aA)} (h : gG w) {l : List (List aA)} (hl : l.length ≤ 1) (eF : ∀ x ∈ l, x.length ≤ 11) : qp (w ++ l) := by
 refine ⟨by rw [List.length_append, h.1]; omega, fun x hx => ?_⟩;rcases List.mem_append.1 hx with hx | hx
 · exact Nat.le_trans (h.2 x hx) (by decide)
 · exact eF x hx
theorem gG.take {w : List (List aA)} (h : gG w) (n : Nat) : qp ((w.take n).drop (Int.toNat 0)) := by
 refine ⟨by rw [List.length_drop, List.length_take, h.1]; omega, fun x hx => ?_⟩;exact Nat.le_trans (h.2 x (List.mem_of_mem_take (List.mem_of_mem_drop hx))) (by decide)
theorem Kd (w : List (List aA)) (p : aA) (hw : gG w) : Spec Tryz.prog 219 [kG w, eA .aF p] (ix (List (List aA) × Bool) (fun x => gG x.1) fun x => .bc [(true, [.own .cF fun _ => x.1]), (false, [.bool fun _ => x.2])]) :=
 Spec.nn (kJ w p, gv w p) (RF hw p) (Rz w p hw.small _ rfl _ rfl)
set_option maxHeartbeats 4000000 in
theorem Ke (code : List UInt8) (i h : Int) (hi : dI code i) (hc : code.length ≤ aR) : bE Tryz.prog 223 [cP] (gQ code i h) (db code gG fun w => xr fun _ => w) := by
 have w0 : gG (List.replicate 9 ([] : List aA)) := Ao (by decide);unfold db;refine d_ (pk := [0, 1]) ay Tryz.func223 rfl rfl (fr := true) (fun _ => by kernel_rfl) (fun _ => rfl) rfl rfl fun P hP hA hB => ?_;cbv
 repeat' first
   | exact trivial
   | (refine Pz.mk ?_; cbv)
   | (refine ag.by hP (Ds) ?_; cbv)
   | (refine aB.ex hP (RE code _ _ (by assumption) hc) ?_; rintro ⟨x, i2, h2⟩ ⟨hx, aq⟩; (try dsimp only at hx aq); cbv)
   | (refine aB.ex hP (cR code _ _ _ (by assumption) hc) ?_; rintro ⟨x, i2, h2⟩ ⟨hx, aq⟩; (try dsimp only at hx aq); cbv)
   | (refine aB.ex hP (eO code _ _ _ (by assumption) hc) ?_; rintro ⟨x, i2, h2⟩ ⟨hx, aq⟩; (try dsimp only at hx aq); cbv)
   | (refine aB.ex hP (eN code _ _ _ (by decide) (by assumption) hc) ?_; rintro ⟨x, i2, h2⟩ ⟨hx, aq⟩; (try dsimp only at hx aq); cbv)
   | (refine Br.yes (by first | assumption | exact decide_eq_true (by assumption)) ?_; cbv)
   | (refine Br.no (by first | assumption | exact decide_eq_false (by assumption)) ?_; cbv)
   | (refine Br.dec (fun hb => ?_) (fun hb => ?_) <;> cbv)
   | (refine Br.split (fun hb => ?_) (fun hb => ?_) <;> cbv)
   | (refine Ar.exact (by omega) (by omega) ?_; cbv)
   | (refine Ix.ex (by omega) (by (try simp only [nc] at *); omega) ?_; intro y; cbv)
   | (refine Ar.any ?_; intro u; cbv)
   | (refine bu.mk ?_ (by kernel_rfl) ?_; rotate_left; cbv; rotate_right) | refine ⟨rfl, ?_⟩ | refine And.intro ?_ ?_ | exact rfl | fail
 apply aT.nh (A := List aA) (B := Int) (fun l j => [(0, pN 0), (2, pN 2), (3, pN 3), (4, oN 4), (5, iT fun _ => j)]) (fun l j => [(0, tJ i2 h2), (1, tK code), (2, .box [.nil]), (3, .box [.own 5]), (4, aQ .aF fun _ => l), (5, aQ .cF fun _ => List.replicate 9 [])]) (fun l j => 0 ≤ j ∧ j ≤ 10 ∧ l.length ≤ 8 + j.toNat) (fun l j _ => (10 - j).toNat)
 · cbv
   repeat' first | exact trivial | refine ⟨rfl, ?_⟩ | fail
 · exact ⟨by omega, by omega, by omega⟩
 rintro l j ⟨q1, q2, q3⟩
 have ob : (l.length + 1) * 16 ≤ 140737488355328 := by omega
 cbv
 repeat' first
   | exact trivial
   | (refine Pz.mk ?_; cbv)
   | (refine Ob.mk (ob) ?_; cbv)
   | (refine aB.ex hP (cR code _ _ _ (by assumption) hc) ?_; rintro ⟨x, i2, h2⟩ ⟨hx, aq⟩; (try dsimp only at hx aq); cbv)
   | (refine aB.ex hP (eO code _ _ _ (by assumption) hc) ?_; rintro ⟨x, i2, h2⟩ ⟨hx, aq⟩; (try dsimp only at hx aq); cbv)
   | (refine aB.ex hP (eN code _ _ _ (by decide) (by assumption) hc) ?_; rintro ⟨x, i2, h2⟩ ⟨hx, aq⟩; (try dsimp only at hx aq); cbv)
   | (refine Br.yes (by first | assumption | exact decide_eq_true (by assumption)) ?_; cbv)
   | (refine Br.no (by first | assumption | exact decide_eq_false (by assumption)) ?_; cbv)
   | (refine Br.dec (fun hb => ?_) (fun hb => ?_) <;> cbv)
   | (refine Br.split (fun hb => ?_) (fun hb => ?_) <;> cbv)
   | (refine Ar.exact (by omega) (by omega) ?_; cbv)
   | (refine Ix.ex (by omega) (by (try simp only [nc] at *); omega) ?_; intro y; cbv)
   | (refine Ar.any ?_; intro u; cbv)
   | (refine bu.mk ?_ (by kernel_rfl) ?_; rotate_left; cbv; rotate_right) | refine ⟨rfl, ?_⟩ | refine And.intro ?_ ?_ | exact rfl | fail
 · refine aJ.by (l ++ [⟨3 + j, 100 + j⟩], j + 1) ?_ ?_ ?_
   · dsimp only; omega
   · dsimp only; exact ⟨by omega, by omega, by rw [List.length_append, List.length_singleton]; omega⟩
   · cbv
     repeat' first | exact trivial | refine ⟨rfl, ?_⟩ | fail
 all_goals
   apply aT.Ii (A := List (List aA)) (B := List aA) (C := Int) (fun w l j => [(0, pN 0), (2, pN 2), (3, pN 3), (4, oN 4), (6, iT fun _ => j)]) (fun w l j => [(0, tJ i2 h2), (1, tK code), (2, .box [.nil]), (3, .box [.own 5]), (4, aQ .aF fun _ => l), (5, aQ .cF fun _ => w)]) (fun w l j => gG w ∧ l.length ≤ 18 ∧ 0 ≤ j ∧ j.toNat ≤ l.length) (fun w l j _ => l.length - j.toNat)
   · cbv
     repeat' first | exact trivial | refine ⟨rfl, ?_⟩ | fail
   · exact ⟨w0, by omega, by omega, Nat.zero_le _⟩
   rintro w l j ⟨hw, q1, q2, q3⟩
   cbv
   repeat' first
     | exact trivial
     | (refine Pz.mk ?_; cbv)
     | (refine ag.ex hP (Kd w _ hw) ?_; rintro x hx; (try dsimp only at hx); cbv)
     | (refine Ob.mk ⟨q2, hb⟩ ?_; cbv)
     | (refine aB.ex hP (cR code _ _ _ (by assumption) hc) ?_; rintro ⟨x, i2, h2⟩ ⟨hx, aq⟩; (try dsimp only at hx aq); cbv)
     | (refine aB.ex hP (eO code _ _ _ (by assumption) hc) ?_; rintro ⟨x, i2, h2⟩ ⟨hx, aq⟩; (try dsimp only at hx aq); cbv)
     | (refine aB.ex hP (eN code _ _ _ (by decide) (by assumption) hc) ?_; rintro ⟨x, i2, h2⟩ ⟨hx, aq⟩; (try dsimp only at hx aq); cbv)
     | (refine Br.yes (by first | assumption | exact decide_eq_true (by assumption)) ?_; cbv)
     | (refine Br.no (by first | assumption | exact decide_eq_false (by assumption)) ?_; cbv)
     | (refine Br.dec (fun hb => ?_) (fun hb => ?_) <;> cbv)
     | (refine Br.split (fun hb => ?_) (fun hb => ?_) <;> cbv)
     | (refine Ar.exact (by omega) (by omega) ?_; cbv)
     | (refine Ix.ex (by omega) (by (try simp only [nc] at *); omega) ?_; intro y; cbv)
     | (refine Ar.any ?_; intro u; cbv)
     | (refine bu.mk ?_ (by kernel_rfl) ?_; rotate_left; cbv; rotate_right) | refine ⟨rfl, ?_⟩ | refine And.intro ?_ ?_ | exact rfl | fail
   · have hb : j < (l.length : Int) := hb;refine aJ.by (x.1, l, j + 1) ?_ ?_ ?_
     · dsimp only; omega
     · dsimp only; exact ⟨hx, by omega, by omega, by omega⟩
     · cbv
       repeat' first | exact trivial | refine ⟨rfl, ?_⟩ | fail
   · refine ⟨(w, i2, h2), ⟨hw, by assumption⟩, ?_⟩;cbv
     repeat' first | exact trivial | refine ⟨rfl, ?_⟩ | fail
set_option maxHeartbeats 4000000 in
theorem RG (code : List UInt8) (i h : Int) (hi : dI code i) (hc : code.length ≤ aR) : bE Tryz.prog 199 [cP] (gQ code i h) (db code qp fun w => xr fun _ => w) := by
 unfold db;refine d_ (pk := [0, 1]) ay Tryz.func199 rfl rfl (fr := true) (fun _ => by kernel_rfl) (fun _ => rfl) rfl rfl fun P hP hA hB => ?_;cbv;refine aB.ex hP (Ke code i h hi hc) fun ⟨w, i1, h1⟩ ⟨hw, jX⟩ => ?_;cbv;have hw : gG w := hw;have hl : w.length = 9 := hw.1;have RH : (w.length + 1) * 24 ≤ 140737488355328 := by rw [hl]; decide
 have hg : ∀ k : Unit → Nat, (List.length (aO .cF (fun _ => w) k ()) + 1) * 16 ≤ 140737488355328 := fun k => by have := hw.get k; omega
 have Er : ∀ (k : Unit → Nat) (p : aA), List.length (aO .cF (fun _ => w) k () ++ [p]) ≤ 11 := fun k p => by have := hw.get k; rw [List.length_append, List.length_singleton]; omega
 repeat' first
  | exact trivial
  | (refine Pz.mk ?_; cbv)
  | (refine aB.ex hP (cR code _ _ _ (by assumption) hc) ?_; rintro ⟨k, i2, h2⟩ ⟨hk, aq⟩; (try dsimp only at hk aq); cbv)
  | (refine aB.ex hP (Ka code _ _ (by assumption) hc) ?_; rintro ⟨x, i2, h2⟩ ⟨hx, aq⟩; (try dsimp only at hx aq); cbv)
  | (refine Ob.mk (hg fun _ => k.toNat) ?_; cbv)
  | (refine Sv.sat qp (hw.set k.toNat (Er (fun _ => k.toNat) ⟨x.tm, x.pid⟩)) ?_; intro u hu; cbv)
  | (refine Ob.mk (RH) ?_; cbv)
  | (refine Ob.mk (by (try simp only [nc] at *); omega) ?_; cbv)
  | (refine aB.ex hP (cR code _ _ _ (by assumption) hc) ?_; rintro ⟨x, i2, h2⟩ ⟨hx, aq⟩; (try dsimp only at hx aq); cbv)
  | (refine aB.ex hP (eO code _ _ _ (by assumption) hc) ?_; rintro ⟨x, i2, h2⟩ ⟨hx, aq⟩; (try dsimp only at hx aq); cbv)
  | (refine aB.ex hP (eN code _ _ _ (by decide) (by assumption) hc) ?_; rintro ⟨x, i2, h2⟩ ⟨hx, aq⟩; (try dsimp only at hx aq); cbv)
  | (refine Br.yes (by first | assumption | exact decide_eq_true (by assumption)) ?_; cbv)
  | (refine Br.no (by first | assumption | exact decide_eq_false (by assumption)) ?_; cbv)
  | (refine Br.dec (fun hb => ?_) (fun hb => ?_) <;> cbv)
  | (refine Br.split (fun hb => ?_) (fun hb => ?_) <;> cbv)
  | (refine Ar.exact (by omega) (by omega) ?_; cbv)
  | (refine Ix.ex (by omega) (by (try simp only [nc] at *); omega) ?_; intro y; cbv)
  | (refine Ar.any ?_; intro u; cbv)
  | (refine bu.mk ?_ (by kernel_rfl) ?_; rotate_left; cbv; rotate_right) | refine ⟨rfl, ?_⟩ | refine And.intro ?_ ?_ | exact rfl | fail
 all_goals
  apply IW
  · cbv
    (try dsimp only)
    repeat' first | exact trivial | refine ⟨rfl, ?_⟩ | fail
  · exact ⟨by first | assumption | exact hw.v | exact hw.take _ | exact hw.app (by decide) (by decide), by assumption⟩
def qq (c : a_) : Prop := c.row.length ≤ 17 ∧ qp c.spoke
theorem qq.small {c : a_} (h : qq c) : mv c := ⟨Nat.le_trans h.1 (by decide), h.2.small⟩
theorem RI {A B : a_ × Int × Int → Prop} (a1 a2 a3 a4 a5 : Int) (r : List Entry) (w : List (List aA)) (i h : Int) (H : B (⟨⟨a1, a2, a3, a4, a5⟩, r, w⟩, i, h)) (H1 : A (⟨⟨a1, a2, a3, a4, a5⟩, r, w⟩, i, h)) : ∃ x, A x ∧ B x := ⟨_, H1, H⟩
set_option maxHeartbeats 4000000 in
theorem RJ (code : List UInt8) (i h : Int) (hi : dI code i) (hc : code.length ≤ aR) : bE Tryz.prog 200 [cP] (gQ code i h) (db code qq fun c => .agg (zM fun _ => c)) := by
 unfold db;refine d_ (pk := [0, 1]) ay Tryz.func200 rfl rfl (fr := true) (fun _ => by kernel_rfl) (fun _ => rfl) rfl rfl fun P hP hA hB => ?_;cbv;refine aB.ex hP (J_ code i h hi hc) fun ⟨a, i1, h1⟩ ⟨_, jX⟩ => ?_;cbv;refine aB.ex hP (Kc code i1 h1 jX hc) fun ⟨r, i2, h2⟩ ⟨hr, aq⟩ => ?_;cbv;refine aB.ex hP (Ke code i2 h2 aq hc) fun ⟨w, i3, h3⟩ ⟨hw, nj⟩ => ?_;cbv;refine ⟨(⟨a, r, w⟩, i3, h3), ⟨⟨Nat.le_trans hr (by decide), gG.v hw⟩, nj⟩, ?_⟩;cbv
 repeat' first | exact trivial | refine ⟨rfl, ?_⟩ | fail
set_option maxHeartbeats 4000000 in
theorem RK (code : List UInt8) (i h : Int) (hi : dI code i) (hc : code.length ≤ aR) : bE Tryz.prog 137 [cP] (gQ code i h) (db code qq fun c => .agg (zM fun _ => c)) := by
 unfold db;refine d_ (pk := [0, 1]) ay Tryz.func137 rfl rfl (fr := true) (fun _ => by kernel_rfl) (fun _ => rfl) rfl rfl fun P hP hA hB => ?_;cbv;refine aB.ex hP (eO code i h 4 hi hc) fun ⟨b, i1, h1⟩ ⟨_, jX⟩ => ?_;cbv;refine Br.split (fun hb => ?_) (fun hb => ?_) <;> cbv
 · refine aB.ex hP (RB code i1 h1 jX hc) fun ⟨a, i2, h2⟩ ⟨_, aq⟩ => ?_;cbv;refine aB.ex hP (RD code i2 h2 aq hc) fun ⟨r, i3, h3⟩ ⟨hr, nj⟩ => ?_;cbv;refine aB.ex hP (RG code i3 h3 nj hc) fun ⟨w, i4, h4⟩ ⟨hw, vm⟩ => ?_;cbv;refine ⟨(⟨a, r, w⟩, i4, h4), ⟨⟨hr, hw⟩, vm⟩, ?_⟩;cbv
   repeat' first | exact trivial | refine ⟨rfl, ?_⟩ | fail
 · refine aB.ex hP (RJ code i1 h1 jX hc) fun ⟨c, i2, h2⟩ ⟨gy, aq⟩ => ?_;cbv;have gy : qq c := gy
   repeat' first
    | exact trivial
    | (refine Pz.mk ?_; cbv)
    | (refine aB.ex hP (cR code _ _ _ (by assumption) hc) ?_; rintro ⟨x, i2, h2⟩ ⟨hx, aq⟩; (try dsimp only at hx aq); cbv)
    | (refine aB.ex hP (eO code _ _ _ (by assumption) hc) ?_; rintro ⟨x, i2, h2⟩ ⟨hx, aq⟩; (try dsimp only at hx aq); cbv)
    | (refine aB.ex hP (eN code _ _ _ (by decide) (by assumption) hc) ?_; rintro ⟨x, i2, h2⟩ ⟨hx, aq⟩; (try dsimp only at hx aq); cbv)
    | (refine Br.yes (by first | assumption | exact decide_eq_true (by assumption)) ?_; cbv)
    | (refine Br.no (by first | assumption | exact decide_eq_false (by assumption)) ?_; cbv)
    | (refine Br.dec (fun hb => ?_) (fun hb => ?_) <;> cbv)
    | (refine Br.split (fun hb => ?_) (fun hb => ?_) <;> cbv)
    | (refine Ar.exact (by omega) (by omega) ?_; cbv)
    | (refine Ix.ex (by omega) (by (try simp only [nc] at *); omega) ?_; intro y; cbv)
    | (refine Ar.any ?_; intro u; cbv)
    | (refine bu.mk ?_ (by kernel_rfl) ?_; rotate_left; cbv; rotate_right) | refine ⟨rfl, ?_⟩ | refine And.intro ?_ ?_ | exact rfl | fail
   all_goals
    apply RI
    · cbv
      (try dsimp only)
      repeat' first | exact trivial | refine ⟨rfl, ?_⟩ | fail
    · exact ⟨gy, aq⟩
theorem RM (R : bp) (l : List au) (c now : Int) (hs : R.ah.length ≤ aR) (hl : l.length ≤ aR) : Spec Tryz.prog 40 [gu R, lA .az l, iA c, iA now] (ix (List Entry) (fun x => x.length ≤ l.length) fun x => lR .aD fun _ => x) :=
 Spec.nn (cH R l c now) (by rw [cH, jy]; exact zX _ _ _ _) (zY R l c now hs hl)
theorem RN (l : List au) (c : Int) (hl : l.length ≤ aR) : Spec Tryz.prog 132 [lA .az l, iA c] (ix (List aA) (fun x => x.length ≤ l.length) fun x => lR .aF fun _ => x) :=
 Spec.nn (gF l c) (by rw [gF, jy]; exact DS _ _) (Jb l c hl)
set_option maxHeartbeats 4000000 in
theorem RO (r : bp) (l : List au) (k now free : Int) (hs : r.ah.length ≤ aR) (hl : l.length ≤ 16) (hk : 0 ≤ k ∧ k < r.ah.length) (hf : 0 ≤ free ∧ free ≤ 100) (hr : ∀ x ∈ r.ah, 0 ≤ x ∧ x ≤ 100) : Spec Tryz.prog 195 [gu r, lA .az l, iA k, iA now, iA free] (ix a_ qq fun c => .agg (zM fun _ => c)) := by
 have eF : l.length ≤ aR := Nat.le_trans hl (by decide);have w0 : gG (List.replicate 9 ([] : List aA)) := Ao (by decide);obtain ⟨n, rfl⟩ : ∃ n : Nat, k = n := ⟨k.toNat, by omega⟩;have hn : n < r.ah.length := by omega
 obtain ⟨s, Kf⟩ : ∃ s, s = r.ah[n] := ⟨_, rfl⟩;have Vx : 0 ≤ s ∧ s ≤ 100 := by rw [Kf]; exact hr _ (List.getElem_mem hn)
 have Kg := get_cast r.ah hn;rw [← Kf] at Kg;refine aH ay Tryz.func195 rfl rfl (fr := true) (fun _ => by kernel_rfl) fun P hP hA => ?_;cbv;refine ag.by hP (Ds) ?_;cbv;refine ag.ex hP (RN l (n : Int) eF) fun ps rJ => ?_;cbv;apply aT.nh (A := List (List aA)) (B := Int) (fun w j => [(1, lA .az l), (2, iA (n : Int)), (3, iA now), (4, iA free), (5, pN 5), (10, pN 10), (11, pN 11), (12, oN 12), (13, iT fun _ => j)]) (fun w j => [(5, .box (DR r)), (10, .box [.lf (.int .i64 fun _ => 0), .lf (.int .i64 fun _ => 0), .lf (.int .i64 fun _ => 0), .lf (.int .i64 fun _ => 0), .lf (.int .i64 fun _ => 0), .nil, .nil]), (11, .box [.own 13]), (12, aQ .aF fun _ => ps), (13, aQ .cF fun _ => w)]) (fun w j => gG w ∧ 0 ≤ j ∧ j.toNat ≤ ps.length) (fun w j _ => ps.length - j.toNat)
 · cbv
   repeat' first | exact trivial | refine ⟨rfl, ?_⟩ | fail
 · exact ⟨w0, by omega, Nat.zero_le _⟩
 rintro w j ⟨hw, q2, q3⟩
 cbv
 repeat' first
   | exact trivial
   | (refine Pz.mk ?_; cbv)
   | (refine ag.ex hP (Kd w _ hw) ?_; rintro x hx; (try dsimp only at hx); cbv)
   | (refine Ob.mk ⟨q2, hb⟩ ?_; cbv)
   | (refine ag.ex hP (IZ l (n : Int) eF) ?_; intro u1 oX; cbv)
   | (refine ag.ex hP (I0 l (n : Int) eF) ?_; intro u2 RP; cbv)
   | (refine Ix.mk s (by simp) Kg ?_; cbv)
   | (refine ag.ex hP (DH _ _) ?_; intro u3 Vy; cbv)
   | (refine ag.ex hP (RM r l (n : Int) now hs eF) ?_; intro u4 RQ; cbv)
   | (refine aB.ex hP (cR code _ _ _ (by assumption) hc) ?_; rintro ⟨x, i2, h2⟩ ⟨hx, aq⟩; (try dsimp only at hx aq); cbv)
   | (refine aB.ex hP (eO code _ _ _ (by assumption) hc) ?_; rintro ⟨x, i2, h2⟩ ⟨hx, aq⟩; (try dsimp only at hx aq); cbv)
   | (refine aB.ex hP (eN code _ _ _ (by decide) (by assumption) hc) ?_; rintro ⟨x, i2, h2⟩ ⟨hx, aq⟩; (try dsimp only at hx aq); cbv)
   | (refine Br.yes (by first | assumption | exact decide_eq_true (by assumption)) ?_; cbv)
   | (refine Br.no (by first | assumption | exact decide_eq_false (by assumption)) ?_; cbv)
   | (refine Br.dec (fun hb => ?_) (fun hb => ?_) <;> cbv)
   | (refine Br.split (fun hb => ?_) (fun hb => ?_) <;> cbv)
   | (refine Ar.exact (by omega) (by omega) ?_; cbv)
   | (refine Ix.ex (by omega) (by (try simp only [nc] at *); omega) ?_; intro y; cbv)
   | (refine Ar.any ?_; intro u; cbv)
   | (refine bu.mk ?_ (by kernel_rfl) ?_; rotate_left; cbv; rotate_right) | refine ⟨rfl, ?_⟩ | refine And.intro ?_ ?_ | exact rfl | fail
 · have hb : j < (ps.length : Int) := hb;refine aJ.by (x.1, j + 1) ?_ ?_ ?_
   · dsimp only; omega
   · dsimp only; exact ⟨hx, by omega, by omega⟩
   · cbv
     repeat' first | exact trivial | refine ⟨rfl, ?_⟩ | fail
 · refine ⟨⟨⟨s, s - u1 - u3, u1, u3, u2⟩, u4, w⟩, ⟨Nat.le_trans RQ (Nat.le_trans hl (by decide)), hw.v⟩, ?_⟩;cbv
   repeat' first | exact trivial | refine ⟨rfl, ?_⟩ | fail
end Go.Proofs.YtehpbaiclfilaaaGreat

