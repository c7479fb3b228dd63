/- Parts of a proof. No conditions. -/

import Derived.Test.YtehpbaiclfilaaaGreatG47
set_option linter.unusedSimpArgs false
set_option linter.unusedVariables false
namespace Go.Proofs.YtehpbaiclfilaaaGreat
open Go
set_option maxRecDepth 100000
set_option maxHeartbeats 4000000 in
theorem sx (code : List UInt8) (i h : Int) (hi : dI code i) (hc : code.length ≤ aR) : bE Tryz.prog 80 [cP] (gQ code i h) (db code cJ fun h => rR fun _ => h) := by
 unfold db;refine d_ (pk := [0, 1]) ay Tryz.func80 rfl rfl (fr := true) (fun _ => by kernel_rfl) (fun _ => rfl) rfl rfl fun P hP hA hB => ?_;cbv;refine aB.ex hP (Ki code i h hi hc) fun ⟨g, i1, h1⟩ ⟨hg, jX⟩ => ?_;cbv;have hg : vJ g := hg;obtain ⟨⟨s1, s2, s3, s4, s5⟩, t1, t2, t3, t4⟩ := hg.draw
 repeat' first
  | exact trivial
  | (refine Pz.mk ?_; cbv)
  | (refine aB.ex hP (cR code _ _ _ (by assumption) hc) ?_; rintro ⟨x, i2, h2⟩ ⟨hx, aq⟩; (try dsimp only at hx aq); cbv)
  | (refine aB.ex hP (eO code _ _ _ (by assumption) hc) ?_; rintro ⟨x, i2, h2⟩ ⟨hx, aq⟩; (try dsimp only at hx aq); cbv)
  | (refine aB.ex hP (eN code _ _ _ (by decide) (by assumption) hc) ?_; rintro ⟨x, i2, h2⟩ ⟨hx, aq⟩; (try dsimp only at hx aq); cbv)
  | (refine Br.yes (by first | assumption | exact decide_eq_true (by assumption)) ?_; cbv)
  | (refine Br.no (by first | assumption | exact decide_eq_false (by assumption)) ?_; cbv)
  | (refine Br.dec (fun hb => ?_) (fun hb => ?_) <;> cbv)
  | (refine Br.split (fun hb => ?_) (fun hb => ?_) <;> cbv)
  | (refine Ar.exact (by omega) (by omega) ?_; cbv)
  | (refine Ix.ex (by omega) (by (try simp only [nc] at *); omega) ?_; intro y; cbv)
  | (refine Ar.any ?_; intro u; cbv)
  | (refine bu.mk ?_ (by kernel_rfl) ?_; rotate_left; cbv; rotate_right) | refine ⟨rfl, ?_⟩ | refine And.intro ?_ ?_ | exact rfl | fail
 all_goals
  apply Kk
  · cbv
    (try dsimp only)
    repeat' first | exact trivial | refine ⟨rfl, ?_⟩ | fail
  · exact ⟨⟨⟨s1, s2, s3, by first | exact s4 | exact Nat.zero_le _, s5⟩, t1, by first | exact t2 | exact Nat.zero_le _, t3, t4⟩, by assumption⟩
def ke (k : Nat) (x : ai) : List C := [.own k, .lf (.int .i64 fun _ => x.rules.cm), .lf (.int .i64 fun _ => x.rules.room), .lf (.int .i64 fun _ => x.rules.size), .lf (.int .i64 fun _ => x.rules.period), .lf (.int .i64 fun _ => x.rules.ck), .lf (.int .i64 fun _ => x.rules.rest), .lf (.int .i64 fun _ => x.rules.tries), .lf (.int .i64 fun _ => x.rules.bP), .lf (.int .i64 fun _ => x.now), .lf (.int .i64 fun _ => x.aw), .own (k + 1), .own (k + 2), .own (k + 3), .own (k + 4)]
def kg (k : Nat) (x : ai) : List (Nat × ak) := [(k, aQ .int fun _ => x.rules.ah), (k + 1, aQ .az fun _ => x.ae), (k + 2, aQ .cf fun _ => x.cabins), (k + 3, aQ .int fun _ => x.todo), (k + 4, aQ .int fun _ => x.aN)]
theorem oY {α β : Type} {A B : α × β → Prop} (a : α) (b : β) (H : B (a, b)) (H1 : A (a, b)) : ∃ x, A x ∧ B x := ⟨_, H1, H⟩
theorem ql {α : Type} {A B : α → Prop} (a : α) (H : B a) (H1 : A a) : ∃ x, A x ∧ B x := ⟨_, H1, H⟩
set_option maxHeartbeats 8000000 in
theorem A2 (code : List UInt8) (hc : code.length ≤ aR) : bE Tryz.prog 115 [.c (.own 0)] [(0, .view .byte fun _ => code)] (jZ (ai × Int) (fun x => cJ x.1) (fun x => .bc [(true, ik fun _ => x.1), (false, [.int .i64 fun _ => x.2])]) (fun _ => [(0, .vw)])) := by
 have cO : dI code 0 := ⟨Int.le_refl 0, Int.natCast_nonneg _⟩;refine d_ (pk := [0]) ay Tryz.func115 rfl rfl (fr := true) (fun _ => by kernel_rfl) (fun _ => rfl) rfl rfl fun P hP hA hB => ?_;cbv;refine aB.rL hP (rT code hc) ?_;cbv
 repeat' first
  | exact trivial
  | (refine Pz.mk ?_; cbv)
  | (refine aB.ex hP (sx code _ _ (by assumption) hc) ?_; rintro ⟨x, i2, h2⟩ ⟨hx, aq⟩; (try dsimp only at hx aq); cbv)
  | (refine aB.ex hP (sw code _ _ (by assumption) hc) ?_; rintro ⟨x, i2, h2⟩ ⟨hx, aq⟩; (try dsimp only at hx aq); cbv)
  | (refine ag.ex hP (DH _ _) ?_; intro u hu; cbv)
  | (refine aB.ex hP (cR code _ _ _ (by assumption) hc) ?_; rintro ⟨x, i2, h2⟩ ⟨hx, aq⟩; (try dsimp only at hx aq); cbv)
  | (refine aB.ex hP (eO code _ _ _ (by assumption) hc) ?_; rintro ⟨x, i2, h2⟩ ⟨hx, aq⟩; (try dsimp only at hx aq); cbv)
  | (refine aB.ex hP (eN code _ _ _ (by decide) (by assumption) hc) ?_; rintro ⟨x, i2, h2⟩ ⟨hx, aq⟩; (try dsimp only at hx aq); cbv)
  | (refine Br.yes (by first | assumption | exact decide_eq_true (by assumption)) ?_; cbv)
  | (refine Br.no (by first | assumption | exact decide_eq_false (by assumption)) ?_; cbv)
  | (refine Br.dec (fun hb => ?_) (fun hb => ?_) <;> cbv)
  | (refine Br.split (fun hb => ?_) (fun hb => ?_) <;> cbv)
  | (refine Ar.exact (by omega) (by omega) ?_; cbv)
  | (refine Ix.ex (by omega) (by (try simp only [nc] at *); omega) ?_; intro y; cbv)
  | (refine Ar.any ?_; intro u; cbv)
  | (refine bu.mk ?_ (by kernel_rfl) ?_; rotate_left; cbv; rotate_right) | refine ⟨rfl, ?_⟩ | refine And.intro ?_ ?_ | exact rfl | fail
 all_goals
  apply oY
  · cbv
    (try dsimp only)
    repeat' first | exact trivial | refine ⟨rfl, ?_⟩ | fail
  · exact (by assumption : cJ _)
set_option maxHeartbeats 8000000 in
theorem qu (code : List UInt8) (hc : code.length ≤ aR) : bE Tryz.prog 25 [.c (.own 0)] [(0, .view .byte fun _ => code)] (jZ (ai) (fun x => cJ x) (fun x => rR fun _ => x) (fun _ => [(0, .vw)])) := by
 have cO : dI code 0 := ⟨Int.le_refl 0, Int.natCast_nonneg _⟩;refine d_ (pk := [0]) ay Tryz.func25 rfl rfl (fr := true) (fun _ => by kernel_rfl) (fun _ => rfl) rfl rfl fun P hP hA hB => ?_;cbv;refine aB.rL hP (rT code hc) ?_;cbv
 repeat' first
  | exact trivial
  | (refine Pz.mk ?_; cbv)
  | (refine aB.ex hP (sx code _ _ (by assumption) hc) ?_; rintro ⟨x, i2, h2⟩ ⟨hx, aq⟩; (try dsimp only at hx aq); cbv)
  | (refine aB.ex hP (sw code _ _ (by assumption) hc) ?_; rintro ⟨x, i2, h2⟩ ⟨hx, aq⟩; (try dsimp only at hx aq); cbv)
  | (refine aB.ex hP (cR code _ _ _ (by assumption) hc) ?_; rintro ⟨x, i2, h2⟩ ⟨hx, aq⟩; (try dsimp only at hx aq); cbv)
  | (refine aB.ex hP (eO code _ _ _ (by assumption) hc) ?_; rintro ⟨x, i2, h2⟩ ⟨hx, aq⟩; (try dsimp only at hx aq); cbv)
  | (refine aB.ex hP (eN code _ _ _ (by decide) (by assumption) hc) ?_; rintro ⟨x, i2, h2⟩ ⟨hx, aq⟩; (try dsimp only at hx aq); cbv)
  | (refine Br.yes (by first | assumption | exact decide_eq_true (by assumption)) ?_; cbv)
  | (refine Br.no (by first | assumption | exact decide_eq_false (by assumption)) ?_; cbv)
  | (refine Br.dec (fun hb => ?_) (fun hb => ?_) <;> cbv)
  | (refine Br.split (fun hb => ?_) (fun hb => ?_) <;> cbv)
  | (refine Ar.exact (by omega) (by omega) ?_; cbv)
  | (refine Ix.ex (by omega) (by (try simp only [nc] at *); omega) ?_; intro y; cbv)
  | (refine Ar.any ?_; intro u; cbv)
  | (refine bu.mk ?_ (by kernel_rfl) ?_; rotate_left; cbv; rotate_right) | refine ⟨rfl, ?_⟩ | refine And.intro ?_ ?_ | exact rfl | fail
 all_goals
  apply ql
  · cbv
    (try dsimp only)
    repeat' first | exact trivial | refine ⟨rfl, ?_⟩ | fail
  · exact (by assumption : cJ _)
set_option maxHeartbeats 8000000 in
theorem A3 (code : List UInt8) (hc : code.length ≤ aR) : bE Tryz.prog 54 [.c (.own 0)] [(0, .view .byte fun _ => code)] (jZ (ai) (fun x => cJ x) (fun x => rR fun _ => x) (fun _ => [(0, .vw)])) := by
 have cO : dI code 0 := ⟨Int.le_refl 0, Int.natCast_nonneg _⟩;refine d_ (pk := [0]) ay Tryz.func54 rfl rfl (fr := true) (fun _ => by kernel_rfl) (fun _ => rfl) rfl rfl fun P hP hA hB => ?_;cbv;refine aB.rL hP (rT code hc) ?_;cbv
 repeat' first
  | exact trivial
  | (refine Pz.mk ?_; cbv)
  | (refine aB.ex hP (sx code _ _ (by assumption) hc) ?_; rintro ⟨x, i2, h2⟩ ⟨hx, aq⟩; (try dsimp only at hx aq); cbv)
  | (refine aB.ex hP (sw code _ _ (by assumption) hc) ?_; rintro ⟨x, i2, h2⟩ ⟨hx, aq⟩; (try dsimp only at hx aq); cbv)
  | (refine aB.ex hP (cR code _ _ _ (by assumption) hc) ?_; rintro ⟨x, i2, h2⟩ ⟨hx, aq⟩; (try dsimp only at hx aq); cbv)
  | (refine aB.ex hP (eO code _ _ _ (by assumption) hc) ?_; rintro ⟨x, i2, h2⟩ ⟨hx, aq⟩; (try dsimp only at hx aq); cbv)
  | (refine aB.ex hP (eN code _ _ _ (by decide) (by assumption) hc) ?_; rintro ⟨x, i2, h2⟩ ⟨hx, aq⟩; (try dsimp only at hx aq); cbv)
  | (refine Br.yes (by first | assumption | exact decide_eq_true (by assumption)) ?_; cbv)
  | (refine Br.no (by first | assumption | exact decide_eq_false (by assumption)) ?_; cbv)
  | (refine Br.dec (fun hb => ?_) (fun hb => ?_) <;> cbv)
  | (refine Br.split (fun hb => ?_) (fun hb => ?_) <;> cbv)
  | (refine Ar.exact (by omega) (by omega) ?_; cbv)
  | (refine Ix.ex (by omega) (by (try simp only [nc] at *); omega) ?_; intro y; cbv)
  | (refine Ar.any ?_; intro u; cbv)
  | (refine bu.mk ?_ (by kernel_rfl) ?_; rotate_left; cbv; rotate_right) | refine ⟨rfl, ?_⟩ | refine And.intro ?_ ?_ | exact rfl | fail
 all_goals
  apply ql
  · cbv
    (try dsimp only)
    repeat' first | exact trivial | refine ⟨rfl, ?_⟩ | fail
  · exact (by assumption : cJ _)
set_option maxHeartbeats 8000000 in
theorem Dl (code : List UInt8) (hc : code.length ≤ aR) : bE Tryz.prog 34 [.c (.own 0)] [(0, .view .byte fun _ => code)] (jZ (ai × Int) (fun x => cJ x.1) (fun x => .bc [(true, ik fun _ => x.1), (false, [.int .i64 fun _ => x.2])]) (fun _ => [(0, .vw)])) := by
 have cO : dI code 0 := ⟨Int.le_refl 0, Int.natCast_nonneg _⟩;refine d_ (pk := [0]) ay Tryz.func34 rfl rfl (fr := true) (fun _ => by kernel_rfl) (fun _ => rfl) rfl rfl fun P hP hA hB => ?_;cbv;refine aB.rL hP (rT code hc) ?_;cbv
 repeat' first
  | exact trivial
  | (refine Pz.mk ?_; cbv)
  | (refine aB.ex hP (sx code _ _ (by assumption) hc) ?_; rintro ⟨x, i2, h2⟩ ⟨hx, aq⟩; (try dsimp only at hx aq); cbv)
  | (refine aB.ex hP (sw code _ _ (by assumption) hc) ?_; rintro ⟨x, i2, h2⟩ ⟨hx, aq⟩; (try dsimp only at hx aq); cbv)
  | (refine aB.ex hP (eN code _ _ _ (by dsimp only [List.length]; omega) (by assumption) hc) ?_; rintro ⟨x, i2, h2⟩ ⟨hx, aq⟩; (try dsimp only at hx aq); cbv)
  | (refine aB.ex hP (cR code _ _ _ (by assumption) hc) ?_; rintro ⟨x, i2, h2⟩ ⟨hx, aq⟩; (try dsimp only at hx aq); cbv)
  | (refine aB.ex hP (eO code _ _ _ (by assumption) hc) ?_; rintro ⟨x, i2, h2⟩ ⟨hx, aq⟩; (try dsimp only at hx aq); cbv)
  | (refine aB.ex hP (eN code _ _ _ (by decide) (by assumption) hc) ?_; rintro ⟨x, i2, h2⟩ ⟨hx, aq⟩; (try dsimp only at hx aq); cbv)
  | (refine Br.yes (by first | assumption | exact decide_eq_true (by assumption)) ?_; cbv)
  | (refine Br.no (by first | assumption | exact decide_eq_false (by assumption)) ?_; cbv)
  | (refine Br.dec (fun hb => ?_) (fun hb => ?_) <;> cbv)
  | (refine Br.split (fun hb => ?_) (fun hb => ?_) <;> cbv)
  | (refine Ar.exact (by omega) (by omega) ?_; cbv)
  | (refine Ix.ex (by omega) (by (try simp only [nc] at *); omega) ?_; intro y; cbv)
  | (refine Ar.any ?_; intro u; cbv)
  | (refine bu.mk ?_ (by kernel_rfl) ?_; rotate_left; cbv; rotate_right) | refine ⟨rfl, ?_⟩ | refine And.intro ?_ ?_ | exact rfl | fail
 all_goals
  apply oY
  · cbv
    (try dsimp only)
    repeat' first | exact trivial | refine ⟨rfl, ?_⟩ | fail
  · exact (by assumption : cJ _)
theorem Ea (code : List UInt8) (hc : code.length ≤ aR) : bE Tryz.prog 48 [.c (.own 0)] [(0, .view .byte fun _ => code)] (jZ (ai × Int) (fun x => cJ x.1) (fun x => .bc [(true, ik fun _ => x.1), (false, [.int .i64 fun _ => x.2])]) (fun _ => [(0, .vw)])) := by
 refine d_ (pk := [0]) ay Tryz.func48 rfl rfl (fr := true) (fun _ => by kernel_rfl) (fun _ => rfl) rfl rfl fun P hP hA hB => ?_;cbv;refine aB.ex hP (A2 code hc) fun ⟨x, y⟩ hx => ?_;cbv;have hx : cJ x := hx
 all_goals
  apply oY
  · cbv
    (try dsimp only)
    repeat' first | exact trivial | refine ⟨rfl, ?_⟩ | fail
  · exact (by assumption : cJ _)
end Go.Proofs.YtehpbaiclfilaaaGreat

