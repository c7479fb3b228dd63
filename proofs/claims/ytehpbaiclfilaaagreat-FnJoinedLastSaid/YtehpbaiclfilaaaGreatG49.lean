/- Parts of a proof. No conditions. -/

import Derived.Test.YtehpbaiclfilaaaGreatG47
set_option linter.unusedSimpArgs false
set_option linter.unusedVariables false
namespace Go.Proofs.YtehpbaiclfilaaaGreat
open Go
set_option maxRecDepth 100000
theorem yn {A B : dL × Int × Int → Prop} (a1 a2 a3 a4 a5 a6 i h : Int) (H : B (⟨a1, a2, a3, a4, a5, a6⟩, i, h)) (H1 : A (⟨a1, a2, a3, a4, a5, a6⟩, i, h)) : ∃ x, A x ∧ B x := ⟨_, H1, H⟩
set_option maxHeartbeats 4000000 in
theorem sx (code : List UInt8) (i h : Int) (hi : dI code i) (hc : code.length ≤ aR) : bE Tryz.prog 80 [cP] (gQ code i h) (db code cJ fun h => rR fun _ => h) := by
 unfold db;refine d_ (pk := [0, 1]) ay Tryz.func80 rfl rfl (fr := true) (fun _ => by kernel_rfl) (fun _ => rfl) rfl rfl fun P hP hA hB => ?_;cbv;refine aB.ex hP (Ki code i h hi hc) fun ⟨g, i1, h1⟩ ⟨hg, jX⟩ => ?_;cbv;have hg : vJ g := hg;obtain ⟨⟨s1, s2, s3, s4, s5⟩, t1, t2, t3, t4⟩ := hg.draw
 repeat' first
  | exact trivial
  | (refine Pz.mk ?_; cbv)
  | (refine aB.ex hP (cR code _ _ _ (by assumption) hc) ?_; rintro ⟨x, i2, h2⟩ ⟨hx, aq⟩; (try dsimp only at hx aq); cbv)
  | (refine aB.ex hP (eO code _ _ _ (by assumption) hc) ?_; rintro ⟨x, i2, h2⟩ ⟨hx, aq⟩; (try dsimp only at hx aq); cbv)
  | (refine aB.ex hP (eN code _ _ _ (by decide) (by assumption) hc) ?_; rintro ⟨x, i2, h2⟩ ⟨hx, aq⟩; (try dsimp only at hx aq); cbv)
  | (refine Br.yes (by first | assumption | exact decide_eq_true (by assumption)) ?_; cbv)
  | (refine Br.no (by first | assumption | exact decide_eq_false (by assumption)) ?_; cbv)
  | (refine Br.dec (fun hb => ?_) (fun hb => ?_) <;> cbv)
  | (refine Br.split (fun hb => ?_) (fun hb => ?_) <;> cbv)
  | (refine Ar.exact (by omega) (by omega) ?_; cbv)
  | (refine Ix.ex (by omega) (by (try simp only [nc] at *); omega) ?_; intro y; cbv)
  | (refine Ar.any ?_; intro u; cbv)
  | (refine bu.mk ?_ (by kernel_rfl) ?_; rotate_left; cbv; rotate_right) | refine ⟨rfl, ?_⟩ | refine And.intro ?_ ?_ | exact rfl | fail
 all_goals
  apply Kk
  · cbv
    (try dsimp only)
    repeat' first | exact trivial | refine ⟨rfl, ?_⟩ | fail
  · exact ⟨⟨⟨s1, s2, s3, by first | exact s4 | exact Nat.zero_le _, s5⟩, t1, by first | exact t2 | exact Nat.zero_le _, t3, t4⟩, by assumption⟩
set_option maxHeartbeats 8000000 in
theorem JD (code : List UInt8) (i h : Int) (hi : dI code i) (hc : code.length ≤ aR) (g : ai) (hg : g.rules.size ≤ 6 ∧ g.ae.length ≤ aR) : bE Tryz.prog 145 [cP, dk g] (gQ code i h) (db code (fun _ : dL => True) fun q => eR .h_ fun _ => q) := by
 obtain ⟨g1, g2⟩ := hg;have g2 : g.ae.length ≤ 1048576 := g2;unfold db;refine d_ (pk := [0, 1]) ay Tryz.func145 rfl rfl (fr := true) (fun _ => by kernel_rfl) (fun _ => rfl) rfl rfl fun P hP hA hB => ?_;cbv
 repeat' first
  | exact trivial
  | (refine Pz.mk ?_; cbv)
  | (refine ag.ex hP (DH _ _) ?_; intro u hu; cbv)
  | (refine aB.ex hP (cR code _ _ _ (by assumption) hc) ?_; rintro ⟨x, i2, h2⟩ ⟨hx, aq⟩; (try dsimp only at hx aq); cbv)
  | (refine aB.ex hP (eO code _ _ _ (by assumption) hc) ?_; rintro ⟨x, i2, h2⟩ ⟨hx, aq⟩; (try dsimp only at hx aq); cbv)
  | (refine aB.ex hP (eN code _ _ _ (by decide) (by assumption) hc) ?_; rintro ⟨x, i2, h2⟩ ⟨hx, aq⟩; (try dsimp only at hx aq); cbv)
  | (refine Br.yes (by first | assumption | exact decide_eq_true (by assumption)) ?_; cbv)
  | (refine Br.no (by first | assumption | exact decide_eq_false (by assumption)) ?_; cbv)
  | (refine Br.dec (fun hb => ?_) (fun hb => ?_) <;> cbv)
  | (refine Br.split (fun hb => ?_) (fun hb => ?_) <;> cbv)
  | (refine Ar.exact (by omega) (by omega) ?_; cbv)
  | (refine Ix.ex (by omega) (by (try simp only [nc] at *); omega) ?_; intro y; cbv)
  | (refine Ar.any ?_; intro u; cbv)
  | (refine bu.mk ?_ (by kernel_rfl) ?_; rotate_left; cbv; rotate_right) | refine ⟨rfl, ?_⟩ | refine And.intro ?_ ?_ | exact rfl | fail
 all_goals
  apply yn
  · cbv
    (try dsimp only)
    repeat' first | exact trivial | refine ⟨rfl, ?_⟩ | fail
  · exact ⟨trivial, by assumption⟩
set_option maxHeartbeats 8000000 in
theorem yo (code : List UInt8) (i h : Int) (hi : dI code i) (hc : code.length ≤ aR) (g : ai) (hg : g.rules.size ≤ 6 ∧ g.ae.length ≤ aR) : bE Tryz.prog 95 [cP, dk g] (gQ code i h) (db code (fun _ : dL => True) fun q => eR .h_ fun _ => q) := by
 unfold db;refine d_ (pk := [0, 1]) ay Tryz.func95 rfl rfl (fr := true) (fun _ => by kernel_rfl) (fun _ => rfl) rfl rfl fun P hP hA hB => ?_;cbv
 repeat' first
  | exact trivial
  | (refine Pz.mk ?_; cbv)
  | (refine aB.ex hP (JD code _ _ (by assumption) hc g hg) ?_; rintro ⟨x, i2, h2⟩ ⟨hx, aq⟩; (try dsimp only at hx aq); cbv)
  | (refine aB.ex hP (cR code _ _ _ (by assumption) hc) ?_; rintro ⟨x, i2, h2⟩ ⟨hx, aq⟩; (try dsimp only at hx aq); cbv)
  | (refine aB.ex hP (eO code _ _ _ (by assumption) hc) ?_; rintro ⟨x, i2, h2⟩ ⟨hx, aq⟩; (try dsimp only at hx aq); cbv)
  | (refine aB.ex hP (eN code _ _ _ (by decide) (by assumption) hc) ?_; rintro ⟨x, i2, h2⟩ ⟨hx, aq⟩; (try dsimp only at hx aq); cbv)
  | (refine Br.yes (by first | assumption | exact decide_eq_true (by assumption)) ?_; cbv)
  | (refine Br.no (by first | assumption | exact decide_eq_false (by assumption)) ?_; cbv)
  | (refine Br.dec (fun hb => ?_) (fun hb => ?_) <;> cbv)
  | (refine Br.split (fun hb => ?_) (fun hb => ?_) <;> cbv)
  | (refine Ar.exact (by omega) (by omega) ?_; cbv)
  | (refine Ix.ex (by omega) (by (try simp only [nc] at *); omega) ?_; intro y; cbv)
  | (refine Ar.any ?_; intro u; cbv)
  | (refine bu.mk ?_ (by kernel_rfl) ?_; rotate_left; cbv; rotate_right) | refine ⟨rfl, ?_⟩ | refine And.intro ?_ ?_ | exact rfl | fail
 all_goals
  apply yn
  · cbv
    (try dsimp only)
    repeat' first | exact trivial | refine ⟨rfl, ?_⟩ | fail
  · exact ⟨trivial, by assumption⟩
def zm (x : Unit → dL) : List Sh := [.int .i64 fun _ => (x ()).kind, .int .i64 fun _ => (x ()).id, .int .i64 fun _ => (x ()).cab, .int .i64 fun _ => (x ()).al, .int .i64 fun _ => (x ()).siz, .int .i64 fun _ => (x ()).aK]
def ke (k : Nat) (x : ai) : List C := [.own k, .lf (.int .i64 fun _ => x.rules.cm), .lf (.int .i64 fun _ => x.rules.room), .lf (.int .i64 fun _ => x.rules.size), .lf (.int .i64 fun _ => x.rules.period), .lf (.int .i64 fun _ => x.rules.ck), .lf (.int .i64 fun _ => x.rules.rest), .lf (.int .i64 fun _ => x.rules.tries), .lf (.int .i64 fun _ => x.rules.bP), .lf (.int .i64 fun _ => x.now), .lf (.int .i64 fun _ => x.aw), .own (k + 1), .own (k + 2), .own (k + 3), .own (k + 4)]
def kg (k : Nat) (x : ai) : List (Nat × ak) := [(k, aQ .int fun _ => x.rules.ah), (k + 1, aQ .az fun _ => x.ae), (k + 2, aQ .cab fun _ => x.cabins), (k + 3, aQ .int fun _ => x.todo), (k + 4, aQ .int fun _ => x.aN)]
theorem oY {α β : Type} {A B : α × β → Prop} (a : α) (b : β) (H : B (a, b)) (H1 : A (a, b)) : ∃ x, A x ∧ B x := ⟨_, H1, H⟩
theorem JE {α β γ δ ε ζ : Type} {A B : α × β × γ × δ × ε × ζ → Prop} (a : α) (b : β) (c : γ) (d : δ) (e : ε) (f : ζ) (H : B (a, b, c, d, e, f)) (H1 : A (a, b, c, d, e, f)) : ∃ x, A x ∧ B x := ⟨_, H1, H⟩
theorem cJ.rq {g : ai} (h : cJ g) : g.rules.size ≤ 6 ∧ g.ae.length ≤ aR := ⟨h.2.2.2.2.2.1, h.1.2.1⟩
set_option maxHeartbeats 8000000 in
theorem JF (code : List UInt8) (hc : code.length ≤ aR) : bE Tryz.prog 64 [.c (.own 0)] [(0, .view .byte fun _ => code)] (jZ (ai × dL) (fun x => cJ x.1) (fun x => .bc [(true, ik fun _ => x.1), (true, zm fun _ => x.2)]) (fun _ => [(0, .vw)])) := by
 have cO : dI code 0 := ⟨Int.le_refl 0, Int.natCast_nonneg _⟩;refine d_ (pk := [0]) ay Tryz.func64 rfl rfl (fr := true) (fun _ => by kernel_rfl) (fun _ => rfl) rfl rfl fun P hP hA hB => ?_;cbv;refine aB.rL hP (rT code hc) ?_;cbv
 repeat' first
  | exact trivial
  | (refine Pz.mk ?_; cbv)
  | (refine aB.ex hP (sx code _ _ (by assumption) hc) ?_; rintro ⟨x, i2, h2⟩ ⟨hx, aq⟩; (try dsimp only at hx aq); cbv)
  | (refine aB.ex hP (sw code _ _ (by assumption) hc) ?_; rintro ⟨x, i2, h2⟩ ⟨hx, aq⟩; (try dsimp only at hx aq); cbv)
  | (refine aB.ex hP (yo code _ _ (by assumption) hc _ (cJ.rq (by assumption))) ?_; rintro ⟨x, i2, h2⟩ ⟨hx, aq⟩; (try dsimp only at hx aq); cbv)
  | (refine aB.ex hP (cR code _ _ _ (by assumption) hc) ?_; rintro ⟨x, i2, h2⟩ ⟨hx, aq⟩; (try dsimp only at hx aq); cbv)
  | (refine aB.ex hP (eO code _ _ _ (by assumption) hc) ?_; rintro ⟨x, i2, h2⟩ ⟨hx, aq⟩; (try dsimp only at hx aq); cbv)
  | (refine aB.ex hP (eN code _ _ _ (by decide) (by assumption) hc) ?_; rintro ⟨x, i2, h2⟩ ⟨hx, aq⟩; (try dsimp only at hx aq); cbv)
  | (refine Br.yes (by first | assumption | exact decide_eq_true (by assumption)) ?_; cbv)
  | (refine Br.no (by first | assumption | exact decide_eq_false (by assumption)) ?_; cbv)
  | (refine Br.dec (fun hb => ?_) (fun hb => ?_) <;> cbv)
  | (refine Br.split (fun hb => ?_) (fun hb => ?_) <;> cbv)
  | (refine Ar.exact (by omega) (by omega) ?_; cbv)
  | (refine Ix.ex (by omega) (by (try simp only [nc] at *); omega) ?_; intro y; cbv)
  | (refine Ar.any ?_; intro u; cbv)
  | (refine bu.mk ?_ (by kernel_rfl) ?_; rotate_left; cbv; rotate_right) | refine ⟨rfl, ?_⟩ | refine And.intro ?_ ?_ | exact rfl | fail
 all_goals
  apply oY
  · cbv
    (try dsimp only)
    repeat' first | exact trivial | refine ⟨rfl, ?_⟩ | fail
  · exact (by assumption : cJ _)
set_option maxHeartbeats 8000000 in
theorem JG (code : List UInt8) (hc : code.length ≤ aR) : bE Tryz.prog 61 [.c (.own 0)] [(0, .view .byte fun _ => code)] (jZ (ai × Int) (fun x => cJ x.1) (fun x => .bc [(true, ik fun _ => x.1), (false, [.int .i64 fun _ => x.2])]) (fun _ => [(0, .vw)])) := by
 have cO : dI code 0 := ⟨Int.le_refl 0, Int.natCast_nonneg _⟩;refine d_ (pk := [0]) ay Tryz.func61 rfl rfl (fr := true) (fun _ => by kernel_rfl) (fun _ => rfl) rfl rfl fun P hP hA hB => ?_;cbv;refine aB.rL hP (rT code hc) ?_;cbv
 repeat' first
  | exact trivial
  | (refine Pz.mk ?_; cbv)
  | (refine aB.ex hP (sx code _ _ (by assumption) hc) ?_; rintro ⟨x, i2, h2⟩ ⟨hx, aq⟩; (try dsimp only at hx aq); cbv)
  | (refine aB.ex hP (sw code _ _ (by assumption) hc) ?_; rintro ⟨x, i2, h2⟩ ⟨hx, aq⟩; (try dsimp only at hx aq); cbv)
  | (refine Ob.mk (by (try simp only [nc] at *); omega) ?_; cbv)
  | (refine aB.ex hP (cR code _ _ _ (by assumption) hc) ?_; rintro ⟨x, i2, h2⟩ ⟨hx, aq⟩; (try dsimp only at hx aq); cbv)
  | (refine aB.ex hP (eO code _ _ _ (by assumption) hc) ?_; rintro ⟨x, i2, h2⟩ ⟨hx, aq⟩; (try dsimp only at hx aq); cbv)
  | (refine aB.ex hP (eN code _ _ _ (by decide) (by assumption) hc) ?_; rintro ⟨x, i2, h2⟩ ⟨hx, aq⟩; (try dsimp only at hx aq); cbv)
  | (refine Br.yes (by first | assumption | exact decide_eq_true (by assumption)) ?_; cbv)
  | (refine Br.no (by first | assumption | exact decide_eq_false (by assumption)) ?_; cbv)
  | (refine Br.dec (fun hb => ?_) (fun hb => ?_) <;> cbv)
  | (refine Br.split (fun hb => ?_) (fun hb => ?_) <;> cbv)
  | (refine Ar.exact (by omega) (by omega) ?_; cbv)
  | (refine Ix.ex (by omega) (by (try simp only [nc] at *); omega) ?_; intro y; cbv)
  | (refine Ar.any ?_; intro u; cbv)
  | (refine bu.mk ?_ (by kernel_rfl) ?_; rotate_left; cbv; rotate_right) | refine ⟨rfl, ?_⟩ | refine And.intro ?_ ?_ | exact rfl | fail
 all_goals
  apply oY
  · cbv
    (try dsimp only)
    repeat' first | exact trivial | refine ⟨rfl, ?_⟩ | fail
  · exact (by assumption : cJ _)
set_option maxHeartbeats 8000000 in
theorem zE (code : List UInt8) (hc : code.length ≤ aR) : bE Tryz.prog 38 [.c (.own 0)] [(0, .view .byte fun _ => code)] (jZ (ai × Int × Int × Int × Int × Int) (fun x => cJ x.1) (fun x => .bc [(true, ik fun _ => x.1), (false, [.int .i64 fun _ => x.2.1]), (false, [.int .i64 fun _ => x.2.2.1]), (false, [.int .i64 fun _ => x.2.2.2.1]), (false, [.int .i64 fun _ => x.2.2.2.2.1]), (false, [.int .i64 fun _ => x.2.2.2.2.2])]) (fun _ => [(0, .vw)])) := by
 have cO : dI code 0 := ⟨Int.le_refl 0, Int.natCast_nonneg _⟩;refine d_ (pk := [0]) ay Tryz.func38 rfl rfl (fr := true) (fun _ => by kernel_rfl) (fun _ => rfl) rfl rfl fun P hP hA hB => ?_;cbv;refine aB.rL hP (rT code hc) ?_;cbv
 repeat' first
  | exact trivial
  | (refine Pz.mk ?_; cbv)
  | (refine aB.ex hP (sx code _ _ (by assumption) hc) ?_; rintro ⟨x, i2, h2⟩ ⟨hx, aq⟩; (try dsimp only at hx aq); cbv)
  | (refine aB.ex hP (sw code _ _ (by assumption) hc) ?_; rintro ⟨x, i2, h2⟩ ⟨hx, aq⟩; (try dsimp only at hx aq); cbv)
  | (refine aB.ex hP (yo code _ _ (by assumption) hc _ (cJ.rq (by assumption))) ?_; rintro ⟨x, i2, h2⟩ ⟨hx, aq⟩; (try dsimp only at hx aq); cbv)
  | (refine aB.ex hP (cR code _ _ _ (by assumption) hc) ?_; rintro ⟨x, i2, h2⟩ ⟨hx, aq⟩; (try dsimp only at hx aq); cbv)
  | (refine aB.ex hP (eO code _ _ _ (by assumption) hc) ?_; rintro ⟨x, i2, h2⟩ ⟨hx, aq⟩; (try dsimp only at hx aq); cbv)
  | (refine aB.ex hP (eN code _ _ _ (by decide) (by assumption) hc) ?_; rintro ⟨x, i2, h2⟩ ⟨hx, aq⟩; (try dsimp only at hx aq); cbv)
  | (refine Br.yes (by first | assumption | exact decide_eq_true (by assumption)) ?_; cbv)
  | (refine Br.no (by first | assumption | exact decide_eq_false (by assumption)) ?_; cbv)
  | (refine Br.dec (fun hb => ?_) (fun hb => ?_) <;> cbv)
  | (refine Br.split (fun hb => ?_) (fun hb => ?_) <;> cbv)
  | (refine Ar.exact (by omega) (by omega) ?_; cbv)
  | (refine Ix.ex (by omega) (by (try simp only [nc] at *); omega) ?_; intro y; cbv)
  | (refine Ar.any ?_; intro u; cbv)
  | (refine bu.mk ?_ (by kernel_rfl) ?_; rotate_left; cbv; rotate_right) | refine ⟨rfl, ?_⟩ | refine And.intro ?_ ?_ | exact rfl | fail
 all_goals
  apply JE
  · cbv
    (try dsimp only)
    repeat' first | exact trivial | refine ⟨rfl, ?_⟩ | fail
  · exact (by assumption : cJ _)
set_option maxHeartbeats 8000000 in
theorem zR (code : List UInt8) (hc : code.length ≤ aR) : bE Tryz.prog 111 [.c (.own 0)] [(0, .view .byte fun _ => code)] (jZ (ai × Int) (fun x => cJ x.1) (fun x => .bc [(true, ik fun _ => x.1), (false, [.int .i64 fun _ => x.2])]) (fun _ => [(0, .vw)])) := by
 have cO : dI code 0 := ⟨Int.le_refl 0, Int.natCast_nonneg _⟩;refine d_ (pk := [0]) ay Tryz.func111 rfl rfl (fr := true) (fun _ => by kernel_rfl) (fun _ => rfl) rfl rfl fun P hP hA hB => ?_;cbv;refine aB.rL hP (rT code hc) ?_;cbv;refine aB.ex hP (sx code _ _ cO hc) fun ⟨g, i1, h1⟩ ⟨hg, jX⟩ => ?_;cbv;have hg : cJ g := hg;have hp := hg.2.1;refine aB.ex hP (cR code i1 h1 12 jX hc) fun ⟨x, i2, h2⟩ ⟨hx, aq⟩ => ?_;cbv;have hx : 0 ≤ x ∧ (x < 12 ∨ x = 0) := hx;refine Ar.exact (by show -9223372036854775808 ≤ 1 + x; omega) (by show 1 + x ≤ 9223372036854775807; omega) ?_;cbv;apply aT.zF (A := Int) (B := Int) (C := Int) (D := Int) (E := Int) (fun id n j i h => [(2, pN 2), (4, pN 4), (5, pN 5), (6, iT fun _ => id), (7, iT fun _ => n), (8, iT fun _ => j)]) (fun id n j i h => (0, .view .byte fun _ => code) :: (2, .box Aq) :: (4, .box [.own 0, .lf (.int .i64 fun _ => i), .lf (.int .i64 fun _ => h)]) :: (5, .box (ke 6 g)) :: kg 6 g) (fun id n j i h => 0 ≤ j ∧ j.toNat ≤ g.ae.length ∧ 0 ≤ n ∧ n ≤ j ∧ dI code i) (fun id n j i h _ => g.ae.length - j.toNat)
 · cbv
   repeat' first | exact trivial | refine ⟨rfl, ?_⟩ | fail
 · exact ⟨by omega, Nat.zero_le _, by omega, by omega, aq⟩
 rintro id n j i3 h3 ⟨q1, q2, q3, q4, q5⟩
 cbv
 repeat' first
   | exact trivial
   | (refine Pz.mk ?_; cbv)
   | (refine Ob.mk ⟨q1, by assumption⟩ ?_; cbv)
   | (refine aB.ex hP (sw code _ _ (by assumption) hc) ?_; rintro ⟨x, i2, h2⟩ ⟨hx, aq⟩; (try dsimp only at hx aq); cbv)
   | (refine aB.ex hP (cR code _ _ _ (by assumption) hc) ?_; rintro ⟨x, i2, h2⟩ ⟨hx, aq⟩; (try dsimp only at hx aq); cbv)
   | (refine aB.ex hP (eO code _ _ _ (by assumption) hc) ?_; rintro ⟨x, i2, h2⟩ ⟨hx, aq⟩; (try dsimp only at hx aq); cbv)
   | (refine aB.ex hP (eN code _ _ _ (by decide) (by assumption) hc) ?_; rintro ⟨x, i2, h2⟩ ⟨hx, aq⟩; (try dsimp only at hx aq); cbv)
   | (refine Br.yes (by first | assumption | exact decide_eq_true (by assumption)) ?_; cbv)
   | (refine Br.no (by first | assumption | exact decide_eq_false (by assumption)) ?_; cbv)
   | (refine Br.dec (fun hb => ?_) (fun hb => ?_) <;> cbv)
   | (refine Br.split (fun hb => ?_) (fun hb => ?_) <;> cbv)
   | (refine Ar.exact (by omega) (by omega) ?_; cbv)
   | (refine Ix.ex (by omega) (by (try simp only [nc] at *); omega) ?_; intro y; cbv)
   | (refine Ar.any ?_; intro u; cbv)
   | (refine bu.mk ?_ (by kernel_rfl) ?_; rotate_left; cbv; rotate_right) | refine ⟨rfl, ?_⟩ | refine And.intro ?_ ?_ | exact rfl | fail
 any_goals
   apply aJ.IY
   · cbv
     (try dsimp only)
     repeat' first | exact trivial | refine ⟨rfl, ?_⟩ | fail
   · (try dsimp only)
     exact ⟨by omega, by have cu : j < (g.ae.length : Int) := (by assumption); omega, by omega, by omega, by assumption⟩
   · (try dsimp only)
     have cu : j < (g.ae.length : Int) := (by assumption); omega
 all_goals
   apply oY
   · cbv
     (try dsimp only)
     repeat' first | exact trivial | refine ⟨rfl, ?_⟩ | fail
   · exact (by assumption : cJ _)
theorem JZ (code : List UInt8) (hc : code.length ≤ aR) : bE Tryz.prog 20 [.c (.own 0)] [(0, .view .byte fun _ => code)] (jZ (ai × dL) (fun x => cJ x.1) (fun x => .bc [(true, ik fun _ => x.1), (true, zm fun _ => x.2)]) (fun _ => [(0, .vw)])) := by
 refine d_ (pk := [0]) ay Tryz.func20 rfl rfl (fr := true) (fun _ => by kernel_rfl) (fun _ => rfl) rfl rfl fun P hP hA hB => ?_;cbv;refine aB.ex hP (JF code hc) fun ⟨x, y⟩ hx => ?_;cbv;have hx : cJ x := hx
 all_goals
  apply oY
  · cbv
    (try dsimp only)
    repeat' first | exact trivial | refine ⟨rfl, ?_⟩ | fail
  · exact (by assumption : cJ _)
theorem Kl (code : List UInt8) (hc : code.length ≤ aR) : bE Tryz.prog 16 [.c (.own 0)] [(0, .view .byte fun _ => code)] (jZ (ai × Int) (fun x => cJ x.1) (fun x => .bc [(true, ik fun _ => x.1), (false, [.int .i64 fun _ => x.2])]) (fun _ => [(0, .vw)])) := by
 refine d_ (pk := [0]) ay Tryz.func16 rfl rfl (fr := true) (fun _ => by kernel_rfl) (fun _ => rfl) rfl rfl fun P hP hA hB => ?_;cbv;refine aB.ex hP (JG code hc) fun ⟨x, y⟩ hx => ?_;cbv;have hx : cJ x := hx
 all_goals
  apply oY
  · cbv
    (try dsimp only)
    repeat' first | exact trivial | refine ⟨rfl, ?_⟩ | fail
  · exact (by assumption : cJ _)
theorem z8 (code : List UInt8) (hc : code.length ≤ aR) : bE Tryz.prog 45 [.c (.own 0)] [(0, .view .byte fun _ => code)] (jZ (ai × Int) (fun x => cJ x.1) (fun x => .bc [(true, ik fun _ => x.1), (false, [.int .i64 fun _ => x.2])]) (fun _ => [(0, .vw)])) := by
 refine d_ (pk := [0]) ay Tryz.func45 rfl rfl (fr := true) (fun _ => by kernel_rfl) (fun _ => rfl) rfl rfl fun P hP hA hB => ?_;cbv;refine aB.ex hP (zR code hc) fun ⟨x, y⟩ hx => ?_;cbv;have hx : cJ x := hx
 all_goals
  apply oY
  · cbv
    (try dsimp only)
    repeat' first | exact trivial | refine ⟨rfl, ?_⟩ | fail
  · exact (by assumption : cJ _)
theorem Km (code : List UInt8) (hc : code.length ≤ aR) : bE Tryz.prog 60 [.c (.own 0)] [(0, .view .byte fun _ => code)] (jZ (ai × Int) (fun x => cJ x.1) (fun x => .bc [(true, ik fun _ => x.1), (false, [.int .i64 fun _ => x.2])]) (fun _ => [(0, .vw)])) := by
 refine d_ (pk := [0]) ay Tryz.func60 rfl rfl (fr := true) (fun _ => by kernel_rfl) (fun _ => rfl) rfl rfl fun P hP hA hB => ?_;cbv;refine aB.ex hP (zR code hc) fun ⟨x, y⟩ hx => ?_;cbv;have hx : cJ x := hx
 all_goals
  apply oY
  · cbv
    (try dsimp only)
    repeat' first | exact trivial | refine ⟨rfl, ?_⟩ | fail
  · exact (by assumption : cJ _)
end Go.Proofs.YtehpbaiclfilaaaGreat

