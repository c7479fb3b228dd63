/- Parts of a proof. No conditions. -/

import Derived.Test.YtehpbaiclfilaaaGreatG46
import Derived.Test.YtehpbaiclfilaaaGreatGHo
import Derived.Test.YtehpbaiclfilaaaGreatG23
import Derived.Test.YtehpbaiclfilaaaGreatGKe
import Derived.Test.YtehpbaiclfilaaaGreatG12
set_option linter.unusedSimpArgs false
set_option linter.unusedVariables false
namespace Go.Proofs.YtehpbaiclfilaaaGreat
open Go
set_option maxRecDepth 100000
theorem RY {l : List Int} {n : Nat} (h : n < l.length) : l[n]? = some (l.getD n 0) := by rw [List.getD_eq_getElem?_getD, List.getElem?_eq_getElem h]; rfl
set_option maxHeartbeats 4000000 in
theorem RZ (h : ai) (p : au) (hl : h.ae.length ≤ 15) (dy : h.cabins.length ≤ h.rules.ah.length) (xU : h.cabins.length ≤ 16) : Spec Tryz.prog 193 [dk h, eA .az p] (ix Bool (fun _ => True) fun x => bR fun _ => x) := by
 have o1 : (0 + h.ae.length) * 80 ≤ 140737488355328 := by omega
 have o2 : (h.ae.length + 1) * 80 ≤ 140737488355328 := by omega
 refine aH ay Tryz.func193 rfl rfl (fr := true) (fun _ => by kernel_rfl) fun P hP hA => ?_;cbv
 repeat' first
  | exact trivial
  | (refine Pz.mk ?_; cbv)
  | (refine Ob.mk (o1) ?_; cbv)
  | (refine Ob.mk (o2) ?_; cbv)
  | (refine aB.ex hP (cR code _ _ _ (by assumption) hc) ?_; rintro ⟨x, i2, h2⟩ ⟨hx, aq⟩; (try dsimp only at hx aq); cbv)
  | (refine aB.ex hP (eO code _ _ _ (by assumption) hc) ?_; rintro ⟨x, i2, h2⟩ ⟨hx, aq⟩; (try dsimp only at hx aq); cbv)
  | (refine aB.ex hP (eN code _ _ _ (by decide) (by assumption) hc) ?_; rintro ⟨x, i2, h2⟩ ⟨hx, aq⟩; (try dsimp only at hx aq); cbv)
  | (refine Br.yes (by first | assumption | exact decide_eq_true (by assumption)) ?_; cbv)
  | (refine Br.no (by first | assumption | exact decide_eq_false (by assumption)) ?_; cbv)
  | (refine Br.dec (fun hb => ?_) (fun hb => ?_) <;> cbv)
  | (refine Br.split (fun hb => ?_) (fun hb => ?_) <;> cbv)
  | (refine Ar.exact (by omega) (by omega) ?_; cbv)
  | (refine Ix.ex (by omega) (by (try simp only [nc] at *); omega) ?_; intro y; cbv)
  | (refine Ar.any ?_; intro u; cbv)
  | (refine bu.mk ?_ (by kernel_rfl) ?_; rotate_left; cbv; rotate_right) | refine ⟨rfl, ?_⟩ | refine And.intro ?_ ?_ | exact rfl | fail
 all_goals
  apply aT.nh (A := List au) (B := Int) (fun m j => [(2, pN 2), (3, pN 3), (5, oN 4), (6, iT fun _ => j)]) (fun m j => [(2, .box (iq h)), (3, .box ((bQ .az fun _ => p).map .lf)), (4, aQ .az fun _ => m)]) (fun m j => m.length ≤ aR ∧ 0 ≤ j ∧ j.toNat ≤ h.cabins.length) (fun m j _ => h.cabins.length - j.toNat)
  · cbv
    repeat' first | exact trivial | refine ⟨rfl, ?_⟩ | fail
  · refine ⟨?_, by omega, Nat.zero_le _⟩;show List.length (([] ++ h.ae) ++ [p]) ≤ 1048576;rw [List.length_append, List.length_append, List.length_singleton, List.length_nil]; omega
  rintro m j ⟨q1, q2, q3⟩
  cbv
  repeat' first
    | exact trivial
    | (refine Pz.mk ?_; cbv)
    | (refine ag.ex hP (IZ m _ q1) ?_; intro u1 oX; cbv)
    | (refine ag.ex hP (I0 m _ q1) ?_; intro u2 RP; cbv)
    | (refine Ix.mk (h.rules.ah.getD j.toNat 0) q2 (RY (by have hb : j < (h.cabins.length : Int) := hb; omega)) ?_; cbv)
    | (refine aB.ex hP (cR code _ _ _ (by assumption) hc) ?_; rintro ⟨x, i2, h2⟩ ⟨hx, aq⟩; (try dsimp only at hx aq); cbv)
    | (refine aB.ex hP (eO code _ _ _ (by assumption) hc) ?_; rintro ⟨x, i2, h2⟩ ⟨hx, aq⟩; (try dsimp only at hx aq); cbv)
    | (refine aB.ex hP (eN code _ _ _ (by decide) (by assumption) hc) ?_; rintro ⟨x, i2, h2⟩ ⟨hx, aq⟩; (try dsimp only at hx aq); cbv)
    | (refine Br.yes (by first | assumption | exact decide_eq_true (by assumption)) ?_; cbv)
    | (refine Br.no (by first | assumption | exact decide_eq_false (by assumption)) ?_; cbv)
    | (refine Br.dec (fun hb => ?_) (fun hb => ?_) <;> cbv)
    | (refine Br.split (fun hb => ?_) (fun hb => ?_) <;> cbv)
    | (refine Ar.exact (by omega) (by omega) ?_; cbv)
    | (refine Ix.ex (by omega) (by (try simp only [nc] at *); omega) ?_; intro y; cbv)
    | (refine Ar.any ?_; intro u; cbv)
    | (refine bu.mk ?_ (by kernel_rfl) ?_; rotate_left; cbv; rotate_right) | refine ⟨rfl, ?_⟩ | refine And.intro ?_ ?_ | exact rfl | fail
  · refine ⟨false, trivial, ?_⟩;cbv
    repeat' first | exact trivial | refine ⟨rfl, ?_⟩ | fail
  · have dC : j < (h.cabins.length : Int) := by assumption
    refine aJ.by (m, j + 1) ?_ ?_ ?_
    · dsimp only; omega
    · dsimp only; exact ⟨q1, by omega, by omega⟩
    · cbv
      repeat' first | exact trivial | refine ⟨rfl, ?_⟩ | fail
  · refine ⟨true, trivial, ?_⟩;cbv
    repeat' first | exact trivial | refine ⟨rfl, ?_⟩ | fail
theorem R0 (l : List au) (p : au) : (fT l p).length ≤ l.length + 1 := by
 unfold fT
 split
 · rw [List.length_set]; omega
 · rw [List.length_append, List.length_cons, List.length_take, List.length_drop]; omega
theorem Ap (l : List Int) (k : Int) : (fG l k).length ≤ l.length + 1 := by
 unfold fG
 split
 · omega
 · rw [List.length_append, List.length_singleton]; omega
theorem R1 (l : List au) (p : au) (hl : l.length ≤ aR) : Spec Tryz.prog 194 [lA .az l, eA .az p] (ix (List au) (fun x => x.length ≤ l.length + 1) fun x => lR .az fun _ => x) :=
 Spec.nn _ (R0 l p) (Rq l p hl _ rfl)
theorem R2 (l : List Int) (k : Int) (hl : l.length ≤ aR) : Spec Tryz.prog 196 [lA .int l, iA k] (ix (List Int) (fun x => x.length ≤ l.length + 1) fun x => lR .int fun _ => x) :=
 Spec.nn _ (Ap l k) (QP l k hl _ rfl)
theorem R3 (l : List au) (id : Int) : Spec Tryz.prog 114 [lA .az l, iA id] (ix Int (fun _ => True) fun x => iR fun _ => x) :=
 Spec.nn _ trivial (DK l id _ rfl)
theorem R4 (l : List au) (c : Int) (hl : l.length ≤ aR) : Spec Tryz.prog 29 [lA .az l, iA c] (ix Int (fun _ => True) fun x => iR fun _ => x) :=
 Spec.nn ((aV (bx c) l : Nat) : Int) trivial (xu l c hl)
theorem R5 {r : bp} (h : rU r) : cw r = true := by
 obtain ⟨a, b, c, d, e, f, g, k, l, m⟩ := h
 have hs : r.ah.all (fun y => aj y 1 60) = true := List.all_eq_true.2 fun y hy => by
  have := m y hy;simp only [aj, Bool.and_eq_true, decide_eq_true_eq]; omega
 have hn : aj r.ah.length 1 4 = true := by
  simp only [aj, Bool.and_eq_true, decide_eq_true_eq]; omega
 rw [cw, hn, hs];simp only [aj, Bool.and_eq_true, decide_eq_true_eq, true_and];omega
theorem R6 (r : bp) (hr : rU r) : Spec Tryz.prog 190 [gu r] (ix ai (fun x => x = vI r) fun x => .bc [(true, ik fun _ => x), (false, [.bool fun _ => true])]) := by
 have hb := R5 hr
 have hs : r.ah.length ≤ aR := by
  have := hr.2.2.2.2.2.2.2.2.1.2;exact Nat.le_trans this (by decide)
 exact Spec.nn _ rfl (RX r hs (vI r) (by rw [Kh, if_pos hb]) true hb.symm)
def Aq : List C := [.nil, .lf (.int .i64 fun _ => 0), .lf (.int .i64 fun _ => 0), .lf (.int .i64 fun _ => 0), .lf (.int .i64 fun _ => 0), .lf (.int .i64 fun _ => 0), .lf (.int .i64 fun _ => 0), .lf (.int .i64 fun _ => 0), .lf (.int .i64 fun _ => 0), .lf (.int .i64 fun _ => 0), .lf (.int .i64 fun _ => 0), .nil, .nil, .nil, .nil]
def Es (k : Nat) (r : bp) : List C := [.own k, .lf (.int .i64 fun _ => r.cm), .lf (.int .i64 fun _ => r.room), .lf (.int .i64 fun _ => r.size), .lf (.int .i64 fun _ => r.period), .lf (.int .i64 fun _ => r.ck), .lf (.int .i64 fun _ => r.rest), .lf (.int .i64 fun _ => r.tries), .lf (.int .i64 fun _ => r.bP)]
def Et (k1 k2 k3 k4 k5 : Nat) (r : bp) (now aw : Int) : List C := [.own k1, .lf (.int .i64 fun _ => r.cm), .lf (.int .i64 fun _ => r.room), .lf (.int .i64 fun _ => r.size), .lf (.int .i64 fun _ => r.period), .lf (.int .i64 fun _ => r.ck), .lf (.int .i64 fun _ => r.rest), .lf (.int .i64 fun _ => r.tries), .lf (.int .i64 fun _ => r.bP), .lf (.int .i64 fun _ => now), .lf (.int .i64 fun _ => aw), .own k2, .own k3, .own k4, .own k5]
structure vJ (h : ai) : Prop where
 ru : rU h.rules
 now : 0 ≤ h.now ∧ h.now ≤ 19
 aw : 1 ≤ h.aw ∧ h.aw ≤ 60
 az : h.ae.length ≤ 9
 fy : h.cabins.length = h.rules.ah.length
 cf : ∀ c ∈ h.cabins, qq c
 todo : h.todo.length ≤ 3
 aN : h.aN.length ≤ 3
def kd (n : Nat) (l : List a_) : Prop := l.length = n ∧ ∀ c ∈ l, qq c
theorem kd.set {n : Nat} {l : List a_} (h : kd n l) (k : Nat) {c : a_} (hc : qq c) : kd n (l.set k c) := by
 refine ⟨by rw [List.length_set]; exact h.1, fun x hx => ?_⟩;rcases List.mem_or_eq_of_mem_set hx with hx | rfl
 · exact h.2 x hx
 · exact hc
theorem R7 (r : bp) : kd r.ah.length (vI r).cabins := by
 refine ⟨List.length_map _, fun c hc => ?_⟩;obtain ⟨n, _, rfl⟩ := List.mem_map.1 hc;unfold oK
 split
 · exact ⟨Nat.zero_le _, (Ao (w := List.replicate 9 []) (by decide)).v⟩
 · exact ⟨Nat.zero_le _, Nat.zero_le _, fun x hx => by cases hx⟩
set_option maxHeartbeats 8000000 in
theorem Ki (code : List UInt8) (i h : Int) (hi : dI code i) (hc : code.length ≤ aR) : bE Tryz.prog 135 [cP] (gQ code i h) (db code vJ fun h => rR fun _ => h) := by
 unfold db;refine d_ (pk := [0, 1]) ay Tryz.func135 rfl rfl (fr := true) (fun _ => by kernel_rfl) (fun _ => rfl) rfl rfl fun P hP hA hB => ?_;cbv;refine aB.ex hP (Pl code i h hi hc) fun ⟨r, i1, h1⟩ ⟨hr, jX⟩ => ?_;cbv;have hr : rU r := hr;obtain ⟨b1, b2, b3, b4, b5, b6⟩ := DG hr;refine ag.ex hP (R6 r hr) fun E hE => ?_;cbv;have hs : r.ah.length ≤ aR := Nat.le_trans b6.2 (by decide);have hE : E = vI r := hE;have e1 : E.rules = r := by rw [hE]; rfl
 have e2 : E.ae.length = 0 := by rw [hE]; rfl
 have e3 : kd r.ah.length E.cabins := by rw [hE]; exact R7 r
 have e4 : E.todo.length = 0 := by rw [hE]; rfl
 have e5 : E.aN.length ≤ 3 := by
   rw [hE]; show (List.replicate r.bP.toNat (-1 : Int)).length ≤ 3;rw [List.length_replicate]; have := hr.2.2.2.2.2.2.2.1; omega
 have e6 : E.aw = 1 := by rw [hE]; rfl
 clear hE;have R8 : ∀ x ∈ r.ah, 0 ≤ x ∧ x ≤ 100 := fun x hx => by have := hr.2.2.2.2.2.2.2.2.2 x hx; omega
 refine aB.ex hP (cR code i1 h1 20 jX hc) fun ⟨now, i2, h2⟩ ⟨hn, aq⟩ => ?_;cbv;have hn : 0 ≤ now ∧ (now < 20 ∨ now = 0) := hn;refine aB.ex hP (cR code i2 h2 9 aq hc) fun ⟨n, i3, h3⟩ ⟨hm, nj⟩ => ?_;cbv;have hm : 0 ≤ n ∧ (n < 9 ∨ n = 0) := hm;apply aT.Ij (A := List au) (B := Int) (C := Int) (D := Int) (E := Int) (F := Int) (fun ps aw since j i h => [(0, pN 0), (2, pN 2), (3, pN 3), (4, pN 4), (6, iT fun _ => n), (7, iT fun _ => since), (8, iT fun _ => j)]) (fun ps aw since j i h => [(0, tJ i h), (1, tK code), (2, .box Aq), (3, .box (Es 5 r)), (4, .box (Et 6 7 8 9 10 E.rules now aw)), (5, aQ .int fun _ => r.ah), (6, aQ .int fun _ => E.rules.ah), (7, aQ .az fun _ => ps), (8, aQ .cf fun _ => E.cabins), (9, aQ .int fun _ => E.todo), (10, aQ .int fun _ => E.aN)]) (fun ps aw since j i h => ps.length ≤ j.toNat ∧ 0 ≤ j ∧ j ≤ 9 ∧ 1 ≤ aw ∧ aw ≤ 1 + 3 * j ∧ 0 ≤ since ∧ since ≤ 4 * j ∧ dI code i) (fun ps aw since j i h _ => (9 - j).toNat)
 · cbv
   repeat' first | exact trivial | refine ⟨rfl, ?_⟩ | fail
 · exact ⟨by omega, by omega, by omega, by omega, by omega, by omega, by omega, nj⟩
 rintro ps aw since j ci ch ⟨q1, q2, q3, q4, q5, q6, q7, q8⟩
 have rJ : ps.length ≤ 15 := by omega
 have Kj : ps.length ≤ aR := Nat.le_trans rJ (by decide);have dy : E.cabins.length ≤ E.rules.ah.length := by rw [e3.1, e1]; exact Nat.le_refl _
 have xU : E.cabins.length ≤ 16 := by rw [e3.1]; omega
 cbv
 repeat' first
   | exact trivial
   | (refine Pz.mk ?_; cbv)
   | (refine aB.ex hP (IX code _ _ (by assumption) hc r hr now (by omega)) ?_; rintro ⟨x, i2, h2⟩ ⟨hx, aq⟩; (try dsimp only at hx aq); cbv)
   | (refine ag.ex hP (PK _ _) ?_; intro u hu; cbv)
   | (refine ag.ex hP (R3 _ _) ?_; intro u hu; cbv)
   | (refine ag.ex hP (R4 _ _ Kj) ?_; intro u hu; cbv)
   | (refine ag.ex hP (RZ ⟨E.rules, _, _, ps, E.cabins, _, _⟩ ⟨_, _, _, _, _, _, _, _, _, _⟩ rJ dy xU) ?_; intro u hu; cbv)
   | (refine ag.ex hP (R1 ps ⟨_, _, _, _, _, _, _, _, _, _⟩ Kj) ?_; intro u hu; cbv)
   | (refine aB.ex hP (cR code _ _ _ (by assumption) hc) ?_; rintro ⟨x, i2, h2⟩ ⟨hx, aq⟩; (try dsimp only at hx aq); cbv)
   | (refine aB.ex hP (eO code _ _ _ (by assumption) hc) ?_; rintro ⟨x, i2, h2⟩ ⟨hx, aq⟩; (try dsimp only at hx aq); cbv)
   | (refine aB.ex hP (eN code _ _ _ (by decide) (by assumption) hc) ?_; rintro ⟨x, i2, h2⟩ ⟨hx, aq⟩; (try dsimp only at hx aq); cbv)
   | (refine Br.yes (by first | assumption | exact decide_eq_true (by assumption)) ?_; cbv)
   | (refine Br.no (by first | assumption | exact decide_eq_false (by assumption)) ?_; cbv)
   | (refine Br.dec (fun hb => ?_) (fun hb => ?_) <;> cbv)
   | (refine Br.split (fun hb => ?_) (fun hb => ?_) <;> cbv)
   | (refine Ar.exact (by omega) (by omega) ?_; cbv)
   | (refine Ix.ex (by omega) (by (try simp only [nc] at *); omega) ?_; intro y; cbv)
   | (refine Ar.any ?_; intro u; cbv)
   | (refine bu.mk ?_ (by kernel_rfl) ?_; rotate_left; cbv; rotate_right) | refine ⟨rfl, ?_⟩ | refine And.intro ?_ ?_ | exact rfl | fail
 any_goals
   apply aJ.PJ
   · cbv
     (try dsimp only)
     repeat' first | exact trivial | refine ⟨rfl, ?_⟩ | fail
   · (try dsimp only)
     exact ⟨by omega, by omega, by omega, by omega, by omega, by omega, by omega, by assumption⟩
   · (try dsimp only)
     omega
 apply aT.zF (A := List a_) (B := List Int) (C := Int) (D := Int) (E := Int) (fun cs td j i h => [(0, pN 0), (2, pN 2), (3, pN 3), (4, pN 4), (10, iT fun _ => j)]) (fun cs td j i h => [(0, tJ i h), (1, tK code), (2, .box Aq), (3, .box (Es 5 r)), (4, .box (Et 6 7 8 9 10 E.rules now aw)), (5, aQ .int fun _ => r.ah), (6, aQ .int fun _ => E.rules.ah), (7, aQ .az fun _ => ps), (8, aQ .cf fun _ => cs), (9, aQ .int fun _ => td), (10, aQ .int fun _ => E.aN)]) (fun cs td j i h => kd r.ah.length cs ∧ td.length ≤ j.toNat ∧ 0 ≤ j ∧ j.toNat ≤ r.ah.length ∧ dI code i) (fun cs td j i h _ => r.ah.length - j.toNat)
 · cbv
   repeat' first | exact trivial | refine ⟨rfl, ?_⟩ | fail
 · exact ⟨e3, by omega, by omega, Nat.zero_le _, q8⟩
 rintro cs td k Vz VA ⟨p1, p2, p3, p4, p5⟩
 have qt : td.length ≤ aR := Nat.le_trans p2 (Nat.le_trans p4 hs);have p0 := p1.1;have R9 : ps.length ≤ 16 := by omega
 cbv
 repeat' first
   | exact trivial
   | (refine Pz.mk ?_; cbv)
   | (refine ag.ex hP (RO r ps k _ _ hs R9 ⟨p3, by have cu : k < (cs.length : Int) := (by assumption); omega⟩ (by omega) R8) ?_; intro c R_; cbv)
   | (refine Ob.mk ⟨p3, by assumption⟩ ?_; cbv)
   | (refine Sv.sat (kd r.ah.length) (p1.set _ R_) ?_; intro u hu; cbv)
   | (refine ag.ex hP (R2 td _ qt) ?_; intro u hu; cbv)
   | (refine aB.ex hP (cR code _ _ _ (by assumption) hc) ?_; rintro ⟨x, i2, h2⟩ ⟨hx, aq⟩; (try dsimp only at hx aq); cbv)
   | (refine aB.ex hP (eO code _ _ _ (by assumption) hc) ?_; rintro ⟨x, i2, h2⟩ ⟨hx, aq⟩; (try dsimp only at hx aq); cbv)
   | (refine aB.ex hP (eN code _ _ _ (by decide) (by assumption) hc) ?_; rintro ⟨x, i2, h2⟩ ⟨hx, aq⟩; (try dsimp only at hx aq); cbv)
   | (refine Br.yes (by first | assumption | exact decide_eq_true (by assumption)) ?_; cbv)
   | (refine Br.no (by first | assumption | exact decide_eq_false (by assumption)) ?_; cbv)
   | (refine Br.dec (fun hb => ?_) (fun hb => ?_) <;> cbv)
   | (refine Br.split (fun hb => ?_) (fun hb => ?_) <;> cbv)
   | (refine Ar.exact (by omega) (by omega) ?_; cbv)
   | (refine Ix.ex (by omega) (by (try simp only [nc] at *); omega) ?_; intro y; cbv)
   | (refine Ar.any ?_; intro u; cbv)
   | (refine bu.mk ?_ (by kernel_rfl) ?_; rotate_left; cbv; rotate_right) | refine ⟨rfl, ?_⟩ | refine And.intro ?_ ?_ | exact rfl | fail
 any_goals
   apply aJ.IY
   · cbv
     (try dsimp only)
     repeat' first | exact trivial | refine ⟨rfl, ?_⟩ | fail
   · (try dsimp only)
     exact ⟨by assumption, by omega, by omega, by have cu : k < (cs.length : Int) := (by assumption); omega, by assumption⟩
   · (try dsimp only)
     have cu : k < (cs.length : Int) := (by assumption); omega
 apply aT.Df (A := List Int) (B := Int) (C := Int) (D := Int) (fun js j i h => [(0, pN 0), (2, pN 2), (3, pN 3), (4, pN 4), (11, iT fun _ => j)]) (fun js j i h => [(0, tJ i h), (1, tK code), (2, .box Aq), (3, .box (Es 5 r)), (4, .box (Et 6 7 8 9 10 E.rules now aw)), (5, aQ .int fun _ => r.ah), (6, aQ .int fun _ => E.rules.ah), (7, aQ .az fun _ => ps), (8, aQ .cf fun _ => cs), (9, aQ .int fun _ => td), (10, aQ .int fun _ => js)]) (fun js j i h => js.length = E.aN.length ∧ 0 ≤ j ∧ j.toNat ≤ E.aN.length ∧ dI code i) (fun js j i h _ => E.aN.length - j.toNat)
 · cbv
   repeat' first | exact trivial | refine ⟨rfl, ?_⟩ | fail
 · exact ⟨rfl, by omega, Nat.zero_le _, p5⟩
 rintro js m Sa Sb ⟨s1, s2, s3, s4⟩
 cbv
 repeat' first
   | exact trivial
   | (refine Pz.mk ?_; cbv)
   | (refine Ob.mk ⟨s2, by assumption⟩ ?_; cbv)
   | (refine Sv.len ?_; intro u hu; simp only [List.length_set] at hu; cbv)
   | (refine aB.ex hP (cR code _ _ _ (by assumption) hc) ?_; rintro ⟨x, i2, h2⟩ ⟨hx, aq⟩; (try dsimp only at hx aq); cbv)
   | (refine aB.ex hP (eO code _ _ _ (by assumption) hc) ?_; rintro ⟨x, i2, h2⟩ ⟨hx, aq⟩; (try dsimp only at hx aq); cbv)
   | (refine aB.ex hP (eN code _ _ _ (by decide) (by assumption) hc) ?_; rintro ⟨x, i2, h2⟩ ⟨hx, aq⟩; (try dsimp only at hx aq); cbv)
   | (refine Br.yes (by first | assumption | exact decide_eq_true (by assumption)) ?_; cbv)
   | (refine Br.no (by first | assumption | exact decide_eq_false (by assumption)) ?_; cbv)
   | (refine Br.dec (fun hb => ?_) (fun hb => ?_) <;> cbv)
   | (refine Br.split (fun hb => ?_) (fun hb => ?_) <;> cbv)
   | (refine Ar.exact (by omega) (by omega) ?_; cbv)
   | (refine Ix.ex (by omega) (by (try simp only [nc] at *); omega) ?_; intro y; cbv)
   | (refine Ar.any ?_; intro u; cbv)
   | (refine bu.mk ?_ (by kernel_rfl) ?_; rotate_left; cbv; rotate_right) | refine ⟨rfl, ?_⟩ | refine And.intro ?_ ?_ | exact rfl | fail
 any_goals
   apply aJ.PI
   · cbv
     (try dsimp only)
     repeat' first | exact trivial | refine ⟨rfl, ?_⟩ | fail
   · (try dsimp only)
     exact ⟨by omega, by omega, by have cu : m < (js.length : Int) := (by assumption); omega, by assumption⟩
   · (try dsimp only)
     have cu : m < (js.length : Int) := (by assumption); omega
 have HR : vJ ⟨E.rules, now, aw, ps, cs, td, js⟩ := ⟨by rw [e1]; exact hr, ⟨hn.1, by dsimp only; omega⟩, ⟨q4, by dsimp only; omega⟩, by dsimp only; omega, p1.1.trans (by rw [e1]), p1.2, by dsimp only; omega, by dsimp only; omega⟩;refine ⟨(⟨E.rules, now, aw, ps, cs, td, js⟩, Sa, Sb), ⟨HR, s4⟩, ?_⟩;cbv
 repeat' first | exact trivial | refine ⟨rfl, ?_⟩ | fail
def cJ (h : ai) : Prop := bh h ∧ h.ae.length ≤ 20 ∧ h.todo.length ≤ 20 ∧ h.aN.length ≤ 20 ∧ h.rules.ah.length ≤ 3 ∧ h.rules.size ≤ 6 ∧ h.rules.cm ≤ 5 ∧ h.rules.bP ≤ 3
theorem Kk {A B : ai × Int × Int → Prop} (s : List Int) (a1 a2 a3 a4 a5 a6 a7 a8 now aw : Int) (ps : List au) (cs : List a_) (td js : List Int) (i h : Int) (H : B (⟨⟨s, a1, a2, a3, a4, a5, a6, a7, a8⟩, now, aw, ps, cs, td, js⟩, i, h)) (H1 : A (⟨⟨s, a1, a2, a3, a4, a5, a6, a7, a8⟩, now, aw, ps, cs, td, js⟩, i, h)) : ∃ x, A x ∧ B x := ⟨_, H1, H⟩
theorem kd.small {n : Nat} {l : List a_} (h : kd n l) (hn : n ≤ 16) : tG l := ⟨by rw [h.1]; exact Nat.le_trans hn (by decide), fun c hc => (h.2 c hc).small⟩
theorem kd.take {n : Nat} {l : List a_} (h : kd n l) (hn : n ≤ 16) (k : Nat) : tG ((l.take k).drop (Int.toNat 0)) := by
 refine ⟨?_, fun c hc => (h.2 c (List.mem_of_mem_take (List.mem_of_mem_drop hc))).small⟩;rw [List.length_drop, List.length_take, h.1];exact Nat.le_trans (Nat.sub_le _ _) (Nat.le_trans (Nat.min_le_right _ _) (Nat.le_trans hn (by decide)))
theorem vJ.draw {h : ai} (g : vJ h) : cJ h := by
 have := g.ru.2.2.2.2.2.2.2.2.1.2;have hs : h.rules.ah.length ≤ 3 := this;exact ⟨⟨Nat.le_trans hs (by decide), Nat.le_trans g.az (by decide), kd.small (n := h.rules.ah.length) ⟨g.fy, g.cf⟩ (by omega), Nat.le_trans g.todo (by decide), Nat.le_trans g.aN (by decide)⟩, Nat.le_trans g.az (by decide), Nat.le_trans g.todo (by decide), Nat.le_trans g.aN (by decide), hs, g.ru.2.2.1.2, g.ru.1.2, g.ru.2.2.2.2.2.2.2.1.2⟩
set_option maxHeartbeats 8000000 in
theorem sw (code : List UInt8) (i h : Int) (hi : dI code i) (hc : code.length ≤ aR) : bE Tryz.prog 79 [cP] (gQ code i h) (db code cJ fun h => rR fun _ => h) := by
 unfold db;refine d_ (pk := [0, 1]) ay Tryz.func79 rfl rfl (fr := true) (fun _ => by kernel_rfl) (fun _ => rfl) rfl rfl fun P hP hA hB => ?_;cbv;refine aB.ex hP (Ki code i h hi hc) fun ⟨g, i1, h1⟩ ⟨hg, jX⟩ => ?_;cbv;have hg : vJ g := hg;obtain ⟨d1, d2, d3, d4, d5, d6, d7, d8⟩ := hg;have hs : g.rules.ah.length ≤ 3 ∧ 1 ≤ g.rules.ah.length := ⟨d1.2.2.2.2.2.2.2.2.1.2, d1.2.2.2.2.2.2.2.2.1.1⟩;have gN : kd g.rules.ah.length g.cabins := ⟨d5, d6⟩;have o1 : (g.todo.length + 1) * 8 ≤ 140737488355328 := by omega
 have o2 : (g.aN.length + 1) * 8 ≤ 140737488355328 := by omega
 have o3 : (g.ae.length + 1) * 80 ≤ 140737488355328 := by omega
 have o4 : 0 ≤ (0 : Int) ∧ (0 : Int) < (g.cabins.length : Int) := by omega
 have o5 : -9223372036854775808 ≤ (g.cabins.length : Int) - 1 := by omega
 have o6 : (g.cabins.length : Int) - 1 ≤ 9223372036854775807 := by omega
 have o7 : 0 ≤ (0 : Int) ∧ (0 : Int) ≤ (g.cabins.length : Int) - 1 ∧ (g.cabins.length : Int) - 1 ≤ (g.cabins.length : Int) := by omega
 repeat' first
  | exact trivial
  | (refine Pz.mk ?_; cbv)
  | (refine aB.ex hP (PH code _ _ (by assumption) hc g.rules d1 g.now (by omega)) ?_; rintro ⟨x, i2, h2⟩ ⟨hx, aq⟩; (try dsimp only at hx aq); cbv)
  | (refine aB.ex hP (RK code _ _ (by assumption) hc) ?_; rintro ⟨x, i2, h2⟩ ⟨hx, aq⟩; (try dsimp only at hx aq); cbv)
  | (refine Ob.mk (o1) ?_; cbv)
  | (refine Ob.mk (o2) ?_; cbv)
  | (refine Ob.mk (o3) ?_; cbv)
  | (refine Ob.mk (o4) ?_; cbv)
  | (refine Ob.mk (o7) ?_; cbv)
  | (refine Ar.exact o5 o6 ?_; cbv)
  | (refine Sv.sat (kd g.rules.ah.length) (gN.set _ (by assumption)) ?_; intro u hu; cbv)
  | (refine Sv.len ?_; intro u hu; simp only [List.length_set] at hu; cbv)
  | (refine Ob.mk (by (try simp only [nc] at *); omega) ?_; cbv)
  | (refine aB.ex hP (cR code _ _ _ (by assumption) hc) ?_; rintro ⟨x, i2, h2⟩ ⟨hx, aq⟩; (try dsimp only at hx aq); cbv)
  | (refine aB.ex hP (eO code _ _ _ (by assumption) hc) ?_; rintro ⟨x, i2, h2⟩ ⟨hx, aq⟩; (try dsimp only at hx aq); cbv)
  | (refine aB.ex hP (eN code _ _ _ (by decide) (by assumption) hc) ?_; rintro ⟨x, i2, h2⟩ ⟨hx, aq⟩; (try dsimp only at hx aq); cbv)
  | (refine Br.yes (by first | assumption | exact decide_eq_true (by assumption)) ?_; cbv)
  | (refine Br.no (by first | assumption | exact decide_eq_false (by assumption)) ?_; cbv)
  | (refine Br.dec (fun hb => ?_) (fun hb => ?_) <;> cbv)
  | (refine Br.split (fun hb => ?_) (fun hb => ?_) <;> cbv)
  | (refine Ar.exact (by omega) (by omega) ?_; cbv)
  | (refine Ix.ex (by omega) (by (try simp only [nc] at *); omega) ?_; intro y; cbv)
  | (refine Ar.any ?_; intro u; cbv)
  | (refine bu.mk ?_ (by kernel_rfl) ?_; rotate_left; cbv; rotate_right) | refine ⟨rfl, ?_⟩ | refine And.intro ?_ ?_ | exact rfl | fail
 all_goals
  apply Kk
  · cbv
    (try dsimp only)
    repeat' first | exact trivial | refine ⟨rfl, ?_⟩ | fail
  · refine ⟨⟨⟨Nat.le_trans hs.1 (by decide), ?_, ?_, ?_, ?_⟩, ?_, ?_, ?_, hs.1, d1.2.2.1.2, d1.1.2, d1.2.2.2.2.2.2.2.1.2⟩, by assumption⟩ <;> first | exact gN.small (by omega) | exact kd.small (by assumption : kd g.rules.ah.length _) (by omega) | exact gN.take (by omega) _ | (refine Nat.le_trans ?_ (by decide : 20 ≤ aR); (try simp only [List.length_append, List.length_singleton, List.length_set, List.length_cons, List.length_nil]); omega) | (dsimp only; (try simp only [List.length_append, List.length_singleton, List.length_set, List.length_cons, List.length_nil]); omega)
end Go.Proofs.YtehpbaiclfilaaaGreat

