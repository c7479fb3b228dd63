/- Parts of a proof. No conditions. -/

import Derived.Test.YtlochjpjlhkjaaaGWd
import Derived.Test.YtlochjpjlhkjaaaGHo
import Derived.Test.YtlochjpjlhkjaaaG23
import Derived.Test.YtlochjpjlhkjaaaGKe
import Derived.Test.YtlochjpjlhkjaaaG12
set_option linter.unusedSimpArgs false
set_option linter.unusedVariables false
namespace Go.Proofs.Ytlochjpjlhkjaaa
open Go
set_option maxRecDepth 100000
theorem get_d {l : List Int} {n : Nat} (h : n < l.length) : l[n]? = some (l.getD n 0) := by rw [List.getD_eq_getElem?_getD, List.getElem?_eq_getElem h]; rfl
set_option maxHeartbeats 4000000 in
theorem l11Room_ok (h : House) (p : Party) (hl : h.parties.length ≤ 15) (hcs : h.cabins.length ≤ h.rules.seats.length) (hcn : h.cabins.length ≤ 16) : Spec Try.prog 33 [hoA h, eA .pty p] (RetX Bool (fun _ => True) fun x => bR fun _ => x) := by
  have o1 : (0 + h.parties.length) * 80 ≤ 140737488355328 := by omega
  have o2 : (h.parties.length + 1) * 80 ≤ 140737488355328 := by omega
  refine spec_of tabOk Try.func33 rfl rfl (fr := true) (fun _ => by kernel_rfl) fun P hP hA => ?_
  cbv
  repeat (refine Pz.mk ?_; cbv)
  repeat' first
    | exact trivial
    | (refine Pz.mk ?_; cbv)
    | (refine Ob.mk (o1) ?_; cbv)
    | (refine Ob.mk (o2) ?_; cbv)
    | (refine CallM.ex hP (l1Below_ok code _ _ _ (by assumption) hc) ?_; rintro ⟨x, i2, h2⟩ ⟨hx, hi2⟩; (try dsimp only at hx hi2); cbv)
    | (refine CallM.ex hP (l1Once_ok code _ _ _ (by assumption) hc) ?_; rintro ⟨x, i2, h2⟩ ⟨hx, hi2⟩; (try dsimp only at hx hi2); cbv)
    | (refine CallM.ex hP (l1PickInt_ok code _ _ _ (by decide) (by assumption) hc) ?_; rintro ⟨x, i2, h2⟩ ⟨hx, hi2⟩; (try dsimp only at hx hi2); cbv)
    | (refine Br.dec (fun hb => ?_) (fun hb => ?_) <;> cbv)
    | (refine Br.split (fun hb => ?_) (fun hb => ?_) <;> cbv)
    | (refine Ar.exact (by omega) (by omega) ?_; cbv)
    | (refine TabG.mk ?_ (by kernel_rfl) ?_; rotate_left; cbv; rotate_right) | refine ⟨rfl, ?_⟩ | refine And.intro ?_ ?_ | exact rfl | fail
  all_goals
    apply LoopE.by2 (A := List Party) (B := Int) (fun m j => [(2, pN 2), (3, pN 3), (5, oN 4), (6, iT fun _ => j)]) (fun m j => [(2, .box (hoC h)), (3, .box ((cellsT .pty fun _ => p).map .lf)), (4, ownB' .pty fun _ => m)]) (fun m j => m.length ≤ bigN ∧ 0 ≤ j ∧ j.toNat ≤ h.cabins.length) (fun m j _ => h.cabins.length - j.toNat)
    · cbv
      repeat' first | exact trivial | refine ⟨rfl, ?_⟩ | fail
    · refine ⟨?_, by omega, Nat.zero_le _⟩
      show List.length (([] ++ h.parties) ++ [p]) ≤ 1048576
      rw [List.length_append, List.length_append, List.length_singleton, List.length_nil]; omega
    rintro m j ⟨q1, q2, q3⟩
    cbv
    repeat' first
      | exact trivial
      | (refine Pz.mk ?_; cbv)
      | (refine CallA.ex hP (heldX_ok m _ q1) ?_; intro u1 hu1; cbv)
      | (refine CallA.ex hP (tiedX_ok m _ q1) ?_; intro u2 hu2; cbv)
      | (refine Ix.mk (h.rules.seats.getD j.toNat 0) q2 (get_d (by have hb : j < (h.cabins.length : Int) := hb; omega)) ?_; cbv)
      | (refine CallM.ex hP (l1Below_ok code _ _ _ (by assumption) hc) ?_; rintro ⟨x, i2, h2⟩ ⟨hx, hi2⟩; (try dsimp only at hx hi2); cbv)
      | (refine CallM.ex hP (l1Once_ok code _ _ _ (by assumption) hc) ?_; rintro ⟨x, i2, h2⟩ ⟨hx, hi2⟩; (try dsimp only at hx hi2); cbv)
      | (refine CallM.ex hP (l1PickInt_ok code _ _ _ (by decide) (by assumption) hc) ?_; rintro ⟨x, i2, h2⟩ ⟨hx, hi2⟩; (try dsimp only at hx hi2); cbv)
      | (refine Br.dec (fun hb => ?_) (fun hb => ?_) <;> cbv)
      | (refine Br.split (fun hb => ?_) (fun hb => ?_) <;> cbv)
      | (refine Ar.exact (by omega) (by omega) ?_; cbv)
      | (refine TabG.mk ?_ (by kernel_rfl) ?_; rotate_left; cbv; rotate_right) | refine ⟨rfl, ?_⟩ | refine And.intro ?_ ?_ | exact rfl | fail
    · refine ⟨false, trivial, ?_⟩
      cbv
      repeat' first | exact trivial | refine ⟨rfl, ?_⟩ | fail
    · have hb2 : j < (h.cabins.length : Int) := by assumption
      refine NextE.by (m, j + 1) ?_ ?_ ?_
      · dsimp only; omega
      · dsimp only; exact ⟨q1, by omega, by omega⟩
      · cbv
        repeat' first | exact trivial | refine ⟨rfl, ?_⟩ | fail
    · refine ⟨true, trivial, ?_⟩
      cbv
      repeat' first | exact trivial | refine ⟨rfl, ?_⟩ | fail
theorem partyPut_len (l : List Party) (p : Party) : (partyPut l p).length ≤ l.length + 1 := by
  unfold partyPut
  split
  · rw [List.length_set]; omega
  · rw [List.length_append, List.length_cons, List.length_take, List.length_drop]; omega
theorem todoPut_len (l : List Int) (k : Int) : (todoPut l k).length ≤ l.length + 1 := by
  unfold todoPut
  split
  · omega
  · rw [List.length_append, List.length_singleton]; omega
theorem partyPutX_ok (l : List Party) (p : Party) (hl : l.length ≤ bigN) : Spec Try.prog 34 [lA .pty l, eA .pty p] (RetX (List Party) (fun x => x.length ≤ l.length + 1) fun x => lR .pty fun _ => x) :=
  Spec.toX _ (partyPut_len l p) (specPartyPut_ok l p hl _ rfl)
theorem todoPutX_ok (l : List Int) (k : Int) (hl : l.length ≤ bigN) : Spec Try.prog 36 [lA .int l, iA k] (RetX (List Int) (fun x => x.length ≤ l.length + 1) fun x => lR .int fun _ => x) :=
  Spec.toX _ (todoPut_len l k) (specTodoPut_ok l k hl _ rfl)
theorem atX_ok (l : List Party) (id : Int) : Spec Try.prog 19 [lA .pty l, iA id] (RetX Int (fun _ => True) fun x => iR fun _ => x) :=
  Spec.toX _ trivial (l11At_ok l id _ rfl)
theorem countX_ok (l : List Party) (c : Int) (hl : l.length ≤ bigN) : Spec Try.prog 32 [lA .pty l, iA c] (RetX Int (fun _ => True) fun x => iR fun _ => x) :=
  Spec.toX ((zAll (cntIn c) l : Nat) : Int) trivial (specCountIn_ok l c hl)
theorem ruRight_ok {r : Rules} (h : ruRight r) : rulesOkB r = true := by
  obtain ⟨a, b, c, d, e, f, g, k, l, m⟩ := h
  have hs : r.seats.all (fun y => isIn y 1 60) = true := List.all_eq_true.2 fun y hy => by
    have := m y hy
    simp only [isIn, Bool.and_eq_true, decide_eq_true_eq]; omega
  have hn : isIn r.seats.length 1 4 = true := by
    simp only [isIn, Bool.and_eq_true, decide_eq_true_eq]; omega
  rw [rulesOkB, hn, hs]
  simp only [isIn, Bool.and_eq_true, decide_eq_true_eq, true_and]
  omega
theorem newX_ok (r : Rules) (hr : ruRight r) : Spec Try.prog 30 [ruA r] (RetX House (fun x => x = houseAt r) fun x => .tup [(true, hoS fun _ => x), (false, [.bool fun _ => true])]) := by
  have hb := ruRight_ok hr
  have hs : r.seats.length ≤ bigN := by
    have := hr.2.2.2.2.2.2.2.2.1.2
    exact Nat.le_trans this (by decide)
  exact Spec.toX _ rfl (specHouseNew_ok r hs (houseAt r) (by rw [houseNew, if_pos hb]) true hb.symm)
def zeroHo : List C := [.nil, .lf (.int .i64 fun _ => 0), .lf (.int .i64 fun _ => 0), .lf (.int .i64 fun _ => 0), .lf (.int .i64 fun _ => 0), .lf (.int .i64 fun _ => 0), .lf (.int .i64 fun _ => 0), .lf (.int .i64 fun _ => 0), .lf (.int .i64 fun _ => 0), .lf (.int .i64 fun _ => 0), .lf (.int .i64 fun _ => 0), .nil, .nil, .nil, .nil]
def ruB (k : Nat) (r : Rules) : List C := [.own k, .lf (.int .i64 fun _ => r.tiers), .lf (.int .i64 fun _ => r.room), .lf (.int .i64 fun _ => r.size), .lf (.int .i64 fun _ => r.period), .lf (.int .i64 fun _ => r.window), .lf (.int .i64 fun _ => r.rest), .lf (.int .i64 fun _ => r.tries), .lf (.int .i64 fun _ => r.crew)]
def hoB (k1 k2 k3 k4 k5 : Nat) (r : Rules) (now turn : Int) : List C := [.own k1, .lf (.int .i64 fun _ => r.tiers), .lf (.int .i64 fun _ => r.room), .lf (.int .i64 fun _ => r.size), .lf (.int .i64 fun _ => r.period), .lf (.int .i64 fun _ => r.window), .lf (.int .i64 fun _ => r.rest), .lf (.int .i64 fun _ => r.tries), .lf (.int .i64 fun _ => r.crew), .lf (.int .i64 fun _ => now), .lf (.int .i64 fun _ => turn), .own k2, .own k3, .own k4, .own k5]
structure HoRight (h : House) : Prop where
  ru : ruRight h.rules
  now : 0 ≤ h.now ∧ h.now ≤ 19
  turn : 1 ≤ h.turn ∧ h.turn ≤ 60
  pty : h.parties.length ≤ 9
  cabs : h.cabins.length = h.rules.seats.length
  cab : ∀ c ∈ h.cabins, caRight c
  todo : h.todo.length ≤ 3
  jobs : h.jobs.length ≤ 3
def cabsR (n : Nat) (l : List Cabin) : Prop := l.length = n ∧ ∀ c ∈ l, caRight c
theorem cabsR.set {n : Nat} {l : List Cabin} (h : cabsR n l) (k : Nat) {c : Cabin} (hc : caRight c) : cabsR n (l.set k c) := by
  refine ⟨by rw [List.length_set]; exact h.1, fun x hx => ?_⟩
  rcases List.mem_or_eq_of_mem_set hx with hx | rfl
  · exact h.2 x hx
  · exact hc
theorem houseAt_cabs (r : Rules) : cabsR r.seats.length (houseAt r).cabins := by
  refine ⟨List.length_map _, fun c hc => ?_⟩
  obtain ⟨n, _, rfl⟩ := List.mem_map.1 hc
  unfold cabNew
  split
  · exact ⟨Nat.zero_le _, (wheelOk_few (w := List.replicate 9 []) (by decide)).v⟩
  · exact ⟨Nat.zero_le _, Nat.zero_le _, fun x hx => by cases hx⟩
set_option maxHeartbeats 8000000 in
theorem l11Right_ok (code : List UInt8) (i h : Int) (hi : CurOk code i) (hc : code.length ≤ bigN) : SpecM Try.prog 20 [cP] (curB code i h) (RetC code HoRight fun h => hoR fun _ => h) := by
  unfold RetC
  refine specX_of (pk := [0, 1]) tabOk Try.func20 rfl rfl (fr := true) (fun _ => by kernel_rfl) (fun _ => rfl) rfl rfl fun P hP hA hB => ?_
  cbv
  repeat (refine Pz.mk ?_; cbv)
  refine CallM.ex hP (l5Right_ok code i h hi hc) fun ⟨r, i1, h1⟩ ⟨hr, hi1⟩ => ?_
  cbv
  repeat (refine Pz.mk ?_; cbv)
  have hr : ruRight r := hr
  obtain ⟨b1, b2, b3, b4, b5, b6⟩ := ruRight_b hr
  refine CallA.ex hP (newX_ok r hr) fun E hE => ?_
  cbv
  repeat (refine Pz.mk ?_; cbv)
  have hs : r.seats.length ≤ bigN := Nat.le_trans b6.2 (by decide)
  have hE : E = houseAt r := hE
  have e1 : E.rules = r := by rw [hE]; rfl
  have e2 : E.parties.length = 0 := by rw [hE]; rfl
  have e3 : cabsR r.seats.length E.cabins := by rw [hE]; exact houseAt_cabs r
  have e4 : E.todo.length = 0 := by rw [hE]; rfl
  have e5 : E.jobs.length ≤ 3 := by
    rw [hE]; show (List.replicate r.crew.toNat (-1 : Int)).length ≤ 3
    rw [List.length_replicate]; have := hr.2.2.2.2.2.2.2.1; omega
  have e6 : E.turn = 1 := by rw [hE]; rfl
  clear hE
  have hseat : ∀ x ∈ r.seats, 0 ≤ x ∧ x ≤ 100 := fun x hx => by have := hr.2.2.2.2.2.2.2.2.2 x hx; omega
  refine CallM.ex hP (l1Below_ok code i1 h1 20 hi1 hc) fun ⟨now, i2, h2⟩ ⟨hn, hi2⟩ => ?_
  cbv
  repeat (refine Pz.mk ?_; cbv)
  have hn : 0 ≤ now ∧ (now < 20 ∨ now = 0) := hn
  refine CallM.ex hP (l1Below_ok code i2 h2 9 hi2 hc) fun ⟨n, i3, h3⟩ ⟨hm, hi3⟩ => ?_
  cbv
  repeat (refine Pz.mk ?_; cbv)
  have hm : 0 ≤ n ∧ (n < 9 ∨ n = 0) := hm
  apply LoopE.by6 (A := List Party) (B := Int) (C := Int) (D := Int) (E := Int) (F := Int) (fun ps turn since j i h => [(0, pN 0), (2, pN 2), (3, pN 3), (4, pN 4), (6, iT fun _ => n), (7, iT fun _ => since), (8, iT fun _ => j)]) (fun ps turn since j i h => [(0, curBox i h), (1, codeV code), (2, .box zeroHo), (3, .box (ruB 5 r)), (4, .box (hoB 6 7 8 9 10 E.rules now turn)), (5, ownB' .int fun _ => r.seats), (6, ownB' .int fun _ => E.rules.seats), (7, ownB' .pty fun _ => ps), (8, ownB' .cab fun _ => E.cabins), (9, ownB' .int fun _ => E.todo), (10, ownB' .int fun _ => E.jobs)]) (fun ps turn since j i h => ps.length ≤ j.toNat ∧ 0 ≤ j ∧ j ≤ 9 ∧ 1 ≤ turn ∧ turn ≤ 1 + 3 * j ∧ 0 ≤ since ∧ since ≤ 4 * j ∧ CurOk code i) (fun ps turn since j i h _ => (9 - j).toNat)
  · cbv
    repeat' first | exact trivial | refine ⟨rfl, ?_⟩ | fail
  · exact ⟨by omega, by omega, by omega, by omega, by omega, by omega, by omega, hi3⟩
  rintro ps turn since j ci ch ⟨q1, q2, q3, q4, q5, q6, q7, q8⟩
  have hps : ps.length ≤ 15 := by omega
  have hps2 : ps.length ≤ bigN := Nat.le_trans hps (by decide)
  have hcs : E.cabins.length ≤ E.rules.seats.length := by rw [e3.1, e1]; exact Nat.le_refl _
  have hcn : E.cabins.length ≤ 16 := by rw [e3.1]; omega
  cbv
  repeat' first
    | exact trivial
    | (refine Pz.mk ?_; cbv)
    | (refine CallM.ex hP (l6Right_ok code _ _ (by assumption) hc r hr now (by omega)) ?_; rintro ⟨x, i2, h2⟩ ⟨hx, hi2⟩; (try dsimp only at hx hi2); cbv)
    | (refine CallA.ex hP (minX_ok _ _) ?_; intro u hu; cbv)
    | (refine CallA.ex hP (atX_ok _ _) ?_; intro u hu; cbv)
    | (refine CallA.ex hP (countX_ok _ _ hps2) ?_; intro u hu; cbv)
    | (refine CallA.ex hP (l11Room_ok ⟨E.rules, _, _, ps, E.cabins, _, _⟩ ⟨_, _, _, _, _, _, _, _, _, _⟩ hps hcs hcn) ?_; intro u hu; cbv)
    | (refine CallA.ex hP (partyPutX_ok ps ⟨_, _, _, _, _, _, _, _, _, _⟩ hps2) ?_; intro u hu; cbv)
    | (refine CallM.ex hP (l1Below_ok code _ _ _ (by assumption) hc) ?_; rintro ⟨x, i2, h2⟩ ⟨hx, hi2⟩; (try dsimp only at hx hi2); cbv)
    | (refine CallM.ex hP (l1Once_ok code _ _ _ (by assumption) hc) ?_; rintro ⟨x, i2, h2⟩ ⟨hx, hi2⟩; (try dsimp only at hx hi2); cbv)
    | (refine CallM.ex hP (l1PickInt_ok code _ _ _ (by decide) (by assumption) hc) ?_; rintro ⟨x, i2, h2⟩ ⟨hx, hi2⟩; (try dsimp only at hx hi2); cbv)
    | (refine Br.dec (fun hb => ?_) (fun hb => ?_) <;> cbv)
    | (refine Br.split (fun hb => ?_) (fun hb => ?_) <;> cbv)
    | (refine Ar.exact (by omega) (by omega) ?_; cbv)
    | (refine TabG.mk ?_ (by kernel_rfl) ?_; rotate_left; cbv; rotate_right) | refine ⟨rfl, ?_⟩ | refine And.intro ?_ ?_ | exact rfl | fail
  any_goals
    apply NextE.mk6
    · cbv
      (try dsimp only)
      repeat' first | exact trivial | refine ⟨rfl, ?_⟩ | fail
    · (try dsimp only)
      exact ⟨by omega, by omega, by omega, by omega, by omega, by omega, by omega, by assumption⟩
    · (try dsimp only)
      omega
  apply LoopE.by5 (A := List Cabin) (B := List Int) (C := Int) (D := Int) (E := Int) (fun cs td j i h => [(0, pN 0), (2, pN 2), (3, pN 3), (4, pN 4), (10, iT fun _ => j)]) (fun cs td j i h => [(0, curBox i h), (1, codeV code), (2, .box zeroHo), (3, .box (ruB 5 r)), (4, .box (hoB 6 7 8 9 10 E.rules now turn)), (5, ownB' .int fun _ => r.seats), (6, ownB' .int fun _ => E.rules.seats), (7, ownB' .pty fun _ => ps), (8, ownB' .cab fun _ => cs), (9, ownB' .int fun _ => td), (10, ownB' .int fun _ => E.jobs)]) (fun cs td j i h => cabsR r.seats.length cs ∧ td.length ≤ j.toNat ∧ 0 ≤ j ∧ j.toNat ≤ r.seats.length ∧ CurOk code i) (fun cs td j i h _ => r.seats.length - j.toNat)
  · cbv
    repeat' first | exact trivial | refine ⟨rfl, ?_⟩ | fail
  · exact ⟨e3, by omega, by omega, Nat.zero_le _, q8⟩
  rintro cs td k ci2 ch2 ⟨p1, p2, p3, p4, p5⟩
  have htd : td.length ≤ bigN := Nat.le_trans p2 (Nat.le_trans p4 hs)
  have p0 := p1.1
  have hps3 : ps.length ≤ 16 := by omega
  cbv
  repeat' first
    | exact trivial
    | (refine Pz.mk ?_; cbv)
    | (refine CallA.ex hP (l10Made_ok r ps k _ _ hs hps3 ⟨p3, by have hb3 : k < (cs.length : Int) := (by assumption); omega⟩ (by omega) hseat) ?_; intro c hcr; cbv)
    | (refine Ob.mk ⟨p3, by assumption⟩ ?_; cbv)
    | (refine Sv.sat (cabsR r.seats.length) (p1.set _ hcr) ?_; intro u hu; cbv)
    | (refine CallA.ex hP (todoPutX_ok td _ htd) ?_; intro u hu; cbv)
    | (refine CallM.ex hP (l1Below_ok code _ _ _ (by assumption) hc) ?_; rintro ⟨x, i2, h2⟩ ⟨hx, hi2⟩; (try dsimp only at hx hi2); cbv)
    | (refine CallM.ex hP (l1Once_ok code _ _ _ (by assumption) hc) ?_; rintro ⟨x, i2, h2⟩ ⟨hx, hi2⟩; (try dsimp only at hx hi2); cbv)
    | (refine CallM.ex hP (l1PickInt_ok code _ _ _ (by decide) (by assumption) hc) ?_; rintro ⟨x, i2, h2⟩ ⟨hx, hi2⟩; (try dsimp only at hx hi2); cbv)
    | (refine Br.dec (fun hb => ?_) (fun hb => ?_) <;> cbv)
    | (refine Br.split (fun hb => ?_) (fun hb => ?_) <;> cbv)
    | (refine Ar.exact (by omega) (by omega) ?_; cbv)
    | (refine TabG.mk ?_ (by kernel_rfl) ?_; rotate_left; cbv; rotate_right) | refine ⟨rfl, ?_⟩ | refine And.intro ?_ ?_ | exact rfl | fail
  any_goals
    apply NextE.mk5
    · cbv
      (try dsimp only)
      repeat' first | exact trivial | refine ⟨rfl, ?_⟩ | fail
    · (try dsimp only)
      exact ⟨by assumption, by omega, by omega, by have hb3 : k < (cs.length : Int) := (by assumption); omega, by assumption⟩
    · (try dsimp only)
      have hb3 : k < (cs.length : Int) := (by assumption); omega
  apply LoopE.by4 (A := List Int) (B := Int) (C := Int) (D := Int) (fun js j i h => [(0, pN 0), (2, pN 2), (3, pN 3), (4, pN 4), (11, iT fun _ => j)]) (fun js j i h => [(0, curBox i h), (1, codeV code), (2, .box zeroHo), (3, .box (ruB 5 r)), (4, .box (hoB 6 7 8 9 10 E.rules now turn)), (5, ownB' .int fun _ => r.seats), (6, ownB' .int fun _ => E.rules.seats), (7, ownB' .pty fun _ => ps), (8, ownB' .cab fun _ => cs), (9, ownB' .int fun _ => td), (10, ownB' .int fun _ => js)]) (fun js j i h => js.length = E.jobs.length ∧ 0 ≤ j ∧ j.toNat ≤ E.jobs.length ∧ CurOk code i) (fun js j i h _ => E.jobs.length - j.toNat)
  · cbv
    repeat' first | exact trivial | refine ⟨rfl, ?_⟩ | fail
  · exact ⟨rfl, by omega, Nat.zero_le _, p5⟩
  rintro js m ci3 ch3 ⟨s1, s2, s3, s4⟩
  cbv
  repeat' first
    | exact trivial
    | (refine Pz.mk ?_; cbv)
    | (refine Ob.mk ⟨s2, by assumption⟩ ?_; cbv)
    | (refine Sv.len ?_; intro u hu; simp only [List.length_set] at hu; cbv)
    | (refine CallM.ex hP (l1Below_ok code _ _ _ (by assumption) hc) ?_; rintro ⟨x, i2, h2⟩ ⟨hx, hi2⟩; (try dsimp only at hx hi2); cbv)
    | (refine CallM.ex hP (l1Once_ok code _ _ _ (by assumption) hc) ?_; rintro ⟨x, i2, h2⟩ ⟨hx, hi2⟩; (try dsimp only at hx hi2); cbv)
    | (refine CallM.ex hP (l1PickInt_ok code _ _ _ (by decide) (by assumption) hc) ?_; rintro ⟨x, i2, h2⟩ ⟨hx, hi2⟩; (try dsimp only at hx hi2); cbv)
    | (refine Br.dec (fun hb => ?_) (fun hb => ?_) <;> cbv)
    | (refine Br.split (fun hb => ?_) (fun hb => ?_) <;> cbv)
    | (refine Ar.exact (by omega) (by omega) ?_; cbv)
    | (refine TabG.mk ?_ (by kernel_rfl) ?_; rotate_left; cbv; rotate_right) | refine ⟨rfl, ?_⟩ | refine And.intro ?_ ?_ | exact rfl | fail
  any_goals
    apply NextE.mk4
    · cbv
      (try dsimp only)
      repeat' first | exact trivial | refine ⟨rfl, ?_⟩ | fail
    · (try dsimp only)
      exact ⟨by omega, by omega, by have hb3 : m < (js.length : Int) := (by assumption); omega, by assumption⟩
    · (try dsimp only)
      have hb3 : m < (js.length : Int) := (by assumption); omega
  have HR : HoRight ⟨E.rules, now, turn, ps, cs, td, js⟩ := ⟨by rw [e1]; exact hr, ⟨hn.1, by dsimp only; omega⟩, ⟨q4, by dsimp only; omega⟩, by dsimp only; omega, p1.1.trans (by rw [e1]), p1.2, by dsimp only; omega, by dsimp only; omega⟩
  refine ⟨(⟨E.rules, now, turn, ps, cs, td, js⟩, ci3, ch3), ⟨HR, s4⟩, ?_⟩
  cbv
  repeat' first | exact trivial | refine ⟨rfl, ?_⟩ | fail
def hoDraw (h : House) : Prop := smallHo h ∧ h.parties.length ≤ 20 ∧ h.todo.length ≤ 20 ∧ h.jobs.length ≤ 20
theorem exHo {A B : House × Int × Int → Prop} (s : List Int) (a1 a2 a3 a4 a5 a6 a7 a8 now turn : Int) (ps : List Party) (cs : List Cabin) (td js : List Int) (i h : Int) (H : B (⟨⟨s, a1, a2, a3, a4, a5, a6, a7, a8⟩, now, turn, ps, cs, td, js⟩, i, h)) (H1 : A (⟨⟨s, a1, a2, a3, a4, a5, a6, a7, a8⟩, now, turn, ps, cs, td, js⟩, i, h)) : ∃ x, A x ∧ B x := ⟨_, H1, H⟩
theorem cabsR.small {n : Nat} {l : List Cabin} (h : cabsR n l) (hn : n ≤ 16) : smallCabs l := ⟨by rw [h.1]; exact Nat.le_trans hn (by decide), fun c hc => (h.2 c hc).small⟩
theorem cabsR.take {n : Nat} {l : List Cabin} (h : cabsR n l) (hn : n ≤ 16) (k : Nat) : smallCabs ((l.take k).drop (Int.toNat 0)) := by
  refine ⟨?_, fun c hc => (h.2 c (List.mem_of_mem_take (List.mem_of_mem_drop hc))).small⟩
  rw [List.length_drop, List.length_take, h.1]
  exact Nat.le_trans (Nat.sub_le _ _) (Nat.le_trans (Nat.min_le_right _ _) (Nat.le_trans hn (by decide)))
theorem HoRight.draw {h : House} (g : HoRight h) : hoDraw h := by
  have := g.ru.2.2.2.2.2.2.2.2.1.2
  have hs : h.rules.seats.length ≤ 3 := this
  exact ⟨⟨Nat.le_trans hs (by decide), Nat.le_trans g.pty (by decide), cabsR.small (n := h.rules.seats.length) ⟨g.cabs, g.cab⟩ (by omega), Nat.le_trans g.todo (by decide), Nat.le_trans g.jobs (by decide)⟩, Nat.le_trans g.pty (by decide), Nat.le_trans g.todo (by decide), Nat.le_trans g.jobs (by decide)⟩
set_option maxHeartbeats 8000000 in
theorem l11Draw_ok (code : List UInt8) (i h : Int) (hi : CurOk code i) (hc : code.length ≤ bigN) : SpecM Try.prog 11 [cP] (curB code i h) (RetC code hoDraw fun h => hoR fun _ => h) := by
  unfold RetC
  refine specX_of (pk := [0, 1]) tabOk Try.func11 rfl rfl (fr := true) (fun _ => by kernel_rfl) (fun _ => rfl) rfl rfl fun P hP hA hB => ?_
  cbv
  repeat (refine Pz.mk ?_; cbv)
  refine CallM.ex hP (l11Right_ok code i h hi hc) fun ⟨g, i1, h1⟩ ⟨hg, hi1⟩ => ?_
  cbv
  repeat (refine Pz.mk ?_; cbv)
  have hg : HoRight g := hg
  obtain ⟨d1, d2, d3, d4, d5, d6, d7, d8⟩ := hg
  have hs : g.rules.seats.length ≤ 3 ∧ 1 ≤ g.rules.seats.length := ⟨d1.2.2.2.2.2.2.2.2.1.2, d1.2.2.2.2.2.2.2.2.1.1⟩
  have hcb : cabsR g.rules.seats.length g.cabins := ⟨d5, d6⟩
  have o1 : (g.todo.length + 1) * 8 ≤ 140737488355328 := by omega
  have o2 : (g.jobs.length + 1) * 8 ≤ 140737488355328 := by omega
  have o3 : (g.parties.length + 1) * 80 ≤ 140737488355328 := by omega
  have o4 : 0 ≤ (0 : Int) ∧ (0 : Int) < (g.cabins.length : Int) := by omega
  have o5 : -9223372036854775808 ≤ (g.cabins.length : Int) - 1 := by omega
  have o6 : (g.cabins.length : Int) - 1 ≤ 9223372036854775807 := by omega
  have o7 : 0 ≤ (0 : Int) ∧ (0 : Int) ≤ (g.cabins.length : Int) - 1 ∧ (g.cabins.length : Int) - 1 ≤ (g.cabins.length : Int) := by omega
  repeat' first
    | exact trivial
    | (refine Pz.mk ?_; cbv)
    | (refine CallM.ex hP (l6Bent_ok code _ _ (by assumption) hc g.rules d1 g.now (by omega)) ?_; rintro ⟨x, i2, h2⟩ ⟨hx, hi2⟩; (try dsimp only at hx hi2); cbv)
    | (refine CallM.ex hP (l10Draw_ok code _ _ (by assumption) hc) ?_; rintro ⟨x, i2, h2⟩ ⟨hx, hi2⟩; (try dsimp only at hx hi2); cbv)
    | (refine Ob.mk (o1) ?_; cbv)
    | (refine Ob.mk (o2) ?_; cbv)
    | (refine Ob.mk (o3) ?_; cbv)
    | (refine Ob.mk (o4) ?_; cbv)
    | (refine Ob.mk (o7) ?_; cbv)
    | (refine Ar.exact o5 o6 ?_; cbv)
    | (refine Sv.sat (cabsR g.rules.seats.length) (hcb.set _ (by assumption)) ?_; intro u hu; cbv)
    | (refine Sv.len ?_; intro u hu; simp only [List.length_set] at hu; cbv)
    | (refine Ob.mk (by (try simp only [nc] at *); omega) ?_; cbv)
    | (refine CallM.ex hP (l1Below_ok code _ _ _ (by assumption) hc) ?_; rintro ⟨x, i2, h2⟩ ⟨hx, hi2⟩; (try dsimp only at hx hi2); cbv)
    | (refine CallM.ex hP (l1Once_ok code _ _ _ (by assumption) hc) ?_; rintro ⟨x, i2, h2⟩ ⟨hx, hi2⟩; (try dsimp only at hx hi2); cbv)
    | (refine CallM.ex hP (l1PickInt_ok code _ _ _ (by decide) (by assumption) hc) ?_; rintro ⟨x, i2, h2⟩ ⟨hx, hi2⟩; (try dsimp only at hx hi2); cbv)
    | (refine Br.dec (fun hb => ?_) (fun hb => ?_) <;> cbv)
    | (refine Br.split (fun hb => ?_) (fun hb => ?_) <;> cbv)
    | (refine Ar.exact (by omega) (by omega) ?_; cbv)
    | (refine TabG.mk ?_ (by kernel_rfl) ?_; rotate_left; cbv; rotate_right) | refine ⟨rfl, ?_⟩ | refine And.intro ?_ ?_ | exact rfl | fail
  all_goals
    apply exHo
    · cbv
      (try dsimp only)
      repeat' first | exact trivial | refine ⟨rfl, ?_⟩ | fail
    · refine ⟨⟨⟨Nat.le_trans hs.1 (by decide), ?_, ?_, ?_, ?_⟩, ?_, ?_, ?_⟩, by assumption⟩ <;> first | exact hcb.small (by omega) | exact cabsR.small (by assumption : cabsR g.rules.seats.length _) (by omega) | exact hcb.take (by omega) _ | (refine Nat.le_trans ?_ (by decide : 20 ≤ bigN); (try simp only [List.length_append, List.length_singleton, List.length_set, List.length_cons, List.length_nil]); omega) | (dsimp only; (try simp only [List.length_append, List.length_singleton, List.length_set, List.length_cons, List.length_nil]); omega)
end Go.Proofs.Ytlochjpjlhkjaaa

