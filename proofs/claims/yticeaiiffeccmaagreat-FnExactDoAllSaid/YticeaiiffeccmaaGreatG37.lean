/- Parts of a proof. No conditions. -/

import Derived.Test.YticeaiiffeccmaaGreatG32
import Derived.Test.YticeaiiffeccmaaGreatG35
set_option linter.unusedSimpArgs false
set_option linter.unusedVariables false
namespace Go.Proofs.YticeaiiffeccmaaGreat
open Go
set_option maxRecDepth 100000
def gl (cD : Int) : bF := ⟨7, cD, 0, 0, 0, 0⟩
def iH (h : an) (cD : Int) : Int := (h.aF[cD.toNat]?).getD 0
def IT (h : an) (cD : Int) : an := { h with aF := h.aF.set cD.toNat ((h.todo[0]?).getD 0), todo := h.todo.drop 1 }
def IU (h : an) (cD : Int) : an := { (cK h (iH h cD)).1 with aF := (cK h (iH h cD)).1.aF.set cD.toNat (-1) }
def ua (h : an) (cD : Int) : an := if iH h cD = -1 then IT h cD else IU h cD
def iu (h : an) (cD : Int) : an := if aY h (gl cD) = 0 then ua h cD else h
def iv (h : an) (cD : Int) : List Int := if aY h (gl cD) = 0 then (if iH h cD = -1 then [] else (cK h (iH h cD)).2) else []
theorem IV (k : Int) : ∀ (n : Nat) {E : an} {ids : List Int}, (mj n k E ids).1.aF = E.aF ∧ (mj n k E ids).1.todo = E.todo ∧ (mj n k E ids).1.cabins.length = E.cabins.length ∧ (mj n k E ids).1.rules = E.rules ∧ (mj n k E ids).1.now = E.now
 | 0, _, _ => ⟨rfl, rfl, rfl, rfl, rfl⟩
 | n + 1, E, ids => by
   unfold mj
   split
   · exact ⟨rfl, rfl, rfl, rfl, rfl⟩
   · rename_i hv;obtain ⟨_, _, a, b, c, d, e, _⟩ := qI hv;obtain ⟨q1, q2, q3, q4, q5⟩ := IV k n (E := dH E k) (ids := ids ++ [cM E k]);exact ⟨q1.trans e, q2.trans d, q3.trans c, q4.trans a, q5.trans b⟩
theorem QH {h : an} (hg : HG h) (k : Int) : (cZ h k).aF = h.aF ∧ (cZ h k).todo = h.todo ∧ (cZ h k).cabins.length = h.cabins.length ∧ (cZ h k).rules = h.rules ∧ (cZ h k).now = h.now := by
 cases hv : cL h k with
 | false => rw [cZ, wh hv]; exact ⟨rfl, rfl, rfl, rfl, rfl⟩
 | true =>
   obtain ⟨_, n, c, hk, rfl⟩ := rW hv;have I := CA hg (bK hk);exact ⟨I.aF, I.todo, I.len, I.rules, I.now⟩
theorem QI {h : an} (hg : HG h) (k : Int) : (cK h k).1.aF = h.aF ∧ (cK h k).1.todo = h.todo ∧ (cK h k).1.cabins.length = h.cabins.length ∧ (cK h k).1.rules = h.rules ∧ (cK h k).1.now = h.now := by
 obtain ⟨a, b, c, d, e⟩ := QH hg k;obtain ⟨q1, q2, q3, q4, q5⟩ := IV k (ek (cZ h k) k + 1) (E := cZ h k) (ids := []);exact ⟨q1.trans a, q2.trans b, q3.trans c, q4.trans d, q5.trans e⟩
theorem IW {h : an} {cD : Int} (hv : aY h (gl cD) = 0) : HG h ∧ ∃ w : Nat, cD = (w : Int) ∧ ∃ hw : w < h.aF.length, iH h cD = h.aF[w] ∧ (h.aF[w] = -1 → ∃ t ts, h.todo = t :: ts) ∧ (h.aF[w] ≠ -1 → ∃ n : Nat, h.aF[w] = (n : Int) ∧ n < h.cabins.length) := by
 obtain ⟨h0, h1, h2⟩ := ph hv;have hg := gP.1 h0;have pr := B9 h2 rfl;rw [Cf h0 h2 rfl, B7] at hv;have h3 : ¬ (gl cD).id ≥ h.rules.cC := fun q => by rw [if_pos q] at hv; cases hv
 rw [if_neg h3] at hv;have h4 : ¬ (((h.aF[(gl cD).id.toNat]?).getD 0) = -1 ∧ h.todo = []) := fun q => by rw [if_pos q] at hv; cases hv
 have e : (gl cD).id = cD := rfl;rw [e] at h3 h4 pr;have hc := hg.cC;obtain ⟨w, rfl⟩ : ∃ w : Nat, cD = (w : Int) := ⟨cD.toNat, by omega⟩;have hw : w < h.aF.length := by omega
 have ej : iH h (w : Int) = h.aF[w] := by rw [iH, Int.toNat_natCast, List.getElem?_eq_getElem hw]; rfl
 rw [Int.toNat_natCast, List.getElem?_eq_getElem hw] at h4;refine ⟨hg, w, rfl, hw, ej, fun q => ?_, fun q => ?_⟩
 · cases ht : h.todo with
   | nil => exact (h4 ⟨q, ht⟩).elim
   | cons t ts => exact ⟨t, ts, rfl⟩
 · have := bO (hg.aF.aF _ (List.getElem_mem hw));exact ⟨h.aF[w].toNat, by omega, by omega⟩
theorem CL {h : an} (hs : bh h) (cD : Int) : bh (iu h cD) := by
 unfold iu; split
 · unfold ua; split
   · exact ⟨hs.1, hs.2.1, hs.2.2.1, by show (h.todo.drop 1).length ≤ _; rw [List.length_drop]; have := hs.2.2.2.1; omega, by show (h.aF.set _ _).length ≤ _; rw [List.length_set]; exact hs.2.2.2.2⟩
   · have h1 := (wo hs (iH h cD)).1;exact ⟨h1.1, h1.2.1, h1.2.2.1, h1.2.2.2.1, by show ((cK h (iH h cD)).1.aF.set _ _).length ≤ _; rw [List.length_set]; exact h1.2.2.2.2⟩
 · exact hs
theorem IX {h : an} (hs : bh h) (cD : Int) : (iv h cD).length ≤ 11 := by
 unfold iv; split
 · split
   · exact Nat.zero_le _
   · exact (wo hs _).2
 · exact Nat.zero_le _
theorem QJ {h : an} (hs : bh h) (k n : Int) : bh (pj h k n) := by
 unfold pj; split
 · rename_i hv;have hg := gP.1 (ph hv).1;exact wk (qJ hs (k := k) (c := { aA h k with aj := bW (aA h k).aj n 1 0 (-1) 0 }) (lx hs k)) (wm (pa hg) (by decide) _)
 · exact hs
theorem QK {h : an} (hs : bh h) (hg : HG h) : jy (fJ h h.cabins.length) := by
 refine ⟨by rw [pq]; exact hs.2.2.1.1, fun c hc => ?_⟩;obtain ⟨j, hj⟩ := List.mem_iff_getElem?.1 hc;simp only [fJ, List.getElem?_mapIdx] at hj;cases q : h.cabins[j]? with
 | none => rw [q] at hj; cases hj
 | some d =>
   rw [q] at hj;have hl := bK q;have hd := hs.2.2.1.2 d (List.mem_of_getElem? q);simp only [Option.map_some, if_pos hl, Option.some.injEq] at hj;subst hj;refine ⟨?_, hd.2⟩;have := Ci hg hl (h.now + 1);show (fH h.rules h.ae (j : Int) (h.now + 1)).length ≤ 1048576;rw [fH, mz]; omega
theorem QL {h : an} (hs : bh h) : bh (po h) := by
 unfold po; split
 · rename_i hv;have hg := gP.1 (ph hv).1;have h1 := yL h h.cabins.length;have h2 := pa hg;have h3 := hg.kI;have h4 := (fo hg.rules).len;exact ⟨hs.1, hs.2.1, QK hs hg, by show (jf h h.cabins.length).length ≤ 1048576; omega, hs.2.2.2.2⟩
 · exact hs
def stepOf (h : an) (q : bF) : an :=
 if q.kind = 1 then pg h q.id q.ah q.ak q.al q.aJ
 else if q.kind = 2 then pc h q.id
 else if q.kind = 3 then pj h q.ah q.al
 else if q.kind = 4 then pd h q.id
 else if q.kind = 5 then pf h q.id
 else if q.kind = 6 then po h
 else iu h q.id
def jh (h : an) (q : bF) : Int :=
 if q.kind = 1 then aY h (jY q.id q.ah q.ak q.al q.aJ)
 else if q.kind = 2 then aY h (jg q.id)
 else if q.kind = 3 then aY h (ml q.ah q.al)
 else if q.kind = 4 then aY h (jW q.id)
 else if q.kind = 5 then aY h (jX q.id)
 else if q.kind = 6 then aY h nW
 else aY h (gl q.id)
def iI (h : an) (q : bF) : List Int := if aq q.kind 1 6 = true then [] else iv h q.id
def nX (h : an) (q : bF) : an := if aY h q = 0 then stepOf h q else h
def wy (h : an) (q : bF) : Int := if aY h q = 0 then jh h q else aY h q
def r_ (h : an) (q : bF) : List Int := if aY h q = 0 then iI h q else []
theorem CM {h : an} (hs : bh h) (q : bF) : bh (nX h q) := by
 unfold nX stepOf
 repeat' split
 · exact P8 hs _ _ _ _ _
 · exact P5 hs _
 · exact QJ hs _ _
 · exact P6 hs _
 · exact P7 hs _
 · exact QL hs
 · exact CL hs _
 · exact hs
theorem IY {h : an} (hs : bh h) (q : bF) : (r_ h q).length ≤ 11 := by
 unfold r_ iI
 repeat' split
 · exact Nat.zero_le _
 · exact IX hs _
 · exact Nat.zero_le _
theorem IZ {h : an} {w : Nat} (hw : w < h.aF.length) (hj : h.aF[w] = -1) {t : Int} {ts : List Int} (ht : h.todo = t :: ts) : ua h (w : Int) = { h with aF := h.aF.set w t, todo := ts } := by
 have ej : iH h (w : Int) = h.aF[w] := by rw [iH, Int.toNat_natCast, List.getElem?_eq_getElem hw]; rfl
 rw [ua, if_pos (ej.trans hj), IT, ht, Int.toNat_natCast]; rfl
theorem I0 {h : an} {w : Nat} (hw : w < h.aF.length) (hj : h.aF[w] ≠ -1) : ua h (w : Int) = { (cK h h.aF[w]).1 with aF := (cK h h.aF[w]).1.aF.set w (-1) } := by
 have ej : iH h (w : Int) = h.aF[w] := by rw [iH, Int.toNat_natCast, List.getElem?_eq_getElem hw]; rfl
 rw [ua, if_neg (by rw [ej]; exact hj), IU, ej, Int.toNat_natCast]
theorem I1 {h : an} {w : Nat} (hw : w < h.aF.length) (hj : h.aF[w] = -1) : iv h (w : Int) = [] := by
 have ej : iH h (w : Int) = h.aF[w] := by rw [iH, Int.toNat_natCast, List.getElem?_eq_getElem hw]; rfl
 unfold iv; split
 · rw [if_pos (ej.trans hj)]
 · rfl
theorem I2 {h : an} {w : Nat} (hv : aY h (gl (w : Int)) = 0) (hw : w < h.aF.length) (hj : h.aF[w] ≠ -1) : iv h (w : Int) = (cK h h.aF[w]).2 := by
 have ej : iH h (w : Int) = h.aF[w] := by rw [iH, Int.toNat_natCast, List.getElem?_eq_getElem hw]; rfl
 rw [iv, if_pos hv, if_neg (by rw [ej]; exact hj), ej]
theorem I3 {h : an} (hg : HG h) (k : Int) : (cK h k).1.aF = h.aF := (QI hg k).1
theorem drop_one (l : List Int) : (l.take (((l.length : Nat) : Int)).toNat).drop ((1 : Int)).toNat = l.drop 1 := by
 rw [Int.toNat_natCast, List.take_length]; rfl
set_option maxHeartbeats 4000000 in
theorem I4 (h : an) (cD : Int) (hs : bh h) (x : an) (hx : x = iu h cD) (c : Int) (hc : c = aY h (gl cD)) (y : List Int) (hy : y = iv h cD) : Spec Tryz.prog 23 [cw h, iA cD] (aE (.aT [(true, fT fun _ => x), (false, [.int .i64 fun _ => c]), (false, [.own .int fun _ => y])])) := by
 by_cases hv : aY h (gl cD) = 0
 rotate_left
 · obtain rfl : x = h := hx.trans (if_neg hv);obtain rfl : y = [] := hy.trans (if_neg hv);have k1 : (c != 0) = true := by rw [hc]; simpa using hv
   refine ay au Tryz.func23 rfl rfl (fr := true) (fun _ => by kernel_rfl) fun P hP hA => ?_;cbv;refine ag.by hP (gB x hs) ?_;cbv;refine ag.by hP (jS x (gl cD) hs c hc) ?_;cbv;refine Br.split (fun k0 => ?_) (fun k0 => ?_) <;> cbv
   · repeat' first | exact trivial | refine ⟨rfl, ?_⟩ | fail
   · have k0 : (c != 0) = false := k0;rw [k1] at k0; cases k0
 have hx := hx.trans (if_pos hv);obtain rfl : c = 0 := hc.trans hv;obtain ⟨hg, w, rfl, hw, _, e1, e2⟩ := IW hv;have CN := get_cast h.aF hw;have oj : 0 ≤ (w : Int) ∧ (w : Int) < (h.aF.length : Int) := by omega
 have s4 : h.todo.length ≤ 1048576 := hs.2.2.2.1
 by_cases hj : h.aF[w] = -1
 · obtain ⟨t, ts, ht⟩ := e1 hj;obtain rfl : y = [] := hy.trans (I1 hw hj);have e3 : h.todo.drop 1 = ts := by rw [ht]; rfl
   have qL : h.todo[((0 : Int)).toNat]? = some t := by rw [ht]; rfl
   have o1 : 0 ≤ (1 : Int) ∧ (1 : Int) ≤ (h.todo.length : Int) ∧ (h.todo.length : Int) ≤ h.todo.length := by rw [ht, List.length_cons]; omega
   have o2 : 0 ≤ (0 : Int) ∧ (0 : Int) < (h.todo.length : Int) := by omega
   have o3 : (0 + ((h.todo.take (((h.todo.length : Nat) : Int)).toNat).drop ((1 : Int)).toNat).length) * 8 ≤ 140737488355328 := by rw [drop_one, List.length_drop]; omega
   rw [IZ hw hj ht, ← e3] at hx;subst hx;refine ay au Tryz.func23 rfl rfl (fr := true) (fun _ => by kernel_rfl) fun P hP hA => ?_;cbv;refine ag.by hP (gB h hs) ?_;cbv;refine ag.by hP (jS h (gl (w : Int)) hs 0 hc) ?_;cbv;refine Br.split (fun k0 => ?_) (fun k0 => ?_) <;> cbv
   · have k0 : ((0 : Int) != 0) = true := k0;cases k0
   refine Ix.mk h.aF[w] (Int.natCast_nonneg w) CN ?_;cbv;refine Br.dec (fun k1 => ?_) (fun k1 => ?_) <;> cbv
   rotate_left
   · have k1 : ¬ h.aF[w] < 0 := k1;omega
   repeat' first
     | exact trivial
     | (refine Ix.mk (t) (Int.le_refl 0) (qL) ?_; cbv)
     | (refine Ob.mk (oj) ?_; cbv)
     | (refine Sv.mk (fun _ => h.aF.set w t) (yF h.aF w t) ?_; cbv)
     | (refine Ob.mk (o1) ?_; cbv)
     | (refine Ob.mk (o3) ?_; cbv)
     | (refine ⟨drop_one h.todo, ?_⟩)
     | (refine Pz.mk ?_; cbv) | (refine bx.mk ?_ (by kernel_rfl) ?_; rotate_left; cbv; rotate_right) | refine ⟨rfl, ?_⟩ | refine And.intro ?_ ?_ | exact rfl | fail
 · obtain ⟨n, hn, QM⟩ := e2 hj;obtain rfl : y = (cK h h.aF[w]).2 := hy.trans (I2 hv hw hj);rw [I0 hw hj] at hx;subst hx;have gK : ¬ h.aF[w] < 0 := by rw [hn]; omega
   have ok : 0 ≤ (w : Int) ∧ (w : Int) < ((cK h h.aF[w]).1.aF.length : Int) := by rw [I3 hg]; exact oj
   refine ay au Tryz.func23 rfl rfl (fr := true) (fun _ => by kernel_rfl) fun P hP hA => ?_;cbv;refine ag.by hP (gB h hs) ?_;cbv;refine ag.by hP (jS h (gl (w : Int)) hs 0 hc) ?_;cbv;refine Br.split (fun k0 => ?_) (fun k0 => ?_) <;> cbv
   · have k0 : ((0 : Int) != 0) = true := k0;cases k0
   refine Ix.mk h.aF[w] (Int.natCast_nonneg w) CN ?_;cbv;refine Br.dec (fun k1 => ?_) (fun k1 => ?_) <;> cbv
   · exact absurd k1 gK
   refine ag.by hP (IQ h h.aF[w] hs (cK h h.aF[w]).1 rfl (cK h h.aF[w]).2 rfl) ?_;cbv
   repeat' first
     | exact trivial
     | (refine Ob.mk (ok) ?_; cbv)
     | (refine Sv.mk (fun _ => (cK h h.aF[w]).1.aF.set w (-1)) (yF (cK h h.aF[w]).1.aF w (-1)) ?_; cbv)
     | (refine Pz.mk ?_; cbv) | (refine bx.mk ?_ (by kernel_rfl) ?_; rotate_left; cbv; rotate_right) | refine ⟨rfl, ?_⟩ | refine And.intro ?_ ?_ | exact rfl | fail
set_option maxHeartbeats 4000000 in
theorem I5 (h : an) (cD : Int) (hs : bh h) (x : an) (hx : x = iu h cD) (c : Int) (hc : c = aY h (gl cD)) (y : List Int) (hy : y = iv h cD) : Spec Tryz.prog 24 [cw h, iA cD] (aE (.aT [(true, fT fun _ => x), (false, [.int .i64 fun _ => c]), (false, [.own .int fun _ => y])])) := by
 by_cases hv : aY h (gl cD) = 0
 rotate_left
 · obtain rfl : x = h := hx.trans (if_neg hv);obtain rfl : y = [] := hy.trans (if_neg hv);have k1 : (c != 0) = true := by rw [hc]; simpa using hv
   refine ay au Tryz.func24 rfl rfl (fr := true) (fun _ => by kernel_rfl) fun P hP hA => ?_;cbv;refine ag.by hP (iG x hs) ?_;cbv;refine ag.by hP (jT x (gl cD) hs c hc) ?_;cbv;refine Br.split (fun k0 => ?_) (fun k0 => ?_) <;> cbv
   · repeat' first | exact trivial | refine ⟨rfl, ?_⟩ | fail
   · have k0 : (c != 0) = false := k0;rw [k1] at k0; cases k0
 have hx := hx.trans (if_pos hv);obtain rfl : c = 0 := hc.trans hv;obtain ⟨hg, w, rfl, hw, _, e1, e2⟩ := IW hv;have CN := get_cast h.aF hw;have oj : 0 ≤ (w : Int) ∧ (w : Int) < (h.aF.length : Int) := by omega
 have s4 : h.todo.length ≤ 1048576 := hs.2.2.2.1
 by_cases hj : h.aF[w] = -1
 · obtain ⟨t, ts, ht⟩ := e1 hj;obtain rfl : y = [] := hy.trans (I1 hw hj);have e3 : h.todo.drop 1 = ts := by rw [ht]; rfl
   have qL : h.todo[((0 : Int)).toNat]? = some t := by rw [ht]; rfl
   have o1 : 0 ≤ (1 : Int) ∧ (1 : Int) ≤ (h.todo.length : Int) ∧ (h.todo.length : Int) ≤ h.todo.length := by rw [ht, List.length_cons]; omega
   have o2 : 0 ≤ (0 : Int) ∧ (0 : Int) < (h.todo.length : Int) := by omega
   have o3 : (0 + ((h.todo.take (((h.todo.length : Nat) : Int)).toNat).drop ((1 : Int)).toNat).length) * 8 ≤ 140737488355328 := by rw [drop_one, List.length_drop]; omega
   rw [IZ hw hj ht, ← e3] at hx;subst hx;refine ay au Tryz.func24 rfl rfl (fr := true) (fun _ => by kernel_rfl) fun P hP hA => ?_;cbv;refine ag.by hP (iG h hs) ?_;cbv;refine ag.by hP (jT h (gl (w : Int)) hs 0 hc) ?_;cbv;refine Br.split (fun k0 => ?_) (fun k0 => ?_) <;> cbv
   · have k0 : ((0 : Int) != 0) = true := k0;cases k0
   refine Ob.mk oj ?_;cbv;refine Br.split (fun k1 => ?_) (fun k1 => ?_) <;> cbv
   rotate_left
   · have k1 : (h.aF.getD ((w : Int)).toNat default == -1) = false := k1;rw [qF hw, hj] at k1; cases k1
   repeat' first
     | exact trivial
     | (refine Ix.mk (t) (Int.le_refl 0) (qL) ?_; cbv)
     | (refine Ob.mk (oj) ?_; cbv)
     | (refine Ob.mk (o2) ?_; cbv)
     | (refine Sv.mk (fun _ => h.aF.set w t) ((by show h.aF.set ((w : Int)).toNat (h.todo.getD ((0 : Int)).toNat default) = h.aF.set w t; rw [yF, List.getD_eq_getElem?_getD, qL]; rfl)) ?_; cbv)
     | (refine Ob.mk (o1) ?_; cbv)
     | (refine ⟨drop_one h.todo, ?_⟩)
     | (refine Pz.mk ?_; cbv) | (refine bx.mk ?_ (by kernel_rfl) ?_; rotate_left; cbv; rotate_right) | refine ⟨rfl, ?_⟩ | refine And.intro ?_ ?_ | exact rfl | fail
 · obtain ⟨n, hn, QM⟩ := e2 hj;obtain rfl : y = (cK h h.aF[w]).2 := hy.trans (I2 hv hw hj);rw [I0 hw hj] at hx;subst hx;have ok : 0 ≤ (w : Int) ∧ (w : Int) < ((cK h h.aF[w]).1.aF.length : Int) := by rw [I3 hg]; exact oj
   refine ay au Tryz.func24 rfl rfl (fr := true) (fun _ => by kernel_rfl) fun P hP hA => ?_;cbv;refine ag.by hP (iG h hs) ?_;cbv;refine ag.by hP (jT h (gl (w : Int)) hs 0 hc) ?_;cbv;refine Br.split (fun k0 => ?_) (fun k0 => ?_) <;> cbv
   · have k0 : ((0 : Int) != 0) = true := k0;cases k0
   refine Ob.mk oj ?_;cbv;refine Br.split (fun k1 => ?_) (fun k1 => ?_) <;> cbv
   · have k1 : (h.aF.getD ((w : Int)).toNat default == -1) = true := k1;rw [qF hw] at k1; exact absurd (by simpa using k1) hj
   refine Ob.mk oj ?_;cbv;refine ag.dL hP (IP h h.aF[w] hs (cK h h.aF[w]).1 rfl (cK h h.aF[w]).2 rfl) ?_ ?_
   · show [cw h, iA (h.aF.getD ((w : Int)).toNat default)] = _;rw [qF hw]
   cbv
   repeat' first
     | exact trivial
     | (refine Ob.mk (ok) ?_; cbv)
     | (refine Sv.mk (fun _ => (cK h h.aF[w]).1.aF.set w (-1)) (yF (cK h h.aF[w]).1.aF w (-1)) ?_; cbv)
     | (refine Pz.mk ?_; cbv) | (refine bx.mk ?_ (by kernel_rfl) ?_; rotate_left; cbv; rotate_right) | refine ⟨rfl, ?_⟩ | refine And.intro ?_ ?_ | exact rfl | fail
end Go.Proofs.YticeaiiffeccmaaGreat

