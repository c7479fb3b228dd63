/- Parts of a proof. No conditions. -/

import Derived.Test.YticeaiiffeccmaaGreatG16
import Derived.Test.YticeaiiffeccmaaGreatG20
import Derived.Test.YticeaiiffeccmaaGreatG19
import Derived.Test.YticeaiiffeccmaaGreatG07
import Derived.Test.YticeaiiffeccmaaGreatG21
set_option linter.unusedSimpArgs false
set_option linter.unusedVariables false
namespace Go.Proofs.YticeaiiffeccmaaGreat
open Go
set_option maxRecDepth 100000
theorem ph {h : an} {q : bF} (hv : aY h q = 0) : dG h = true ∧ aq q.kind 1 7 = true ∧ eZ q = true := by
 cases h0 : dG h with
 | false => rw [B_ h0] at hv; cases hv
 | true =>
   cases h1 : aq q.kind 1 7 with
   | false => rw [Ca h0 h1] at hv; cases hv
   | true =>
     cases h2 : eZ q with
     | false => rw [Cb h0 h1 h2] at hv; cases hv
     | true => exact ⟨rfl, rfl, rfl⟩
def ml (k n : Int) : bF := ⟨3, 0, k, 0, n, 0⟩
def P9 (h : an) (k : Int) (n df dh ds dt : Int) : List bd := h.cabins.set k.toNat { aA h k with aj := bW (aA h k).aj n df dh ds dt }
def mm (h : an) (k n : Int) : an := { h with cabins := P9 h k n 1 0 (-1) 0, todo := fB h.todo k }
def pj (h : an) (k n : Int) : an := if aY h (ml k n) = 0 then mm h k n else h
theorem IA {h : an} {k n : Int} (hv : aY h (ml k n) = 0) : ∃ i : Nat, i < h.cabins.length ∧ k = (i : Int) := by
 obtain ⟨h0, h1, h2⟩ := ph hv;rw [Ce h0 h2 rfl, B6] at hv;cases h3 : ia h k with
 | false => rw [if_pos (show ia h (ml k n).ah = false from h3)] at hv; cases hv
 | true =>
   have := bO h3;exact ⟨k.toNat, by omega, by omega⟩
set_option maxHeartbeats 1000000 in
theorem P_ (h : an) (k : Nat) (hk : k < h.cabins.length) (n : Int) (ht : h.todo.length ≤ bc) : cB Tryz.prog 150 [kD h, nT fun _ => k, iA n] (lg h) (cV (kx fun _ => mm h (k : Int) n) []) := by
 have oi : 0 ≤ (k : Int) ∧ (k : Int) < (h.cabins.length : Int) := by omega
 refine dW au Tryz.func150 rfl rfl (fr := true) (fun _ => by kernel_rfl) rfl rfl fun P hP hA hB => ?_;cbv
 repeat' first
  | exact trivial
  | (refine Ob.mk (oi) ?_; cbv)
  | (refine ag.by hP (Hi (h.cabins.getD ((k : Int)).toNat default).aj n (bW (aA h (k : Int)).aj n 1 0 (-1) 0) rfl (bE (aA h (k : Int)).aj n 1 0 (-1) 0) rfl) ?_; cbv)
  | (refine Sv.mk (fun _ => (mm h (k : Int) n).cabins) (rfl) ?_; cbv)
  | (refine ag.by hP (rO h.todo (k : Int) ht (fB h.todo (k : Int)) rfl) ?_; cbv)
  | (refine Pz.mk ?_; cbv) | (refine bx.mk ?_ (by kernel_rfl) ?_; rotate_left; cbv; rotate_right) | refine ⟨rfl, ?_⟩ | refine And.intro ?_ ?_ | exact rfl | fail
set_option maxHeartbeats 1000000 in
theorem Qa (h : an) (k n : Int) (hs : bh h) (x : an) (hx : x = pj h k n) (c : Int) (hc : c = aY h (ml k n)) : Spec Tryz.prog 74 [cw h, iA k, iA n] (aE (.aT [(true, fT fun _ => x), (false, [.int .i64 fun _ => c])])) := by
 refine ay au Tryz.func74 rfl rfl (fr := true) (fun _ => by kernel_rfl) fun P hP hA => ?_;cbv;refine ag.by hP (gB h hs) ?_;cbv;refine ag.by hP (jS h (ml k n) hs c hc) ?_;cbv;refine Br.split (fun k0 => ?_) (fun k0 => ?_) <;> cbv
 · have k0 : (c != 0) = true := k0;have k0 : ¬ c = 0 := by simpa using k0
   obtain rfl : x = h := hx.trans (if_neg (by rw [← hc]; exact k0))
   repeat' first | exact trivial | refine ⟨rfl, ?_⟩ | fail
 have k0 : (c != 0) = false := k0;obtain rfl : c = 0 := by simpa using k0
 obtain ⟨i, hi, rfl⟩ := IA hc.symm;obtain rfl : x = mm h (i : Int) n := hx.trans (if_pos hc.symm);refine bB.by hP (P_ h i hi n hs.2.2.2.1) ?_;cbv
 repeat' first | exact trivial | refine ⟨rfl, ?_⟩ | fail
set_option maxHeartbeats 1000000 in
theorem Qb (h : an) (k n : Int) (hs : bh h) (x : an) (hx : x = pj h k n) (c : Int) (hc : c = aY h (ml k n)) : Spec Tryz.prog 80 [cw h, iA k, iA n] (aE (.aT [(true, fT fun _ => x), (false, [.int .i64 fun _ => c])])) := by
 refine ay au Tryz.func80 rfl rfl (fr := true) (fun _ => by kernel_rfl) fun P hP hA => ?_;cbv;refine ag.by hP (iG h hs) ?_;cbv;refine ag.by hP (jT h (ml k n) hs c hc) ?_;cbv;refine Br.split (fun k0 => ?_) (fun k0 => ?_) <;> cbv
 · have k0 : (c != 0) = true := k0;have k0 : ¬ c = 0 := by simpa using k0
   obtain rfl : x = h := hx.trans (if_neg (by rw [← hc]; exact k0))
   repeat' first | exact trivial | refine ⟨rfl, ?_⟩ | fail
 have k0 : (c != 0) = false := k0;obtain rfl : c = 0 := by simpa using k0
 obtain ⟨i, hi, rfl⟩ := IA hc.symm;obtain rfl : x = mm h (i : Int) n := hx.trans (if_pos hc.symm);have oi : 0 ≤ (i : Int) ∧ (i : Int) < (h.cabins.length : Int) := by omega
 repeat' first
   | exact trivial
   | (refine Ob.mk (oi) ?_; cbv)
   | (refine ag.by hP (Hj (h.cabins.getD ((i : Int)).toNat default).aj n (bW (aA h (i : Int)).aj n 1 0 (-1) 0) rfl (bE (aA h (i : Int)).aj n 1 0 (-1) 0) rfl) ?_; cbv)
   | (refine Sv.mk (fun _ => (mm h (i : Int) n).cabins) (rfl) ?_; cbv)
   | (refine ag.by hP (rN h.todo (i : Int) hs.2.2.2.1 (fB h.todo (i : Int)) rfl) ?_; cbv)
   | (refine Pz.mk ?_; cbv) | (refine bx.mk ?_ (by kernel_rfl) ?_; rotate_left; cbv; rotate_right) | refine ⟨rfl, ?_⟩ | refine And.intro ?_ ?_ | exact rfl | fail
def nW : bF := ⟨6, 0, 0, 0, 0, 0⟩
def yK (h : an) (k : Nat) (c : bd) : bd := { c with row := fH h.rules h.ae (k : Int) (h.now + 1) }
def fJ (h : an) (i : Nat) : List bd := h.cabins.mapIdx fun k c => if k < i then yK h k c else c
def jf (h : an) : Nat → List Int
 | 0 => h.todo
 | i + 1 => if je h (i : Int) > 0 then fB (jf h i) (i : Int) else jf h i
def CF (h : an) (i : Nat) : an := { h with now := h.now + 1, cabins := fJ h i, todo := jf h i }
def po (h : an) : an := if aY h nW = 0 then CF h h.cabins.length else h
theorem pq (h : an) (i : Nat) : (fJ h i).length = h.cabins.length := by simp [fJ]
theorem IB (h : an) : fJ h 0 = h.cabins := by
 apply List.ext_getElem?;intro j;simp [fJ]
theorem Qc (h : an) {i : Nat} (hi : i < h.cabins.length) : (fJ h i).getD i default = h.cabins[i] := by
 rw [List.getD_eq_getElem?_getD, List.getElem?_eq_getElem (by rw [pq]; exact hi)];simp [fJ]
theorem IC (h : an) {i : Nat} (hi : i < h.cabins.length) : (fJ h i).set i (yK h i ((fJ h i).getD i default)) = fJ h (i + 1) := by
 rw [Qc h hi];apply List.ext_getElem?;intro j;rw [List.getElem?_set, pq]
 by_cases e : i = j
 · subst e;rw [if_pos rfl, if_pos hi];simp [fJ, hi]
 · rw [if_neg e];simp only [fJ, List.getElem?_mapIdx];cases hj : h.cabins[j]? with
   | none => rfl
   | some c =>
     simp only [Option.map_some]
     congr 1
     by_cases q : j < i
     · rw [if_pos q, if_pos (by omega)]
     · rw [if_neg q, if_neg (by omega)]
theorem Iz (l : List Int) (k : Int) : (fB l k).length ≤ l.length + 1 := by
 unfold fB; split
 · omega
 · simp
theorem yL (h : an) : ∀ i, (jf h i).length ≤ h.todo.length + i
 | 0 => Nat.le_refl _
 | i + 1 => by
   have ih := yL h i;rw [jf]; split
   · have := Iz (jf h i) (i : Int); omega
   · omega
theorem ID (h : an) {i : Nat} (q : je h (i : Int) > 0) : fB (jf h i) (i : Int) = jf h (i + 1) := (if_pos q).symm
theorem IE (h : an) {i : Nat} (q : ¬ je h (i : Int) > 0) : jf h i = jf h (i + 1) := (if_neg q).symm
set_option maxHeartbeats 2000000 in
theorem Qd (h : an) (hs : bh h) (x : an) (hx : x = po h) (c : Int) (hc : c = aY h nW) : Spec Tryz.prog 77 [cw h] (aE (.aT [(true, fT fun _ => x), (false, [.int .i64 fun _ => c])])) := by
 have s1 := hs.1;have s2 := hs.2.1;have s4 : h.todo.length ≤ 1048576 := hs.2.2.2.1;refine ay au Tryz.func77 rfl rfl (fr := true) (fun _ => by kernel_rfl) fun P hP hA => ?_;cbv;refine ag.by hP (gB h hs) ?_;cbv;refine ag.by hP (jS h nW hs c hc) ?_;cbv;refine Br.split (fun k0 => ?_) (fun k0 => ?_) <;> cbv
 · have k0 : (c != 0) = true := k0;have k0 : ¬ c = 0 := by simpa using k0
   obtain rfl : x = h := hx.trans (if_neg (by rw [← hc]; exact k0))
   repeat' first | exact trivial | refine ⟨rfl, ?_⟩ | fail
 have k0 : (c != 0) = false := k0;obtain rfl : c = 0 := by simpa using k0
 obtain rfl : x = CF h h.cabins.length := hx.trans (if_pos hc.symm);have hg := gP.1 (ph hc.symm).1;have hn := bO hg.now;have fc := hg.kI;have uS := (fo hg.rules).len;refine Ar.exact (by (try simp only [nc] at *); omega) (by (try simp only [nc] at *); omega) ?_;cbv;refine aU.by (X := Nat) (fun i => [(2, pN 0), (4, pN 1), (6, nT fun _ => i)]) (fun i => [(0, .box [.nil, .lf (.int .i64 fun _ => 0), .lf (.int .i64 fun _ => 0), .lf (.int .i64 fun _ => 0), .lf (.int .i64 fun _ => 0), .lf (.int .i64 fun _ => 0), .lf (.int .i64 fun _ => 0), .lf (.int .i64 fun _ => 0), .lf (.int .i64 fun _ => 0), .lf (.int .i64 fun _ => 0), .lf (.int .i64 fun _ => 0), .nil, .nil, .nil, .nil]), (1, .box [.own 2, .lf (.int .i64 fun _ => h.rules.cn), .lf (.int .i64 fun _ => h.rules.room), .lf (.int .i64 fun _ => h.rules.size), .lf (.int .i64 fun _ => h.rules.period), .lf (.int .i64 fun _ => h.rules.cp), .lf (.int .i64 fun _ => h.rules.rest), .lf (.int .i64 fun _ => h.rules.tries), .lf (.int .i64 fun _ => h.rules.cC), .lf (.int .i64 fun _ => h.now + 1), .lf (.int .i64 fun _ => h.aC), .own 3, .own 4, .own 5, .own 6]), (2, aN .int fun _ => h.rules.aj), (3, aN .aG fun _ => h.ae), (4, aN .ah fun _ => fJ h i), (5, aN .int fun _ => jf h i), (6, aN .int fun _ => h.aF)]) (fun i => i ≤ h.cabins.length) (fun i _ => h.cabins.length - i) 0 (Nat.zero_le _) ?_ ?_
 · cbv
   repeat' first | exact trivial | refine ⟨rfl, ?_⟩ | refine ⟨(IB h).symm, ?_⟩ | fail
 · intro i hi;have tl := pq h i;cbv;refine Br.dec (fun h2 => ?_) (fun h2 => ?_) <;> cbv
   rotate_left
   · have h2 : h.cabins.length ≤ i := by simp [pq] at h2; omega
     obtain rfl : i = h.cabins.length := Nat.le_antisymm hi h2
     repeat' first | exact trivial | refine ⟨rfl, ?_⟩ | fail
   have h2 : i < h.cabins.length := by simpa [pq] using h2
   have q1 := Ci hg h2 (h.now + 1);have oi : 0 ≤ (i : Int) ∧ (i : Int) < ((fJ h i).length : Int) := by omega
   have st : (fJ h i).set ((i : Int)).toNat (yK h i ((fJ h i).getD ((i : Int)).toNat default)) = fJ h (i + 1) := by rw [Int.toNat_natCast]; exact IC h h2
   have lt := yL h i;have lf := pa hg
   repeat' first
     | exact trivial
     | (refine ag.by hP (GA h.rules h.ae (i : Int) (h.now + 1) s1 s2) ?_; cbv)
     | (refine Ob.mk (oi) ?_; cbv)
     | (refine Sv.mk (fun _ => fJ h (i + 1)) (st) ?_; cbv)
     | (refine ag.by hP (Bj h.ae (i : Int) s2) ?_; cbv)
     | (refine Pz.mk ?_; cbv) | (refine bx.mk ?_ (by kernel_rfl) ?_; rotate_left; cbv; rotate_right) | refine ⟨rfl, ?_⟩ | refine And.intro ?_ ?_ | exact rfl | fail
   refine Br.dec (fun h3 => ?_) (fun h3 => ?_) <;> cbv
   · have h3 : je h (i : Int) > 0 := h3;refine ag.by hP (rO (jf h i) (i : Int) (by show _ ≤ 1048576; omega) (jf h (i + 1)) (ID h h3).symm) ?_;cbv;refine Ar.exact (by (try simp only [nc] at *); omega) (by (try simp only [nc] at *); omega) ?_;cbv;refine aP.by (i + 1) ?_ ?_ ?_
     · show h.cabins.length - (i + 1) < h.cabins.length - i;omega
     · exact h2
     · cbv
       repeat' first | exact trivial | refine ⟨rfl, ?_⟩ | fail
   · have h3 : ¬ je h (i : Int) > 0 := h3;refine Ar.exact (by (try simp only [nc] at *); omega) (by (try simp only [nc] at *); omega) ?_;cbv;refine aP.by (i + 1) ?_ ?_ ?_
     · show h.cabins.length - (i + 1) < h.cabins.length - i;omega
     · exact h2
     · cbv
       repeat' first | exact trivial | refine ⟨rfl, ?_⟩ | refine ⟨IE h h3, ?_⟩ | fail
set_option maxHeartbeats 2000000 in
theorem Qe (h : an) (hs : bh h) (x : an) (hx : x = po h) (c : Int) (hc : c = aY h nW) : Spec Tryz.prog 83 [cw h] (aE (.aT [(true, fT fun _ => x), (false, [.int .i64 fun _ => c])])) := by
 have s1 := hs.1;have s2 := hs.2.1;have s4 : h.todo.length ≤ 1048576 := hs.2.2.2.1;refine ay au Tryz.func83 rfl rfl (fr := true) (fun _ => by kernel_rfl) fun P hP hA => ?_;cbv;refine ag.by hP (iG h hs) ?_;cbv;refine ag.by hP (jT h nW hs c hc) ?_;cbv;refine Br.split (fun k0 => ?_) (fun k0 => ?_) <;> cbv
 · have k0 : (c != 0) = true := k0;have k0 : ¬ c = 0 := by simpa using k0
   obtain rfl : x = h := hx.trans (if_neg (by rw [← hc]; exact k0))
   repeat' first | exact trivial | refine ⟨rfl, ?_⟩ | fail
 have k0 : (c != 0) = false := k0;obtain rfl : c = 0 := by simpa using k0
 obtain rfl : x = CF h h.cabins.length := hx.trans (if_pos hc.symm);have hg := gP.1 (ph hc.symm).1;have hn := bO hg.now;have fc := hg.kI;have uS := (fo hg.rules).len;refine Ar.exact (by (try simp only [nc] at *); omega) (by (try simp only [nc] at *); omega) ?_;cbv;refine aU.by (X := Nat) (fun i => [(2, pN 0), (4, pN 1), (22, nT fun _ => h.cabins.length), (23, nT fun _ => i)]) (fun i => [(0, .box [.nil, .lf (.int .i64 fun _ => 0), .lf (.int .i64 fun _ => 0), .lf (.int .i64 fun _ => 0), .lf (.int .i64 fun _ => 0), .lf (.int .i64 fun _ => 0), .lf (.int .i64 fun _ => 0), .lf (.int .i64 fun _ => 0), .lf (.int .i64 fun _ => 0), .lf (.int .i64 fun _ => 0), .lf (.int .i64 fun _ => 0), .nil, .nil, .nil, .nil]), (1, .box [.own 2, .lf (.int .i64 fun _ => h.rules.cn), .lf (.int .i64 fun _ => h.rules.room), .lf (.int .i64 fun _ => h.rules.size), .lf (.int .i64 fun _ => h.rules.period), .lf (.int .i64 fun _ => h.rules.cp), .lf (.int .i64 fun _ => h.rules.rest), .lf (.int .i64 fun _ => h.rules.tries), .lf (.int .i64 fun _ => h.rules.cC), .lf (.int .i64 fun _ => h.now + 1), .lf (.int .i64 fun _ => h.aC), .own 3, .own 4, .own 5, .own 6]), (2, aN .int fun _ => h.rules.aj), (3, aN .aG fun _ => h.ae), (4, aN .ah fun _ => fJ h i), (5, aN .int fun _ => jf h i), (6, aN .int fun _ => h.aF)]) (fun i => i ≤ h.cabins.length) (fun i _ => h.cabins.length - i) 0 (Nat.zero_le _) ?_ ?_
 · cbv
   repeat' first | exact trivial | refine ⟨rfl, ?_⟩ | refine ⟨(IB h).symm, ?_⟩ | fail
 · intro i hi;have tl := pq h i;cbv;refine Br.dec (fun h2 => ?_) (fun h2 => ?_) <;> cbv
   rotate_left
   · have h2 : h.cabins.length ≤ i := by simp [pq] at h2; omega
     obtain rfl : i = h.cabins.length := Nat.le_antisymm hi h2
     repeat' first | exact trivial | refine ⟨rfl, ?_⟩ | fail
   have h2 : i < h.cabins.length := by simpa [pq] using h2
   have q1 := Ci hg h2 (h.now + 1);have oi : 0 ≤ (i : Int) ∧ (i : Int) < ((fJ h i).length : Int) := by omega
   have st : (fJ h i).set ((i : Int)).toNat (yK h i ((fJ h i).getD ((i : Int)).toNat default)) = fJ h (i + 1) := by rw [Int.toNat_natCast]; exact IC h h2
   have lt := yL h i;have lf := pa hg
   repeat' first
     | exact trivial
     | (refine ag.by hP (GC h.rules h.ae (i : Int) (h.now + 1) s1 s2 q1) ?_; cbv)
     | (refine Ob.mk (oi) ?_; cbv)
     | (refine Sv.mk (fun _ => fJ h (i + 1)) (st) ?_; cbv)
     | (refine ag.by hP (Bk h.ae (i : Int) s2) ?_; cbv)
     | (refine Pz.mk ?_; cbv) | (refine bx.mk ?_ (by kernel_rfl) ?_; rotate_left; cbv; rotate_right) | refine ⟨rfl, ?_⟩ | refine And.intro ?_ ?_ | exact rfl | fail
   refine Br.dec (fun h3 => ?_) (fun h3 => ?_) <;> cbv
   · have h3 : je h (i : Int) > 0 := h3;refine ag.by hP (rN (jf h i) (i : Int) (by show _ ≤ 1048576; omega) (jf h (i + 1)) (ID h h3).symm) ?_;cbv;refine Ar.exact (by (try simp only [nc] at *); omega) (by (try simp only [nc] at *); omega) ?_;cbv;refine aP.by (i + 1) ?_ ?_ ?_
     · show h.cabins.length - (i + 1) < h.cabins.length - i;omega
     · exact h2
     · cbv
       repeat' first | exact trivial | refine ⟨rfl, ?_⟩ | fail
   · have h3 : ¬ je h (i : Int) > 0 := h3;refine Ar.exact (by (try simp only [nc] at *); omega) (by (try simp only [nc] at *); omega) ?_;cbv;refine aP.by (i + 1) ?_ ?_ ?_
     · show h.cabins.length - (i + 1) < h.cabins.length - i;omega
     · exact h2
     · cbv
       repeat' first | exact trivial | refine ⟨rfl, ?_⟩ | refine ⟨IE h h3, ?_⟩ | fail
end Go.Proofs.YticeaiiffeccmaaGreat

