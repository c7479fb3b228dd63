/- Parts of a proof. No conditions. -/

import Derived.Test.YtehpbaiclfilaaaGreatG06
import Derived.Test.YtehpbaiclfilaaaGreatG05
import Derived.Test.YtehpbaiclfilaaaGreatG07
import Derived.Test.YtehpbaiclfilaaaGreatG01
set_option linter.unusedSimpArgs false
set_option linter.unusedVariables false
namespace Go.Proofs.YtehpbaiclfilaaaGreat
open Go
set_option maxRecDepth 100000
def aZ (x : bA) : Bool := aj x.total 1 60 && (aj x.free 0 x.total && (aj x.held 0 x.total && (aj x.aU 0 x.total && (decide (x.free + x.held + x.aU = x.total) && aj x.tied 0 x.aU))))
theorem IA (x : bA) (b : Bool) (hb : b = aZ x) : Spec Tryz.prog 184 [k8 x] (aE (bR fun _ => b)) := by
 refine aH ay Tryz.func184 rfl rfl (fr := true) (fun _ => by kernel_rfl) fun P hP hA => ?_;cbv;refine ag.by hP (da x.total 1 60) ?_;cbv
 repeat (refine Pz.mk ?_; cbv)
 refine Br.split (fun h0 => ?_) (fun h0 => ?_) <;> (cbv; repeat (refine Pz.mk ?_; cbv))
 rotate_left
 · refine ⟨?_, trivial⟩;have h0 : aj x.total 1 60 = false := h0;simp [hb, aZ, h0]
 have h0 : aj x.total 1 60 = true := h0;have e0 := bB h0;refine ag.by hP (da x.free 0 x.total) ?_;cbv
 repeat (refine Pz.mk ?_; cbv)
 refine Br.split (fun h1 => ?_) (fun h1 => ?_) <;> (cbv; repeat (refine Pz.mk ?_; cbv))
 rotate_left
 · refine ⟨?_, trivial⟩;have h1 : aj x.free 0 x.total = false := h1;simp [hb, aZ, h0, h1]
 have h1 : aj x.free 0 x.total = true := h1;have e1 := bB h1;refine ag.by hP (da x.held 0 x.total) ?_;cbv
 repeat (refine Pz.mk ?_; cbv)
 refine Br.split (fun h2 => ?_) (fun h2 => ?_) <;> (cbv; repeat (refine Pz.mk ?_; cbv))
 rotate_left
 · refine ⟨?_, trivial⟩;have h2 : aj x.held 0 x.total = false := h2;simp [hb, aZ, h0, h1, h2]
 have h2 : aj x.held 0 x.total = true := h2;have e2 := bB h2;refine ag.by hP (da x.aU 0 x.total) ?_;cbv
 repeat (refine Pz.mk ?_; cbv)
 refine Br.split (fun h3 => ?_) (fun h3 => ?_) <;> (cbv; repeat (refine Pz.mk ?_; cbv))
 rotate_left
 · refine ⟨?_, trivial⟩;have h3 : aj x.aU 0 x.total = false := h3;simp [hb, aZ, h0, h1, h2, h3]
 have h3 : aj x.aU 0 x.total = true := h3;have e3 := bB h3;refine Ar.exact ?_ ?_ ?_
 · show -9223372036854775808 ≤ x.free + x.held;omega
 · show x.free + x.held ≤ 9223372036854775807;omega
 cbv;refine Ar.exact ?_ ?_ ?_
 · show -9223372036854775808 ≤ x.free + x.held + x.aU;omega
 · show x.free + x.held + x.aU ≤ 9223372036854775807;omega
 cbv;refine Br.split (fun h4 => ?_) (fun h4 => ?_) <;> (cbv; repeat (refine Pz.mk ?_; cbv))
 rotate_left
 · refine ⟨?_, trivial⟩;have h4 : (x.free + x.held + x.aU == x.total) = false := h4;have h4 : ¬ (x.free + x.held + x.aU = x.total) := by simpa using h4
   simp [hb, aZ, h0, h1, h2, h3, h4]
 have h4 : (x.free + x.held + x.aU == x.total) = true := h4;have h4 : x.free + x.held + x.aU = x.total := by simpa using h4
 refine ag.by hP (da x.tied 0 x.aU) ?_;cbv
 repeat (refine Pz.mk ?_; cbv)
 refine ⟨?_, trivial⟩;simp [hb, aZ, h0, h1, h2, h3, h4]
theorem lQ (x : bA) (b : Bool) (hb : b = aZ x) : Spec Tryz.prog 207 [k8 x] (aE (bR fun _ => b)) := by
 refine aH ay Tryz.func207 rfl rfl (fr := true) (fun _ => by kernel_rfl) fun P hP hA => ?_;cbv;refine ag.by hP (cV x.total 1 60) ?_;cbv
 repeat (refine Pz.mk ?_; cbv)
 refine Br.split (fun h0 => ?_) (fun h0 => ?_) <;> (cbv; repeat (refine Pz.mk ?_; cbv))
 rotate_left
 · refine ⟨?_, trivial⟩;have h0 : aj x.total 1 60 = false := h0;simp [hb, aZ, h0]
 have h0 : aj x.total 1 60 = true := h0;have e0 := bB h0;refine ag.by hP (cV x.free 0 x.total) ?_;cbv
 repeat (refine Pz.mk ?_; cbv)
 refine Br.split (fun h1 => ?_) (fun h1 => ?_) <;> (cbv; repeat (refine Pz.mk ?_; cbv))
 rotate_left
 · refine ⟨?_, trivial⟩;have h1 : aj x.free 0 x.total = false := h1;simp [hb, aZ, h0, h1]
 have h1 : aj x.free 0 x.total = true := h1;have e1 := bB h1;refine ag.by hP (cV x.held 0 x.total) ?_;cbv
 repeat (refine Pz.mk ?_; cbv)
 refine Br.split (fun h2 => ?_) (fun h2 => ?_) <;> (cbv; repeat (refine Pz.mk ?_; cbv))
 rotate_left
 · refine ⟨?_, trivial⟩;have h2 : aj x.held 0 x.total = false := h2;simp [hb, aZ, h0, h1, h2]
 have h2 : aj x.held 0 x.total = true := h2;have e2 := bB h2;refine ag.by hP (cV x.aU 0 x.total) ?_;cbv
 repeat (refine Pz.mk ?_; cbv)
 refine Br.split (fun h3 => ?_) (fun h3 => ?_) <;> (cbv; repeat (refine Pz.mk ?_; cbv))
 rotate_left
 · refine ⟨?_, trivial⟩;have h3 : aj x.aU 0 x.total = false := h3;simp [hb, aZ, h0, h1, h2, h3]
 have h3 : aj x.aU 0 x.total = true := h3;have e3 := bB h3;refine Ar.exact ?_ ?_ ?_
 · show -9223372036854775808 ≤ x.free + x.held;omega
 · show x.free + x.held ≤ 9223372036854775807;omega
 cbv;refine Ar.exact ?_ ?_ ?_
 · show -9223372036854775808 ≤ x.free + x.held + x.aU;omega
 · show x.free + x.held + x.aU ≤ 9223372036854775807;omega
 cbv;refine Br.split (fun h4 => ?_) (fun h4 => ?_) <;> (cbv; repeat (refine Pz.mk ?_; cbv))
 rotate_left
 · refine ⟨?_, trivial⟩;have h4 : (x.free + x.held + x.aU == x.total) = false := h4;have h4 : ¬ (x.free + x.held + x.aU = x.total) := by simpa using h4
   simp [hb, aZ, h0, h1, h2, h3, h4]
 have h4 : (x.free + x.held + x.aU == x.total) = true := h4;have h4 : x.free + x.held + x.aU = x.total := by simpa using h4
 refine ag.by hP (cV x.tied 0 x.aU) ?_;cbv
 repeat (refine Pz.mk ?_; cbv)
 refine ⟨?_, trivial⟩;simp [hb, aZ, h0, h1, h2, h3, h4]
def lS (x : Unit → bA) : List Sh := [.int .i64 fun _ => (x ()).total, .int .i64 fun _ => (x ()).free, .int .i64 fun _ => (x ()).held, .int .i64 fun _ => (x ()).aU, .int .i64 fun _ => (x ()).tied]
def zM (x : Unit → a_) : List Sh := [.int .i64 fun _ => (x ()).ah.total, .int .i64 fun _ => (x ()).ah.free, .int .i64 fun _ => (x ()).ah.held, .int .i64 fun _ => (x ()).ah.aU, .int .i64 fun _ => (x ()).ah.tied, .own .aD fun _ => (x ()).row, .own .cF fun _ => (x ()).spoke]
def tI (n : Int) : bA := ⟨n, 0, 0, n, 0⟩
def Dr (n : Int) : bA := if aj n 1 60 = true then tI n else default
def IB (n : Int) : a_ := ⟨tI n, [], List.replicate 9 []⟩
def oK (n : Int) : a_ := if aj n 1 60 = true then IB n else default
theorem Pn (n : Int) : aZ (tI n) = aj n 1 60 := by
 unfold aZ tI aj;rw [Bool.eq_iff_iff];simp only [Bool.and_eq_true, decide_eq_true_eq];omega
theorem Po (n : Int) (x : bA) (hx : x = Dr n) (b : Bool) (hb : b = aj n 1 60) : Spec Tryz.prog 236 [iA n] (aE (.bc [(true, lS fun _ => x), (false, [.bool fun _ => b])])) := by
 refine aH ay Tryz.func236 rfl rfl (fr := true) (fun _ => by kernel_rfl) fun P hP hA => ?_;cbv;refine ag.by hP (IA (tI n) (aj n 1 60) (Pn n).symm) ?_;cbv;refine Br.split (fun h => ?_) (fun h => ?_) <;> cbv
 · have h : aj n 1 60 = false := by simpa using h
   obtain rfl : x = default := hx.trans (if_neg (by rw [h]; simp));obtain rfl : b = false := hb.trans h;exact ⟨rfl, rfl, rfl, rfl, rfl, rfl, trivial⟩
 · have h : aj n 1 60 = true := by simpa using h
   obtain rfl : x = tI n := hx.trans (if_pos h);obtain rfl : b = true := hb.trans h;exact ⟨rfl, rfl, rfl, rfl, rfl, rfl, trivial⟩
theorem Ds : Spec Tryz.prog 218 [] (aE (xr fun _ => List.replicate 9 [])) := by
 refine aH ay Tryz.func218 rfl rfl (fr := true) (fun _ => by kernel_rfl) fun P hP hA => ?_;cbv;refine aT.by (X := Nat) (fun i => [(0, pN 0), (1, pN 1), (2, nT fun _ => i)]) (fun i => [(0, .box [.nil]), (1, .box [.own 2]), (2, aQ .cF fun _ => List.replicate i [])]) (fun i => i ≤ 9) (fun i _ => 9 - i) 0 (Nat.zero_le _) ?_ ?_
 · cbv
   repeat' first | exact trivial | refine ⟨rfl, ?_⟩ | fail
 · intro i hi;cbv;refine Br.dec (fun h2 => ?_) (fun h2 => ?_) <;> cbv
   · have h2 : (i : Int) < 9 := h2;have h2 : i < 9 := by omega
     refine ⟨?_, ?_⟩
     · show ((List.replicate i ([] : List aA)).length + 1) * 24 ≤ 140737488355328;rw [List.length_replicate]; omega
     cbv;refine Ar.exact ?_ ?_ ?_
     · show -9223372036854775808 ≤ (i : Int) + 1;omega
     · show (i : Int) + 1 ≤ 9223372036854775807;omega
     cbv;refine aJ.by (i + 1) ?_ ?_ ?_
     · show 9 - (i + 1) < 9 - i;omega
     · exact h2
     · cbv
       repeat' first | exact trivial | refine ⟨rfl, ?_⟩ | fail
       refine ⟨?_, trivial⟩;exact (List.replicate_succ' (n := i) (a := ([] : List aA))).symm
   · have h2 : ¬ (i : Int) < 9 := h2;obtain rfl : i = 9 := by omega
     repeat' first | exact trivial | refine ⟨rfl, ?_⟩ | fail
theorem Pp (n : Int) (x : a_) (hx : x = oK n) (b : Bool) (hb : b = aj n 1 60) : Spec Tryz.prog 217 [iA n] (aE (.bc [(true, zM fun _ => x), (false, [.bool fun _ => b])])) := by
 refine aH ay Tryz.func217 rfl rfl (fr := true) (fun _ => by kernel_rfl) fun P hP hA => ?_;cbv;refine ag.by hP (Po n (Dr n) rfl (aj n 1 60) rfl) ?_;cbv;refine Br.split (fun h => ?_) (fun h => ?_) <;> cbv
 · have h : aj n 1 60 = false := by simpa using h
   obtain rfl : x = default := hx.trans (if_neg (by rw [h]; simp));obtain rfl : b = false := hb.trans h;exact ⟨rfl, rfl, rfl, rfl, rfl, rfl, rfl, rfl, trivial⟩
 · have h : aj n 1 60 = true := by simpa using h
   have e : Dr n = tI n := if_pos h;obtain rfl : x = IB n := hx.trans (if_pos h);obtain rfl : b = true := hb.trans h;rw [e]
   repeat' first | exact trivial | (refine ag.by hP Ds ?_; cbv) | refine ⟨rfl, ?_⟩ | refine And.intro ?_ ?_ | fail
def cw (x : bp) : Bool := aj x.ah.length 1 4 && (x.ah.all (fun y => aj y 1 60) && (aj x.cm 1 5 && (aj x.room 1 10 && (aj x.size 1 6 && (aj x.period 1 12 && (aj x.ck 1 8 && (aj x.tries 1 4 && (aj x.bP 1 3 && aj x.rest 0 8))))))))
theorem Pq {α : Type} {a : List α} {i : Nat} (h : i < a.length) : a.take (i + 1) = a.take i ++ [a[i]] := by
 rw [List.take_add_one, List.getElem?_eq_getElem h]; rfl
theorem IC {p : Int → Bool} {a : List Int} {i : Nat} (h : i < a.length) (h1 : ∀ y ∈ a.take i, p y = true) (h2 : p a[i] = true) : ∀ y ∈ a.take (i + 1), p y = true := by
 intro y hy;rw [Pq h, List.mem_append] at hy;rcases hy with hy | hy
 · exact h1 y hy
 · simp at hy; subst hy; exact h2
theorem ID {p : Int → Bool} {a : List Int} {i : Nat} (h : i < a.length) (h2 : p a[i] = false) : a.all p = false := by
 rw [List.all_eq_false];exact ⟨a[i], List.getElem_mem _, by simp [h2]⟩
theorem IE {p : Int → Bool} {a : List Int} {i : Nat} (h : a.length ≤ i) (h1 : ∀ y ∈ a.take i, p y = true) : a.all p = true := by
 rw [List.take_of_length_le h] at h1;exact List.all_eq_true.2 h1
theorem zN (x : bp) (hs : x.ah.length ≤ aR) (b : Bool) (hb : b = cw x) : Spec Tryz.prog 70 [gu x] (aE (bR fun _ => b)) := by
 refine aH ay Tryz.func70 rfl rfl (fr := true) (fun _ => by kernel_rfl) fun P hP hA => ?_;have hn : x.ah.length ≤ 1048576 := hs;cbv;refine ag.by hP (da x.ah.length 1 4) ?_;cbv;refine Br.split (fun h0 => ?_) (fun h0 => ?_) <;> cbv
 · refine ⟨?_, trivial⟩;have h0 : aj x.ah.length 1 4 = false := by simpa using h0
   simp [hb, cw, h0]
 have h0 : aj x.ah.length 1 4 = true := by simpa using h0
 refine ag.by hP (da x.cm 1 5) ?_;cbv;refine Br.split (fun h1 => ?_) (fun h1 => ?_) <;> cbv
 · refine ⟨?_, trivial⟩;have h1 : aj x.cm 1 5 = false := by simpa using h1
   simp [hb, cw, h0, h1]
 have h1 : aj x.cm 1 5 = true := by simpa using h1
 refine ag.by hP (da x.room 1 10) ?_;cbv;refine Br.split (fun h2 => ?_) (fun h2 => ?_) <;> cbv
 · refine ⟨?_, trivial⟩;have h2 : aj x.room 1 10 = false := by simpa using h2
   simp [hb, cw, h0, h1, h2]
 have h2 : aj x.room 1 10 = true := by simpa using h2
 refine ag.by hP (da x.size 1 6) ?_;cbv;refine Br.split (fun h3 => ?_) (fun h3 => ?_) <;> cbv
 · refine ⟨?_, trivial⟩;have h3 : aj x.size 1 6 = false := by simpa using h3
   simp [hb, cw, h0, h1, h2, h3]
 have h3 : aj x.size 1 6 = true := by simpa using h3
 refine ag.by hP (da x.period 1 12) ?_;cbv;refine Br.split (fun h4 => ?_) (fun h4 => ?_) <;> cbv
 · refine ⟨?_, trivial⟩;have h4 : aj x.period 1 12 = false := by simpa using h4
   simp [hb, cw, h0, h1, h2, h3, h4]
 have h4 : aj x.period 1 12 = true := by simpa using h4
 have g0 := h0;have g1 := h1;have g2 := h2;have g3 := h3;have g4 := h4;refine aT.by (X := Nat) (fun i => [(1, pN 0), (3, nT fun _ => i)]) (fun _ => [(0, .box [.lf (.list .int fun _ => x.ah), .lf (.int .i64 fun _ => x.cm), .lf (.int .i64 fun _ => x.room), .lf (.int .i64 fun _ => x.size), .lf (.int .i64 fun _ => x.period), .lf (.int .i64 fun _ => x.ck), .lf (.int .i64 fun _ => x.rest), .lf (.int .i64 fun _ => x.tries), .lf (.int .i64 fun _ => x.bP)])]) (fun i => i ≤ x.ah.length ∧ ∀ y ∈ x.ah.take i, aj y 1 60 = true) (fun i _ => x.ah.length - i) 0 ⟨Nat.zero_le _, by simp⟩ ?_ ?_
 · cbv
   repeat' first | exact trivial | refine ⟨rfl, ?_⟩ | fail
 · intro i ⟨hi, ht⟩;cbv;refine Br.dec (fun h2 => ?_) (fun h2 => ?_) <;> cbv
   · have h2 : (i : Int) < (x.ah.length : Int) := h2;have h2 : i < x.ah.length := by omega
     refine ⟨x.ah[i], by simp, get_cast x.ah h2, ?_⟩;cbv;refine ag.by hP (da x.ah[i] 1 60) ?_;cbv;refine Br.split (fun h3 => ?_) (fun h3 => ?_) <;> cbv
     · refine ⟨?_, trivial⟩;have h3 : aj x.ah[i] 1 60 = false := by simpa using h3
       have h3 : x.ah.all (fun y => aj y 1 60) = false := ID (p := fun y => aj y 1 60) h2 h3;simp [hb, cw, g0, g1, g2, g3, g4, h3]
     have h3 : aj x.ah[i] 1 60 = true := by simpa using h3
     refine Ar.exact ?_ ?_ ?_
     · show -9223372036854775808 ≤ (i : Int) + 1;omega
     · show (i : Int) + 1 ≤ 9223372036854775807;omega
     cbv;refine aJ.by (i + 1) ?_ ?_ ?_
     · show x.ah.length - (i + 1) < x.ah.length - i;omega
     · exact ⟨h2, IC (p := fun y => aj y 1 60) h2 ht h3⟩
     · cbv
       repeat' first | exact trivial | refine ⟨rfl, ?_⟩ | fail
   have h2 : ¬ (i : Int) < (x.ah.length : Int) := h2;have h2 : x.ah.length ≤ i := by omega
   have gD : x.ah.all (fun y => aj y 1 60) = true := IE (p := fun y => aj y 1 60) h2 ht;refine ag.by hP (da x.ck 1 8) ?_;cbv;refine Br.split (fun k0 => ?_) (fun k0 => ?_) <;> cbv
   rotate_left
   · refine ⟨?_, trivial⟩;have k0 : aj x.ck 1 8 = false := by simpa using k0
     simp [hb, cw, g0, g1, g2, g3, g4, gD, k0]
   have k0 : aj x.ck 1 8 = true := by simpa using k0
   refine ag.by hP (da x.rest 0 8) ?_;cbv;refine Br.split (fun k1 => ?_) (fun k1 => ?_) <;> cbv
   rotate_left
   · refine ⟨?_, trivial⟩;have k1 : aj x.rest 0 8 = false := by simpa using k1
     simp [hb, cw, g0, g1, g2, g3, g4, gD, k0, k1]
   have k1 : aj x.rest 0 8 = true := by simpa using k1
   refine ag.by hP (da x.tries 1 4) ?_;cbv;refine Br.split (fun k2 => ?_) (fun k2 => ?_) <;> cbv
   rotate_left
   · refine ⟨?_, trivial⟩;have k2 : aj x.tries 1 4 = false := by simpa using k2
     simp [hb, cw, g0, g1, g2, g3, g4, gD, k0, k1, k2]
   have k2 : aj x.tries 1 4 = true := by simpa using k2
   refine ag.by hP (da x.bP 1 3) ?_;cbv;refine ⟨?_, trivial⟩;simp [hb, cw, g0, g1, g2, g3, g4, gD, k0, k1, k2]
theorem Dt (x : bp) (hs : x.ah.length ≤ aR) (b : Bool) (hb : b = cw x) : Spec Tryz.prog 124 [gu x] (aE (bR fun _ => b)) := by
 refine aH ay Tryz.func124 rfl rfl (fr := true) (fun _ => by kernel_rfl) fun P hP hA => ?_;have hn : x.ah.length ≤ 1048576 := hs;cbv;refine ag.by hP (cV x.ah.length 1 4) ?_;cbv
 repeat (refine Pz.mk ?_; cbv)
 refine Br.split (fun h0 => ?_) (fun h0 => ?_) <;> (cbv; repeat (refine Pz.mk ?_; cbv))
 · refine ⟨?_, trivial⟩;have h0 : aj x.ah.length 1 4 = false := by simpa using h0
   simp [hb, cw, h0]
 have h0 : aj x.ah.length 1 4 = true := by simpa using h0
 have g0 := h0;refine aT.by (X := Nat) (fun i => [(1, pN 0), (11, lT .int fun _ => x.ah), (12, nT fun _ => x.ah.length), (13, nT fun _ => i)]) (fun _ => [(0, .box [.lf (.list .int fun _ => x.ah), .lf (.int .i64 fun _ => x.cm), .lf (.int .i64 fun _ => x.room), .lf (.int .i64 fun _ => x.size), .lf (.int .i64 fun _ => x.period), .lf (.int .i64 fun _ => x.ck), .lf (.int .i64 fun _ => x.rest), .lf (.int .i64 fun _ => x.tries), .lf (.int .i64 fun _ => x.bP)])]) (fun i => i ≤ x.ah.length ∧ ∀ y ∈ x.ah.take i, aj y 1 60 = true) (fun i _ => x.ah.length - i) 0 ⟨Nat.zero_le _, by simp⟩ ?_ ?_
 · cbv
   repeat' first | exact trivial | refine ⟨rfl, ?_⟩ | fail
 · intro i ⟨hi, ht⟩;cbv;refine Br.dec (fun h2 => ?_) (fun h2 => ?_) <;> (cbv; repeat (refine Pz.mk ?_; cbv))
   · have h2 : (i : Int) < (x.ah.length : Int) := h2;have h2 : i < x.ah.length := by omega
     refine ⟨x.ah[i], by simp, get_cast x.ah h2, ?_⟩;cbv;refine ag.by hP (cV x.ah[i] 1 60) ?_;cbv
     repeat (refine Pz.mk ?_; cbv)
     refine Br.split (fun h3 => ?_) (fun h3 => ?_) <;> (cbv; repeat (refine Pz.mk ?_; cbv))
     · refine ⟨?_, trivial⟩;have h3 : aj x.ah[i] 1 60 = false := by simpa using h3
       have h3 : x.ah.all (fun y => aj y 1 60) = false := ID (p := fun y => aj y 1 60) h2 h3;simp [hb, cw, g0, h3]
     have h3 : aj x.ah[i] 1 60 = true := by simpa using h3
     refine Ar.exact ?_ ?_ ?_
     · show -9223372036854775808 ≤ (i : Int) + 1;omega
     · show (i : Int) + 1 ≤ 9223372036854775807;omega
     cbv;refine aJ.by (i + 1) ?_ ?_ ?_
     · show x.ah.length - (i + 1) < x.ah.length - i;omega
     · exact ⟨h2, IC (p := fun y => aj y 1 60) h2 ht h3⟩
     · cbv
       repeat' first | exact trivial | refine ⟨rfl, ?_⟩ | fail
   have h2 : ¬ (i : Int) < (x.ah.length : Int) := h2;have h2 : x.ah.length ≤ i := by omega
   have gD : x.ah.all (fun y => aj y 1 60) = true := IE (p := fun y => aj y 1 60) h2 ht;refine ag.by hP (cV x.cm 1 5) ?_;cbv
   repeat (refine Pz.mk ?_; cbv)
   refine Br.split (fun k0 => ?_) (fun k0 => ?_) <;> (cbv; repeat (refine Pz.mk ?_; cbv))
   rotate_left
   · refine ⟨?_, trivial⟩;have k0 : aj x.cm 1 5 = false := by simpa using k0
     simp [hb, cw, g0, gD, k0]
   have k0 : aj x.cm 1 5 = true := by simpa using k0
   refine ag.by hP (cV x.room 1 10) ?_;cbv
   repeat (refine Pz.mk ?_; cbv)
   refine Br.split (fun k1 => ?_) (fun k1 => ?_) <;> (cbv; repeat (refine Pz.mk ?_; cbv))
   rotate_left
   · refine ⟨?_, trivial⟩;have k1 : aj x.room 1 10 = false := by simpa using k1
     simp [hb, cw, g0, gD, k0, k1]
   have k1 : aj x.room 1 10 = true := by simpa using k1
   refine ag.by hP (cV x.size 1 6) ?_;cbv
   repeat (refine Pz.mk ?_; cbv)
   refine Br.split (fun k2 => ?_) (fun k2 => ?_) <;> (cbv; repeat (refine Pz.mk ?_; cbv))
   rotate_left
   · refine ⟨?_, trivial⟩;have k2 : aj x.size 1 6 = false := by simpa using k2
     simp [hb, cw, g0, gD, k0, k1, k2]
   have k2 : aj x.size 1 6 = true := by simpa using k2
   refine ag.by hP (cV x.period 1 12) ?_;cbv
   repeat (refine Pz.mk ?_; cbv)
   refine Br.split (fun k3 => ?_) (fun k3 => ?_) <;> (cbv; repeat (refine Pz.mk ?_; cbv))
   rotate_left
   · refine ⟨?_, trivial⟩;have k3 : aj x.period 1 12 = false := by simpa using k3
     simp [hb, cw, g0, gD, k0, k1, k2, k3]
   have k3 : aj x.period 1 12 = true := by simpa using k3
   refine ag.by hP (cV x.ck 1 8) ?_;cbv
   repeat (refine Pz.mk ?_; cbv)
   refine Br.split (fun k4 => ?_) (fun k4 => ?_) <;> (cbv; repeat (refine Pz.mk ?_; cbv))
   rotate_left
   · refine ⟨?_, trivial⟩;have k4 : aj x.ck 1 8 = false := by simpa using k4
     simp [hb, cw, g0, gD, k0, k1, k2, k3, k4]
   have k4 : aj x.ck 1 8 = true := by simpa using k4
   refine ag.by hP (cV x.tries 1 4) ?_;cbv
   repeat (refine Pz.mk ?_; cbv)
   refine Br.split (fun k5 => ?_) (fun k5 => ?_) <;> (cbv; repeat (refine Pz.mk ?_; cbv))
   rotate_left
   · refine ⟨?_, trivial⟩;have k5 : aj x.tries 1 4 = false := by simpa using k5
     simp [hb, cw, g0, gD, k0, k1, k2, k3, k4, k5]
   have k5 : aj x.tries 1 4 = true := by simpa using k5
   refine ag.by hP (cV x.bP 1 3) ?_;cbv
   repeat (refine Pz.mk ?_; cbv)
   refine Br.split (fun k6 => ?_) (fun k6 => ?_) <;> (cbv; repeat (refine Pz.mk ?_; cbv))
   rotate_left
   · refine ⟨?_, trivial⟩;have k6 : aj x.bP 1 3 = false := by simpa using k6
     simp [hb, cw, g0, gD, k0, k1, k2, k3, k4, k5, k6]
   have k6 : aj x.bP 1 3 = true := by simpa using k6
   refine ag.by hP (cV x.rest 0 8) ?_;cbv
   repeat (refine Pz.mk ?_; cbv)
   refine ⟨?_, trivial⟩;simp [hb, cw, g0, gD, k0, k1, k2, k3, k4, k5, k6]
theorem zO (a : List Int) (hn : a.length ≤ aR) : Spec Tryz.prog 139 [lA .int a] (aE (lR .int fun _ => a)) := by
 refine aH ay Tryz.func139 rfl rfl (fr := true) (fun _ => by kernel_rfl) fun P hP hA => ?_;have hn : a.length ≤ 1048576 := hn;cbv;refine ⟨?_, ?_⟩
 · show (0 + a.length) * 8 ≤ 140737488355328;omega
 cbv;exact ⟨rfl, trivial⟩
theorem Pr (x : bp) (hs : x.ah.length ≤ aR) : Spec Tryz.prog 138 [gu x] (aE (Dp fun _ => x)) := by
 refine aH ay Tryz.func138 rfl rfl (fr := true) (fun _ => by kernel_rfl) fun P hP hA => ?_;cbv;refine ag.by hP (zO x.ah hs) ?_;cbv;exact ⟨rfl, rfl, rfl, rfl, rfl, rfl, rfl, rfl, rfl, trivial⟩
theorem Ps (x : bp) (hs : x.ah.length ≤ aR) : Spec Tryz.prog 216 [gu x] (aE (Dp fun _ => x)) := by
 refine aH ay Tryz.func216 rfl rfl (fr := true) (fun _ => by kernel_rfl) fun P hP hA => ?_;have hn : x.ah.length ≤ 1048576 := hs;cbv;refine ⟨?_, ?_⟩
 · show (0 + x.ah.length) * 8 ≤ 140737488355328;omega
 cbv;exact ⟨rfl, rfl, rfl, rfl, rfl, rfl, rfl, rfl, rfl, trivial⟩
structure Pt (x : bp) : Prop where
 len : 1 ≤ x.ah.length ∧ x.ah.length ≤ 4
 cm : 1 ≤ x.cm ∧ x.cm ≤ 5
 room : 1 ≤ x.room ∧ x.room ≤ 10
 size : 1 ≤ x.size ∧ x.size ≤ 6
 period : 1 ≤ x.period ∧ x.period ≤ 12
 ck : 1 ≤ x.ck ∧ x.ck ≤ 8
 tries : 1 ≤ x.tries ∧ x.tries ≤ 4
 bP : 1 ≤ x.bP ∧ x.bP ≤ 3
 rest : 0 ≤ x.rest ∧ x.rest ≤ 8
theorem dO {x : bp} (h : cw x = true) : Pt x := by
 simp only [cw, Bool.and_eq_true, List.all_eq_true] at h;obtain ⟨h1, _, h2, h3, h4, h5, h6, h7, h8, h9⟩ := h;have h1 := bB h1;exact ⟨by omega, bB h2, bB h3, bB h4, bB h5, bB h6, bB h7, bB h8, bB h9⟩
theorem nk (n sz : Int) (h0 : 0 ≤ sz) (h1 : sz ≤ 9223372036854775807) : Spec Tryz.prog 66 [iA n, iA sz] (aE (bR fun _ => aj n 0 (sz - 1))) := by
 have e : (fun _ : Unit => aj n 0 (sz - 1)) = fun _ => (decide (0 ≤ n) && decide (n < sz)) := by
  funext _
  unfold aj;rw [Bool.eq_iff_iff]; simp only [Bool.and_eq_true, decide_eq_true_eq]; omega
 rw [e];exact Pe n sz h0 h1
def bF (R : bp) (p : au) (now : Int) : Bool :=
 cw R && (aj now 0 1000000 && (aj p.id 1 999 && (aj p.cf 0 (R.ah.length - 1) && (aj p.al (-1) (R.ah.length - 1) && (!(p.al == p.cf) &&
  (aj p.siz 1 R.size && (aj p.aK 0 (R.cm - 1) && (aj p.since 0 now && (aj p.aw 1 1000000 && (aj p.asked 0 (R.tries - 1) &&
   ((p.st == 1 && aj p.bW 0 (now + R.rest)) || (p.st == 2 && aj p.bW 1 (now + R.ck)))))))))))))
theorem IF (R : bp) (p : au) (now : Int) (hs : R.ah.length ≤ aR) (b : Bool) (hb : b = bF R p now) : Spec Tryz.prog 90 [gu R, eA .az p, iA now] (aE (bR fun _ => b)) := by
 refine aH ay Tryz.func90 rfl rfl (fr := true) (fun _ => by kernel_rfl) fun P hP hA => ?_;have hn : R.ah.length ≤ 1048576 := hs;cbv;refine ag.by hP (zN R hs (cw R) rfl) ?_;cbv
 repeat (refine Pz.mk ?_; cbv)
 refine Br.split (fun h0 => ?_) (fun h0 => ?_) <;> (cbv; repeat (refine Pz.mk ?_; cbv))
 · refine ⟨?_, trivial⟩;have h0 : cw R = false := by simpa using h0
   simp [hb, bF, h0]
 have h0 : cw R = true := by simpa using h0
 obtain ⟨⟨a1, a2⟩, ⟨b1, b2⟩, _, ⟨d1, d2⟩, _, ⟨f1, f2⟩, ⟨g1, g2⟩, _, ⟨i1, i2⟩⟩ := dO h0;refine ag.by hP (da now 0 1000000) ?_;cbv
 repeat (refine Pz.mk ?_; cbv)
 refine Br.split (fun h1 => ?_) (fun h1 => ?_) <;> (cbv; repeat (refine Pz.mk ?_; cbv))
 · refine ⟨?_, trivial⟩;have h1 : aj now 0 1000000 = false := by simpa using h1
   simp [hb, bF, h0, h1]
 have h1 : aj now 0 1000000 = true := by simpa using h1
 obtain ⟨n1, n2⟩ := bB h1;refine ag.by hP (da p.id 1 999) ?_;cbv
 repeat (refine Pz.mk ?_; cbv)
 refine Br.split (fun h2 => ?_) (fun h2 => ?_) <;> (cbv; repeat (refine Pz.mk ?_; cbv))
 · refine ⟨?_, trivial⟩;have h2 : aj p.id 1 999 = false := by simpa using h2
   simp [hb, bF, h0, h1, h2]
 have h2 : aj p.id 1 999 = true := by simpa using h2
 refine Ar.exact ?_ ?_ ?_
 · show -9223372036854775808 ≤ (R.ah.length : Int) - 1;omega
 · show (R.ah.length : Int) - 1 ≤ 9223372036854775807;omega
 cbv;refine ag.by hP (da p.cf 0 ((R.ah.length : Int) - 1)) ?_;cbv
 repeat (refine Pz.mk ?_; cbv)
 refine Br.split (fun h3 => ?_) (fun h3 => ?_) <;> (cbv; repeat (refine Pz.mk ?_; cbv))
 · refine ⟨?_, trivial⟩;have h3 : aj p.cf 0 ((R.ah.length : Int) - 1) = false := by simpa using h3
   simp [hb, bF, h0, h1, h2, h3]
 have h3 : aj p.cf 0 ((R.ah.length : Int) - 1) = true := by simpa using h3
 refine Ar.exact ?_ ?_ ?_
 · show -9223372036854775808 ≤ (R.ah.length : Int) - 1;omega
 · show (R.ah.length : Int) - 1 ≤ 9223372036854775807;omega
 cbv;refine ag.by hP (da p.al (-1) ((R.ah.length : Int) - 1)) ?_;cbv
 repeat (refine Pz.mk ?_; cbv)
 refine Br.split (fun h4 => ?_) (fun h4 => ?_) <;> (cbv; repeat (refine Pz.mk ?_; cbv))
 · refine ⟨?_, trivial⟩;have h4 : aj p.al (-1) ((R.ah.length : Int) - 1) = false := by simpa using h4
   simp [hb, bF, h0, h1, h2, h3, h4]
 have h4 : aj p.al (-1) ((R.ah.length : Int) - 1) = true := by simpa using h4
 refine Br.split (fun h5 => ?_) (fun h5 => ?_) <;> (cbv; repeat (refine Pz.mk ?_; cbv))
 · refine ⟨?_, trivial⟩;have h5 : (p.al == p.cf) = true := h5;simp [hb, bF, h0, h1, h2, h3, h4, h5]
 have h5 : (!(p.al == p.cf)) = true := by simpa using h5
 refine ag.by hP (da p.siz 1 R.size) ?_;cbv
 repeat (refine Pz.mk ?_; cbv)
 refine Br.split (fun h6 => ?_) (fun h6 => ?_) <;> (cbv; repeat (refine Pz.mk ?_; cbv))
 · refine ⟨?_, trivial⟩;have h6 : aj p.siz 1 R.size = false := by simpa using h6
   simp [hb, bF, h0, h1, h2, h3, h4, h5, h6]
 have h6 : aj p.siz 1 R.size = true := by simpa using h6
 refine Ar.exact ?_ ?_ ?_
 · show -9223372036854775808 ≤ R.cm - 1;omega
 · show R.cm - 1 ≤ 9223372036854775807;omega
 cbv;refine ag.by hP (da p.aK 0 (R.cm - 1)) ?_;cbv
 repeat (refine Pz.mk ?_; cbv)
 refine Br.split (fun h7 => ?_) (fun h7 => ?_) <;> (cbv; repeat (refine Pz.mk ?_; cbv))
 · refine ⟨?_, trivial⟩;have h7 : aj p.aK 0 (R.cm - 1) = false := by simpa using h7
   simp [hb, bF, h0, h1, h2, h3, h4, h5, h6, h7]
 have h7 : aj p.aK 0 (R.cm - 1) = true := by simpa using h7
 refine ag.by hP (da p.since 0 now) ?_;cbv
 repeat (refine Pz.mk ?_; cbv)
 refine Br.split (fun h8 => ?_) (fun h8 => ?_) <;> (cbv; repeat (refine Pz.mk ?_; cbv))
 · refine ⟨?_, trivial⟩;have h8 : aj p.since 0 now = false := by simpa using h8
   simp [hb, bF, h0, h1, h2, h3, h4, h5, h6, h7, h8]
 have h8 : aj p.since 0 now = true := by simpa using h8
 refine ag.by hP (da p.aw 1 1000000) ?_;cbv
 repeat (refine Pz.mk ?_; cbv)
 refine Br.split (fun h9 => ?_) (fun h9 => ?_) <;> (cbv; repeat (refine Pz.mk ?_; cbv))
 · refine ⟨?_, trivial⟩;have h9 : aj p.aw 1 1000000 = false := by simpa using h9
   simp [hb, bF, h0, h1, h2, h3, h4, h5, h6, h7, h8, h9]
 have h9 : aj p.aw 1 1000000 = true := by simpa using h9
 refine Ar.exact ?_ ?_ ?_
 · show -9223372036854775808 ≤ R.tries - 1;omega
 · show R.tries - 1 ≤ 9223372036854775807;omega
 cbv;refine ag.by hP (da p.asked 0 (R.tries - 1)) ?_;cbv
 repeat (refine Pz.mk ?_; cbv)
 refine Br.split (fun bw => ?_) (fun bw => ?_) <;> (cbv; repeat (refine Pz.mk ?_; cbv))
 · refine ⟨?_, trivial⟩;have bw : aj p.asked 0 (R.tries - 1) = false := by simpa using bw
   simp [hb, bF, h0, h1, h2, h3, h4, h5, h6, h7, h8, h9, bw]
 have bw : aj p.asked 0 (R.tries - 1) = true := by simpa using bw
 have e : b = ((p.st == 1 && aj p.bW 0 (now + R.rest)) || (p.st == 2 && aj p.bW 1 (now + R.ck))) := by simp [hb, bF, h0, h1, h2, h3, h4, h5, h6, h7, h8, h9, bw]
 clear hb h0 h2 h3 h4 h5 h6 h7 h8 h9 bw
 repeat' first
   | (refine Ar.exact (t := fun _ => now + R.rest) (by show -9223372036854775808 ≤ now + R.rest; omega) (by show now + R.rest ≤ 9223372036854775807; omega) ?_; cbv)
   | (refine Ar.exact (t := fun _ => now + R.ck) (by show -9223372036854775808 ≤ now + R.ck; omega) (by show now + R.ck ≤ 9223372036854775807; omega) ?_; cbv)
   | (refine ag.by hP (da p.bW 0 (now + R.rest)) ?_; cbv)
   | (refine ag.by hP (da p.bW 1 (now + R.ck)) ?_; cbv)
   | (refine Br.split (fun h => ?_) (fun h => ?_) <;> cbv)
 all_goals refine ⟨?_, trivial⟩
 all_goals simp_all
theorem zP (R : bp) (p : au) (now : Int) (hs : R.ah.length ≤ aR) (b : Bool) (hb : b = bF R p now) : Spec Tryz.prog 88 [gu R, eA .az p, iA now] (aE (bR fun _ => b)) := by
 refine aH ay Tryz.func88 rfl rfl (fr := true) (fun _ => by kernel_rfl) fun P hP hA => ?_;have hn : R.ah.length ≤ 1048576 := hs;cbv;refine ag.by hP (Dt R hs (cw R) rfl) ?_;cbv
 repeat (refine Pz.mk ?_; cbv)
 refine Br.split (fun h0 => ?_) (fun h0 => ?_) <;> (cbv; repeat (refine Pz.mk ?_; cbv))
 · refine ⟨?_, trivial⟩;have h0 : cw R = false := by simpa using h0
   simp [hb, bF, h0]
 have h0 : cw R = true := by simpa using h0
 obtain ⟨⟨a1, a2⟩, ⟨b1, b2⟩, _, ⟨d1, d2⟩, _, ⟨f1, f2⟩, ⟨g1, g2⟩, _, ⟨i1, i2⟩⟩ := dO h0;refine ag.by hP (cV now 0 1000000) ?_;cbv
 repeat (refine Pz.mk ?_; cbv)
 refine Br.split (fun h1 => ?_) (fun h1 => ?_) <;> (cbv; repeat (refine Pz.mk ?_; cbv))
 · refine ⟨?_, trivial⟩;have h1 : aj now 0 1000000 = false := by simpa using h1
   simp [hb, bF, h0, h1]
 have h1 : aj now 0 1000000 = true := by simpa using h1
 obtain ⟨n1, n2⟩ := bB h1;refine ag.by hP (cV p.id 1 999) ?_;cbv
 repeat (refine Pz.mk ?_; cbv)
 refine Br.split (fun h2 => ?_) (fun h2 => ?_) <;> (cbv; repeat (refine Pz.mk ?_; cbv))
 · refine ⟨?_, trivial⟩;have h2 : aj p.id 1 999 = false := by simpa using h2
   simp [hb, bF, h0, h1, h2]
 have h2 : aj p.id 1 999 = true := by simpa using h2
 refine ag.by hP (nk p.cf (R.ah.length : Int) (by omega) (by omega)) ?_;cbv
 repeat (refine Pz.mk ?_; cbv)
 refine Br.split (fun h3 => ?_) (fun h3 => ?_) <;> (cbv; repeat (refine Pz.mk ?_; cbv))
 · refine ⟨?_, trivial⟩;have h3 : aj p.cf 0 ((R.ah.length : Int) - 1) = false := by simpa using h3
   simp [hb, bF, h0, h1, h2, h3]
 have h3 : aj p.cf 0 ((R.ah.length : Int) - 1) = true := by simpa using h3
 refine Ar.exact ?_ ?_ ?_
 · show -9223372036854775808 ≤ (R.ah.length : Int) - 1;omega
 · show (R.ah.length : Int) - 1 ≤ 9223372036854775807;omega
 cbv;refine ag.by hP (cV p.al (-1) ((R.ah.length : Int) - 1)) ?_;cbv
 repeat (refine Pz.mk ?_; cbv)
 refine Br.split (fun h4 => ?_) (fun h4 => ?_) <;> (cbv; repeat (refine Pz.mk ?_; cbv))
 · refine ⟨?_, trivial⟩;have h4 : aj p.al (-1) ((R.ah.length : Int) - 1) = false := by simpa using h4
   simp [hb, bF, h0, h1, h2, h3, h4]
 have h4 : aj p.al (-1) ((R.ah.length : Int) - 1) = true := by simpa using h4
 refine Br.split (fun h5 => ?_) (fun h5 => ?_) <;> (cbv; repeat (refine Pz.mk ?_; cbv))
 · refine ⟨?_, trivial⟩;have h5 : (p.al == p.cf) = true := h5;simp [hb, bF, h0, h1, h2, h3, h4, h5]
 have h5 : (!(p.al == p.cf)) = true := by simpa using h5
 refine ag.by hP (cV p.siz 1 R.size) ?_;cbv
 repeat (refine Pz.mk ?_; cbv)
 refine Br.split (fun h6 => ?_) (fun h6 => ?_) <;> (cbv; repeat (refine Pz.mk ?_; cbv))
 · refine ⟨?_, trivial⟩;have h6 : aj p.siz 1 R.size = false := by simpa using h6
   simp [hb, bF, h0, h1, h2, h3, h4, h5, h6]
 have h6 : aj p.siz 1 R.size = true := by simpa using h6
 refine ag.by hP (nk p.aK R.cm (by omega) (by omega)) ?_;cbv
 repeat (refine Pz.mk ?_; cbv)
 refine Br.split (fun h7 => ?_) (fun h7 => ?_) <;> (cbv; repeat (refine Pz.mk ?_; cbv))
 · refine ⟨?_, trivial⟩;have h7 : aj p.aK 0 (R.cm - 1) = false := by simpa using h7
   simp [hb, bF, h0, h1, h2, h3, h4, h5, h6, h7]
 have h7 : aj p.aK 0 (R.cm - 1) = true := by simpa using h7
 refine ag.by hP (cV p.since 0 now) ?_;cbv
 repeat (refine Pz.mk ?_; cbv)
 refine Br.split (fun h8 => ?_) (fun h8 => ?_) <;> (cbv; repeat (refine Pz.mk ?_; cbv))
 · refine ⟨?_, trivial⟩;have h8 : aj p.since 0 now = false := by simpa using h8
   simp [hb, bF, h0, h1, h2, h3, h4, h5, h6, h7, h8]
 have h8 : aj p.since 0 now = true := by simpa using h8
 refine ag.by hP (cV p.aw 1 1000000) ?_;cbv
 repeat (refine Pz.mk ?_; cbv)
 refine Br.split (fun h9 => ?_) (fun h9 => ?_) <;> (cbv; repeat (refine Pz.mk ?_; cbv))
 · refine ⟨?_, trivial⟩;have h9 : aj p.aw 1 1000000 = false := by simpa using h9
   simp [hb, bF, h0, h1, h2, h3, h4, h5, h6, h7, h8, h9]
 have h9 : aj p.aw 1 1000000 = true := by simpa using h9
 refine ag.by hP (nk p.asked R.tries (by omega) (by omega)) ?_;cbv
 repeat (refine Pz.mk ?_; cbv)
 refine Br.split (fun bw => ?_) (fun bw => ?_) <;> (cbv; repeat (refine Pz.mk ?_; cbv))
 · refine ⟨?_, trivial⟩;have bw : aj p.asked 0 (R.tries - 1) = false := by simpa using bw
   simp [hb, bF, h0, h1, h2, h3, h4, h5, h6, h7, h8, h9, bw]
 have bw : aj p.asked 0 (R.tries - 1) = true := by simpa using bw
 have e : b = ((p.st == 1 && aj p.bW 0 (now + R.rest)) || (p.st == 2 && aj p.bW 1 (now + R.ck))) := by simp [hb, bF, h0, h1, h2, h3, h4, h5, h6, h7, h8, h9, bw]
 clear hb h0 h2 h3 h4 h5 h6 h7 h8 h9 bw
 repeat' first
   | (refine Ar.exact (t := fun _ => now + R.rest) (by show -9223372036854775808 ≤ now + R.rest; omega) (by show now + R.rest ≤ 9223372036854775807; omega) ?_; cbv)
   | (refine Ar.exact (t := fun _ => now + R.ck) (by show -9223372036854775808 ≤ now + R.ck; omega) (by show now + R.ck ≤ 9223372036854775807; omega) ?_; cbv)
   | (refine ag.by hP (cV p.bW 0 (now + R.rest)) ?_; cbv)
   | (refine ag.by hP (cV p.bW 1 (now + R.ck)) ?_; cbv)
   | (refine Br.split (fun h => ?_) (fun h => ?_) <;> cbv)
 all_goals refine ⟨?_, trivial⟩
 all_goals simp_all
def eT (p : au) (now : Int) : Bool := p.st == 2 && decide (p.bW ≤ now)
def mw (p : au) (now : Int) : Bool := p.st == 1 && decide (p.bW > now)
theorem IG (p : au) (now : Int) : Spec Tryz.prog 122 [eA .az p, iA now] (aE (bR fun _ => eT p now)) := by
 refine aH ay Tryz.func122 rfl rfl (fr := true) (fun _ => by kernel_rfl) fun P hP hA => ?_;cbv;refine Br.split (fun h => ?_) (fun h => ?_) <;> cbv
 · refine ⟨?_, trivial⟩;simp_all [eT]
 · refine ⟨?_, trivial⟩;simp_all [eT]
theorem Du (p : au) (now : Int) : Spec Tryz.prog 69 [eA .az p, iA now] (aE (bR fun _ => eT p now)) := by
 refine aH ay Tryz.func69 rfl rfl (fr := true) (fun _ => by kernel_rfl) fun P hP hA => ?_;cbv;refine Br.split (fun h => ?_) (fun h => ?_) <;> cbv
 · refine ⟨?_, trivial⟩;simp_all [eT]
 · refine ⟨?_, trivial⟩;simp_all [eT]
theorem z8 (p : au) (now : Int) : Spec Tryz.prog 210 [eA .az p, iA now] (aE (bR fun _ => mw p now)) := by
 refine aH ay Tryz.func210 rfl rfl (fr := true) (fun _ => by kernel_rfl) fun P hP hA => ?_;cbv;refine Br.split (fun h => ?_) (fun h => ?_) <;> cbv
 · refine ⟨?_, trivial⟩;simp_all [mw]
 · refine ⟨?_, trivial⟩;simp_all [mw]
theorem my {α : Type} (z : α → Nat) {a : List α} {i : Nat} (h : i < a.length) (hv : z a[i] = 0) : ((aV z (a.take i) : Nat) : Int) = ((aV z (a.take (i + 1)) : Nat) : Int) := by
 rw [IH z h, hv, Nat.add_zero]
theorem vn {α : Type} (z : α → Nat) {a : List α} {i : Nat} (h : i < a.length) {v : Int} (hv : ((z a[i] : Nat) : Int) = v) : ((aV z (a.take i) : Nat) : Int) + v = ((aV z (a.take (i + 1)) : Nat) : Int) := by
 rw [IH z h, ← hv]; omega
def bx (c : Int) (p : au) : Nat := if (p.cf == c) = true then 1 else 0
def mz (c : Int) (p : au) : Bool := p.st == 2 && (p.cf == c && aj p.siz 1 6)
def k_ (c : Int) (p : au) : Bool := p.al == c && aj p.siz 1 6
def cp (c : Int) (p : au) : Nat := if mz c p = true then p.siz.toNat else 0
def cz (c : Int) (p : au) : Nat := if k_ c p = true then p.siz.toNat else 0
theorem II (c : Int) (a : List au) (hn : a.length ≤ aR) (i : Nat) : aV (bx c) (a.take i) ≤ 1048576 := by
 have hn : a.length ≤ 1048576 := hn;exact Dv _ 1 1048576 (a.take i) (fun x _ => by unfold bx; split <;> omega) (by rw [List.length_take]; omega)
theorem Dw (c : Int) (a : List au) (hn : a.length ≤ aR) (i : Nat) : aV (cp c) (a.take i) ≤ 6291456 := by
 have hn : a.length ≤ 1048576 := hn
 exact Dv _ 6 1048576 (a.take i) (fun x _ => by
  unfold cp; split
  · rename_i h; simp only [mz, Bool.and_eq_true] at h; have := bB h.2.2; omega
  · omega) (by rw [List.length_take]; omega)
theorem Dx (c : Int) (a : List au) (hn : a.length ≤ aR) (i : Nat) : aV (cz c) (a.take i) ≤ 6291456 := by
 have hn : a.length ≤ 1048576 := hn
 exact Dv _ 6 1048576 (a.take i) (fun x _ => by
  unfold cz; split
  · rename_i h; simp only [k_, Bool.and_eq_true] at h; have := bB h.2; omega
  · omega) (by rw [List.length_take]; omega)
theorem xu (a : List au) (c : Int) (hn : a.length ≤ aR) : Spec Tryz.prog 29 [lA .az a, iA c] (aE (nR fun _ => aV (bx c) a)) := by
 refine aH ay Tryz.func29 rfl rfl (fr := true) (fun _ => by kernel_rfl) fun P hP hA => ?_;have lg : a.length ≤ 1048576 := hn;cbv;refine aT.by (X := Nat) (fun i => [(0, lA .az a), (1, iA c), (5, nT fun _ => aV (bx c) (a.take i)), (6, nT fun _ => i)]) (fun _ => []) (fun i => i ≤ a.length) (fun i _ => a.length - i) 0 (Nat.zero_le _) ?_ ?_
 · cbv
   repeat' first | exact trivial | refine ⟨rfl, ?_⟩ | fail
 · intro i hi;have hle := II c a hn i;cbv;refine Br.dec (fun h2 => ?_) (fun h2 => ?_) <;> cbv
   rotate_left
   · have h2 : a.length ≤ i := by simp at h2; omega
     refine ⟨?_, trivial⟩;show ((aV (bx c) (a.take i) : Nat) : Int) = ((aV (bx c) a : Nat) : Int);rw [List.take_of_length_le h2]
   have h2 : i < a.length := by simpa using h2
   refine ⟨a[i], by simp, get_cast a h2, ?_⟩;cbv;refine Br.split (fun k0 => ?_) (fun k0 => ?_) <;> cbv
   rotate_left
   · have k0 : (a[i].cf == c) = false := by simpa using k0
     have hz : bx c a[i] = 0 := by simp [bx, k0]
     refine Ar.exact ?_ ?_ ?_
     · show -9223372036854775808 ≤ (i : Int) + 1;omega
     · show (i : Int) + 1 ≤ 9223372036854775807;omega
     cbv;refine aJ.by (i + 1) ?_ ?_ ?_
     · show a.length - (i + 1) < a.length - i;omega
     · exact h2
     · cbv
       repeat' first | exact trivial | refine ⟨rfl, ?_⟩ | fail
       refine ⟨?_, ?_⟩
       · exact my (bx c) h2 hz
       repeat' first | exact trivial | refine ⟨rfl, ?_⟩ | fail
   have k0 : (a[i].cf == c) = true := by simpa using k0
   have hz : ((bx c a[i] : Nat) : Int) = 1 := by simp [bx, k0]
   refine Ar.exact ?_ ?_ ?_
   · show -9223372036854775808 ≤ ((aV (bx c) (a.take i) : Nat) : Int) + 1;omega
   · show ((aV (bx c) (a.take i) : Nat) : Int) + 1 ≤ 9223372036854775807;omega
   cbv;refine Ar.exact ?_ ?_ ?_
   · show -9223372036854775808 ≤ (i : Int) + 1;omega
   · show (i : Int) + 1 ≤ 9223372036854775807;omega
   cbv;refine aJ.by (i + 1) ?_ ?_ ?_
   · show a.length - (i + 1) < a.length - i;omega
   · exact h2
   · cbv
     repeat' first | exact trivial | refine ⟨rfl, ?_⟩ | fail
     refine ⟨?_, ?_⟩
     · exact vn (bx c) h2 hz
     repeat' first | exact trivial | refine ⟨rfl, ?_⟩ | fail
theorem IJ (a : List au) (c : Int) (hn : a.length ≤ aR) : Spec Tryz.prog 133 [lA .az a, iA c] (aE (nR fun _ => aV (cp c) a)) := by
 refine aH ay Tryz.func133 rfl rfl (fr := true) (fun _ => by kernel_rfl) fun P hP hA => ?_;have lg : a.length ≤ 1048576 := hn;cbv;refine aT.by (X := Nat) (fun i => [(0, lA .az a), (1, iA c), (5, nT fun _ => aV (cp c) (a.take i)), (6, nT fun _ => i)]) (fun _ => []) (fun i => i ≤ a.length) (fun i _ => a.length - i) 0 (Nat.zero_le _) ?_ ?_
 · cbv
   repeat' first | exact trivial | refine ⟨rfl, ?_⟩ | fail
 · intro i hi;have hle := Dw c a hn i;cbv;refine Br.dec (fun h2 => ?_) (fun h2 => ?_) <;> cbv
   rotate_left
   · have h2 : a.length ≤ i := by simp at h2; omega
     refine ⟨?_, trivial⟩;show ((aV (cp c) (a.take i) : Nat) : Int) = ((aV (cp c) a : Nat) : Int);rw [List.take_of_length_le h2]
   have h2 : i < a.length := by simpa using h2
   refine ⟨a[i], by simp, get_cast a h2, ?_⟩;cbv;refine Br.split (fun k0 => ?_) (fun k0 => ?_) <;> cbv
   rotate_left
   · have k0 : (a[i].st == 2) = false := by simpa using k0
     have hz : cp c a[i] = 0 := by simp [cp, mz, k0]
     refine Ar.exact ?_ ?_ ?_
     · show -9223372036854775808 ≤ (i : Int) + 1;omega
     · show (i : Int) + 1 ≤ 9223372036854775807;omega
     cbv;refine aJ.by (i + 1) ?_ ?_ ?_
     · show a.length - (i + 1) < a.length - i;omega
     · exact h2
     · cbv
       repeat' first | exact trivial | refine ⟨rfl, ?_⟩ | fail
       refine ⟨?_, ?_⟩
       · exact my (cp c) h2 hz
       repeat' first | exact trivial | refine ⟨rfl, ?_⟩ | fail
   have k0 : (a[i].st == 2) = true := by simpa using k0
   refine ⟨a[i], by simp, get_cast a h2, ?_⟩;cbv;refine Br.split (fun k1 => ?_) (fun k1 => ?_) <;> cbv
   rotate_left
   · have k1 : (a[i].cf == c) = false := by simpa using k1
     have hz : cp c a[i] = 0 := by simp [cp, mz, k0, k1]
     refine Ar.exact ?_ ?_ ?_
     · show -9223372036854775808 ≤ (i : Int) + 1;omega
     · show (i : Int) + 1 ≤ 9223372036854775807;omega
     cbv;refine aJ.by (i + 1) ?_ ?_ ?_
     · show a.length - (i + 1) < a.length - i;omega
     · exact h2
     · cbv
       repeat' first | exact trivial | refine ⟨rfl, ?_⟩ | fail
       refine ⟨?_, ?_⟩
       · exact my (cp c) h2 hz
       repeat' first | exact trivial | refine ⟨rfl, ?_⟩ | fail
   have k1 : (a[i].cf == c) = true := by simpa using k1
   refine ⟨a[i], by simp, get_cast a h2, ?_⟩;cbv;refine ag.by hP (da a[i].siz 1 6) ?_;cbv;refine Br.split (fun k2 => ?_) (fun k2 => ?_) <;> cbv
   rotate_left
   · have k2 : aj a[i].siz 1 6 = false := by simpa using k2
     have hz : cp c a[i] = 0 := by simp [cp, mz, k0, k1, k2]
     refine Ar.exact ?_ ?_ ?_
     · show -9223372036854775808 ≤ (i : Int) + 1;omega
     · show (i : Int) + 1 ≤ 9223372036854775807;omega
     cbv;refine aJ.by (i + 1) ?_ ?_ ?_
     · show a.length - (i + 1) < a.length - i;omega
     · exact h2
     · cbv
       repeat' first | exact trivial | refine ⟨rfl, ?_⟩ | fail
       refine ⟨?_, ?_⟩
       · exact my (cp c) h2 hz
       repeat' first | exact trivial | refine ⟨rfl, ?_⟩ | fail
   have k2 : aj a[i].siz 1 6 = true := by simpa using k2
   have hq := bB k2;have hz : ((cp c a[i] : Nat) : Int) = a[i].siz := by simp [cp, mz, k0, k1, k2]; omega
   refine ⟨a[i], by simp, get_cast a h2, ?_⟩;cbv;refine Ar.exact ?_ ?_ ?_
   · show -9223372036854775808 ≤ ((aV (cp c) (a.take i) : Nat) : Int) + a[i].siz;omega
   · show ((aV (cp c) (a.take i) : Nat) : Int) + a[i].siz ≤ 9223372036854775807;omega
   cbv;refine Ar.exact ?_ ?_ ?_
   · show -9223372036854775808 ≤ (i : Int) + 1;omega
   · show (i : Int) + 1 ≤ 9223372036854775807;omega
   cbv;refine aJ.by (i + 1) ?_ ?_ ?_
   · show a.length - (i + 1) < a.length - i;omega
   · exact h2
   · cbv
     repeat' first | exact trivial | refine ⟨rfl, ?_⟩ | fail
     refine ⟨?_, ?_⟩
     · exact vn (cp c) h2 hz
     repeat' first | exact trivial | refine ⟨rfl, ?_⟩ | fail
theorem IK (a : List au) (c : Int) (hn : a.length ≤ aR) : Spec Tryz.prog 134 [lA .az a, iA c] (aE (nR fun _ => aV (cz c) a)) := by
 refine aH ay Tryz.func134 rfl rfl (fr := true) (fun _ => by kernel_rfl) fun P hP hA => ?_;have lg : a.length ≤ 1048576 := hn;cbv;refine aT.by (X := Nat) (fun i => [(0, lA .az a), (1, iA c), (5, nT fun _ => aV (cz c) (a.take i)), (6, nT fun _ => i)]) (fun _ => []) (fun i => i ≤ a.length) (fun i _ => a.length - i) 0 (Nat.zero_le _) ?_ ?_
 · cbv
   repeat' first | exact trivial | refine ⟨rfl, ?_⟩ | fail
 · intro i hi;have hle := Dx c a hn i;cbv;refine Br.dec (fun h2 => ?_) (fun h2 => ?_) <;> cbv
   rotate_left
   · have h2 : a.length ≤ i := by simp at h2; omega
     refine ⟨?_, trivial⟩;show ((aV (cz c) (a.take i) : Nat) : Int) = ((aV (cz c) a : Nat) : Int);rw [List.take_of_length_le h2]
   have h2 : i < a.length := by simpa using h2
   refine ⟨a[i], by simp, get_cast a h2, ?_⟩;cbv;refine Br.split (fun k0 => ?_) (fun k0 => ?_) <;> cbv
   rotate_left
   · have k0 : (a[i].al == c) = false := by simpa using k0
     have hz : cz c a[i] = 0 := by simp [cz, k_, k0]
     refine Ar.exact ?_ ?_ ?_
     · show -9223372036854775808 ≤ (i : Int) + 1;omega
     · show (i : Int) + 1 ≤ 9223372036854775807;omega
     cbv;refine aJ.by (i + 1) ?_ ?_ ?_
     · show a.length - (i + 1) < a.length - i;omega
     · exact h2
     · cbv
       repeat' first | exact trivial | refine ⟨rfl, ?_⟩ | fail
       refine ⟨?_, ?_⟩
       · exact my (cz c) h2 hz
       repeat' first | exact trivial | refine ⟨rfl, ?_⟩ | fail
   have k0 : (a[i].al == c) = true := by simpa using k0
   refine ⟨a[i], by simp, get_cast a h2, ?_⟩;cbv;refine ag.by hP (da a[i].siz 1 6) ?_;cbv;refine Br.split (fun k1 => ?_) (fun k1 => ?_) <;> cbv
   rotate_left
   · have k1 : aj a[i].siz 1 6 = false := by simpa using k1
     have hz : cz c a[i] = 0 := by simp [cz, k_, k0, k1]
     refine Ar.exact ?_ ?_ ?_
     · show -9223372036854775808 ≤ (i : Int) + 1;omega
     · show (i : Int) + 1 ≤ 9223372036854775807;omega
     cbv;refine aJ.by (i + 1) ?_ ?_ ?_
     · show a.length - (i + 1) < a.length - i;omega
     · exact h2
     · cbv
       repeat' first | exact trivial | refine ⟨rfl, ?_⟩ | fail
       refine ⟨?_, ?_⟩
       · exact my (cz c) h2 hz
       repeat' first | exact trivial | refine ⟨rfl, ?_⟩ | fail
   have k1 : aj a[i].siz 1 6 = true := by simpa using k1
   have hq := bB k1;have hz : ((cz c a[i] : Nat) : Int) = a[i].siz := by simp [cz, k_, k0, k1]; omega
   refine ⟨a[i], by simp, get_cast a h2, ?_⟩;cbv;refine Ar.exact ?_ ?_ ?_
   · show -9223372036854775808 ≤ ((aV (cz c) (a.take i) : Nat) : Int) + a[i].siz;omega
   · show ((aV (cz c) (a.take i) : Nat) : Int) + a[i].siz ≤ 9223372036854775807;omega
   cbv;refine Ar.exact ?_ ?_ ?_
   · show -9223372036854775808 ≤ (i : Int) + 1;omega
   · show (i : Int) + 1 ≤ 9223372036854775807;omega
   cbv;refine aJ.by (i + 1) ?_ ?_ ?_
   · show a.length - (i + 1) < a.length - i;omega
   · exact h2
   · cbv
     repeat' first | exact trivial | refine ⟨rfl, ?_⟩ | fail
     refine ⟨?_, ?_⟩
     · exact vn (cz c) h2 hz
     repeat' first | exact trivial | refine ⟨rfl, ?_⟩ | fail
theorem Dy (a : List au) (c : Int) (hn : a.length ≤ aR) : Spec Tryz.prog 67 [lA .az a, iA c] (aE (nR fun _ => aV (bx c) a)) := by
 refine aH ay Tryz.func67 rfl rfl (fr := true) (fun _ => by kernel_rfl) fun P hP hA => ?_;have lg : a.length ≤ 1048576 := hn;cbv;refine aT.by (X := Nat) (fun i => [(1, iA c), (5, nT fun _ => aV (bx c) (a.take i)), (8, lA .az a), (9, nT fun _ => a.length), (10, nT fun _ => i)]) (fun _ => []) (fun i => i ≤ a.length) (fun i _ => a.length - i) 0 (Nat.zero_le _) ?_ ?_
 · cbv
   repeat' first | exact trivial | refine ⟨rfl, ?_⟩ | fail
 · intro i hi;have hle := II c a hn i;cbv;refine Br.dec (fun h2 => ?_) (fun h2 => ?_) <;> cbv
   rotate_left
   · have h2 : a.length ≤ i := by simp at h2; omega
     refine ⟨?_, trivial⟩;show ((aV (bx c) (a.take i) : Nat) : Int) = ((aV (bx c) a : Nat) : Int);rw [List.take_of_length_le h2]
   have h2 : i < a.length := by simpa using h2
   refine ⟨a[i], by simp, get_cast a h2, ?_⟩;cbv;refine Br.split (fun k0 => ?_) (fun k0 => ?_) <;> cbv
   rotate_left
   · have k0 : (a[i].cf == c) = false := by simpa using k0
     have hz : bx c a[i] = 0 := by simp [bx, k0]
     refine Ar.exact ?_ ?_ ?_
     · show -9223372036854775808 ≤ (i : Int) + 1;omega
     · show (i : Int) + 1 ≤ 9223372036854775807;omega
     cbv;refine aJ.by (i + 1) ?_ ?_ ?_
     · show a.length - (i + 1) < a.length - i;omega
     · exact h2
     · cbv
       repeat' first | exact trivial | refine ⟨rfl, ?_⟩ | fail
       refine ⟨?_, ?_⟩
       · exact my (bx c) h2 hz
       repeat' first | exact trivial | refine ⟨rfl, ?_⟩ | fail
   have k0 : (a[i].cf == c) = true := by simpa using k0
   have hz : ((bx c a[i] : Nat) : Int) = 1 := by simp [bx, k0]
   refine Ar.exact ?_ ?_ ?_
   · show -9223372036854775808 ≤ ((aV (bx c) (a.take i) : Nat) : Int) + 1;omega
   · show ((aV (bx c) (a.take i) : Nat) : Int) + 1 ≤ 9223372036854775807;omega
   cbv;refine Ar.exact ?_ ?_ ?_
   · show -9223372036854775808 ≤ (i : Int) + 1;omega
   · show (i : Int) + 1 ≤ 9223372036854775807;omega
   cbv;refine aJ.by (i + 1) ?_ ?_ ?_
   · show a.length - (i + 1) < a.length - i;omega
   · exact h2
   · cbv
     repeat' first | exact trivial | refine ⟨rfl, ?_⟩ | fail
     refine ⟨?_, ?_⟩
     · exact vn (bx c) h2 hz
     repeat' first | exact trivial | refine ⟨rfl, ?_⟩ | fail
theorem Pv (a : List au) (c : Int) (hn : a.length ≤ aR) : Spec Tryz.prog 181 [lA .az a, iA c] (aE (nR fun _ => aV (cp c) a)) := by
 refine aH ay Tryz.func181 rfl rfl (fr := true) (fun _ => by kernel_rfl) fun P hP hA => ?_;have lg : a.length ≤ 1048576 := hn;cbv;refine aT.by (X := Nat) (fun i => [(1, iA c), (5, nT fun _ => aV (cp c) (a.take i)), (8, lA .az a), (9, nT fun _ => a.length), (10, nT fun _ => i)]) (fun _ => []) (fun i => i ≤ a.length) (fun i _ => a.length - i) 0 (Nat.zero_le _) ?_ ?_
 · cbv
   repeat' first | exact trivial | refine ⟨rfl, ?_⟩ | fail
 · intro i hi;have hle := Dw c a hn i;cbv;refine Br.dec (fun h2 => ?_) (fun h2 => ?_) <;> cbv
   rotate_left
   · have h2 : a.length ≤ i := by simp at h2; omega
     refine ⟨?_, trivial⟩;show ((aV (cp c) (a.take i) : Nat) : Int) = ((aV (cp c) a : Nat) : Int);rw [List.take_of_length_le h2]
   have h2 : i < a.length := by simpa using h2
   refine ⟨a[i], by simp, get_cast a h2, ?_⟩;cbv;refine Br.split (fun k0 => ?_) (fun k0 => ?_) <;> cbv
   rotate_left
   · have k0 : (a[i].st == 2) = false := by simpa using k0
     have hz : cp c a[i] = 0 := by simp [cp, mz, k0]
     refine Ar.exact ?_ ?_ ?_
     · show -9223372036854775808 ≤ (i : Int) + 1;omega
     · show (i : Int) + 1 ≤ 9223372036854775807;omega
     cbv;refine aJ.by (i + 1) ?_ ?_ ?_
     · show a.length - (i + 1) < a.length - i;omega
     · exact h2
     · cbv
       repeat' first | exact trivial | refine ⟨rfl, ?_⟩ | fail
       refine ⟨?_, ?_⟩
       · exact my (cp c) h2 hz
       repeat' first | exact trivial | refine ⟨rfl, ?_⟩ | fail
   have k0 : (a[i].st == 2) = true := by simpa using k0
   refine Br.split (fun k1 => ?_) (fun k1 => ?_) <;> cbv
   rotate_left
   · have k1 : (a[i].cf == c) = false := by simpa using k1
     have hz : cp c a[i] = 0 := by simp [cp, mz, k0, k1]
     refine Ar.exact ?_ ?_ ?_
     · show -9223372036854775808 ≤ (i : Int) + 1;omega
     · show (i : Int) + 1 ≤ 9223372036854775807;omega
     cbv;refine aJ.by (i + 1) ?_ ?_ ?_
     · show a.length - (i + 1) < a.length - i;omega
     · exact h2
     · cbv
       repeat' first | exact trivial | refine ⟨rfl, ?_⟩ | fail
       refine ⟨?_, ?_⟩
       · exact my (cp c) h2 hz
       repeat' first | exact trivial | refine ⟨rfl, ?_⟩ | fail
   have k1 : (a[i].cf == c) = true := by simpa using k1
   refine ag.by hP (cV a[i].siz 1 6) ?_;cbv;refine Br.split (fun k2 => ?_) (fun k2 => ?_) <;> cbv
   rotate_left
   · have k2 : aj a[i].siz 1 6 = false := by simpa using k2
     have hz : cp c a[i] = 0 := by simp [cp, mz, k0, k1, k2]
     refine Ar.exact ?_ ?_ ?_
     · show -9223372036854775808 ≤ (i : Int) + 1;omega
     · show (i : Int) + 1 ≤ 9223372036854775807;omega
     cbv;refine aJ.by (i + 1) ?_ ?_ ?_
     · show a.length - (i + 1) < a.length - i;omega
     · exact h2
     · cbv
       repeat' first | exact trivial | refine ⟨rfl, ?_⟩ | fail
       refine ⟨?_, ?_⟩
       · exact my (cp c) h2 hz
       repeat' first | exact trivial | refine ⟨rfl, ?_⟩ | fail
   have k2 : aj a[i].siz 1 6 = true := by simpa using k2
   have hq := bB k2;have hz : ((cp c a[i] : Nat) : Int) = a[i].siz := by simp [cp, mz, k0, k1, k2]; omega
   refine Ar.exact ?_ ?_ ?_
   · show -9223372036854775808 ≤ ((aV (cp c) (a.take i) : Nat) : Int) + a[i].siz;omega
   · show ((aV (cp c) (a.take i) : Nat) : Int) + a[i].siz ≤ 9223372036854775807;omega
   cbv;refine Ar.exact ?_ ?_ ?_
   · show -9223372036854775808 ≤ (i : Int) + 1;omega
   · show (i : Int) + 1 ≤ 9223372036854775807;omega
   cbv;refine aJ.by (i + 1) ?_ ?_ ?_
   · show a.length - (i + 1) < a.length - i;omega
   · exact h2
   · cbv
     repeat' first | exact trivial | refine ⟨rfl, ?_⟩ | fail
     refine ⟨?_, ?_⟩
     · exact vn (cp c) h2 hz
     repeat' first | exact trivial | refine ⟨rfl, ?_⟩ | fail
theorem Pw (a : List au) (c : Int) (hn : a.length ≤ aR) : Spec Tryz.prog 182 [lA .az a, iA c] (aE (nR fun _ => aV (cz c) a)) := by
 refine aH ay Tryz.func182 rfl rfl (fr := true) (fun _ => by kernel_rfl) fun P hP hA => ?_;have lg : a.length ≤ 1048576 := hn;cbv;refine aT.by (X := Nat) (fun i => [(1, iA c), (5, nT fun _ => aV (cz c) (a.take i)), (8, lA .az a), (9, nT fun _ => a.length), (10, nT fun _ => i)]) (fun _ => []) (fun i => i ≤ a.length) (fun i _ => a.length - i) 0 (Nat.zero_le _) ?_ ?_
 · cbv
   repeat' first | exact trivial | refine ⟨rfl, ?_⟩ | fail
 · intro i hi;have hle := Dx c a hn i;cbv;refine Br.dec (fun h2 => ?_) (fun h2 => ?_) <;> cbv
   rotate_left
   · have h2 : a.length ≤ i := by simp at h2; omega
     refine ⟨?_, trivial⟩;show ((aV (cz c) (a.take i) : Nat) : Int) = ((aV (cz c) a : Nat) : Int);rw [List.take_of_length_le h2]
   have h2 : i < a.length := by simpa using h2
   refine ⟨a[i], by simp, get_cast a h2, ?_⟩;cbv;refine Br.split (fun k0 => ?_) (fun k0 => ?_) <;> cbv
   rotate_left
   · have k0 : (a[i].al == c) = false := by simpa using k0
     have hz : cz c a[i] = 0 := by simp [cz, k_, k0]
     refine Ar.exact ?_ ?_ ?_
     · show -9223372036854775808 ≤ (i : Int) + 1;omega
     · show (i : Int) + 1 ≤ 9223372036854775807;omega
     cbv;refine aJ.by (i + 1) ?_ ?_ ?_
     · show a.length - (i + 1) < a.length - i;omega
     · exact h2
     · cbv
       repeat' first | exact trivial | refine ⟨rfl, ?_⟩ | fail
       refine ⟨?_, ?_⟩
       · exact my (cz c) h2 hz
       repeat' first | exact trivial | refine ⟨rfl, ?_⟩ | fail
   have k0 : (a[i].al == c) = true := by simpa using k0
   refine ag.by hP (cV a[i].siz 1 6) ?_;cbv;refine Br.split (fun k1 => ?_) (fun k1 => ?_) <;> cbv
   rotate_left
   · have k1 : aj a[i].siz 1 6 = false := by simpa using k1
     have hz : cz c a[i] = 0 := by simp [cz, k_, k0, k1]
     refine Ar.exact ?_ ?_ ?_
     · show -9223372036854775808 ≤ (i : Int) + 1;omega
     · show (i : Int) + 1 ≤ 9223372036854775807;omega
     cbv;refine aJ.by (i + 1) ?_ ?_ ?_
     · show a.length - (i + 1) < a.length - i;omega
     · exact h2
     · cbv
       repeat' first | exact trivial | refine ⟨rfl, ?_⟩ | fail
       refine ⟨?_, ?_⟩
       · exact my (cz c) h2 hz
       repeat' first | exact trivial | refine ⟨rfl, ?_⟩ | fail
   have k1 : aj a[i].siz 1 6 = true := by simpa using k1
   have hq := bB k1;have hz : ((cz c a[i] : Nat) : Int) = a[i].siz := by simp [cz, k_, k0, k1]; omega
   refine Ar.exact ?_ ?_ ?_
   · show -9223372036854775808 ≤ ((aV (cz c) (a.take i) : Nat) : Int) + a[i].siz;omega
   · show ((aV (cz c) (a.take i) : Nat) : Int) + a[i].siz ≤ 9223372036854775807;omega
   cbv;refine Ar.exact ?_ ?_ ?_
   · show -9223372036854775808 ≤ (i : Int) + 1;omega
   · show (i : Int) + 1 ≤ 9223372036854775807;omega
   cbv;refine aJ.by (i + 1) ?_ ?_ ?_
   · show a.length - (i + 1) < a.length - i;omega
   · exact h2
   · cbv
     repeat' first | exact trivial | refine ⟨rfl, ?_⟩ | fail
     refine ⟨?_, ?_⟩
     · exact vn (cz c) h2 hz
     repeat' first | exact trivial | refine ⟨rfl, ?_⟩ | fail
theorem Dz (a b : Int) : Spec Tryz.prog 63 [iA a, iA b] (aE (iR fun _ => if a > b then a else b)) := by
 refine aH ay Tryz.func63 rfl rfl (fr := true) (fun _ => by kernel_rfl) fun P hP hA => ?_;cbv;refine Br.dec (fun h => ?_) (fun h => ?_) <;> cbv
 · refine ⟨?_, trivial⟩;rw [if_pos h]
 · refine ⟨?_, trivial⟩;rw [if_neg h]
def lvl (R : bp) (aK waited : Int) : Int := if 0 > aK - waited.tdiv R.period then 0 else aK - waited.tdiv R.period
theorem DA {a b : Int} (h0 : 0 ≤ a) (h1 : a ≤ 1000000) (h2 : 1 ≤ b) : 0 ≤ a.tdiv b ∧ a.tdiv b ≤ 1000000 :=
 ⟨Int.tdiv_nonneg h0 (by omega), Int.le_trans (Int.tdiv_le_self b h0) h1⟩
theorem Px (R : bp) (aK waited : Int) (h0 : 0 ≤ waited) (h1 : waited ≤ 1000000) (h2 : 0 ≤ aK) (h3 : aK ≤ 10) (h4 : 1 ≤ R.period) : Spec Tryz.prog 91 [gu R, iA aK, iA waited] (aE (iR fun _ => lvl R aK waited)) := by
 refine aH ay Tryz.func91 rfl rfl (fr := true) (fun _ => by kernel_rfl) fun P hP hA => ?_;obtain ⟨q0, q1⟩ := DA h0 h1 h4;cbv;refine ⟨by show R.period ≠ 0; omega, ?_⟩;cbv;refine Ar.exact (t := fun _ => waited.tdiv R.period) ?_ ?_ ?_
 · show -9223372036854775808 ≤ waited.tdiv R.period;omega
 · show waited.tdiv R.period ≤ 9223372036854775807;omega
 cbv;refine Ar.exact (t := fun _ => aK - waited.tdiv R.period) ?_ ?_ ?_
 · show -9223372036854775808 ≤ aK - waited.tdiv R.period;omega
 · show aK - waited.tdiv R.period ≤ 9223372036854775807;omega
 refine ag.qi hP (Dz 0 (aK - waited.tdiv R.period)) rfl ?_;cbv
 repeat' first | exact trivial | refine ⟨rfl, ?_⟩ | fail
theorem IL (a : Int) : Spec Tryz.prog 227 [iA a] (aE (bR fun _ => false)) := by
 refine aH ay Tryz.func227 rfl rfl (fr := true) (fun _ => by kernel_rfl) fun P hP hA => ?_;cbv;refine ⟨?_, trivial⟩;simp
def lh (a b : Int) : Int := if a < b then -1 else if a > b then 1 else 0
theorem zQ (a b : Int) : Spec Tryz.prog 202 [iA a, iA b] (aE (iR fun _ => lh a b)) := by
 refine aH ay Tryz.func202 rfl rfl (fr := true) (fun _ => by kernel_rfl) fun P hP hA => ?_;cbv;refine ag.by hP (IL a) ?_;cbv;refine ag.by hP (IL b) ?_;cbv
 repeat' first
  | (refine Br.split (fun h => ?_) (fun h => ?_) <;> cbv)
 all_goals refine ⟨?_, trivial⟩
 all_goals (unfold lh; repeat' split)
 all_goals first
  | rfl
  | (exfalso; simp_all; done)
  | (exfalso; simp_all; omega)
theorem Py (R : bp) (aK waited : Int) (hs : R.ah.length ≤ aR) (hr : cw R = true) (h0 : 0 ≤ waited) (h1 : waited ≤ 1000000) (ht : aj aK 0 (R.cm - 1) = true) : Spec Tryz.prog 89 [gu R, iA aK, iA waited] (aE (iR fun _ => lvl R aK waited)) := by
 refine aH ay Tryz.func89 rfl rfl (fr := true) (fun _ => by kernel_rfl) fun P hP hA => ?_;have hg := dO hr;obtain ⟨p1, p2⟩ := hg.period;obtain ⟨t1, t2⟩ := hg.cm;obtain ⟨u1, u2⟩ := bB ht;obtain ⟨q0, q1⟩ := DA h0 h1 p1;cbv;refine ag.by hP (Dt R hs (cw R) rfl) ?_;cbv;refine Br.split (fun k0 => ?_) (fun k0 => ?_) <;> cbv
 · rw [hr] at k0; cases k0
 refine ag.by hP (nk aK R.cm (by omega) (by omega)) ?_;cbv;refine Br.split (fun k1 => ?_) (fun k1 => ?_) <;> cbv
 · rw [ht] at k1; cases k1
 refine Br.dec (fun k2 => ?_) (fun k2 => ?_) <;> cbv
 · exfalso;have k2 : waited < 0 := k2;omega
 refine ⟨by show R.period ≠ 0; omega, ?_⟩;cbv;refine Ar.exact (t := fun _ => waited.tdiv R.period) ?_ ?_ ?_
 · show -9223372036854775808 ≤ waited.tdiv R.period;omega
 · show waited.tdiv R.period ≤ 9223372036854775807;omega
 cbv;refine Ar.exact (t := fun _ => aK - waited.tdiv R.period) ?_ ?_ ?_
 · show -9223372036854775808 ≤ aK - waited.tdiv R.period;omega
 · show aK - waited.tdiv R.period ≤ 9223372036854775807;omega
 cbv;refine ⟨?_, trivial⟩;show (if aK - waited.tdiv R.period > 0 then aK - waited.tdiv R.period else 0) = lvl R aK waited;unfold lvl
 split <;> split <;> omega
structure PA (R : bp) (p : au) (now : Int) : Prop where
 rules : cw R = true
 rV : 0 ≤ now ∧ now ≤ 1000000
 siz : 1 ≤ p.siz ∧ p.siz ≤ R.size
 aK : aj p.aK 0 (R.cm - 1) = true
 since : 0 ≤ p.since ∧ p.since ≤ now
theorem iB {R : bp} {p : au} {now : Int} (h : bF R p now = true) : PA R p now := by
 simp only [bF, Bool.and_eq_true] at h;obtain ⟨h1, h2, _, _, _, _, h3, h4, h5, _⟩ := h;exact ⟨h1, bB h2, bB h3, h4, bB h5⟩
def fO (R : bp) (p : au) (now : Int) : Int := if bF R p now = true then lvl R p.aK (now - p.since) else -1
theorem DB (R : bp) (p : au) (now : Int) (hs : R.ah.length ≤ aR) (x : Int) (hx : x = fO R p now) : Spec Tryz.prog 31 [gu R, eA .az p, iA now] (aE (iR fun _ => x)) := by
 refine aH ay Tryz.func31 rfl rfl (fr := true) (fun _ => by kernel_rfl) fun P hP hA => ?_;cbv;refine ag.by hP (IF R p now hs (bF R p now) rfl) ?_;cbv;refine Br.split (fun k0 => ?_) (fun k0 => ?_) <;> cbv
 · have k0 : bF R p now = false := by simpa using k0
   obtain rfl : x = -1 := hx.trans (if_neg (by rw [k0]; simp))
   repeat' first | exact trivial | refine ⟨rfl, ?_⟩ | fail
 have k0 : bF R p now = true := by simpa using k0
 obtain rfl : x = lvl R p.aK (now - p.since) := hx.trans (if_pos k0);have hp := iB k0;have hr := dO hp.rules;obtain ⟨a1, a2⟩ := hp.rV;obtain ⟨b1, b2⟩ := hp.since;obtain ⟨c1, c2⟩ := hr.cm;obtain ⟨d1, d2⟩ := hr.period;obtain ⟨e1, e2⟩ := bB hp.aK;refine Ar.exact (t := fun _ => now - p.since) ?_ ?_ ?_
 · show -9223372036854775808 ≤ now - p.since;omega
 · show now - p.since ≤ 9223372036854775807;omega
 cbv;refine ag.by hP (Px R p.aK (now - p.since) (by omega) (by omega) (by omega) (by omega) (by omega)) ?_;cbv
 repeat' first | exact trivial | refine ⟨rfl, ?_⟩ | fail
theorem DC (R : bp) (p : au) (now : Int) (hs : R.ah.length ≤ aR) (x : Int) (hx : x = fO R p now) : Spec Tryz.prog 30 [gu R, eA .az p, iA now] (aE (iR fun _ => x)) := by
 refine aH ay Tryz.func30 rfl rfl (fr := true) (fun _ => by kernel_rfl) fun P hP hA => ?_;cbv;refine ag.by hP (zP R p now hs (bF R p now) rfl) ?_;cbv;refine Br.split (fun k0 => ?_) (fun k0 => ?_) <;> cbv
 · have k0 : bF R p now = false := by simpa using k0
   obtain rfl : x = -1 := hx.trans (if_neg (by rw [k0]; simp))
   repeat' first | exact trivial | refine ⟨rfl, ?_⟩ | fail
 have k0 : bF R p now = true := by simpa using k0
 obtain rfl : x = lvl R p.aK (now - p.since) := hx.trans (if_pos k0);have hp := iB k0;have hr := dO hp.rules;obtain ⟨a1, a2⟩ := hp.rV;obtain ⟨b1, b2⟩ := hp.since;obtain ⟨c1, c2⟩ := hr.cm;obtain ⟨d1, d2⟩ := hr.period;obtain ⟨e1, e2⟩ := bB hp.aK;refine Ar.exact (t := fun _ => now - p.since) ?_ ?_ ?_
 · show -9223372036854775808 ≤ now - p.since;omega
 · show now - p.since ≤ 9223372036854775807;omega
 cbv;refine ag.by hP (Py R p.aK (now - p.since) hs hp.rules (by omega) (by omega) hp.aK) ?_;cbv
 repeat' first | exact trivial | refine ⟨rfl, ?_⟩ | fail
theorem IM (R : bp) (t w : Int) : 0 ≤ lvl R t w := by
 unfold lvl; split <;> omega
theorem PB {R : bp} {p : au} {now : Int} (h : bF R p now = true) : 0 ≤ fO R p now := by
 rw [fO, if_pos h]; exact IM _ _ _
theorem PC {R : bp} {p : au} {now : Int} (h : bF R p now = false) : fO R p now = -1 := by
 rw [fO, if_neg (by rw [h]; simp)]
def fu (R : bp) (p : au) (now : Int) : Bool := bF R p now && p.st == 1
def eV (R : bp) (p : au) (now : Int) : Entry := ⟨fO R p now, p.aw, p.id, p.siz⟩
def cn (R : bp) (p : au) (now : Int) : Entry := if fu R p now = true then eV R p now else default
def IN (x : Unit → Entry) : List Sh := [.int .i64 fun _ => (x ()).lvl, .int .i64 fun _ => (x ()).aw, .int .i64 fun _ => (x ()).bg, .int .i64 fun _ => (x ()).siz]
theorem PD (R : bp) (p : au) (now : Int) (hs : R.ah.length ≤ aR) (x : Entry) (hx : x = cn R p now) (b : Bool) (hb : b = fu R p now) : Spec Tryz.prog 101 [gu R, eA .az p, iA now] (aE (.bc [(true, IN fun _ => x), (false, [.bool fun _ => b])])) := by
 refine aH ay Tryz.func101 rfl rfl (fr := true) (fun _ => by kernel_rfl) fun P hP hA => ?_;cbv;refine ag.by hP (DB R p now hs (fO R p now) rfl) ?_;cbv;refine Br.dec (fun k0 => ?_) (fun k0 => ?_) <;> cbv
 · have k0 : fO R p now < 0 := k0
   have e : fu R p now = false := by
     rcases hq : bF R p now with _ | _
     · simp [fu, hq]
     · have := PB hq;omega
   obtain rfl : b = false := hb.trans e;obtain rfl : x = default := hx.trans (if_neg (by rw [e]; simp))
   repeat' first | exact trivial | refine ⟨rfl, ?_⟩ | fail
 have k0 : ¬ fO R p now < 0 := k0
 have hq : bF R p now = true := by
   rcases hq : bF R p now with _ | _
   · have := PC hq;omega
   · rfl
 refine Br.split (fun k1 => ?_) (fun k1 => ?_) <;> cbv
 · have e : fu R p now = false := by simp_all [fu]
   obtain rfl : b = false := hb.trans e;obtain rfl : x = default := hx.trans (if_neg (by rw [e]; simp))
   repeat' first | exact trivial | refine ⟨rfl, ?_⟩ | fail
 have e : fu R p now = true := by simp_all [fu]
 obtain rfl : b = true := hb.trans e;obtain rfl : x = eV R p now := hx.trans (if_pos e)
 repeat' first | exact trivial | refine ⟨rfl, ?_⟩ | fail
theorem DD (R : bp) (p : au) (now : Int) (hs : R.ah.length ≤ aR) (x : Entry) (hx : x = cn R p now) (b : Bool) (hb : b = fu R p now) : Spec Tryz.prog 98 [gu R, eA .az p, iA now] (aE (.bc [(true, IN fun _ => x), (false, [.bool fun _ => b])])) := by
 refine aH ay Tryz.func98 rfl rfl (fr := true) (fun _ => by kernel_rfl) fun P hP hA => ?_;cbv;refine ag.by hP (zP R p now hs (bF R p now) rfl) ?_;cbv;refine Br.split (fun k0 => ?_) (fun k0 => ?_) <;> cbv
 · have e : fu R p now = false := by simp_all [fu]
   obtain rfl : b = false := hb.trans e;obtain rfl : x = default := hx.trans (if_neg (by rw [e]; simp))
   repeat' first | exact trivial | refine ⟨rfl, ?_⟩ | fail
 refine Br.split (fun k1 => ?_) (fun k1 => ?_) <;> cbv
 · have e : fu R p now = false := by simp_all [fu]
   obtain rfl : b = false := hb.trans e;obtain rfl : x = default := hx.trans (if_neg (by rw [e]; simp))
   repeat' first | exact trivial | refine ⟨rfl, ?_⟩ | fail
 have e : fu R p now = true := by simp_all [fu]
 obtain rfl : b = true := hb.trans e;obtain rfl : x = eV R p now := hx.trans (if_pos e);refine ag.by hP (DC R p now hs (fO R p now) rfl) ?_;cbv
 repeat' first | exact trivial | refine ⟨rfl, ?_⟩ | fail
theorem IP (a b : Entry) : Spec Tryz.prog 156 [eA .aD a, eA .aD b] (aE (bR fun _ => aY a b)) := by
 refine aH ay Tryz.func156 rfl rfl (fr := true) (fun _ => by kernel_rfl) fun P hP hA => ?_;cbv
 repeat' first
  | (refine Br.split (fun h => ?_) (fun h => ?_) <;> cbv)
  | fail
 all_goals refine ⟨?_, trivial⟩
 all_goals simp_all [aY]
theorem IQ (a b : Entry) : Spec Tryz.prog 142 [eA .aD a, eA .aD b] (aE (iR fun _ => if aY a b = true then -1 else if aY b a = true then 1 else 0)) := by
 refine aH ay Tryz.func142 rfl rfl (fr := true) (fun _ => by kernel_rfl) fun P hP hA => ?_;cbv;refine ag.by hP (zQ a.lvl b.lvl) ?_;cbv;refine Br.split (fun h => ?_) (fun h => ?_) <;> cbv
 · refine ⟨?_, trivial⟩;have h : (lh a.lvl b.lvl != 0) = true := h;show lh a.lvl b.lvl = _;unfold lh aY at *
   repeat' split at *
   all_goals simp_all <;> omega
 · refine ag.by hP (zQ a.aw b.aw) ?_;cbv;refine ⟨?_, trivial⟩;have h : (lh a.lvl b.lvl != 0) = false := h;show lh a.aw b.aw = _;unfold lh aY at *
   repeat' split at *
   all_goals simp_all <;> omega
theorem IS (a b : Entry) : Spec Tryz.prog 151 [eA .aD a, eA .aD b] (aE (bR fun _ => aY a b)) := by
 refine aH ay Tryz.func151 rfl rfl (fr := true) (fun _ => by kernel_rfl) fun P hP hA => ?_;cbv;refine ag.by hP (IQ a b) ?_;cbv;refine ⟨?_, trivial⟩;show decide ((if aY a b = true then (-1 : Int) else if aY b a = true then 1 else 0) < 0) = aY a b;cases h1 : aY a b <;> cases h2 : aY b a <;> simp
theorem IT (a b : aA) : Spec Tryz.prog 215 [eA .aF a, eA .aF b] (aE (bR fun _ => bm a b)) := by
 refine aH ay Tryz.func215 rfl rfl (fr := true) (fun _ => by kernel_rfl) fun P hP hA => ?_;cbv
 repeat' first
  | (refine Br.split (fun h => ?_) (fun h => ?_) <;> cbv)
  | fail
 all_goals refine ⟨?_, trivial⟩
 all_goals simp_all [bm]
theorem DE (a b : aA) : Spec Tryz.prog 208 [eA .aF a, eA .aF b] (aE (iR fun _ => if bm a b = true then -1 else if bm b a = true then 1 else 0)) := by
 refine aH ay Tryz.func208 rfl rfl (fr := true) (fun _ => by kernel_rfl) fun P hP hA => ?_;cbv;refine ag.by hP (zQ a.tm b.tm) ?_;cbv;refine Br.split (fun h => ?_) (fun h => ?_) <;> cbv
 · refine ⟨?_, trivial⟩;have h : (lh a.tm b.tm != 0) = true := h;show lh a.tm b.tm = _;unfold lh bm at *
   repeat' split at *
   all_goals simp_all <;> omega
 · refine ag.by hP (zQ a.pid b.pid) ?_;cbv;refine ⟨?_, trivial⟩;have h : (lh a.tm b.tm != 0) = false := h;show lh a.pid b.pid = _;unfold lh bm at *
   repeat' split at *
   all_goals simp_all <;> omega
def eZ (p : aA) : Bool := aj p.tm 1 1000008 && aj p.pid 1 999
theorem DF (p : aA) : Spec Tryz.prog 162 [eA .aF p] (aE (bR fun _ => eZ p)) := by
 refine aH ay Tryz.func162 rfl rfl (fr := true) (fun _ => by kernel_rfl) fun P hP hA => ?_;cbv
 repeat' first
  | (refine ag.by hP (cV p.tm 1 1000008) ?_; cbv)
  | (refine ag.by hP (cV p.pid 1 999) ?_; cbv)
  | (refine Br.split (fun h => ?_) (fun h => ?_) <;> cbv)
  | fail
 all_goals refine ⟨?_, trivial⟩
 all_goals simp_all [eZ]
end Go.Proofs.YtehpbaiclfilaaaGreat

