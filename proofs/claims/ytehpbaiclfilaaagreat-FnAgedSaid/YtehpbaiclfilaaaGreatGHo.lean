/- Parts of a proof. No conditions. -/

import Derived.Test.YtehpbaiclfilaaaGreatG08
import Derived.Test.YtehpbaiclfilaaaGreatG07
set_option linter.unusedSimpArgs false
set_option linter.unusedVariables false
namespace Go.Proofs.YtehpbaiclfilaaaGreat
open Go
set_option maxRecDepth 100000
def vI (x : bp) : ai := ⟨x, 0, 1, [], x.ah.map oK, [], List.replicate x.bP.toNat (-1)⟩
def Kh (x : bp) : ai := if cw x = true then vI x else default
theorem mapStep {α β : Type} (f : α → β) (a : List α) {i : Nat} (h : i < a.length) : (a.take i).map f ++ [f a[i]] = (a.take (i + 1)).map f := by
 rw [List.take_add_one, List.getElem?_eq_getElem h]; simp only [Option.toList_some, List.map_append, List.map_cons, List.map_nil]
theorem RR (i : Nat) : -9223372036854775808 ≤ ((i : Nat) : Int) + 1 := by omega
theorem RS {i : Nat} (h : i + 1 ≤ 3) : ((i : Nat) : Int) + 1 ≤ 9223372036854775807 := by omega
structure RU (x : bp) : Prop where
 len : x.ah.length ≤ 4
 lo : 1 ≤ x.bP
 hi : x.bP ≤ 3
 all : ∀ y ∈ x.ah, aj y 1 60 = true
theorem RW {x : bp} (h : cw x = true) : RU x := by
 simp only [cw, Bool.and_eq_true, List.all_eq_true] at h;obtain ⟨h1, h2, _, _, _, _, _, _, h3, _⟩ := h;have h1 := bB h1;have h3 := bB h3;exact ⟨by omega, h3.1, h3.2, h2⟩
theorem RX (x : bp) (hs : x.ah.length ≤ aR) (h : ai) (hh : h = Kh x) (b : Bool) (hb : b = cw x) : Spec Tryz.prog 190 [gu x] (aE (.bc [(true, ik fun _ => h), (false, [.bool fun _ => b])])) := by
 refine aH ay Tryz.func190 rfl rfl (fr := true) (fun _ => by kernel_rfl) fun P hP hA => ?_;cbv;refine ag.by hP (zN x hs (cw x) rfl) ?_;cbv;refine Br.split (fun h0 => ?_) (fun h0 => ?_) <;> cbv
 · have h0 : cw x = false := by simpa using h0
   obtain rfl : h = default := hh.trans (if_neg (by rw [h0]; simp));obtain rfl : b = false := hb.trans h0
   repeat' first | exact trivial | refine ⟨rfl, ?_⟩ | fail
 have h0 : cw x = true := by simpa using h0
 obtain rfl : h = vI x := hh.trans (if_pos h0);obtain rfl : b = true := hb.trans h0;have hF := RW h0;have hl := hF.len;have gy := hF.lo;have lB := hF.hi;refine ag.by hP (Ps x hs) ?_;cbv;refine aT.by (X := Nat) (fun i => [(1, pN 0), (2, pN 1), (4, pN 2), (5, nT fun _ => i)]) (fun i => [(0, .box [.lf (.list .int fun _ => x.ah), .lf (.int .i64 fun _ => x.cm), .lf (.int .i64 fun _ => x.room), .lf (.int .i64 fun _ => x.size), .lf (.int .i64 fun _ => x.period), .lf (.int .i64 fun _ => x.ck), .lf (.int .i64 fun _ => x.rest), .lf (.int .i64 fun _ => x.tries), .lf (.int .i64 fun _ => x.bP)]), (1, .box [.nil, .lf (.int .i64 fun _ => 0), .lf (.int .i64 fun _ => 0), .lf (.int .i64 fun _ => 0), .lf (.int .i64 fun _ => 0), .lf (.int .i64 fun _ => 0), .lf (.int .i64 fun _ => 0), .lf (.int .i64 fun _ => 0), .lf (.int .i64 fun _ => 0), .lf (.int .i64 fun _ => 0), .lf (.int .i64 fun _ => 0), .nil, .nil, .nil, .nil]), (2, .box [.own 3, .lf (.int .i64 fun _ => x.cm), .lf (.int .i64 fun _ => x.room), .lf (.int .i64 fun _ => x.size), .lf (.int .i64 fun _ => x.period), .lf (.int .i64 fun _ => x.ck), .lf (.int .i64 fun _ => x.rest), .lf (.int .i64 fun _ => x.tries), .lf (.int .i64 fun _ => x.bP), .lf (.int .i64 fun _ => 0), .lf (.int .i64 fun _ => 1), .nil, .own 4, .nil, .nil]), (3, aQ .int fun _ => x.ah), (4, aQ .cf fun _ => (x.ah.take i).map oK)]) (fun i => i ≤ x.ah.length) (fun i _ => x.ah.length - i) 0 (Nat.zero_le _) ?_ ?_
 · cbv
   repeat' first | exact trivial | refine ⟨rfl, ?_⟩ | fail
 · intro i hi;cbv;refine Br.dec (fun h2 => ?_) (fun h2 => ?_) <;> cbv
   · have h2 : (i : Int) < (x.ah.length : Int) := h2;have h2 : i < x.ah.length := by omega
     refine ⟨x.ah[i], by simp, get_cast x.ah h2, ?_⟩;cbv;refine ag.by hP (Pp x.ah[i] (oK x.ah[i]) rfl (aj x.ah[i] 1 60) rfl) ?_;cbv;refine ⟨?_, ?_⟩
     · show (((x.ah.take i).map oK).length + 1) * 88 ≤ 140737488355328;rw [List.length_map, List.length_take]; omega
     cbv;refine Ar.exact ?_ ?_ ?_
     · show -9223372036854775808 ≤ (i : Int) + 1;omega
     · show (i : Int) + 1 ≤ 9223372036854775807;omega
     cbv;refine aJ.by (i + 1) ?_ ?_ ?_
     · show x.ah.length - (i + 1) < x.ah.length - i;omega
     · exact h2
     · cbv
       repeat' first | exact trivial | refine ⟨rfl, ?_⟩ | fail
       refine ⟨?_, trivial⟩;exact mapStep oK x.ah h2
   have h2 : ¬ (i : Int) < (x.ah.length : Int) := h2;have h2 : x.ah.length ≤ i := by omega
   have tL : (x.ah.take i).map oK = x.ah.map oK := by rw [List.take_of_length_le h2]
   refine aT.by (X := Nat) (fun j => [(1, pN 0), (2, pN 1), (4, pN 2), (8, nT fun _ => j)]) (fun j => [(0, .box [.lf (.list .int fun _ => x.ah), .lf (.int .i64 fun _ => x.cm), .lf (.int .i64 fun _ => x.room), .lf (.int .i64 fun _ => x.size), .lf (.int .i64 fun _ => x.period), .lf (.int .i64 fun _ => x.ck), .lf (.int .i64 fun _ => x.rest), .lf (.int .i64 fun _ => x.tries), .lf (.int .i64 fun _ => x.bP)]), (1, .box [.nil, .lf (.int .i64 fun _ => 0), .lf (.int .i64 fun _ => 0), .lf (.int .i64 fun _ => 0), .lf (.int .i64 fun _ => 0), .lf (.int .i64 fun _ => 0), .lf (.int .i64 fun _ => 0), .lf (.int .i64 fun _ => 0), .lf (.int .i64 fun _ => 0), .lf (.int .i64 fun _ => 0), .lf (.int .i64 fun _ => 0), .nil, .nil, .nil, .nil]), (2, .box [.own 3, .lf (.int .i64 fun _ => x.cm), .lf (.int .i64 fun _ => x.room), .lf (.int .i64 fun _ => x.size), .lf (.int .i64 fun _ => x.period), .lf (.int .i64 fun _ => x.ck), .lf (.int .i64 fun _ => x.rest), .lf (.int .i64 fun _ => x.tries), .lf (.int .i64 fun _ => x.bP), .lf (.int .i64 fun _ => 0), .lf (.int .i64 fun _ => 1), .nil, .own 4, .nil, .own 5]), (3, aQ .int fun _ => x.ah), (4, aQ .cf fun _ => x.ah.map oK), (5, aQ .int fun _ => List.replicate j (-1))]) (fun j => j ≤ x.bP.toNat) (fun j _ => x.bP.toNat - j) 0 (Nat.zero_le _) ?_ ?_
   · cbv
     repeat' first | exact trivial | refine ⟨rfl, ?_⟩ | fail
     refine ⟨tL, ?_⟩
     repeat' first | exact trivial | refine ⟨rfl, ?_⟩ | fail
   · intro i hi;cbv;refine Br.dec (fun h2 => ?_) (fun h2 => ?_) <;> cbv
     · have h2 : (i : Int) < x.bP := h2;have h4 : i + 1 ≤ 3 := by omega
       have h5 : i + 1 ≤ x.bP.toNat := by omega
       refine ⟨?_, ?_⟩
       · show ((List.replicate i (-1 : Int)).length + 1) * 8 ≤ 140737488355328;rw [List.length_replicate]; omega
       cbv;refine Ar.exact (RR i) (RS h4) ?_;cbv;refine aJ.by (i + 1) ?_ ?_ ?_
       · show x.bP.toNat - (i + 1) < x.bP.toNat - i;omega
       · exact h5
       · cbv
         repeat' first | exact trivial | refine ⟨rfl, ?_⟩ | fail
         refine ⟨?_, trivial⟩;exact (List.replicate_succ' (n := i) (a := (-1 : Int))).symm
     have h2 : ¬ (i : Int) < x.bP := h2;have hi : i ≤ x.bP.toNat := hi;obtain rfl : i = x.bP.toNat := by omega
     repeat' first | exact trivial | refine ⟨rfl, ?_⟩ | fail
end Go.Proofs.YtehpbaiclfilaaaGreat

