/- Parts of a proof. No conditions. -/

import Derived.Test.YticeaiiffeccmaaGreatG34
import Derived.Test.YticeaiiffeccmaaGreatG33
import Derived.Test.YticeaiiffeccmaaGreatG32
import Derived.Test.YticeaiiffeccmaaGreatGRetK
set_option linter.unusedSimpArgs false
set_option linter.unusedVariables false
namespace Go.Proofs.YticeaiiffeccmaaGreat
open Go
set_option maxRecDepth 100000
set_option maxHeartbeats 4000000 in
theorem IP (h : an) (k : Int) (hs : bh h) (x : an) (hx : x = (cK h k).1) (y : List Int) (hy : y = (cK h k).2) : Spec Tryz.prog 19 [cw h, iA k] (aE (.aT [(true, fT fun _ => x), (false, [.own .int fun _ => y])])) := by
 have CJ : bh (cZ h k) ∧ lv k (cZ h k) [] = (x, y) ∧ (cM (cZ h k) k = 0 ∨ ([] : List Int).length + ek (cZ h k) k ≤ 10) := by
   refine ⟨yI hs k, by rw [hx, hy]; rfl, ?_⟩
   by_cases hv : cM (cZ h k) k = 0
   · exact .inl hv
   · exact .inr (by have := (qI hv).2.2.2.2.2.2.2.2; simpa using this)
 refine ay au Tryz.func19 rfl rfl (fr := true) (fun _ => by kernel_rfl) fun P hP hA => ?_;cbv;refine ag.by hP (IL h k hs (cZ h k) rfl) ?_;cbv;refine aU.by (X := an × List Int) (fun s => [(1, iA k), (4, pN 0), (6, pN 1), (7, oN 7)]) (fun s => [(0, .box [.nil, .lf (.int .i64 fun _ => 0), .lf (.int .i64 fun _ => 0), .lf (.int .i64 fun _ => 0), .lf (.int .i64 fun _ => 0), .lf (.int .i64 fun _ => 0), .lf (.int .i64 fun _ => 0), .lf (.int .i64 fun _ => 0), .lf (.int .i64 fun _ => 0), .lf (.int .i64 fun _ => 0), .lf (.int .i64 fun _ => 0), .nil, .nil, .nil, .nil]), (1, .box [.own 2, .lf (.int .i64 fun _ => (s.1).rules.cn), .lf (.int .i64 fun _ => (s.1).rules.room), .lf (.int .i64 fun _ => (s.1).rules.size), .lf (.int .i64 fun _ => (s.1).rules.period), .lf (.int .i64 fun _ => (s.1).rules.cp), .lf (.int .i64 fun _ => (s.1).rules.rest), .lf (.int .i64 fun _ => (s.1).rules.tries), .lf (.int .i64 fun _ => (s.1).rules.cC), .lf (.int .i64 fun _ => (s.1).now), .lf (.int .i64 fun _ => (s.1).aC), .own 3, .own 4, .own 5, .own 6]), (2, aN .int fun _ => (s.1).rules.aj), (3, aN .aG fun _ => (s.1).ae), (4, aN .ah fun _ => (s.1).cabins), (5, aN .int fun _ => (s.1).todo), (6, aN .int fun _ => (s.1).aF), (7, aN .int fun _ => s.2)]) (fun s => bh s.1 ∧ lv k s.1 s.2 = (x, y) ∧ (cM s.1 k = 0 ∨ s.2.length + ek s.1 k ≤ 10)) (fun s _ => ek s.1 k) (cZ h k, []) CJ ?_ ?_
 · cbv
   repeat' first | exact trivial | refine ⟨rfl, ?_⟩ | fail
 · intro ⟨E, ids⟩ ⟨hE, ht, hl⟩;have hE : bh E := hE;have ht : lv k E ids = (x, y) := ht;have hl : cM E k = 0 ∨ ids.length + ek E k ≤ 10 := hl
   by_cases hv : cM E k = 0
   · rw [wj hv] at ht;obtain ⟨rfl, rfl⟩ := Prod.mk.inj ht;cbv;refine ag.by hP (CH E k hE E (if_pos hv).symm 0 hv.symm) ?_;cbv;refine Br.split (fun k0 => ?_) (fun k0 => ?_) <;> cbv
     · repeat' first | exact trivial | refine ⟨rfl, ?_⟩ | fail
     · have k0 : ((0 : Int) == 0) = false := k0;cases k0
   · have hl := hl.resolve_left hv;obtain ⟨_, CK, _, _, _, _, _, hr, Qz⟩ := qI hv;have ob : (ids.length + 1) * 8 ≤ 140737488355328 := by omega
     rw [Iv hv] at ht;cbv;refine ag.by hP (CH E k hE (dH E k) rfl (cM E k) rfl) ?_;cbv;refine Br.split (fun k0 => ?_) (fun k0 => ?_) <;> cbv
     · have k0 : (cM E k == 0) = true := k0;exact absurd (by simpa using k0) hv
     repeat' first
       | exact trivial
       | (refine Ob.mk (ob) ?_; cbv)
       | (refine Pz.mk ?_; cbv) | (refine bx.mk ?_ (by kernel_rfl) ?_; rotate_left; cbv; rotate_right) | refine ⟨rfl, ?_⟩ | refine And.intro ?_ ?_ | exact rfl | fail
     refine aP.by (dH E k, ids ++ [cM E k]) ?_ ?_ ?_
     · show ek (dH E k) k < ek E k;omega
     · refine ⟨CK.small, ht, ?_⟩
       by_cases mP : cM (dH E k) k = 0
       · exact .inl mP
       · exact .inr (by show (ids ++ [cM E k]).length + ek (dH E k) k ≤ 10; rw [List.length_append, List.length_singleton]; omega)
     · cbv
       repeat' first | exact trivial | refine ⟨rfl, ?_⟩ | fail
set_option maxHeartbeats 2000000 in
theorem QA (h : an) (n : Nat) (hs : bh h) (hg : HG h) (hn : n < h.cabins.length) (hv : jz h h.cabins[n] = 0) : cB Tryz.prog 46 [kD h, nT fun _ => n] (lg h) (CI (.aT [(true, G0 (kD h)), (false, [.lf (.int .i64 fun _ => 0)])]) (Qo h)) := by
 refine Qx au Tryz.func46 rfl rfl (fr := true) (fun _ => by kernel_rfl) rfl rfl fun P hP hA hB => ?_;cbv;refine ag.by hP (BL h n hn (gP.2 hg) (jz h h.cabins[n]) rfl) ?_;cbv;refine Br.split (fun k0 => ?_) (fun k0 => ?_) <;> cbv
 · repeat' first | exact trivial | refine ⟨rfl, ?_⟩ | fail
 · have k0 : (jz h h.cabins[n] == 0) = false := k0;rw [hv] at k0; cases k0
set_option maxHeartbeats 4000000 in
theorem IQ (h : an) (k : Int) (hs : bh h) (x : an) (hx : x = (cK h k).1) (y : List Int) (hy : y = (cK h k).2) : Spec Tryz.prog 18 [cw h, iA k] (aE (.aT [(true, fT fun _ => x), (false, [.own .int fun _ => y])])) := by
 by_cases hc : cL h k = true
 rotate_left
 · have hd : br h k = [] := wh (by simpa using hc);have he : cZ h k = h := by rw [cZ, hd]; rfl
   have hn : cM (cZ h k) k = 0 := by rw [he, cM, if_neg hc]
   obtain rfl : x = h := by rw [hx, cK, wj hn]; exact he
   obtain rfl : y = [] := by rw [hy, cK, wj hn]
   refine ay au Tryz.func18 rfl rfl (fr := true) (fun _ => by kernel_rfl) fun P hP hA => ?_;cbv;refine ag.by hP (gB x hs) ?_;cbv;refine ag.by hP (rM x k hs (cL x k) rfl) ?_;cbv;refine Br.split (fun k0 => ?_) (fun k0 => ?_) <;> cbv
   · repeat' first | exact trivial | refine ⟨rfl, ?_⟩ | fail
   · have k0 : (!cL x k) = false := k0;exact absurd (by simpa using k0) hc
 obtain ⟨hg, n, cb, hk, rfl⟩ := rW hc;have hn := bK hk;have I := CA hg hn
 have CJ : (HG (cZ h (n : Int)) ∧ (cZ h (n : Int)).cabins.length = h.cabins.length) ∧ lv (n : Int) (cZ h (n : Int)) [] = (x, y) ∧ (cM (cZ h (n : Int)) (n : Int) = 0 ∨ ([] : List Int).length + ek (cZ h (n : Int)) (n : Int) ≤ 10) := by
   refine ⟨⟨I.hg, I.len⟩, by rw [hx, hy]; rfl, ?_⟩
   by_cases hv : cM (cZ h (n : Int)) (n : Int) = 0
   · exact .inl hv
   · exact .inr (by have := (qI hv).2.2.2.2.2.2.2.2; simpa using this)
 refine ay au Tryz.func18 rfl rfl (fr := true) (fun _ => by kernel_rfl) fun P hP hA => ?_;cbv;refine ag.by hP (gB h hs) ?_;cbv;refine ag.by hP (rM h (n : Int) hs (cL h (n : Int)) rfl) ?_;cbv;refine Br.split (fun k0 => ?_) (fun k0 => ?_) <;> cbv
 · have k0 : (!cL h (n : Int)) = true := k0;rw [hc] at k0; cases k0
 refine bB.by hP (IM h n hs hg hn (n : Int) rfl (cZ h (n : Int)) rfl) ?_;cbv;refine aU.by (X := an × List Int) (fun s => [(1, nT fun _ => n), (4, pN 0), (6, pN 1), (7, oN 7)]) (fun s => [(0, .box [.nil, .lf (.int .i64 fun _ => 0), .lf (.int .i64 fun _ => 0), .lf (.int .i64 fun _ => 0), .lf (.int .i64 fun _ => 0), .lf (.int .i64 fun _ => 0), .lf (.int .i64 fun _ => 0), .lf (.int .i64 fun _ => 0), .lf (.int .i64 fun _ => 0), .lf (.int .i64 fun _ => 0), .lf (.int .i64 fun _ => 0), .nil, .nil, .nil, .nil]), (1, .box [.own 2, .lf (.int .i64 fun _ => (s.1).rules.cn), .lf (.int .i64 fun _ => (s.1).rules.room), .lf (.int .i64 fun _ => (s.1).rules.size), .lf (.int .i64 fun _ => (s.1).rules.period), .lf (.int .i64 fun _ => (s.1).rules.cp), .lf (.int .i64 fun _ => (s.1).rules.rest), .lf (.int .i64 fun _ => (s.1).rules.tries), .lf (.int .i64 fun _ => (s.1).rules.cC), .lf (.int .i64 fun _ => (s.1).now), .lf (.int .i64 fun _ => (s.1).aC), .own 3, .own 4, .own 5, .own 6]), (2, aN .int fun _ => (s.1).rules.aj), (3, aN .aG fun _ => (s.1).ae), (4, aN .ah fun _ => (s.1).cabins), (5, aN .int fun _ => (s.1).todo), (6, aN .int fun _ => (s.1).aF), (7, aN .int fun _ => s.2)]) (fun s => (HG s.1 ∧ s.1.cabins.length = h.cabins.length) ∧ lv (n : Int) s.1 s.2 = (x, y) ∧ (cM s.1 (n : Int) = 0 ∨ s.2.length + ek s.1 (n : Int) ≤ 10)) (fun s _ => ek s.1 (n : Int)) (cZ h (n : Int), []) CJ ?_ ?_
 · cbv
   repeat' first | exact trivial | refine ⟨rfl, ?_⟩ | fail
 · intro ⟨E, ids⟩ ⟨⟨gE, lE⟩, ht, hl⟩;have gE : HG E := gE;have lE : E.cabins.length = h.cabins.length := lE;have ht : lv (n : Int) E ids = (x, y) := ht;have hl : cM E (n : Int) = 0 ∨ ids.length + ek E (n : Int) ≤ 10 := hl;have IS : n < E.cabins.length := by omega
   have eN := wi gE (List.getElem?_eq_getElem IS)
   by_cases hv : cM E (n : Int) = 0
   · rw [wj hv] at ht;obtain ⟨rfl, rfl⟩ := Prod.mk.inj ht;cbv;refine bB.Qy hP (QA E n gE.small gE IS (by rw [← eN]; exact hv)) ?_;cbv;refine Br.split (fun k0 => ?_) (fun k0 => ?_) <;> cbv
     · repeat' first | exact trivial | refine ⟨rfl, ?_⟩ | fail
     · have k0 : ((0 : Int) == 0) = false := k0;cases k0
   · have hl := hl.resolve_left hv;obtain ⟨_, CK, _, _, l2, _, _, hr, Qz⟩ := qI hv;have ob : (ids.length + 1) * 8 ≤ 140737488355328 := by omega
     rw [Iv hv] at ht;obtain ⟨n2, c2, i, p, en, o, st, fr, aV, ep⟩ := yJ hv;obtain rfl : n2 = n := by omega
     have hr : ek (dH E (n2 : Int)) (n2 : Int) + 1 = ek E (n2 : Int) := hr;have hl : ids.length + ek E (n2 : Int) ≤ 10 := hl;have h3 : ids.length + 1 + ek (dH E (n2 : Int)) (n2 : Int) ≤ 10 := by omega
     have h4 : ek (dH E (n2 : Int)) (n2 : Int) < ek E (n2 : Int) := by omega
     have pe : E.ae.getD ((i : Int)).toNat default = p := by rw [Int.toNat_natCast, List.getD_eq_getElem?_getD, o.hi]; rfl
     have eH : dH E (n2 : Int) = kN E (n2 : Int) p := by rw [dH, if_neg hv, ep]
     have ec : cM E (n2 : Int) = jz E c2 := wi gE o.hk;cbv;refine bB.by hP (IN E n2 gE.small (i := i) (cb := c2) (by rw [pe]; exact o) (by rw [pe]; exact st) (cM E (n2 : Int)) (by rw [pe]; exact aV) ec (dH E (n2 : Int)) (by rw [pe]; exact eH)) ?_;cbv;refine Br.split (fun k0 => ?_) (fun k0 => ?_) <;> cbv
     · have k0 : (cM E (n2 : Int) == 0) = true := k0;exact absurd (by simpa using k0) hv
     repeat' first
       | exact trivial
       | (refine Ob.mk (ob) ?_; cbv)
       | (refine Pz.mk ?_; cbv) | (refine bx.mk ?_ (by kernel_rfl) ?_; rotate_left; cbv; rotate_right) | refine ⟨rfl, ?_⟩ | refine And.intro ?_ ?_ | exact rfl | fail
     refine aP.by (dH E (n2 : Int), ids ++ [cM E (n2 : Int)]) ?_ ?_ ?_
     · show ek (dH E (n2 : Int)) (n2 : Int) < ek E (n2 : Int);exact h4
     · refine ⟨⟨CK, l2.trans lE⟩, ht, ?_⟩
       by_cases mP : cM (dH E (n2 : Int)) (n2 : Int) = 0
       · exact .inl mP
       · exact .inr (by show (ids ++ [cM E (n2 : Int)]).length + ek (dH E (n2 : Int)) (n2 : Int) ≤ 10; rw [List.length_append, List.length_singleton]; exact h3)
     · cbv
       repeat' first | exact trivial | refine ⟨rfl, ?_⟩ | fail
end Go.Proofs.YticeaiiffeccmaaGreat

