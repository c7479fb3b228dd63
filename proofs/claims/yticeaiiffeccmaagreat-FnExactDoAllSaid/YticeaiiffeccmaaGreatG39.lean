/- Parts of a proof. No conditions. -/

import Derived.Test.YticeaiiffeccmaaGreatG38
import Derived.Test.YticeaiiffeccmaaGreatG36
set_option linter.unusedSimpArgs false
set_option linter.unusedVariables false
namespace Go.Proofs.YticeaiiffeccmaaGreat
open Go
set_option maxRecDepth 100000
def cS : an → List bF → an
 | h, [] => h
 | h, q :: qs => cS (nX h q) qs
def jD : an → List bF → List fK
 | _, [] => []
 | h, q :: qs => ly h q :: jD (nX h q) qs
theorem Jb : ∀ (qs rs : List bF) (h : an), cS h (qs ++ rs) = cS (cS h qs) rs
 | [], _, _ => rfl
 | _ :: qs, rs, _ => Jb qs rs _
theorem Jc : ∀ (qs rs : List bF) (h : an), jD h (qs ++ rs) = jD h qs ++ jD (cS h qs) rs
 | [], _, _ => rfl
 | q :: qs, rs, h => congrArg (ly h q :: ·) (Jc qs rs _)
theorem Jd (h : an) {qs : List bF} {i : Nat} (hi : i < qs.length) : cS h (qs.take (i + 1)) = nX (cS h (qs.take i)) qs[i] := by
 rw [take_one hi, Jb]; rfl
theorem Je (h : an) {qs : List bF} {i : Nat} (hi : i < qs.length) : jD h (qs.take (i + 1)) = jD h (qs.take i) ++ [ly (cS h (qs.take i)) qs[i]] := by
 rw [take_one hi, Jc]; rfl
theorem yQ : ∀ (qs : List bF) {h : an}, bh h → bh (cS h qs)
 | [], _, hs => hs
 | q :: qs, _, hs => yQ qs (CM hs q)
theorem wA : ∀ (qs : List bF) (h : an), (jD h qs).length = qs.length
 | [], _ => rfl
 | _ :: qs, _ => congrArg (· + 1) (wA qs _)
theorem Jf : ∀ (qs : List bF) {h : an}, bh h → ∀ x ∈ jD h qs, x.ids.length ≤ 11
 | [], _, _, _, hx => by cases hx
 | q :: qs, _, hs, x, hx => by
   rcases List.mem_cons.1 hx with rfl | hx
   · exact IY hs q
   · exact Jf qs (CM hs q) x hx
set_option maxHeartbeats 4000000 in
theorem Q1 (h : an) (qs : List bF) (hs : bh h) (hq : qs.length ≤ bc) (x : an) (hx : x = cS h qs) (y : List fK) (hy : y = jD h qs) : Spec Tryz.prog 32 [cw h, lA .cT qs] (aE (.aT [(true, fT fun _ => x), (false, [.own .rep fun _ => y])])) := by
 have hn : qs.length ≤ 1048576 := hq;refine ay au Tryz.func32 rfl rfl (fr := true) (fun _ => by kernel_rfl) fun P hP hA => ?_;cbv;refine ag.by hP (gB h hs) ?_;cbv;refine aU.by (X := Nat) (fun i => [(1, lA .cT qs), (4, pN 0), (6, pN 1), (7, oN 7), (8, nT fun _ => i)]) (fun i => [(0, .box [.nil, .lf (.int .i64 fun _ => 0), .lf (.int .i64 fun _ => 0), .lf (.int .i64 fun _ => 0), .lf (.int .i64 fun _ => 0), .lf (.int .i64 fun _ => 0), .lf (.int .i64 fun _ => 0), .lf (.int .i64 fun _ => 0), .lf (.int .i64 fun _ => 0), .lf (.int .i64 fun _ => 0), .lf (.int .i64 fun _ => 0), .nil, .nil, .nil, .nil]), (1, .box [.own 2, .lf (.int .i64 fun _ => (cS h (qs.take i)).rules.cn), .lf (.int .i64 fun _ => (cS h (qs.take i)).rules.room), .lf (.int .i64 fun _ => (cS h (qs.take i)).rules.size), .lf (.int .i64 fun _ => (cS h (qs.take i)).rules.period), .lf (.int .i64 fun _ => (cS h (qs.take i)).rules.cp), .lf (.int .i64 fun _ => (cS h (qs.take i)).rules.rest), .lf (.int .i64 fun _ => (cS h (qs.take i)).rules.tries), .lf (.int .i64 fun _ => (cS h (qs.take i)).rules.cC), .lf (.int .i64 fun _ => (cS h (qs.take i)).now), .lf (.int .i64 fun _ => (cS h (qs.take i)).aC), .own 3, .own 4, .own 5, .own 6]), (2, aN .int fun _ => (cS h (qs.take i)).rules.aj), (3, aN .aG fun _ => (cS h (qs.take i)).ae), (4, aN .ah fun _ => (cS h (qs.take i)).cabins), (5, aN .int fun _ => (cS h (qs.take i)).todo), (6, aN .int fun _ => (cS h (qs.take i)).aF), (7, aN .rep fun _ => jD h (qs.take i))]) (fun i => i ≤ qs.length) (fun i _ => qs.length - i) 0 (Nat.zero_le _) ?_ ?_
 · cbv
   repeat' first | exact trivial | refine ⟨rfl, ?_⟩ | fail
 · intro i hi;cbv;refine Br.dec (fun h2 => ?_) (fun h2 => ?_) <;> cbv
   · have h2 : i < qs.length := by simpa using h2
     have ob : ((jD h (qs.take i)).length + 1) * 32 ≤ 140737488355328 := by rw [wA, List.length_take]; omega
     repeat' first
      | exact trivial
      | (refine ag.by hP (CS (cS h (qs.take i)) qs[i] (yQ _ hs) (nX (cS h (qs.take i)) qs[i]) rfl (ly (cS h (qs.take i)) qs[i]) rfl) ?_; cbv)
      | (refine Ix.mk qs[i] (by simp) (get_cast qs h2) ?_; cbv)
      | (refine Ob.mk (ob) ?_; cbv)
      | (refine Ar.exact (by (try simp only [nc] at *); omega) (by (try simp only [nc] at *); omega) ?_; cbv)
      | (refine Pz.mk ?_; cbv) | (refine bx.mk ?_ (by kernel_rfl) ?_; rotate_left; cbv; rotate_right) | refine ⟨rfl, ?_⟩ | refine And.intro ?_ ?_ | exact rfl | fail
     all_goals
      refine aP.by (i + 1) ?_ ?_ ?_
      · show qs.length - (i + 1) < qs.length - i;omega
      · exact h2
      · rw [Jd h h2, Je h h2];cbv
        repeat' first | exact trivial | refine ⟨rfl, ?_⟩ | fail
   · have h2 : qs.length ≤ i := by simp at h2; omega
     rw [List.take_of_length_le h2, ← hx, ← hy]
     repeat' first | exact trivial | refine ⟨rfl, ?_⟩ | fail
set_option maxHeartbeats 4000000 in
theorem Q2 (h : an) (qs : List bF) (hs : bh h) (hq : qs.length ≤ bc) (x : an) (hx : x = cS h qs) (y : List fK) (hy : y = jD h qs) : Spec Tryz.prog 34 [cw h, lA .cT qs] (aE (.aT [(true, fT fun _ => x), (false, [.own .rep fun _ => y])])) := by
 have hn : qs.length ≤ 1048576 := hq;refine ay au Tryz.func34 rfl rfl (fr := true) (fun _ => by kernel_rfl) fun P hP hA => ?_;cbv;refine ag.by hP (iG h hs) ?_;cbv;refine aU.by (X := Nat) (fun i => [(4, pN 0), (6, pN 1), (7, oN 7), (14, lA .cT qs), (15, nT fun _ => qs.length), (16, nT fun _ => i)]) (fun i => [(0, .box [.nil, .lf (.int .i64 fun _ => 0), .lf (.int .i64 fun _ => 0), .lf (.int .i64 fun _ => 0), .lf (.int .i64 fun _ => 0), .lf (.int .i64 fun _ => 0), .lf (.int .i64 fun _ => 0), .lf (.int .i64 fun _ => 0), .lf (.int .i64 fun _ => 0), .lf (.int .i64 fun _ => 0), .lf (.int .i64 fun _ => 0), .nil, .nil, .nil, .nil]), (1, .box [.own 2, .lf (.int .i64 fun _ => (cS h (qs.take i)).rules.cn), .lf (.int .i64 fun _ => (cS h (qs.take i)).rules.room), .lf (.int .i64 fun _ => (cS h (qs.take i)).rules.size), .lf (.int .i64 fun _ => (cS h (qs.take i)).rules.period), .lf (.int .i64 fun _ => (cS h (qs.take i)).rules.cp), .lf (.int .i64 fun _ => (cS h (qs.take i)).rules.rest), .lf (.int .i64 fun _ => (cS h (qs.take i)).rules.tries), .lf (.int .i64 fun _ => (cS h (qs.take i)).rules.cC), .lf (.int .i64 fun _ => (cS h (qs.take i)).now), .lf (.int .i64 fun _ => (cS h (qs.take i)).aC), .own 3, .own 4, .own 5, .own 6]), (2, aN .int fun _ => (cS h (qs.take i)).rules.aj), (3, aN .aG fun _ => (cS h (qs.take i)).ae), (4, aN .ah fun _ => (cS h (qs.take i)).cabins), (5, aN .int fun _ => (cS h (qs.take i)).todo), (6, aN .int fun _ => (cS h (qs.take i)).aF), (7, aN .rep fun _ => jD h (qs.take i))]) (fun i => i ≤ qs.length) (fun i _ => qs.length - i) 0 (Nat.zero_le _) ?_ ?_
 · cbv
   repeat' first | exact trivial | refine ⟨rfl, ?_⟩ | fail
 · intro i hi;cbv;refine Br.dec (fun h2 => ?_) (fun h2 => ?_) <;> cbv
   · have h2 : i < qs.length := by simpa using h2
     have ob : ((jD h (qs.take i)).length + 1) * 32 ≤ 140737488355328 := by rw [wA, List.length_take]; omega
     repeat' first
      | exact trivial
      | (refine ag.by hP (wz (cS h (qs.take i)) qs[i] (yQ _ hs) (nX (cS h (qs.take i)) qs[i]) rfl (ly (cS h (qs.take i)) qs[i]) rfl) ?_; cbv)
      | (refine Ix.mk qs[i] (by simp) (get_cast qs h2) ?_; cbv)
      | (refine Ob.mk (ob) ?_; cbv)
      | (refine Ar.exact (by (try simp only [nc] at *); omega) (by (try simp only [nc] at *); omega) ?_; cbv)
      | (refine Pz.mk ?_; cbv) | (refine bx.mk ?_ (by kernel_rfl) ?_; rotate_left; cbv; rotate_right) | refine ⟨rfl, ?_⟩ | refine And.intro ?_ ?_ | exact rfl | fail
     all_goals
      refine aP.by (i + 1) ?_ ?_ ?_
      · show qs.length - (i + 1) < qs.length - i;omega
      · exact h2
      · rw [Jd h h2, Je h h2];cbv
        repeat' first | exact trivial | refine ⟨rfl, ?_⟩ | fail
   · have h2 : qs.length ≤ i := by simp at h2; omega
     rw [List.take_of_length_le h2, ← hx, ← hy]
     repeat' first | exact trivial | refine ⟨rfl, ?_⟩ | fail
end Go.Proofs.YticeaiiffeccmaaGreat

