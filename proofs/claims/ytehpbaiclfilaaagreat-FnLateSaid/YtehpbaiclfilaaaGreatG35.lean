/- Parts of a proof. No conditions. -/

import Derived.Test.YtehpbaiclfilaaaGreatG34
import Derived.Test.YtehpbaiclfilaaaGreatG33
import Derived.Test.YtehpbaiclfilaaaGreatG32
import Derived.Test.YtehpbaiclfilaaaGreatGRetK
set_option linter.unusedSimpArgs false
set_option linter.unusedVariables false
namespace Go.Proofs.YtehpbaiclfilaaaGreat
open Go
set_option maxRecDepth 100000
set_option maxHeartbeats 4000000 in
theorem Kl (h : ai) (k : Int) (hs : bh h) (x : ai) (hx : x = (jc h k).1) (y : List Int) (hy : y = (jc h k).2) : Spec Tryz.prog 57 [dk h, iA k] (aE (.bc [(true, ik fun _ => x), (false, [.own .int fun _ => y])])) := by
 have Km : bh (fI h k) ∧ o9 k (fI h k) [] = (x, y) ∧ (eE (fI h k) k = 0 ∨ ([] : List Int).length + hR (fI h k) k ≤ 10) := by
   refine ⟨oD hs k, by rw [hx, hy]; rfl, ?_⟩
   by_cases hv : eE (fI h k) k = 0
   · exact .inl hv
   · exact .inr (by have := (tX hv).2.2.2.2.2.2.2.2; simpa using this)
 refine aH ay Tryz.func57 rfl rfl (fr := true) (fun _ => by kernel_rfl) fun P hP hA => ?_;cbv;refine ag.by hP (wm h k hs (fI h k) rfl) ?_;cbv;refine aT.by (X := ai × List Int) (fun s => [(1, iA k), (4, pN 0), (6, pN 1), (7, oN 7)]) (fun s => [(0, .box [.nil, .lf (.int .i64 fun _ => 0), .lf (.int .i64 fun _ => 0), .lf (.int .i64 fun _ => 0), .lf (.int .i64 fun _ => 0), .lf (.int .i64 fun _ => 0), .lf (.int .i64 fun _ => 0), .lf (.int .i64 fun _ => 0), .lf (.int .i64 fun _ => 0), .lf (.int .i64 fun _ => 0), .lf (.int .i64 fun _ => 0), .nil, .nil, .nil, .nil]), (1, .box [.own 2, .lf (.int .i64 fun _ => (s.1).rules.cm), .lf (.int .i64 fun _ => (s.1).rules.room), .lf (.int .i64 fun _ => (s.1).rules.size), .lf (.int .i64 fun _ => (s.1).rules.period), .lf (.int .i64 fun _ => (s.1).rules.ck), .lf (.int .i64 fun _ => (s.1).rules.rest), .lf (.int .i64 fun _ => (s.1).rules.tries), .lf (.int .i64 fun _ => (s.1).rules.bP), .lf (.int .i64 fun _ => (s.1).now), .lf (.int .i64 fun _ => (s.1).aw), .own 3, .own 4, .own 5, .own 6]), (2, aQ .int fun _ => (s.1).rules.ah), (3, aQ .az fun _ => (s.1).ae), (4, aQ .cf fun _ => (s.1).cabins), (5, aQ .int fun _ => (s.1).todo), (6, aQ .int fun _ => (s.1).aN), (7, aQ .int fun _ => s.2)]) (fun s => bh s.1 ∧ o9 k s.1 s.2 = (x, y) ∧ (eE s.1 k = 0 ∨ s.2.length + hR s.1 k ≤ 10)) (fun s _ => hR s.1 k) (fI h k, []) Km ?_ ?_
 · cbv
   repeat' first | exact trivial | refine ⟨rfl, ?_⟩ | fail
 · intro ⟨E, ids⟩ ⟨hE, ht, hl⟩;have hE : bh E := hE;have ht : o9 k E ids = (x, y) := ht;have hl : eE E k = 0 ∨ ids.length + hR E k ≤ 10 := hl
   by_cases hv : eE E k = 0
   · rw [sO hv] at ht;obtain ⟨rfl, rfl⟩ := Prod.mk.inj ht;cbv;refine ag.by hP (xE E k hE E (if_pos hv).symm 0 hv.symm) ?_;cbv;refine Br.split (fun k0 => ?_) (fun k0 => ?_) <;> cbv
     · repeat' first | exact trivial | refine ⟨rfl, ?_⟩ | fail
     · have k0 : ((0 : Int) == 0) = false := k0;cases k0
   · have hl := hl.resolve_left hv;obtain ⟨_, Er, _, _, _, _, _, hr, K7⟩ := tX hv;have ob : (ids.length + 1) * 8 ≤ 140737488355328 := by omega
     rw [EW hv] at ht;cbv;refine ag.by hP (xE E k hE (gI E k) rfl (eE E k) rfl) ?_;cbv;refine Br.split (fun k0 => ?_) (fun k0 => ?_) <;> cbv
     · have k0 : (eE E k == 0) = true := k0;exact absurd (by simpa using k0) hv
     repeat' first
       | exact trivial
       | (refine Ob.mk (ob) ?_; cbv)
       | (refine Pz.mk ?_; cbv) | (refine bu.mk ?_ (by kernel_rfl) ?_; rotate_left; cbv; rotate_right) | refine ⟨rfl, ?_⟩ | refine And.intro ?_ ?_ | exact rfl | fail
     refine aJ.by (gI E k, ids ++ [eE E k]) ?_ ?_ ?_
     · show hR (gI E k) k < hR E k;omega
     · refine ⟨Er.small, ht, ?_⟩
       by_cases lN : eE (gI E k) k = 0
       · exact .inl lN
       · exact .inr (by show (ids ++ [eE E k]).length + hR (gI E k) k ≤ 10; rw [List.length_append, List.length_singleton]; omega)
     · cbv
       repeat' first | exact trivial | refine ⟨rfl, ?_⟩ | fail
end Go.Proofs.YtehpbaiclfilaaaGreat

