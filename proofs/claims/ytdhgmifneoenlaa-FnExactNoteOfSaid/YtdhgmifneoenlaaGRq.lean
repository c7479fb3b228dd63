/- Parts of a proof. No conditions. -/

import Derived.Test.YtdhgmifneoenlaaGCw
set_option linter.unusedSimpArgs false
set_option linter.unusedVariables false
namespace Go.Proofs.Ytdhgmifneoenlaa
open Go
set_option maxRecDepth 100000
def field (n : Int) : Bool := decide (0 ≤ n) && decide (n ≤ 9999)
theorem l12Field_ok (n : Int) : Spec Try.prog 22 [iA n] (Ret (bR fun _ => field n)) := by
  refine spec_of tabOk Try.func22 rfl rfl (fr := true) (fun _ => by kernel_rfl) fun P hP hA => ?_
  cbv
  refine CallA.by hP (l1In_ok _ _ _) ?_
  cbv
  exact ⟨rfl, trivial⟩
theorem toReq_ok (q : Req) : Spec Try.prog 5 [eA .req q] (Ret (eR .req fun _ => q)) := by
  refine spec_of tabOk Try.func5 rfl rfl (fr := true) (fun _ => by kernel_rfl) fun P hP hA => ?_
  cbv
  exact ⟨rfl, rfl, rfl, rfl, rfl, rfl, trivial⟩
theorem used_ok (n : Int) : Spec Try.prog 23 [iA n] (Ret (bR fun _ => field n)) := by
  refine spec_of tabOk Try.func23 rfl rfl (fr := true) (fun _ => by kernel_rfl) fun P hP hA => ?_
  cbv
  refine CallA.by hP (within_ok _ _ _) ?_
  cbv
  exact ⟨rfl, trivial⟩
def reqOk (q : Req) : Bool :=
  if q.kind = 1 then field q.id && field q.cab && (decide (-1 ≤ q.frm) && decide (q.frm ≤ 9999)) && field q.siz && field q.tier
  else if q.kind = 2 ∨ q.kind = 4 ∨ q.kind = 5 ∨ q.kind = 7 then field q.id && (q.cab == 0 && (q.frm == 0 && (q.siz == 0 && q.tier == 0)))
  else if q.kind = 3 then field q.cab && field q.siz && (q.id == 0 && (q.frm == 0 && q.tier == 0))
  else if q.kind = 6 then q.id == 0 && (q.cab == 0 && (q.frm == 0 && (q.siz == 0 && q.tier == 0)))
  else false
theorem specReqOk_ok (q : Req) : Spec Try.prog 11 [eA .req q] (Ret (bR fun _ => reqOk q)) := by
  refine spec_of tabOk Try.func11 rfl rfl (fr := true) (fun _ => by kernel_rfl) fun P hP hA => ?_
  cbv
  repeat' first
    | (refine CallA.by hP (l12Field_ok _) ?_; cbv)
    | (refine CallA.by hP (l1In_ok _ _ _) ?_; cbv)
    | (refine Br.split (fun h => ?_) (fun h => ?_) <;> cbv)
  all_goals refine ⟨?_, trivial⟩
  all_goals first
    | (simp_all [reqOk]; done)
    | (simp_all [reqOk]; intro a b; have := h a; omega)
theorem implReqOk_ok (q : Req) : Spec Try.prog 20 [eA .req q] (Ret (bR fun _ => reqOk q)) := by
  refine spec_of tabOk Try.func20 rfl rfl (fr := true) (fun _ => by kernel_rfl) fun P hP hA => ?_
  cbv
  repeat' first
    | (refine CallA.by hP (used_ok _) ?_; cbv)
    | (refine CallA.by hP (within_ok _ _ _) ?_; cbv)
    | (refine Br.split (fun h => ?_) (fun h => ?_) <;> cbv)
  all_goals refine ⟨?_, trivial⟩
  all_goals first
    | (simp_all [reqOk]; done)
    | (simp_all [reqOk]; intro a b; have := h a; omega)
end Go.Proofs.Ytdhgmifneoenlaa

