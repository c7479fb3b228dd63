/-
  Which requests are well formed: the contracts. No conditions.
-/
import Derived.Test.YtnmdhpaobmjefaaCw
namespace Go.Proofs.Ytnmdhpaobmjefaa
open Go
set_option maxRecDepth 100000

def field (n : Int) : Bool := decide (0 ≤ n) && decide (n ≤ 9999)

theorem l12Field_ok (n : Int) : Spec Try.prog 35 [iA n] (Ret (bR fun _ => field n)) := by
  refine spec_of tabOk Try.func35 rfl rfl fun P hP hA => ?_
  cbv
  refine CallA.by hP (l1In_ok _ _ _) ?_
  cbv
  exact ⟨rfl, trivial⟩

theorem toReq_ok (q : Req) : Spec Try.prog 12 [eA .req q] (Ret (eR .req fun _ => q)) := by
  refine spec_of tabOk Try.func12 rfl rfl fun P hP hA => ?_
  cbv
  exact ⟨rfl, rfl, rfl, rfl, rfl, rfl, trivial⟩

theorem used_ok (n : Int) : Spec Try.prog 36 [iA n] (Ret (bR fun _ => field n)) := by
  refine spec_of tabOk Try.func36 rfl rfl fun P hP hA => ?_
  cbv
  refine CallA.by hP (within_ok _ _ _) ?_
  cbv
  exact ⟨rfl, trivial⟩

def reqOk (q : Req) : Bool :=
  if q.kind = 1 then field q.id && field q.cab && (decide (-1 ≤ q.frm) && decide (q.frm ≤ 9999)) && field q.siz && field q.tier
  else if q.kind = 2 ∨ q.kind = 4 ∨ q.kind = 5 ∨ q.kind = 7 then field q.id && (q.cab == 0 && (q.frm == 0 && (q.siz == 0 && q.tier == 0)))
  else if q.kind = 3 then field q.cab && field q.siz && (q.id == 0 && (q.frm == 0 && q.tier == 0))
  else if q.kind = 6 then q.id == 0 && (q.cab == 0 && (q.frm == 0 && (q.siz == 0 && q.tier == 0)))
  else false

theorem specReqOk_ok (q : Req) : Spec Try.prog 11 [eA .req q] (Ret (bR fun _ => reqOk q)) := by
  refine spec_of tabOk Try.func11 rfl rfl fun P hP hA => ?_
  cbv
  repeat' first
    | (refine CallA.by hP (l12Field_ok _) ?_; cbv)
    | (refine CallA.by hP (l1In_ok _ _ _) ?_; cbv)
    | (refine Br.split (fun h => ?_) (fun h => ?_) <;> cbv)
  all_goals refine ⟨?_, trivial⟩
  all_goals first
    | (simp_all [reqOk]; done)
    | (simp_all [reqOk]; intro a b; have := h a; omega)

theorem implReqOk_ok (q : Req) : Spec Try.prog 13 [eA .req q] (Ret (bR fun _ => reqOk q)) := by
  refine spec_of tabOk Try.func13 rfl rfl fun P hP hA => ?_
  cbv
  repeat' first
    | (refine CallA.by hP (used_ok _) ?_; cbv)
    | (refine CallA.by hP (within_ok _ _ _) ?_; cbv)
    | (refine Br.split (fun h => ?_) (fun h => ?_) <;> cbv)
  all_goals refine ⟨?_, trivial⟩
  all_goals first
    | (simp_all [reqOk]; done)
    | (simp_all [reqOk]; intro a b; have := h a; omega)

theorem lawReqOk_ok (q : Req) : Spec Try.prog 4 [eA .req q] (Ret (bR fun _ => true)) := by
  refine spec_of tabOk Try.func4 rfl rfl fun P hP hA => ?_
  cbv
  refine CallA.by hP (toReq_ok q) ?_
  cbv
  refine CallA.by hP (specReqOk_ok q) ?_
  cbv
  refine CallA.by hP (toReq_ok q) ?_
  cbv
  refine CallA.by hP (implReqOk_ok q) ?_
  cbv
  refine Br.split (fun h => ?_) (fun h => ?_) <;> cbv
  · simp at h
  · exact ⟨rfl, trivial⟩

end Go.Proofs.Ytnmdhpaobmjefaa
