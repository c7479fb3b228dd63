/- Parts of a proof. No conditions. -/

import Derived.Test.YtpklefhdkkegiaaGreatG37
import Derived.Test.YtpklefhdkkegiaaGreatG39
set_option linter.unusedSimpArgs false
set_option linter.unusedVariables false
namespace Go.Proofs.YtpklefhdkkegiaaGreat
open Go
set_option maxRecDepth 100000
theorem QO (q:cf) (k:q.kind=1):ns q.id q.ah q.aq q.au q.aT=q:=by cases q; simp only at k; subst k; rfl
theorem yq {q:cf} (h:dB q=true) (k:q.kind=2∨q.kind=4∨q.kind=5∨q.kind=7):(⟨q.kind,q.id,0,0,0,0⟩:cf)=q:=by
 rw[dB,if_neg (by omega),if_pos k] at h;simp only[Bool.and_eq_true,beq_iff_eq] at h;obtain⟨_,a,b,c,d⟩:=h;cases q; simp only at a b c d ⊢; subst a b c d; rfl
theorem QP {q:cf} (h:dB q=true) (k:q.kind=3):oJ q.ah q.au=q:=by
 rw[dB,if_neg (by omega),if_neg (by omega),if_pos k] at h;simp only[Bool.and_eq_true,beq_iff_eq] at h;obtain⟨_,a,b,c⟩:=h;cases q; simp only at a b c k ⊢; subst a b c k; rfl
theorem QQ {q:cf} (h:dB q=true) (k:q.kind=6):rF=q:=by
 rw[dB,if_neg (by omega),if_neg (by omega),if_neg (by omega),if_pos k] at h;simp only[Bool.and_eq_true,beq_iff_eq] at h;obtain⟨e,a,b,c,d⟩:=h;cases q; simp only at a b c d e k ⊢; subst a b c d e k; rfl
theorem QR {h:al} {q:cf} (hv:bx h q=0):mm h q=0:=by
 obtain⟨h0,h1,h2⟩:=oI hv;have hk:=bF h1;unfold mm
 split
 · rename_i k; rw[QO q k]; exact hv
 split
 · rename_i k; rw[show lF q.id=q by have:=yq h2 (.inl k); rw[k] at this; exact this]; exact hv
 split
 · rename_i k; rw[QP h2 k]; exact hv
 split
 · rename_i k; rw[show np q.id=q by have:=yq h2 (.inr (.inl k)); rw[k] at this; exact this]; exact hv
 split
 · rename_i k; rw[show nq q.id=q by have:=yq h2 (.inr (.inr (.inl k))); rw[k] at this; exact this]; exact hv
 split
 · rename_i k; rw[QQ h2 k]; exact hv
 · have k:q.kind=7:=by omega
   rw[show jc q.id=q by have:=yq h2 (.inr (.inr (.inr k))); rw[k] at this; exact this]; exact hv
theorem QS (h:al) (q:cf):vW h q=bx h q:=by
 unfold vW; split
 · rename_i hv; rw[QR hv,hv]
 · rfl
end Go.Proofs.YtpklefhdkkegiaaGreat

