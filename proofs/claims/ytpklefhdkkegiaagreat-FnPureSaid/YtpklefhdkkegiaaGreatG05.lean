/- Parts of a proof. No conditions. -/

import Derived.Test.YtpklefhdkkegiaaGreatGTab
set_option linter.unusedSimpArgs false
set_option linter.unusedVariables false
namespace Go.Proofs.YtpklefhdkkegiaaGreat
open Go
def iT (t:Unit→Int):V:= .c (.lf (.int .i64 t))
def lT (E:an) (t:Unit→List E.α):V:= .c (.lf (.list E t))
def oN (k:Nat):V:= .c (.own k)
def pN (k:Nat):V:= .c (.ptr k 0)
def aK (E:an) (t:Unit→List E.α):ak:= .own E t false
section
variable {α : Type}
theorem u_ {a b:List α} {i:Nat} (h:a.take i=b.take i) (ha:i<a.length) (hb:i<b.length) (he:a[i]=b[i]):a.take (i+1)=b.take (i+1):=by
 rw[List.take_add_one,List.take_add_one,h,List.getElem?_eq_getElem ha,List.getElem?_eq_getElem hb,he]
theorem va {a b:List α} {i:Nat} (ha:i<a.length) (hb:i<b.length) (he:a[i]≠b[i]):a≠b:=fun h=>by
 subst h; exact he rfl
theorem vd {a b:List α} (hl:a.length=b.length) {i:Nat} (hi:a.length≤i) (h:a.take i=b.take i):a=b:=by
 rwa [List.take_of_length_le hi,List.take_of_length_le (by omega)] at h
theorem ve {a b:List α} (h:(((a.length:Nat):Int) != ((b.length:Nat):Int))=false):a.length=b.length:=by
 simp at h; omega
theorem vf {a b:List α} (h:(((a.length:Nat):Int) != ((b.length:Nat):Int))=true):a≠b:=by
 intro he; subst he; simp at h
theorem get_cast (xs:List α) {i:Nat} (h:i<xs.length):xs[((i:Int)).toNat]? = some xs[i]:=by
 rw[Int.toNat_natCast]; exact List.getElem?_eq_getElem h
end
def aS:Nat:=1048576
def nT (t:Unit→Nat):V:= .c (.lf (.int .i64 fun _=>((t ():Nat):Int)))
def nR (t:Unit→Nat):cN:=iR fun _=>((t ():Nat):Int)
set_option maxRecDepth 100000
end Go.Proofs.YtpklefhdkkegiaaGreat
namespace Go.Proofs.YtpklefhdkkegiaaGreat
open Go
set_option maxRecDepth 100000
theorem xA (n lo hi:Int):Spec Tryz.prog 54 [iA n,iA lo,iA hi] (aM (bR fun _=>(decide (lo≤n) && decide (n≤hi)))):=by
 refine aN aD Tryz.func54 rfl rfl (fr:=true) (fun _=>by kernel_rfl) fun P hP hA=> ?_;cbv;refine Br.dec (fun h1=> ?_) (fun h1=> ?_) <;> cbv
 · refine⟨?_,trivial⟩;simp[h1]
 · refine⟨?_,trivial⟩;simp[h1]
theorem AW (n lo hi:Int):Spec Tryz.prog 49 [iA n,iA lo,iA hi] (aM (bR fun _=>(decide (lo≤n) && decide (n≤hi)))):=by
 refine aN aD Tryz.func49 rfl rfl (fr:=true) (fun _=>by kernel_rfl) fun P hP hA=> ?_;cbv;refine Br.dec (fun h1=> ?_) (fun h1=> ?_) <;> cbv
 · refine⟨?_,trivial⟩;simp[h1]
 · refine⟨?_,trivial⟩;simp[h1]
theorem Md (n sz:Int) (h0:0≤sz) (h1:sz≤9223372036854775807):Spec Tryz.prog 58 [iA n,iA sz] (aM (bR fun _=>(decide (0≤n) && decide (n<sz)))):=by
 refine aN aD Tryz.func58 rfl rfl (fr:=true) (fun _=>by kernel_rfl) fun P hP hA=> ?_;cbv;refine Ar.exact ?_ ?_ ?_
 · show -9223372036854775808≤sz - 1;omega
 · show sz - 1≤_;omega
 cbv;refine ag.by hP (xA _ _ _) ?_;cbv;refine⟨?_,trivial⟩;rw[Bool.eq_iff_iff]; simp only[Bool.and_eq_true,decide_eq_true_eq]; omega
def aj (n lo hi:Int):Bool:=decide (lo≤n) && decide (n≤hi)
theorem bF {n lo hi:Int} (h:aj n lo hi=true):lo≤n∧n≤hi:=by simpa [aj] using h
theorem cI (n lo hi:Int):Spec Tryz.prog 54 [iA n,iA lo,iA hi] (aM (bR fun _=>aj n lo hi)):=xA n lo hi
theorem cT (n lo hi:Int):Spec Tryz.prog 49 [iA n,iA lo,iA hi] (aM (bR fun _=>aj n lo hi)):=AW n lo hi
def field (n:Int):Bool:=decide (0≤n) && decide (n≤9999)
theorem Me (n:Int):Spec Tryz.prog 170 [iA n] (aM (bR fun _=>field n)):=by
 refine aN aD Tryz.func170 rfl rfl (fr:=true) (fun _=>by kernel_rfl) fun P hP hA=> ?_;cbv;refine ag.by hP (AW _ _ _) ?_;cbv;exact⟨rfl,trivial⟩
theorem Mf (n:Int):Spec Tryz.prog 173 [iA n] (aM (bR fun _=>field n)):=by
 refine aN aD Tryz.func173 rfl rfl (fr:=true) (fun _=>by kernel_rfl) fun P hP hA=> ?_;cbv;refine ag.by hP (xA _ _ _) ?_;cbv;exact⟨rfl,trivial⟩
def dB (q:cf):Bool:=
 if q.kind=1 then field q.id && field q.ah && (decide (-1≤q.aq) && decide (q.aq≤9999)) && field q.au && field q.aT
 else if q.kind=2∨q.kind=4∨q.kind=5∨q.kind=7 then field q.id && (q.ah == 0 && (q.aq == 0 && (q.au == 0 && q.aT == 0)))
 else if q.kind=3 then field q.ah && field q.au && (q.id == 0 && (q.aq == 0 && q.aT == 0))
 else if q.kind=6 then q.id == 0 && (q.ah == 0 && (q.aq == 0 && (q.au == 0 && q.aT == 0)))
 else false
theorem Mg (q:cf) (b:Bool) (hb:b=dB q):Spec Tryz.prog 94 [eA .fC q] (aM (bR fun _=>b)):=by
 refine aN aD Tryz.func94 rfl rfl (fr:=true) (fun _=>by kernel_rfl) fun P hP hA=> ?_;subst hb;cbv
 repeat' first
  | (refine ag.by hP (Me _) ?_; cbv)
  | (refine ag.by hP (AW _ _ _) ?_; cbv)
  | (refine Br.split (fun h=> ?_) (fun h=> ?_) <;> cbv)
 all_goals refine⟨?_,trivial⟩
 all_goals first
  | (simp_all [dB]; done)
  | (simp_all [dB]; intro a b; have:=h a; omega)
theorem Mh (q:cf) (b:Bool) (hb:b=dB q):Spec Tryz.prog 103 [eA .fC q] (aM (bR fun _=>b)):=by
 refine aN aD Tryz.func103 rfl rfl (fr:=true) (fun _=>by kernel_rfl) fun P hP hA=> ?_;subst hb;cbv
 repeat' first
  | (refine ag.by hP (Mf _) ?_; cbv)
  | (refine ag.by hP (xA _ _ _) ?_; cbv)
  | (refine Br.split (fun h=> ?_) (fun h=> ?_) <;> cbv)
 all_goals refine⟨?_,trivial⟩
 all_goals first
  | (simp_all [dB]; done)
  | (simp_all [dB]; intro a b; have:=h a; omega)
end Go.Proofs.YtpklefhdkkegiaaGreat

