/- Parts of a proof. No conditions. -/

import Derived.Test.YtpklefhdkkegiaaGreatG40
import Derived.Test.YtpklefhdkkegiaaGreatG08
set_option linter.unusedSimpArgs false
set_option linter.unusedVariables false
namespace Go.Proofs.YtpklefhdkkegiaaGreat
open Go
set_option maxRecDepth 100000
theorem F7 {A B:ax × Int × Int→Prop} (a1 a2 a3 a4 a5 a6 a7 a8 a9 p7 i h:Int) (H:B (⟨a1,a2,a3,a4,a5,a6,a7,a8,a9,p7⟩,i,h)) (H1:A (⟨a1,a2,a3,a4,a5,a6,a7,a8,a9,p7⟩,i,h)):∃x,A x∧B x:=⟨_,H1,H⟩
theorem MH {A B:Entry × Int × Int→Prop} (a1 a2 a3 a4 i h:Int) (H:B (⟨a1,a2,a3,a4⟩,i,h)) (H1:A (⟨a1,a2,a3,a4⟩,i,h)):∃x,A x∧B x:=⟨_,H1,H⟩
theorem F8 {A B:bA × Int × Int→Prop} (a1 a2 a3 a4 a5 i h:Int) (H:B (⟨a1,a2,a3,a4,a5⟩,i,h)) (H1:A (⟨a1,a2,a3,a4,a5⟩,i,h)):∃x,A x∧B x:=⟨_,H1,H⟩
theorem MI {A B:ay × Int × Int→Prop} (a1 a2 i h:Int) (H:B (⟨a1,a2⟩,i,h)) (H1:A (⟨a1,a2⟩,i,h)):∃x,A x∧B x:=⟨_,H1,H⟩
theorem F9 {α:Type} {A B:α × Int × Int→Prop} (a:α) (i h:Int) (H:B (a,i,h)) (H1:A (a,i,h)):∃x,A x∧B x:=⟨_,H1,H⟩
theorem eW (code:List UInt8) (i h n:Int) (hi:dW code i) (hc:code.length≤aS):bY Tryz.prog 82 [cP,iA n] (fU code i h) (cJ code (fun _:Bool=>True) fun b=>bR fun _=>b):=by
 unfold cJ;refine fu (pk:=[0,1]) aD Tryz.func82 rfl rfl (fr:=true) (fun _=>by kernel_rfl) (fun _=>rfl) rfl rfl fun P hP hA hB=> ?_;cbv;refine aJ.ex hP (cY code i h n hi hc) fun⟨x,i2,h2⟩ ⟨_,aC⟩=> ?_;cbv;refine⟨(x == 0,i2,h2),⟨trivial,aC⟩, ?_⟩;cbv
 repeat' first | exact trivial | refine⟨rfl, ?_⟩ | fail
theorem Ba {r:br} (h:pZ r):(1≤r.cd∧r.cd≤5)∧(1≤r.size∧r.size≤6)∧(1≤r.cC∧r.cC≤4)∧(0≤r.rest∧r.rest≤3)∧(1≤r.tries∧r.tries≤4)∧(1≤r.ai.length∧r.ai.length≤3):=by
 obtain⟨a,_,b,_,c,d,e,_,f,_⟩:=h;exact⟨a,b,c,d,e,f⟩
theorem MJ (n lo hi:Int) (h:aj n lo hi=true):Spec Tryz.prog 49 [iA n,iA lo,iA hi] (aM (bR fun _=>true)):=by
 have:=cT n lo hi
 rwa [h] at this
set_option maxHeartbeats 4000000 in
theorem F_ (code:List UInt8) (i h:Int) (hi:dW code i) (hc:code.length≤aS) (r:br) (hr:pZ r) (now:Int) (hn:0≤now∧now≤100):bY Tryz.prog 211 [cP,fT r,iA now] (fU code i h) (cJ code (fun _:ax=>True) fun p=>eR .aB fun _=>p):=by
 obtain⟨b1,b2,b3,b4,b5,b6⟩:=Ba hr;unfold cJ;refine fu (pk:=[0,1]) aD Tryz.func211 rfl rfl (fr:=true) (fun _=>by kernel_rfl) (fun _=>rfl) rfl rfl fun P hP hA hB=> ?_;cbv
 repeat' first
  | exact trivial
  | (refine Pz.mk ?_; cbv)
  | (refine ag.by hP (MJ now 0 10000000 (by rw[aj,decide_eq_true (by omega),decide_eq_true (by omega)]; rfl)) ?_; cbv)
  | (refine Br.yes (by with_reducible rfl) ?_; cbv)
  | (refine aJ.ex hP (cY code _ _ _ (by assumption) hc) ?_; rintro⟨x,i2,h2⟩ ⟨hx,aC⟩;(try dsimp only at hx aC); cbv)
  | (refine aJ.ex hP (eW code _ _ _ (by assumption) hc) ?_; rintro⟨x,i2,h2⟩ ⟨hx,aC⟩;(try dsimp only at hx aC); cbv)
  | (refine aJ.ex hP (fe code _ _ _ (by decide) (by assumption) hc) ?_; rintro⟨x,i2,h2⟩ ⟨hx,aC⟩;(try dsimp only at hx aC); cbv)
  | (refine Br.yes (by first | assumption | exact decide_eq_true (by assumption)) ?_; cbv)
  | (refine Br.no (by first | assumption | exact decide_eq_false (by assumption)) ?_; cbv)
  | (refine Br.dec (fun hb=> ?_) (fun hb=> ?_) <;> cbv)
  | (refine Br.split (fun hb=> ?_) (fun hb=> ?_) <;> cbv)
  | (refine Ar.exact (by omega) (by omega) ?_; cbv)
  | (refine Ix.ex (by omega) (by(try simp only[nc] at *); omega) ?_; intro y; cbv)
  | (refine Ar.any ?_; intro u; cbv)
  | (refine bp.mk ?_ (by kernel_rfl) ?_; rotate_left; cbv; rotate_right) | refine⟨rfl, ?_⟩ | refine And.intro ?_ ?_ | exact rfl | fail
 all_goals
  apply F7
  · cbv
    (try dsimp only)
    repeat' first | exact trivial | refine⟨rfl, ?_⟩ | fail
  · exact⟨trivial,by assumption⟩
set_option maxHeartbeats 4000000 in
theorem MK (code:List UInt8) (i h:Int) (hi:dW code i) (hc:code.length≤aS) (r:br) (hr:pZ r) (now:Int) (hn:0≤now∧now≤100):bY Tryz.prog 152 [cP,fT r,iA now] (fU code i h) (cJ code (fun _:ax=>True) fun p=>eR .aB fun _=>p):=by
 obtain⟨b1,b2,b3,b4,b5,b6⟩:=Ba hr;have hs:r.ai.length≤aS:=Nat.le_trans b6.2 (by decide);unfold cJ;refine fu (pk:=[0,1]) aD Tryz.func152 rfl rfl (fr:=true) (fun _=>by kernel_rfl) (fun _=>rfl) rfl rfl fun P hP hA hB=> ?_;cbv
 repeat' first
  | exact trivial
  | (refine Pz.mk ?_; cbv)
  | (refine ag.by hP (xC r hs (ca r) rfl) ?_; cbv)
  | (refine aJ.ex hP (F_ code _ _ (by assumption) hc r hr now hn) ?_; rintro⟨x,i2,h2⟩ ⟨hx,aC⟩;(try dsimp only at hx aC); cbv)
  | (refine aJ.ex hP (cY code _ _ _ (by assumption) hc) ?_; rintro⟨x,i2,h2⟩ ⟨hx,aC⟩;(try dsimp only at hx aC); cbv)
  | (refine aJ.ex hP (eW code _ _ _ (by assumption) hc) ?_; rintro⟨x,i2,h2⟩ ⟨hx,aC⟩;(try dsimp only at hx aC); cbv)
  | (refine aJ.ex hP (fe code _ _ _ (by decide) (by assumption) hc) ?_; rintro⟨x,i2,h2⟩ ⟨hx,aC⟩;(try dsimp only at hx aC); cbv)
  | (refine Br.yes (by first | assumption | exact decide_eq_true (by assumption)) ?_; cbv)
  | (refine Br.no (by first | assumption | exact decide_eq_false (by assumption)) ?_; cbv)
  | (refine Br.dec (fun hb=> ?_) (fun hb=> ?_) <;> cbv)
  | (refine Br.split (fun hb=> ?_) (fun hb=> ?_) <;> cbv)
  | (refine Ar.exact (by omega) (by omega) ?_; cbv)
  | (refine Ix.ex (by omega) (by(try simp only[nc] at *); omega) ?_; intro y; cbv)
  | (refine Ar.any ?_; intro u; cbv)
  | (refine bp.mk ?_ (by kernel_rfl) ?_; rotate_left; cbv; rotate_right) | refine⟨rfl, ?_⟩ | refine And.intro ?_ ?_ | exact rfl | fail
 all_goals
  apply F7
  · cbv
    (try dsimp only)
    repeat' first | exact trivial | refine⟨rfl, ?_⟩ | fail
  · exact⟨trivial,by assumption⟩
theorem aW.Fv {pk:List Nat} {σ:SS} {R:SS→(SS→Prop)→Prop} {A:Type} (sl:A→List (Nat × V)) (bl:A→List (Nat × ak)) (φ:A→Prop) (m:A→Unit→Nat) (a:A)
  (hn:gx pk σ {env:=de (sl a) 0 σ.env.length,af:=bl a}) (h0:φ a)
  (hr:∀a,φ a→R {env:=de (sl a) 0 σ.env.length,af:=bl a} fun aw=>aO pk A (fun x=>{env:=de (sl x) 0 σ.env.length,af:=bl x}) (fun x=>φ x) (fun x=>m x) (m a) aw):aW pk σ R:=
 aW.by (X:=A) (fun x=>sl x) (fun x=>bl x) (fun x=>φ x) (fun x=>m x) a h0 hn fun x hx=>hr x hx
theorem aW.rh {pk:List Nat} {σ:SS} {R:SS→(SS→Prop)→Prop} {A B:Type} (sl:A→B→List (Nat × V)) (bl:A→B→List (Nat × ak)) (φ:A→B→Prop) (m:A→B→Unit→Nat) (a:A) (b:B)
  (hn:gx pk σ {env:=de (sl a b) 0 σ.env.length,af:=bl a b}) (h0:φ a b)
  (hr:∀a b,φ a b→R {env:=de (sl a b) 0 σ.env.length,af:=bl a b} fun aw=>aO pk (A × B) (fun x=>{env:=de (sl x.1 x.2) 0 σ.env.length,af:=bl x.1 x.2}) (fun x=>φ x.1 x.2) (fun x=>m x.1 x.2) (m a b) aw):aW pk σ R:=
 aW.by (X:=A × B) (fun x=>sl x.1 x.2) (fun x=>bl x.1 x.2) (fun x=>φ x.1 x.2) (fun x=>m x.1 x.2) (a,b) h0 hn fun x hx=>hr x.1 x.2 hx
theorem aW.Fw {pk:List Nat} {σ:SS} {R:SS→(SS→Prop)→Prop} {A B C:Type} (sl:A→B→C→List (Nat × V)) (bl:A→B→C→List (Nat × ak)) (φ:A→B→C→Prop) (m:A→B→C→Unit→Nat) (a:A) (b:B) (c:C)
  (hn:gx pk σ {env:=de (sl a b c) 0 σ.env.length,af:=bl a b c}) (h0:φ a b c)
  (hr:∀a b c,φ a b c→R {env:=de (sl a b c) 0 σ.env.length,af:=bl a b c} fun aw=>aO pk (A × B × C) (fun x=>{env:=de (sl x.1 x.2.1 x.2.2) 0 σ.env.length,af:=bl x.1 x.2.1 x.2.2}) (fun x=>φ x.1 x.2.1 x.2.2) (fun x=>m x.1 x.2.1 x.2.2) (m a b c) aw):aW pk σ R:=
 aW.by (X:=A × B × C) (fun x=>sl x.1 x.2.1 x.2.2) (fun x=>bl x.1 x.2.1 x.2.2) (fun x=>φ x.1 x.2.1 x.2.2) (fun x=>m x.1 x.2.1 x.2.2) (a,b,c) h0 hn fun x hx=>hr x.1 x.2.1 x.2.2 hx
theorem aW.AO {pk:List Nat} {σ:SS} {R:SS→(SS→Prop)→Prop} {A B C D:Type} (sl:A→B→C→D→List (Nat × V)) (bl:A→B→C→D→List (Nat × ak)) (φ:A→B→C→D→Prop) (m:A→B→C→D→Unit→Nat) (a:A) (b:B) (c:C) (d:D)
  (hn:gx pk σ {env:=de (sl a b c d) 0 σ.env.length,af:=bl a b c d}) (h0:φ a b c d)
  (hr:∀a b c d,φ a b c d→R {env:=de (sl a b c d) 0 σ.env.length,af:=bl a b c d} fun aw=>aO pk (A × B × C × D) (fun x=>{env:=de (sl x.1 x.2.1 x.2.2.1 x.2.2.2) 0 σ.env.length,af:=bl x.1 x.2.1 x.2.2.1 x.2.2.2}) (fun x=>φ x.1 x.2.1 x.2.2.1 x.2.2.2) (fun x=>m x.1 x.2.1 x.2.2.1 x.2.2.2) (m a b c d) aw):aW pk σ R:=
 aW.by (X:=A × B × C × D) (fun x=>sl x.1 x.2.1 x.2.2.1 x.2.2.2) (fun x=>bl x.1 x.2.1 x.2.2.1 x.2.2.2) (fun x=>φ x.1 x.2.1 x.2.2.1 x.2.2.2) (fun x=>m x.1 x.2.1 x.2.2.1 x.2.2.2) (a,b,c,d) h0 hn fun x hx=>hr x.1 x.2.1 x.2.2.1 x.2.2.2 hx
theorem aW.AP {pk:List Nat} {σ:SS} {R:SS→(SS→Prop)→Prop} {A B C D E:Type} (sl:A→B→C→D→E→List (Nat × V)) (bl:A→B→C→D→E→List (Nat × ak)) (φ:A→B→C→D→E→Prop) (m:A→B→C→D→E→Unit→Nat) (a:A) (b:B) (c:C) (d:D) (e:E)
  (hn:gx pk σ {env:=de (sl a b c d e) 0 σ.env.length,af:=bl a b c d e}) (h0:φ a b c d e)
  (hr:∀a b c d e,φ a b c d e→R {env:=de (sl a b c d e) 0 σ.env.length,af:=bl a b c d e} fun aw=>aO pk (A × B × C × D × E) (fun x=>{env:=de (sl x.1 x.2.1 x.2.2.1 x.2.2.2.1 x.2.2.2.2) 0 σ.env.length,af:=bl x.1 x.2.1 x.2.2.1 x.2.2.2.1 x.2.2.2.2}) (fun x=>φ x.1 x.2.1 x.2.2.1 x.2.2.2.1 x.2.2.2.2) (fun x=>m x.1 x.2.1 x.2.2.1 x.2.2.2.1 x.2.2.2.2) (m a b c d e) aw):aW pk σ R:=
 aW.by (X:=A × B × C × D × E) (fun x=>sl x.1 x.2.1 x.2.2.1 x.2.2.2.1 x.2.2.2.2) (fun x=>bl x.1 x.2.1 x.2.2.1 x.2.2.2.1 x.2.2.2.2) (fun x=>φ x.1 x.2.1 x.2.2.1 x.2.2.2.1 x.2.2.2.2) (fun x=>m x.1 x.2.1 x.2.2.1 x.2.2.2.1 x.2.2.2.2) (a,b,c,d,e) h0 hn fun x hx=>hr x.1 x.2.1 x.2.2.1 x.2.2.2.1 x.2.2.2.2 hx
theorem aW.Fx {pk:List Nat} {σ:SS} {R:SS→(SS→Prop)→Prop} {A B C D E F:Type} (sl:A→B→C→D→E→F→List (Nat × V)) (bl:A→B→C→D→E→F→List (Nat × ak)) (φ:A→B→C→D→E→F→Prop) (m:A→B→C→D→E→F→Unit→Nat) (a:A) (b:B) (c:C) (d:D) (e:E) (f:F)
  (hn:gx pk σ {env:=de (sl a b c d e f) 0 σ.env.length,af:=bl a b c d e f}) (h0:φ a b c d e f)
  (hr:∀a b c d e f,φ a b c d e f→R {env:=de (sl a b c d e f) 0 σ.env.length,af:=bl a b c d e f} fun aw=>aO pk (A × B × C × D × E × F) (fun x=>{env:=de (sl x.1 x.2.1 x.2.2.1 x.2.2.2.1 x.2.2.2.2.1 x.2.2.2.2.2) 0 σ.env.length,af:=bl x.1 x.2.1 x.2.2.1 x.2.2.2.1 x.2.2.2.2.1 x.2.2.2.2.2}) (fun x=>φ x.1 x.2.1 x.2.2.1 x.2.2.2.1 x.2.2.2.2.1 x.2.2.2.2.2) (fun x=>m x.1 x.2.1 x.2.2.1 x.2.2.2.1 x.2.2.2.2.1 x.2.2.2.2.2) (m a b c d e f) aw):aW pk σ R:=
 aW.by (X:=A × B × C × D × E × F) (fun x=>sl x.1 x.2.1 x.2.2.1 x.2.2.2.1 x.2.2.2.2.1 x.2.2.2.2.2) (fun x=>bl x.1 x.2.1 x.2.2.1 x.2.2.2.1 x.2.2.2.2.1 x.2.2.2.2.2) (fun x=>φ x.1 x.2.1 x.2.2.1 x.2.2.2.1 x.2.2.2.2.1 x.2.2.2.2.2) (fun x=>m x.1 x.2.1 x.2.2.1 x.2.2.2.1 x.2.2.2.2.1 x.2.2.2.2.2) (a,b,c,d,e,f) h0 hn fun x hx=>hr x.1 x.2.1 x.2.2.1 x.2.2.2.1 x.2.2.2.2.1 x.2.2.2.2.2 hx
theorem Ix.ex {E:an} {xs:Unit→List E.α} {i:Unit→Int} {K:(Unit→E.α)→Prop} (h0:0≤i ()) (h1:(i ()).toNat<(xs ()).length) (hk:∀x,K fun _=>x):Ix E xs i K:=⟨_,h0,List.getElem?_eq_getElem h1,hk _⟩
theorem Sv.sat {E:an} {t:Unit→List E.α} {K:(Unit→List E.α)→Prop} (φ:List E.α→Prop) (h0:φ (t ())) (h:∀u:List E.α,φ u→K fun _=>u):Sv E t K:=⟨fun _=>t (),rfl,h _ h0⟩
theorem Sv.len {E:an} {t:Unit→List E.α} {K:(Unit→List E.α)→Prop} (h:∀u:List E.α,u.length=(t ()).length→K fun _=>u):Sv E t K:=⟨fun _=>t (),rfl,h _ rfl⟩
theorem aO.Ga {pk:List Nat} {A:Type} {st:A→SS} {φ:A→Prop} {m:A→Unit→Nat} {n:Unit→Nat} {σ:SS} (a:A) (hn:gx pk σ (st a)) (h0:φ a) (hm:m a ()<n ()):aO pk (A) st φ m n σ:=⟨_,hm,h0,ky hn⟩
theorem aO.Bb {pk:List Nat} {A B:Type} {st:A × B→SS} {φ:A × B→Prop} {m:A × B→Unit→Nat} {n:Unit→Nat} {σ:SS} (a:A) (b:B) (hn:gx pk σ (st (a,b))) (h0:φ (a,b)) (hm:m (a,b) ()<n ()):aO pk (A × B) st φ m n σ:=⟨_,hm,h0,ky hn⟩
theorem aO.ML {pk:List Nat} {A B C D:Type} {st:A × B × C × D→SS} {φ:A × B × C × D→Prop} {m:A × B × C × D→Unit→Nat} {n:Unit→Nat} {σ:SS} (a:A) (b:B) (c:C) (d:D) (hn:gx pk σ (st (a,b,c,d))) (h0:φ (a,b,c,d)) (hm:m (a,b,c,d) ()<n ()):aO pk (A × B × C × D) st φ m n σ:=⟨_,hm,h0,ky hn⟩
theorem aO.MM {pk:List Nat} {A B C D E:Type} {st:A × B × C × D × E→SS} {φ:A × B × C × D × E→Prop} {m:A × B × C × D × E→Unit→Nat} {n:Unit→Nat} {σ:SS} (a:A) (b:B) (c:C) (d:D) (e:E) (hn:gx pk σ (st (a,b,c,d,e))) (h0:φ (a,b,c,d,e)) (hm:m (a,b,c,d,e) ()<n ()):aO pk (A × B × C × D × E) st φ m n σ:=⟨_,hm,h0,ky hn⟩
theorem aO.MN {pk:List Nat} {A B C D E F:Type} {st:A × B × C × D × E × F→SS} {φ:A × B × C × D × E × F→Prop} {m:A × B × C × D × E × F→Unit→Nat} {n:Unit→Nat} {σ:SS} (a:A) (b:B) (c:C) (d:D) (e:E) (f:F) (hn:gx pk σ (st (a,b,c,d,e,f))) (h0:φ (a,b,c,d,e,f)) (hm:m (a,b,c,d,e,f) ()<n ()):aO pk (A × B × C × D × E × F) st φ m n σ:=⟨_,hm,h0,ky hn⟩
theorem Spec.l_ {P:Program} {f:FuncId} {ar:List V} {X:Type} {φ:X→Prop} {s:X→cN} (x:X) (hx:φ x) (h:Spec P f ar (aM (s x))):Spec P f ar (gH X φ s):=by
 refine⟨h.1,fun w vs ha=>Calls.mono (h.2 w vs ha) fun e w' hw=> ?_⟩;obtain⟨v,r,nb,H',ρ,e1,jo,rest⟩:=hw;exact⟨v,r,nb,H',ρ,e1,⟨x,hx,jo⟩,rest⟩
def rn (i h:Int):ak:= .box [.own 1, .lf (.int .i64 fun _=>i), .lf (.int .i64 fun _=>h)]
def rp (code:List UInt8):ak:= .view .byte fun _=>code
theorem Gb (a:List ax) (c:Int) (hn:a.length≤aS):Spec Tryz.prog 120 [lA .aB a,iA c] (gH Int (fun x=>0≤x∧x≤6291456) fun x=>iR fun _=>x):=by
 have h:=A3 c a hn a.length;rw[List.take_length] at h;exact Spec.l_ ((aV (cg c) a:Nat):Int) ⟨Int.natCast_nonneg _,by omega⟩ (FX a c hn)
theorem Gc (a:List ax) (c:Int) (hn:a.length≤aS):Spec Tryz.prog 121 [lA .aB a,iA c] (gH Int (fun x=>0≤x∧x≤6291456) fun x=>iR fun _=>x):=by
 have h:=A4 c a hn a.length;rw[List.take_length] at h;exact Spec.l_ ((aV (cu c) a:Nat):Int) ⟨Int.natCast_nonneg _,by omega⟩ (FY a c hn)
theorem Gd (a b:Int):Spec Tryz.prog 101 [iA a,iA b] (gH Int (fun x=>a≤x∧b≤x∧(x=a∨x=b)) fun x=>iR fun _=>x):=
 Spec.l_ (if a>b then a else b) (by split <;> omega) (FZ a b)
theorem MO (a b:Int):Spec Tryz.prog 212 [iA a,iA b] (gH Int (fun x=>x≤a∧x≤b∧(x=a∨x=b)) fun x=>iR fun _=>x):=by
 refine aN aD Tryz.func212 rfl rfl (fr:=true) (fun _=>by kernel_rfl) fun P hP hA=> ?_;cbv;refine Br.dec (fun h=> ?_) (fun h=> ?_) <;> cbv
 · refine⟨a,by omega, ?_⟩;cbv
   repeat' first | exact trivial | refine⟨rfl, ?_⟩ | fail
 · refine⟨b,by omega, ?_⟩;cbv
   repeat' first | exact trivial | refine⟨rfl, ?_⟩ | fail
end Go.Proofs.YtpklefhdkkegiaaGreat

