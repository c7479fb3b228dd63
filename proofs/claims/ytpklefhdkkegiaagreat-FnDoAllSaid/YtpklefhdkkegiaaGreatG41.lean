/- Parts of a proof. No conditions. -/

import Derived.Test.YtpklefhdkkegiaaGreatG40
import Derived.Test.YtpklefhdkkegiaaGreatG08
set_option linter.unusedSimpArgs false
set_option linter.unusedVariables false
namespace Go.Proofs.YtpklefhdkkegiaaGreat
open Go
set_option maxRecDepth 100000
theorem JN {A B:ax × Int × Int→Prop} (a1 a2 a3 a4 a5 a6 a7 a8 a9 pw i h:Int) (H:B (⟨a1,a2,a3,a4,a5,a6,a7,a8,a9,pw⟩,i,h)) (H1:A (⟨a1,a2,a3,a4,a5,a6,a7,a8,a9,pw⟩,i,h)):∃x,A x∧B x:=⟨_,H1,H⟩
theorem QI {A B:Entry × Int × Int→Prop} (a1 a2 a3 a4 i h:Int) (H:B (⟨a1,a2,a3,a4⟩,i,h)) (H1:A (⟨a1,a2,a3,a4⟩,i,h)):∃x,A x∧B x:=⟨_,H1,H⟩
theorem JO {A B:bA × Int × Int→Prop} (a1 a2 a3 a4 a5 i h:Int) (H:B (⟨a1,a2,a3,a4,a5⟩,i,h)) (H1:A (⟨a1,a2,a3,a4,a5⟩,i,h)):∃x,A x∧B x:=⟨_,H1,H⟩
theorem QJ {A B:aC × Int × Int→Prop} (a1 a2 i h:Int) (H:B (⟨a1,a2⟩,i,h)) (H1:A (⟨a1,a2⟩,i,h)):∃x,A x∧B x:=⟨_,H1,H⟩
theorem xR {α:Type} {A B:α × Int × Int→Prop} (a:α) (i h:Int) (H:B (a,i,h)) (H1:A (a,i,h)):∃x,A x∧B x:=⟨_,H1,H⟩
theorem eS (code:List UInt8) (i h n:Int) (hi:dI code i) (hc:code.length≤aN):bJ Tryz.prog 82 [cP,iA n] (f_ code i h) (cJ code (fun _:Bool=>True) fun b=>bR fun _=>b):=by
 unfold cJ;refine eP (pk:=[0,1]) au Tryz.func82 rfl rfl (fr:=true) (fun _=>by kernel_rfl) (fun _=>rfl) rfl rfl fun P hP hA hB=> ?_;cbv;refine aD.ex hP (cT code i h n hi hc) fun⟨x,i2,h2⟩ ⟨_,aw⟩=> ?_;cbv;refine⟨(x == 0,i2,h2),⟨trivial,aw⟩, ?_⟩;cbv
 repeat' first | exact trivial | refine⟨rfl, ?_⟩ | fail
theorem Ee {r:bn} (h:qD r):(1≤r.bX∧r.bX≤5)∧(1≤r.size∧r.size≤6)∧(1≤r.bE∧r.bE≤4)∧(0≤r.rest∧r.rest≤3)∧(1≤r.tries∧r.tries≤4)∧(1≤r.seats.length∧r.seats.length≤3):=by
 obtain⟨a,_,b,_,c,d,e,_,f,_⟩:=h;exact⟨a,b,c,d,e,f⟩
theorem QK (n lo hi:Int) (h:ak n lo hi=true):Spec Tryz.prog 49 [iA n,iA lo,iA hi] (aG (bR fun _=>true)):=by
 have:=dn n lo hi
 rwa [h] at this
set_option maxHeartbeats 4000000 in
theorem JP (code:List UInt8) (i h:Int) (hi:dI code i) (hc:code.length≤aN) (r:bn) (hr:qD r) (now:Int) (hn:0≤now∧now≤100):bJ Tryz.prog 211 [cP,fG r,iA now] (f_ code i h) (cJ code (fun _:ax=>True) fun p=>eR .aE fun _=>p):=by
 obtain⟨b1,b2,b3,b4,b5,b6⟩:=Ee hr;unfold cJ;refine eP (pk:=[0,1]) au Tryz.func211 rfl rfl (fr:=true) (fun _=>by kernel_rfl) (fun _=>rfl) rfl rfl fun P hP hA hB=> ?_;cbv
 repeat' first
  | exact trivial
  | (refine Pz.mk ?_; cbv)
  | (refine af.by hP (QK now 0 10000000 (by rw[ak,decide_eq_true (by omega),decide_eq_true (by omega)]; rfl)) ?_; cbv)
  | (refine Br.yes (by with_reducible rfl) ?_; cbv)
  | (refine aD.ex hP (cT code _ _ _ (by assumption) hc) ?_; rintro⟨x,i2,h2⟩ ⟨hx,aw⟩;(try dsimp only at hx aw); cbv)
  | (refine aD.ex hP (eS code _ _ _ (by assumption) hc) ?_; rintro⟨x,i2,h2⟩ ⟨hx,aw⟩;(try dsimp only at hx aw); cbv)
  | (refine aD.ex hP (eQ code _ _ _ (by decide) (by assumption) hc) ?_; rintro⟨x,i2,h2⟩ ⟨hx,aw⟩;(try dsimp only at hx aw); cbv)
  | (refine Br.yes (by first | assumption | exact decide_eq_true (by assumption)) ?_; cbv)
  | (refine Br.no (by first | assumption | exact decide_eq_false (by assumption)) ?_; cbv)
  | (refine Br.dec (fun hb=> ?_) (fun hb=> ?_) <;> cbv)
  | (refine Br.split (fun hb=> ?_) (fun hb=> ?_) <;> cbv)
  | (refine Ar.exact (by omega) (by omega) ?_; cbv)
  | (refine Ix.ex (by omega) (by(try simp only[nc] at *); omega) ?_; intro y; cbv)
  | (refine Ar.any ?_; intro u; cbv)
  | (refine aW.mk ?_ (by kernel_rfl) ?_; rotate_left; cbv; rotate_right) | refine⟨rfl, ?_⟩ | refine And.intro ?_ ?_ | exact rfl | fail
 all_goals
  apply JN
  · cbv
    (try dsimp only)
    repeat' first | exact trivial | refine⟨rfl, ?_⟩ | fail
  · exact⟨trivial,by assumption⟩
set_option maxHeartbeats 4000000 in
theorem QL (code:List UInt8) (i h:Int) (hi:dI code i) (hc:code.length≤aN) (r:bn) (hr:qD r) (now:Int) (hn:0≤now∧now≤100):bJ Tryz.prog 152 [cP,fG r,iA now] (f_ code i h) (cJ code (fun _:ax=>True) fun p=>eR .aE fun _=>p):=by
 obtain⟨b1,b2,b3,b4,b5,b6⟩:=Ee hr;have hs:r.seats.length≤aN:=Nat.le_trans b6.2 (by decide);unfold cJ;refine eP (pk:=[0,1]) au Tryz.func152 rfl rfl (fr:=true) (fun _=>by kernel_rfl) (fun _=>rfl) rfl rfl fun P hP hA hB=> ?_;cbv
 repeat' first
  | exact trivial
  | (refine Pz.mk ?_; cbv)
  | (refine af.by hP (xQ r hs (ca r) rfl) ?_; cbv)
  | (refine aD.ex hP (JP code _ _ (by assumption) hc r hr now hn) ?_; rintro⟨x,i2,h2⟩ ⟨hx,aw⟩;(try dsimp only at hx aw); cbv)
  | (refine aD.ex hP (cT code _ _ _ (by assumption) hc) ?_; rintro⟨x,i2,h2⟩ ⟨hx,aw⟩;(try dsimp only at hx aw); cbv)
  | (refine aD.ex hP (eS code _ _ _ (by assumption) hc) ?_; rintro⟨x,i2,h2⟩ ⟨hx,aw⟩;(try dsimp only at hx aw); cbv)
  | (refine aD.ex hP (eQ code _ _ _ (by decide) (by assumption) hc) ?_; rintro⟨x,i2,h2⟩ ⟨hx,aw⟩;(try dsimp only at hx aw); cbv)
  | (refine Br.yes (by first | assumption | exact decide_eq_true (by assumption)) ?_; cbv)
  | (refine Br.no (by first | assumption | exact decide_eq_false (by assumption)) ?_; cbv)
  | (refine Br.dec (fun hb=> ?_) (fun hb=> ?_) <;> cbv)
  | (refine Br.split (fun hb=> ?_) (fun hb=> ?_) <;> cbv)
  | (refine Ar.exact (by omega) (by omega) ?_; cbv)
  | (refine Ix.ex (by omega) (by(try simp only[nc] at *); omega) ?_; intro y; cbv)
  | (refine Ar.any ?_; intro u; cbv)
  | (refine aW.mk ?_ (by kernel_rfl) ?_; rotate_left; cbv; rotate_right) | refine⟨rfl, ?_⟩ | refine And.intro ?_ ?_ | exact rfl | fail
 all_goals
  apply JN
  · cbv
    (try dsimp only)
    repeat' first | exact trivial | refine⟨rfl, ?_⟩ | fail
  · exact⟨trivial,by assumption⟩
theorem aR.vD {pk:List Nat} {σ:SS} {R:SS→(SS→Prop)→Prop} {A:Type} (sl:A→List (Nat × V)) (bl:A→List (Nat × an)) (φ:A→Prop) (m:A→Unit→Nat) (a:A)
  (hn:ic pk σ {env:=dO (sl a) 0 σ.env.length,ah:=bl a}) (h0:φ a)
  (hr:∀a,φ a→R {env:=dO (sl a) 0 σ.env.length,ah:=bl a} fun az=>aL pk A (fun x=>{env:=dO (sl x) 0 σ.env.length,ah:=bl x}) (fun x=>φ x) (fun x=>m x) (m a) az):aR pk σ R:=
 aR.by (X:=A) (fun x=>sl x) (fun x=>bl x) (fun x=>φ x) (fun x=>m x) a h0 hn fun x hx=>hr x hx
theorem aR.xH {pk:List Nat} {σ:SS} {R:SS→(SS→Prop)→Prop} {A B:Type} (sl:A→B→List (Nat × V)) (bl:A→B→List (Nat × an)) (φ:A→B→Prop) (m:A→B→Unit→Nat) (a:A) (b:B)
  (hn:ic pk σ {env:=dO (sl a b) 0 σ.env.length,ah:=bl a b}) (h0:φ a b)
  (hr:∀a b,φ a b→R {env:=dO (sl a b) 0 σ.env.length,ah:=bl a b} fun az=>aL pk (A × B) (fun x=>{env:=dO (sl x.1 x.2) 0 σ.env.length,ah:=bl x.1 x.2}) (fun x=>φ x.1 x.2) (fun x=>m x.1 x.2) (m a b) az):aR pk σ R:=
 aR.by (X:=A × B) (fun x=>sl x.1 x.2) (fun x=>bl x.1 x.2) (fun x=>φ x.1 x.2) (fun x=>m x.1 x.2) (a,b) h0 hn fun x hx=>hr x.1 x.2 hx
theorem aR.DT {pk:List Nat} {σ:SS} {R:SS→(SS→Prop)→Prop} {A B C:Type} (sl:A→B→C→List (Nat × V)) (bl:A→B→C→List (Nat × an)) (φ:A→B→C→Prop) (m:A→B→C→Unit→Nat) (a:A) (b:B) (c:C)
  (hn:ic pk σ {env:=dO (sl a b c) 0 σ.env.length,ah:=bl a b c}) (h0:φ a b c)
  (hr:∀a b c,φ a b c→R {env:=dO (sl a b c) 0 σ.env.length,ah:=bl a b c} fun az=>aL pk (A × B × C) (fun x=>{env:=dO (sl x.1 x.2.1 x.2.2) 0 σ.env.length,ah:=bl x.1 x.2.1 x.2.2}) (fun x=>φ x.1 x.2.1 x.2.2) (fun x=>m x.1 x.2.1 x.2.2) (m a b c) az):aR pk σ R:=
 aR.by (X:=A × B × C) (fun x=>sl x.1 x.2.1 x.2.2) (fun x=>bl x.1 x.2.1 x.2.2) (fun x=>φ x.1 x.2.1 x.2.2) (fun x=>m x.1 x.2.1 x.2.2) (a,b,c) h0 hn fun x hx=>hr x.1 x.2.1 x.2.2 hx
theorem aR.DU {pk:List Nat} {σ:SS} {R:SS→(SS→Prop)→Prop} {A B C D:Type} (sl:A→B→C→D→List (Nat × V)) (bl:A→B→C→D→List (Nat × an)) (φ:A→B→C→D→Prop) (m:A→B→C→D→Unit→Nat) (a:A) (b:B) (c:C) (d:D)
  (hn:ic pk σ {env:=dO (sl a b c d) 0 σ.env.length,ah:=bl a b c d}) (h0:φ a b c d)
  (hr:∀a b c d,φ a b c d→R {env:=dO (sl a b c d) 0 σ.env.length,ah:=bl a b c d} fun az=>aL pk (A × B × C × D) (fun x=>{env:=dO (sl x.1 x.2.1 x.2.2.1 x.2.2.2) 0 σ.env.length,ah:=bl x.1 x.2.1 x.2.2.1 x.2.2.2}) (fun x=>φ x.1 x.2.1 x.2.2.1 x.2.2.2) (fun x=>m x.1 x.2.1 x.2.2.1 x.2.2.2) (m a b c d) az):aR pk σ R:=
 aR.by (X:=A × B × C × D) (fun x=>sl x.1 x.2.1 x.2.2.1 x.2.2.2) (fun x=>bl x.1 x.2.1 x.2.2.1 x.2.2.2) (fun x=>φ x.1 x.2.1 x.2.2.1 x.2.2.2) (fun x=>m x.1 x.2.1 x.2.2.1 x.2.2.2) (a,b,c,d) h0 hn fun x hx=>hr x.1 x.2.1 x.2.2.1 x.2.2.2 hx
theorem aR.Ak {pk:List Nat} {σ:SS} {R:SS→(SS→Prop)→Prop} {A B C D E:Type} (sl:A→B→C→D→E→List (Nat × V)) (bl:A→B→C→D→E→List (Nat × an)) (φ:A→B→C→D→E→Prop) (m:A→B→C→D→E→Unit→Nat) (a:A) (b:B) (c:C) (d:D) (e:E)
  (hn:ic pk σ {env:=dO (sl a b c d e) 0 σ.env.length,ah:=bl a b c d e}) (h0:φ a b c d e)
  (hr:∀a b c d e,φ a b c d e→R {env:=dO (sl a b c d e) 0 σ.env.length,ah:=bl a b c d e} fun az=>aL pk (A × B × C × D × E) (fun x=>{env:=dO (sl x.1 x.2.1 x.2.2.1 x.2.2.2.1 x.2.2.2.2) 0 σ.env.length,ah:=bl x.1 x.2.1 x.2.2.1 x.2.2.2.1 x.2.2.2.2}) (fun x=>φ x.1 x.2.1 x.2.2.1 x.2.2.2.1 x.2.2.2.2) (fun x=>m x.1 x.2.1 x.2.2.1 x.2.2.2.1 x.2.2.2.2) (m a b c d e) az):aR pk σ R:=
 aR.by (X:=A × B × C × D × E) (fun x=>sl x.1 x.2.1 x.2.2.1 x.2.2.2.1 x.2.2.2.2) (fun x=>bl x.1 x.2.1 x.2.2.1 x.2.2.2.1 x.2.2.2.2) (fun x=>φ x.1 x.2.1 x.2.2.1 x.2.2.2.1 x.2.2.2.2) (fun x=>m x.1 x.2.1 x.2.2.1 x.2.2.2.1 x.2.2.2.2) (a,b,c,d,e) h0 hn fun x hx=>hr x.1 x.2.1 x.2.2.1 x.2.2.2.1 x.2.2.2.2 hx
theorem aR.Je {pk:List Nat} {σ:SS} {R:SS→(SS→Prop)→Prop} {A B C D E F:Type} (sl:A→B→C→D→E→F→List (Nat × V)) (bl:A→B→C→D→E→F→List (Nat × an)) (φ:A→B→C→D→E→F→Prop) (m:A→B→C→D→E→F→Unit→Nat) (a:A) (b:B) (c:C) (d:D) (e:E) (f:F)
  (hn:ic pk σ {env:=dO (sl a b c d e f) 0 σ.env.length,ah:=bl a b c d e f}) (h0:φ a b c d e f)
  (hr:∀a b c d e f,φ a b c d e f→R {env:=dO (sl a b c d e f) 0 σ.env.length,ah:=bl a b c d e f} fun az=>aL pk (A × B × C × D × E × F) (fun x=>{env:=dO (sl x.1 x.2.1 x.2.2.1 x.2.2.2.1 x.2.2.2.2.1 x.2.2.2.2.2) 0 σ.env.length,ah:=bl x.1 x.2.1 x.2.2.1 x.2.2.2.1 x.2.2.2.2.1 x.2.2.2.2.2}) (fun x=>φ x.1 x.2.1 x.2.2.1 x.2.2.2.1 x.2.2.2.2.1 x.2.2.2.2.2) (fun x=>m x.1 x.2.1 x.2.2.1 x.2.2.2.1 x.2.2.2.2.1 x.2.2.2.2.2) (m a b c d e f) az):aR pk σ R:=
 aR.by (X:=A × B × C × D × E × F) (fun x=>sl x.1 x.2.1 x.2.2.1 x.2.2.2.1 x.2.2.2.2.1 x.2.2.2.2.2) (fun x=>bl x.1 x.2.1 x.2.2.1 x.2.2.2.1 x.2.2.2.2.1 x.2.2.2.2.2) (fun x=>φ x.1 x.2.1 x.2.2.1 x.2.2.2.1 x.2.2.2.2.1 x.2.2.2.2.2) (fun x=>m x.1 x.2.1 x.2.2.1 x.2.2.2.1 x.2.2.2.2.1 x.2.2.2.2.2) (a,b,c,d,e,f) h0 hn fun x hx=>hr x.1 x.2.1 x.2.2.1 x.2.2.2.1 x.2.2.2.2.1 x.2.2.2.2.2 hx
theorem Ix.ex {E:av} {xs:Unit→List E.α} {i:Unit→Int} {K:(Unit→E.α)→Prop} (h0:0≤i ()) (h1:(i ()).toNat<(xs ()).length) (hk:∀x,K fun _=>x):Ix E xs i K:=⟨_,h0,List.getElem?_eq_getElem h1,hk _⟩
theorem Sv.sat {E:av} {t:Unit→List E.α} {K:(Unit→List E.α)→Prop} (φ:List E.α→Prop) (h0:φ (t ())) (h:∀u:List E.α,φ u→K fun _=>u):Sv E t K:=⟨fun _=>t (),rfl,h _ h0⟩
theorem Sv.len {E:av} {t:Unit→List E.α} {K:(Unit→List E.α)→Prop} (h:∀u:List E.α,u.length=(t ()).length→K fun _=>u):Sv E t K:=⟨fun _=>t (),rfl,h _ rfl⟩
theorem aL.pz {pk:List Nat} {A:Type} {st:A→SS} {φ:A→Prop} {m:A→Unit→Nat} {n:Unit→Nat} {σ:SS} (a:A) (hn:ic pk σ (st a)) (h0:φ a) (hm:m a ()<n ()):aL pk (A) st φ m n σ:=⟨_,hm,h0,lL hn⟩
theorem aL.QM {pk:List Nat} {A B:Type} {st:A × B→SS} {φ:A × B→Prop} {m:A × B→Unit→Nat} {n:Unit→Nat} {σ:SS} (a:A) (b:B) (hn:ic pk σ (st (a,b))) (h0:φ (a,b)) (hm:m (a,b) ()<n ()):aL pk (A × B) st φ m n σ:=⟨_,hm,h0,lL hn⟩
theorem aL.QN {pk:List Nat} {A B C:Type} {st:A × B × C→SS} {φ:A × B × C→Prop} {m:A × B × C→Unit→Nat} {n:Unit→Nat} {σ:SS} (a:A) (b:B) (c:C) (hn:ic pk σ (st (a,b,c))) (h0:φ (a,b,c)) (hm:m (a,b,c) ()<n ()):aL pk (A × B × C) st φ m n σ:=⟨_,hm,h0,lL hn⟩
theorem aL.QO {pk:List Nat} {A B C D:Type} {st:A × B × C × D→SS} {φ:A × B × C × D→Prop} {m:A × B × C × D→Unit→Nat} {n:Unit→Nat} {σ:SS} (a:A) (b:B) (c:C) (d:D) (hn:ic pk σ (st (a,b,c,d))) (h0:φ (a,b,c,d)) (hm:m (a,b,c,d) ()<n ()):aL pk (A × B × C × D) st φ m n σ:=⟨_,hm,h0,lL hn⟩
theorem aL.Ef {pk:List Nat} {A B C D E:Type} {st:A × B × C × D × E→SS} {φ:A × B × C × D × E→Prop} {m:A × B × C × D × E→Unit→Nat} {n:Unit→Nat} {σ:SS} (a:A) (b:B) (c:C) (d:D) (e:E) (hn:ic pk σ (st (a,b,c,d,e))) (h0:φ (a,b,c,d,e)) (hm:m (a,b,c,d,e) ()<n ()):aL pk (A × B × C × D × E) st φ m n σ:=⟨_,hm,h0,lL hn⟩
theorem aL.QP {pk:List Nat} {A B C D E F:Type} {st:A × B × C × D × E × F→SS} {φ:A × B × C × D × E × F→Prop} {m:A × B × C × D × E × F→Unit→Nat} {n:Unit→Nat} {σ:SS} (a:A) (b:B) (c:C) (d:D) (e:E) (f:F) (hn:ic pk σ (st (a,b,c,d,e,f))) (h0:φ (a,b,c,d,e,f)) (hm:m (a,b,c,d,e,f) ()<n ()):aL pk (A × B × C × D × E × F) st φ m n σ:=⟨_,hm,h0,lL hn⟩
theorem Spec.na {P:Program} {f:FuncId} {ar:List V} {X:Type} {φ:X→Prop} {s:X→dg} (x:X) (hx:φ x) (h:Spec P f ar (aG (s x))):Spec P f ar (gW X φ s):=by
 refine⟨h.1,fun w vs ha=>Calls.mono (h.2 w vs ha) fun e w' hw=> ?_⟩;obtain⟨v,r,nb,H',ρ,e1,la,rest⟩:=hw;exact⟨v,r,nb,H',ρ,e1,⟨x,hx,la⟩,rest⟩
def qE (i h:Int):an:= .box [.own 1, .lf (.int .i64 fun _=>i), .lf (.int .i64 fun _=>h)]
def qF (code:List UInt8):an:= .view .byte fun _=>code
theorem JQ (a:List ax) (c:Int) (hn:a.length≤aN):Spec Tryz.prog 120 [lA .aE a,iA c] (gW Int (fun x=>0≤x∧x≤6291456) fun x=>iR fun _=>x):=by
 have h:=D8 c a hn a.length;rw[List.take_length] at h;exact Spec.na ((aV (cz c) a:Nat):Int) ⟨Int.natCast_nonneg _,by omega⟩ (JC a c hn)
theorem JR (a:List ax) (c:Int) (hn:a.length≤aN):Spec Tryz.prog 121 [lA .aE a,iA c] (gW Int (fun x=>0≤x∧x≤6291456) fun x=>iR fun _=>x):=by
 have h:=D9 c a hn a.length;rw[List.take_length] at h;exact Spec.na ((aV (cC c) a:Nat):Int) ⟨Int.natCast_nonneg _,by omega⟩ (JD a c hn)
theorem xS (a b:Int):Spec Tryz.prog 101 [iA a,iA b] (gW Int (fun x=>a≤x∧b≤x∧(x=a∨x=b)) fun x=>iR fun _=>x):=
 Spec.na (if a>b then a else b) (by split <;> omega) (JE a b)
theorem QQ (a b:Int):Spec Tryz.prog 212 [iA a,iA b] (gW Int (fun x=>x≤a∧x≤b∧(x=a∨x=b)) fun x=>iR fun _=>x):=by
 refine aF au Tryz.func212 rfl rfl (fr:=true) (fun _=>by kernel_rfl) fun P hP hA=> ?_;cbv;refine Br.dec (fun h=> ?_) (fun h=> ?_) <;> cbv
 · refine⟨a,by omega, ?_⟩;cbv
   repeat' first | exact trivial | refine⟨rfl, ?_⟩ | fail
 · refine⟨b,by omega, ?_⟩;cbv
   repeat' first | exact trivial | refine⟨rfl, ?_⟩ | fail
end Go.Proofs.YtpklefhdkkegiaaGreat

