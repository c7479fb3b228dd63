/- Parts of a proof. No conditions. -/

import Derived.Test.YtpklefhdkkegiaaGreatG15
import Derived.Test.YtpklefhdkkegiaaGreatG14
set_option linter.unusedSimpArgs false
set_option linter.unusedVariables false
namespace Go.Proofs.YtpklefhdkkegiaaGreat
open Go
set_option maxRecDepth 100000
theorem AO {α:Type} {l:List α} {i:Nat} (h:i<l.length):l.take i ++ [l[i]]=l.take (i+1):=by rw[List.take_add_one,List.getElem?_eq_getElem h]; rfl
theorem ye (a:List Entry) (hn:a.length≤aN):Spec Tryz.prog 192 [lA .aJ a] (aG (lR .aJ fun _=>a)):=by
 have hn:a.length≤1048576:=hn;refine aF au Tryz.func192 rfl rfl (fr:=true) (fun _=>by kernel_rfl) fun P hP hA=> ?_;cbv;refine⟨by show(0+a.length)*32≤140737488355328; omega, ?_⟩;cbv
 repeat' first | exact trivial | refine⟨rfl, ?_⟩ | fail
def eD (l:List Int) (k:Int):List Int:=if hasB l k=true then l else l ++ [k]
theorem tZ (a:List Int) (k:Int) (hn:a.length≤aN) (x:List Int) (hx:x=eD a k):Spec Tryz.prog 163 [lA .int a,iA k] (aG (lR .int fun _=>x)):=by
 have kE:a.length≤1048576:=hn;refine aF au Tryz.func163 rfl rfl (fr:=true) (fun _=>by kernel_rfl) fun P hP hA=> ?_;cbv;refine af.by hP (Ay a hn) ?_;cbv;refine af.by hP (EE a k (hasB a k) rfl) ?_;cbv;refine Br.split (fun k0=> ?_) (fun k0=> ?_) <;> cbv
 · have k0:(!hasB a k)=true:=k0;have k0:hasB a k=false:=by simpa using k0
   obtain rfl:x=a ++ [k]:=hx.trans (if_neg (by rw[k0]; simp));refine⟨by show(a.length+1)*8≤140737488355328; omega, ?_⟩;cbv
   repeat' first | exact trivial | refine⟨rfl, ?_⟩ | fail
 · have k0:(!hasB a k)=false:=k0;have k0:hasB a k=true:=by simpa using k0
   obtain rfl:x=a:=hx.trans (if_pos k0)
   repeat' first | exact trivial | refine⟨rfl, ?_⟩ | fail
theorem sD (a:List Int) (k:Int) (hn:a.length≤aN) (x:List Int) (hx:x=eD a k):Spec Tryz.prog 215 [lA .int a,iA k] (aG (lR .int fun _=>x)):=by
 have kE:a.length≤1048576:=hn;refine aF au Tryz.func215 rfl rfl (fr:=true) (fun _=>by kernel_rfl) fun P hP hA=> ?_;cbv;refine⟨by show(0+a.length)*8≤140737488355328; omega, ?_⟩;cbv;refine af.by hP (ED a k (hasB a k) rfl) ?_;cbv;refine Br.split (fun k0=> ?_) (fun k0=> ?_) <;> cbv
 · have k0:hasB a k=true:=k0;obtain rfl:x=a:=hx.trans (if_pos k0)
   repeat' first | exact trivial | refine⟨rfl, ?_⟩ | fail
 · have k0:hasB a k=false:=k0;obtain rfl:x=a ++ [k]:=hx.trans (if_neg (by rw[k0]; simp));refine⟨by show(a.length+1)*8≤140737488355328; omega, ?_⟩;cbv
   repeat' first | exact trivial | refine⟨rfl, ?_⟩ | fail
theorem yf (w:List (List aC)) (hw:kC w):Spec Tryz.prog 198 [jE w] (aG (vF fun _=>w)):=by
 have hl:w.length≤1048576:=hw.1;refine aF au Tryz.func198 rfl rfl (fr:=true) (fun _=>by kernel_rfl) fun P hP hA=> ?_;cbv;refine aR.by (X:=Nat) (fun i=>[(2,pN 0),(3,pN 1),(7,lA .cE w),(8,nT fun _=>w.length),(9,nT fun _=>i)]) (fun i=>[(0, .box [.nil]),(1, .box [.own 2]),(2,aH .cE fun _=>w.take i)]) (fun i=>i≤w.length) (fun i _=>w.length - i) 0 (Nat.zero_le _) ?_ ?_
 · cbv
   repeat' first | exact trivial | refine⟨rfl, ?_⟩ | fail
 · intro i hi;cbv;refine Br.dec (fun h2=> ?_) (fun h2=> ?_) <;> cbv
   · have h2:i<w.length:=by simpa using h2
     have hp:w[i].length≤1048576:=hw.2 _ (List.getElem_mem h2);have o1:(0+w[i].length)*16≤140737488355328:=by omega
     have o2:((w.take i).length+1)*24≤140737488355328:=by rw[List.length_take]; omega
     repeat' first
      | (refine Ob.mk o1 ?_; cbv)
      | (refine Ob.mk o2 ?_; cbv)
      | (refine Ix.mk w[i] (by simp) (get_cast w h2) ?_; cbv)
      | refine And.intro ?_ ?_
      | fail
     all_goals
      refine Ar.exact (by(try simp only[nc] at *); omega) (by(try simp only[nc] at *); omega) ?_;cbv;refine aL.by (i+1) ?_ ?_ ?_
      · show w.length - (i+1)<w.length - i;omega
      · exact h2
      · cbv
        repeat' first | exact trivial | refine⟨rfl, ?_⟩ | refine⟨AO h2, ?_⟩ | fail
   · have h2:w.length≤i:=by simp at h2; omega
     have e:w.take i=w:=List.take_of_length_le h2
     repeat' first | exact trivial | refine⟨rfl, ?_⟩ | refine⟨e, ?_⟩ | fail
theorem AP (w:List (List aC)) (hw:kC w):Spec Tryz.prog 202 [jE w] (aG (vF fun _=>w)):=by
 have hl:w.length≤1048576:=hw.1;refine aF au Tryz.func202 rfl rfl (fr:=true) (fun _=>by kernel_rfl) fun P hP hA=> ?_;cbv;refine aR.by (X:=Nat) (fun i=>[(1,pN 0),(2,pN 1),(3,pN 2),(4,nT fun _=>i)]) (fun i=>[(0, .box [.lf (.list .cE fun _=>w)]),(1, .box [.nil]),(2, .box [.own 3]),(3,aH .cE fun _=>w.take i)]) (fun i=>i≤w.length) (fun i _=>w.length - i) 0 (Nat.zero_le _) ?_ ?_
 · cbv
   repeat' first | exact trivial | refine⟨rfl, ?_⟩ | fail
 · intro i hi;cbv;refine Br.dec (fun h2=> ?_) (fun h2=> ?_) <;> cbv
   · have h2:i<w.length:=by simpa using h2
     have hp:w[i].length≤1048576:=hw.2 _ (List.getElem_mem h2);have o1:(0+w[i].length)*16≤140737488355328:=by omega
     have o2:((w.take i).length+1)*24≤140737488355328:=by rw[List.length_take]; omega
     repeat' first
      | (refine Ob.mk o1 ?_; cbv)
      | (refine Ob.mk o2 ?_; cbv)
      | (refine Ix.mk w[i] (by simp) (get_cast w h2) ?_; cbv)
      | refine And.intro ?_ ?_
      | fail
     all_goals
      refine Ar.exact (by(try simp only[nc] at *); omega) (by(try simp only[nc] at *); omega) ?_;cbv;refine aL.by (i+1) ?_ ?_ ?_
      · show w.length - (i+1)<w.length - i;omega
      · exact h2
      · cbv
        repeat' first | exact trivial | refine⟨rfl, ?_⟩ | refine⟨AO h2, ?_⟩ | fail
   · have h2:w.length≤i:=by simp at h2; omega
     have e:w.take i=w:=List.take_of_length_le h2
     repeat' first | exact trivial | refine⟨rfl, ?_⟩ | refine⟨e, ?_⟩ | fail
theorem RS (c:ba) (hs:iS c):Spec Tryz.prog 159 [eA .ag c] (aG (eR .ag fun _=>c)):=by
 refine aF au Tryz.func159 rfl rfl (fr:=true) (fun _=>by kernel_rfl) fun P hP hA=> ?_;cbv
 repeat' first
  | exact trivial
  | (refine af.by hP (ye c.row hs.1) ?_; cbv)
  | (refine af.by hP (yf c.spoke hs.2) ?_; cbv)
  | refine⟨rfl, ?_⟩
  | refine And.intro ?_ ?_
  | fail
theorem RU (c:ba) (hs:iS c):Spec Tryz.prog 142 [eA .ag c] (aG (eR .ag fun _=>c)):=by
 refine aF au Tryz.func142 rfl rfl (fr:=true) (fun _=>by kernel_rfl) fun P hP hA=> ?_;cbv
 repeat' first
  | exact trivial
  | (refine af.by hP (vK c.row hs.1) ?_; cbv)
  | (refine af.by hP (AP c.spoke hs.2) ?_; cbv)
  | refine⟨rfl, ?_⟩
  | refine And.intro ?_ ?_
  | fail
def cV (l:bA) (n df dh ds dt:Int):bA:=⟨l.total,l.free+df*n,l.held+dh*n,l.bp+ds*n,l.tied+dt*n⟩
def bG (l:bA) (n df dh ds dt:Int):Bool:=aX l && (ak n 0 60 && aX (cV l n df dh ds dt))
def bz (l:bA) (n df dh ds dt:Int):bA:=if bG l n df dh ds dt=true then cV l n df dh ds dt else l
structure yg (d:Int):Prop where
 lo: -1≤d
 hi:d≤1
theorem AQ {d n:Int} (h:yg d) (hn:0≤n∧n≤60): -60≤d*n∧d*n≤60:=by
 have a:=h.lo;have b:=h.hi;rcases(by omega:d = -1∨d=0∨d=1) with e | e | e <;> subst e <;> omega
theorem iF {l:bA} {n df dh ds dt:Int} {x:bA} {b:Bool} (hx:x=bz l n df dh ds dt) (hb:b=bG l n df dh ds dt) (e:bG l n df dh ds dt=false):x=l∧b=false:=
 ⟨hx.trans (if_neg (by rw[e]; simp)),hb.trans e⟩
set_option maxHeartbeats 1000000 in
theorem vO (l:bA) (n df dh ds dt:Int) (h1:yg df) (h2:yg dh) (h3:yg ds) (h4:yg dt) (x:bA) (hx:x=bz l n df dh ds dt) (b:Bool) (hb:b=bG l n df dh ds dt) :
   Spec Tryz.prog 208 [iz l,iA n,iA df,iA dh,iA ds,iA dt] (aG (.aS [(true,iB fun _=>x),(false,[.bool fun _=>b])])):=by
 refine aF au Tryz.func208 rfl rfl (fr:=true) (fun _=>by kernel_rfl) fun P hP hA=> ?_;cbv;refine af.by hP (Aw l (aX l) rfl) ?_;cbv;refine Br.split (fun k0=> ?_) (fun k0=> ?_) <;> cbv
 · have k0:(!aX l)=true:=k0;have k0:aX l=false:=by simpa using k0
   have e:=iF hx hb (by rw[bG,k0]; rfl);obtain rfl:x=l:=e.1;obtain rfl:b=false:=e.2
   repeat' first | exact trivial | refine⟨rfl, ?_⟩ | fail
 have k0:(!aX l)=false:=k0;have k0:aX l=true:=by simpa using k0
 refine af.by hP (dn n 0 60) ?_;cbv;refine Br.split (fun k1=> ?_) (fun k1=> ?_) <;> cbv
 · have k1:(!ak n 0 60)=true:=k1;have k1:ak n 0 60=false:=by simpa using k1
   have e:=iF hx hb (by rw[bG,k0,k1]; rfl);obtain rfl:x=l:=e.1;obtain rfl:b=false:=e.2
   repeat' first | exact trivial | refine⟨rfl, ?_⟩ | fail
 have k1:(!ak n 0 60)=false:=k1;have k1:ak n 0 60=true:=by simpa using k1
 have hn:=bD k1;have hg:=qH k0;have g1:=hg.total;have g2:=hg.free;have g3:=hg.held;have g4:=hg.bp;have g5:=hg.tied;have m1:=AQ h1 hn;have m2:=AQ h2 hn;have m3:=AQ h3 hn;have m4:=AQ h4 hn
 repeat (refine Ar.exact (by omega) (by omega) ?_; cbv)
 refine af.by hP (Aw (cV l n df dh ds dt) (aX (cV l n df dh ds dt)) rfl) ?_;cbv;refine Br.split (fun k2=> ?_) (fun k2=> ?_) <;> cbv
 · have k2:(!aX (cV l n df dh ds dt))=true:=k2;have k2:aX (cV l n df dh ds dt)=false:=by simpa using k2
   have e:=iF hx hb (by rw[bG,k0,k1,k2]; rfl);obtain rfl:x=l:=e.1;obtain rfl:b=false:=e.2
   repeat' first | exact trivial | refine⟨rfl, ?_⟩ | fail
 have k2:(!aX (cV l n df dh ds dt))=false:=k2;have k2:aX (cV l n df dh ds dt)=true:=by simpa using k2
 have e:bG l n df dh ds dt=true:=by rw[bG,k0,k1,k2]; rfl
 obtain rfl:x=cV l n df dh ds dt:=hx.trans (if_pos e);obtain rfl:b=true:=hb.trans e
 repeat' first | exact trivial | refine⟨rfl, ?_⟩ | fail
theorem AR (l:bA) (n:Int):cV l n (-1) 1 0 0=⟨l.total,l.free - n,l.held+n,l.bp,l.tied⟩:=by
 unfold cV; congr 1 <;> omega
theorem RW (l:bA) (n:Int) (x:bA) (hx:x=bz l n (-1) 1 0 0) (b:Bool) (hb:b=bG l n (-1) 1 0 0):Spec Tryz.prog 146 [iz l,iA n] (aG (.aS [(true,iB fun _=>x),(false,[.bool fun _=>b])])):=by
 refine aF au Tryz.func146 rfl rfl (fr:=true) (fun _=>by kernel_rfl) fun P hP hA=> ?_;cbv;refine af.by hP (vO l n (-1) 1 0 0 ⟨by omega,by omega⟩ ⟨by omega,by omega⟩ ⟨by omega,by omega⟩ ⟨by omega,by omega⟩ x hx b hb) ?_;cbv
 repeat' first | exact trivial | refine⟨rfl, ?_⟩ | fail
theorem RX (l:bA) (n:Int) (hl:aX l=true) (hn:0≤n∧n≤60):bJ Tryz.prog 191 [.c (.ptr 0 0), .c (.cg [.int .i64 fun _=>n] 0)] [(0, .box [.lf (.int .i64 fun _=>l.total), .lf (.int .i64 fun _=>l.free), .lf (.int .i64 fun _=>l.held), .lf (.int .i64 fun _=>l.bp), .lf (.int .i64 fun _=>l.tied)])]
  (dx (.aS []) [(0, .box [.int .i64 fun _=>l.total, .int .i64 fun _=>l.free - n, .int .i64 fun _=>l.held+n, .int .i64 fun _=>l.bp, .int .i64 fun _=>l.tied])]):=by
 have hg:=qH hl;have g1:=hg.total;have g2:=hg.free;have g3:=hg.held;have g4:=hg.bp;have g5:=hg.tied;refine fp au Tryz.func191 rfl rfl (fr:=true) (fun _=>by kernel_rfl) rfl rfl fun P hP hA hB=> ?_;cbv
 repeat (refine Ar.exact (by omega) (by omega) ?_; cbv)
 repeat' first | exact trivial | refine⟨rfl, ?_⟩ | fail
set_option maxHeartbeats 1000000 in
theorem RY (l:bA) (n:Int) (x:bA) (hx:x=bz l n (-1) 1 0 0) (b:Bool) (hb:b=bG l n (-1) 1 0 0) :
   Spec Tryz.prog 190 [iz l,iA n, .c (.fn 191 [.cg [.int .i64 fun _=>n] 0])] (aG (.aS [(true,iB fun _=>x),(false,[.bool fun _=>b])])):=by
 refine aF au Tryz.func190 rfl rfl (fr:=true) (fun _=>by kernel_rfl) fun P hP hA=> ?_;cbv;refine af.by hP (lM l (aX l) rfl) ?_;cbv;refine Br.split (fun k0=> ?_) (fun k0=> ?_) <;> cbv
 · have k0:(!aX l)=true:=k0;have k0:aX l=false:=by simpa using k0
   have e:=iF hx hb (by rw[bG,k0]; rfl);obtain rfl:x=l:=e.1;obtain rfl:b=false:=e.2
   repeat' first | exact trivial | refine⟨rfl, ?_⟩ | fail
 have k0:(!aX l)=false:=k0;have k0:aX l=true:=by simpa using k0
 refine af.by hP (di n 0 60) ?_;cbv;refine Br.split (fun k1=> ?_) (fun k1=> ?_) <;> cbv
 · have k1:(!ak n 0 60)=true:=k1;have k1:ak n 0 60=false:=by simpa using k1
   have e:=iF hx hb (by rw[bG,k0,k1]; rfl);obtain rfl:x=l:=e.1;obtain rfl:b=false:=e.2
   repeat' first | exact trivial | refine⟨rfl, ?_⟩ | fail
 have k1:(!ak n 0 60)=false:=k1;have k1:ak n 0 60=true:=by simpa using k1
 refine aD.by hP (RX l n k0 (bD k1)) ?_;cbv;refine af.by hP (lM (⟨l.total,l.free - n,l.held+n,l.bp,l.tied⟩:bA) (aX (cV l n (-1) 1 0 0)) (by rw[AR])) ?_;cbv;refine Br.split (fun k2=> ?_) (fun k2=> ?_) <;> cbv
 · have k2:(!aX (cV l n (-1) 1 0 0))=true:=k2;have k2:aX (cV l n (-1) 1 0 0)=false:=by simpa using k2
   have e:=iF hx hb (by rw[bG,k0,k1,k2]; rfl);obtain rfl:x=l:=e.1;obtain rfl:b=false:=e.2
   repeat' first | exact trivial | refine⟨rfl, ?_⟩ | fail
 have k2:(!aX (cV l n (-1) 1 0 0))=false:=k2;have k2:aX (cV l n (-1) 1 0 0)=true:=by simpa using k2
 have e:bG l n (-1) 1 0 0=true:=by rw[bG,k0,k1,k2]; rfl
 obtain rfl:x=(⟨l.total,l.free - n,l.held+n,l.bp,l.tied⟩:bA):=hx.trans ((if_pos e).trans (AR l n));obtain rfl:b=true:=hb.trans e
 repeat' first | exact trivial | refine⟨rfl, ?_⟩ | fail
theorem RZ (l:bA) (n:Int) (x:bA) (hx:x=bz l n (-1) 1 0 0) (b:Bool) (hb:b=bG l n (-1) 1 0 0):Spec Tryz.prog 133 [iz l,iA n] (aG (.aS [(true,iB fun _=>x),(false,[.bool fun _=>b])])):=by
 refine aF au Tryz.func133 rfl rfl (fr:=true) (fun _=>by kernel_rfl) fun P hP hA=> ?_;cbv;refine af.by hP (RY l n x hx b hb) ?_;cbv
 repeat' first | exact trivial | refine⟨rfl, ?_⟩ | fail
theorem AS (l:bA) (n:Int):cV l n 1 (-1) 0 0=⟨l.total,l.free+n,l.held - n,l.bp,l.tied⟩:=by
 unfold cV; congr 1 <;> omega
theorem R0 (l:bA) (n:Int) (x:bA) (hx:x=bz l n 1 (-1) 0 0) (b:Bool) (hb:b=bG l n 1 (-1) 0 0):Spec Tryz.prog 252 [iz l,iA n] (aG (.aS [(true,iB fun _=>x),(false,[.bool fun _=>b])])):=by
 refine aF au Tryz.func252 rfl rfl (fr:=true) (fun _=>by kernel_rfl) fun P hP hA=> ?_;cbv;refine af.by hP (vO l n 1 (-1) 0 0 ⟨by omega,by omega⟩ ⟨by omega,by omega⟩ ⟨by omega,by omega⟩ ⟨by omega,by omega⟩ x hx b hb) ?_;cbv
 repeat' first | exact trivial | refine⟨rfl, ?_⟩ | fail
theorem R3 (l:bA) (n:Int) (hl:aX l=true) (hn:0≤n∧n≤60):bJ Tryz.prog 234 [.c (.ptr 0 0), .c (.cg [.int .i64 fun _=>n] 0)] [(0, .box [.lf (.int .i64 fun _=>l.total), .lf (.int .i64 fun _=>l.free), .lf (.int .i64 fun _=>l.held), .lf (.int .i64 fun _=>l.bp), .lf (.int .i64 fun _=>l.tied)])]
  (dx (.aS []) [(0, .box [.int .i64 fun _=>l.total, .int .i64 fun _=>l.free+n, .int .i64 fun _=>l.held - n, .int .i64 fun _=>l.bp, .int .i64 fun _=>l.tied])]):=by
 have hg:=qH hl;have g1:=hg.total;have g2:=hg.free;have g3:=hg.held;have g4:=hg.bp;have g5:=hg.tied;refine fp au Tryz.func234 rfl rfl (fr:=true) (fun _=>by kernel_rfl) rfl rfl fun P hP hA hB=> ?_;cbv
 repeat (refine Ar.exact (by omega) (by omega) ?_; cbv)
 repeat' first | exact trivial | refine⟨rfl, ?_⟩ | fail
set_option maxHeartbeats 1000000 in
theorem R4 (l:bA) (n:Int) (x:bA) (hx:x=bz l n 1 (-1) 0 0) (b:Bool) (hb:b=bG l n 1 (-1) 0 0) :
   Spec Tryz.prog 190 [iz l,iA n, .c (.fn 234 [.cg [.int .i64 fun _=>n] 0])] (aG (.aS [(true,iB fun _=>x),(false,[.bool fun _=>b])])):=by
 refine aF au Tryz.func190 rfl rfl (fr:=true) (fun _=>by kernel_rfl) fun P hP hA=> ?_;cbv;refine af.by hP (lM l (aX l) rfl) ?_;cbv;refine Br.split (fun k0=> ?_) (fun k0=> ?_) <;> cbv
 · have k0:(!aX l)=true:=k0;have k0:aX l=false:=by simpa using k0
   have e:=iF hx hb (by rw[bG,k0]; rfl);obtain rfl:x=l:=e.1;obtain rfl:b=false:=e.2
   repeat' first | exact trivial | refine⟨rfl, ?_⟩ | fail
 have k0:(!aX l)=false:=k0;have k0:aX l=true:=by simpa using k0
 refine af.by hP (di n 0 60) ?_;cbv;refine Br.split (fun k1=> ?_) (fun k1=> ?_) <;> cbv
 · have k1:(!ak n 0 60)=true:=k1;have k1:ak n 0 60=false:=by simpa using k1
   have e:=iF hx hb (by rw[bG,k0,k1]; rfl);obtain rfl:x=l:=e.1;obtain rfl:b=false:=e.2
   repeat' first | exact trivial | refine⟨rfl, ?_⟩ | fail
 have k1:(!ak n 0 60)=false:=k1;have k1:ak n 0 60=true:=by simpa using k1
 refine aD.by hP (R3 l n k0 (bD k1)) ?_;cbv;refine af.by hP (lM (⟨l.total,l.free+n,l.held - n,l.bp,l.tied⟩:bA) (aX (cV l n 1 (-1) 0 0)) (by rw[AS])) ?_;cbv;refine Br.split (fun k2=> ?_) (fun k2=> ?_) <;> cbv
 · have k2:(!aX (cV l n 1 (-1) 0 0))=true:=k2;have k2:aX (cV l n 1 (-1) 0 0)=false:=by simpa using k2
   have e:=iF hx hb (by rw[bG,k0,k1,k2]; rfl);obtain rfl:x=l:=e.1;obtain rfl:b=false:=e.2
   repeat' first | exact trivial | refine⟨rfl, ?_⟩ | fail
 have k2:(!aX (cV l n 1 (-1) 0 0))=false:=k2;have k2:aX (cV l n 1 (-1) 0 0)=true:=by simpa using k2
 have e:bG l n 1 (-1) 0 0=true:=by rw[bG,k0,k1,k2]; rfl
 obtain rfl:x=(⟨l.total,l.free+n,l.held - n,l.bp,l.tied⟩:bA):=hx.trans ((if_pos e).trans (AS l n));obtain rfl:b=true:=hb.trans e
 repeat' first | exact trivial | refine⟨rfl, ?_⟩ | fail
theorem ES (l:bA) (n:Int) (x:bA) (hx:x=bz l n 1 (-1) 0 0) (b:Bool) (hb:b=bG l n 1 (-1) 0 0):Spec Tryz.prog 165 [iz l,iA n] (aG (.aS [(true,iB fun _=>x),(false,[.bool fun _=>b])])):=by
 refine aF au Tryz.func165 rfl rfl (fr:=true) (fun _=>by kernel_rfl) fun P hP hA=> ?_;cbv;refine af.by hP (R4 l n x hx b hb) ?_;cbv
 repeat' first | exact trivial | refine⟨rfl, ?_⟩ | fail
theorem AT (l:bA) (n:Int):cV l n 0 (-1) 1 0=⟨l.total,l.free,l.held - n,l.bp+n,l.tied⟩:=by
 unfold cV; congr 1 <;> omega
theorem R5 (l:bA) (n:Int) (x:bA) (hx:x=bz l n 0 (-1) 1 0) (b:Bool) (hb:b=bG l n 0 (-1) 1 0):Spec Tryz.prog 265 [iz l,iA n] (aG (.aS [(true,iB fun _=>x),(false,[.bool fun _=>b])])):=by
 refine aF au Tryz.func265 rfl rfl (fr:=true) (fun _=>by kernel_rfl) fun P hP hA=> ?_;cbv;refine af.by hP (vO l n 0 (-1) 1 0 ⟨by omega,by omega⟩ ⟨by omega,by omega⟩ ⟨by omega,by omega⟩ ⟨by omega,by omega⟩ x hx b hb) ?_;cbv
 repeat' first | exact trivial | refine⟨rfl, ?_⟩ | fail
theorem R6 (l:bA) (n:Int) (hl:aX l=true) (hn:0≤n∧n≤60):bJ Tryz.prog 238 [.c (.ptr 0 0), .c (.cg [.int .i64 fun _=>n] 0)] [(0, .box [.lf (.int .i64 fun _=>l.total), .lf (.int .i64 fun _=>l.free), .lf (.int .i64 fun _=>l.held), .lf (.int .i64 fun _=>l.bp), .lf (.int .i64 fun _=>l.tied)])]
  (dx (.aS []) [(0, .box [.int .i64 fun _=>l.total, .int .i64 fun _=>l.free, .int .i64 fun _=>l.held - n, .int .i64 fun _=>l.bp+n, .int .i64 fun _=>l.tied])]):=by
 have hg:=qH hl;have g1:=hg.total;have g2:=hg.free;have g3:=hg.held;have g4:=hg.bp;have g5:=hg.tied;refine fp au Tryz.func238 rfl rfl (fr:=true) (fun _=>by kernel_rfl) rfl rfl fun P hP hA hB=> ?_;cbv
 repeat (refine Ar.exact (by omega) (by omega) ?_; cbv)
 repeat' first | exact trivial | refine⟨rfl, ?_⟩ | fail
set_option maxHeartbeats 1000000 in
theorem R7 (l:bA) (n:Int) (x:bA) (hx:x=bz l n 0 (-1) 1 0) (b:Bool) (hb:b=bG l n 0 (-1) 1 0) :
   Spec Tryz.prog 190 [iz l,iA n, .c (.fn 238 [.cg [.int .i64 fun _=>n] 0])] (aG (.aS [(true,iB fun _=>x),(false,[.bool fun _=>b])])):=by
 refine aF au Tryz.func190 rfl rfl (fr:=true) (fun _=>by kernel_rfl) fun P hP hA=> ?_;cbv;refine af.by hP (lM l (aX l) rfl) ?_;cbv;refine Br.split (fun k0=> ?_) (fun k0=> ?_) <;> cbv
 · have k0:(!aX l)=true:=k0;have k0:aX l=false:=by simpa using k0
   have e:=iF hx hb (by rw[bG,k0]; rfl);obtain rfl:x=l:=e.1;obtain rfl:b=false:=e.2
   repeat' first | exact trivial | refine⟨rfl, ?_⟩ | fail
 have k0:(!aX l)=false:=k0;have k0:aX l=true:=by simpa using k0
 refine af.by hP (di n 0 60) ?_;cbv;refine Br.split (fun k1=> ?_) (fun k1=> ?_) <;> cbv
 · have k1:(!ak n 0 60)=true:=k1;have k1:ak n 0 60=false:=by simpa using k1
   have e:=iF hx hb (by rw[bG,k0,k1]; rfl);obtain rfl:x=l:=e.1;obtain rfl:b=false:=e.2
   repeat' first | exact trivial | refine⟨rfl, ?_⟩ | fail
 have k1:(!ak n 0 60)=false:=k1;have k1:ak n 0 60=true:=by simpa using k1
 refine aD.by hP (R6 l n k0 (bD k1)) ?_;cbv;refine af.by hP (lM (⟨l.total,l.free,l.held - n,l.bp+n,l.tied⟩:bA) (aX (cV l n 0 (-1) 1 0)) (by rw[AT])) ?_;cbv;refine Br.split (fun k2=> ?_) (fun k2=> ?_) <;> cbv
 · have k2:(!aX (cV l n 0 (-1) 1 0))=true:=k2;have k2:aX (cV l n 0 (-1) 1 0)=false:=by simpa using k2
   have e:=iF hx hb (by rw[bG,k0,k1,k2]; rfl);obtain rfl:x=l:=e.1;obtain rfl:b=false:=e.2
   repeat' first | exact trivial | refine⟨rfl, ?_⟩ | fail
 have k2:(!aX (cV l n 0 (-1) 1 0))=false:=k2;have k2:aX (cV l n 0 (-1) 1 0)=true:=by simpa using k2
 have e:bG l n 0 (-1) 1 0=true:=by rw[bG,k0,k1,k2]; rfl
 obtain rfl:x=(⟨l.total,l.free,l.held - n,l.bp+n,l.tied⟩:bA):=hx.trans ((if_pos e).trans (AT l n));obtain rfl:b=true:=hb.trans e
 repeat' first | exact trivial | refine⟨rfl, ?_⟩ | fail
theorem R8 (l:bA) (n:Int) (x:bA) (hx:x=bz l n 0 (-1) 1 0) (b:Bool) (hb:b=bG l n 0 (-1) 1 0):Spec Tryz.prog 169 [iz l,iA n] (aG (.aS [(true,iB fun _=>x),(false,[.bool fun _=>b])])):=by
 refine aF au Tryz.func169 rfl rfl (fr:=true) (fun _=>by kernel_rfl) fun P hP hA=> ?_;cbv;refine af.by hP (R7 l n x hx b hb) ?_;cbv
 repeat' first | exact trivial | refine⟨rfl, ?_⟩ | fail
theorem AU (l:bA) (n:Int):cV l n 1 0 (-1) 0=⟨l.total,l.free+n,l.held,l.bp - n,l.tied⟩:=by
 unfold cV; congr 1 <;> omega
theorem Kz (l:bA) (n:Int) (x:bA) (hx:x=bz l n 1 0 (-1) 0) (b:Bool) (hb:b=bG l n 1 0 (-1) 0):Spec Tryz.prog 288 [iz l,iA n] (aG (.aS [(true,iB fun _=>x),(false,[.bool fun _=>b])])):=by
 refine aF au Tryz.func288 rfl rfl (fr:=true) (fun _=>by kernel_rfl) fun P hP hA=> ?_;cbv;refine af.by hP (vO l n 1 0 (-1) 0 ⟨by omega,by omega⟩ ⟨by omega,by omega⟩ ⟨by omega,by omega⟩ ⟨by omega,by omega⟩ x hx b hb) ?_;cbv
 repeat' first | exact trivial | refine⟨rfl, ?_⟩ | fail
theorem R9 (l:bA) (n:Int) (hl:aX l=true) (hn:0≤n∧n≤60):bJ Tryz.prog 237 [.c (.ptr 0 0), .c (.cg [.int .i64 fun _=>n] 0)] [(0, .box [.lf (.int .i64 fun _=>l.total), .lf (.int .i64 fun _=>l.free), .lf (.int .i64 fun _=>l.held), .lf (.int .i64 fun _=>l.bp), .lf (.int .i64 fun _=>l.tied)])]
  (dx (.aS []) [(0, .box [.int .i64 fun _=>l.total, .int .i64 fun _=>l.free+n, .int .i64 fun _=>l.held, .int .i64 fun _=>l.bp - n, .int .i64 fun _=>l.tied])]):=by
 have hg:=qH hl;have g1:=hg.total;have g2:=hg.free;have g3:=hg.held;have g4:=hg.bp;have g5:=hg.tied;refine fp au Tryz.func237 rfl rfl (fr:=true) (fun _=>by kernel_rfl) rfl rfl fun P hP hA hB=> ?_;cbv
 repeat (refine Ar.exact (by omega) (by omega) ?_; cbv)
 repeat' first | exact trivial | refine⟨rfl, ?_⟩ | fail
set_option maxHeartbeats 1000000 in
theorem R_ (l:bA) (n:Int) (x:bA) (hx:x=bz l n 1 0 (-1) 0) (b:Bool) (hb:b=bG l n 1 0 (-1) 0) :
   Spec Tryz.prog 190 [iz l,iA n, .c (.fn 237 [.cg [.int .i64 fun _=>n] 0])] (aG (.aS [(true,iB fun _=>x),(false,[.bool fun _=>b])])):=by
 refine aF au Tryz.func190 rfl rfl (fr:=true) (fun _=>by kernel_rfl) fun P hP hA=> ?_;cbv;refine af.by hP (lM l (aX l) rfl) ?_;cbv;refine Br.split (fun k0=> ?_) (fun k0=> ?_) <;> cbv
 · have k0:(!aX l)=true:=k0;have k0:aX l=false:=by simpa using k0
   have e:=iF hx hb (by rw[bG,k0]; rfl);obtain rfl:x=l:=e.1;obtain rfl:b=false:=e.2
   repeat' first | exact trivial | refine⟨rfl, ?_⟩ | fail
 have k0:(!aX l)=false:=k0;have k0:aX l=true:=by simpa using k0
 refine af.by hP (di n 0 60) ?_;cbv;refine Br.split (fun k1=> ?_) (fun k1=> ?_) <;> cbv
 · have k1:(!ak n 0 60)=true:=k1;have k1:ak n 0 60=false:=by simpa using k1
   have e:=iF hx hb (by rw[bG,k0,k1]; rfl);obtain rfl:x=l:=e.1;obtain rfl:b=false:=e.2
   repeat' first | exact trivial | refine⟨rfl, ?_⟩ | fail
 have k1:(!ak n 0 60)=false:=k1;have k1:ak n 0 60=true:=by simpa using k1
 refine aD.by hP (R9 l n k0 (bD k1)) ?_;cbv;refine af.by hP (lM (⟨l.total,l.free+n,l.held,l.bp - n,l.tied⟩:bA) (aX (cV l n 1 0 (-1) 0)) (by rw[AU])) ?_;cbv;refine Br.split (fun k2=> ?_) (fun k2=> ?_) <;> cbv
 · have k2:(!aX (cV l n 1 0 (-1) 0))=true:=k2;have k2:aX (cV l n 1 0 (-1) 0)=false:=by simpa using k2
   have e:=iF hx hb (by rw[bG,k0,k1,k2]; rfl);obtain rfl:x=l:=e.1;obtain rfl:b=false:=e.2
   repeat' first | exact trivial | refine⟨rfl, ?_⟩ | fail
 have k2:(!aX (cV l n 1 0 (-1) 0))=false:=k2;have k2:aX (cV l n 1 0 (-1) 0)=true:=by simpa using k2
 have e:bG l n 1 0 (-1) 0=true:=by rw[bG,k0,k1,k2]; rfl
 obtain rfl:x=(⟨l.total,l.free+n,l.held,l.bp - n,l.tied⟩:bA):=hx.trans ((if_pos e).trans (AU l n));obtain rfl:b=true:=hb.trans e
 repeat' first | exact trivial | refine⟨rfl, ?_⟩ | fail
theorem KA (l:bA) (n:Int) (x:bA) (hx:x=bz l n 1 0 (-1) 0) (b:Bool) (hb:b=bG l n 1 0 (-1) 0):Spec Tryz.prog 168 [iz l,iA n] (aG (.aS [(true,iB fun _=>x),(false,[.bool fun _=>b])])):=by
 refine aF au Tryz.func168 rfl rfl (fr:=true) (fun _=>by kernel_rfl) fun P hP hA=> ?_;cbv;refine af.by hP (R_ l n x hx b hb) ?_;cbv
 repeat' first | exact trivial | refine⟨rfl, ?_⟩ | fail
theorem AV (l:bA) (n:Int):cV l n 0 0 0 1=⟨l.total,l.free,l.held,l.bp,l.tied+n⟩:=by
 unfold cV; congr 1 <;> omega
theorem Sa (l:bA) (n:Int) (x:bA) (hx:x=bz l n 0 0 0 1) (b:Bool) (hb:b=bG l n 0 0 0 1):Spec Tryz.prog 263 [iz l,iA n] (aG (.aS [(true,iB fun _=>x),(false,[.bool fun _=>b])])):=by
 refine aF au Tryz.func263 rfl rfl (fr:=true) (fun _=>by kernel_rfl) fun P hP hA=> ?_;cbv;refine af.by hP (vO l n 0 0 0 1 ⟨by omega,by omega⟩ ⟨by omega,by omega⟩ ⟨by omega,by omega⟩ ⟨by omega,by omega⟩ x hx b hb) ?_;cbv
 repeat' first | exact trivial | refine⟨rfl, ?_⟩ | fail
theorem Sb (l:bA) (n:Int) (hl:aX l=true) (hn:0≤n∧n≤60):bJ Tryz.prog 231 [.c (.ptr 0 0), .c (.cg [.int .i64 fun _=>n] 0)] [(0, .box [.lf (.int .i64 fun _=>l.total), .lf (.int .i64 fun _=>l.free), .lf (.int .i64 fun _=>l.held), .lf (.int .i64 fun _=>l.bp), .lf (.int .i64 fun _=>l.tied)])]
  (dx (.aS []) [(0, .box [.int .i64 fun _=>l.total, .int .i64 fun _=>l.free, .int .i64 fun _=>l.held, .int .i64 fun _=>l.bp, .int .i64 fun _=>l.tied+n])]):=by
 have hg:=qH hl;have g1:=hg.total;have g2:=hg.free;have g3:=hg.held;have g4:=hg.bp;have g5:=hg.tied;refine fp au Tryz.func231 rfl rfl (fr:=true) (fun _=>by kernel_rfl) rfl rfl fun P hP hA hB=> ?_;cbv
 repeat (refine Ar.exact (by omega) (by omega) ?_; cbv)
 repeat' first | exact trivial | refine⟨rfl, ?_⟩ | fail
set_option maxHeartbeats 1000000 in
theorem Sc (l:bA) (n:Int) (x:bA) (hx:x=bz l n 0 0 0 1) (b:Bool) (hb:b=bG l n 0 0 0 1) :
   Spec Tryz.prog 190 [iz l,iA n, .c (.fn 231 [.cg [.int .i64 fun _=>n] 0])] (aG (.aS [(true,iB fun _=>x),(false,[.bool fun _=>b])])):=by
 refine aF au Tryz.func190 rfl rfl (fr:=true) (fun _=>by kernel_rfl) fun P hP hA=> ?_;cbv;refine af.by hP (lM l (aX l) rfl) ?_;cbv;refine Br.split (fun k0=> ?_) (fun k0=> ?_) <;> cbv
 · have k0:(!aX l)=true:=k0;have k0:aX l=false:=by simpa using k0
   have e:=iF hx hb (by rw[bG,k0]; rfl);obtain rfl:x=l:=e.1;obtain rfl:b=false:=e.2
   repeat' first | exact trivial | refine⟨rfl, ?_⟩ | fail
 have k0:(!aX l)=false:=k0;have k0:aX l=true:=by simpa using k0
 refine af.by hP (di n 0 60) ?_;cbv;refine Br.split (fun k1=> ?_) (fun k1=> ?_) <;> cbv
 · have k1:(!ak n 0 60)=true:=k1;have k1:ak n 0 60=false:=by simpa using k1
   have e:=iF hx hb (by rw[bG,k0,k1]; rfl);obtain rfl:x=l:=e.1;obtain rfl:b=false:=e.2
   repeat' first | exact trivial | refine⟨rfl, ?_⟩ | fail
 have k1:(!ak n 0 60)=false:=k1;have k1:ak n 0 60=true:=by simpa using k1
 refine aD.by hP (Sb l n k0 (bD k1)) ?_;cbv;refine af.by hP (lM (⟨l.total,l.free,l.held,l.bp,l.tied+n⟩:bA) (aX (cV l n 0 0 0 1)) (by rw[AV])) ?_;cbv;refine Br.split (fun k2=> ?_) (fun k2=> ?_) <;> cbv
 · have k2:(!aX (cV l n 0 0 0 1))=true:=k2;have k2:aX (cV l n 0 0 0 1)=false:=by simpa using k2
   have e:=iF hx hb (by rw[bG,k0,k1,k2]; rfl);obtain rfl:x=l:=e.1;obtain rfl:b=false:=e.2
   repeat' first | exact trivial | refine⟨rfl, ?_⟩ | fail
 have k2:(!aX (cV l n 0 0 0 1))=false:=k2;have k2:aX (cV l n 0 0 0 1)=true:=by simpa using k2
 have e:bG l n 0 0 0 1=true:=by rw[bG,k0,k1,k2]; rfl
 obtain rfl:x=(⟨l.total,l.free,l.held,l.bp,l.tied+n⟩:bA):=hx.trans ((if_pos e).trans (AV l n));obtain rfl:b=true:=hb.trans e
 repeat' first | exact trivial | refine⟨rfl, ?_⟩ | fail
theorem Sd (l:bA) (n:Int) (x:bA) (hx:x=bz l n 0 0 0 1) (b:Bool) (hb:b=bG l n 0 0 0 1):Spec Tryz.prog 162 [iz l,iA n] (aG (.aS [(true,iB fun _=>x),(false,[.bool fun _=>b])])):=by
 refine aF au Tryz.func162 rfl rfl (fr:=true) (fun _=>by kernel_rfl) fun P hP hA=> ?_;cbv;refine af.by hP (Sc l n x hx b hb) ?_;cbv
 repeat' first | exact trivial | refine⟨rfl, ?_⟩ | fail
theorem AW (l:bA) (n:Int):cV l n 0 0 0 (-1)=⟨l.total,l.free,l.held,l.bp,l.tied - n⟩:=by
 unfold cV; congr 1 <;> omega
theorem Se (l:bA) (n:Int) (x:bA) (hx:x=bz l n 0 0 0 (-1)) (b:Bool) (hb:b=bG l n 0 0 0 (-1)):Spec Tryz.prog 255 [iz l,iA n] (aG (.aS [(true,iB fun _=>x),(false,[.bool fun _=>b])])):=by
 refine aF au Tryz.func255 rfl rfl (fr:=true) (fun _=>by kernel_rfl) fun P hP hA=> ?_;cbv;refine af.by hP (vO l n 0 0 0 (-1) ⟨by omega,by omega⟩ ⟨by omega,by omega⟩ ⟨by omega,by omega⟩ ⟨by omega,by omega⟩ x hx b hb) ?_;cbv
 repeat' first | exact trivial | refine⟨rfl, ?_⟩ | fail
theorem Sf (l:bA) (n:Int) (hl:aX l=true) (hn:0≤n∧n≤60):bJ Tryz.prog 235 [.c (.ptr 0 0), .c (.cg [.int .i64 fun _=>n] 0)] [(0, .box [.lf (.int .i64 fun _=>l.total), .lf (.int .i64 fun _=>l.free), .lf (.int .i64 fun _=>l.held), .lf (.int .i64 fun _=>l.bp), .lf (.int .i64 fun _=>l.tied)])]
  (dx (.aS []) [(0, .box [.int .i64 fun _=>l.total, .int .i64 fun _=>l.free, .int .i64 fun _=>l.held, .int .i64 fun _=>l.bp, .int .i64 fun _=>l.tied - n])]):=by
 have hg:=qH hl;have g1:=hg.total;have g2:=hg.free;have g3:=hg.held;have g4:=hg.bp;have g5:=hg.tied;refine fp au Tryz.func235 rfl rfl (fr:=true) (fun _=>by kernel_rfl) rfl rfl fun P hP hA hB=> ?_;cbv
 repeat (refine Ar.exact (by omega) (by omega) ?_; cbv)
 repeat' first | exact trivial | refine⟨rfl, ?_⟩ | fail
set_option maxHeartbeats 1000000 in
theorem Sg (l:bA) (n:Int) (x:bA) (hx:x=bz l n 0 0 0 (-1)) (b:Bool) (hb:b=bG l n 0 0 0 (-1)) :
   Spec Tryz.prog 190 [iz l,iA n, .c (.fn 235 [.cg [.int .i64 fun _=>n] 0])] (aG (.aS [(true,iB fun _=>x),(false,[.bool fun _=>b])])):=by
 refine aF au Tryz.func190 rfl rfl (fr:=true) (fun _=>by kernel_rfl) fun P hP hA=> ?_;cbv;refine af.by hP (lM l (aX l) rfl) ?_;cbv;refine Br.split (fun k0=> ?_) (fun k0=> ?_) <;> cbv
 · have k0:(!aX l)=true:=k0;have k0:aX l=false:=by simpa using k0
   have e:=iF hx hb (by rw[bG,k0]; rfl);obtain rfl:x=l:=e.1;obtain rfl:b=false:=e.2
   repeat' first | exact trivial | refine⟨rfl, ?_⟩ | fail
 have k0:(!aX l)=false:=k0;have k0:aX l=true:=by simpa using k0
 refine af.by hP (di n 0 60) ?_;cbv;refine Br.split (fun k1=> ?_) (fun k1=> ?_) <;> cbv
 · have k1:(!ak n 0 60)=true:=k1;have k1:ak n 0 60=false:=by simpa using k1
   have e:=iF hx hb (by rw[bG,k0,k1]; rfl);obtain rfl:x=l:=e.1;obtain rfl:b=false:=e.2
   repeat' first | exact trivial | refine⟨rfl, ?_⟩ | fail
 have k1:(!ak n 0 60)=false:=k1;have k1:ak n 0 60=true:=by simpa using k1
 refine aD.by hP (Sf l n k0 (bD k1)) ?_;cbv;refine af.by hP (lM (⟨l.total,l.free,l.held,l.bp,l.tied - n⟩:bA) (aX (cV l n 0 0 0 (-1))) (by rw[AW])) ?_;cbv;refine Br.split (fun k2=> ?_) (fun k2=> ?_) <;> cbv
 · have k2:(!aX (cV l n 0 0 0 (-1)))=true:=k2;have k2:aX (cV l n 0 0 0 (-1))=false:=by simpa using k2
   have e:=iF hx hb (by rw[bG,k0,k1,k2]; rfl);obtain rfl:x=l:=e.1;obtain rfl:b=false:=e.2
   repeat' first | exact trivial | refine⟨rfl, ?_⟩ | fail
 have k2:(!aX (cV l n 0 0 0 (-1)))=false:=k2;have k2:aX (cV l n 0 0 0 (-1))=true:=by simpa using k2
 have e:bG l n 0 0 0 (-1)=true:=by rw[bG,k0,k1,k2]; rfl
 obtain rfl:x=(⟨l.total,l.free,l.held,l.bp,l.tied - n⟩:bA):=hx.trans ((if_pos e).trans (AW l n));obtain rfl:b=true:=hb.trans e
 repeat' first | exact trivial | refine⟨rfl, ?_⟩ | fail
theorem AX (l:bA) (n:Int) (x:bA) (hx:x=bz l n 0 0 0 (-1)) (b:Bool) (hb:b=bG l n 0 0 0 (-1)):Spec Tryz.prog 166 [iz l,iA n] (aG (.aS [(true,iB fun _=>x),(false,[.bool fun _=>b])])):=by
 refine aF au Tryz.func166 rfl rfl (fr:=true) (fun _=>by kernel_rfl) fun P hP hA=> ?_;cbv;refine af.by hP (Sg l n x hx b hb) ?_;cbv
 repeat' first | exact trivial | refine⟨rfl, ?_⟩ | fail
set_option maxHeartbeats 20000000 in
theorem jI (h:ai) (hs:a_ h):Spec Tryz.prog 87 [cG h] (aG (kB fun _=>h)):=by
 have q1:h.rules.seats.length≤1048576:=hs.1;have q2:h.ae.length≤1048576:=hs.2.1;have q3:h.cabins.length≤1048576:=hs.2.2.1.1;have q4:h.todo.length≤1048576:=hs.2.2.2.1;have q5:h.aq.length≤1048576:=hs.2.2.2.2;have o3:(0+h.ae.length)*80≤140737488355328:=by omega
 have o4:(0+h.todo.length)*8≤140737488355328:=by omega
 have o5:(0+h.aq.length)*8≤140737488355328:=by omega
 refine aF au Tryz.func87 rfl rfl (fr:=true) (fun _=>by kernel_rfl) fun P hP hA=> ?_;cbv
 repeat' first
  | (refine af.by hP (Jy h.rules hs.1) ?_; cbv)
  | (refine af.by hP (Ay h.todo hs.2.2.2.1) ?_; cbv)
  | (refine af.by hP (Ay h.aq hs.2.2.2.2) ?_; cbv)
  | (refine Ob.mk o3 ?_; cbv)
  | refine And.intro ?_ ?_
  | fail
 all_goals
  refine aR.by (X:=Nat) (fun i=>[(2,pN 0),(3,pN 1),(24,lA .ag h.cabins),(25,nT fun _=>h.cabins.length),(26,nT fun _=>i)]) (fun i=>[(0, .box [.nil, .lf (.int .i64 fun _=>0), .lf (.int .i64 fun _=>0), .lf (.int .i64 fun _=>0), .lf (.int .i64 fun _=>0), .lf (.int .i64 fun _=>0), .lf (.int .i64 fun _=>0), .lf (.int .i64 fun _=>0), .lf (.int .i64 fun _=>0), .lf (.int .i64 fun _=>0), .lf (.int .i64 fun _=>0), .nil, .nil, .nil, .nil]),(1, .box [.own 2, .lf (.int .i64 fun _=>h.rules.bX), .lf (.int .i64 fun _=>h.rules.room), .lf (.int .i64 fun _=>h.rules.size), .lf (.int .i64 fun _=>h.rules.period), .lf (.int .i64 fun _=>h.rules.bE), .lf (.int .i64 fun _=>h.rules.rest), .lf (.int .i64 fun _=>h.rules.tries), .lf (.int .i64 fun _=>h.rules.bm), .lf (.int .i64 fun _=>h.now), .lf (.int .i64 fun _=>h.aA), .own 3, .own 4, .own 5, .own 6]),(2,aH .int fun _=>h.rules.seats),(3,aH .aE fun _=>h.ae),(4,aH .ag fun _=>h.cabins.take i),(5,aH .int fun _=>h.todo),(6,aH .int fun _=>h.aq)]) (fun i=>i≤h.cabins.length) (fun i _=>h.cabins.length - i) 0 (Nat.zero_le _) ?_ ?_
  · cbv
    repeat' first | exact trivial | refine⟨rfl, ?_⟩ | fail
  · intro i hi;cbv;refine Br.dec (fun h2=> ?_) (fun h2=> ?_) <;> cbv
    · have h2:i<h.cabins.length:=by simpa using h2
      have o2:((h.cabins.take i).length+1)*88≤140737488355328:=by rw[List.length_take]; omega
      repeat' first
       | (refine Ob.mk o2 ?_; cbv)
       | (refine Ix.mk h.cabins[i] (by simp) (get_cast h.cabins h2) ?_; cbv)
       | (refine af.by hP (RS h.cabins[i] (hs.2.2.1.2 _ (List.getElem_mem h2))) ?_; cbv)
       | refine And.intro ?_ ?_
       | fail
      all_goals
       refine Ar.exact (by(try simp only[nc] at *); omega) (by(try simp only[nc] at *); omega) ?_;cbv;refine aL.by (i+1) ?_ ?_ ?_
       · show h.cabins.length - (i+1)<h.cabins.length - i;omega
       · exact h2
       · cbv
         repeat' first | exact trivial | refine⟨rfl, ?_⟩ | refine⟨AO h2, ?_⟩ | fail
    · have h2:h.cabins.length≤i:=by simp at h2; omega
      have e:h.cabins.take i=h.cabins:=List.take_of_length_le h2
      repeat' first | exact trivial | refine⟨rfl, ?_⟩ | refine⟨e, ?_⟩ | fail
set_option maxHeartbeats 20000000 in
theorem kg (h:ai) (hs:a_ h):Spec Tryz.prog 77 [cG h] (aG (kB fun _=>h)):=by
 have q1:h.rules.seats.length≤1048576:=hs.1;have q2:h.ae.length≤1048576:=hs.2.1;have q3:h.cabins.length≤1048576:=hs.2.2.1.1;have q4:h.todo.length≤1048576:=hs.2.2.2.1;have q5:h.aq.length≤1048576:=hs.2.2.2.2;have o3:(0+h.ae.length)*80≤140737488355328:=by omega
 have o4:(0+h.todo.length)*8≤140737488355328:=by omega
 have o5:(0+h.aq.length)*8≤140737488355328:=by omega
 refine aF au Tryz.func77 rfl rfl (fr:=true) (fun _=>by kernel_rfl) fun P hP hA=> ?_;cbv
 repeat (refine Pz.mk ?_; cbv)
 refine af.by hP (D5 h.rules hs.1) ?_;cbv
 repeat (refine Pz.mk ?_; cbv)
 refine Ob.mk o3 ?_;cbv
 repeat (refine Pz.mk ?_; cbv)
 refine Ob.mk o4 ?_;cbv
 repeat (refine Pz.mk ?_; cbv)
 refine Ob.mk o5 ?_;cbv
 repeat (refine Pz.mk ?_; cbv)
 refine aW.mk ?_ (by kernel_rfl) ?_;rotate_left
 · cbv
   repeat' first
     | exact trivial
     | (refine Pz.mk ?_; cbv)
     | (refine af.by hP (D5 h.rules hs.1) ?_; cbv; repeat (refine Pz.mk ?_; cbv))
     | (refine Ob.mk o3 ?_; cbv; repeat (refine Pz.mk ?_; cbv))
     | (refine Ob.mk o4 ?_; cbv; repeat (refine Pz.mk ?_; cbv))
     | (refine Ob.mk o5 ?_; cbv; repeat (refine Pz.mk ?_; cbv))
     | refine And.intro ?_ ?_
     | rfl
     | fail
 refine aR.by (X:=Nat) (fun i=>[(1,pN 0),(2,pN 1),(3,pN 2),(4,nT fun _=>i)]) (fun i=>[(0, .box (iD h)),(1, .box [.nil, .lf (.int .i64 fun _=>0), .lf (.int .i64 fun _=>0), .lf (.int .i64 fun _=>0), .lf (.int .i64 fun _=>0), .lf (.int .i64 fun _=>0), .lf (.int .i64 fun _=>0), .lf (.int .i64 fun _=>0), .lf (.int .i64 fun _=>0), .lf (.int .i64 fun _=>0), .lf (.int .i64 fun _=>0), .nil, .nil, .nil, .nil]),(2, .box [.own 3, .lf (.int .i64 fun _=>h.rules.bX), .lf (.int .i64 fun _=>h.rules.room), .lf (.int .i64 fun _=>h.rules.size), .lf (.int .i64 fun _=>h.rules.period), .lf (.int .i64 fun _=>h.rules.bE), .lf (.int .i64 fun _=>h.rules.rest), .lf (.int .i64 fun _=>h.rules.tries), .lf (.int .i64 fun _=>h.rules.bm), .lf (.int .i64 fun _=>h.now), .lf (.int .i64 fun _=>h.aA), .own 4, .own 5, .own 6, .own 7]),(3,aH .int fun _=>h.rules.seats),(4,aH .aE fun _=>h.ae),(5,aH .ag fun _=>h.cabins.take i),(6,aH .int fun _=>h.todo),(7,aH .int fun _=>h.aq)]) (fun i=>i≤h.cabins.length) (fun i _=>h.cabins.length - i) 0 (Nat.zero_le _) ?_ ?_
 · cbv
   repeat (refine Pz.mk ?_; cbv)
   repeat' first | exact trivial | refine⟨rfl, ?_⟩ | fail
 · intro i hi;cbv
   repeat (refine Pz.mk ?_; cbv)
   refine Br.dec (fun h2=> ?_) (fun h2=> ?_) <;> (cbv; repeat (refine Pz.mk ?_; cbv))
   · have h2:i<h.cabins.length:=by simpa using h2
     have o2:((h.cabins.take i).length+1)*88≤140737488355328:=by rw[List.length_take]; omega
     repeat' first
      | (refine Ob.mk o2 ?_; cbv; repeat (refine Pz.mk ?_; cbv))
      | (refine Ix.mk h.cabins[i] (by simp) (get_cast h.cabins h2) ?_; cbv; repeat (refine Pz.mk ?_; cbv))
      | (refine af.by hP (RU h.cabins[i] (hs.2.2.1.2 _ (List.getElem_mem h2))) ?_; cbv; repeat (refine Pz.mk ?_; cbv))
      | refine And.intro ?_ ?_
      | fail
     all_goals
      refine Ar.exact (by(try simp only[nc] at *); omega) (by(try simp only[nc] at *); omega) ?_;cbv
      repeat (refine Pz.mk ?_; cbv)
      refine aL.by (i+1) ?_ ?_ ?_
      · show h.cabins.length - (i+1)<h.cabins.length - i;omega
      · exact h2
      · cbv
        repeat (refine Pz.mk ?_; cbv)
        repeat' first | exact trivial | refine⟨rfl, ?_⟩ | refine⟨AO h2, ?_⟩ | fail
   · have h2:h.cabins.length≤i:=by simp at h2; omega
     have e:h.cabins.take i=h.cabins:=List.take_of_length_le h2
     repeat' first | exact trivial | refine⟨rfl, ?_⟩ | refine⟨e, ?_⟩ | fail
end Go.Proofs.YtpklefhdkkegiaaGreat

