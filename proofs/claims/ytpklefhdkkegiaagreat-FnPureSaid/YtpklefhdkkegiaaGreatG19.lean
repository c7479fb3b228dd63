/- Parts of a proof. No conditions. -/

import Derived.Test.YtpklefhdkkegiaaGreatG15
import Derived.Test.YtpklefhdkkegiaaGreatG14
set_option linter.unusedSimpArgs false
set_option linter.unusedVariables false
namespace Go.Proofs.YtpklefhdkkegiaaGreat
open Go
set_option maxRecDepth 100000
theorem BD {α:Type} {l:List α} {i:Nat} (h:i<l.length):l.take i ++ [l[i]]=l.take (i+1):=by rw[List.take_add_one,List.getElem?_eq_getElem h]; rfl
theorem vq (a:List Entry) (hn:a.length≤aS):Spec Tryz.prog 192 [lA .aH a] (aM (lR .aH fun _=>a)):=by
 have hn:a.length≤1048576:=hn;refine aN aD Tryz.func192 rfl rfl (fr:=true) (fun _=>by kernel_rfl) fun P hP hA=> ?_;cbv;refine⟨by show(0+a.length)*32≤140737488355328; omega, ?_⟩;cbv
 repeat' first | exact trivial | refine⟨rfl, ?_⟩ | fail
def fj (l:List Int) (k:Int):List Int:=if hasB l k=true then l else l ++ [k]
theorem rr (a:List Int) (k:Int) (hn:a.length≤aS) (x:List Int) (hx:x=fj a k):Spec Tryz.prog 163 [lA .int a,iA k] (aM (lR .int fun _=>x)):=by
 have rm:a.length≤1048576:=hn;refine aN aD Tryz.func163 rfl rfl (fr:=true) (fun _=>by kernel_rfl) fun P hP hA=> ?_;cbv;refine ag.by hP (xD a hn) ?_;cbv;refine ag.by hP (Bw a k (hasB a k) rfl) ?_;cbv;refine Br.split (fun k0=> ?_) (fun k0=> ?_) <;> cbv
 · have k0:(!hasB a k)=true:=k0;have k0:hasB a k=false:=by simpa using k0
   obtain rfl:x=a ++ [k]:=hx.trans (if_neg (by rw[k0]; simp));refine⟨by show(a.length+1)*8≤140737488355328; omega, ?_⟩;cbv
   repeat' first | exact trivial | refine⟨rfl, ?_⟩ | fail
 · have k0:(!hasB a k)=false:=k0;have k0:hasB a k=true:=by simpa using k0
   obtain rfl:x=a:=hx.trans (if_pos k0)
   repeat' first | exact trivial | refine⟨rfl, ?_⟩ | fail
theorem NL (a:List Int) (k:Int) (hn:a.length≤aS) (x:List Int) (hx:x=fj a k):Spec Tryz.prog 215 [lA .int a,iA k] (aM (lR .int fun _=>x)):=by
 have rm:a.length≤1048576:=hn;refine aN aD Tryz.func215 rfl rfl (fr:=true) (fun _=>by kernel_rfl) fun P hP hA=> ?_;cbv;refine⟨by show(0+a.length)*8≤140737488355328; omega, ?_⟩;cbv;refine ag.by hP (GL a k (hasB a k) rfl) ?_;cbv;refine Br.split (fun k0=> ?_) (fun k0=> ?_) <;> cbv
 · have k0:hasB a k=true:=k0;obtain rfl:x=a:=hx.trans (if_pos k0)
   repeat' first | exact trivial | refine⟨rfl, ?_⟩ | fail
 · have k0:hasB a k=false:=k0;obtain rfl:x=a ++ [k]:=hx.trans (if_neg (by rw[k0]; simp));refine⟨by show(a.length+1)*8≤140737488355328; omega, ?_⟩;cbv
   repeat' first | exact trivial | refine⟨rfl, ?_⟩ | fail
theorem vr (w:List (List ay)) (hw:jO w):Spec Tryz.prog 198 [lh w] (aM (vg fun _=>w)):=by
 have hl:w.length≤1048576:=hw.1;refine aN aD Tryz.func198 rfl rfl (fr:=true) (fun _=>by kernel_rfl) fun P hP hA=> ?_;cbv;refine aW.by (X:=Nat) (fun i=>[(2,pN 0),(3,pN 1),(7,lA .cw w),(8,nT fun _=>w.length),(9,nT fun _=>i)]) (fun i=>[(0, .box [.nil]),(1, .box [.own 2]),(2,aK .cw fun _=>w.take i)]) (fun i=>i≤w.length) (fun i _=>w.length - i) 0 (Nat.zero_le _) ?_ ?_
 · cbv
   repeat' first | exact trivial | refine⟨rfl, ?_⟩ | fail
 · intro i hi;cbv;refine Br.dec (fun h2=> ?_) (fun h2=> ?_) <;> cbv
   · have h2:i<w.length:=by simpa using h2
     have hp:w[i].length≤1048576:=hw.2 _ (List.getElem_mem h2);have o1:(0+w[i].length)*16≤140737488355328:=by omega
     have o2:((w.take i).length+1)*24≤140737488355328:=by rw[List.length_take]; omega
     repeat' first
      | (refine Ob.mk o1 ?_; cbv)
      | (refine Ob.mk o2 ?_; cbv)
      | (refine Ix.mk w[i] (by simp) (get_cast w h2) ?_; cbv)
      | refine And.intro ?_ ?_
      | fail
     all_goals
      refine Ar.exact (by(try simp only[nc] at *); omega) (by(try simp only[nc] at *); omega) ?_;cbv;refine aO.by (i+1) ?_ ?_ ?_
      · show w.length - (i+1)<w.length - i;omega
      · exact h2
      · cbv
        repeat' first | exact trivial | refine⟨rfl, ?_⟩ | refine⟨BD h2, ?_⟩ | fail
   · have h2:w.length≤i:=by simp at h2; omega
     have e:w.take i=w:=List.take_of_length_le h2
     repeat' first | exact trivial | refine⟨rfl, ?_⟩ | refine⟨e, ?_⟩ | fail
theorem GY (w:List (List ay)) (hw:jO w):Spec Tryz.prog 202 [lh w] (aM (vg fun _=>w)):=by
 have hl:w.length≤1048576:=hw.1;refine aN aD Tryz.func202 rfl rfl (fr:=true) (fun _=>by kernel_rfl) fun P hP hA=> ?_;cbv;refine aW.by (X:=Nat) (fun i=>[(1,pN 0),(2,pN 1),(3,pN 2),(4,nT fun _=>i)]) (fun i=>[(0, .box [.lf (.list .cw fun _=>w)]),(1, .box [.nil]),(2, .box [.own 3]),(3,aK .cw fun _=>w.take i)]) (fun i=>i≤w.length) (fun i _=>w.length - i) 0 (Nat.zero_le _) ?_ ?_
 · cbv
   repeat' first | exact trivial | refine⟨rfl, ?_⟩ | fail
 · intro i hi;cbv;refine Br.dec (fun h2=> ?_) (fun h2=> ?_) <;> cbv
   · have h2:i<w.length:=by simpa using h2
     have hp:w[i].length≤1048576:=hw.2 _ (List.getElem_mem h2);have o1:(0+w[i].length)*16≤140737488355328:=by omega
     have o2:((w.take i).length+1)*24≤140737488355328:=by rw[List.length_take]; omega
     repeat' first
      | (refine Ob.mk o1 ?_; cbv)
      | (refine Ob.mk o2 ?_; cbv)
      | (refine Ix.mk w[i] (by simp) (get_cast w h2) ?_; cbv)
      | refine And.intro ?_ ?_
      | fail
     all_goals
      refine Ar.exact (by(try simp only[nc] at *); omega) (by(try simp only[nc] at *); omega) ?_;cbv;refine aO.by (i+1) ?_ ?_ ?_
      · show w.length - (i+1)<w.length - i;omega
      · exact h2
      · cbv
        repeat' first | exact trivial | refine⟨rfl, ?_⟩ | refine⟨BD h2, ?_⟩ | fail
   · have h2:w.length≤i:=by simp at h2; omega
     have e:w.take i=w:=List.take_of_length_le h2
     repeat' first | exact trivial | refine⟨rfl, ?_⟩ | refine⟨e, ?_⟩ | fail
theorem NM (c:bh) (hs:ln c):Spec Tryz.prog 159 [eA .ah c] (aM (eR .ah fun _=>c)):=by
 refine aN aD Tryz.func159 rfl rfl (fr:=true) (fun _=>by kernel_rfl) fun P hP hA=> ?_;cbv
 repeat' first
  | exact trivial
  | (refine ag.by hP (vq c.row hs.1) ?_; cbv)
  | (refine ag.by hP (vr c.spoke hs.2) ?_; cbv)
  | refine⟨rfl, ?_⟩
  | refine And.intro ?_ ?_
  | fail
def cQ (l:bA) (n df dh ds dt:Int):bA:=⟨l.total,l.free+df*n,l.held+dh*n,l.bg+ds*n,l.tied+dt*n⟩
def bS (l:bA) (n df dh ds dt:Int):Bool:=aZ l && (aj n 0 60 && aZ (cQ l n df dh ds dt))
def bW (l:bA) (n df dh ds dt:Int):bA:=if bS l n df dh ds dt=true then cQ l n df dh ds dt else l
theorem ij {l:bA} {n df dh ds dt:Int} {x:bA} {b:Bool} (hx:x=bW l n df dh ds dt) (hb:b=bS l n df dh ds dt) (e:bS l n df dh ds dt=false):x=l∧b=false:=
 ⟨hx.trans (if_neg (by rw[e]; simp)),hb.trans e⟩
theorem xP (l:bA) (n:Int):cQ l n (-1) 1 0 0=⟨l.total,l.free - n,l.held+n,l.bg,l.tied⟩:=by
 unfold cQ; congr 1 <;> omega
theorem NN (l:bA) (n:Int) (hl:aZ l=true) (hn:0≤n∧n≤60):bY Tryz.prog 191 [.c (.ptr 0 0), .c (.bN [.int .i64 fun _=>n] 0)] [(0, .box [.lf (.int .i64 fun _=>l.total), .lf (.int .i64 fun _=>l.free), .lf (.int .i64 fun _=>l.held), .lf (.int .i64 fun _=>l.bg), .lf (.int .i64 fun _=>l.tied)])]
  (eV (.ba []) [(0, .box [.int .i64 fun _=>l.total, .int .i64 fun _=>l.free - n, .int .i64 fun _=>l.held+n, .int .i64 fun _=>l.bg, .int .i64 fun _=>l.tied])]):=by
 have hg:=qb hl;have g1:=hg.total;have g2:=hg.free;have g3:=hg.held;have g4:=hg.bg;have g5:=hg.tied;refine iB aD Tryz.func191 rfl rfl (fr:=true) (fun _=>by kernel_rfl) rfl rfl fun P hP hA hB=> ?_;cbv
 repeat (refine Ar.exact (by omega) (by omega) ?_; cbv)
 repeat' first | exact trivial | refine⟨rfl, ?_⟩ | fail
set_option maxHeartbeats 1000000 in
theorem NO (l:bA) (n:Int) (x:bA) (hx:x=bW l n (-1) 1 0 0) (b:Bool) (hb:b=bS l n (-1) 1 0 0) :
   Spec Tryz.prog 190 [jN l,iA n, .c (.fn 191 [.bN [.int .i64 fun _=>n] 0])] (aM (.ba [(true,kA fun _=>x),(false,[.bool fun _=>b])])):=by
 refine aN aD Tryz.func190 rfl rfl (fr:=true) (fun _=>by kernel_rfl) fun P hP hA=> ?_;cbv;refine ag.by hP (kz l (aZ l) rfl) ?_;cbv;refine Br.split (fun k0=> ?_) (fun k0=> ?_) <;> cbv
 · have k0:(!aZ l)=true:=k0;have k0:aZ l=false:=by simpa using k0
   have e:=ij hx hb (by rw[bS,k0]; rfl);obtain rfl:x=l:=e.1;obtain rfl:b=false:=e.2
   repeat' first | exact trivial | refine⟨rfl, ?_⟩ | fail
 have k0:(!aZ l)=false:=k0;have k0:aZ l=true:=by simpa using k0
 refine ag.by hP (cI n 0 60) ?_;cbv;refine Br.split (fun k1=> ?_) (fun k1=> ?_) <;> cbv
 · have k1:(!aj n 0 60)=true:=k1;have k1:aj n 0 60=false:=by simpa using k1
   have e:=ij hx hb (by rw[bS,k0,k1]; rfl);obtain rfl:x=l:=e.1;obtain rfl:b=false:=e.2
   repeat' first | exact trivial | refine⟨rfl, ?_⟩ | fail
 have k1:(!aj n 0 60)=false:=k1;have k1:aj n 0 60=true:=by simpa using k1
 refine aJ.by hP (NN l n k0 (bF k1)) ?_;cbv;refine ag.by hP (kz (⟨l.total,l.free - n,l.held+n,l.bg,l.tied⟩:bA) (aZ (cQ l n (-1) 1 0 0)) (by rw[xP])) ?_;cbv;refine Br.split (fun k2=> ?_) (fun k2=> ?_) <;> cbv
 · have k2:(!aZ (cQ l n (-1) 1 0 0))=true:=k2;have k2:aZ (cQ l n (-1) 1 0 0)=false:=by simpa using k2
   have e:=ij hx hb (by rw[bS,k0,k1,k2]; rfl);obtain rfl:x=l:=e.1;obtain rfl:b=false:=e.2
   repeat' first | exact trivial | refine⟨rfl, ?_⟩ | fail
 have k2:(!aZ (cQ l n (-1) 1 0 0))=false:=k2;have k2:aZ (cQ l n (-1) 1 0 0)=true:=by simpa using k2
 have e:bS l n (-1) 1 0 0=true:=by rw[bS,k0,k1,k2]; rfl
 obtain rfl:x=(⟨l.total,l.free - n,l.held+n,l.bg,l.tied⟩:bA):=hx.trans ((if_pos e).trans (xP l n));obtain rfl:b=true:=hb.trans e
 repeat' first | exact trivial | refine⟨rfl, ?_⟩ | fail
theorem NP (l:bA) (n:Int) (x:bA) (hx:x=bW l n (-1) 1 0 0) (b:Bool) (hb:b=bS l n (-1) 1 0 0):Spec Tryz.prog 133 [jN l,iA n] (aM (.ba [(true,kA fun _=>x),(false,[.bool fun _=>b])])):=by
 refine aN aD Tryz.func133 rfl rfl (fr:=true) (fun _=>by kernel_rfl) fun P hP hA=> ?_;cbv;refine ag.by hP (NO l n x hx b hb) ?_;cbv
 repeat' first | exact trivial | refine⟨rfl, ?_⟩ | fail
theorem xQ (l:bA) (n:Int):cQ l n 1 (-1) 0 0=⟨l.total,l.free+n,l.held - n,l.bg,l.tied⟩:=by
 unfold cQ; congr 1 <;> omega
theorem NQ (l:bA) (n:Int) (hl:aZ l=true) (hn:0≤n∧n≤60):bY Tryz.prog 234 [.c (.ptr 0 0), .c (.bN [.int .i64 fun _=>n] 0)] [(0, .box [.lf (.int .i64 fun _=>l.total), .lf (.int .i64 fun _=>l.free), .lf (.int .i64 fun _=>l.held), .lf (.int .i64 fun _=>l.bg), .lf (.int .i64 fun _=>l.tied)])]
  (eV (.ba []) [(0, .box [.int .i64 fun _=>l.total, .int .i64 fun _=>l.free+n, .int .i64 fun _=>l.held - n, .int .i64 fun _=>l.bg, .int .i64 fun _=>l.tied])]):=by
 have hg:=qb hl;have g1:=hg.total;have g2:=hg.free;have g3:=hg.held;have g4:=hg.bg;have g5:=hg.tied;refine iB aD Tryz.func234 rfl rfl (fr:=true) (fun _=>by kernel_rfl) rfl rfl fun P hP hA hB=> ?_;cbv
 repeat (refine Ar.exact (by omega) (by omega) ?_; cbv)
 repeat' first | exact trivial | refine⟨rfl, ?_⟩ | fail
set_option maxHeartbeats 1000000 in
theorem NR (l:bA) (n:Int) (x:bA) (hx:x=bW l n 1 (-1) 0 0) (b:Bool) (hb:b=bS l n 1 (-1) 0 0) :
   Spec Tryz.prog 190 [jN l,iA n, .c (.fn 234 [.bN [.int .i64 fun _=>n] 0])] (aM (.ba [(true,kA fun _=>x),(false,[.bool fun _=>b])])):=by
 refine aN aD Tryz.func190 rfl rfl (fr:=true) (fun _=>by kernel_rfl) fun P hP hA=> ?_;cbv;refine ag.by hP (kz l (aZ l) rfl) ?_;cbv;refine Br.split (fun k0=> ?_) (fun k0=> ?_) <;> cbv
 · have k0:(!aZ l)=true:=k0;have k0:aZ l=false:=by simpa using k0
   have e:=ij hx hb (by rw[bS,k0]; rfl);obtain rfl:x=l:=e.1;obtain rfl:b=false:=e.2
   repeat' first | exact trivial | refine⟨rfl, ?_⟩ | fail
 have k0:(!aZ l)=false:=k0;have k0:aZ l=true:=by simpa using k0
 refine ag.by hP (cI n 0 60) ?_;cbv;refine Br.split (fun k1=> ?_) (fun k1=> ?_) <;> cbv
 · have k1:(!aj n 0 60)=true:=k1;have k1:aj n 0 60=false:=by simpa using k1
   have e:=ij hx hb (by rw[bS,k0,k1]; rfl);obtain rfl:x=l:=e.1;obtain rfl:b=false:=e.2
   repeat' first | exact trivial | refine⟨rfl, ?_⟩ | fail
 have k1:(!aj n 0 60)=false:=k1;have k1:aj n 0 60=true:=by simpa using k1
 refine aJ.by hP (NQ l n k0 (bF k1)) ?_;cbv;refine ag.by hP (kz (⟨l.total,l.free+n,l.held - n,l.bg,l.tied⟩:bA) (aZ (cQ l n 1 (-1) 0 0)) (by rw[xQ])) ?_;cbv;refine Br.split (fun k2=> ?_) (fun k2=> ?_) <;> cbv
 · have k2:(!aZ (cQ l n 1 (-1) 0 0))=true:=k2;have k2:aZ (cQ l n 1 (-1) 0 0)=false:=by simpa using k2
   have e:=ij hx hb (by rw[bS,k0,k1,k2]; rfl);obtain rfl:x=l:=e.1;obtain rfl:b=false:=e.2
   repeat' first | exact trivial | refine⟨rfl, ?_⟩ | fail
 have k2:(!aZ (cQ l n 1 (-1) 0 0))=false:=k2;have k2:aZ (cQ l n 1 (-1) 0 0)=true:=by simpa using k2
 have e:bS l n 1 (-1) 0 0=true:=by rw[bS,k0,k1,k2]; rfl
 obtain rfl:x=(⟨l.total,l.free+n,l.held - n,l.bg,l.tied⟩:bA):=hx.trans ((if_pos e).trans (xQ l n));obtain rfl:b=true:=hb.trans e
 repeat' first | exact trivial | refine⟨rfl, ?_⟩ | fail
theorem BE (l:bA) (n:Int) (x:bA) (hx:x=bW l n 1 (-1) 0 0) (b:Bool) (hb:b=bS l n 1 (-1) 0 0):Spec Tryz.prog 165 [jN l,iA n] (aM (.ba [(true,kA fun _=>x),(false,[.bool fun _=>b])])):=by
 refine aN aD Tryz.func165 rfl rfl (fr:=true) (fun _=>by kernel_rfl) fun P hP hA=> ?_;cbv;refine ag.by hP (NR l n x hx b hb) ?_;cbv
 repeat' first | exact trivial | refine⟨rfl, ?_⟩ | fail
theorem GZ (l:bA) (n:Int):cQ l n 0 (-1) 1 0=⟨l.total,l.free,l.held - n,l.bg+n,l.tied⟩:=by
 unfold cQ; congr 1 <;> omega
theorem NS (l:bA) (n:Int) (hl:aZ l=true) (hn:0≤n∧n≤60):bY Tryz.prog 238 [.c (.ptr 0 0), .c (.bN [.int .i64 fun _=>n] 0)] [(0, .box [.lf (.int .i64 fun _=>l.total), .lf (.int .i64 fun _=>l.free), .lf (.int .i64 fun _=>l.held), .lf (.int .i64 fun _=>l.bg), .lf (.int .i64 fun _=>l.tied)])]
  (eV (.ba []) [(0, .box [.int .i64 fun _=>l.total, .int .i64 fun _=>l.free, .int .i64 fun _=>l.held - n, .int .i64 fun _=>l.bg+n, .int .i64 fun _=>l.tied])]):=by
 have hg:=qb hl;have g1:=hg.total;have g2:=hg.free;have g3:=hg.held;have g4:=hg.bg;have g5:=hg.tied;refine iB aD Tryz.func238 rfl rfl (fr:=true) (fun _=>by kernel_rfl) rfl rfl fun P hP hA hB=> ?_;cbv
 repeat (refine Ar.exact (by omega) (by omega) ?_; cbv)
 repeat' first | exact trivial | refine⟨rfl, ?_⟩ | fail
set_option maxHeartbeats 1000000 in
theorem NT (l:bA) (n:Int) (x:bA) (hx:x=bW l n 0 (-1) 1 0) (b:Bool) (hb:b=bS l n 0 (-1) 1 0) :
   Spec Tryz.prog 190 [jN l,iA n, .c (.fn 238 [.bN [.int .i64 fun _=>n] 0])] (aM (.ba [(true,kA fun _=>x),(false,[.bool fun _=>b])])):=by
 refine aN aD Tryz.func190 rfl rfl (fr:=true) (fun _=>by kernel_rfl) fun P hP hA=> ?_;cbv;refine ag.by hP (kz l (aZ l) rfl) ?_;cbv;refine Br.split (fun k0=> ?_) (fun k0=> ?_) <;> cbv
 · have k0:(!aZ l)=true:=k0;have k0:aZ l=false:=by simpa using k0
   have e:=ij hx hb (by rw[bS,k0]; rfl);obtain rfl:x=l:=e.1;obtain rfl:b=false:=e.2
   repeat' first | exact trivial | refine⟨rfl, ?_⟩ | fail
 have k0:(!aZ l)=false:=k0;have k0:aZ l=true:=by simpa using k0
 refine ag.by hP (cI n 0 60) ?_;cbv;refine Br.split (fun k1=> ?_) (fun k1=> ?_) <;> cbv
 · have k1:(!aj n 0 60)=true:=k1;have k1:aj n 0 60=false:=by simpa using k1
   have e:=ij hx hb (by rw[bS,k0,k1]; rfl);obtain rfl:x=l:=e.1;obtain rfl:b=false:=e.2
   repeat' first | exact trivial | refine⟨rfl, ?_⟩ | fail
 have k1:(!aj n 0 60)=false:=k1;have k1:aj n 0 60=true:=by simpa using k1
 refine aJ.by hP (NS l n k0 (bF k1)) ?_;cbv;refine ag.by hP (kz (⟨l.total,l.free,l.held - n,l.bg+n,l.tied⟩:bA) (aZ (cQ l n 0 (-1) 1 0)) (by rw[GZ])) ?_;cbv;refine Br.split (fun k2=> ?_) (fun k2=> ?_) <;> cbv
 · have k2:(!aZ (cQ l n 0 (-1) 1 0))=true:=k2;have k2:aZ (cQ l n 0 (-1) 1 0)=false:=by simpa using k2
   have e:=ij hx hb (by rw[bS,k0,k1,k2]; rfl);obtain rfl:x=l:=e.1;obtain rfl:b=false:=e.2
   repeat' first | exact trivial | refine⟨rfl, ?_⟩ | fail
 have k2:(!aZ (cQ l n 0 (-1) 1 0))=false:=k2;have k2:aZ (cQ l n 0 (-1) 1 0)=true:=by simpa using k2
 have e:bS l n 0 (-1) 1 0=true:=by rw[bS,k0,k1,k2]; rfl
 obtain rfl:x=(⟨l.total,l.free,l.held - n,l.bg+n,l.tied⟩:bA):=hx.trans ((if_pos e).trans (GZ l n));obtain rfl:b=true:=hb.trans e
 repeat' first | exact trivial | refine⟨rfl, ?_⟩ | fail
theorem NU (l:bA) (n:Int) (x:bA) (hx:x=bW l n 0 (-1) 1 0) (b:Bool) (hb:b=bS l n 0 (-1) 1 0):Spec Tryz.prog 169 [jN l,iA n] (aM (.ba [(true,kA fun _=>x),(false,[.bool fun _=>b])])):=by
 refine aN aD Tryz.func169 rfl rfl (fr:=true) (fun _=>by kernel_rfl) fun P hP hA=> ?_;cbv;refine ag.by hP (NT l n x hx b hb) ?_;cbv
 repeat' first | exact trivial | refine⟨rfl, ?_⟩ | fail
theorem xR (l:bA) (n:Int):cQ l n 1 0 (-1) 0=⟨l.total,l.free+n,l.held,l.bg - n,l.tied⟩:=by
 unfold cQ; congr 1 <;> omega
theorem NV (l:bA) (n:Int) (hl:aZ l=true) (hn:0≤n∧n≤60):bY Tryz.prog 237 [.c (.ptr 0 0), .c (.bN [.int .i64 fun _=>n] 0)] [(0, .box [.lf (.int .i64 fun _=>l.total), .lf (.int .i64 fun _=>l.free), .lf (.int .i64 fun _=>l.held), .lf (.int .i64 fun _=>l.bg), .lf (.int .i64 fun _=>l.tied)])]
  (eV (.ba []) [(0, .box [.int .i64 fun _=>l.total, .int .i64 fun _=>l.free+n, .int .i64 fun _=>l.held, .int .i64 fun _=>l.bg - n, .int .i64 fun _=>l.tied])]):=by
 have hg:=qb hl;have g1:=hg.total;have g2:=hg.free;have g3:=hg.held;have g4:=hg.bg;have g5:=hg.tied;refine iB aD Tryz.func237 rfl rfl (fr:=true) (fun _=>by kernel_rfl) rfl rfl fun P hP hA hB=> ?_;cbv
 repeat (refine Ar.exact (by omega) (by omega) ?_; cbv)
 repeat' first | exact trivial | refine⟨rfl, ?_⟩ | fail
set_option maxHeartbeats 1000000 in
theorem NW (l:bA) (n:Int) (x:bA) (hx:x=bW l n 1 0 (-1) 0) (b:Bool) (hb:b=bS l n 1 0 (-1) 0) :
   Spec Tryz.prog 190 [jN l,iA n, .c (.fn 237 [.bN [.int .i64 fun _=>n] 0])] (aM (.ba [(true,kA fun _=>x),(false,[.bool fun _=>b])])):=by
 refine aN aD Tryz.func190 rfl rfl (fr:=true) (fun _=>by kernel_rfl) fun P hP hA=> ?_;cbv;refine ag.by hP (kz l (aZ l) rfl) ?_;cbv;refine Br.split (fun k0=> ?_) (fun k0=> ?_) <;> cbv
 · have k0:(!aZ l)=true:=k0;have k0:aZ l=false:=by simpa using k0
   have e:=ij hx hb (by rw[bS,k0]; rfl);obtain rfl:x=l:=e.1;obtain rfl:b=false:=e.2
   repeat' first | exact trivial | refine⟨rfl, ?_⟩ | fail
 have k0:(!aZ l)=false:=k0;have k0:aZ l=true:=by simpa using k0
 refine ag.by hP (cI n 0 60) ?_;cbv;refine Br.split (fun k1=> ?_) (fun k1=> ?_) <;> cbv
 · have k1:(!aj n 0 60)=true:=k1;have k1:aj n 0 60=false:=by simpa using k1
   have e:=ij hx hb (by rw[bS,k0,k1]; rfl);obtain rfl:x=l:=e.1;obtain rfl:b=false:=e.2
   repeat' first | exact trivial | refine⟨rfl, ?_⟩ | fail
 have k1:(!aj n 0 60)=false:=k1;have k1:aj n 0 60=true:=by simpa using k1
 refine aJ.by hP (NV l n k0 (bF k1)) ?_;cbv;refine ag.by hP (kz (⟨l.total,l.free+n,l.held,l.bg - n,l.tied⟩:bA) (aZ (cQ l n 1 0 (-1) 0)) (by rw[xR])) ?_;cbv;refine Br.split (fun k2=> ?_) (fun k2=> ?_) <;> cbv
 · have k2:(!aZ (cQ l n 1 0 (-1) 0))=true:=k2;have k2:aZ (cQ l n 1 0 (-1) 0)=false:=by simpa using k2
   have e:=ij hx hb (by rw[bS,k0,k1,k2]; rfl);obtain rfl:x=l:=e.1;obtain rfl:b=false:=e.2
   repeat' first | exact trivial | refine⟨rfl, ?_⟩ | fail
 have k2:(!aZ (cQ l n 1 0 (-1) 0))=false:=k2;have k2:aZ (cQ l n 1 0 (-1) 0)=true:=by simpa using k2
 have e:bS l n 1 0 (-1) 0=true:=by rw[bS,k0,k1,k2]; rfl
 obtain rfl:x=(⟨l.total,l.free+n,l.held,l.bg - n,l.tied⟩:bA):=hx.trans ((if_pos e).trans (xR l n));obtain rfl:b=true:=hb.trans e
 repeat' first | exact trivial | refine⟨rfl, ?_⟩ | fail
theorem G0 (l:bA) (n:Int) (x:bA) (hx:x=bW l n 1 0 (-1) 0) (b:Bool) (hb:b=bS l n 1 0 (-1) 0):Spec Tryz.prog 168 [jN l,iA n] (aM (.ba [(true,kA fun _=>x),(false,[.bool fun _=>b])])):=by
 refine aN aD Tryz.func168 rfl rfl (fr:=true) (fun _=>by kernel_rfl) fun P hP hA=> ?_;cbv;refine ag.by hP (NW l n x hx b hb) ?_;cbv
 repeat' first | exact trivial | refine⟨rfl, ?_⟩ | fail
theorem G3 (l:bA) (n:Int):cQ l n 0 0 0 1=⟨l.total,l.free,l.held,l.bg,l.tied+n⟩:=by
 unfold cQ; congr 1 <;> omega
theorem NX (l:bA) (n:Int) (hl:aZ l=true) (hn:0≤n∧n≤60):bY Tryz.prog 231 [.c (.ptr 0 0), .c (.bN [.int .i64 fun _=>n] 0)] [(0, .box [.lf (.int .i64 fun _=>l.total), .lf (.int .i64 fun _=>l.free), .lf (.int .i64 fun _=>l.held), .lf (.int .i64 fun _=>l.bg), .lf (.int .i64 fun _=>l.tied)])]
  (eV (.ba []) [(0, .box [.int .i64 fun _=>l.total, .int .i64 fun _=>l.free, .int .i64 fun _=>l.held, .int .i64 fun _=>l.bg, .int .i64 fun _=>l.tied+n])]):=by
 have hg:=qb hl;have g1:=hg.total;have g2:=hg.free;have g3:=hg.held;have g4:=hg.bg;have g5:=hg.tied;refine iB aD Tryz.func231 rfl rfl (fr:=true) (fun _=>by kernel_rfl) rfl rfl fun P hP hA hB=> ?_;cbv
 repeat (refine Ar.exact (by omega) (by omega) ?_; cbv)
 repeat' first | exact trivial | refine⟨rfl, ?_⟩ | fail
set_option maxHeartbeats 1000000 in
theorem NY (l:bA) (n:Int) (x:bA) (hx:x=bW l n 0 0 0 1) (b:Bool) (hb:b=bS l n 0 0 0 1) :
   Spec Tryz.prog 190 [jN l,iA n, .c (.fn 231 [.bN [.int .i64 fun _=>n] 0])] (aM (.ba [(true,kA fun _=>x),(false,[.bool fun _=>b])])):=by
 refine aN aD Tryz.func190 rfl rfl (fr:=true) (fun _=>by kernel_rfl) fun P hP hA=> ?_;cbv;refine ag.by hP (kz l (aZ l) rfl) ?_;cbv;refine Br.split (fun k0=> ?_) (fun k0=> ?_) <;> cbv
 · have k0:(!aZ l)=true:=k0;have k0:aZ l=false:=by simpa using k0
   have e:=ij hx hb (by rw[bS,k0]; rfl);obtain rfl:x=l:=e.1;obtain rfl:b=false:=e.2
   repeat' first | exact trivial | refine⟨rfl, ?_⟩ | fail
 have k0:(!aZ l)=false:=k0;have k0:aZ l=true:=by simpa using k0
 refine ag.by hP (cI n 0 60) ?_;cbv;refine Br.split (fun k1=> ?_) (fun k1=> ?_) <;> cbv
 · have k1:(!aj n 0 60)=true:=k1;have k1:aj n 0 60=false:=by simpa using k1
   have e:=ij hx hb (by rw[bS,k0,k1]; rfl);obtain rfl:x=l:=e.1;obtain rfl:b=false:=e.2
   repeat' first | exact trivial | refine⟨rfl, ?_⟩ | fail
 have k1:(!aj n 0 60)=false:=k1;have k1:aj n 0 60=true:=by simpa using k1
 refine aJ.by hP (NX l n k0 (bF k1)) ?_;cbv;refine ag.by hP (kz (⟨l.total,l.free,l.held,l.bg,l.tied+n⟩:bA) (aZ (cQ l n 0 0 0 1)) (by rw[G3])) ?_;cbv;refine Br.split (fun k2=> ?_) (fun k2=> ?_) <;> cbv
 · have k2:(!aZ (cQ l n 0 0 0 1))=true:=k2;have k2:aZ (cQ l n 0 0 0 1)=false:=by simpa using k2
   have e:=ij hx hb (by rw[bS,k0,k1,k2]; rfl);obtain rfl:x=l:=e.1;obtain rfl:b=false:=e.2
   repeat' first | exact trivial | refine⟨rfl, ?_⟩ | fail
 have k2:(!aZ (cQ l n 0 0 0 1))=false:=k2;have k2:aZ (cQ l n 0 0 0 1)=true:=by simpa using k2
 have e:bS l n 0 0 0 1=true:=by rw[bS,k0,k1,k2]; rfl
 obtain rfl:x=(⟨l.total,l.free,l.held,l.bg,l.tied+n⟩:bA):=hx.trans ((if_pos e).trans (G3 l n));obtain rfl:b=true:=hb.trans e
 repeat' first | exact trivial | refine⟨rfl, ?_⟩ | fail
theorem NZ (l:bA) (n:Int) (x:bA) (hx:x=bW l n 0 0 0 1) (b:Bool) (hb:b=bS l n 0 0 0 1):Spec Tryz.prog 162 [jN l,iA n] (aM (.ba [(true,kA fun _=>x),(false,[.bool fun _=>b])])):=by
 refine aN aD Tryz.func162 rfl rfl (fr:=true) (fun _=>by kernel_rfl) fun P hP hA=> ?_;cbv;refine ag.by hP (NY l n x hx b hb) ?_;cbv
 repeat' first | exact trivial | refine⟨rfl, ?_⟩ | fail
theorem xS (l:bA) (n:Int):cQ l n 0 0 0 (-1)=⟨l.total,l.free,l.held,l.bg,l.tied - n⟩:=by
 unfold cQ; congr 1 <;> omega
theorem N0 (l:bA) (n:Int) (hl:aZ l=true) (hn:0≤n∧n≤60):bY Tryz.prog 235 [.c (.ptr 0 0), .c (.bN [.int .i64 fun _=>n] 0)] [(0, .box [.lf (.int .i64 fun _=>l.total), .lf (.int .i64 fun _=>l.free), .lf (.int .i64 fun _=>l.held), .lf (.int .i64 fun _=>l.bg), .lf (.int .i64 fun _=>l.tied)])]
  (eV (.ba []) [(0, .box [.int .i64 fun _=>l.total, .int .i64 fun _=>l.free, .int .i64 fun _=>l.held, .int .i64 fun _=>l.bg, .int .i64 fun _=>l.tied - n])]):=by
 have hg:=qb hl;have g1:=hg.total;have g2:=hg.free;have g3:=hg.held;have g4:=hg.bg;have g5:=hg.tied;refine iB aD Tryz.func235 rfl rfl (fr:=true) (fun _=>by kernel_rfl) rfl rfl fun P hP hA hB=> ?_;cbv
 repeat (refine Ar.exact (by omega) (by omega) ?_; cbv)
 repeat' first | exact trivial | refine⟨rfl, ?_⟩ | fail
set_option maxHeartbeats 1000000 in
theorem N1 (l:bA) (n:Int) (x:bA) (hx:x=bW l n 0 0 0 (-1)) (b:Bool) (hb:b=bS l n 0 0 0 (-1)) :
   Spec Tryz.prog 190 [jN l,iA n, .c (.fn 235 [.bN [.int .i64 fun _=>n] 0])] (aM (.ba [(true,kA fun _=>x),(false,[.bool fun _=>b])])):=by
 refine aN aD Tryz.func190 rfl rfl (fr:=true) (fun _=>by kernel_rfl) fun P hP hA=> ?_;cbv;refine ag.by hP (kz l (aZ l) rfl) ?_;cbv;refine Br.split (fun k0=> ?_) (fun k0=> ?_) <;> cbv
 · have k0:(!aZ l)=true:=k0;have k0:aZ l=false:=by simpa using k0
   have e:=ij hx hb (by rw[bS,k0]; rfl);obtain rfl:x=l:=e.1;obtain rfl:b=false:=e.2
   repeat' first | exact trivial | refine⟨rfl, ?_⟩ | fail
 have k0:(!aZ l)=false:=k0;have k0:aZ l=true:=by simpa using k0
 refine ag.by hP (cI n 0 60) ?_;cbv;refine Br.split (fun k1=> ?_) (fun k1=> ?_) <;> cbv
 · have k1:(!aj n 0 60)=true:=k1;have k1:aj n 0 60=false:=by simpa using k1
   have e:=ij hx hb (by rw[bS,k0,k1]; rfl);obtain rfl:x=l:=e.1;obtain rfl:b=false:=e.2
   repeat' first | exact trivial | refine⟨rfl, ?_⟩ | fail
 have k1:(!aj n 0 60)=false:=k1;have k1:aj n 0 60=true:=by simpa using k1
 refine aJ.by hP (N0 l n k0 (bF k1)) ?_;cbv;refine ag.by hP (kz (⟨l.total,l.free,l.held,l.bg,l.tied - n⟩:bA) (aZ (cQ l n 0 0 0 (-1))) (by rw[xS])) ?_;cbv;refine Br.split (fun k2=> ?_) (fun k2=> ?_) <;> cbv
 · have k2:(!aZ (cQ l n 0 0 0 (-1)))=true:=k2;have k2:aZ (cQ l n 0 0 0 (-1))=false:=by simpa using k2
   have e:=ij hx hb (by rw[bS,k0,k1,k2]; rfl);obtain rfl:x=l:=e.1;obtain rfl:b=false:=e.2
   repeat' first | exact trivial | refine⟨rfl, ?_⟩ | fail
 have k2:(!aZ (cQ l n 0 0 0 (-1)))=false:=k2;have k2:aZ (cQ l n 0 0 0 (-1))=true:=by simpa using k2
 have e:bS l n 0 0 0 (-1)=true:=by rw[bS,k0,k1,k2]; rfl
 obtain rfl:x=(⟨l.total,l.free,l.held,l.bg,l.tied - n⟩:bA):=hx.trans ((if_pos e).trans (xS l n));obtain rfl:b=true:=hb.trans e
 repeat' first | exact trivial | refine⟨rfl, ?_⟩ | fail
theorem xT (l:bA) (n:Int) (x:bA) (hx:x=bW l n 0 0 0 (-1)) (b:Bool) (hb:b=bS l n 0 0 0 (-1)):Spec Tryz.prog 166 [jN l,iA n] (aM (.ba [(true,kA fun _=>x),(false,[.bool fun _=>b])])):=by
 refine aN aD Tryz.func166 rfl rfl (fr:=true) (fun _=>by kernel_rfl) fun P hP hA=> ?_;cbv;refine ag.by hP (N1 l n x hx b hb) ?_;cbv
 repeat' first | exact trivial | refine⟨rfl, ?_⟩ | fail
set_option maxHeartbeats 20000000 in
theorem iE (h:al) (hs:bJ h):Spec Tryz.prog 87 [dV h] (aM (sJ fun _=>h)):=by
 have q1:h.rules.ai.length≤1048576:=hs.1;have q2:h.ae.length≤1048576:=hs.2.1;have q3:h.cabins.length≤1048576:=hs.2.2.1.1;have q4:h.todo.length≤1048576:=hs.2.2.2.1;have q5:h.aA.length≤1048576:=hs.2.2.2.2;have o3:(0+h.ae.length)*80≤140737488355328:=by omega
 have o4:(0+h.todo.length)*8≤140737488355328:=by omega
 have o5:(0+h.aA.length)*8≤140737488355328:=by omega
 refine aN aD Tryz.func87 rfl rfl (fr:=true) (fun _=>by kernel_rfl) fun P hP hA=> ?_;cbv
 repeat' first
  | (refine ag.by hP (Ms h.rules hs.1) ?_; cbv)
  | (refine ag.by hP (xD h.todo hs.2.2.2.1) ?_; cbv)
  | (refine ag.by hP (xD h.aA hs.2.2.2.2) ?_; cbv)
  | (refine Ob.mk o3 ?_; cbv)
  | refine And.intro ?_ ?_
  | fail
 all_goals
  refine aW.by (X:=Nat) (fun i=>[(2,pN 0),(3,pN 1),(24,lA .ah h.cabins),(25,nT fun _=>h.cabins.length),(26,nT fun _=>i)]) (fun i=>[(0, .box [.nil, .lf (.int .i64 fun _=>0), .lf (.int .i64 fun _=>0), .lf (.int .i64 fun _=>0), .lf (.int .i64 fun _=>0), .lf (.int .i64 fun _=>0), .lf (.int .i64 fun _=>0), .lf (.int .i64 fun _=>0), .lf (.int .i64 fun _=>0), .lf (.int .i64 fun _=>0), .lf (.int .i64 fun _=>0), .nil, .nil, .nil, .nil]),(1, .box [.own 2, .lf (.int .i64 fun _=>h.rules.cd), .lf (.int .i64 fun _=>h.rules.room), .lf (.int .i64 fun _=>h.rules.size), .lf (.int .i64 fun _=>h.rules.period), .lf (.int .i64 fun _=>h.rules.cC), .lf (.int .i64 fun _=>h.rules.rest), .lf (.int .i64 fun _=>h.rules.tries), .lf (.int .i64 fun _=>h.rules.bO), .lf (.int .i64 fun _=>h.now), .lf (.int .i64 fun _=>h.az), .own 3, .own 4, .own 5, .own 6]),(2,aK .int fun _=>h.rules.ai),(3,aK .aB fun _=>h.ae),(4,aK .ah fun _=>h.cabins.take i),(5,aK .int fun _=>h.todo),(6,aK .int fun _=>h.aA)]) (fun i=>i≤h.cabins.length) (fun i _=>h.cabins.length - i) 0 (Nat.zero_le _) ?_ ?_
  · cbv
    repeat' first | exact trivial | refine⟨rfl, ?_⟩ | fail
  · intro i hi;cbv;refine Br.dec (fun h2=> ?_) (fun h2=> ?_) <;> cbv
    · have h2:i<h.cabins.length:=by simpa using h2
      have o2:((h.cabins.take i).length+1)*88≤140737488355328:=by rw[List.length_take]; omega
      repeat' first
       | (refine Ob.mk o2 ?_; cbv)
       | (refine Ix.mk h.cabins[i] (by simp) (get_cast h.cabins h2) ?_; cbv)
       | (refine ag.by hP (NM h.cabins[i] (hs.2.2.1.2 _ (List.getElem_mem h2))) ?_; cbv)
       | refine And.intro ?_ ?_
       | fail
      all_goals
       refine Ar.exact (by(try simp only[nc] at *); omega) (by(try simp only[nc] at *); omega) ?_;cbv;refine aO.by (i+1) ?_ ?_ ?_
       · show h.cabins.length - (i+1)<h.cabins.length - i;omega
       · exact h2
       · cbv
         repeat' first | exact trivial | refine⟨rfl, ?_⟩ | refine⟨BD h2, ?_⟩ | fail
    · have h2:h.cabins.length≤i:=by simp at h2; omega
      have e:h.cabins.take i=h.cabins:=List.take_of_length_le h2
      repeat' first | exact trivial | refine⟨rfl, ?_⟩ | refine⟨e, ?_⟩ | fail
end Go.Proofs.YtpklefhdkkegiaaGreat

