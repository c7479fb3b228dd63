/- Parts of a proof. No conditions. -/

import Derived.Test.YtpklefhdkkegiaaGreatG47
import Derived.Test.YtpklefhdkkegiaaGreatG46
import Derived.Test.YtpklefhdkkegiaaGreatG39
import Derived.Test.YtpklefhdkkegiaaGreatG36
import Derived.Test.YtpklefhdkkegiaaGreatG34
import Derived.Test.YtpklefhdkkegiaaGreatG15
set_option linter.unusedSimpArgs false
set_option linter.unusedVariables false
namespace Go.Proofs.YtpklefhdkkegiaaGreat
open Go
set_option maxRecDepth 100000
theorem MF:∀(qs:List bS) {h:ai},HG h→HG (fg h qs)
 | [],_,hg=>hg
 | q::qs,_,hg=>MF qs (By hg q)
theorem U9 (code:List UInt8) (i:Int) (hi:0≤i∧i≤1000) (hc:code.length≤aN):Spec Tryz.prog 40 [lA .byte code,iA i] (gW Int (fun x=>0≤x∧x≤255) fun x=>iR fun _=>x):=by
 have hc:code.length≤1048576:=hc;refine aF au Tryz.func40 rfl rfl (fr:=true) (fun _=>by kernel_rfl) fun P hP hA=> ?_;cbv;refine Br.dec (fun h=> ?_) (fun h=> ?_) <;> cbv
 · have h:i<(code.length:Int):=h;refine Ix.ex (by omega) (by show i.toNat<code.length; omega) ?_;intro y;cbv;have hy:y.toNat<256:=y.toNat_lt
   repeat' first
     | (refine Pz.mk ?_; cbv)
     | (refine Ar.exact (by show -9223372036854775808≤((y.toNat:Nat):Int); omega) (by show((y.toNat:Nat):Int)≤9223372036854775807; omega) ?_; cbv)
     | fail
   refine⟨((y.toNat:Nat):Int),⟨by omega,by omega⟩, ?_⟩;cbv
   repeat' first | exact trivial | refine⟨rfl, ?_⟩ | fail
 · refine Ar.exact (by show -9223372036854775808≤i*7; omega) (by show i*7≤9223372036854775807; omega) ?_;cbv;refine Ar.exact (by show -9223372036854775808≤i*7+(code.length:Int); omega) (by show i*7+(code.length:Int)≤9223372036854775807; omega) ?_;cbv;refine⟨by decide, ?_⟩;cbv;refine⟨(i*7+(code.length:Int)).tmod 256, ?_, ?_⟩
   · have:=Av (x:=i*7+(code.length:Int)) (n:=256) (by omega) (by decide);have:=mm this (by decide);exact⟨this.1,by omega⟩
   · cbv
     repeat' first | exact trivial | refine⟨rfl, ?_⟩ | fail
theorem U_ (a b:List fw):Spec Tryz.prog 43 [lA .rep a,lA .rep b] (aG (bR fun _=>decide (a=b))):=by
 refine aF au Tryz.func43 rfl rfl (fr:=true) (fun _=>by kernel_rfl) fun P hP hA=> ?_;obtain⟨⟨ha,_⟩,_⟩:=hA;have ha:a.length≤9223372036854775807:=ha;cbv;refine Br.split (fun h1=> ?_) (fun h1=> ?_) <;> cbv
 · refine⟨?_,trivial⟩;have:=m7 (a:=a) (b:=b) h1;simp[this]
 have h1:=m6 (a:=a) (b:=b) h1;refine aR.by (X:=Nat) (fun i=>[(0,lA .rep a),(1,lA .rep b),(5,nT fun _=>i)]) (fun _=>[]) (fun i=>i≤a.length∧a.take i=b.take i) (fun i _=>a.length - i) 0 ⟨Nat.zero_le _,by simp⟩ ?_ ?_
 · cbv
   repeat' first | exact trivial | refine⟨rfl, ?_⟩ | fail
 · intro i ⟨hi,ht⟩;cbv;refine Br.dec (fun h2=> ?_) (fun h2=> ?_) <;> cbv
   · have h2:i<a.length:=by simpa using h2
     have dR:i<b.length:=h1▸h2
     repeat' first
       | (refine Pz.mk ?_; cbv)
       | (refine Ix.mk a[i] (by simp) (get_cast a h2) ?_; cbv)
       | (refine Ix.mk b[i] (by simp) (get_cast b dR) ?_; cbv)
       | (refine af.by hP (Uw a[i] b[i]) ?_; cbv)
       | refine And.intro ?_ ?_
       | fail
     by_cases he:a[i]=b[i]
     · refine Br.no (by show(!decide (a[i]=b[i]))=false; rw[decide_eq_true he]; rfl) ?_;cbv;refine Ar.exact (by(try simp only[nc] at *); omega) (by(try simp only[nc] at *); omega) ?_;cbv;refine aL.by (i+1) ?_ ?_ ?_
       · show a.length - (i+1)<a.length - i;omega
       · exact⟨h2,nO ht h2 dR he⟩
       · cbv
         repeat' first | exact trivial | refine⟨rfl, ?_⟩ | fail
     · refine Br.yes (by show(!decide (a[i]=b[i]))=true; rw[decide_eq_false he]; rfl) ?_;cbv;refine⟨?_,trivial⟩;have:=nP h2 dR he;simp[this]
   · refine⟨?_,trivial⟩;have h2:a.length≤i:=by simp at h2; omega
     simp[nQ h1 h2 ht]
set_option maxHeartbeats 8000000 in
theorem Va (code:List UInt8):bJ Tryz.prog 9 [.c (.own 0)] [(0, .view .byte fun _=>code)] (dx (bR fun _=>true) []):=by
 refine fp au Tryz.func9 rfl rfl (fr:=true) (fun _=>by kernel_rfl) rfl rfl fun P hP hA hB=> ?_;cbv;refine af.by hP (uv code) ?_;cbv;refine Br.dec (fun h0=> ?_) (fun h0=> ?_) <;> cbv
 · repeat' first | exact trivial | refine⟨rfl, ?_⟩ | fail
 have hc:=uu h0;refine aD.ex hP (ME code hc) fun⟨g,L⟩ hg=> ?_;cbv;have hs:a_ g:=(show jM g∧L.length≤40 from hg).1.1;have hL:L.length≤40:=(show jM g∧L.length≤40 from hg).2;refine af.ex hP (U9 code 1 (by omega) hc) fun x hx=> ?_;cbv;have hx:0≤x∧x≤255:=hx;refine Ar.exact (by show -9223372036854775808≤(L.length:Int)+1; omega) (by show(L.length:Int)+1≤9223372036854775807; omega) ?_;cbv;refine⟨by show¬(L.length:Int)+1=0; omega, ?_⟩;cbv
 have hK:0≤x.tmod ((L.length:Int)+1)∧x.tmod ((L.length:Int)+1)≤(L.length:Int):=by
   have:=mm (Av (x:=x) (n:=(L.length:Int)+1) hx.1 (by omega)) (by omega);exact⟨this.1,by omega⟩
 have bg:(1048576:Nat)=aN:=rfl;have Vb:L.length≤aN:=by omega
 have n1:((L.take (x.tmod ((L.length:Int)+1)).toNat).drop (0:Int).toNat).length≤aN:=by
   rw[List.length_drop,List.length_take]; omega
 have n2:((L.take (L.length:Int).toNat).drop (x.tmod ((L.length:Int)+1)).toNat).length≤aN:=by
   rw[List.length_drop,List.length_take]; omega
 have xw:((L.take (x.tmod ((L.length:Int)+1)).toNat).drop (0:Int).toNat)++((L.take (L.length:Int).toNat).drop (x.tmod ((L.length:Int)+1)).toNat)=L:=by
   rw[Int.toNat_natCast,List.take_length];exact List.take_append_drop _ L
 have k1:0≤(0:Int)∧0≤x.tmod ((L.length:Int)+1)∧x.tmod ((L.length:Int)+1)≤(L.length:Int):=⟨Int.le_refl 0,hK⟩;have k2:0≤x.tmod ((L.length:Int)+1)∧x.tmod ((L.length:Int)+1)≤(L.length:Int)∧(L.length:Int)≤(L.length:Int):=⟨hK.1,hK.2,Int.le_refl _⟩;obtain⟨L1,BB⟩:∃l,l=((L.take (x.tmod ((L.length:Int)+1)).toNat).drop (0:Int).toNat):=⟨_,rfl⟩;obtain⟨L2,BC⟩:∃l,l=((L.take (L.length:Int).toNat).drop (x.tmod ((L.length:Int)+1)).toNat):=⟨_,rfl⟩;rw[←BB,←BC] at xw;rw[←BB] at n1;rw[←BC] at n2;obtain⟨A,g_⟩:∃A,A=fg g L:=⟨_,rfl⟩;obtain⟨R,hR⟩:∃R,R=mA g L:=⟨_,rfl⟩;obtain⟨A1,BD⟩:∃A,A=fg g L1:=⟨_,rfl⟩;obtain⟨R1,FW⟩:∃R,R=mA g L1:=⟨_,rfl⟩;have yR:a_ A:=by rw[g_]; exact yP L hs
 have MG:a_ A1:=by rw[BD]; exact yP L1 hs
 obtain⟨T,hT⟩:∃A,A=fg A1 L2:=⟨_,rfl⟩;obtain⟨R2,FX⟩:∃R,R=mA A1 L2:=⟨_,rfl⟩;have Vc:a_ T:=by rw[hT]; exact yP L2 MG
 have eA:T=A:=by rw[hT,BD,g_,←FT,xw]
 have eR:R1++R2=R:=by rw[FW,FX,BD,hR,←FU,xw]
 have lR:R.length=L.length:=by rw[hR,yQ]
 have WR:R1.length≤40:=by rw[FW,yQ,BB,List.length_drop,List.length_take]; omega
 have WS:R2.length≤40:=by rw[FX,yQ,BC,List.length_drop,List.length_take]; omega
 have o1:(([]:List fw).length+R1.length)*32≤140737488355328:=by rw[List.length_nil]; omega
 have o2:((([]:List fw)++R1).length+R2.length)*32≤140737488355328:=by rw[List.nil_append]; omega
 have t1:(((R.length:Nat):Int) != ((L.length:Nat):Int))=false:=by rw[lR]; simp
 have t2:(!decide ((([]:List fw)++R1)++R2=R))=false:=by rw[List.nil_append,decide_eq_true eR]; rfl
 have t3:((((R.map fw.code).length:Nat):Int) != ((L.length:Nat):Int))=false:=by rw[List.length_map,lR]; simp
 obtain⟨b,hb⟩:∃b,b=bU g:=⟨_,rfl⟩;refine af.by hP (FV g L hs Vb A g_ R hR) ?_;cbv;apply fO
 · intro hk
   repeat' first
     | exact trivial
     | (refine Ob.mk (k1) ?_; cbv)
     | (refine af.lg hP (FV g L1 hs n1 A1 BD R1 FW) (by rw[BB]; rfl) ?_; cbv)
     | (refine Pz.mk ?_; cbv) | (refine aW.mk ?_ (by kernel_rfl) ?_; rotate_left; cbv; rotate_right) | refine⟨rfl, ?_⟩ | refine And.intro ?_ ?_ | exact rfl | fail
   all_goals exact hk
 apply fO
 · intro hk
   repeat' first
     | exact trivial
     | (refine Ob.mk (k2) ?_; cbv)
     | (refine af.lg hP (FV A1 L2 MG n2 T hT R2 FX) (by rw[BC]; rfl) ?_; cbv)
     | (refine Pz.mk ?_; cbv) | (refine aW.mk ?_ (by kernel_rfl) ?_; rotate_left; cbv; rotate_right) | refine⟨rfl, ?_⟩ | refine And.intro ?_ ?_ | exact rfl | fail
   all_goals exact hk
 repeat' first
   | exact trivial
   | (refine Pz.mk ?_; cbv)
   | (refine Ob.mk o1 ?_; cbv)
   | (refine Ob.mk o2 ?_; cbv)
   | (refine af.by hP (Uy R (by omega)) ?_; cbv)
   | (refine Br.no t1 ?_; cbv)
   | (refine af.by hP (U_ ((([]:List fw)++R1)++R2) R) ?_; cbv)
   | (refine Br.no t2 ?_; cbv)
   | (refine Br.no t3 ?_; cbv)
   | fail
 apply aR.vD (A:=Int) (fun j=>[(3,pN 3),(6,pN 6),(7,oN 7),(10,pN 10),(13,oN 13),(14,iT fun _=>j)]) (fun j=>(3, .box (np 20 g))::(6, .box (np 25 A))::(7,aH .rep fun _=>R)::(10, .box (np 30 T))::(13,aH .int fun _=>R.map fw.code)::(pK 20 g++(pK 25 A++pK 30 T))) (fun j=>0≤j∧j.toNat≤R.length) (fun j _=>R.length - j.toNat)
 · cbv
   (try dsimp only)
   repeat' first | exact trivial | refine⟨rfl, ?_⟩ | fail
 · exact⟨by omega,Nat.zero_le _⟩
 rintro j ⟨q1,q2⟩
 cbv
 by_cases c1:j.toNat<R.length
 · have cl:(R.map fw.code).length=R.length:=List.length_map _;have c2:j<(((R.map fw.code).length:Nat):Int):=by rw[cl]; omega
   have c3:j<((R.length:Nat):Int):=by omega
   have c4:(j+1).toNat=j.toNat+1:=by omega
   have r1: -9223372036854775808≤j+1:=by omega
   have r2:j+1≤9223372036854775807:=by omega
   obtain⟨y,hy⟩:∃y,R[j.toNat]? = some y:=⟨_,List.getElem?_eq_getElem c1⟩;have gc:(bM .int (fun _=>R.map fw.code) (fun _=>j.toNat) ())=y.code:=qQ rfl (by rw[List.getElem?_map,hy]; rfl);have gr:(bM .rep (fun _=>R) (fun _=>j.toNat) ())=y:=qQ rfl hy;have t4:((bM .int (fun _=>R.map fw.code) (fun _=>j.toNat) ()) != (bM .rep (fun _=>R) (fun _=>j.toNat) ()).code)=false:=by rw[gc,gr]; simp
   repeat' first
     | exact trivial
     | (refine Pz.mk ?_; cbv)
     | (refine Br.yes (decide_eq_true c2) ?_; cbv)
     | (refine Ob.mk ⟨q1,c2⟩ ?_; cbv)
     | (refine Ob.mk ⟨q1,c3⟩ ?_; cbv)
     | (refine Br.no t4 ?_; cbv)
     | (refine Ar.exact (by exact r1) (by exact r2) ?_; cbv)
     | refine And.intro ?_ ?_
     | fail
   any_goals
     apply aL.pz
     · cbv
       (try dsimp only)
       repeat' first | exact trivial | refine⟨rfl, ?_⟩ | fail
     · (try dsimp only)
       exact⟨by omega,by rw[c4]; exact c1⟩
     · (try dsimp only)
       rw[c4]; omega
 · have cl:(R.map fw.code).length=R.length:=List.length_map _;have c2:¬j<(((R.map fw.code).length:Nat):Int):=by rw[cl]; omega
   cases hC:bU g with
   | false=>
     repeat' first
       | exact trivial
       | (refine Pz.mk ?_; cbv)
       | (refine Br.no (decide_eq_false c2) ?_; cbv)
       | (refine af.by hP (kF g hs false hC.symm) ?_; cbv)
       | (refine Br.yes (by first | with_reducible rfl | exact(rfl:(!false)=true)) ?_; cbv)
       | refine⟨rfl, ?_⟩
       | fail
   | true=>
     have hG:=dy.1 hC;have Vd:HG A:=by rw[g_]; exact MF L hG
     have sm:true=iE A T:=by rw[eA,Bz Vd]
     repeat' first
       | exact trivial
       | (refine Pz.mk ?_; cbv)
       | (refine Br.no (decide_eq_false c2) ?_; cbv)
       | (refine af.by hP (kF g hs true hC.symm) ?_; cbv)
       | (refine Br.no (by first | with_reducible rfl | exact(rfl:(!true)=false)) ?_; cbv)
       | (refine af.by hP (ER A T yR Vc true sm) ?_; cbv)
       | refine⟨rfl, ?_⟩
       | fail
theorem Ve (code:List UInt8):Spec Tryz.prog 9 [lA .byte code] (aG (bR fun _=>true)):=Spec.tU (Va code)
end Go.Proofs.YtpklefhdkkegiaaGreat

