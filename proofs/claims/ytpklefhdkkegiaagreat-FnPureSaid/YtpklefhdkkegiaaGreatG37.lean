/- Parts of a proof. No conditions. -/

import Derived.Test.YtpklefhdkkegiaaGreatG35
set_option linter.unusedSimpArgs false
set_option linter.unusedVariables false
namespace Go.Proofs.YtpklefhdkkegiaaGreat
open Go
set_option maxRecDepth 100000
theorem QH {n:Int} {l:List Int} {k:Int} (h1:∀x∈l,aj x 0 (n - 1)=true) (h2:l.Pairwise fun a b=>a≠b) (hk:aj k 0 (n - 1)=true):(∀x∈fj l k,aj x 0 (n - 1)=true)∧(fj l k).Pairwise fun a b=>a≠b:=by
 unfold fj;cases hb:hasB l k with
 | true=>exact⟨h1,h2⟩
 | false=>
   rw[if_neg (by simp)];refine⟨fun x hx=> ?_,List.pairwise_append.2 ⟨h2,List.pairwise_singleton _ _,fun a ha b eE=> ?_⟩⟩
   · rcases List.mem_append.1 hx with q | q
     · exact h1 x q
     · cases List.mem_singleton.1 q; exact hk
   · cases List.mem_singleton.1 eE;have:=List.any_eq_false.1 hb a ha;simpa using this
theorem HG.QI {h:al} (hg:HG h) {l:List Int} (hj:qa h.cabins.length l h.aA):HG {h with todo:=l}:=⟨hg.rules,hg.now,hg.az,hg.dy,hg.iX,hg.ae,hj,hg.bO,hg.ah⟩
theorem HG.put {h:al} (hg:HG h) {k:Int} (hk:0≤k∧k<(h.cabins.length:Int)):HG {h with todo:=fj h.todo k}:=by
 have:=QH hg.aA.todo hg.aA.once (k:=k) (by simp only[aj,Bool.and_eq_true,decide_eq_true_eq]; omega);exact hg.QI ⟨this.1,this.2,hg.aA.aA⟩
theorem QJ {x:bA} (h:aZ x=true) {n:Int} (hn:0≤n∧n≤60) (hh:n≤x.bg - x.tied):bW x n 1 0 (-1) 0=⟨x.total,x.free+n,x.held,x.bg - n,x.tied⟩∧aZ (bW x n 1 0 (-1) 0)=true:=by
 obtain⟨a,b,c,d,e,f⟩:=qu.1 h;have h2:aZ ⟨x.total,x.free+n,x.held,x.bg - n,x.tied⟩=true:=qu.2 ⟨a,by constructor <;> simp only <;> omega,c,by constructor <;> simp only <;> omega,by simp only; omega,by constructor <;> simp only <;> omega⟩
 have e1:bS x n 1 0 (-1) 0=true:=by
  rw[bS,xR,h,h2]; simp[aj,hn.1,hn.2]
 rw[bW,if_pos e1,xR];exact⟨rfl,h2⟩
section
variable {h : al} {i k : Nat} {p : ax} {c : bh}
theorem HG.free (hg:HG h) {c:bh} (hk:h.cabins[k]? = some c) {n:Int} (hn:0≤n∧n≤60) (hl:n≤fx c):HG (oK h (k:Int) n):=by
 have g:=hg.jx hk;have QK:=bD hk;have ld:=QJ g.kD hn hl
 have h1:HG (bU h (k:Int) {c with ai:=bW c.ai n 1 0 (-1) 0}):=by
  refine hg.next rfl rfl rfl hg.dy (qq _ _ _) rfl rfl hg.ae fun j c1 hj=> ?_;have hj:(h.cabins.set ((k:Int)).toNat {c with ai:=bW c.ai n 1 0 (-1) 0})[j]? = some c1:=hj;rw[Int.toNat_natCast,List.getElem?_set] at hj
  by_cases ej:k=j
  · subst ej;rw[if_pos rfl,if_pos QK] at hj;cases hj;refine⟨?_,g.room,ld.2,g.row,g.kG,g.pins, ?_, ?_⟩
    · show(bW c.ai n 1 0 (-1) 0).total=_;rw[ld.1]; exact g.total
    · show(bW c.ai n 1 0 (-1) 0).held=_;rw[ld.1]; exact g.held
    · show(bW c.ai n 1 0 (-1) 0).tied=_;rw[ld.1]; exact g.tied
  · rw[if_neg ej] at hj;exact hg.jx hj
 have e:oK h (k:Int) n = {bU h (k:Int) {c with ai:=bW c.ai n 1 0 (-1) 0} with todo:=fj h.todo (k:Int)}:=by
  rw[oK,IE,nk hk]; rfl
 rw[e];exact h1.put (k:=(k:Int)) (by rw[qq]; omega)
end
theorem HG.build {E:al} (h1:ca E.rules=true) (h2:aj E.now 0 1000000=true) (h3:aj E.az 1 1000001=true) (h4:E.ae.length≤40) (h5:E.cabins.length=E.rules.ai.length) (hp:c_ E.rules E.now E.az E.ae)
  (h6:qa E.cabins.length E.todo E.aA) (h7:((E.aA.length:Nat):Int)=E.rules.bO) (hc:∀(j:Nat) c,E.cabins[j]? = some c→lD E.rules E.now E.ae j c):HG E:=
 ⟨h1,h2,h3,h4,h5,hp,h6,h7,fun j c hj=>lD.at_ h1 hp (hc j c hj)⟩
theorem QL {α:Type} (f:α→Nat) (l:List α) (m:Nat) (q:α):aV f (l.take m++q::l.drop m)=aV f l+f q:=by
 have e:aV f l=aV f (l.take m)+aV f (l.drop m):=by rw[←p8,List.take_append_drop]
 rw[p8,e];show aV f (l.take m)+(f q+aV f (l.drop m))=_;omega
section
variable {h : al} {p : ax} {k : Nat} {c : bh}
theorem QM {l:List ax} {q:ax} (h:bq l q.id<0):gM l q=l.take (putAt l q.id)++q::l.drop (putAt l q.id):=if_neg (by omega)
theorem QN {l:List ax} (hs:l.Pairwise fun a b=>a.id<b.id) {id:Int} (hn:∀z∈l,z.id≠id):(∀z∈l.take (putAt l id),z.id<id)∧∀z∈l.drop (putAt l id),id<z.id:=by
 rcases iC (fun q:ax=>decide (q.id>id)) l with⟨e,hx⟩ | ⟨j,hj,e,e1,hb⟩
 · have e:iY l id = -1:=e;rw[putAt,e,if_pos (by omega),List.take_length,List.drop_length];refine⟨fun z hz=> ?_,fun z hz=>by cases hz⟩;have h1:=of_decide_eq_false (hx z hz);have h2:=hn z hz;omega
 · have e:iY l id=(j:Int):=e;have e1:l[j].id>id:=of_decide_eq_true e1;rw[putAt,e,if_neg (by omega),Int.toNat_natCast];refine⟨fun z hz=> ?_,fun z hz=> ?_⟩
   · obtain⟨m,hm⟩:=List.mem_iff_getElem?.1 hz;rw[List.getElem?_take] at hm
     split at hm
     · rename_i Bp;have h1:=of_decide_eq_false (hb m z Bp hm);have h2:=hn z (List.mem_of_getElem? hm);omega
     · cases hm
   · obtain⟨m,hm⟩:=List.mem_iff_getElem?.1 hz;rw[List.getElem?_drop] at hm;have hl:=bD hm;rw[List.getElem?_eq_getElem hl] at hm;cases hm;rcases Nat.eq_zero_or_pos m with q | q
     · subst q; exact e1
     · have:=(List.pairwise_iff_getElem.1 hs) j (j+m) hj hl (by omega);omega
theorem IL {α:Type} {R:α→α→Prop} {l:List α} (h:l.Pairwise R) {m:Nat} {q:α} (h1:∀x∈l.take m,R x q) (h2:∀x∈l.drop m,R q x):(l.take m++q::l.drop m).Pairwise R:=by
 have h3:(l.take m++l.drop m).Pairwise R:=by rw[List.take_append_drop]; exact h
 obtain⟨a,b,d⟩:=List.pairwise_append.1 h3;refine List.pairwise_append.2 ⟨a,List.pairwise_cons.2 ⟨h2,b⟩,fun x hx y hy=> ?_⟩;rcases List.mem_cons.1 hy with rfl | hy
 · exact h1 x hx
 · exact d x hx y hy
theorem IM {α:Type} {l:List α} {m:Nat} {q z:α}:z∈l.take m++q::l.drop m↔z=q∨z∈l:=by
 have e:z∈l↔z∈l.take m∨z∈l.drop m:=by rw[←List.mem_append,List.take_append_drop]
 rw[List.mem_append,List.mem_cons,e]
 constructor
 · rintro(h | h | h)
   · exact .inr (.inl h)
   · exact .inl h
   · exact .inr (.inr h)
 · rintro(h | h | h)
   · exact .inr (.inl h)
   · exact .inl h
   · exact .inr (.inr h)
theorem kJ.aB (o:kJ h p k c) (hs:p.since=h.now):c_ h.rules h.now (h.az+1) (gM h.ae p)∧(∀z,z∈gM h.ae p↔z=p∨z∈h.ae)∧∀f:ax→Nat,aV f (gM h.ae p)=aV f h.ae+f p:=by
 rw[QM o.new];have pp:=QN o.hg.ae.fg (id:=p.id) fun z hz=>(o.none hz).1;have tk:∀{z},z∈h.ae.take (putAt h.ae p.id)→z∈h.ae:=fun {z} hz=>List.mem_of_mem_take hz;have dp:∀{z},z∈h.ae.drop (putAt h.ae p.id)→z∈h.ae:=fun {z} hz=>List.mem_of_mem_drop hz
 have key:∀z∈h.ae,z.az<p.az∧z.since≤p.since:=fun z hz=>by
   have h1:=o.hg.ae.ok z hz;have h2:=(p6 h1.1).since;rw[o.az,hs];exact⟨h1.2,h2.2⟩
 refine⟨⟨fun z hz=> ?_,IL o.hg.ae.fg pp.1 pp.2,IL o.hg.ae.fair (fun z hz=> ?_) (fun z hz=> ?_)⟩,fun z=>IM,fun f=>QL f _ _ _⟩
 · rcases IM.1 hz with rfl | hz
   · exact⟨o.ok,by rw[o.az]; omega⟩
   · have:=o.hg.ae.ok z hz;exact⟨this.1,by omega⟩
 · have:=key z (tk hz);simp only[fw,Bool.not_eq_true',Bool.or_eq_false_iff,Bool.and_eq_false_iff,beq_eq_false_iff_ne,decide_eq_false_iff_not];omega
 · have:=key z (dp hz);simp only[fw,Bool.not_eq_true',Bool.or_eq_false_iff,Bool.and_eq_false_iff,beq_eq_false_iff_ne,decide_eq_false_iff_not];omega
end
theorem HG.jb (k:Int):∀(n:Nat) {E:al} {ids:List Int},HG E→HG (jb n k E ids).1
 | 0,_,_,h=>h
 | n + 1,E,ids,h=>by
   unfold Go.Proofs.YtpklefhdkkegiaaGreat.jb
   split
   · exact h
   · rename_i hv;exact HG.jb k n (rE hv).2.1
end Go.Proofs.YtpklefhdkkegiaaGreat

