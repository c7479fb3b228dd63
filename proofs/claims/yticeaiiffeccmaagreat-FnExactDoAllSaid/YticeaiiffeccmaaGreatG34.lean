/- Parts of a proof. No conditions. -/

import Derived.Test.YticeaiiffeccmaaGreatG32
import Derived.Test.YticeaiiffeccmaaGreatG30
set_option linter.unusedSimpArgs false
set_option linter.unusedVariables false
namespace Go.Proofs.YticeaiiffeccmaaGreat
open Go
set_option maxRecDepth 100000
theorem IJ (h : an) (k : Int) : (br h k).length ≤ 10 := by
 unfold br; split
 · rw [rU, List.length_map]; exact Ch _ _
 · exact Nat.zero_le _
structure Ql (h : an) (k : Int) (i j n : Nat) (c : bd) (E : an) (p : aw) : Prop where
 o : cG E j n p c
 st : p.st = 2
 id : p.id = (br h k).getD ((i : Int)).toNat default
 at_ : bw E.ae ((br h k).getD ((i : Int)).toNat default) = (j : Int)
 next : cu ((br h k).take (i + 1)) h = eT E p
theorem IK {h : an} {k : Int} {i : Nat} (hi : i < (br h k).length) : ∃ j n c, Ql h k i j n c (cu ((br h k).take i) h) ((cu ((br h k).take i) h).ae.getD ((j : Int)).toNat default) := by
 obtain ⟨n, hk, hn, I⟩ := PZ hi;rw [← List.getElem_cons_drop hi] at I;obtain ⟨j, c, o, st, lu, r9⟩ := I.at_ hn;have gi : (br h k).getD ((i : Int)).toNat default = (br h k)[i] := qF hi
 have pe : (cu ((br h k).take i) h).ae.getD ((j : Int)).toNat default = fp (cu ((br h k).take i) h) (br h k)[i] := by
  rw [fp, r9, List.getD_eq_getElem?_getD]
 refine ⟨j, n, c, ?_⟩;rw [pe];exact ⟨o, st, by rw [gi]; exact lu, by rw [gi]; exact r9, Is hi h⟩
set_option maxHeartbeats 4000000 in
theorem IL (h : an) (k : Int) (hs : bh h) (x : an) (hx : x = cZ h k) : Spec Tryz.prog 17 [cw h, iA k] (aE (kx fun _ => x)) := by
 have dq := IJ h k;refine ay au Tryz.func17 rfl rfl (fr := true) (fun _ => by kernel_rfl) fun P hP hA => ?_;cbv;refine ag.by hP (iG h hs) ?_;cbv;refine ag.by hP (Px h k hs (br h k) rfl) ?_;cbv;refine aU.by (X := Nat) (fun i => [(4, pN 0), (5, pN 1), (12, oN 7), (13, nT fun _ => (br h k).length), (14, nT fun _ => i)]) (fun i => [(0, .box [.nil, .lf (.int .i64 fun _ => 0), .lf (.int .i64 fun _ => 0), .lf (.int .i64 fun _ => 0), .lf (.int .i64 fun _ => 0), .lf (.int .i64 fun _ => 0), .lf (.int .i64 fun _ => 0), .lf (.int .i64 fun _ => 0), .lf (.int .i64 fun _ => 0), .lf (.int .i64 fun _ => 0), .lf (.int .i64 fun _ => 0), .nil, .nil, .nil, .nil]), (1, .box [.own 2, .lf (.int .i64 fun _ => (cu ((br h k).take i) h).rules.cn), .lf (.int .i64 fun _ => (cu ((br h k).take i) h).rules.room), .lf (.int .i64 fun _ => (cu ((br h k).take i) h).rules.size), .lf (.int .i64 fun _ => (cu ((br h k).take i) h).rules.period), .lf (.int .i64 fun _ => (cu ((br h k).take i) h).rules.cp), .lf (.int .i64 fun _ => (cu ((br h k).take i) h).rules.rest), .lf (.int .i64 fun _ => (cu ((br h k).take i) h).rules.tries), .lf (.int .i64 fun _ => (cu ((br h k).take i) h).rules.cC), .lf (.int .i64 fun _ => (cu ((br h k).take i) h).now), .lf (.int .i64 fun _ => (cu ((br h k).take i) h).aC), .own 3, .own 4, .own 5, .own 6]), (2, aN .int fun _ => (cu ((br h k).take i) h).rules.aj), (3, aN .aG fun _ => (cu ((br h k).take i) h).ae), (4, aN .ah fun _ => (cu ((br h k).take i) h).cabins), (5, aN .int fun _ => (cu ((br h k).take i) h).todo), (6, aN .int fun _ => (cu ((br h k).take i) h).aF), (7, aN .int fun _ => br h k)]) (fun i => i ≤ (br h k).length) (fun i _ => (br h k).length - i) 0 (Nat.zero_le _) ?_ ?_
 · cbv
   repeat' first | exact trivial | refine ⟨rfl, ?_⟩ | fail
 · intro i hi
   by_cases h2 : i < (br h k).length
   · obtain ⟨j, n, c, r⟩ := IK h2;have oi : 0 ≤ (i : Int) ∧ (i : Int) < ((br h k).length : Int) := by omega
     cbv;refine Br.dec (fun h3 => ?_) (fun h3 => ?_) <;> cbv
     rotate_left
     · have h3 : (br h k).length ≤ i := by simp at h3; omega
       omega
     repeat' first
       | exact trivial
       | (refine Ob.mk (oi) ?_; cbv)
       | (refine bB.by hP (II (cu ((br h k).take i) h) r.o.hg.small r.o r.st ((br h k).getD ((i : Int)).toNat default) r.id (cu ((br h k).take (i + 1)) h) r.next) ?_; cbv)
       | (refine Pz.mk ?_; cbv) | (refine bx.mk ?_ (by kernel_rfl) ?_; rotate_left; cbv; rotate_right) | refine ⟨rfl, ?_⟩ | refine And.intro ?_ ?_ | exact rfl | fail
     refine Ar.exact (by (try simp only [nc] at *); omega) (by (try simp only [nc] at *); omega) ?_;cbv;refine aP.by (i + 1) ?_ ?_ ?_
     · show (br h k).length - (i + 1) < (br h k).length - i;omega
     · exact h2
     · cbv
       repeat' first | exact trivial | refine ⟨rfl, ?_⟩ | fail
   · have hi : i = (br h k).length := by omega
     have hx : x = cu ((br h k).take i) h := by rw [hx, hi, List.take_length]; rfl
     cbv;refine Br.dec (fun h3 => ?_) (fun h3 => ?_) <;> cbv
     · have h3 : i < (br h k).length := by simpa using h3
       omega
     obtain rfl : x = cu ((br h k).take i) h := hx
     repeat' first | exact trivial | refine ⟨rfl, ?_⟩ | fail
theorem Qm (h : an) (p : aw) (hr : h.rules.aj.length ≤ bc) (hl : h.ae.length ≤ bc) (dE : 0 ≤ p.ah ∧ p.ah < (h.cabins.length : Int)) (hp : fU (aA h p.ah)) (hf : p.ak = -1 ∨ ∃ f, jV h p f) (x : an) (hx : x = eT h p) : cB Tryz.prog 125 [kD h, eA .aG p] (lg h) (cV (kx fun _ => x) []) := by
 subst hx;exact IH h p hr hl dE hp hf
set_option maxHeartbeats 4000000 in
theorem IM (h : an) (m : Nat) (hs : bh h) (hg : HG h) (hm : m < h.cabins.length) (k : Int) (hk : k = (m : Int)) (x : an) (hx : x = cZ h k) : cB Tryz.prog 67 [kD h, nT fun _ => m] (lg h) (cV (kx fun _ => x) []) := by
 have dq := IJ h k;refine dW au Tryz.func67 rfl rfl (fr := true) (fun _ => by kernel_rfl) rfl rfl fun P hP hA hB => ?_;cbv;refine ag.by hP (Pv h hs m hm (br h k) (by rw [hk]; exact Cz hg (List.getElem?_eq_getElem hm))) ?_;cbv;refine aU.by (X := Nat) (fun i => [(4, pN 0), (2, pN 1), (5, oN 7), (6, nT fun _ => i)]) (fun i => [(0, .box [.nil, .lf (.int .i64 fun _ => 0), .lf (.int .i64 fun _ => 0), .lf (.int .i64 fun _ => 0), .lf (.int .i64 fun _ => 0), .lf (.int .i64 fun _ => 0), .lf (.int .i64 fun _ => 0), .lf (.int .i64 fun _ => 0), .lf (.int .i64 fun _ => 0), .lf (.int .i64 fun _ => 0), .lf (.int .i64 fun _ => 0), .nil, .nil, .nil, .nil]), (1, .box [.own 2, .lf (.int .i64 fun _ => (cu ((br h k).take i) h).rules.cn), .lf (.int .i64 fun _ => (cu ((br h k).take i) h).rules.room), .lf (.int .i64 fun _ => (cu ((br h k).take i) h).rules.size), .lf (.int .i64 fun _ => (cu ((br h k).take i) h).rules.period), .lf (.int .i64 fun _ => (cu ((br h k).take i) h).rules.cp), .lf (.int .i64 fun _ => (cu ((br h k).take i) h).rules.rest), .lf (.int .i64 fun _ => (cu ((br h k).take i) h).rules.tries), .lf (.int .i64 fun _ => (cu ((br h k).take i) h).rules.cC), .lf (.int .i64 fun _ => (cu ((br h k).take i) h).now), .lf (.int .i64 fun _ => (cu ((br h k).take i) h).aC), .own 3, .own 4, .own 5, .own 6]), (2, aN .int fun _ => (cu ((br h k).take i) h).rules.aj), (3, aN .aG fun _ => (cu ((br h k).take i) h).ae), (4, aN .ah fun _ => (cu ((br h k).take i) h).cabins), (5, aN .int fun _ => (cu ((br h k).take i) h).todo), (6, aN .int fun _ => (cu ((br h k).take i) h).aF), (7, aN .int fun _ => br h k)]) (fun i => i ≤ (br h k).length) (fun i _ => (br h k).length - i) 0 (Nat.zero_le _) ?_ ?_
 · cbv
   repeat' first | exact trivial | refine ⟨rfl, ?_⟩ | fail
 · intro i hi
   by_cases h2 : i < (br h k).length
   · obtain ⟨j, n, c, r⟩ := IK h2;have oi : 0 ≤ (i : Int) ∧ (i : Int) < ((br h k).length : Int) := by omega
     obtain ⟨hj, _⟩ := r.o.lt;have oj : 0 ≤ (j : Int) ∧ (j : Int) < ((cu ((br h k).take i) h).ae.length : Int) := by omega
     have sE := r.o.hg.small;cbv;refine Br.dec (fun h3 => ?_) (fun h3 => ?_) <;> cbv
     rotate_left
     · have h3 : (br h k).length ≤ i := by simp at h3; omega
       omega
     repeat' first
       | exact trivial
       | (refine Ob.mk (oi) ?_; cbv)
       | (refine Ob.mk (oj) ?_; cbv)
       | (refine ag.by hP (qq (cu ((br h k).take i) h) ((br h k).getD ((i : Int)).toNat default) (j : Int) r.at_.symm) ?_; cbv)
       | (refine bB.by hP (Qm (cu ((br h k).take i) h) ((cu ((br h k).take i) h).ae.getD ((j : Int)).toNat default) sE.1 sE.2.1 r.o.m9 (by rw [r.o.jB]; exact sE.2.2.1.2 c (List.mem_of_getElem? r.o.hk)) r.o.ak (cu ((br h k).take (i + 1)) h) r.next) ?_; cbv)
       | (refine Pz.mk ?_; cbv) | (refine bx.mk ?_ (by kernel_rfl) ?_; rotate_left; cbv; rotate_right) | refine ⟨rfl, ?_⟩ | refine And.intro ?_ ?_ | exact rfl | fail
     all_goals
       refine Ar.exact (by (try simp only [nc] at *); omega) (by (try simp only [nc] at *); omega) ?_;cbv;refine aP.by (i + 1) ?_ ?_ ?_
       · show (br h k).length - (i + 1) < (br h k).length - i;omega
       · exact h2
       · cbv
         repeat' first | exact trivial | refine ⟨rfl, ?_⟩ | fail
   · have hi : i = (br h k).length := by omega
     have hx : x = cu ((br h k).take i) h := by rw [hx, hi, List.take_length]; rfl
     cbv;refine Br.dec (fun h3 => ?_) (fun h3 => ?_) <;> cbv
     · have h3 : i < (br h k).length := by simpa using h3
       omega
     obtain rfl : x = cu ((br h k).take i) h := hx
     repeat' first | exact trivial | refine ⟨rfl, ?_⟩ | fail
set_option maxHeartbeats 2000000 in
theorem Qn (h : an) (k : Int) (hs : bh h) (x : an) (hx : x = cZ h k) : Spec Tryz.prog 16 [cw h, iA k] (aE (kx fun _ => x)) := by
 by_cases hc : cL h k = true
 · obtain ⟨hg, n, c, hk, rfl⟩ := rW hc;refine ay au Tryz.func16 rfl rfl (fr := true) (fun _ => by kernel_rfl) fun P hP hA => ?_;cbv;refine ag.by hP (gB h hs) ?_;cbv;refine ag.by hP (rM h (n : Int) hs (cL h (n : Int)) rfl) ?_;cbv;refine Br.split (fun k0 => ?_) (fun k0 => ?_) <;> cbv
   · have k0 : (!cL h (n : Int)) = true := k0;rw [hc] at k0; cases k0
   refine bB.by hP (IM h n hs hg (bK hk) (n : Int) rfl x hx) ?_;cbv
   repeat' first | exact trivial | refine ⟨rfl, ?_⟩ | fail
 · have hd : br h k = [] := wh (by simpa using hc);obtain rfl : x = h := hx.trans (by rw [cZ, hd]; rfl);refine ay au Tryz.func16 rfl rfl (fr := true) (fun _ => by kernel_rfl) fun P hP hA => ?_;cbv;refine ag.by hP (gB x hs) ?_;cbv;refine ag.by hP (rM x k hs (cL x k) rfl) ?_;cbv;refine Br.split (fun k0 => ?_) (fun k0 => ?_) <;> cbv
   · repeat' first | exact trivial | refine ⟨rfl, ?_⟩ | fail
   · have k0 : (!cL x k) = false := k0;exact absurd (by simpa using k0) hc
end Go.Proofs.YticeaiiffeccmaaGreat

