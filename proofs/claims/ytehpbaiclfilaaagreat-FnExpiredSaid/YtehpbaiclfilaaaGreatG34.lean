/- Parts of a proof. No conditions. -/

import Derived.Test.YtehpbaiclfilaaaGreatG32
import Derived.Test.YtehpbaiclfilaaaGreatG30
set_option linter.unusedSimpArgs false
set_option linter.unusedVariables false
namespace Go.Proofs.YtehpbaiclfilaaaGreat
open Go
set_option maxRecDepth 100000
theorem wk (h : ai) (k : Int) : (bX h k).length ≤ 10 := by
 unfold bX; split
 · rw [sD, List.length_map]; exact nE _ _
 · exact Nat.zero_le _
structure JG (h : ai) (k : Int) (i j n : Nat) (c : a_) (E : ai) (p : au) : Prop where
 o : bJ E j n p c
 st : p.st = 2
 id : p.id = (bX h k).getD ((i : Int)).toNat default
 at_ : aP E.ae ((bX h k).getD ((i : Int)).toNat default) = (j : Int)
 next : eo ((bX h k).take (i + 1)) h = dK E p
theorem JZ {h : ai} {k : Int} {i : Nat} (hi : i < (bX h k).length) : ∃ j n c, JG h k i j n c (eo ((bX h k).take i) h) ((eo ((bX h k).take i) h).ae.getD ((j : Int)).toNat default) := by
 obtain ⟨n, hk, hn, I⟩ := EV hi;rw [← List.getElem_cons_drop hi] at I;obtain ⟨j, c, o, st, dQ, nF⟩ := I.at_ hn;have gi : (bX h k).getD ((i : Int)).toNat default = (bX h k)[i] := ir hi
 have pe : (eo ((bX h k).take i) h).ae.getD ((j : Int)).toNat default = ca (eo ((bX h k).take i) h) (bX h k)[i] := by
  rw [ca, nF, List.getD_eq_getElem?_getD]
 refine ⟨j, n, c, ?_⟩;rw [pe];exact ⟨o, st, by rw [gi]; exact dQ, by rw [gi]; exact nF, sE hi h⟩
set_option maxHeartbeats 4000000 in
theorem wm (h : ai) (k : Int) (hs : bh h) (x : ai) (hx : x = fI h k) : Spec Tryz.prog 49 [dk h, iA k] (aE (rR fun _ => x)) := by
 have dn := wk h k;refine aH ay Tryz.func49 rfl rfl (fr := true) (fun _ => by kernel_rfl) fun P hP hA => ?_;cbv;refine ag.by hP (mJ h hs) ?_;cbv;refine ag.by hP (nG h k hs (bX h k) rfl) ?_;cbv;refine aT.by (X := Nat) (fun i => [(4, pN 0), (5, pN 1), (12, oN 7), (13, nT fun _ => (bX h k).length), (14, nT fun _ => i)]) (fun i => [(0, .box [.nil, .lf (.int .i64 fun _ => 0), .lf (.int .i64 fun _ => 0), .lf (.int .i64 fun _ => 0), .lf (.int .i64 fun _ => 0), .lf (.int .i64 fun _ => 0), .lf (.int .i64 fun _ => 0), .lf (.int .i64 fun _ => 0), .lf (.int .i64 fun _ => 0), .lf (.int .i64 fun _ => 0), .lf (.int .i64 fun _ => 0), .nil, .nil, .nil, .nil]), (1, .box [.own 2, .lf (.int .i64 fun _ => (eo ((bX h k).take i) h).rules.cm), .lf (.int .i64 fun _ => (eo ((bX h k).take i) h).rules.room), .lf (.int .i64 fun _ => (eo ((bX h k).take i) h).rules.size), .lf (.int .i64 fun _ => (eo ((bX h k).take i) h).rules.period), .lf (.int .i64 fun _ => (eo ((bX h k).take i) h).rules.ck), .lf (.int .i64 fun _ => (eo ((bX h k).take i) h).rules.rest), .lf (.int .i64 fun _ => (eo ((bX h k).take i) h).rules.tries), .lf (.int .i64 fun _ => (eo ((bX h k).take i) h).rules.bP), .lf (.int .i64 fun _ => (eo ((bX h k).take i) h).now), .lf (.int .i64 fun _ => (eo ((bX h k).take i) h).aw), .own 3, .own 4, .own 5, .own 6]), (2, aQ .int fun _ => (eo ((bX h k).take i) h).rules.ah), (3, aQ .az fun _ => (eo ((bX h k).take i) h).ae), (4, aQ .cf fun _ => (eo ((bX h k).take i) h).cabins), (5, aQ .int fun _ => (eo ((bX h k).take i) h).todo), (6, aQ .int fun _ => (eo ((bX h k).take i) h).aN), (7, aQ .int fun _ => bX h k)]) (fun i => i ≤ (bX h k).length) (fun i _ => (bX h k).length - i) 0 (Nat.zero_le _) ?_ ?_
 · cbv
   repeat' first | exact trivial | refine ⟨rfl, ?_⟩ | fail
 · intro i hi
   by_cases h2 : i < (bX h k).length
   · obtain ⟨j, n, c, r⟩ := JZ h2;have oi : 0 ≤ (i : Int) ∧ (i : Int) < ((bX h k).length : Int) := by omega
     cbv;refine Br.dec (fun h3 => ?_) (fun h3 => ?_) <;> cbv
     rotate_left
     · have h3 : (bX h k).length ≤ i := by simp at h3; omega
       omega
     repeat' first
       | exact trivial
       | (refine Ob.mk (oi) ?_; cbv)
       | (refine aB.by hP (Lr (eo ((bX h k).take i) h) r.o.hg.small r.o r.st ((bX h k).getD ((i : Int)).toNat default) r.id (eo ((bX h k).take (i + 1)) h) r.next) ?_; cbv)
       | (refine Pz.mk ?_; cbv) | (refine bu.mk ?_ (by kernel_rfl) ?_; rotate_left; cbv; rotate_right) | refine ⟨rfl, ?_⟩ | refine And.intro ?_ ?_ | exact rfl | fail
     refine Ar.exact (by (try simp only [nc] at *); omega) (by (try simp only [nc] at *); omega) ?_;cbv;refine aJ.by (i + 1) ?_ ?_ ?_
     · show (bX h k).length - (i + 1) < (bX h k).length - i;omega
     · exact h2
     · cbv
       repeat' first | exact trivial | refine ⟨rfl, ?_⟩ | fail
   · have hi : i = (bX h k).length := by omega
     have hx : x = eo ((bX h k).take i) h := by rw [hx, hi, List.take_length]; rfl
     cbv;refine Br.dec (fun h3 => ?_) (fun h3 => ?_) <;> cbv
     · have h3 : i < (bX h k).length := by simpa using h3
       omega
     obtain rfl : x = eo ((bX h k).take i) h := hx
     repeat' first | exact trivial | refine ⟨rfl, ?_⟩ | fail
end Go.Proofs.YtehpbaiclfilaaaGreat

