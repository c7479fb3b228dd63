/- Parts of a proof. No conditions. -/

import Derived.Test.YticeaiiffeccmaaGreatGKe
import Derived.Test.YticeaiiffeccmaaGreatG14
set_option linter.unusedSimpArgs false
set_option linter.unusedVariables false
namespace Go.Proofs.YticeaiiffeccmaaGreat
open Go
set_option maxRecDepth 100000
theorem vL (w : List (List aB)) (hw : iW w) : Spec Tryz.prog 113 [iU w] (aE (Bd fun _ => w)) := by
 have hl : w.length ≤ 1048576 := hw.1;refine ay au Tryz.func113 rfl rfl (fr := true) (fun _ => by kernel_rfl) fun P hP hA => ?_;cbv;refine aU.by (X := Nat) (fun i => [(2, pN 0), (3, pN 1), (7, lA .bZ w), (8, nT fun _ => w.length), (9, nT fun _ => i)]) (fun i => [(0, .box [.nil]), (1, .box [.own 2]), (2, aN .bZ fun _ => w.take i)]) (fun i => i ≤ w.length) (fun i _ => w.length - i) 0 (Nat.zero_le _) ?_ ?_
 · cbv
   repeat' first | exact trivial | refine ⟨rfl, ?_⟩ | fail
 · intro i hi;cbv;refine Br.dec (fun h2 => ?_) (fun h2 => ?_) <;> cbv
   · have h2 : i < w.length := by simpa using h2
     have hp : w[i].length ≤ 1048576 := hw.2 _ (List.getElem_mem h2);have o1 : (0 + w[i].length) * 16 ≤ 140737488355328 := by omega
     have o2 : ((w.take i).length + 1) * 24 ≤ 140737488355328 := by rw [List.length_take]; omega
     repeat' first
      | (refine Ob.mk o1 ?_; cbv)
      | (refine Ob.mk o2 ?_; cbv)
      | (refine Ix.mk w[i] (by simp) (get_cast w h2) ?_; cbv)
      | refine And.intro ?_ ?_
      | fail
     all_goals
      refine Ar.exact (by (try simp only [nc] at *); omega) (by (try simp only [nc] at *); omega) ?_;cbv;refine aP.by (i + 1) ?_ ?_ ?_
      · show w.length - (i + 1) < w.length - i;omega
      · exact h2
      · cbv
        repeat' first | exact trivial | refine ⟨rfl, ?_⟩ | refine ⟨yo h2, ?_⟩ | fail
   · have h2 : w.length ≤ i := by simp at h2; omega
     have e : w.take i = w := List.take_of_length_le h2
     repeat' first | exact trivial | refine ⟨rfl, ?_⟩ | refine ⟨e, ?_⟩ | fail
theorem yp (w : List (List aB)) (hw : iW w) : Spec Tryz.prog 163 [iU w] (aE (Bd fun _ => w)) := by
 have hl : w.length ≤ 1048576 := hw.1;refine ay au Tryz.func163 rfl rfl (fr := true) (fun _ => by kernel_rfl) fun P hP hA => ?_;cbv;refine aU.by (X := Nat) (fun i => [(1, pN 0), (2, pN 1), (3, pN 2), (4, nT fun _ => i)]) (fun i => [(0, .box [.lf (.list .bZ fun _ => w)]), (1, .box [.nil]), (2, .box [.own 3]), (3, aN .bZ fun _ => w.take i)]) (fun i => i ≤ w.length) (fun i _ => w.length - i) 0 (Nat.zero_le _) ?_ ?_
 · cbv
   repeat' first | exact trivial | refine ⟨rfl, ?_⟩ | fail
 · intro i hi;cbv;refine Br.dec (fun h2 => ?_) (fun h2 => ?_) <;> cbv
   · have h2 : i < w.length := by simpa using h2
     have hp : w[i].length ≤ 1048576 := hw.2 _ (List.getElem_mem h2);have o1 : (0 + w[i].length) * 16 ≤ 140737488355328 := by omega
     have o2 : ((w.take i).length + 1) * 24 ≤ 140737488355328 := by rw [List.length_take]; omega
     repeat' first
      | (refine Ob.mk o1 ?_; cbv)
      | (refine Ob.mk o2 ?_; cbv)
      | (refine Ix.mk w[i] (by simp) (get_cast w h2) ?_; cbv)
      | refine And.intro ?_ ?_
      | fail
     all_goals
      refine Ar.exact (by (try simp only [nc] at *); omega) (by (try simp only [nc] at *); omega) ?_;cbv;refine aP.by (i + 1) ?_ ?_ ?_
      · show w.length - (i + 1) < w.length - i;omega
      · exact h2
      · cbv
        repeat' first | exact trivial | refine ⟨rfl, ?_⟩ | refine ⟨yo h2, ?_⟩ | fail
   · have h2 : w.length ≤ i := by simp at h2; omega
     have e : w.take i = w := List.take_of_length_le h2
     repeat' first | exact trivial | refine ⟨rfl, ?_⟩ | refine ⟨e, ?_⟩ | fail
theorem Ow (c : bd) (hs : fU c) : Spec Tryz.prog 100 [eA .ah c] (aE (eR .ah fun _ => c)) := by
 refine ay au Tryz.func100 rfl rfl (fr := true) (fun _ => by kernel_rfl) fun P hP hA => ?_;cbv
 repeat' first
  | exact trivial
  | (refine ag.by hP (vK c.row hs.1) ?_; cbv)
  | (refine ag.by hP (vL c.spoke hs.2) ?_; cbv)
  | refine ⟨rfl, ?_⟩
  | refine And.intro ?_ ?_
  | fail
theorem Ox (c : bd) (hs : fU c) : Spec Tryz.prog 87 [eA .ah c] (aE (eR .ah fun _ => c)) := by
 refine ay au Tryz.func87 rfl rfl (fr := true) (fun _ => by kernel_rfl) fun P hP hA => ?_;cbv
 repeat' first
  | exact trivial
  | (refine ag.by hP (vB c.row hs.1) ?_; cbv)
  | (refine ag.by hP (yp c.spoke hs.2) ?_; cbv)
  | refine ⟨rfl, ?_⟩
  | refine And.intro ?_ ?_
  | fail
def cJ (l : bA) (n df dh ds dt : Int) : bA := ⟨l.total, l.free + df * n, l.held + dh * n, l.bn + ds * n, l.tied + dt * n⟩
def bE (l : bA) (n df dh ds dt : Int) : Bool := a_ l && (aq n 0 60 && a_ (cJ l n df dh ds dt))
def bW (l : bA) (n df dh ds dt : Int) : bA := if bE l n df dh ds dt = true then cJ l n df dh ds dt else l
structure vM (d : Int) : Prop where
 lo : -1 ≤ d
 hi : d ≤ 1
theorem yq {d n : Int} (h : vM d) (hn : 0 ≤ n ∧ n ≤ 60) : -60 ≤ d * n ∧ d * n ≤ 60 := by
 have a := h.lo;have b := h.hi;rcases (by omega : d = -1 ∨ d = 0 ∨ d = 1) with e | e | e <;> subst e <;> omega
theorem gX {l : bA} {n df dh ds dt : Int} {x : bA} {b : Bool} (hx : x = bW l n df dh ds dt) (hb : b = bE l n df dh ds dt) (e : bE l n df dh ds dt = false) : x = l ∧ b = false :=
 ⟨hx.trans (if_neg (by rw [e]; simp)), hb.trans e⟩
set_option maxHeartbeats 1000000 in
theorem tL (l : bA) (n df dh ds dt : Int) (h1 : vM df) (h2 : vM dh) (h3 : vM ds) (h4 : vM dt) (x : bA) (hx : x = bW l n df dh ds dt) (b : Bool) (hb : b = bE l n df dh ds dt) :
   Spec Tryz.prog 171 [fY l, iA n, iA df, iA dh, iA ds, iA dt] (aE (.aT [(true, il fun _ => x), (false, [.bool fun _ => b])])) := by
 refine ay au Tryz.func171 rfl rfl (fr := true) (fun _ => by kernel_rfl) fun P hP hA => ?_;cbv;refine ag.by hP (Bg l (a_ l) rfl) ?_;cbv;refine Br.split (fun k0 => ?_) (fun k0 => ?_) <;> cbv
 · have k0 : (!a_ l) = true := k0;have k0 : a_ l = false := by simpa using k0
   have e := gX hx hb (by rw [bE, k0]; rfl);obtain rfl : x = l := e.1;obtain rfl : b = false := e.2
   repeat' first | exact trivial | refine ⟨rfl, ?_⟩ | fail
 have k0 : (!a_ l) = false := k0;have k0 : a_ l = true := by simpa using k0
 refine ag.by hP (da n 0 60) ?_;cbv;refine Br.split (fun k1 => ?_) (fun k1 => ?_) <;> cbv
 · have k1 : (!aq n 0 60) = true := k1;have k1 : aq n 0 60 = false := by simpa using k1
   have e := gX hx hb (by rw [bE, k0, k1]; rfl);obtain rfl : x = l := e.1;obtain rfl : b = false := e.2
   repeat' first | exact trivial | refine ⟨rfl, ?_⟩ | fail
 have k1 : (!aq n 0 60) = false := k1;have k1 : aq n 0 60 = true := by simpa using k1
 have hn := bO k1;have hg := o7 k0;have g1 := hg.total;have g2 := hg.free;have g3 := hg.held;have g4 := hg.bn;have g5 := hg.tied;have m1 := yq h1 hn;have m2 := yq h2 hn;have m3 := yq h3 hn;have m4 := yq h4 hn
 repeat (refine Ar.exact (by omega) (by omega) ?_; cbv)
 refine ag.by hP (Bg (cJ l n df dh ds dt) (a_ (cJ l n df dh ds dt)) rfl) ?_;cbv;refine Br.split (fun k2 => ?_) (fun k2 => ?_) <;> cbv
 · have k2 : (!a_ (cJ l n df dh ds dt)) = true := k2;have k2 : a_ (cJ l n df dh ds dt) = false := by simpa using k2
   have e := gX hx hb (by rw [bE, k0, k1, k2]; rfl);obtain rfl : x = l := e.1;obtain rfl : b = false := e.2
   repeat' first | exact trivial | refine ⟨rfl, ?_⟩ | fail
 have k2 : (!a_ (cJ l n df dh ds dt)) = false := k2;have k2 : a_ (cJ l n df dh ds dt) = true := by simpa using k2
 have e : bE l n df dh ds dt = true := by rw [bE, k0, k1, k2]; rfl
 obtain rfl : x = cJ l n df dh ds dt := hx.trans (if_pos e);obtain rfl : b = true := hb.trans e
 repeat' first | exact trivial | refine ⟨rfl, ?_⟩ | fail
theorem yr (l : bA) (n : Int) : cJ l n (-1) 1 0 0 = ⟨l.total, l.free - n, l.held + n, l.bn, l.tied⟩ := by
 unfold cJ; congr 1 <;> omega
theorem Oy (l : bA) (n : Int) (x : bA) (hx : x = bW l n (-1) 1 0 0) (b : Bool) (hb : b = bE l n (-1) 1 0 0) : Spec Tryz.prog 93 [fY l, iA n] (aE (.aT [(true, il fun _ => x), (false, [.bool fun _ => b])])) := by
 refine ay au Tryz.func93 rfl rfl (fr := true) (fun _ => by kernel_rfl) fun P hP hA => ?_;cbv;refine ag.by hP (tL l n (-1) 1 0 0 ⟨by omega, by omega⟩ ⟨by omega, by omega⟩ ⟨by omega, by omega⟩ ⟨by omega, by omega⟩ x hx b hb) ?_;cbv
 repeat' first | exact trivial | refine ⟨rfl, ?_⟩ | fail
theorem Oz (l : bA) (n : Int) (hl : a_ l = true) (hn : 0 ≤ n ∧ n ≤ 60) : cB Tryz.prog 106 [.c (.ptr 0 0), .c (.b0 [.int .i64 fun _ => n] 0)] [(0, .box [.lf (.int .i64 fun _ => l.total), .lf (.int .i64 fun _ => l.free), .lf (.int .i64 fun _ => l.held), .lf (.int .i64 fun _ => l.bn), .lf (.int .i64 fun _ => l.tied)])]
  (cV (.aT []) [(0, .box [.int .i64 fun _ => l.total, .int .i64 fun _ => l.free - n, .int .i64 fun _ => l.held + n, .int .i64 fun _ => l.bn, .int .i64 fun _ => l.tied])]) := by
 have hg := o7 hl;have g1 := hg.total;have g2 := hg.free;have g3 := hg.held;have g4 := hg.bn;have g5 := hg.tied;refine dW au Tryz.func106 rfl rfl (fr := true) (fun _ => by kernel_rfl) rfl rfl fun P hP hA hB => ?_;cbv
 repeat (refine Ar.exact (by omega) (by omega) ?_; cbv)
 repeat' first | exact trivial | refine ⟨rfl, ?_⟩ | fail
set_option maxHeartbeats 1000000 in
theorem OA (l : bA) (n : Int) (x : bA) (hx : x = bW l n (-1) 1 0 0) (b : Bool) (hb : b = bE l n (-1) 1 0 0) :
   Spec Tryz.prog 105 [fY l, iA n, .c (.fn 106 [.b0 [.int .i64 fun _ => n] 0])] (aE (.aT [(true, il fun _ => x), (false, [.bool fun _ => b])])) := by
 refine ay au Tryz.func105 rfl rfl (fr := true) (fun _ => by kernel_rfl) fun P hP hA => ?_;cbv;refine ag.by hP (k9 l (a_ l) rfl) ?_;cbv;refine Br.split (fun k0 => ?_) (fun k0 => ?_) <;> cbv
 · have k0 : (!a_ l) = true := k0;have k0 : a_ l = false := by simpa using k0
   have e := gX hx hb (by rw [bE, k0]; rfl);obtain rfl : x = l := e.1;obtain rfl : b = false := e.2
   repeat' first | exact trivial | refine ⟨rfl, ?_⟩ | fail
 have k0 : (!a_ l) = false := k0;have k0 : a_ l = true := by simpa using k0
 refine ag.by hP (cW n 0 60) ?_;cbv;refine Br.split (fun k1 => ?_) (fun k1 => ?_) <;> cbv
 · have k1 : (!aq n 0 60) = true := k1;have k1 : aq n 0 60 = false := by simpa using k1
   have e := gX hx hb (by rw [bE, k0, k1]; rfl);obtain rfl : x = l := e.1;obtain rfl : b = false := e.2
   repeat' first | exact trivial | refine ⟨rfl, ?_⟩ | fail
 have k1 : (!aq n 0 60) = false := k1;have k1 : aq n 0 60 = true := by simpa using k1
 refine bB.by hP (Oz l n k0 (bO k1)) ?_;cbv;refine ag.by hP (k9 (⟨l.total, l.free - n, l.held + n, l.bn, l.tied⟩ : bA) (a_ (cJ l n (-1) 1 0 0)) (by rw [yr])) ?_;cbv;refine Br.split (fun k2 => ?_) (fun k2 => ?_) <;> cbv
 · have k2 : (!a_ (cJ l n (-1) 1 0 0)) = true := k2;have k2 : a_ (cJ l n (-1) 1 0 0) = false := by simpa using k2
   have e := gX hx hb (by rw [bE, k0, k1, k2]; rfl);obtain rfl : x = l := e.1;obtain rfl : b = false := e.2
   repeat' first | exact trivial | refine ⟨rfl, ?_⟩ | fail
 have k2 : (!a_ (cJ l n (-1) 1 0 0)) = false := k2;have k2 : a_ (cJ l n (-1) 1 0 0) = true := by simpa using k2
 have e : bE l n (-1) 1 0 0 = true := by rw [bE, k0, k1, k2]; rfl
 obtain rfl : x = (⟨l.total, l.free - n, l.held + n, l.bn, l.tied⟩ : bA) := hx.trans ((if_pos e).trans (yr l n));obtain rfl : b = true := hb.trans e
 repeat' first | exact trivial | refine ⟨rfl, ?_⟩ | fail
theorem OB (l : bA) (n : Int) (x : bA) (hx : x = bW l n (-1) 1 0 0) (b : Bool) (hb : b = bE l n (-1) 1 0 0) : Spec Tryz.prog 54 [fY l, iA n] (aE (.aT [(true, il fun _ => x), (false, [.bool fun _ => b])])) := by
 refine ay au Tryz.func54 rfl rfl (fr := true) (fun _ => by kernel_rfl) fun P hP hA => ?_;cbv;refine ag.by hP (OA l n x hx b hb) ?_;cbv
 repeat' first | exact trivial | refine ⟨rfl, ?_⟩ | fail
theorem yt (l : bA) (n : Int) : cJ l n 1 (-1) 0 0 = ⟨l.total, l.free + n, l.held - n, l.bn, l.tied⟩ := by
 unfold cJ; congr 1 <;> omega
theorem OC (l : bA) (n : Int) (x : bA) (hx : x = bW l n 1 (-1) 0 0) (b : Bool) (hb : b = bE l n 1 (-1) 0 0) : Spec Tryz.prog 215 [fY l, iA n] (aE (.aT [(true, il fun _ => x), (false, [.bool fun _ => b])])) := by
 refine ay au Tryz.func215 rfl rfl (fr := true) (fun _ => by kernel_rfl) fun P hP hA => ?_;cbv;refine ag.by hP (tL l n 1 (-1) 0 0 ⟨by omega, by omega⟩ ⟨by omega, by omega⟩ ⟨by omega, by omega⟩ ⟨by omega, by omega⟩ x hx b hb) ?_;cbv
 repeat' first | exact trivial | refine ⟨rfl, ?_⟩ | fail
theorem OD (l : bA) (n : Int) (hl : a_ l = true) (hn : 0 ≤ n ∧ n ≤ 60) : cB Tryz.prog 197 [.c (.ptr 0 0), .c (.b0 [.int .i64 fun _ => n] 0)] [(0, .box [.lf (.int .i64 fun _ => l.total), .lf (.int .i64 fun _ => l.free), .lf (.int .i64 fun _ => l.held), .lf (.int .i64 fun _ => l.bn), .lf (.int .i64 fun _ => l.tied)])]
  (cV (.aT []) [(0, .box [.int .i64 fun _ => l.total, .int .i64 fun _ => l.free + n, .int .i64 fun _ => l.held - n, .int .i64 fun _ => l.bn, .int .i64 fun _ => l.tied])]) := by
 have hg := o7 hl;have g1 := hg.total;have g2 := hg.free;have g3 := hg.held;have g4 := hg.bn;have g5 := hg.tied;refine dW au Tryz.func197 rfl rfl (fr := true) (fun _ => by kernel_rfl) rfl rfl fun P hP hA hB => ?_;cbv
 repeat (refine Ar.exact (by omega) (by omega) ?_; cbv)
 repeat' first | exact trivial | refine ⟨rfl, ?_⟩ | fail
set_option maxHeartbeats 1000000 in
theorem OE (l : bA) (n : Int) (x : bA) (hx : x = bW l n 1 (-1) 0 0) (b : Bool) (hb : b = bE l n 1 (-1) 0 0) :
   Spec Tryz.prog 105 [fY l, iA n, .c (.fn 197 [.b0 [.int .i64 fun _ => n] 0])] (aE (.aT [(true, il fun _ => x), (false, [.bool fun _ => b])])) := by
 refine ay au Tryz.func105 rfl rfl (fr := true) (fun _ => by kernel_rfl) fun P hP hA => ?_;cbv;refine ag.by hP (k9 l (a_ l) rfl) ?_;cbv;refine Br.split (fun k0 => ?_) (fun k0 => ?_) <;> cbv
 · have k0 : (!a_ l) = true := k0;have k0 : a_ l = false := by simpa using k0
   have e := gX hx hb (by rw [bE, k0]; rfl);obtain rfl : x = l := e.1;obtain rfl : b = false := e.2
   repeat' first | exact trivial | refine ⟨rfl, ?_⟩ | fail
 have k0 : (!a_ l) = false := k0;have k0 : a_ l = true := by simpa using k0
 refine ag.by hP (cW n 0 60) ?_;cbv;refine Br.split (fun k1 => ?_) (fun k1 => ?_) <;> cbv
 · have k1 : (!aq n 0 60) = true := k1;have k1 : aq n 0 60 = false := by simpa using k1
   have e := gX hx hb (by rw [bE, k0, k1]; rfl);obtain rfl : x = l := e.1;obtain rfl : b = false := e.2
   repeat' first | exact trivial | refine ⟨rfl, ?_⟩ | fail
 have k1 : (!aq n 0 60) = false := k1;have k1 : aq n 0 60 = true := by simpa using k1
 refine bB.by hP (OD l n k0 (bO k1)) ?_;cbv;refine ag.by hP (k9 (⟨l.total, l.free + n, l.held - n, l.bn, l.tied⟩ : bA) (a_ (cJ l n 1 (-1) 0 0)) (by rw [yt])) ?_;cbv;refine Br.split (fun k2 => ?_) (fun k2 => ?_) <;> cbv
 · have k2 : (!a_ (cJ l n 1 (-1) 0 0)) = true := k2;have k2 : a_ (cJ l n 1 (-1) 0 0) = false := by simpa using k2
   have e := gX hx hb (by rw [bE, k0, k1, k2]; rfl);obtain rfl : x = l := e.1;obtain rfl : b = false := e.2
   repeat' first | exact trivial | refine ⟨rfl, ?_⟩ | fail
 have k2 : (!a_ (cJ l n 1 (-1) 0 0)) = false := k2;have k2 : a_ (cJ l n 1 (-1) 0 0) = true := by simpa using k2
 have e : bE l n 1 (-1) 0 0 = true := by rw [bE, k0, k1, k2]; rfl
 obtain rfl : x = (⟨l.total, l.free + n, l.held - n, l.bn, l.tied⟩ : bA) := hx.trans ((if_pos e).trans (yt l n));obtain rfl : b = true := hb.trans e
 repeat' first | exact trivial | refine ⟨rfl, ?_⟩ | fail
theorem BM (l : bA) (n : Int) (x : bA) (hx : x = bW l n 1 (-1) 0 0) (b : Bool) (hb : b = bE l n 1 (-1) 0 0) : Spec Tryz.prog 127 [fY l, iA n] (aE (.aT [(true, il fun _ => x), (false, [.bool fun _ => b])])) := by
 refine ay au Tryz.func127 rfl rfl (fr := true) (fun _ => by kernel_rfl) fun P hP hA => ?_;cbv;refine ag.by hP (OE l n x hx b hb) ?_;cbv
 repeat' first | exact trivial | refine ⟨rfl, ?_⟩ | fail
theorem Hg (l : bA) (n : Int) : cJ l n 0 (-1) 1 0 = ⟨l.total, l.free, l.held - n, l.bn + n, l.tied⟩ := by
 unfold cJ; congr 1 <;> omega
theorem OF (l : bA) (n : Int) (x : bA) (hx : x = bW l n 0 (-1) 1 0) (b : Bool) (hb : b = bE l n 0 (-1) 1 0) : Spec Tryz.prog 151 [fY l, iA n] (aE (.aT [(true, il fun _ => x), (false, [.bool fun _ => b])])) := by
 refine ay au Tryz.func151 rfl rfl (fr := true) (fun _ => by kernel_rfl) fun P hP hA => ?_;cbv;refine ag.by hP (tL l n 0 (-1) 1 0 ⟨by omega, by omega⟩ ⟨by omega, by omega⟩ ⟨by omega, by omega⟩ ⟨by omega, by omega⟩ x hx b hb) ?_;cbv
 repeat' first | exact trivial | refine ⟨rfl, ?_⟩ | fail
theorem OG (l : bA) (n : Int) (hl : a_ l = true) (hn : 0 ≤ n ∧ n ≤ 60) : cB Tryz.prog 221 [.c (.ptr 0 0), .c (.b0 [.int .i64 fun _ => n] 0)] [(0, .box [.lf (.int .i64 fun _ => l.total), .lf (.int .i64 fun _ => l.free), .lf (.int .i64 fun _ => l.held), .lf (.int .i64 fun _ => l.bn), .lf (.int .i64 fun _ => l.tied)])]
  (cV (.aT []) [(0, .box [.int .i64 fun _ => l.total, .int .i64 fun _ => l.free, .int .i64 fun _ => l.held - n, .int .i64 fun _ => l.bn + n, .int .i64 fun _ => l.tied])]) := by
 have hg := o7 hl;have g1 := hg.total;have g2 := hg.free;have g3 := hg.held;have g4 := hg.bn;have g5 := hg.tied;refine dW au Tryz.func221 rfl rfl (fr := true) (fun _ => by kernel_rfl) rfl rfl fun P hP hA hB => ?_;cbv
 repeat (refine Ar.exact (by omega) (by omega) ?_; cbv)
 repeat' first | exact trivial | refine ⟨rfl, ?_⟩ | fail
set_option maxHeartbeats 1000000 in
theorem OH (l : bA) (n : Int) (x : bA) (hx : x = bW l n 0 (-1) 1 0) (b : Bool) (hb : b = bE l n 0 (-1) 1 0) :
   Spec Tryz.prog 105 [fY l, iA n, .c (.fn 221 [.b0 [.int .i64 fun _ => n] 0])] (aE (.aT [(true, il fun _ => x), (false, [.bool fun _ => b])])) := by
 refine ay au Tryz.func105 rfl rfl (fr := true) (fun _ => by kernel_rfl) fun P hP hA => ?_;cbv;refine ag.by hP (k9 l (a_ l) rfl) ?_;cbv;refine Br.split (fun k0 => ?_) (fun k0 => ?_) <;> cbv
 · have k0 : (!a_ l) = true := k0;have k0 : a_ l = false := by simpa using k0
   have e := gX hx hb (by rw [bE, k0]; rfl);obtain rfl : x = l := e.1;obtain rfl : b = false := e.2
   repeat' first | exact trivial | refine ⟨rfl, ?_⟩ | fail
 have k0 : (!a_ l) = false := k0;have k0 : a_ l = true := by simpa using k0
 refine ag.by hP (cW n 0 60) ?_;cbv;refine Br.split (fun k1 => ?_) (fun k1 => ?_) <;> cbv
 · have k1 : (!aq n 0 60) = true := k1;have k1 : aq n 0 60 = false := by simpa using k1
   have e := gX hx hb (by rw [bE, k0, k1]; rfl);obtain rfl : x = l := e.1;obtain rfl : b = false := e.2
   repeat' first | exact trivial | refine ⟨rfl, ?_⟩ | fail
 have k1 : (!aq n 0 60) = false := k1;have k1 : aq n 0 60 = true := by simpa using k1
 refine bB.by hP (OG l n k0 (bO k1)) ?_;cbv;refine ag.by hP (k9 (⟨l.total, l.free, l.held - n, l.bn + n, l.tied⟩ : bA) (a_ (cJ l n 0 (-1) 1 0)) (by rw [Hg])) ?_;cbv;refine Br.split (fun k2 => ?_) (fun k2 => ?_) <;> cbv
 · have k2 : (!a_ (cJ l n 0 (-1) 1 0)) = true := k2;have k2 : a_ (cJ l n 0 (-1) 1 0) = false := by simpa using k2
   have e := gX hx hb (by rw [bE, k0, k1, k2]; rfl);obtain rfl : x = l := e.1;obtain rfl : b = false := e.2
   repeat' first | exact trivial | refine ⟨rfl, ?_⟩ | fail
 have k2 : (!a_ (cJ l n 0 (-1) 1 0)) = false := k2;have k2 : a_ (cJ l n 0 (-1) 1 0) = true := by simpa using k2
 have e : bE l n 0 (-1) 1 0 = true := by rw [bE, k0, k1, k2]; rfl
 obtain rfl : x = (⟨l.total, l.free, l.held - n, l.bn + n, l.tied⟩ : bA) := hx.trans ((if_pos e).trans (Hg l n));obtain rfl : b = true := hb.trans e
 repeat' first | exact trivial | refine ⟨rfl, ?_⟩ | fail
theorem OI (l : bA) (n : Int) (x : bA) (hx : x = bW l n 0 (-1) 1 0) (b : Bool) (hb : b = bE l n 0 (-1) 1 0) : Spec Tryz.prog 158 [fY l, iA n] (aE (.aT [(true, il fun _ => x), (false, [.bool fun _ => b])])) := by
 refine ay au Tryz.func158 rfl rfl (fr := true) (fun _ => by kernel_rfl) fun P hP hA => ?_;cbv;refine ag.by hP (OH l n x hx b hb) ?_;cbv
 repeat' first | exact trivial | refine ⟨rfl, ?_⟩ | fail
theorem Hh (l : bA) (n : Int) : cJ l n 1 0 (-1) 0 = ⟨l.total, l.free + n, l.held, l.bn - n, l.tied⟩ := by
 unfold cJ; congr 1 <;> omega
theorem Hi (l : bA) (n : Int) (x : bA) (hx : x = bW l n 1 0 (-1) 0) (b : Bool) (hb : b = bE l n 1 0 (-1) 0) : Spec Tryz.prog 218 [fY l, iA n] (aE (.aT [(true, il fun _ => x), (false, [.bool fun _ => b])])) := by
 refine ay au Tryz.func218 rfl rfl (fr := true) (fun _ => by kernel_rfl) fun P hP hA => ?_;cbv;refine ag.by hP (tL l n 1 0 (-1) 0 ⟨by omega, by omega⟩ ⟨by omega, by omega⟩ ⟨by omega, by omega⟩ ⟨by omega, by omega⟩ x hx b hb) ?_;cbv
 repeat' first | exact trivial | refine ⟨rfl, ?_⟩ | fail
theorem OJ (l : bA) (n : Int) (hl : a_ l = true) (hn : 0 ≤ n ∧ n ≤ 60) : cB Tryz.prog 220 [.c (.ptr 0 0), .c (.b0 [.int .i64 fun _ => n] 0)] [(0, .box [.lf (.int .i64 fun _ => l.total), .lf (.int .i64 fun _ => l.free), .lf (.int .i64 fun _ => l.held), .lf (.int .i64 fun _ => l.bn), .lf (.int .i64 fun _ => l.tied)])]
  (cV (.aT []) [(0, .box [.int .i64 fun _ => l.total, .int .i64 fun _ => l.free + n, .int .i64 fun _ => l.held, .int .i64 fun _ => l.bn - n, .int .i64 fun _ => l.tied])]) := by
 have hg := o7 hl;have g1 := hg.total;have g2 := hg.free;have g3 := hg.held;have g4 := hg.bn;have g5 := hg.tied;refine dW au Tryz.func220 rfl rfl (fr := true) (fun _ => by kernel_rfl) rfl rfl fun P hP hA hB => ?_;cbv
 repeat (refine Ar.exact (by omega) (by omega) ?_; cbv)
 repeat' first | exact trivial | refine ⟨rfl, ?_⟩ | fail
set_option maxHeartbeats 1000000 in
theorem OK (l : bA) (n : Int) (x : bA) (hx : x = bW l n 1 0 (-1) 0) (b : Bool) (hb : b = bE l n 1 0 (-1) 0) :
   Spec Tryz.prog 105 [fY l, iA n, .c (.fn 220 [.b0 [.int .i64 fun _ => n] 0])] (aE (.aT [(true, il fun _ => x), (false, [.bool fun _ => b])])) := by
 refine ay au Tryz.func105 rfl rfl (fr := true) (fun _ => by kernel_rfl) fun P hP hA => ?_;cbv;refine ag.by hP (k9 l (a_ l) rfl) ?_;cbv;refine Br.split (fun k0 => ?_) (fun k0 => ?_) <;> cbv
 · have k0 : (!a_ l) = true := k0;have k0 : a_ l = false := by simpa using k0
   have e := gX hx hb (by rw [bE, k0]; rfl);obtain rfl : x = l := e.1;obtain rfl : b = false := e.2
   repeat' first | exact trivial | refine ⟨rfl, ?_⟩ | fail
 have k0 : (!a_ l) = false := k0;have k0 : a_ l = true := by simpa using k0
 refine ag.by hP (cW n 0 60) ?_;cbv;refine Br.split (fun k1 => ?_) (fun k1 => ?_) <;> cbv
 · have k1 : (!aq n 0 60) = true := k1;have k1 : aq n 0 60 = false := by simpa using k1
   have e := gX hx hb (by rw [bE, k0, k1]; rfl);obtain rfl : x = l := e.1;obtain rfl : b = false := e.2
   repeat' first | exact trivial | refine ⟨rfl, ?_⟩ | fail
 have k1 : (!aq n 0 60) = false := k1;have k1 : aq n 0 60 = true := by simpa using k1
 refine bB.by hP (OJ l n k0 (bO k1)) ?_;cbv;refine ag.by hP (k9 (⟨l.total, l.free + n, l.held, l.bn - n, l.tied⟩ : bA) (a_ (cJ l n 1 0 (-1) 0)) (by rw [Hh])) ?_;cbv;refine Br.split (fun k2 => ?_) (fun k2 => ?_) <;> cbv
 · have k2 : (!a_ (cJ l n 1 0 (-1) 0)) = true := k2;have k2 : a_ (cJ l n 1 0 (-1) 0) = false := by simpa using k2
   have e := gX hx hb (by rw [bE, k0, k1, k2]; rfl);obtain rfl : x = l := e.1;obtain rfl : b = false := e.2
   repeat' first | exact trivial | refine ⟨rfl, ?_⟩ | fail
 have k2 : (!a_ (cJ l n 1 0 (-1) 0)) = false := k2;have k2 : a_ (cJ l n 1 0 (-1) 0) = true := by simpa using k2
 have e : bE l n 1 0 (-1) 0 = true := by rw [bE, k0, k1, k2]; rfl
 obtain rfl : x = (⟨l.total, l.free + n, l.held, l.bn - n, l.tied⟩ : bA) := hx.trans ((if_pos e).trans (Hh l n));obtain rfl : b = true := hb.trans e
 repeat' first | exact trivial | refine ⟨rfl, ?_⟩ | fail
theorem Hj (l : bA) (n : Int) (x : bA) (hx : x = bW l n 1 0 (-1) 0) (b : Bool) (hb : b = bE l n 1 0 (-1) 0) : Spec Tryz.prog 157 [fY l, iA n] (aE (.aT [(true, il fun _ => x), (false, [.bool fun _ => b])])) := by
 refine ay au Tryz.func157 rfl rfl (fr := true) (fun _ => by kernel_rfl) fun P hP hA => ?_;cbv;refine ag.by hP (OK l n x hx b hb) ?_;cbv
 repeat' first | exact trivial | refine ⟨rfl, ?_⟩ | fail
theorem Hk (l : bA) (n : Int) : cJ l n 0 0 0 1 = ⟨l.total, l.free, l.held, l.bn, l.tied + n⟩ := by
 unfold cJ; congr 1 <;> omega
theorem OL (l : bA) (n : Int) (x : bA) (hx : x = bW l n 0 0 0 1) (b : Bool) (hb : b = bE l n 0 0 0 1) : Spec Tryz.prog 146 [fY l, iA n] (aE (.aT [(true, il fun _ => x), (false, [.bool fun _ => b])])) := by
 refine ay au Tryz.func146 rfl rfl (fr := true) (fun _ => by kernel_rfl) fun P hP hA => ?_;cbv;refine ag.by hP (tL l n 0 0 0 1 ⟨by omega, by omega⟩ ⟨by omega, by omega⟩ ⟨by omega, by omega⟩ ⟨by omega, by omega⟩ x hx b hb) ?_;cbv
 repeat' first | exact trivial | refine ⟨rfl, ?_⟩ | fail
theorem OM (l : bA) (n : Int) (hl : a_ l = true) (hn : 0 ≤ n ∧ n ≤ 60) : cB Tryz.prog 219 [.c (.ptr 0 0), .c (.b0 [.int .i64 fun _ => n] 0)] [(0, .box [.lf (.int .i64 fun _ => l.total), .lf (.int .i64 fun _ => l.free), .lf (.int .i64 fun _ => l.held), .lf (.int .i64 fun _ => l.bn), .lf (.int .i64 fun _ => l.tied)])]
  (cV (.aT []) [(0, .box [.int .i64 fun _ => l.total, .int .i64 fun _ => l.free, .int .i64 fun _ => l.held, .int .i64 fun _ => l.bn, .int .i64 fun _ => l.tied + n])]) := by
 have hg := o7 hl;have g1 := hg.total;have g2 := hg.free;have g3 := hg.held;have g4 := hg.bn;have g5 := hg.tied;refine dW au Tryz.func219 rfl rfl (fr := true) (fun _ => by kernel_rfl) rfl rfl fun P hP hA hB => ?_;cbv
 repeat (refine Ar.exact (by omega) (by omega) ?_; cbv)
 repeat' first | exact trivial | refine ⟨rfl, ?_⟩ | fail
set_option maxHeartbeats 1000000 in
theorem ON (l : bA) (n : Int) (x : bA) (hx : x = bW l n 0 0 0 1) (b : Bool) (hb : b = bE l n 0 0 0 1) :
   Spec Tryz.prog 105 [fY l, iA n, .c (.fn 219 [.b0 [.int .i64 fun _ => n] 0])] (aE (.aT [(true, il fun _ => x), (false, [.bool fun _ => b])])) := by
 refine ay au Tryz.func105 rfl rfl (fr := true) (fun _ => by kernel_rfl) fun P hP hA => ?_;cbv;refine ag.by hP (k9 l (a_ l) rfl) ?_;cbv;refine Br.split (fun k0 => ?_) (fun k0 => ?_) <;> cbv
 · have k0 : (!a_ l) = true := k0;have k0 : a_ l = false := by simpa using k0
   have e := gX hx hb (by rw [bE, k0]; rfl);obtain rfl : x = l := e.1;obtain rfl : b = false := e.2
   repeat' first | exact trivial | refine ⟨rfl, ?_⟩ | fail
 have k0 : (!a_ l) = false := k0;have k0 : a_ l = true := by simpa using k0
 refine ag.by hP (cW n 0 60) ?_;cbv;refine Br.split (fun k1 => ?_) (fun k1 => ?_) <;> cbv
 · have k1 : (!aq n 0 60) = true := k1;have k1 : aq n 0 60 = false := by simpa using k1
   have e := gX hx hb (by rw [bE, k0, k1]; rfl);obtain rfl : x = l := e.1;obtain rfl : b = false := e.2
   repeat' first | exact trivial | refine ⟨rfl, ?_⟩ | fail
 have k1 : (!aq n 0 60) = false := k1;have k1 : aq n 0 60 = true := by simpa using k1
 refine bB.by hP (OM l n k0 (bO k1)) ?_;cbv;refine ag.by hP (k9 (⟨l.total, l.free, l.held, l.bn, l.tied + n⟩ : bA) (a_ (cJ l n 0 0 0 1)) (by rw [Hk])) ?_;cbv;refine Br.split (fun k2 => ?_) (fun k2 => ?_) <;> cbv
 · have k2 : (!a_ (cJ l n 0 0 0 1)) = true := k2;have k2 : a_ (cJ l n 0 0 0 1) = false := by simpa using k2
   have e := gX hx hb (by rw [bE, k0, k1, k2]; rfl);obtain rfl : x = l := e.1;obtain rfl : b = false := e.2
   repeat' first | exact trivial | refine ⟨rfl, ?_⟩ | fail
 have k2 : (!a_ (cJ l n 0 0 0 1)) = false := k2;have k2 : a_ (cJ l n 0 0 0 1) = true := by simpa using k2
 have e : bE l n 0 0 0 1 = true := by rw [bE, k0, k1, k2]; rfl
 obtain rfl : x = (⟨l.total, l.free, l.held, l.bn, l.tied + n⟩ : bA) := hx.trans ((if_pos e).trans (Hk l n));obtain rfl : b = true := hb.trans e
 repeat' first | exact trivial | refine ⟨rfl, ?_⟩ | fail
theorem OO (l : bA) (n : Int) (x : bA) (hx : x = bW l n 0 0 0 1) (b : Bool) (hb : b = bE l n 0 0 0 1) : Spec Tryz.prog 155 [fY l, iA n] (aE (.aT [(true, il fun _ => x), (false, [.bool fun _ => b])])) := by
 refine ay au Tryz.func155 rfl rfl (fr := true) (fun _ => by kernel_rfl) fun P hP hA => ?_;cbv;refine ag.by hP (ON l n x hx b hb) ?_;cbv
 repeat' first | exact trivial | refine ⟨rfl, ?_⟩ | fail
theorem yu (l : bA) (n : Int) : cJ l n 0 0 0 (-1) = ⟨l.total, l.free, l.held, l.bn, l.tied - n⟩ := by
 unfold cJ; congr 1 <;> omega
theorem OP (l : bA) (n : Int) (x : bA) (hx : x = bW l n 0 0 0 (-1)) (b : Bool) (hb : b = bE l n 0 0 0 (-1)) : Spec Tryz.prog 217 [fY l, iA n] (aE (.aT [(true, il fun _ => x), (false, [.bool fun _ => b])])) := by
 refine ay au Tryz.func217 rfl rfl (fr := true) (fun _ => by kernel_rfl) fun P hP hA => ?_;cbv;refine ag.by hP (tL l n 0 0 0 (-1) ⟨by omega, by omega⟩ ⟨by omega, by omega⟩ ⟨by omega, by omega⟩ ⟨by omega, by omega⟩ x hx b hb) ?_;cbv
 repeat' first | exact trivial | refine ⟨rfl, ?_⟩ | fail
theorem OQ (l : bA) (n : Int) (hl : a_ l = true) (hn : 0 ≤ n ∧ n ≤ 60) : cB Tryz.prog 206 [.c (.ptr 0 0), .c (.b0 [.int .i64 fun _ => n] 0)] [(0, .box [.lf (.int .i64 fun _ => l.total), .lf (.int .i64 fun _ => l.free), .lf (.int .i64 fun _ => l.held), .lf (.int .i64 fun _ => l.bn), .lf (.int .i64 fun _ => l.tied)])]
  (cV (.aT []) [(0, .box [.int .i64 fun _ => l.total, .int .i64 fun _ => l.free, .int .i64 fun _ => l.held, .int .i64 fun _ => l.bn, .int .i64 fun _ => l.tied - n])]) := by
 have hg := o7 hl;have g1 := hg.total;have g2 := hg.free;have g3 := hg.held;have g4 := hg.bn;have g5 := hg.tied;refine dW au Tryz.func206 rfl rfl (fr := true) (fun _ => by kernel_rfl) rfl rfl fun P hP hA hB => ?_;cbv
 repeat (refine Ar.exact (by omega) (by omega) ?_; cbv)
 repeat' first | exact trivial | refine ⟨rfl, ?_⟩ | fail
set_option maxHeartbeats 1000000 in
theorem OR (l : bA) (n : Int) (x : bA) (hx : x = bW l n 0 0 0 (-1)) (b : Bool) (hb : b = bE l n 0 0 0 (-1)) :
   Spec Tryz.prog 105 [fY l, iA n, .c (.fn 206 [.b0 [.int .i64 fun _ => n] 0])] (aE (.aT [(true, il fun _ => x), (false, [.bool fun _ => b])])) := by
 refine ay au Tryz.func105 rfl rfl (fr := true) (fun _ => by kernel_rfl) fun P hP hA => ?_;cbv;refine ag.by hP (k9 l (a_ l) rfl) ?_;cbv;refine Br.split (fun k0 => ?_) (fun k0 => ?_) <;> cbv
 · have k0 : (!a_ l) = true := k0;have k0 : a_ l = false := by simpa using k0
   have e := gX hx hb (by rw [bE, k0]; rfl);obtain rfl : x = l := e.1;obtain rfl : b = false := e.2
   repeat' first | exact trivial | refine ⟨rfl, ?_⟩ | fail
 have k0 : (!a_ l) = false := k0;have k0 : a_ l = true := by simpa using k0
 refine ag.by hP (cW n 0 60) ?_;cbv;refine Br.split (fun k1 => ?_) (fun k1 => ?_) <;> cbv
 · have k1 : (!aq n 0 60) = true := k1;have k1 : aq n 0 60 = false := by simpa using k1
   have e := gX hx hb (by rw [bE, k0, k1]; rfl);obtain rfl : x = l := e.1;obtain rfl : b = false := e.2
   repeat' first | exact trivial | refine ⟨rfl, ?_⟩ | fail
 have k1 : (!aq n 0 60) = false := k1;have k1 : aq n 0 60 = true := by simpa using k1
 refine bB.by hP (OQ l n k0 (bO k1)) ?_;cbv;refine ag.by hP (k9 (⟨l.total, l.free, l.held, l.bn, l.tied - n⟩ : bA) (a_ (cJ l n 0 0 0 (-1))) (by rw [yu])) ?_;cbv;refine Br.split (fun k2 => ?_) (fun k2 => ?_) <;> cbv
 · have k2 : (!a_ (cJ l n 0 0 0 (-1))) = true := k2;have k2 : a_ (cJ l n 0 0 0 (-1)) = false := by simpa using k2
   have e := gX hx hb (by rw [bE, k0, k1, k2]; rfl);obtain rfl : x = l := e.1;obtain rfl : b = false := e.2
   repeat' first | exact trivial | refine ⟨rfl, ?_⟩ | fail
 have k2 : (!a_ (cJ l n 0 0 0 (-1))) = false := k2;have k2 : a_ (cJ l n 0 0 0 (-1)) = true := by simpa using k2
 have e : bE l n 0 0 0 (-1) = true := by rw [bE, k0, k1, k2]; rfl
 obtain rfl : x = (⟨l.total, l.free, l.held, l.bn, l.tied - n⟩ : bA) := hx.trans ((if_pos e).trans (yu l n));obtain rfl : b = true := hb.trans e
 repeat' first | exact trivial | refine ⟨rfl, ?_⟩ | fail
theorem yv (l : bA) (n : Int) (x : bA) (hx : x = bW l n 0 0 0 (-1)) (b : Bool) (hb : b = bE l n 0 0 0 (-1)) : Spec Tryz.prog 133 [fY l, iA n] (aE (.aT [(true, il fun _ => x), (false, [.bool fun _ => b])])) := by
 refine ay au Tryz.func133 rfl rfl (fr := true) (fun _ => by kernel_rfl) fun P hP hA => ?_;cbv;refine ag.by hP (OR l n x hx b hb) ?_;cbv
 repeat' first | exact trivial | refine ⟨rfl, ?_⟩ | fail
end Go.Proofs.YticeaiiffeccmaaGreat

