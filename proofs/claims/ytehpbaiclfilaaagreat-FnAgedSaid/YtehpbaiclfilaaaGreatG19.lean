/- Parts of a proof. No conditions. -/

import Derived.Test.YtehpbaiclfilaaaGreatGKe
import Derived.Test.YtehpbaiclfilaaaGreatG14
set_option linter.unusedSimpArgs false
set_option linter.unusedVariables false
namespace Go.Proofs.YtehpbaiclfilaaaGreat
open Go
set_option maxRecDepth 100000
theorem xI (w : List (List aA)) (hw : k9 w) : Spec Tryz.prog 160 [kG w] (aE (xr fun _ => w)) := by
 have hl : w.length ≤ 1048576 := hw.1;refine aH ay Tryz.func160 rfl rfl (fr := true) (fun _ => by kernel_rfl) fun P hP hA => ?_;cbv;refine aT.by (X := Nat) (fun i => [(2, pN 0), (3, pN 1), (7, lA .cF w), (8, nT fun _ => w.length), (9, nT fun _ => i)]) (fun i => [(0, .box [.nil]), (1, .box [.own 2]), (2, aQ .cF fun _ => w.take i)]) (fun i => i ≤ w.length) (fun i _ => w.length - i) 0 (Nat.zero_le _) ?_ ?_
 · cbv
   repeat' first | exact trivial | refine ⟨rfl, ?_⟩ | fail
 · intro i hi;cbv;refine Br.dec (fun h2 => ?_) (fun h2 => ?_) <;> cbv
   · have h2 : i < w.length := by simpa using h2
     have hp : w[i].length ≤ 1048576 := hw.2 _ (List.getElem_mem h2);have o1 : (0 + w[i].length) * 16 ≤ 140737488355328 := by omega
     have o2 : ((w.take i).length + 1) * 24 ≤ 140737488355328 := by rw [List.length_take]; omega
     repeat' first
      | (refine Ob.mk o1 ?_; cbv)
      | (refine Ob.mk o2 ?_; cbv)
      | (refine Ix.mk w[i] (by simp) (get_cast w h2) ?_; cbv)
      | refine And.intro ?_ ?_
      | fail
     all_goals
      refine Ar.exact (by (try simp only [nc] at *); omega) (by (try simp only [nc] at *); omega) ?_;cbv;refine aJ.by (i + 1) ?_ ?_ ?_
      · show w.length - (i + 1) < w.length - i;omega
      · exact h2
      · cbv
        repeat' first | exact trivial | refine ⟨rfl, ?_⟩ | refine ⟨Ee h2, ?_⟩ | fail
   · have h2 : w.length ≤ i := by simp at h2; omega
     have e : w.take i = w := List.take_of_length_le h2
     repeat' first | exact trivial | refine ⟨rfl, ?_⟩ | refine ⟨e, ?_⟩ | fail
theorem JH (w : List (List aA)) (hw : k9 w) : Spec Tryz.prog 237 [kG w] (aE (xr fun _ => w)) := by
 have hl : w.length ≤ 1048576 := hw.1;refine aH ay Tryz.func237 rfl rfl (fr := true) (fun _ => by kernel_rfl) fun P hP hA => ?_;cbv;refine aT.by (X := Nat) (fun i => [(1, pN 0), (2, pN 1), (3, pN 2), (4, nT fun _ => i)]) (fun i => [(0, .box [.lf (.list .cF fun _ => w)]), (1, .box [.nil]), (2, .box [.own 3]), (3, aQ .cF fun _ => w.take i)]) (fun i => i ≤ w.length) (fun i _ => w.length - i) 0 (Nat.zero_le _) ?_ ?_
 · cbv
   repeat' first | exact trivial | refine ⟨rfl, ?_⟩ | fail
 · intro i hi;cbv;refine Br.dec (fun h2 => ?_) (fun h2 => ?_) <;> cbv
   · have h2 : i < w.length := by simpa using h2
     have hp : w[i].length ≤ 1048576 := hw.2 _ (List.getElem_mem h2);have o1 : (0 + w[i].length) * 16 ≤ 140737488355328 := by omega
     have o2 : ((w.take i).length + 1) * 24 ≤ 140737488355328 := by rw [List.length_take]; omega
     repeat' first
      | (refine Ob.mk o1 ?_; cbv)
      | (refine Ob.mk o2 ?_; cbv)
      | (refine Ix.mk w[i] (by simp) (get_cast w h2) ?_; cbv)
      | refine And.intro ?_ ?_
      | fail
     all_goals
      refine Ar.exact (by (try simp only [nc] at *); omega) (by (try simp only [nc] at *); omega) ?_;cbv;refine aJ.by (i + 1) ?_ ?_ ?_
      · show w.length - (i + 1) < w.length - i;omega
      · exact h2
      · cbv
        repeat' first | exact trivial | refine ⟨rfl, ?_⟩ | refine ⟨Ee h2, ?_⟩ | fail
   · have h2 : w.length ≤ i := by simp at h2; omega
     have e : w.take i = w := List.take_of_length_le h2
     repeat' first | exact trivial | refine ⟨rfl, ?_⟩ | refine ⟨e, ?_⟩ | fail
theorem QQ (c : a_) (hs : mv c) : Spec Tryz.prog 140 [eA .cf c] (aE (eR .cf fun _ => c)) := by
 refine aH ay Tryz.func140 rfl rfl (fr := true) (fun _ => by kernel_rfl) fun P hP hA => ?_;cbv
 repeat' first
  | exact trivial
  | (refine ag.by hP (xH c.row hs.1) ?_; cbv)
  | (refine ag.by hP (xI c.spoke hs.2) ?_; cbv)
  | refine ⟨rfl, ?_⟩
  | refine And.intro ?_ ?_
  | fail
def du (l : bA) (n df dh ds dt : Int) : bA := ⟨l.total, l.free + df * n, l.held + dh * n, l.aU + ds * n, l.tied + dt * n⟩
def bU (l : bA) (n df dh ds dt : Int) : Bool := aZ l && (aj n 0 60 && aZ (du l n df dh ds dt))
def bz (l : bA) (n df dh ds dt : Int) : bA := if bU l n df dh ds dt = true then du l n df dh ds dt else l
theorem jn {l : bA} {n df dh ds dt : Int} {x : bA} {b : Bool} (hx : x = bz l n df dh ds dt) (hb : b = bU l n df dh ds dt) (e : bU l n df dh ds dt = false) : x = l ∧ b = false :=
 ⟨hx.trans (if_neg (by rw [e]; simp)), hb.trans e⟩
theorem Ad (l : bA) (n : Int) : du l n (-1) 1 0 0 = ⟨l.total, l.free - n, l.held + n, l.aU, l.tied⟩ := by
 unfold du; congr 1 <;> omega
theorem Az (l : bA) (n : Int) (hl : aZ l = true) (hn : 0 ≤ n ∧ n ≤ 60) : bE Tryz.prog 212 [.c (.ptr 0 0), .c (.bZ [.int .i64 fun _ => n] 0)] [(0, .box [.lf (.int .i64 fun _ => l.total), .lf (.int .i64 fun _ => l.free), .lf (.int .i64 fun _ => l.held), .lf (.int .i64 fun _ => l.aU), .lf (.int .i64 fun _ => l.tied)])]
  (dP (.bc []) [(0, .box [.int .i64 fun _ => l.total, .int .i64 fun _ => l.free - n, .int .i64 fun _ => l.held + n, .int .i64 fun _ => l.aU, .int .i64 fun _ => l.tied])]) := by
 have hg := sd hl;have g1 := hg.total;have g2 := hg.free;have g3 := hg.held;have g4 := hg.aU;have g5 := hg.tied;refine fF ay Tryz.func212 rfl rfl (fr := true) (fun _ => by kernel_rfl) rfl rfl fun P hP hA hB => ?_;cbv
 repeat (refine Ar.exact (by omega) (by omega) ?_; cbv)
 repeat' first | exact trivial | refine ⟨rfl, ?_⟩ | fail
set_option maxHeartbeats 1000000 in
theorem AA (l : bA) (n : Int) (x : bA) (hx : x = bz l n (-1) 1 0 0) (b : Bool) (hb : b = bU l n (-1) 1 0 0) :
   Spec Tryz.prog 154 [k8 l, iA n, .c (.fn 212 [.bZ [.int .i64 fun _ => n] 0])] (aE (.bc [(true, lS fun _ => x), (false, [.bool fun _ => b])])) := by
 refine aH ay Tryz.func154 rfl rfl (fr := true) (fun _ => by kernel_rfl) fun P hP hA => ?_;cbv;refine ag.by hP (lQ l (aZ l) rfl) ?_;cbv;refine Br.split (fun k0 => ?_) (fun k0 => ?_) <;> cbv
 · have k0 : (!aZ l) = true := k0;have k0 : aZ l = false := by simpa using k0
   have e := jn hx hb (by rw [bU, k0]; rfl);obtain rfl : x = l := e.1;obtain rfl : b = false := e.2
   repeat' first | exact trivial | refine ⟨rfl, ?_⟩ | fail
 have k0 : (!aZ l) = false := k0;have k0 : aZ l = true := by simpa using k0
 refine ag.by hP (cV n 0 60) ?_;cbv;refine Br.split (fun k1 => ?_) (fun k1 => ?_) <;> cbv
 · have k1 : (!aj n 0 60) = true := k1;have k1 : aj n 0 60 = false := by simpa using k1
   have e := jn hx hb (by rw [bU, k0, k1]; rfl);obtain rfl : x = l := e.1;obtain rfl : b = false := e.2
   repeat' first | exact trivial | refine ⟨rfl, ?_⟩ | fail
 have k1 : (!aj n 0 60) = false := k1;have k1 : aj n 0 60 = true := by simpa using k1
 refine aB.by hP (Az l n k0 (bB k1)) ?_;cbv;refine ag.by hP (lQ (⟨l.total, l.free - n, l.held + n, l.aU, l.tied⟩ : bA) (aZ (du l n (-1) 1 0 0)) (by rw [Ad])) ?_;cbv;refine Br.split (fun k2 => ?_) (fun k2 => ?_) <;> cbv
 · have k2 : (!aZ (du l n (-1) 1 0 0)) = true := k2;have k2 : aZ (du l n (-1) 1 0 0) = false := by simpa using k2
   have e := jn hx hb (by rw [bU, k0, k1, k2]; rfl);obtain rfl : x = l := e.1;obtain rfl : b = false := e.2
   repeat' first | exact trivial | refine ⟨rfl, ?_⟩ | fail
 have k2 : (!aZ (du l n (-1) 1 0 0)) = false := k2;have k2 : aZ (du l n (-1) 1 0 0) = true := by simpa using k2
 have e : bU l n (-1) 1 0 0 = true := by rw [bU, k0, k1, k2]; rfl
 obtain rfl : x = (⟨l.total, l.free - n, l.held + n, l.aU, l.tied⟩ : bA) := hx.trans ((if_pos e).trans (Ad l n));obtain rfl : b = true := hb.trans e
 repeat' first | exact trivial | refine ⟨rfl, ?_⟩ | fail
theorem AJ (l : bA) (n : Int) (x : bA) (hx : x = bz l n (-1) 1 0 0) (b : Bool) (hb : b = bU l n (-1) 1 0 0) : Spec Tryz.prog 175 [k8 l, iA n] (aE (.bc [(true, lS fun _ => x), (false, [.bool fun _ => b])])) := by
 refine aH ay Tryz.func175 rfl rfl (fr := true) (fun _ => by kernel_rfl) fun P hP hA => ?_;cbv;refine ag.by hP (AA l n x hx b hb) ?_;cbv
 repeat' first | exact trivial | refine ⟨rfl, ?_⟩ | fail
theorem Ae (l : bA) (n : Int) : du l n 1 (-1) 0 0 = ⟨l.total, l.free + n, l.held - n, l.aU, l.tied⟩ := by
 unfold du; congr 1 <;> omega
theorem QU (l : bA) (n : Int) (hl : aZ l = true) (hn : 0 ≤ n ∧ n ≤ 60) : bE Tryz.prog 165 [.c (.ptr 0 0), .c (.bZ [.int .i64 fun _ => n] 0)] [(0, .box [.lf (.int .i64 fun _ => l.total), .lf (.int .i64 fun _ => l.free), .lf (.int .i64 fun _ => l.held), .lf (.int .i64 fun _ => l.aU), .lf (.int .i64 fun _ => l.tied)])]
  (dP (.bc []) [(0, .box [.int .i64 fun _ => l.total, .int .i64 fun _ => l.free + n, .int .i64 fun _ => l.held - n, .int .i64 fun _ => l.aU, .int .i64 fun _ => l.tied])]) := by
 have hg := sd hl;have g1 := hg.total;have g2 := hg.free;have g3 := hg.held;have g4 := hg.aU;have g5 := hg.tied;refine fF ay Tryz.func165 rfl rfl (fr := true) (fun _ => by kernel_rfl) rfl rfl fun P hP hA hB => ?_;cbv
 repeat (refine Ar.exact (by omega) (by omega) ?_; cbv)
 repeat' first | exact trivial | refine ⟨rfl, ?_⟩ | fail
set_option maxHeartbeats 1000000 in
theorem QV (l : bA) (n : Int) (x : bA) (hx : x = bz l n 1 (-1) 0 0) (b : Bool) (hb : b = bU l n 1 (-1) 0 0) :
   Spec Tryz.prog 154 [k8 l, iA n, .c (.fn 165 [.bZ [.int .i64 fun _ => n] 0])] (aE (.bc [(true, lS fun _ => x), (false, [.bool fun _ => b])])) := by
 refine aH ay Tryz.func154 rfl rfl (fr := true) (fun _ => by kernel_rfl) fun P hP hA => ?_;cbv;refine ag.by hP (lQ l (aZ l) rfl) ?_;cbv;refine Br.split (fun k0 => ?_) (fun k0 => ?_) <;> cbv
 · have k0 : (!aZ l) = true := k0;have k0 : aZ l = false := by simpa using k0
   have e := jn hx hb (by rw [bU, k0]; rfl);obtain rfl : x = l := e.1;obtain rfl : b = false := e.2
   repeat' first | exact trivial | refine ⟨rfl, ?_⟩ | fail
 have k0 : (!aZ l) = false := k0;have k0 : aZ l = true := by simpa using k0
 refine ag.by hP (cV n 0 60) ?_;cbv;refine Br.split (fun k1 => ?_) (fun k1 => ?_) <;> cbv
 · have k1 : (!aj n 0 60) = true := k1;have k1 : aj n 0 60 = false := by simpa using k1
   have e := jn hx hb (by rw [bU, k0, k1]; rfl);obtain rfl : x = l := e.1;obtain rfl : b = false := e.2
   repeat' first | exact trivial | refine ⟨rfl, ?_⟩ | fail
 have k1 : (!aj n 0 60) = false := k1;have k1 : aj n 0 60 = true := by simpa using k1
 refine aB.by hP (QU l n k0 (bB k1)) ?_;cbv;refine ag.by hP (lQ (⟨l.total, l.free + n, l.held - n, l.aU, l.tied⟩ : bA) (aZ (du l n 1 (-1) 0 0)) (by rw [Ae])) ?_;cbv;refine Br.split (fun k2 => ?_) (fun k2 => ?_) <;> cbv
 · have k2 : (!aZ (du l n 1 (-1) 0 0)) = true := k2;have k2 : aZ (du l n 1 (-1) 0 0) = false := by simpa using k2
   have e := jn hx hb (by rw [bU, k0, k1, k2]; rfl);obtain rfl : x = l := e.1;obtain rfl : b = false := e.2
   repeat' first | exact trivial | refine ⟨rfl, ?_⟩ | fail
 have k2 : (!aZ (du l n 1 (-1) 0 0)) = false := k2;have k2 : aZ (du l n 1 (-1) 0 0) = true := by simpa using k2
 have e : bU l n 1 (-1) 0 0 = true := by rw [bU, k0, k1, k2]; rfl
 obtain rfl : x = (⟨l.total, l.free + n, l.held - n, l.aU, l.tied⟩ : bA) := hx.trans ((if_pos e).trans (Ae l n));obtain rfl : b = true := hb.trans e
 repeat' first | exact trivial | refine ⟨rfl, ?_⟩ | fail
theorem Ef (l : bA) (n : Int) (x : bA) (hx : x = bz l n 1 (-1) 0 0) (b : Bool) (hb : b = bU l n 1 (-1) 0 0) : Spec Tryz.prog 108 [k8 l, iA n] (aE (.bc [(true, lS fun _ => x), (false, [.bool fun _ => b])])) := by
 refine aH ay Tryz.func108 rfl rfl (fr := true) (fun _ => by kernel_rfl) fun P hP hA => ?_;cbv;refine ag.by hP (QV l n x hx b hb) ?_;cbv
 repeat' first | exact trivial | refine ⟨rfl, ?_⟩ | fail
theorem Ag (l : bA) (n : Int) : du l n 1 0 (-1) 0 = ⟨l.total, l.free + n, l.held, l.aU - n, l.tied⟩ := by
 unfold du; congr 1 <;> omega
theorem Ah (l : bA) (n : Int) : du l n 0 0 0 1 = ⟨l.total, l.free, l.held, l.aU, l.tied + n⟩ := by
 unfold du; congr 1 <;> omega
theorem Ai (l : bA) (n : Int) : du l n 0 0 0 (-1) = ⟨l.total, l.free, l.held, l.aU, l.tied - n⟩ := by
 unfold du; congr 1 <;> omega
theorem Q5 (l : bA) (n : Int) (hl : aZ l = true) (hn : 0 ≤ n ∧ n ≤ 60) : bE Tryz.prog 166 [.c (.ptr 0 0), .c (.bZ [.int .i64 fun _ => n] 0)] [(0, .box [.lf (.int .i64 fun _ => l.total), .lf (.int .i64 fun _ => l.free), .lf (.int .i64 fun _ => l.held), .lf (.int .i64 fun _ => l.aU), .lf (.int .i64 fun _ => l.tied)])]
  (dP (.bc []) [(0, .box [.int .i64 fun _ => l.total, .int .i64 fun _ => l.free, .int .i64 fun _ => l.held, .int .i64 fun _ => l.aU, .int .i64 fun _ => l.tied - n])]) := by
 have hg := sd hl;have g1 := hg.total;have g2 := hg.free;have g3 := hg.held;have g4 := hg.aU;have g5 := hg.tied;refine fF ay Tryz.func166 rfl rfl (fr := true) (fun _ => by kernel_rfl) rfl rfl fun P hP hA hB => ?_;cbv
 repeat (refine Ar.exact (by omega) (by omega) ?_; cbv)
 repeat' first | exact trivial | refine ⟨rfl, ?_⟩ | fail
set_option maxHeartbeats 1000000 in
theorem Q6 (l : bA) (n : Int) (x : bA) (hx : x = bz l n 0 0 0 (-1)) (b : Bool) (hb : b = bU l n 0 0 0 (-1)) :
   Spec Tryz.prog 154 [k8 l, iA n, .c (.fn 166 [.bZ [.int .i64 fun _ => n] 0])] (aE (.bc [(true, lS fun _ => x), (false, [.bool fun _ => b])])) := by
 refine aH ay Tryz.func154 rfl rfl (fr := true) (fun _ => by kernel_rfl) fun P hP hA => ?_;cbv;refine ag.by hP (lQ l (aZ l) rfl) ?_;cbv;refine Br.split (fun k0 => ?_) (fun k0 => ?_) <;> cbv
 · have k0 : (!aZ l) = true := k0;have k0 : aZ l = false := by simpa using k0
   have e := jn hx hb (by rw [bU, k0]; rfl);obtain rfl : x = l := e.1;obtain rfl : b = false := e.2
   repeat' first | exact trivial | refine ⟨rfl, ?_⟩ | fail
 have k0 : (!aZ l) = false := k0;have k0 : aZ l = true := by simpa using k0
 refine ag.by hP (cV n 0 60) ?_;cbv;refine Br.split (fun k1 => ?_) (fun k1 => ?_) <;> cbv
 · have k1 : (!aj n 0 60) = true := k1;have k1 : aj n 0 60 = false := by simpa using k1
   have e := jn hx hb (by rw [bU, k0, k1]; rfl);obtain rfl : x = l := e.1;obtain rfl : b = false := e.2
   repeat' first | exact trivial | refine ⟨rfl, ?_⟩ | fail
 have k1 : (!aj n 0 60) = false := k1;have k1 : aj n 0 60 = true := by simpa using k1
 refine aB.by hP (Q5 l n k0 (bB k1)) ?_;cbv;refine ag.by hP (lQ (⟨l.total, l.free, l.held, l.aU, l.tied - n⟩ : bA) (aZ (du l n 0 0 0 (-1))) (by rw [Ai])) ?_;cbv;refine Br.split (fun k2 => ?_) (fun k2 => ?_) <;> cbv
 · have k2 : (!aZ (du l n 0 0 0 (-1))) = true := k2;have k2 : aZ (du l n 0 0 0 (-1)) = false := by simpa using k2
   have e := jn hx hb (by rw [bU, k0, k1, k2]; rfl);obtain rfl : x = l := e.1;obtain rfl : b = false := e.2
   repeat' first | exact trivial | refine ⟨rfl, ?_⟩ | fail
 have k2 : (!aZ (du l n 0 0 0 (-1))) = false := k2;have k2 : aZ (du l n 0 0 0 (-1)) = true := by simpa using k2
 have e : bU l n 0 0 0 (-1) = true := by rw [bU, k0, k1, k2]; rfl
 obtain rfl : x = (⟨l.total, l.free, l.held, l.aU, l.tied - n⟩ : bA) := hx.trans ((if_pos e).trans (Ai l n));obtain rfl : b = true := hb.trans e
 repeat' first | exact trivial | refine ⟨rfl, ?_⟩ | fail
theorem Aj (l : bA) (n : Int) (x : bA) (hx : x = bz l n 0 0 0 (-1)) (b : Bool) (hb : b = bU l n 0 0 0 (-1)) : Spec Tryz.prog 109 [k8 l, iA n] (aE (.bc [(true, lS fun _ => x), (false, [.bool fun _ => b])])) := by
 refine aH ay Tryz.func109 rfl rfl (fr := true) (fun _ => by kernel_rfl) fun P hP hA => ?_;cbv;refine ag.by hP (Q6 l n x hx b hb) ?_;cbv
 repeat' first | exact trivial | refine ⟨rfl, ?_⟩ | fail
end Go.Proofs.YtehpbaiclfilaaaGreat

