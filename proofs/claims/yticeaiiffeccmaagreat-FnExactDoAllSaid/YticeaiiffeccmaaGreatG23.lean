/- Parts of a proof. No conditions. -/

import Derived.Test.YticeaiiffeccmaaGreatG09
import Derived.Test.YticeaiiffeccmaaGreatG18
import Derived.Test.YticeaiiffeccmaaGreatGKe
set_option linter.unusedSimpArgs false
set_option linter.unusedVariables false
namespace Go.Proofs.YticeaiiffeccmaaGreat
open Go
set_option maxRecDepth 100000
def cutAt {α : Type} (l : List α) (a : Int) : List α := if a < 0 then l else l.take a.toNat ++ l.drop (a.toNat + 1)
def fg (l : List aw) (id : Int) : List aw := cutAt l (bw l id)
def kL (l : List aw) (id : Int) : Int := iD (fun q => decide (q.id > id)) l
def putAt (l : List aw) (id : Int) : Nat := if kL l id < 0 then l.length else (kL l id).toNat
def ir (l : List aw) (p : aw) : List aw := if 0 ≤ bw l p.id then l.set (bw l p.id).toNat p else l.take (putAt l p.id) ++ p :: l.drop (putAt l p.id)
theorem tQ (l : List aw) (id : Int) (hl : l.length ≤ bc) (x : List aw) (hx : x = fg l id) : Spec Tryz.prog 132 [lA .aG l, iA id] (aE (lR .aG fun _ => x)) := by
 have hn : l.length ≤ 1048576 := hl;refine ay au Tryz.func132 rfl rfl (fr := true) (fun _ => by kernel_rfl) fun P hP hA => ?_;cbv;refine ⟨by show (0 + l.length) * 80 ≤ 140737488355328; omega, ?_⟩;cbv;refine ag.by hP (Bw l id (bw l id) rfl) ?_;cbv;refine Br.dec (fun h0 => ?_) (fun h0 => ?_) <;> cbv
 · have h0 : bw l id ≥ 0 := h0;rcases im (fun p : aw => p.id == id) l with ⟨e, _⟩ | ⟨i, hi, e, _, _⟩
   · have : bw l id = -1 := e;omega
   have e : bw l id = (i : Int) := e;have hx : x = l.take i ++ l.drop (i + 1) := hx.trans (by rw [fg, cutAt, e, if_neg (by omega), Int.toNat_natCast]);rw [e];cbv;refine Ar.exact (by (try simp only [nc] at *); omega) (by (try simp only [nc] at *); omega) ?_;cbv;refine bB.by hP (OY l i hi) ?_;cbv;refine ⟨?_, trivial⟩;exact hx.symm
 · have h0 : ¬ bw l id ≥ 0 := h0;obtain rfl : l = x := (hx.trans (if_pos (by omega))).symm
   repeat' first | exact trivial | refine ⟨rfl, ?_⟩ | fail
theorem O8 (l : List aw) (id : Int) (hl : l.length ≤ bc) (x : List aw) (hx : x = fg l id) : Spec Tryz.prog 216 [lA .aG l, iA id] (aE (lR .aG fun _ => x)) := by
 have hn : l.length ≤ 1048576 := hl;refine ay au Tryz.func216 rfl rfl (fr := true) (fun _ => by kernel_rfl) fun P hP hA => ?_;cbv;refine ag.by hP (Bu l id (bw l id) rfl) ?_;cbv;refine Br.dec (fun h0 => ?_) (fun h0 => ?_) <;> cbv
 · have h0 : bw l id < 0 := h0;obtain rfl : l = x := (hx.trans (if_pos h0)).symm;refine ⟨by show (0 + l.length) * 80 ≤ 140737488355328; omega, ?_⟩;cbv
   repeat' first | exact trivial | refine ⟨rfl, ?_⟩ | fail
 · have h0 : ¬ bw l id < 0 := h0;rcases im (fun p : aw => p.id == id) l with ⟨e, _⟩ | ⟨i, hi, e, _, _⟩
   · have : bw l id = -1 := e;omega
   have e : bw l id = (i : Int) := e;have hx : x = l.take i ++ l.drop (i + 1) := hx.trans (by rw [fg, cutAt, e, if_neg (by omega), Int.toNat_natCast]);have o1 : 0 ≤ (0 : Int) ∧ (0 : Int) ≤ (i : Int) ∧ (i : Int) ≤ (l.length : Int) := ⟨by omega, by omega, by omega⟩
   have o2 : (([] : List aw).length + ((l.take ((i : Int)).toNat).drop ((0 : Int)).toNat).length) * 80 ≤ 140737488355328 := by
     rw [List.length_drop, List.length_take]; simp only [List.length_nil]; omega
   have o3 : 0 ≤ (i : Int) + 1 ∧ (i : Int) + 1 ≤ (l.length : Int) ∧ (l.length : Int) ≤ (l.length : Int) := ⟨by omega, by omega, by omega⟩
   have o4 : (([] ++ (l.take ((i : Int)).toNat).drop ((0 : Int)).toNat : List aw).length + ((l.take ((l.length : Int)).toNat).drop ((i : Int) + 1).toNat).length) * 80 ≤ 140737488355328 := by
     rw [List.length_append, List.length_drop, List.length_take, List.length_drop, List.length_take]; simp only [List.length_nil]; omega
   have fin : [] ++ (l.take ((i : Int)).toNat).drop ((0 : Int)).toNat ++ (l.take ((l.length : Int)).toNat).drop ((i : Int) + 1).toNat = x := by
     rw [hx, show ((i : Int) + 1).toNat = i + 1 by omega]; simp
   rw [e];cbv
   repeat' first
     | (refine Ob.mk o1 ?_; cbv)
     | (refine Ob.mk o3 ?_; cbv)
     | (refine Ob.mk o2 ?_; cbv)
     | (refine Ob.mk o4 ?_; cbv)
     | (refine Ar.exact (by (try simp only [nc] at *); omega) (by (try simp only [nc] at *); omega) ?_; cbv)
     | refine And.intro ?_ ?_
     | fail
   all_goals
     refine ⟨?_, trivial⟩;exact fin
theorem O9 (q p : aw) : Spec Tryz.prog 111 [eA .aG q, .c (.b0 (bQ .aG fun _ => p) 0)] (aE (bR fun _ => decide (q.id > p.id))) := by
 refine ay au Tryz.func111 rfl rfl (fr := true) (fun _ => by kernel_rfl) fun P hP hA => ?_;cbv
 repeat' first | exact trivial | refine ⟨rfl, ?_⟩ | fail
theorem O_ (a : List aw) (p : aw) (x : Int) (hx : x = kL a p.id) : Spec Tryz.prog 110 [lA .aG a, .c (.fn 111 [.b0 (bQ .aG fun _ => p) 0])] (aE (iR fun _ => x)) := by
 refine ay au Tryz.func110 rfl rfl (fr := true) (fun _ => by kernel_rfl) fun P hP hA => ?_;have ha : a.length ≤ 9223372036854775807 := hA.1.1;cbv;refine aU.by (X := Nat) (fun i => [(0, lA .aG a), (1, .c (.fn 111 [.b0 (bQ .aG fun _ => p) 0])), (7, nT fun _ => a.length), (8, nT fun _ => i)]) (fun _ => []) (fun i => i ≤ a.length ∧ ∀ (j : Nat) y, j < i → a[j]? = some y → decide (y.id > p.id) = false) (fun i _ => a.length - i) 0 ⟨Nat.zero_le _, fun j y hj => by omega⟩ ?_ ?_
 · cbv
   repeat' first | exact trivial | refine ⟨rfl, ?_⟩ | fail
 · intro i ⟨hi, hn⟩;cbv;refine Br.dec (fun h2 => ?_) (fun h2 => ?_) <;> cbv
   · have h2 : i < a.length := by simpa using h2
     refine ⟨a[i], by simp, get_cast a h2, ?_⟩;cbv;refine ag.by hP (O9 a[i] p) ?_;cbv;refine Br.dec (fun h3 => ?_) (fun h3 => ?_) <;> cbv
     · have h3 : a[i].id > p.id := h3;refine ⟨?_, trivial⟩;exact (hx.trans (mb (p := fun q : aw => decide (q.id > p.id)) h2 (decide_eq_true h3) hn)).symm
     · have h3 : ¬ a[i].id > p.id := h3;refine Ar.exact (by (try simp only [nc] at *); omega) (by (try simp only [nc] at *); omega) ?_;cbv;refine aP.by (i + 1) ?_ ?_ ?_
       · show a.length - (i + 1) < a.length - i;omega
       · exact ⟨h2, f_ h2 hn (decide_eq_false h3)⟩
       · cbv
         repeat' first | exact trivial | refine ⟨rfl, ?_⟩ | fail
   · have h2 : a.length ≤ i := by simp at h2; omega
     refine ⟨?_, trivial⟩;exact (hx.trans (mc (lh h2 hn))).symm
theorem HJ (l : List aw) (id : Int) : putAt l id ≤ l.length := by
 unfold putAt;have h := Bq (fun q : aw => decide (q.id > id)) l;have h : -1 ≤ kL l id ∧ kL l id < l.length := h
 split <;> omega
set_option maxHeartbeats 1000000 in
theorem BV (l : List aw) (p : aw) (hl : l.length ≤ bc) (x : List aw) (hx : x = ir l p) : Spec Tryz.prog 56 [lA .aG l, eA .aG p] (aE (lR .aG fun _ => x)) := by
 have hn : l.length ≤ 1048576 := hl;refine ay au Tryz.func56 rfl rfl (fr := true) (fun _ => by kernel_rfl) fun P hP hA => ?_;cbv;refine ⟨by show (0 + l.length) * 80 ≤ 140737488355328; omega, ?_⟩;cbv;refine ag.by hP (Bw l p.id (bw l p.id) rfl) ?_;cbv;refine Br.dec (fun h0 => ?_) (fun h0 => ?_) <;> cbv
 · have h0 : bw l p.id ≥ 0 := h0;have h1 := Bq (fun q : aw => q.id == p.id) l;have h1 : -1 ≤ bw l p.id ∧ bw l p.id < l.length := h1;have oi : 0 ≤ bw l p.id ∧ bw l p.id < (l.length : Int) := ⟨h0, h1.2⟩;refine ⟨oi, ?_⟩;cbv;refine Sv.mk (fun _ => l.set (bw l p.id).toNat p) rfl ?_;cbv;refine ⟨?_, trivial⟩;exact (hx.trans (if_pos h0)).symm
 have h0 : ¬ bw l p.id ≥ 0 := h0;have hx := hx.trans (if_neg h0);have hp := HJ l p.id;refine ag.by hP (O_ l p (kL l p.id) rfl) ?_;cbv;refine Br.dec (fun h1 => ?_) (fun h1 => ?_) <;> cbv
 · have h1 : kL l p.id < 0 := h1;have e : putAt l p.id = l.length := if_pos h1;refine bB.by hP (HI l p l.length (Nat.le_refl _) hl) ?_;cbv;refine ⟨?_, trivial⟩;rw [hx, e];rfl
 · have h1 : ¬ kL l p.id < 0 := h1;have e : putAt l p.id = (kL l p.id).toNat := if_neg h1;have e2 : kL l p.id = ((kL l p.id).toNat : Int) := by omega
   rw [e] at hp hx;generalize hg : (kL l p.id).toNat = g at hp hx e2;rw [e2];cbv;refine bB.by hP (HI l p g hp hl) ?_;cbv;refine ⟨?_, trivial⟩;exact hx.symm
theorem Pb {l : List aw} {id : Int} {i : Nat} (hi : l.length ≤ i) (hn : ∀ (j : Nat) y, j < i → l[j]? = some y → y.id < id) : putAt l id = l.length := by
 have e : kL l id = -1 := mc fun j y hy => by
  have := hn j y (Nat.lt_of_lt_of_le (bK hy) hi) hy;exact decide_eq_false (by omega)
 rw [putAt, if_pos (by omega)]
theorem Pc {l : List aw} {id : Int} {i : Nat} (hi : i < l.length) (hn : ∀ (j : Nat) y, j < i → l[j]? = some y → y.id < id) (h : l[i].id > id) : putAt l id = i := by
 have e : kL l id = (i : Int) := mb (p := fun q : aw => decide (q.id > id)) hi (decide_eq_true h) fun j y hj hy => by
  have := hn j y hj hy;exact decide_eq_false (by omega)
 rw [putAt, e, if_neg (by omega), Int.toNat_natCast]
set_option maxHeartbeats 1000000 in
theorem BW (l : List aw) (p : aw) (hl : l.length ≤ bc) (x : List aw) (hx : x = ir l p) : Spec Tryz.prog 92 [lA .aG l, eA .aG p] (aE (lR .aG fun _ => x)) := by
 have hn : l.length ≤ 1048576 := hl;refine ay au Tryz.func92 rfl rfl (fr := true) (fun _ => by kernel_rfl) fun P hP hA => ?_;cbv;refine ag.by hP (Bu l p.id (bw l p.id) rfl) ?_;cbv;refine ⟨by show (0 + l.length) * 80 ≤ 140737488355328; omega, ?_⟩;cbv;refine Br.dec (fun h0 => ?_) (fun h0 => ?_) <;> cbv
 · have h0 : bw l p.id ≥ 0 := h0;have h1 := Bq (fun q : aw => q.id == p.id) l;have h1 : -1 ≤ bw l p.id ∧ bw l p.id < l.length := h1;have oi : 0 ≤ bw l p.id ∧ bw l p.id < (l.length : Int) := ⟨h0, h1.2⟩;refine ⟨oi, ?_⟩;cbv;refine Sv.mk (fun _ => l.set (bw l p.id).toNat p) rfl ?_;cbv;refine ⟨?_, trivial⟩;exact (hx.trans (if_pos h0)).symm
 have h0 : ¬ bw l p.id ≥ 0 := h0;have hx := hx.trans (if_neg h0)
 have aX : ∀ q ∈ l, ¬ q.id = p.id := fun q hq he => by
   rcases im (fun q : aw => q.id == p.id) l with ⟨_, e⟩ | ⟨i, hi, e, _, _⟩
   · have := e q hq;simp [he] at this
   · have e : bw l p.id = (i : Int) := e;omega
 refine aU.by (X := Nat) (fun i => [(0, lA .aG l), (3, pN 0), (5, nT fun _ => i)]) (fun _ => [(0, .box ((bQ .aG fun _ => p).map .lf))]) (fun i => i ≤ l.length ∧ ∀ (j : Nat) y, j < i → l[j]? = some y → y.id < p.id) (fun i _ => l.length - i) 0 ⟨Nat.zero_le _, fun j y hj => by omega⟩ ?_ ?_
 · cbv
   repeat' first | exact trivial | refine ⟨rfl, ?_⟩ | fail
 · intro i ⟨hi, hb⟩;have o1 : 0 ≤ (0 : Int) ∧ (0 : Int) ≤ (i : Int) ∧ (i : Int) ≤ (l.length : Int) := ⟨by omega, by omega, by omega⟩
   have o2 : (([] : List aw).length + ((l.take ((i : Int)).toNat).drop ((0 : Int)).toNat).length) * 80 ≤ 140737488355328 := by
     rw [List.length_drop, List.length_take]; simp only [List.length_nil]; omega
   have o3 : 0 ≤ (i : Int) ∧ (i : Int) ≤ (l.length : Int) ∧ (l.length : Int) ≤ (l.length : Int) := ⟨by omega, by omega, by omega⟩
   have o5 : (([] ++ (l.take ((i : Int)).toNat).drop ((0 : Int)).toNat : List aw).length + 1) * 80 ≤ 140737488355328 := by
     rw [List.length_append, List.length_drop, List.length_take]; simp only [List.length_nil]; omega
   have o4 : (([] ++ (l.take ((i : Int)).toNat).drop ((0 : Int)).toNat ++ [p] : List aw).length + ((l.take ((l.length : Int)).toNat).drop ((i : Int)).toNat).length) * 80 ≤ 140737488355328 := by
     rw [List.length_append, List.length_append, List.length_drop, List.length_take, List.length_drop, List.length_take]; simp only [List.length_nil, List.length_cons]; omega
   have fin : putAt l p.id = i → [] ++ (l.take ((i : Int)).toNat).drop ((0 : Int)).toNat ++ [p] ++ (l.take ((l.length : Int)).toNat).drop ((i : Int)).toNat = x := fun e => by
     rw [hx, e]; simp
   cbv;refine Br.dec (fun h2 => ?_) (fun h2 => ?_) <;> cbv
   · have h2 : i < l.length := by simpa using h2
     refine ⟨l[i], by simp, get_cast l h2, ?_⟩;cbv;refine Br.dec (fun h3 => ?_) (fun h3 => ?_) <;> cbv
     · have h3 : l[i].id < p.id := h3;refine Ar.exact (by (try simp only [nc] at *); omega) (by (try simp only [nc] at *); omega) ?_;cbv;refine aP.by (i + 1) ?_ ?_ ?_
       · show l.length - (i + 1) < l.length - i;omega
       · exact ⟨h2, f_ h2 hb h3⟩
       · cbv
         repeat' first | exact trivial | refine ⟨rfl, ?_⟩ | fail
     · have h3 : ¬ l[i].id < p.id := h3;have e := Pc h2 hb (by have := aX _ (List.getElem_mem h2); omega)
       repeat' first
         | (refine Ob.mk o1 ?_; cbv)
         | (refine Ob.mk o3 ?_; cbv)
         | (refine Ob.mk o2 ?_; cbv)
         | (refine Ob.mk o4 ?_; cbv)
         | (refine Ob.mk o5 ?_; cbv)
         | refine And.intro ?_ ?_
         | fail
       all_goals first | exact trivial | exact ⟨fin e, trivial⟩ | exact fin e
   · have h2 : l.length ≤ i := by simp at h2; omega
     have e : putAt l p.id = i := (Pb h2 hb).trans (by omega)
     repeat' first
       | (refine Ob.mk o1 ?_; cbv)
       | (refine Ob.mk o3 ?_; cbv)
       | (refine Ob.mk o2 ?_; cbv)
       | (refine Ob.mk o4 ?_; cbv)
       | (refine Ob.mk o5 ?_; cbv)
       | refine And.intro ?_ ?_
       | fail
     all_goals first | exact trivial | exact ⟨fin e, trivial⟩ | exact fin e
def hZ (l : List Entry) (id : Int) : List Entry := cutAt l (cY l id)
theorem HK (l : List Entry) (id : Int) (hl : l.length ≤ bc) (x : List Entry) (hx : x = hZ l id) (b : Bool) (hb : b = decide (0 ≤ cY l id)) : Spec Tryz.prog 55 [lA .aH l, iA id] (aE (.aT [(false, [.own .aH fun _ => x]), (false, [.bool fun _ => b])])) := by
 have hn : l.length ≤ 1048576 := hl;refine ay au Tryz.func55 rfl rfl (fr := true) (fun _ => by kernel_rfl) fun P hP hA => ?_;cbv;refine ag.by hP (vK l hl) ?_;cbv;refine ag.by hP (Bv l id (cY l id) rfl) ?_;cbv;refine Br.dec (fun h0 => ?_) (fun h0 => ?_) <;> cbv
 · have h0 : cY l id < 0 := h0;obtain rfl : l = x := (hx.trans (if_pos h0)).symm;obtain rfl : b = false := hb.trans (decide_eq_false (by omega))
   repeat' first | exact trivial | refine ⟨rfl, ?_⟩ | fail
 · have h0 : ¬ cY l id < 0 := h0;obtain rfl : b = true := hb.trans (decide_eq_true (by omega));rcases im (fun e : Entry => e.aV == id) l with ⟨e, _⟩ | ⟨i, hi, e, _, _⟩
   · have : cY l id = -1 := e;omega
   have e : cY l id = (i : Int) := e;have hx : x = l.take i ++ l.drop (i + 1) := hx.trans (by rw [hZ, cutAt, e, if_neg (by omega), Int.toNat_natCast]);rw [e];cbv;refine Ar.exact (by (try simp only [nc] at *); omega) (by (try simp only [nc] at *); omega) ?_;cbv;refine bB.by hP (OU l i hi) ?_;cbv
   repeat' first | exact trivial | refine ⟨rfl, ?_⟩ | refine ⟨hx.symm, ?_⟩ | fail
theorem HL (l : List Entry) (id : Int) (hl : l.length ≤ bc) (x : List Entry) (hx : x = hZ l id) (b : Bool) (hb : b = decide (0 ≤ cY l id)) : Spec Tryz.prog 94 [lA .aH l, iA id] (aE (.aT [(false, [.own .aH fun _ => x]), (false, [.bool fun _ => b])])) := by
 have hn : l.length ≤ 1048576 := hl;refine ay au Tryz.func94 rfl rfl (fr := true) (fun _ => by kernel_rfl) fun P hP hA => ?_;cbv;refine ag.by hP (Bt l id (cY l id) rfl) ?_;cbv;refine Br.dec (fun h0 => ?_) (fun h0 => ?_) <;> cbv
 · have h0 : cY l id < 0 := h0;obtain rfl : l = x := (hx.trans (if_pos h0)).symm;obtain rfl : b = false := hb.trans (decide_eq_false (by omega));refine ag.by hP (vB l hl) ?_;cbv
   repeat' first | exact trivial | refine ⟨rfl, ?_⟩ | fail
 · have h0 : ¬ cY l id < 0 := h0;obtain rfl : b = true := hb.trans (decide_eq_true (by omega));rcases im (fun e : Entry => e.aV == id) l with ⟨e, _⟩ | ⟨i, hi, e, _, _⟩
   · have : cY l id = -1 := e;omega
   have e : cY l id = (i : Int) := e;have hx : x = l.take i ++ l.drop (i + 1) := hx.trans (by rw [hZ, cutAt, e, if_neg (by omega), Int.toNat_natCast]);have o1 : 0 ≤ (0 : Int) ∧ (0 : Int) ≤ (i : Int) ∧ (i : Int) ≤ (l.length : Int) := ⟨by omega, by omega, by omega⟩;have o3 : 0 ≤ (i : Int) + 1 ∧ (i : Int) + 1 ≤ (l.length : Int) ∧ (l.length : Int) ≤ (l.length : Int) := ⟨by omega, by omega, by omega⟩
   have hs : ((l.take ((i : Int)).toNat).drop ((0 : Int)).toNat).length ≤ bc := by
     rw [List.length_drop, List.length_take]; show _ ≤ 1048576; omega
   have o4 : (((l.take ((i : Int)).toNat).drop ((0 : Int)).toNat).length + ((l.take ((l.length : Int)).toNat).drop ((i : Int) + 1).toNat).length) * 32 ≤ 140737488355328 := by
     rw [List.length_drop, List.length_take, List.length_drop, List.length_take]; omega
   have fin : (l.take ((i : Int)).toNat).drop ((0 : Int)).toNat ++ (l.take ((l.length : Int)).toNat).drop ((i : Int) + 1).toNat = x := by
     rw [hx, show ((i : Int) + 1).toNat = i + 1 by omega]; simp
   rw [e];cbv
   repeat' first
     | exact trivial
     | (refine Ob.mk o1 ?_; cbv)
     | (refine Ob.mk o3 ?_; cbv)
     | (refine Ob.mk o4 ?_; cbv)
     | (refine ag.by hP (vB ((l.take ((i : Int)).toNat).drop ((0 : Int)).toNat) hs) ?_; cbv)
     | (refine Ar.exact (by (try simp only [nc] at *); omega) (by (try simp only [nc] at *); omega) ?_; cbv)
     | refine ⟨rfl, ?_⟩
     | refine ⟨fin, ?_⟩
     | refine And.intro ?_ ?_
     | fail
end Go.Proofs.YticeaiiffeccmaaGreat

