/- Parts of a proof. No conditions. -/

import Derived.Test.YtehpbaiclfilaaaGreatG09
import Derived.Test.YtehpbaiclfilaaaGreatG18
import Derived.Test.YtehpbaiclfilaaaGreatGKe
set_option linter.unusedSimpArgs false
set_option linter.unusedVariables false
namespace Go.Proofs.YtehpbaiclfilaaaGreat
open Go
set_option maxRecDepth 100000
def cutAt {α : Type} (l : List α) (a : Int) : List α := if a < 0 then l else l.take a.toNat ++ l.drop (a.toNat + 1)
def fo (l : List au) (id : Int) : List au := cutAt l (aP l id)
def ka (l : List au) (id : Int) : Int := hM (fun q => decide (q.id > id)) l
def putAt (l : List au) (id : Int) : Nat := if ka l id < 0 then l.length else (ka l id).toNat
def fT (l : List au) (p : au) : List au := if 0 ≤ aP l p.id then l.set (aP l p.id).toNat p else l.take (putAt l p.id) ++ p :: l.drop (putAt l p.id)
theorem J1 {l : List au} {q : au} {i : Nat} (h : aP l q.id = (i : Int)) : fT l q = l.set i q := by
 rw [fT, if_pos (by omega), h, Int.toNat_natCast]
theorem vF {l : List au} {id : Int} {i : Nat} (h : aP l id = (i : Int)) : fo l id = l.take i ++ l.drop (i + 1) := by
 rw [fo, cutAt, h, if_neg (by omega), Int.toNat_natCast]
theorem vG (l : List au) (id : Int) (hl : l.length ≤ aR) (x : List au) (hx : x = fo l id) : Spec Tryz.prog 110 [lA .az l, iA id] (aE (lR .az fun _ => x)) := by
 have hn : l.length ≤ 1048576 := hl;refine aH ay Tryz.func110 rfl rfl (fr := true) (fun _ => by kernel_rfl) fun P hP hA => ?_;cbv;refine ⟨by show (0 + l.length) * 80 ≤ 140737488355328; omega, ?_⟩;cbv;refine ag.by hP (DL l id (aP l id) rfl) ?_;cbv;refine Br.dec (fun h0 => ?_) (fun h0 => ?_) <;> cbv
 · have h0 : aP l id ≥ 0 := h0;rcases hO (fun p : au => p.id == id) l with ⟨e, _⟩ | ⟨i, hi, e, _, _⟩
   · have : aP l id = -1 := e;omega
   have e : aP l id = (i : Int) := e;have hx : x = l.take i ++ l.drop (i + 1) := hx.trans (by rw [fo, cutAt, e, if_neg (by omega), Int.toNat_natCast]);rw [e];cbv;refine Ar.exact (by (try simp only [nc] at *); omega) (by (try simp only [nc] at *); omega) ?_;cbv;refine aB.by hP (Rc l i hi) ?_;cbv;refine ⟨?_, trivial⟩;exact hx.symm
 · have h0 : ¬ aP l id ≥ 0 := h0;obtain rfl : l = x := (hx.trans (if_pos (by omega))).symm
   repeat' first | exact trivial | refine ⟨rfl, ?_⟩ | fail
theorem Rm (q p : au) : Spec Tryz.prog 148 [eA .az q, .c (.bZ (bQ .az fun _ => p) 0)] (aE (bR fun _ => decide (q.id > p.id))) := by
 refine aH ay Tryz.func148 rfl rfl (fr := true) (fun _ => by kernel_rfl) fun P hP hA => ?_;cbv
 repeat' first | exact trivial | refine ⟨rfl, ?_⟩ | fail
theorem Rn (a : List au) (p : au) (x : Int) (hx : x = ka a p.id) : Spec Tryz.prog 147 [lA .az a, .c (.fn 148 [.bZ (bQ .az fun _ => p) 0])] (aE (iR fun _ => x)) := by
 refine aH ay Tryz.func147 rfl rfl (fr := true) (fun _ => by kernel_rfl) fun P hP hA => ?_;have ha : a.length ≤ 9223372036854775807 := hA.1.1;cbv;refine aT.by (X := Nat) (fun i => [(0, lA .az a), (1, .c (.fn 148 [.bZ (bQ .az fun _ => p) 0])), (7, nT fun _ => a.length), (8, nT fun _ => i)]) (fun _ => []) (fun i => i ≤ a.length ∧ ∀ (j : Nat) y, j < i → a[j]? = some y → decide (y.id > p.id) = false) (fun i _ => a.length - i) 0 ⟨Nat.zero_le _, fun j y hj => by omega⟩ ?_ ?_
 · cbv
   repeat' first | exact trivial | refine ⟨rfl, ?_⟩ | fail
 · intro i ⟨hi, hn⟩;cbv;refine Br.dec (fun h2 => ?_) (fun h2 => ?_) <;> cbv
   · have h2 : i < a.length := by simpa using h2
     refine ⟨a[i], by simp, get_cast a h2, ?_⟩;cbv;refine ag.by hP (Rm a[i] p) ?_;cbv;refine Br.dec (fun h3 => ?_) (fun h3 => ?_) <;> cbv
     · have h3 : a[i].id > p.id := h3;refine ⟨?_, trivial⟩;exact (hx.trans (oM (p := fun q : au => decide (q.id > p.id)) h2 (decide_eq_true h3) hn)).symm
     · have h3 : ¬ a[i].id > p.id := h3;refine Ar.exact (by (try simp only [nc] at *); omega) (by (try simp only [nc] at *); omega) ?_;cbv;refine aJ.by (i + 1) ?_ ?_ ?_
       · show a.length - (i + 1) < a.length - i;omega
       · exact ⟨h2, il h2 hn (decide_eq_false h3)⟩
       · cbv
         repeat' first | exact trivial | refine ⟨rfl, ?_⟩ | fail
   · have h2 : a.length ≤ i := by simp at h2; omega
     refine ⟨?_, trivial⟩;exact (hx.trans (oO (np h2 hn))).symm
theorem J2 (l : List au) (id : Int) : putAt l id ≤ l.length := by
 unfold putAt;have h := DI (fun q : au => decide (q.id > id)) l;have h : -1 ≤ ka l id ∧ ka l id < l.length := h
 split <;> omega
set_option maxHeartbeats 1000000 in
theorem Eo (l : List au) (p : au) (hl : l.length ≤ aR) (x : List au) (hx : x = fT l p) : Spec Tryz.prog 97 [lA .az l, eA .az p] (aE (lR .az fun _ => x)) := by
 have hn : l.length ≤ 1048576 := hl;refine aH ay Tryz.func97 rfl rfl (fr := true) (fun _ => by kernel_rfl) fun P hP hA => ?_;cbv;refine ⟨by show (0 + l.length) * 80 ≤ 140737488355328; omega, ?_⟩;cbv;refine ag.by hP (DL l p.id (aP l p.id) rfl) ?_;cbv;refine Br.dec (fun h0 => ?_) (fun h0 => ?_) <;> cbv
 · have h0 : aP l p.id ≥ 0 := h0;have h1 := DI (fun q : au => q.id == p.id) l;have h1 : -1 ≤ aP l p.id ∧ aP l p.id < l.length := h1;have oi : 0 ≤ aP l p.id ∧ aP l p.id < (l.length : Int) := ⟨h0, h1.2⟩;refine ⟨oi, ?_⟩;cbv;refine Sv.mk (fun _ => l.set (aP l p.id).toNat p) rfl ?_;cbv;refine ⟨?_, trivial⟩;exact (hx.trans (if_pos h0)).symm
 have h0 : ¬ aP l p.id ≥ 0 := h0;have hx := hx.trans (if_neg h0);have hp := J2 l p.id;refine ag.by hP (Rn l p (ka l p.id) rfl) ?_;cbv;refine Br.dec (fun h1 => ?_) (fun h1 => ?_) <;> cbv
 · have h1 : ka l p.id < 0 := h1;have e : putAt l p.id = l.length := if_pos h1;refine aB.by hP (J0 l p l.length (Nat.le_refl _) hl) ?_;cbv;refine ⟨?_, trivial⟩;rw [hx, e];rfl
 · have h1 : ¬ ka l p.id < 0 := h1;have e : putAt l p.id = (ka l p.id).toNat := if_neg h1;have e2 : ka l p.id = ((ka l p.id).toNat : Int) := by omega
   rw [e] at hp hx;generalize hg : (ka l p.id).toNat = g at hp hx e2;rw [e2];cbv;refine aB.by hP (J0 l p g hp hl) ?_;cbv;refine ⟨?_, trivial⟩;exact hx.symm
theorem Ro {l : List au} {id : Int} {i : Nat} (hi : l.length ≤ i) (hn : ∀ (j : Nat) y, j < i → l[j]? = some y → y.id < id) : putAt l id = l.length := by
 have e : ka l id = -1 := oO fun j y hy => by
  have := hn j y (Nat.lt_of_lt_of_le (bq hy) hi) hy;exact decide_eq_false (by omega)
 rw [putAt, if_pos (by omega)]
theorem Rp {l : List au} {id : Int} {i : Nat} (hi : i < l.length) (hn : ∀ (j : Nat) y, j < i → l[j]? = some y → y.id < id) (h : l[i].id > id) : putAt l id = i := by
 have e : ka l id = (i : Int) := oM (p := fun q : au => decide (q.id > id)) hi (decide_eq_true h) fun j y hj hy => by
  have := hn j y hj hy;exact decide_eq_false (by omega)
 rw [putAt, e, if_neg (by omega), Int.toNat_natCast]
set_option maxHeartbeats 1000000 in
theorem Rq (l : List au) (p : au) (hl : l.length ≤ aR) (x : List au) (hx : x = fT l p) : Spec Tryz.prog 194 [lA .az l, eA .az p] (aE (lR .az fun _ => x)) := by
 have hn : l.length ≤ 1048576 := hl;refine aH ay Tryz.func194 rfl rfl (fr := true) (fun _ => by kernel_rfl) fun P hP hA => ?_;cbv;refine ag.by hP (DK l p.id (aP l p.id) rfl) ?_;cbv;refine ⟨by show (0 + l.length) * 80 ≤ 140737488355328; omega, ?_⟩;cbv;refine Br.dec (fun h0 => ?_) (fun h0 => ?_) <;> cbv
 · have h0 : aP l p.id ≥ 0 := h0;have h1 := DI (fun q : au => q.id == p.id) l;have h1 : -1 ≤ aP l p.id ∧ aP l p.id < l.length := h1;have oi : 0 ≤ aP l p.id ∧ aP l p.id < (l.length : Int) := ⟨h0, h1.2⟩;refine ⟨oi, ?_⟩;cbv;refine Sv.mk (fun _ => l.set (aP l p.id).toNat p) rfl ?_;cbv;refine ⟨?_, trivial⟩;exact (hx.trans (if_pos h0)).symm
 have h0 : ¬ aP l p.id ≥ 0 := h0;have hx := hx.trans (if_neg h0)
 have hne : ∀ q ∈ l, ¬ q.id = p.id := fun q hq he => by
   rcases hO (fun q : au => q.id == p.id) l with ⟨_, e⟩ | ⟨i, hi, e, _, _⟩
   · have := e q hq;simp [he] at this
   · have e : aP l p.id = (i : Int) := e;omega
 refine aT.by (X := Nat) (fun i => [(0, lA .az l), (3, pN 0), (5, nT fun _ => i)]) (fun _ => [(0, .box ((bQ .az fun _ => p).map .lf))]) (fun i => i ≤ l.length ∧ ∀ (j : Nat) y, j < i → l[j]? = some y → y.id < p.id) (fun i _ => l.length - i) 0 ⟨Nat.zero_le _, fun j y hj => by omega⟩ ?_ ?_
 · cbv
   repeat' first | exact trivial | refine ⟨rfl, ?_⟩ | fail
 · intro i ⟨hi, hb⟩;have o1 : 0 ≤ (0 : Int) ∧ (0 : Int) ≤ (i : Int) ∧ (i : Int) ≤ (l.length : Int) := ⟨by omega, by omega, by omega⟩
   have o2 : (([] : List au).length + ((l.take ((i : Int)).toNat).drop ((0 : Int)).toNat).length) * 80 ≤ 140737488355328 := by
     rw [List.length_drop, List.length_take]; simp only [List.length_nil]; omega
   have o3 : 0 ≤ (i : Int) ∧ (i : Int) ≤ (l.length : Int) ∧ (l.length : Int) ≤ (l.length : Int) := ⟨by omega, by omega, by omega⟩
   have o5 : (([] ++ (l.take ((i : Int)).toNat).drop ((0 : Int)).toNat : List au).length + 1) * 80 ≤ 140737488355328 := by
     rw [List.length_append, List.length_drop, List.length_take]; simp only [List.length_nil]; omega
   have o4 : (([] ++ (l.take ((i : Int)).toNat).drop ((0 : Int)).toNat ++ [p] : List au).length + ((l.take ((l.length : Int)).toNat).drop ((i : Int)).toNat).length) * 80 ≤ 140737488355328 := by
     rw [List.length_append, List.length_append, List.length_drop, List.length_take, List.length_drop, List.length_take]; simp only [List.length_nil, List.length_cons]; omega
   have fin : putAt l p.id = i → [] ++ (l.take ((i : Int)).toNat).drop ((0 : Int)).toNat ++ [p] ++ (l.take ((l.length : Int)).toNat).drop ((i : Int)).toNat = x := fun e => by
     rw [hx, e]; simp
   cbv;refine Br.dec (fun h2 => ?_) (fun h2 => ?_) <;> cbv
   · have h2 : i < l.length := by simpa using h2
     refine ⟨l[i], by simp, get_cast l h2, ?_⟩;cbv;refine Br.dec (fun h3 => ?_) (fun h3 => ?_) <;> cbv
     · have h3 : l[i].id < p.id := h3;refine Ar.exact (by (try simp only [nc] at *); omega) (by (try simp only [nc] at *); omega) ?_;cbv;refine aJ.by (i + 1) ?_ ?_ ?_
       · show l.length - (i + 1) < l.length - i;omega
       · exact ⟨h2, il h2 hb h3⟩
       · cbv
         repeat' first | exact trivial | refine ⟨rfl, ?_⟩ | fail
     · have h3 : ¬ l[i].id < p.id := h3;have e := Rp h2 hb (by have := hne _ (List.getElem_mem h2); omega)
       repeat' first
         | (refine Ob.mk o1 ?_; cbv)
         | (refine Ob.mk o3 ?_; cbv)
         | (refine Ob.mk o2 ?_; cbv)
         | (refine Ob.mk o4 ?_; cbv)
         | (refine Ob.mk o5 ?_; cbv)
         | refine And.intro ?_ ?_
         | fail
       all_goals first | exact trivial | exact ⟨fin e, trivial⟩ | exact fin e
   · have h2 : l.length ≤ i := by simp at h2; omega
     have e : putAt l p.id = i := (Ro h2 hb).trans (by omega)
     repeat' first
       | (refine Ob.mk o1 ?_; cbv)
       | (refine Ob.mk o3 ?_; cbv)
       | (refine Ob.mk o2 ?_; cbv)
       | (refine Ob.mk o4 ?_; cbv)
       | (refine Ob.mk o5 ?_; cbv)
       | refine And.intro ?_ ?_
       | fail
     all_goals first | exact trivial | exact ⟨fin e, trivial⟩ | exact fin e
def jq (l : List Entry) (id : Int) : List Entry := cutAt l (dm l id)
theorem J3 (l : List Entry) (id : Int) (hl : l.length ≤ aR) (x : List Entry) (hx : x = jq l id) (b : Bool) (hb : b = decide (0 ≤ dm l id)) : Spec Tryz.prog 106 [lA .aD l, iA id] (aE (.bc [(false, [.own .aD fun _ => x]), (false, [.bool fun _ => b])])) := by
 have hn : l.length ≤ 1048576 := hl;refine aH ay Tryz.func106 rfl rfl (fr := true) (fun _ => by kernel_rfl) fun P hP hA => ?_;cbv;refine ag.by hP (xH l hl) ?_;cbv;refine ag.by hP (zS l id (dm l id) rfl) ?_;cbv;refine Br.dec (fun h0 => ?_) (fun h0 => ?_) <;> cbv
 · have h0 : dm l id < 0 := h0;obtain rfl : l = x := (hx.trans (if_pos h0)).symm;obtain rfl : b = false := hb.trans (decide_eq_false (by omega))
   repeat' first | exact trivial | refine ⟨rfl, ?_⟩ | fail
 · have h0 : ¬ dm l id < 0 := h0;obtain rfl : b = true := hb.trans (decide_eq_true (by omega));rcases hO (fun e : Entry => e.bg == id) l with ⟨e, _⟩ | ⟨i, hi, e, _, _⟩
   · have : dm l id = -1 := e;omega
   have e : dm l id = (i : Int) := e;have hx : x = l.take i ++ l.drop (i + 1) := hx.trans (by rw [jq, cutAt, e, if_neg (by omega), Int.toNat_natCast]);rw [e];cbv;refine Ar.exact (by (try simp only [nc] at *); omega) (by (try simp only [nc] at *); omega) ?_;cbv;refine aB.by hP (Q9 l i hi) ?_;cbv
   repeat' first | exact trivial | refine ⟨rfl, ?_⟩ | refine ⟨hx.symm, ?_⟩ | fail
end Go.Proofs.YtehpbaiclfilaaaGreat

