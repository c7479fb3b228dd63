/- Parts of a proof. No conditions. -/

import Derived.Test.YtehpbaiclfilaaaGreatG08
import Derived.Test.YtehpbaiclfilaaaGreatG09
set_option linter.unusedSimpArgs false
set_option linter.unusedVariables false
namespace Go.Proofs.YtehpbaiclfilaaaGreat
open Go
set_option maxRecDepth 100000
set_option maxHeartbeats 4000000 in
theorem I8 (xs : List aA) (hn : xs.length ≤ aR) : bE Tryz.prog 243 [oN 0, iT fun _ => 0, nT fun _ => xs.length, .c (.fn 208 [])] [(0, aQ .aF fun _ => xs)]
   (dP (.bc []) [(0, .own .aF fun _ => dz bm xs)]) := by
 refine fF ay Tryz.func243 rfl rfl (fr := true) (fun _ => by kernel_rfl) rfl rfl fun P hP hA hB => ?_;have hs : xs.length ≤ 1048576 := hn;cbv;refine Ar.exact (by (try simp only [nc] at *); omega) (by (try simp only [nc] at *); omega) ?_;cbv;refine aT.by (X := Nat) (fun i => [(0, oN 0), (1, iT fun _ => 0), (2, nT fun _ => xs.length), (3, .c (.fn 208 [])), (8, nT fun _ => i)]) (fun i => [(0, aQ .aF fun _ => dz bm (xs.take i) ++ xs.drop i)]) (fun i => 1 ≤ i ∧ (i ≤ xs.length ∨ i = 1)) (fun i _ => xs.length - i) 1 ⟨Nat.le_refl _, .inr rfl⟩ ?_ ?_
 · cbv
   repeat' first | exact trivial | refine ⟨rfl, ?_⟩ | fail
   exact ⟨(F4 bm xs).symm, trivial⟩
 · intro i ⟨hi, oQ⟩;cbv;refine Br.dec (fun h2 => ?_) (fun h2 => ?_) <;> cbv
   rotate_left
   · refine ⟨?_, trivial⟩;have h2 : xs.length ≤ i := by simp at h2; omega
     show dz bm (xs.take i) ++ xs.drop i = dz bm xs;rw [List.take_of_length_le h2, List.drop_of_length_le h2, List.append_nil]
   have h2 : i < xs.length := by simpa using h2
   generalize hp : dz bm (xs.take i) = p;have hl : p.length = i := by rw [← hp, jy, List.length_take]; omega
   have DQ : qH bm p := by rw [← hp]; exact yM jz _
   refine aT.by (X := Nat) (fun j => [(0, oN 0), (1, iT fun _ => 0), (2, nT fun _ => xs.length), (3, .c (.fn 208 [])), (8, nT fun _ => i), (9, nT fun _ => j)]) (fun j => [(0, aQ .aF fun _ => slt p xs[i] (xs.drop (i + 1)) j)]) (fun j => j ≤ i ∧ ∀ y ∈ p.drop j, bm xs[i] y = true) (fun j _ => j) i ⟨Nat.le_refl _, by rw [List.drop_of_length_le (by omega)]; intro y hy; cases hy⟩ ?_ ?_
   · cbv
     repeat' first | exact trivial | refine ⟨rfl, ?_⟩ | fail
     refine ⟨?_, trivial⟩;show p ++ xs.drop i = slt p xs[i] (xs.drop (i + 1)) i;rw [show slt p xs[i] (xs.drop (i + 1)) i = p ++ xs[i] :: xs.drop (i + 1) by rw [slt, List.take_of_length_le (by omega), List.drop_of_length_le (by omega)]; rfl, List.drop_eq_getElem_cons h2]
   · intro j ⟨hj, hq⟩;have hlen : (slt p xs[i] (xs.drop (i + 1)) j).length = xs.length := by rw [F0 (by omega), List.length_drop]; omega
     have gj : (slt p xs[i] (xs.drop (i + 1)) j).getD ((j : Int)).toNat default = xs[i] := by rw [Int.toNat_natCast, List.getD_eq_getElem?_getD, F1 (by omega)]; rfl
     have stop : (0 < j → ∀ y, p[j - 1]? = some y → bm xs[i] y = false) → slt p xs[i] (xs.drop (i + 1)) j = dz bm (xs.take (i + 1)) ++ xs.drop (i + 1) := fun lE => by
       rw [F5 xs h2, hp];have e : p.take j ++ p.drop j = p := List.take_append_drop _ _;rw [← e, BM xs[i] ?_ (fun b hb => hq b (List.mem_of_mem_head? hb)), e, slt, List.append_assoc]
       · rfl
       · intro b hb;rcases Nat.eq_zero_or_pos j with h0 | h0
         · subst h0; simp at hb
         · have jd : j - 1 < p.length := by omega
           have e1 : p.take j = p.take (j - 1) ++ [p[j - 1]] := by
             have := List.take_add_one (l := p) (i := j - 1);rw [Nat.sub_add_cancel h0, List.getElem?_eq_getElem jd] at this;exact this
           rw [e1] at hb;refine FX jz ?_ (lE h0 _ (List.getElem?_eq_getElem jd)) b hb;rw [← e1];exact List.Pairwise.sublist (List.take_sublist _ _) DQ
     cbv;refine Br.dec (fun h3 => ?_) (fun h3 => ?_) <;> cbv
     · have h3 : 0 < j := by simpa using h3
       obtain ⟨y, hy⟩ : ∃ y, p[j - 1]? = some y := ⟨_, List.getElem?_eq_getElem (by omega)⟩
       have gp : (slt p xs[i] (xs.drop (i + 1)) j).getD ((j : Int) - 1).toNat default = y := by
         rw [show ((j : Int) - 1).toNat = j - 1 by omega, List.getD_eq_getElem?_getD, F2 (by omega) h3, hy]; rfl
       have oj : 0 ≤ (j : Int) ∧ (j : Int) < ((slt p xs[i] (xs.drop (i + 1)) j).length : Int) := by rw [hlen]; omega
       have op : 0 ≤ (j : Int) - 1 ∧ (j : Int) - 1 < ((slt p xs[i] (xs.drop (i + 1)) j).length : Int) := by rw [hlen]; omega
       repeat' first
         | (refine Ob.mk (by first | exact oj | exact op) ?_; cbv)
         | refine And.intro ?_ ?_
         | (refine Ar.exact (by (try simp only [nc] at *); omega) (by (try simp only [nc] at *); omega) ?_; cbv)
         | (refine ag.by hP (DE ((slt p xs[i] (xs.drop (i + 1)) j).getD ((j : Int)).toNat default) ((slt p xs[i] (xs.drop (i + 1)) j).getD ((j : Int) - 1).toNat default)) ?_; cbv)
         | fail
       all_goals refine Br.dec (fun h4 => ?_) (fun h4 => ?_) <;> cbv
       all_goals rw [gj, gp, F6] at h4
       all_goals first
         | (have h5 : bm xs[i] y = true := h4
            have uk : ∀ z ∈ p.drop (j - 1), bm xs[i] z = true := fun z hz => by
              have e : p.drop (j - 1) = y :: p.drop j := by
               have jd : j - 1 < p.length := by omega
               rw [List.drop_eq_getElem_cons jd, Nat.sub_add_cancel h3];rw [List.getElem?_eq_getElem jd] at hy;cases hy; rfl
              rw [e] at hz;rcases List.mem_cons.1 hz with rfl | hz
              · exact h5
              · exact hq z hz
            have jd : ((j : Int) - 1).toNat = j - 1 := by omega
            clear h4
            repeat' first
              | (refine Ob.mk (by first | exact oj | exact op | (simp only [List.length_set, hlen, nc] at *; omega)) ?_; cbv)
              | refine And.intro ?_ ?_
              | (refine Ar.exact (by (try simp only [nc] at *); omega) (by (try simp only [nc] at *); omega) ?_; cbv)
              | (refine Sv.mk (fun _ => (slt p xs[i] (xs.drop (i + 1)) j).set j y) (by
                show (slt p xs[i] (xs.drop (i + 1)) j).set ((j : Int)).toNat ((slt p xs[i] (xs.drop (i + 1)) j).getD ((j : Int) - 1).toNat default) = _;rw [gp, Int.toNat_natCast]) ?_; cbv)
              | (refine Sv.mk (fun _ => (slt p xs[i] (xs.drop (i + 1)) j).set (j - 1) xs[i]) (by
                show (slt p xs[i] (xs.drop (i + 1)) j).set ((j : Int) - 1).toNat ((slt p xs[i] (xs.drop (i + 1)) j).getD ((j : Int)).toNat default) = _;rw [gj, jd]) ?_; cbv)
              | (refine Sv.mk (fun _ => slt p xs[i] (xs.drop (i + 1)) (j - 1)) (by
                show ((slt p xs[i] (xs.drop (i + 1)) j).set j y).set ((j : Int) - 1).toNat ((slt p xs[i] (xs.drop (i + 1)) j).getD ((j : Int)).toNat default) = _;rw [gj, jd]; exact BP (by omega) h3 hy) ?_; cbv)
              | (refine Sv.mk (fun _ => slt p xs[i] (xs.drop (i + 1)) (j - 1)) (by
                show ((slt p xs[i] (xs.drop (i + 1)) j).set (j - 1) xs[i]).set ((j : Int)).toNat ((slt p xs[i] (xs.drop (i + 1)) j).getD ((j : Int) - 1).toNat default) = _;rw [gp, Int.toNat_natCast]; exact F3 (by omega) h3 hy) ?_; cbv)
              | (refine aJ.by (j - 1) (show j - 1 < j by omega) ⟨by omega, uk⟩ ?_; cbv)
              | exact trivial
              | refine ⟨rfl, ?_⟩
              | refine ⟨by simp only [nc] at *; omega, ?_⟩
              | fail)
         | (have h5 : bm xs[i] y = false := by simpa using h4
            have st := stop fun _ z hz => by rw [hy] at hz; cases hz; exact h5
            clear h4
            repeat' first
              | (refine Ar.exact (by (try simp only [nc] at *); omega) (by (try simp only [nc] at *); omega) ?_; cbv)
              | (refine aJ.by (i + 1) (show xs.length - (i + 1) < xs.length - i by omega) ⟨by omega, .inl h2⟩ ?_; cbv)
              | exact trivial
              | refine ⟨rfl, ?_⟩
              | refine ⟨st, ?_⟩
              | fail)
     · have h3 : ¬ 0 < j := by simpa using h3
       refine Ar.exact (by (try simp only [nc] at *); omega) (by (try simp only [nc] at *); omega) ?_;cbv;refine aJ.by (i + 1) ?_ ?_ ?_
       · show xs.length - (i + 1) < xs.length - i;omega
       · exact ⟨by omega, .inl h2⟩
       · cbv
         repeat' first | exact trivial | refine ⟨rfl, ?_⟩ | fail
         refine ⟨?_, trivial⟩;exact stop fun h => absurd h h3
theorem PX (xs : List aA) (bw : xs.length ≤ 10) : bE Tryz.prog 235 [oN 0, nT fun _ => xs.length, .c (.fn 208 [])] [(0, aQ .aF fun _ => xs)]
   (dP (.bc []) [(0, .own .aF fun _ => dz bm xs)]) := by
 refine fF ay Tryz.func235 rfl rfl (fr := true) (fun _ => by kernel_rfl) rfl rfl fun P hP hA hB => ?_;cbv;refine aT.by (X := Unit) (fun _ => [(0, oN 0), (1, nT fun _ => xs.length), (2, .c (.fn 208 [])), (6, iT fun _ => 20), (7, iT fun _ => 0), (8, iT fun _ => 20)]) (fun _ => [(0, aQ .aF fun _ => xs)]) (fun _ => True) (fun _ _ => 0) () trivial ?_ ?_
 · cbv
   repeat' first | exact trivial | refine ⟨rfl, ?_⟩ | fail
 · intro _ _;cbv;refine Br.dec (fun h2 => ?_) (fun h2 => ?_) <;> cbv
   · exfalso;simp only [nc] at *;omega
   refine aB.by hP (I8 xs (Nat.le_trans bw (by decide))) ?_;cbv;refine aT.by (X := Unit) (fun _ => [(0, oN 0), (1, nT fun _ => xs.length), (2, .c (.fn 208 [])), (6, iT fun _ => 20)]) (fun _ => [(0, aQ .aF fun _ => dz bm xs)]) (fun _ => True) (fun _ _ => 0) () trivial ?_ ?_
   · cbv
     repeat' first | exact trivial | refine ⟨rfl, ?_⟩ | fail
   · intro _ _;cbv;refine Br.dec (fun h3 => ?_) (fun h3 => ?_) <;> cbv
     · exfalso;simp only [nc] at *;omega
     repeat' first | exact trivial | refine ⟨rfl, ?_⟩ | fail
theorem PY (xs : List aA) (bw : xs.length ≤ 10) : bE Tryz.prog 214 [oN 0, .c (.fn 208 [])] [(0, aQ .aF fun _ => xs)]
  (dP (.bc []) [(0, .own .aF fun _ => dz bm xs)]) := by
 refine fF ay Tryz.func214 rfl rfl (fr := true) (fun _ => by kernel_rfl) rfl rfl fun P hP hA hB => ?_;cbv;refine aB.by hP (PX xs bw) ?_;cbv
 repeat' first | exact trivial | refine ⟨rfl, ?_⟩ | fail
theorem PZ (n : Int) (h0 : 0 ≤ n) (bw : n ≤ 10) : Spec Tryz.prog 252 [.c (.lf (.int .u64 fun _ => n))] (ix Int (fun _ => True) fun x => iR fun _ => x) := by
 refine aH ay Tryz.func252 rfl rfl (fr := true) (fun _ => by kernel_rfl) fun P hP hA => ?_;have w8 : IntKind.u8.wrap n = n := qy (v_.2 ⟨h0, by omega⟩);cbv;refine Br.dec (fun h1 => ?_) (fun h1 => ?_) <;> cbv
 · exfalso;omega
 refine Br.dec (fun h2 => ?_) (fun h2 => ?_) <;> cbv
 · exfalso;omega
 refine Br.dec (fun h3 => ?_) (fun h3 => ?_) <;> cbv
 · exfalso;omega
 refine ⟨⟨?_, ?_⟩, ?_⟩
 · show 0 ≤ IntKind.u8.wrap n;rw [w8]; exact h0
 · show IntKind.u8.wrap n < _;rw [w8];exact Int.lt_of_lt_of_le (b := 256) (by omega) (by decide)
 cbv;refine Ar.exact ?_ ?_ ?_
 · dsimp only
   generalize List.getD _ _ _ = q;have := q.toNat_lt;simp only [nc];omega
 · dsimp only
   generalize List.getD _ _ _ = q;have := q.toNat_lt;simp only [nc];omega
 cbv;exact ⟨_, trivial, jW.mk rfl trivial⟩
theorem P1 (n : Int) (h0 : 0 ≤ n) (bw : n ≤ 10) : Spec Tryz.prog 231 [.c (.lf (.int .u64 fun _ => n))] (ix Int (fun _ => True) fun x => iR fun _ => x) := by
 refine aH ay Tryz.func231 rfl rfl (fr := true) (fun _ => by kernel_rfl) fun P hP hA => ?_;cbv;refine ag.ex hP (PZ n h0 bw) fun x hx => ?_;cbv;refine ⟨x, trivial, ?_⟩;cbv
 repeat' first | exact trivial | refine ⟨rfl, ?_⟩ | fail
theorem P2 (xs : List aA) (bw : xs.length ≤ 10) (l : Int) : bE Tryz.prog 230 [oN 0, iT fun _ => 0, nT fun _ => xs.length, iT fun _ => l, .c (.fn 208 [])] [(0, aQ .aF fun _ => xs)]
   (dP (.bc []) [(0, .own .aF fun _ => dz bm xs)]) := by
 refine fF ay Tryz.func230 rfl rfl (fr := true) (fun _ => by kernel_rfl) rfl rfl fun P hP hA hB => ?_;cbv;refine aT.by (X := Unit) (fun _ => [(0, oN 0), (1, iT fun _ => 0), (2, nT fun _ => xs.length), (3, iT fun _ => l), (4, .c (.fn 208 []))]) (fun _ => [(0, aQ .aF fun _ => xs)]) (fun _ => True) (fun _ _ => 0) () trivial ?_ ?_
 · cbv
   repeat' first | exact trivial | refine ⟨rfl, ?_⟩ | fail
 · intro _ _;cbv;refine Ar.exact (by (try simp only [nc] at *); omega) (by (try simp only [nc] at *); omega) ?_;cbv;refine Br.dec (fun h2 => ?_) (fun h2 => ?_) <;> cbv
   rotate_left
   · exfalso;simp only [nc] at *;omega
   refine aB.by hP (I8 xs (Nat.le_trans bw (by decide))) ?_;cbv
   repeat' first | exact trivial | refine ⟨rfl, ?_⟩ | fail
theorem P3 (xs : List aA) (bw : xs.length ≤ 10) : bE Tryz.prog 209 [oN 0, .c (.fn 208 [])] [(0, aQ .aF fun _ => xs)]
  (dP (.bc []) [(0, .own .aF fun _ => dz bm xs)]) := by
 refine fF ay Tryz.func209 rfl rfl (fr := true) (fun _ => by kernel_rfl) rfl rfl fun P hP hA hB => ?_;have I9 : IntKind.u64.wrap (xs.length : Int) = (xs.length : Int) := qy (Fp.2 ⟨by omega, by omega⟩);have g0 : 0 ≤ IntKind.u64.wrap (xs.length : Int) := by rw [I9]; omega
 have g1 : IntKind.u64.wrap (xs.length : Int) ≤ 10 := by rw [I9]; omega
 cbv;refine ag.ex hP (P1 (IntKind.u64.wrap (xs.length : Int)) g0 g1) fun l hl => ?_;cbv;refine aB.by hP (P2 xs bw l) ?_;cbv
 repeat' first | exact trivial | refine ⟨rfl, ?_⟩ | fail
set_option maxHeartbeats 4000000 in
theorem P4 (xs : List Entry) (hn : xs.length ≤ aR) : bE Tryz.prog 225 [oN 0, iT fun _ => 0, nT fun _ => xs.length, .c (.fn 142 [])] [(0, aQ .aD fun _ => xs)]
   (dP (.bc []) [(0, .own .aD fun _ => dz aY xs)]) := by
 refine fF ay Tryz.func225 rfl rfl (fr := true) (fun _ => by kernel_rfl) rfl rfl fun P hP hA hB => ?_;have hs : xs.length ≤ 1048576 := hn;cbv;refine Ar.exact (by (try simp only [nc] at *); omega) (by (try simp only [nc] at *); omega) ?_;cbv;refine aT.by (X := Nat) (fun i => [(0, oN 0), (1, iT fun _ => 0), (2, nT fun _ => xs.length), (3, .c (.fn 142 [])), (8, nT fun _ => i)]) (fun i => [(0, aQ .aD fun _ => dz aY (xs.take i) ++ xs.drop i)]) (fun i => 1 ≤ i ∧ (i ≤ xs.length ∨ i = 1)) (fun i _ => xs.length - i) 1 ⟨Nat.le_refl _, .inr rfl⟩ ?_ ?_
 · cbv
   repeat' first | exact trivial | refine ⟨rfl, ?_⟩ | fail
   exact ⟨(F4 aY xs).symm, trivial⟩
 · intro i ⟨hi, oQ⟩;cbv;refine Br.dec (fun h2 => ?_) (fun h2 => ?_) <;> cbv
   rotate_left
   · refine ⟨?_, trivial⟩;have h2 : xs.length ≤ i := by simp at h2; omega
     show dz aY (xs.take i) ++ xs.drop i = dz aY xs;rw [List.take_of_length_le h2, List.drop_of_length_le h2, List.append_nil]
   have h2 : i < xs.length := by simpa using h2
   generalize hp : dz aY (xs.take i) = p;have hl : p.length = i := by rw [← hp, jy, List.length_take]; omega
   have DQ : qH aY p := by rw [← hp]; exact yM lD _
   refine aT.by (X := Nat) (fun j => [(0, oN 0), (1, iT fun _ => 0), (2, nT fun _ => xs.length), (3, .c (.fn 142 [])), (8, nT fun _ => i), (9, nT fun _ => j)]) (fun j => [(0, aQ .aD fun _ => slt p xs[i] (xs.drop (i + 1)) j)]) (fun j => j ≤ i ∧ ∀ y ∈ p.drop j, aY xs[i] y = true) (fun j _ => j) i ⟨Nat.le_refl _, by rw [List.drop_of_length_le (by omega)]; intro y hy; cases hy⟩ ?_ ?_
   · cbv
     repeat' first | exact trivial | refine ⟨rfl, ?_⟩ | fail
     refine ⟨?_, trivial⟩;show p ++ xs.drop i = slt p xs[i] (xs.drop (i + 1)) i;rw [show slt p xs[i] (xs.drop (i + 1)) i = p ++ xs[i] :: xs.drop (i + 1) by rw [slt, List.take_of_length_le (by omega), List.drop_of_length_le (by omega)]; rfl, List.drop_eq_getElem_cons h2]
   · intro j ⟨hj, hq⟩;have hlen : (slt p xs[i] (xs.drop (i + 1)) j).length = xs.length := by rw [F0 (by omega), List.length_drop]; omega
     have gj : (slt p xs[i] (xs.drop (i + 1)) j).getD ((j : Int)).toNat default = xs[i] := by rw [Int.toNat_natCast, List.getD_eq_getElem?_getD, F1 (by omega)]; rfl
     have stop : (0 < j → ∀ y, p[j - 1]? = some y → aY xs[i] y = false) → slt p xs[i] (xs.drop (i + 1)) j = dz aY (xs.take (i + 1)) ++ xs.drop (i + 1) := fun lE => by
       rw [F5 xs h2, hp];have e : p.take j ++ p.drop j = p := List.take_append_drop _ _;rw [← e, BM xs[i] ?_ (fun b hb => hq b (List.mem_of_mem_head? hb)), e, slt, List.append_assoc]
       · rfl
       · intro b hb;rcases Nat.eq_zero_or_pos j with h0 | h0
         · subst h0; simp at hb
         · have jd : j - 1 < p.length := by omega
           have e1 : p.take j = p.take (j - 1) ++ [p[j - 1]] := by
             have := List.take_add_one (l := p) (i := j - 1);rw [Nat.sub_add_cancel h0, List.getElem?_eq_getElem jd] at this;exact this
           rw [e1] at hb;refine FX lD ?_ (lE h0 _ (List.getElem?_eq_getElem jd)) b hb;rw [← e1];exact List.Pairwise.sublist (List.take_sublist _ _) DQ
     cbv;refine Br.dec (fun h3 => ?_) (fun h3 => ?_) <;> cbv
     · have h3 : 0 < j := by simpa using h3
       obtain ⟨y, hy⟩ : ∃ y, p[j - 1]? = some y := ⟨_, List.getElem?_eq_getElem (by omega)⟩
       have gp : (slt p xs[i] (xs.drop (i + 1)) j).getD ((j : Int) - 1).toNat default = y := by
         rw [show ((j : Int) - 1).toNat = j - 1 by omega, List.getD_eq_getElem?_getD, F2 (by omega) h3, hy]; rfl
       have oj : 0 ≤ (j : Int) ∧ (j : Int) < ((slt p xs[i] (xs.drop (i + 1)) j).length : Int) := by rw [hlen]; omega
       have op : 0 ≤ (j : Int) - 1 ∧ (j : Int) - 1 < ((slt p xs[i] (xs.drop (i + 1)) j).length : Int) := by rw [hlen]; omega
       repeat' first
         | (refine Ob.mk (by first | exact oj | exact op) ?_; cbv)
         | refine And.intro ?_ ?_
         | (refine Ar.exact (by (try simp only [nc] at *); omega) (by (try simp only [nc] at *); omega) ?_; cbv)
         | (refine ag.by hP (IQ ((slt p xs[i] (xs.drop (i + 1)) j).getD ((j : Int)).toNat default) ((slt p xs[i] (xs.drop (i + 1)) j).getD ((j : Int) - 1).toNat default)) ?_; cbv)
         | fail
       all_goals refine Br.dec (fun h4 => ?_) (fun h4 => ?_) <;> cbv
       all_goals rw [gj, gp, F6] at h4
       all_goals first
         | (have h5 : aY xs[i] y = true := h4
            have uk : ∀ z ∈ p.drop (j - 1), aY xs[i] z = true := fun z hz => by
              have e : p.drop (j - 1) = y :: p.drop j := by
               have jd : j - 1 < p.length := by omega
               rw [List.drop_eq_getElem_cons jd, Nat.sub_add_cancel h3];rw [List.getElem?_eq_getElem jd] at hy;cases hy; rfl
              rw [e] at hz;rcases List.mem_cons.1 hz with rfl | hz
              · exact h5
              · exact hq z hz
            have jd : ((j : Int) - 1).toNat = j - 1 := by omega
            clear h4
            repeat' first
              | (refine Ob.mk (by first | exact oj | exact op | (simp only [List.length_set, hlen, nc] at *; omega)) ?_; cbv)
              | refine And.intro ?_ ?_
              | (refine Ar.exact (by (try simp only [nc] at *); omega) (by (try simp only [nc] at *); omega) ?_; cbv)
              | (refine Sv.mk (fun _ => (slt p xs[i] (xs.drop (i + 1)) j).set j y) (by
                show (slt p xs[i] (xs.drop (i + 1)) j).set ((j : Int)).toNat ((slt p xs[i] (xs.drop (i + 1)) j).getD ((j : Int) - 1).toNat default) = _;rw [gp, Int.toNat_natCast]) ?_; cbv)
              | (refine Sv.mk (fun _ => (slt p xs[i] (xs.drop (i + 1)) j).set (j - 1) xs[i]) (by
                show (slt p xs[i] (xs.drop (i + 1)) j).set ((j : Int) - 1).toNat ((slt p xs[i] (xs.drop (i + 1)) j).getD ((j : Int)).toNat default) = _;rw [gj, jd]) ?_; cbv)
              | (refine Sv.mk (fun _ => slt p xs[i] (xs.drop (i + 1)) (j - 1)) (by
                show ((slt p xs[i] (xs.drop (i + 1)) j).set j y).set ((j : Int) - 1).toNat ((slt p xs[i] (xs.drop (i + 1)) j).getD ((j : Int)).toNat default) = _;rw [gj, jd]; exact BP (by omega) h3 hy) ?_; cbv)
              | (refine Sv.mk (fun _ => slt p xs[i] (xs.drop (i + 1)) (j - 1)) (by
                show ((slt p xs[i] (xs.drop (i + 1)) j).set (j - 1) xs[i]).set ((j : Int)).toNat ((slt p xs[i] (xs.drop (i + 1)) j).getD ((j : Int) - 1).toNat default) = _;rw [gp, Int.toNat_natCast]; exact F3 (by omega) h3 hy) ?_; cbv)
              | (refine aJ.by (j - 1) (show j - 1 < j by omega) ⟨by omega, uk⟩ ?_; cbv)
              | exact trivial
              | refine ⟨rfl, ?_⟩
              | refine ⟨by simp only [nc] at *; omega, ?_⟩
              | fail)
         | (have h5 : aY xs[i] y = false := by simpa using h4
            have st := stop fun _ z hz => by rw [hy] at hz; cases hz; exact h5
            clear h4
            repeat' first
              | (refine Ar.exact (by (try simp only [nc] at *); omega) (by (try simp only [nc] at *); omega) ?_; cbv)
              | (refine aJ.by (i + 1) (show xs.length - (i + 1) < xs.length - i by omega) ⟨by omega, .inl h2⟩ ?_; cbv)
              | exact trivial
              | refine ⟨rfl, ?_⟩
              | refine ⟨st, ?_⟩
              | fail)
     · have h3 : ¬ 0 < j := by simpa using h3
       refine Ar.exact (by (try simp only [nc] at *); omega) (by (try simp only [nc] at *); omega) ?_;cbv;refine aJ.by (i + 1) ?_ ?_ ?_
       · show xs.length - (i + 1) < xs.length - i;omega
       · exact ⟨by omega, .inl h2⟩
       · cbv
         repeat' first | exact trivial | refine ⟨rfl, ?_⟩ | fail
         refine ⟨?_, trivial⟩;exact stop fun h => absurd h h3
theorem P5 {α : Type} {xs : List α} (h : xs.length ≤ 10) : xs.length ≤ aR := Nat.le_trans h (by decide)
theorem P6 (xs : List Entry) (bw : xs.length ≤ 10) : bE Tryz.prog 201 [oN 0, nT fun _ => xs.length, .c (.fn 142 [])] [(0, aQ .aD fun _ => xs)]
   (dP (.bc []) [(0, .own .aD fun _ => dz aY xs)]) := by
 refine fF ay Tryz.func201 rfl rfl (fr := true) (fun _ => by kernel_rfl) rfl rfl fun P hP hA hB => ?_;cbv;refine aT.by (X := Unit) (fun _ => [(0, oN 0), (1, nT fun _ => xs.length), (2, .c (.fn 142 [])), (6, iT fun _ => 20), (7, iT fun _ => 0), (8, iT fun _ => 20)]) (fun _ => [(0, aQ .aD fun _ => xs)]) (fun _ => True) (fun _ _ => 0) () trivial ?_ ?_
 · cbv
   repeat' first | exact trivial | refine ⟨rfl, ?_⟩ | fail
 · intro _ _;cbv;refine Br.dec (fun h2 => ?_) (fun h2 => ?_) <;> cbv
   · exfalso;simp only [nc] at *;omega
   refine aB.by hP (P4 xs (P5 bw)) ?_;cbv;refine aT.by (X := Unit) (fun _ => [(0, oN 0), (1, nT fun _ => xs.length), (2, .c (.fn 142 [])), (6, iT fun _ => 20)]) (fun _ => [(0, aQ .aD fun _ => dz aY xs)]) (fun _ => True) (fun _ _ => 0) () trivial ?_ ?_
   · cbv
     repeat' first | exact trivial | refine ⟨rfl, ?_⟩ | fail
   · intro _ _;cbv;refine Br.dec (fun h3 => ?_) (fun h3 => ?_) <;> cbv
     · exfalso;simp only [nc] at *;omega
     repeat' first | exact trivial | refine ⟨rfl, ?_⟩ | fail
theorem P7 (xs : List Entry) (bw : xs.length ≤ 10) : bE Tryz.prog 141 [oN 0, .c (.fn 142 [])] [(0, aQ .aD fun _ => xs)]
  (dP (.bc []) [(0, .own .aD fun _ => dz aY xs)]) := by
 refine fF ay Tryz.func141 rfl rfl (fr := true) (fun _ => by kernel_rfl) rfl rfl fun P hP hA hB => ?_;cbv;refine aB.by hP (P6 xs bw) ?_;cbv
 repeat' first | exact trivial | refine ⟨rfl, ?_⟩ | fail
def DR (R : bp) : List C := [.lf (.list .int fun _ => R.ah), .lf (.int .i64 fun _ => R.cm), .lf (.int .i64 fun _ => R.room), .lf (.int .i64 fun _ => R.size), .lf (.int .i64 fun _ => R.period), .lf (.int .i64 fun _ => R.ck), .lf (.int .i64 fun _ => R.rest), .lf (.int .i64 fun _ => R.tries), .lf (.int .i64 fun _ => R.bP)]
def fx (R : bp) (c now : Int) (l : List au) : List Entry := (l.filter fun p => fu R p now && p.cf == c).map fun p => cn R p now
def cH (R : bp) (l : List au) (c now : Int) : List Entry := dz aY (fx R c now l)
def fP (c : Int) (l : List au) : List aA := (l.filter fun p => p.st == 2 && p.cf == c).map fun p => ⟨p.bW, p.id⟩
def gF (l : List au) (c : Int) : List aA := dz bm (fP c l)
section
variable {α β : Type} (q : α → Bool) (f : α → β)
theorem vo {l : List α} {i : Nat} (h : i < l.length) (hq : q l[i] = true) : ((l.take i).filter q).map f ++ [f l[i]] = ((l.take (i + 1)).filter q).map f := by
 rw [List.take_add_one, List.getElem?_eq_getElem h, List.filter_append, List.map_append]; simp [hq]
theorem rX {l : List α} {i : Nat} (h : i < l.length) (hq : q l[i] = false) : ((l.take i).filter q).map f = ((l.take (i + 1)).filter q).map f := by
 rw [List.take_add_one, List.getElem?_eq_getElem h, List.filter_append, List.map_append]; simp [hq]
theorem DS {l : List α} : ((l.filter q).map f).length ≤ l.length := by rw [List.length_map]; exact List.length_filter_le _ _
theorem P8 {l : List α} {i : Nat} (h : i < l.length) (hq : q l[i] = true) : ((l.drop i).filter q).map f = f l[i] :: ((l.drop (i + 1)).filter q).map f := by
 rw [List.drop_eq_getElem_cons h, List.filter_cons_of_pos hq]; rfl
theorem P9 {l : List α} {i : Nat} (h : i < l.length) (hq : q l[i] = false) : ((l.drop i).filter q).map f = ((l.drop (i + 1)).filter q).map f := by
 rw [List.drop_eq_getElem_cons h, List.filter_cons_of_neg (by rw [hq]; simp)]
end
theorem zX (R : bp) (c now : Int) (l : List au) : (fx R c now l).length ≤ l.length := DS _ _
theorem P_ {l : List Entry} : (kB aY l).length = l.length := by rw [FU lD, jy]
theorem zY (R : bp) (l : List au) (c now : Int) (hs : R.ah.length ≤ aR) (hl : l.length ≤ aR) : Spec Tryz.prog 40 [gu R, lA .az l, iA c, iA now] (aE (lR .aD fun _ => cH R l c now)) := by
 refine aH ay Tryz.func40 rfl rfl (fr := true) (fun _ => by kernel_rfl) fun P hP hA => ?_;have jR : l.length ≤ 1048576 := hl;cbv;refine Ar.exact (by (try simp only [nc] at *); omega) (by (try simp only [nc] at *); omega) ?_;cbv;refine aT.by (X := Nat) (fun m => [(1, lA .az l), (2, iA c), (3, iA now), (4, pN 0), (9, oN 1), (10, iT fun _ => (m : Int) - 1)]) (fun m => [(0, .box (DR R)), (1, aQ .aD fun _ => kB aY (fx R c now (l.drop m)))]) (fun m => m ≤ l.length) (fun m _ => m) l.length (Nat.le_refl _) ?_ ?_
 · cbv
   repeat' first | exact trivial | refine ⟨rfl, ?_⟩ | fail
   refine ⟨?_, trivial⟩;show [] = kB aY (fx R c now (l.drop l.length));rw [List.drop_length]; rfl
 · intro m hm;cbv;refine Br.dec (fun h2 => ?_) (fun h2 => ?_) <;> cbv
   rotate_left
   · have h2 : m = 0 := by simp only [nc] at *; omega
     subst h2;refine ⟨?_, trivial⟩;show kB aY (fx R c now (l.drop 0)) = cH R l c now;rw [List.drop_zero, FU lD]; rfl
   have h2 : 1 ≤ m := by simp only [nc] at *; omega
   obtain ⟨i, rfl⟩ : ∃ i, m = i + 1 := ⟨m - 1, by omega⟩;have hi : i < l.length := hm;have ei : (((i + 1 : Nat) : Int) - 1).toNat = i := by omega
   have hlen : (kB aY (fx R c now (l.drop (i + 1)))).length ≤ aR := by
     rw [P_];exact Nat.le_trans (zX _ _ _ _) (by rw [List.length_drop]; exact Nat.le_trans (Nat.sub_le _ _) hl)
   have I_ : 0 ≤ ((i + 1 : Nat) : Int) - 1 := by omega
   have cT : l[(((i + 1 : Nat) : Int) - 1).toNat]? = some l[i] := by rw [ei]; exact List.getElem?_eq_getElem hi
   have no : (fu R l[i] now && l[i].cf == c) = false → kB aY (fx R c now (l.drop (i + 1))) = kB aY (fx R c now (l.drop i)) := fun h => by
     unfold fx; rw [P9 _ _ hi h]
   have yes : (fu R l[i] now && l[i].cf == c) = true → bG aY (cn R l[i] now) (kB aY (fx R c now (l.drop (i + 1)))) = kB aY (fx R c now (l.drop i)) := fun h => by
     unfold fx; rw [P8 _ _ hi h]; rfl
   have e1 : ((i + 1 : Nat) : Int) - 1 - 1 = (i : Int) - 1 := by omega
   refine ⟨l[i], I_, cT, ?_⟩;cbv
   repeat' first
     | (refine ag.by hP (PD R l[i] now hs (cn R l[i] now) rfl (fu R l[i] now) rfl) ?_; cbv)
     | (refine And.intro ?_ ?_)
     | fail
   all_goals
     refine Br.split (fun k0 => ?_) (fun k0 => ?_) <;> cbv
     · refine ⟨l[i], I_, cT, ?_⟩;cbv;refine Br.split (fun k1 => ?_) (fun k1 => ?_) <;> cbv
       · refine ag.by hP (I7 (kB aY (fx R c now (l.drop (i + 1)))) (cn R l[i] now) hlen) ?_;cbv;refine Ar.exact (by (try simp only [nc] at *); omega) (by (try simp only [nc] at *); omega) ?_;cbv;refine aJ.by i ?_ ?_ ?_
         · show i < i + 1;omega
         · show i ≤ l.length;omega
         · cbv
           repeat' first | exact trivial | refine ⟨rfl, ?_⟩ | fail
           refine ⟨e1, ?_⟩
           repeat' first | exact trivial | refine ⟨rfl, ?_⟩ | fail
           refine ⟨yes (by rw [k0]; exact k1), ?_⟩
           repeat' first | exact trivial | refine ⟨rfl, ?_⟩ | fail
       · refine Ar.exact (by (try simp only [nc] at *); omega) (by (try simp only [nc] at *); omega) ?_;cbv;refine aJ.by i ?_ ?_ ?_
         · show i < i + 1;omega
         · show i ≤ l.length;omega
         · cbv
           repeat' first | exact trivial | refine ⟨rfl, ?_⟩ | fail
           refine ⟨e1, ?_⟩
           repeat' first | exact trivial | refine ⟨rfl, ?_⟩ | fail
           refine ⟨no (by rw [k0]; exact k1), ?_⟩
           repeat' first | exact trivial | refine ⟨rfl, ?_⟩ | fail
     · refine Ar.exact (by (try simp only [nc] at *); omega) (by (try simp only [nc] at *); omega) ?_;cbv;refine aJ.by i ?_ ?_ ?_
       · show i < i + 1;omega
       · show i ≤ l.length;omega
       · cbv
         repeat' first | exact trivial | refine ⟨rfl, ?_⟩ | fail
         refine ⟨e1, ?_⟩
         repeat' first | exact trivial | refine ⟨rfl, ?_⟩ | fail
         refine ⟨no (by rw [k0]; rfl), ?_⟩
         repeat' first | exact trivial | refine ⟨rfl, ?_⟩ | fail
theorem DT (R : bp) (l : List au) (c now : Int) (hs : R.ah.length ≤ aR) (hl : l.length ≤ aR) (bw : (fx R c now l).length ≤ 10) : Spec Tryz.prog 82 [gu R, lA .az l, iA c, iA now] (aE (lR .aD fun _ => cH R l c now)) := by
 refine aH ay Tryz.func82 rfl rfl (fr := true) (fun _ => by kernel_rfl) fun P hP hA => ?_;have jR : l.length ≤ 1048576 := hl;cbv;refine aT.by (X := Nat) (fun i => [(2, iA c), (3, iA now), (4, pN 0), (9, oN 1), (14, lA .az l), (15, nT fun _ => l.length), (16, nT fun _ => i)]) (fun i => [(0, .box (DR R)), (1, aQ .aD fun _ => fx R c now (l.take i))]) (fun i => i ≤ l.length) (fun i _ => l.length - i) 0 (Nat.zero_le _) ?_ ?_
 · cbv
   repeat' first | exact trivial | refine ⟨rfl, ?_⟩ | fail
 · intro i hi;cbv;refine Br.dec (fun h2 => ?_) (fun h2 => ?_) <;> cbv
   rotate_left
   · have h2 : l.length ≤ i := by simp at h2; omega
     have e : fx R c now (l.take i) = fx R c now l := by rw [List.take_of_length_le h2]
     refine aB.by hP (P7 (fx R c now (l.take i)) (by rw [e]; exact bw)) ?_;cbv;refine ⟨?_, trivial⟩;show dz aY (fx R c now (l.take i)) = cH R l c now;rw [e]; rfl
   have h2 : i < l.length := by simpa using h2
   have ob : (List.length (fx R c now (l.take i)) + 1) * 32 ≤ 140737488355328 := by
     have := zX R c now (l.take i);rw [List.length_take] at this;omega
   refine ⟨l[i], by simp, get_cast l h2, ?_⟩;cbv;refine ag.by hP (DD R l[i] now hs (cn R l[i] now) rfl (fu R l[i] now) rfl) ?_;cbv;refine Br.split (fun k0 => ?_) (fun k0 => ?_) <;> cbv
   · refine Br.split (fun k1 => ?_) (fun k1 => ?_) <;> cbv
     · refine ⟨ob, ?_⟩;cbv;refine Ar.exact (by (try simp only [nc] at *); omega) (by (try simp only [nc] at *); omega) ?_;cbv;refine aJ.by (i + 1) ?_ ?_ ?_
       · show l.length - (i + 1) < l.length - i;omega
       · exact h2
       · cbv
         repeat' first | exact trivial | refine ⟨rfl, ?_⟩ | fail
         refine ⟨vo _ (fun p => cn R p now) h2 (by rw [k0]; exact k1), ?_⟩
         repeat' first | exact trivial | refine ⟨rfl, ?_⟩ | fail
     · refine Ar.exact (by (try simp only [nc] at *); omega) (by (try simp only [nc] at *); omega) ?_;cbv;refine aJ.by (i + 1) ?_ ?_ ?_
       · show l.length - (i + 1) < l.length - i;omega
       · exact h2
       · cbv
         repeat' first | exact trivial | refine ⟨rfl, ?_⟩ | fail
         refine ⟨rX _ (fun p => cn R p now) h2 (by rw [k0]; exact k1), ?_⟩
         repeat' first | exact trivial | refine ⟨rfl, ?_⟩ | fail
   · refine Ar.exact (by (try simp only [nc] at *); omega) (by (try simp only [nc] at *); omega) ?_;cbv;refine aJ.by (i + 1) ?_ ?_ ?_
     · show l.length - (i + 1) < l.length - i;omega
     · exact h2
     · cbv
       repeat' first | exact trivial | refine ⟨rfl, ?_⟩ | fail
       refine ⟨rX _ (fun p => cn R p now) h2 (by rw [k0]; rfl), ?_⟩
       repeat' first | exact trivial | refine ⟨rfl, ?_⟩ | fail
theorem Ja (c : Int) (l : List au) : (fP c l).length ≤ l.length := DS _ _
theorem Qa {l : List aA} : (iU bm l).length = l.length := by rw [yN jz wC, jy]
theorem Qb (l : List au) (c : Int) (hl : l.length ≤ aR) (bw : (fP c l).length ≤ 10) : Spec Tryz.prog 180 [lA .az l, iA c] (aE (lR .aF fun _ => gF l c)) := by
 refine aH ay Tryz.func180 rfl rfl (fr := true) (fun _ => by kernel_rfl) fun P hP hA => ?_;have jR : l.length ≤ 1048576 := hl;cbv;refine aT.by (X := Nat) (fun i => [(1, iA c), (5, oN 0), (8, lA .az l), (9, nT fun _ => l.length), (10, nT fun _ => i)]) (fun i => [(0, aQ .aF fun _ => fP c (l.take i))]) (fun i => i ≤ l.length) (fun i _ => l.length - i) 0 (Nat.zero_le _) ?_ ?_
 · cbv
   repeat' first | exact trivial | refine ⟨rfl, ?_⟩ | fail
 · intro i hi;cbv;refine Br.dec (fun h2 => ?_) (fun h2 => ?_) <;> cbv
   rotate_left
   · have h2 : l.length ≤ i := by simp at h2; omega
     have e : fP c (l.take i) = fP c l := by rw [List.take_of_length_le h2]
     refine aB.by hP (PY (fP c (l.take i)) (by rw [e]; exact bw)) ?_;cbv;refine ⟨?_, trivial⟩;show dz bm (fP c (l.take i)) = gF l c;rw [e]; rfl
   have h2 : i < l.length := by simpa using h2
   have ob : (List.length (fP c (l.take i)) + 1) * 16 ≤ 140737488355328 := by
     have := Ja c (l.take i);rw [List.length_take] at this;omega
   refine ⟨l[i], by simp, get_cast l h2, ?_⟩;cbv;refine Br.split (fun k0 => ?_) (fun k0 => ?_) <;> cbv
   · refine Br.split (fun k1 => ?_) (fun k1 => ?_) <;> cbv
     · refine ⟨ob, ?_⟩;cbv;refine Ar.exact (by (try simp only [nc] at *); omega) (by (try simp only [nc] at *); omega) ?_;cbv;refine aJ.by (i + 1) ?_ ?_ ?_
       · show l.length - (i + 1) < l.length - i;omega
       · exact h2
       · cbv
         repeat' first | exact trivial | refine ⟨rfl, ?_⟩ | fail
         refine ⟨vo _ (fun p : au => (⟨p.bW, p.id⟩ : aA)) h2 (by rw [k0]; exact k1), ?_⟩
         repeat' first | exact trivial | refine ⟨rfl, ?_⟩ | fail
     · refine Ar.exact (by (try simp only [nc] at *); omega) (by (try simp only [nc] at *); omega) ?_;cbv;refine aJ.by (i + 1) ?_ ?_ ?_
       · show l.length - (i + 1) < l.length - i;omega
       · exact h2
       · cbv
         repeat' first | exact trivial | refine ⟨rfl, ?_⟩ | fail
         refine ⟨rX _ (fun p : au => (⟨p.bW, p.id⟩ : aA)) h2 (by rw [k0]; exact k1), ?_⟩
         repeat' first | exact trivial | refine ⟨rfl, ?_⟩ | fail
   · refine Ar.exact (by (try simp only [nc] at *); omega) (by (try simp only [nc] at *); omega) ?_;cbv;refine aJ.by (i + 1) ?_ ?_ ?_
     · show l.length - (i + 1) < l.length - i;omega
     · exact h2
     · cbv
       repeat' first | exact trivial | refine ⟨rfl, ?_⟩ | fail
       refine ⟨rX _ (fun p : au => (⟨p.bW, p.id⟩ : aA)) h2 (by rw [k0]; rfl), ?_⟩
       repeat' first | exact trivial | refine ⟨rfl, ?_⟩ | fail
theorem Jb (l : List au) (c : Int) (hl : l.length ≤ aR) : Spec Tryz.prog 132 [lA .az l, iA c] (aE (lR .aF fun _ => gF l c)) := by
 refine aH ay Tryz.func132 rfl rfl (fr := true) (fun _ => by kernel_rfl) fun P hP hA => ?_;have jR : l.length ≤ 1048576 := hl;cbv;refine aT.by (X := Nat) (fun i => [(0, lA .az l), (1, iA c), (5, oN 0), (6, nT fun _ => i)]) (fun i => [(0, aQ .aF fun _ => iU bm (fP c (l.take i)))]) (fun i => i ≤ l.length) (fun i _ => l.length - i) 0 (Nat.zero_le _) ?_ ?_
 · cbv
   repeat' first | exact trivial | refine ⟨rfl, ?_⟩ | fail
 · intro i hi;cbv;refine Br.dec (fun h2 => ?_) (fun h2 => ?_) <;> cbv
   rotate_left
   · have h2 : l.length ≤ i := by simp at h2; omega
     refine ⟨?_, trivial⟩;show iU bm (fP c (l.take i)) = gF l c;rw [List.take_of_length_le h2, yN jz wC]; rfl
   have h2 : i < l.length := by simpa using h2
   have hlen : (iU bm (fP c (l.take i))).length ≤ aR := by
     rw [Qa];exact Nat.le_trans (Ja _ _) (by rw [List.length_take]; exact Nat.le_trans (Nat.min_le_right _ _) hl)
   have no : (l[i].st == 2 && l[i].cf == c) = false → iU bm (fP c (l.take i)) = iU bm (fP c (l.take (i + 1))) := fun h => by
     unfold fP; rw [rX _ (fun p : au => (⟨p.bW, p.id⟩ : aA)) h2 h]
   have yes : (l[i].st == 2 && l[i].cf == c) = true → bG bm ⟨l[i].bW, l[i].id⟩ (iU bm (fP c (l.take i))) = iU bm (fP c (l.take (i + 1))) := fun h => by
     have e := vo (fun p : au => p.st == 2 && p.cf == c) (fun p : au => (⟨p.bW, p.id⟩ : aA)) h2 h;show _ = iU bm (((l.take (i + 1)).filter _).map _);rw [← e, BO]; rfl
   refine ⟨l[i], by simp, get_cast l h2, ?_⟩;cbv;refine Br.split (fun k0 => ?_) (fun k0 => ?_) <;> cbv
   · refine ⟨l[i], by simp, get_cast l h2, ?_⟩;cbv;refine Br.split (fun k1 => ?_) (fun k1 => ?_) <;> cbv
     · repeat' first
         | (refine ag.by hP (DP (iU bm (fP c (l.take i))) ⟨l[i].bW, l[i].id⟩ hlen) ?_; cbv)
         | (refine Ix.mk l[i] (by simp) (get_cast l h2) ?_; cbv)
         | (refine And.intro ?_ ?_)
         | fail
       all_goals
         refine Ar.exact (by (try simp only [nc] at *); omega) (by (try simp only [nc] at *); omega) ?_;cbv;refine aJ.by (i + 1) ?_ ?_ ?_
         · show l.length - (i + 1) < l.length - i;omega
         · exact h2
         · cbv
           repeat' first | exact trivial | refine ⟨rfl, ?_⟩ | fail
           refine ⟨yes (by rw [k0]; exact k1), ?_⟩
           repeat' first | exact trivial | refine ⟨rfl, ?_⟩ | fail
     · refine Ar.exact (by (try simp only [nc] at *); omega) (by (try simp only [nc] at *); omega) ?_;cbv;refine aJ.by (i + 1) ?_ ?_ ?_
       · show l.length - (i + 1) < l.length - i;omega
       · exact h2
       · cbv
         repeat' first | exact trivial | refine ⟨rfl, ?_⟩ | fail
         refine ⟨no (by rw [k0]; exact k1), ?_⟩
         repeat' first | exact trivial | refine ⟨rfl, ?_⟩ | fail
   · refine Ar.exact (by (try simp only [nc] at *); omega) (by (try simp only [nc] at *); omega) ?_;cbv;refine aJ.by (i + 1) ?_ ?_ ?_
     · show l.length - (i + 1) < l.length - i;omega
     · exact h2
     · cbv
       repeat' first | exact trivial | refine ⟨rfl, ?_⟩ | fail
       refine ⟨no (by rw [k0]; rfl), ?_⟩
       repeat' first | exact trivial | refine ⟨rfl, ?_⟩ | fail
end Go.Proofs.YtehpbaiclfilaaaGreat

