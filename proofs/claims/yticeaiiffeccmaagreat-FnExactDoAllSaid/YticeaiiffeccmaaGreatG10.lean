/- Parts of a proof. No conditions. -/

import Derived.Test.YticeaiiffeccmaaGreatG08
import Derived.Test.YticeaiiffeccmaaGreatG09
set_option linter.unusedSimpArgs false
set_option linter.unusedVariables false
namespace Go.Proofs.YticeaiiffeccmaaGreat
open Go
set_option maxRecDepth 100000
set_option maxHeartbeats 4000000 in
theorem Gv (xs : List aB) (hn : xs.length ≤ bc) : cB Tryz.prog 272 [oN 0, iT fun _ => 0, nT fun _ => xs.length, .c (.fn 116 [])] [(0, aN .aI fun _ => xs)]
   (cV (.aT []) [(0, .own .aI fun _ => dk bm xs)]) := by
 refine dW au Tryz.func272 rfl rfl (fr := true) (fun _ => by kernel_rfl) rfl rfl fun P hP hA hB => ?_;have hs : xs.length ≤ 1048576 := hn;cbv;refine Ar.exact (by (try simp only [nc] at *); omega) (by (try simp only [nc] at *); omega) ?_;cbv;refine aU.by (X := Nat) (fun i => [(0, oN 0), (1, iT fun _ => 0), (2, nT fun _ => xs.length), (3, .c (.fn 116 [])), (8, nT fun _ => i)]) (fun i => [(0, aN .aI fun _ => dk bm (xs.take i) ++ xs.drop i)]) (fun i => 1 ≤ i ∧ (i ≤ xs.length ∨ i = 1)) (fun i _ => xs.length - i) 1 ⟨Nat.le_refl _, .inr rfl⟩ ?_ ?_
 · cbv
   repeat' first | exact trivial | refine ⟨rfl, ?_⟩ | fail
   exact ⟨(DF bm xs).symm, trivial⟩
 · intro i ⟨hi, nO⟩;cbv;refine Br.dec (fun h2 => ?_) (fun h2 => ?_) <;> cbv
   rotate_left
   · refine ⟨?_, trivial⟩;have h2 : xs.length ≤ i := by simp at h2; omega
     show dk bm (xs.take i) ++ xs.drop i = dk bm xs;rw [List.take_of_length_le h2, List.drop_of_length_le h2, List.append_nil]
   have h2 : i < xs.length := by simpa using h2
   generalize hp : dk bm (xs.take i) = p;have hl : p.length = i := by rw [← hp, mz, List.length_take]; omega
   have By : pI bm p := by rw [← hp]; exact w9 jM _
   refine aU.by (X := Nat) (fun j => [(0, oN 0), (1, iT fun _ => 0), (2, nT fun _ => xs.length), (3, .c (.fn 116 [])), (8, nT fun _ => i), (9, nT fun _ => j)]) (fun j => [(0, aN .aI fun _ => slt p xs[i] (xs.drop (i + 1)) j)]) (fun j => j ≤ i ∧ ∀ y ∈ p.drop j, bm xs[i] y = true) (fun j _ => j) i ⟨Nat.le_refl _, by rw [List.drop_of_length_le (by omega)]; intro y hy; cases hy⟩ ?_ ?_
   · cbv
     repeat' first | exact trivial | refine ⟨rfl, ?_⟩ | fail
     refine ⟨?_, trivial⟩;show p ++ xs.drop i = slt p xs[i] (xs.drop (i + 1)) i;rw [show slt p xs[i] (xs.drop (i + 1)) i = p ++ xs[i] :: xs.drop (i + 1) by rw [slt, List.take_of_length_le (by omega), List.drop_of_length_le (by omega)]; rfl, List.drop_eq_getElem_cons h2]
   · intro j ⟨hj, hq⟩;have hlen : (slt p xs[i] (xs.drop (i + 1)) j).length = xs.length := by rw [DB (by omega), List.length_drop]; omega
     have gj : (slt p xs[i] (xs.drop (i + 1)) j).getD ((j : Int)).toNat default = xs[i] := by rw [Int.toNat_natCast, List.getD_eq_getElem?_getD, DC (by omega)]; rfl
     have stop : (0 < j → ∀ y, p[j - 1]? = some y → bm xs[i] y = false) → slt p xs[i] (xs.drop (i + 1)) j = dk bm (xs.take (i + 1)) ++ xs.drop (i + 1) := fun lJ => by
       rw [DG xs h2, hp];have e : p.take j ++ p.drop j = p := List.take_append_drop _ _;rw [← e, zC xs[i] ?_ (fun b hb => hq b (List.mem_of_mem_head? hb)), e, slt, List.append_assoc]
       · rfl
       · intro b hb;rcases Nat.eq_zero_or_pos j with h0 | h0
         · subst h0; simp at hb
         · have iw : j - 1 < p.length := by omega
           have e1 : p.take j = p.take (j - 1) ++ [p[j - 1]] := by
             have := List.take_add_one (l := p) (i := j - 1);rw [Nat.sub_add_cancel h0, List.getElem?_eq_getElem iw] at this;exact this
           rw [e1] at hb;refine Dy jM ?_ (lJ h0 _ (List.getElem?_eq_getElem iw)) b hb;rw [← e1];exact List.Pairwise.sublist (List.take_sublist _ _) By
     cbv;refine Br.dec (fun h3 => ?_) (fun h3 => ?_) <;> cbv
     · have h3 : 0 < j := by simpa using h3
       obtain ⟨y, hy⟩ : ∃ y, p[j - 1]? = some y := ⟨_, List.getElem?_eq_getElem (by omega)⟩
       have gp : (slt p xs[i] (xs.drop (i + 1)) j).getD ((j : Int) - 1).toNat default = y := by
         rw [show ((j : Int) - 1).toNat = j - 1 by omega, List.getD_eq_getElem?_getD, DD (by omega) h3, hy]; rfl
       have oj : 0 ≤ (j : Int) ∧ (j : Int) < ((slt p xs[i] (xs.drop (i + 1)) j).length : Int) := by rw [hlen]; omega
       have op : 0 ≤ (j : Int) - 1 ∧ (j : Int) - 1 < ((slt p xs[i] (xs.drop (i + 1)) j).length : Int) := by rw [hlen]; omega
       repeat' first
         | (refine Ob.mk (by first | exact oj | exact op) ?_; cbv)
         | refine And.intro ?_ ?_
         | (refine Ar.exact (by (try simp only [nc] at *); omega) (by (try simp only [nc] at *); omega) ?_; cbv)
         | (refine ag.by hP (Bn ((slt p xs[i] (xs.drop (i + 1)) j).getD ((j : Int)).toNat default) ((slt p xs[i] (xs.drop (i + 1)) j).getD ((j : Int) - 1).toNat default)) ?_; cbv)
         | fail
       all_goals refine Br.dec (fun h4 => ?_) (fun h4 => ?_) <;> cbv
       all_goals rw [gj, gp, DH] at h4
       all_goals first
         | (have h5 : bm xs[i] y = true := h4
            have sn : ∀ z ∈ p.drop (j - 1), bm xs[i] z = true := fun z hz => by
              have e : p.drop (j - 1) = y :: p.drop j := by
               have iw : j - 1 < p.length := by omega
               rw [List.drop_eq_getElem_cons iw, Nat.sub_add_cancel h3];rw [List.getElem?_eq_getElem iw] at hy;cases hy; rfl
              rw [e] at hz;rcases List.mem_cons.1 hz with rfl | hz
              · exact h5
              · exact hq z hz
            have iw : ((j : Int) - 1).toNat = j - 1 := by omega
            clear h4
            repeat' first
              | (refine Ob.mk (by first | exact oj | exact op | (simp only [List.length_set, hlen, nc] at *; omega)) ?_; cbv)
              | refine And.intro ?_ ?_
              | (refine Ar.exact (by (try simp only [nc] at *); omega) (by (try simp only [nc] at *); omega) ?_; cbv)
              | (refine Sv.mk (fun _ => (slt p xs[i] (xs.drop (i + 1)) j).set j y) (by
                show (slt p xs[i] (xs.drop (i + 1)) j).set ((j : Int)).toNat ((slt p xs[i] (xs.drop (i + 1)) j).getD ((j : Int) - 1).toNat default) = _;rw [gp, Int.toNat_natCast]) ?_; cbv)
              | (refine Sv.mk (fun _ => (slt p xs[i] (xs.drop (i + 1)) j).set (j - 1) xs[i]) (by
                show (slt p xs[i] (xs.drop (i + 1)) j).set ((j : Int) - 1).toNat ((slt p xs[i] (xs.drop (i + 1)) j).getD ((j : Int)).toNat default) = _;rw [gj, iw]) ?_; cbv)
              | (refine Sv.mk (fun _ => slt p xs[i] (xs.drop (i + 1)) (j - 1)) (by
                show ((slt p xs[i] (xs.drop (i + 1)) j).set j y).set ((j : Int) - 1).toNat ((slt p xs[i] (xs.drop (i + 1)) j).getD ((j : Int)).toNat default) = _;rw [gj, iw]; exact zF (by omega) h3 hy) ?_; cbv)
              | (refine Sv.mk (fun _ => slt p xs[i] (xs.drop (i + 1)) (j - 1)) (by
                show ((slt p xs[i] (xs.drop (i + 1)) j).set (j - 1) xs[i]).set ((j : Int)).toNat ((slt p xs[i] (xs.drop (i + 1)) j).getD ((j : Int) - 1).toNat default) = _;rw [gp, Int.toNat_natCast]; exact DE (by omega) h3 hy) ?_; cbv)
              | (refine aP.by (j - 1) (show j - 1 < j by omega) ⟨by omega, sn⟩ ?_; cbv)
              | exact trivial
              | refine ⟨rfl, ?_⟩
              | refine ⟨by simp only [nc] at *; omega, ?_⟩
              | fail)
         | (have h5 : bm xs[i] y = false := by simpa using h4
            have st := stop fun _ z hz => by rw [hy] at hz; cases hz; exact h5
            clear h4
            repeat' first
              | (refine Ar.exact (by (try simp only [nc] at *); omega) (by (try simp only [nc] at *); omega) ?_; cbv)
              | (refine aP.by (i + 1) (show xs.length - (i + 1) < xs.length - i by omega) ⟨by omega, .inl h2⟩ ?_; cbv)
              | exact trivial
              | refine ⟨rfl, ?_⟩
              | refine ⟨st, ?_⟩
              | fail)
     · have h3 : ¬ 0 < j := by simpa using h3
       refine Ar.exact (by (try simp only [nc] at *); omega) (by (try simp only [nc] at *); omega) ?_;cbv;refine aP.by (i + 1) ?_ ?_ ?_
       · show xs.length - (i + 1) < xs.length - i;omega
       · exact ⟨by omega, .inl h2⟩
       · cbv
         repeat' first | exact trivial | refine ⟨rfl, ?_⟩ | fail
         refine ⟨?_, trivial⟩;exact stop fun h => absurd h h3
theorem NK (xs : List aB) (bM : xs.length ≤ 10) : cB Tryz.prog 283 [oN 0, nT fun _ => xs.length, .c (.fn 116 [])] [(0, aN .aI fun _ => xs)]
   (cV (.aT []) [(0, .own .aI fun _ => dk bm xs)]) := by
 refine dW au Tryz.func283 rfl rfl (fr := true) (fun _ => by kernel_rfl) rfl rfl fun P hP hA hB => ?_;cbv;refine aU.by (X := Unit) (fun _ => [(0, oN 0), (1, nT fun _ => xs.length), (2, .c (.fn 116 [])), (6, iT fun _ => 20), (7, iT fun _ => 0), (8, iT fun _ => 20)]) (fun _ => [(0, aN .aI fun _ => xs)]) (fun _ => True) (fun _ _ => 0) () trivial ?_ ?_
 · cbv
   repeat' first | exact trivial | refine ⟨rfl, ?_⟩ | fail
 · intro _ _;cbv;refine Br.dec (fun h2 => ?_) (fun h2 => ?_) <;> cbv
   · exfalso;simp only [nc] at *;omega
   refine bB.by hP (Gv xs (Nat.le_trans bM (by decide))) ?_;cbv;refine aU.by (X := Unit) (fun _ => [(0, oN 0), (1, nT fun _ => xs.length), (2, .c (.fn 116 [])), (6, iT fun _ => 20)]) (fun _ => [(0, aN .aI fun _ => dk bm xs)]) (fun _ => True) (fun _ _ => 0) () trivial ?_ ?_
   · cbv
     repeat' first | exact trivial | refine ⟨rfl, ?_⟩ | fail
   · intro _ _;cbv;refine Br.dec (fun h3 => ?_) (fun h3 => ?_) <;> cbv
     · exfalso;simp only [nc] at *;omega
     repeat' first | exact trivial | refine ⟨rfl, ?_⟩ | fail
theorem NL (xs : List aB) (bM : xs.length ≤ 10) : cB Tryz.prog 266 [oN 0, .c (.fn 116 [])] [(0, aN .aI fun _ => xs)]
  (cV (.aT []) [(0, .own .aI fun _ => dk bm xs)]) := by
 refine dW au Tryz.func266 rfl rfl (fr := true) (fun _ => by kernel_rfl) rfl rfl fun P hP hA hB => ?_;cbv;refine bB.by hP (NK xs bM) ?_;cbv
 repeat' first | exact trivial | refine ⟨rfl, ?_⟩ | fail
theorem NM (n : Int) (h0 : 0 ≤ n) (bM : n ≤ 10) : Spec Tryz.prog 281 [.c (.lf (.int .u64 fun _ => n))] (jR Int (fun _ => True) fun x => iR fun _ => x) := by
 refine ay au Tryz.func281 rfl rfl (fr := true) (fun _ => by kernel_rfl) fun P hP hA => ?_;have w8 : IntKind.u8.wrap n = n := qQ (ui.2 ⟨h0, by omega⟩);cbv;refine Br.dec (fun h1 => ?_) (fun h1 => ?_) <;> cbv
 · exfalso;omega
 refine Br.dec (fun h2 => ?_) (fun h2 => ?_) <;> cbv
 · exfalso;omega
 refine Br.dec (fun h3 => ?_) (fun h3 => ?_) <;> cbv
 · exfalso;omega
 refine ⟨⟨?_, ?_⟩, ?_⟩
 · show 0 ≤ IntKind.u8.wrap n;rw [w8]; exact h0
 · show IntKind.u8.wrap n < _;rw [w8];exact Int.lt_of_lt_of_le (b := 256) (by omega) (by decide)
 cbv;refine Ar.exact ?_ ?_ ?_
 · dsimp only
   generalize List.getD _ _ _ = q;have := q.toNat_lt;simp only [nc];omega
 · dsimp only
   generalize List.getD _ _ _ = q;have := q.toNat_lt;simp only [nc];omega
 cbv;exact ⟨_, trivial, jw.mk rfl trivial⟩
theorem NN (n : Int) (h0 : 0 ≤ n) (bM : n ≤ 10) : Spec Tryz.prog 264 [.c (.lf (.int .u64 fun _ => n))] (jR Int (fun _ => True) fun x => iR fun _ => x) := by
 refine ay au Tryz.func264 rfl rfl (fr := true) (fun _ => by kernel_rfl) fun P hP hA => ?_;cbv;refine ag.ex hP (NM n h0 bM) fun x hx => ?_;cbv;refine ⟨x, trivial, ?_⟩;cbv
 repeat' first | exact trivial | refine ⟨rfl, ?_⟩ | fail
theorem NO (xs : List aB) (bM : xs.length ≤ 10) (l : Int) : cB Tryz.prog 263 [oN 0, iT fun _ => 0, nT fun _ => xs.length, iT fun _ => l, .c (.fn 116 [])] [(0, aN .aI fun _ => xs)]
   (cV (.aT []) [(0, .own .aI fun _ => dk bm xs)]) := by
 refine dW au Tryz.func263 rfl rfl (fr := true) (fun _ => by kernel_rfl) rfl rfl fun P hP hA hB => ?_;cbv;refine aU.by (X := Unit) (fun _ => [(0, oN 0), (1, iT fun _ => 0), (2, nT fun _ => xs.length), (3, iT fun _ => l), (4, .c (.fn 116 []))]) (fun _ => [(0, aN .aI fun _ => xs)]) (fun _ => True) (fun _ _ => 0) () trivial ?_ ?_
 · cbv
   repeat' first | exact trivial | refine ⟨rfl, ?_⟩ | fail
 · intro _ _;cbv;refine Ar.exact (by (try simp only [nc] at *); omega) (by (try simp only [nc] at *); omega) ?_;cbv;refine Br.dec (fun h2 => ?_) (fun h2 => ?_) <;> cbv
   rotate_left
   · exfalso;simp only [nc] at *;omega
   refine bB.by hP (Gv xs (Nat.le_trans bM (by decide))) ?_;cbv
   repeat' first | exact trivial | refine ⟨rfl, ?_⟩ | fail
theorem NP (xs : List aB) (bM : xs.length ≤ 10) : cB Tryz.prog 244 [oN 0, .c (.fn 116 [])] [(0, aN .aI fun _ => xs)]
  (cV (.aT []) [(0, .own .aI fun _ => dk bm xs)]) := by
 refine dW au Tryz.func244 rfl rfl (fr := true) (fun _ => by kernel_rfl) rfl rfl fun P hP hA hB => ?_;have Gw : IntKind.u64.wrap (xs.length : Int) = (xs.length : Int) := qQ (C4.2 ⟨by omega, by omega⟩);have g0 : 0 ≤ IntKind.u64.wrap (xs.length : Int) := by rw [Gw]; omega
 have g1 : IntKind.u64.wrap (xs.length : Int) ≤ 10 := by rw [Gw]; omega
 cbv;refine ag.ex hP (NN (IntKind.u64.wrap (xs.length : Int)) g0 g1) fun l hl => ?_;cbv;refine bB.by hP (NO xs bM l) ?_;cbv
 repeat' first | exact trivial | refine ⟨rfl, ?_⟩ | fail
set_option maxHeartbeats 4000000 in
theorem NQ (xs : List Entry) (hn : xs.length ≤ bc) : cB Tryz.prog 268 [oN 0, iT fun _ => 0, nT fun _ => xs.length, .c (.fn 223 [])] [(0, aN .aH fun _ => xs)]
   (cV (.aT []) [(0, .own .aH fun _ => dk bp xs)]) := by
 refine dW au Tryz.func268 rfl rfl (fr := true) (fun _ => by kernel_rfl) rfl rfl fun P hP hA hB => ?_;have hs : xs.length ≤ 1048576 := hn;cbv;refine Ar.exact (by (try simp only [nc] at *); omega) (by (try simp only [nc] at *); omega) ?_;cbv;refine aU.by (X := Nat) (fun i => [(0, oN 0), (1, iT fun _ => 0), (2, nT fun _ => xs.length), (3, .c (.fn 223 [])), (8, nT fun _ => i)]) (fun i => [(0, aN .aH fun _ => dk bp (xs.take i) ++ xs.drop i)]) (fun i => 1 ≤ i ∧ (i ≤ xs.length ∨ i = 1)) (fun i _ => xs.length - i) 1 ⟨Nat.le_refl _, .inr rfl⟩ ?_ ?_
 · cbv
   repeat' first | exact trivial | refine ⟨rfl, ?_⟩ | fail
   exact ⟨(DF bp xs).symm, trivial⟩
 · intro i ⟨hi, nO⟩;cbv;refine Br.dec (fun h2 => ?_) (fun h2 => ?_) <;> cbv
   rotate_left
   · refine ⟨?_, trivial⟩;have h2 : xs.length ≤ i := by simp at h2; omega
     show dk bp (xs.take i) ++ xs.drop i = dk bp xs;rw [List.take_of_length_le h2, List.drop_of_length_le h2, List.append_nil]
   have h2 : i < xs.length := by simpa using h2
   generalize hp : dk bp (xs.take i) = p;have hl : p.length = i := by rw [← hp, mz, List.length_take]; omega
   have By : pI bp p := by rw [← hp]; exact w9 oz _
   refine aU.by (X := Nat) (fun j => [(0, oN 0), (1, iT fun _ => 0), (2, nT fun _ => xs.length), (3, .c (.fn 223 [])), (8, nT fun _ => i), (9, nT fun _ => j)]) (fun j => [(0, aN .aH fun _ => slt p xs[i] (xs.drop (i + 1)) j)]) (fun j => j ≤ i ∧ ∀ y ∈ p.drop j, bp xs[i] y = true) (fun j _ => j) i ⟨Nat.le_refl _, by rw [List.drop_of_length_le (by omega)]; intro y hy; cases hy⟩ ?_ ?_
   · cbv
     repeat' first | exact trivial | refine ⟨rfl, ?_⟩ | fail
     refine ⟨?_, trivial⟩;show p ++ xs.drop i = slt p xs[i] (xs.drop (i + 1)) i;rw [show slt p xs[i] (xs.drop (i + 1)) i = p ++ xs[i] :: xs.drop (i + 1) by rw [slt, List.take_of_length_le (by omega), List.drop_of_length_le (by omega)]; rfl, List.drop_eq_getElem_cons h2]
   · intro j ⟨hj, hq⟩;have hlen : (slt p xs[i] (xs.drop (i + 1)) j).length = xs.length := by rw [DB (by omega), List.length_drop]; omega
     have gj : (slt p xs[i] (xs.drop (i + 1)) j).getD ((j : Int)).toNat default = xs[i] := by rw [Int.toNat_natCast, List.getD_eq_getElem?_getD, DC (by omega)]; rfl
     have stop : (0 < j → ∀ y, p[j - 1]? = some y → bp xs[i] y = false) → slt p xs[i] (xs.drop (i + 1)) j = dk bp (xs.take (i + 1)) ++ xs.drop (i + 1) := fun lJ => by
       rw [DG xs h2, hp];have e : p.take j ++ p.drop j = p := List.take_append_drop _ _;rw [← e, zC xs[i] ?_ (fun b hb => hq b (List.mem_of_mem_head? hb)), e, slt, List.append_assoc]
       · rfl
       · intro b hb;rcases Nat.eq_zero_or_pos j with h0 | h0
         · subst h0; simp at hb
         · have iw : j - 1 < p.length := by omega
           have e1 : p.take j = p.take (j - 1) ++ [p[j - 1]] := by
             have := List.take_add_one (l := p) (i := j - 1);rw [Nat.sub_add_cancel h0, List.getElem?_eq_getElem iw] at this;exact this
           rw [e1] at hb;refine Dy oz ?_ (lJ h0 _ (List.getElem?_eq_getElem iw)) b hb;rw [← e1];exact List.Pairwise.sublist (List.take_sublist _ _) By
     cbv;refine Br.dec (fun h3 => ?_) (fun h3 => ?_) <;> cbv
     · have h3 : 0 < j := by simpa using h3
       obtain ⟨y, hy⟩ : ∃ y, p[j - 1]? = some y := ⟨_, List.getElem?_eq_getElem (by omega)⟩
       have gp : (slt p xs[i] (xs.drop (i + 1)) j).getD ((j : Int) - 1).toNat default = y := by
         rw [show ((j : Int) - 1).toNat = j - 1 by omega, List.getD_eq_getElem?_getD, DD (by omega) h3, hy]; rfl
       have oj : 0 ≤ (j : Int) ∧ (j : Int) < ((slt p xs[i] (xs.drop (i + 1)) j).length : Int) := by rw [hlen]; omega
       have op : 0 ≤ (j : Int) - 1 ∧ (j : Int) - 1 < ((slt p xs[i] (xs.drop (i + 1)) j).length : Int) := by rw [hlen]; omega
       repeat' first
         | (refine Ob.mk (by first | exact oj | exact op) ?_; cbv)
         | refine And.intro ?_ ?_
         | (refine Ar.exact (by (try simp only [nc] at *); omega) (by (try simp only [nc] at *); omega) ?_; cbv)
         | (refine ag.by hP (Gi ((slt p xs[i] (xs.drop (i + 1)) j).getD ((j : Int)).toNat default) ((slt p xs[i] (xs.drop (i + 1)) j).getD ((j : Int) - 1).toNat default)) ?_; cbv)
         | fail
       all_goals refine Br.dec (fun h4 => ?_) (fun h4 => ?_) <;> cbv
       all_goals rw [gj, gp, DH] at h4
       all_goals first
         | (have h5 : bp xs[i] y = true := h4
            have sn : ∀ z ∈ p.drop (j - 1), bp xs[i] z = true := fun z hz => by
              have e : p.drop (j - 1) = y :: p.drop j := by
               have iw : j - 1 < p.length := by omega
               rw [List.drop_eq_getElem_cons iw, Nat.sub_add_cancel h3];rw [List.getElem?_eq_getElem iw] at hy;cases hy; rfl
              rw [e] at hz;rcases List.mem_cons.1 hz with rfl | hz
              · exact h5
              · exact hq z hz
            have iw : ((j : Int) - 1).toNat = j - 1 := by omega
            clear h4
            repeat' first
              | (refine Ob.mk (by first | exact oj | exact op | (simp only [List.length_set, hlen, nc] at *; omega)) ?_; cbv)
              | refine And.intro ?_ ?_
              | (refine Ar.exact (by (try simp only [nc] at *); omega) (by (try simp only [nc] at *); omega) ?_; cbv)
              | (refine Sv.mk (fun _ => (slt p xs[i] (xs.drop (i + 1)) j).set j y) (by
                show (slt p xs[i] (xs.drop (i + 1)) j).set ((j : Int)).toNat ((slt p xs[i] (xs.drop (i + 1)) j).getD ((j : Int) - 1).toNat default) = _;rw [gp, Int.toNat_natCast]) ?_; cbv)
              | (refine Sv.mk (fun _ => (slt p xs[i] (xs.drop (i + 1)) j).set (j - 1) xs[i]) (by
                show (slt p xs[i] (xs.drop (i + 1)) j).set ((j : Int) - 1).toNat ((slt p xs[i] (xs.drop (i + 1)) j).getD ((j : Int)).toNat default) = _;rw [gj, iw]) ?_; cbv)
              | (refine Sv.mk (fun _ => slt p xs[i] (xs.drop (i + 1)) (j - 1)) (by
                show ((slt p xs[i] (xs.drop (i + 1)) j).set j y).set ((j : Int) - 1).toNat ((slt p xs[i] (xs.drop (i + 1)) j).getD ((j : Int)).toNat default) = _;rw [gj, iw]; exact zF (by omega) h3 hy) ?_; cbv)
              | (refine Sv.mk (fun _ => slt p xs[i] (xs.drop (i + 1)) (j - 1)) (by
                show ((slt p xs[i] (xs.drop (i + 1)) j).set (j - 1) xs[i]).set ((j : Int)).toNat ((slt p xs[i] (xs.drop (i + 1)) j).getD ((j : Int) - 1).toNat default) = _;rw [gp, Int.toNat_natCast]; exact DE (by omega) h3 hy) ?_; cbv)
              | (refine aP.by (j - 1) (show j - 1 < j by omega) ⟨by omega, sn⟩ ?_; cbv)
              | exact trivial
              | refine ⟨rfl, ?_⟩
              | refine ⟨by simp only [nc] at *; omega, ?_⟩
              | fail)
         | (have h5 : bp xs[i] y = false := by simpa using h4
            have st := stop fun _ z hz => by rw [hy] at hz; cases hz; exact h5
            clear h4
            repeat' first
              | (refine Ar.exact (by (try simp only [nc] at *); omega) (by (try simp only [nc] at *); omega) ?_; cbv)
              | (refine aP.by (i + 1) (show xs.length - (i + 1) < xs.length - i by omega) ⟨by omega, .inl h2⟩ ?_; cbv)
              | exact trivial
              | refine ⟨rfl, ?_⟩
              | refine ⟨st, ?_⟩
              | fail)
     · have h3 : ¬ 0 < j := by simpa using h3
       refine Ar.exact (by (try simp only [nc] at *); omega) (by (try simp only [nc] at *); omega) ?_;cbv;refine aP.by (i + 1) ?_ ?_ ?_
       · show xs.length - (i + 1) < xs.length - i;omega
       · exact ⟨by omega, .inl h2⟩
       · cbv
         repeat' first | exact trivial | refine ⟨rfl, ?_⟩ | fail
         refine ⟨?_, trivial⟩;exact stop fun h => absurd h h3
theorem NR {α : Type} {xs : List α} (h : xs.length ≤ 10) : xs.length ≤ bc := Nat.le_trans h (by decide)
theorem NS (xs : List Entry) (bM : xs.length ≤ 10) : cB Tryz.prog 256 [oN 0, nT fun _ => xs.length, .c (.fn 223 [])] [(0, aN .aH fun _ => xs)]
   (cV (.aT []) [(0, .own .aH fun _ => dk bp xs)]) := by
 refine dW au Tryz.func256 rfl rfl (fr := true) (fun _ => by kernel_rfl) rfl rfl fun P hP hA hB => ?_;cbv;refine aU.by (X := Unit) (fun _ => [(0, oN 0), (1, nT fun _ => xs.length), (2, .c (.fn 223 [])), (6, iT fun _ => 20), (7, iT fun _ => 0), (8, iT fun _ => 20)]) (fun _ => [(0, aN .aH fun _ => xs)]) (fun _ => True) (fun _ _ => 0) () trivial ?_ ?_
 · cbv
   repeat' first | exact trivial | refine ⟨rfl, ?_⟩ | fail
 · intro _ _;cbv;refine Br.dec (fun h2 => ?_) (fun h2 => ?_) <;> cbv
   · exfalso;simp only [nc] at *;omega
   refine bB.by hP (NQ xs (NR bM)) ?_;cbv;refine aU.by (X := Unit) (fun _ => [(0, oN 0), (1, nT fun _ => xs.length), (2, .c (.fn 223 [])), (6, iT fun _ => 20)]) (fun _ => [(0, aN .aH fun _ => dk bp xs)]) (fun _ => True) (fun _ _ => 0) () trivial ?_ ?_
   · cbv
     repeat' first | exact trivial | refine ⟨rfl, ?_⟩ | fail
   · intro _ _;cbv;refine Br.dec (fun h3 => ?_) (fun h3 => ?_) <;> cbv
     · exfalso;simp only [nc] at *;omega
     repeat' first | exact trivial | refine ⟨rfl, ?_⟩ | fail
theorem NT (xs : List Entry) (bM : xs.length ≤ 10) : cB Tryz.prog 222 [oN 0, .c (.fn 223 [])] [(0, aN .aH fun _ => xs)]
  (cV (.aT []) [(0, .own .aH fun _ => dk bp xs)]) := by
 refine dW au Tryz.func222 rfl rfl (fr := true) (fun _ => by kernel_rfl) rfl rfl fun P hP hA hB => ?_;cbv;refine bB.by hP (NS xs bM) ?_;cbv
 repeat' first | exact trivial | refine ⟨rfl, ?_⟩ | fail
def Gx (R : bI) : List C := [.lf (.list .int fun _ => R.aj), .lf (.int .i64 fun _ => R.cn), .lf (.int .i64 fun _ => R.room), .lf (.int .i64 fun _ => R.size), .lf (.int .i64 fun _ => R.period), .lf (.int .i64 fun _ => R.cp), .lf (.int .i64 fun _ => R.rest), .lf (.int .i64 fun _ => R.tries), .lf (.int .i64 fun _ => R.cC)]
def fe (R : bI) (c now : Int) (l : List aw) : List Entry := (l.filter fun p => eQ R p now && p.ah == c).map fun p => dw R p now
def fH (R : bI) (l : List aw) (c now : Int) : List Entry := dk bp (fe R c now l)
def fA (c : Int) (l : List aw) : List aB := (l.filter fun p => p.st == 2 && p.ah == c).map fun p => ⟨p.cm, p.id⟩
def gO (l : List aw) (c : Int) : List aB := dk bm (fA c l)
section
variable {α β : Type} (q : α → Bool) (f : α → β)
theorem vC {l : List α} {i : Nat} (h : i < l.length) (hq : q l[i] = true) : ((l.take i).filter q).map f ++ [f l[i]] = ((l.take (i + 1)).filter q).map f := by
 rw [List.take_add_one, List.getElem?_eq_getElem h, List.filter_append, List.map_append]; simp [hq]
theorem rL {l : List α} {i : Nat} (h : i < l.length) (hq : q l[i] = false) : ((l.take i).filter q).map f = ((l.take (i + 1)).filter q).map f := by
 rw [List.take_add_one, List.getElem?_eq_getElem h, List.filter_append, List.map_append]; simp [hq]
theorem Gy {l : List α} : ((l.filter q).map f).length ≤ l.length := by rw [List.length_map]; exact List.length_filter_le _ _
theorem NU {l : List α} {i : Nat} (h : i < l.length) (hq : q l[i] = true) : ((l.drop i).filter q).map f = f l[i] :: ((l.drop (i + 1)).filter q).map f := by
 rw [List.drop_eq_getElem_cons h, List.filter_cons_of_pos hq]; rfl
theorem NV {l : List α} {i : Nat} (h : i < l.length) (hq : q l[i] = false) : ((l.drop i).filter q).map f = ((l.drop (i + 1)).filter q).map f := by
 rw [List.drop_eq_getElem_cons h, List.filter_cons_of_neg (by rw [hq]; simp)]
end
theorem Gz (R : bI) (c now : Int) (l : List aw) : (fe R c now l).length ≤ l.length := Gy _ _
theorem NW {l : List Entry} : (jL bp l).length = l.length := by rw [Dv oz, mz]
theorem GA (R : bI) (l : List aw) (c now : Int) (hs : R.aj.length ≤ bc) (hl : l.length ≤ bc) : Spec Tryz.prog 153 [gM R, lA .aG l, iA c, iA now] (aE (lR .aH fun _ => fH R l c now)) := by
 refine ay au Tryz.func153 rfl rfl (fr := true) (fun _ => by kernel_rfl) fun P hP hA => ?_;have jo : l.length ≤ 1048576 := hl;cbv;refine Ar.exact (by (try simp only [nc] at *); omega) (by (try simp only [nc] at *); omega) ?_;cbv;refine aU.by (X := Nat) (fun m => [(1, lA .aG l), (2, iA c), (3, iA now), (4, pN 0), (9, oN 1), (10, iT fun _ => (m : Int) - 1)]) (fun m => [(0, .box (Gx R)), (1, aN .aH fun _ => jL bp (fe R c now (l.drop m)))]) (fun m => m ≤ l.length) (fun m _ => m) l.length (Nat.le_refl _) ?_ ?_
 · cbv
   repeat' first | exact trivial | refine ⟨rfl, ?_⟩ | fail
   refine ⟨?_, trivial⟩;show [] = jL bp (fe R c now (l.drop l.length));rw [List.drop_length]; rfl
 · intro m hm;cbv;refine Br.dec (fun h2 => ?_) (fun h2 => ?_) <;> cbv
   rotate_left
   · have h2 : m = 0 := by simp only [nc] at *; omega
     subst h2;refine ⟨?_, trivial⟩;show jL bp (fe R c now (l.drop 0)) = fH R l c now;rw [List.drop_zero, Dv oz]; rfl
   have h2 : 1 ≤ m := by simp only [nc] at *; omega
   obtain ⟨i, rfl⟩ : ∃ i, m = i + 1 := ⟨m - 1, by omega⟩;have hi : i < l.length := hm;have ei : (((i + 1 : Nat) : Int) - 1).toNat = i := by omega
   have hlen : (jL bp (fe R c now (l.drop (i + 1)))).length ≤ bc := by
     rw [NW];exact Nat.le_trans (Gz _ _ _ _) (by rw [List.length_drop]; exact Nat.le_trans (Nat.sub_le _ _) hl)
   have GB : 0 ≤ ((i + 1 : Nat) : Int) - 1 := by omega
   have eJ : l[(((i + 1 : Nat) : Int) - 1).toNat]? = some l[i] := by rw [ei]; exact List.getElem?_eq_getElem hi
   have no : (eQ R l[i] now && l[i].ah == c) = false → jL bp (fe R c now (l.drop (i + 1))) = jL bp (fe R c now (l.drop i)) := fun h => by
     unfold fe; rw [NV _ _ hi h]
   have yes : (eQ R l[i] now && l[i].ah == c) = true → bS bp (dw R l[i] now) (jL bp (fe R c now (l.drop (i + 1)))) = jL bp (fe R c now (l.drop i)) := fun h => by
     unfold fe; rw [NU _ _ hi h]; rfl
   have e1 : ((i + 1 : Nat) : Int) - 1 - 1 = (i : Int) - 1 := by omega
   refine ⟨l[i], GB, eJ, ?_⟩;cbv
   repeat' first
     | (refine ag.by hP (Gg R l[i] now hs (dw R l[i] now) rfl (eQ R l[i] now) rfl) ?_; cbv)
     | (refine And.intro ?_ ?_)
     | fail
   all_goals
     refine Br.split (fun k0 => ?_) (fun k0 => ?_) <;> cbv
     · refine ⟨l[i], GB, eJ, ?_⟩;cbv;refine Br.split (fun k1 => ?_) (fun k1 => ?_) <;> cbv
       · refine ag.by hP (Gu (jL bp (fe R c now (l.drop (i + 1)))) (dw R l[i] now) hlen) ?_;cbv;refine Ar.exact (by (try simp only [nc] at *); omega) (by (try simp only [nc] at *); omega) ?_;cbv;refine aP.by i ?_ ?_ ?_
         · show i < i + 1;omega
         · show i ≤ l.length;omega
         · cbv
           repeat' first | exact trivial | refine ⟨rfl, ?_⟩ | fail
           refine ⟨e1, ?_⟩
           repeat' first | exact trivial | refine ⟨rfl, ?_⟩ | fail
           refine ⟨yes (by rw [k0]; exact k1), ?_⟩
           repeat' first | exact trivial | refine ⟨rfl, ?_⟩ | fail
       · refine Ar.exact (by (try simp only [nc] at *); omega) (by (try simp only [nc] at *); omega) ?_;cbv;refine aP.by i ?_ ?_ ?_
         · show i < i + 1;omega
         · show i ≤ l.length;omega
         · cbv
           repeat' first | exact trivial | refine ⟨rfl, ?_⟩ | fail
           refine ⟨e1, ?_⟩
           repeat' first | exact trivial | refine ⟨rfl, ?_⟩ | fail
           refine ⟨no (by rw [k0]; exact k1), ?_⟩
           repeat' first | exact trivial | refine ⟨rfl, ?_⟩ | fail
     · refine Ar.exact (by (try simp only [nc] at *); omega) (by (try simp only [nc] at *); omega) ?_;cbv;refine aP.by i ?_ ?_ ?_
       · show i < i + 1;omega
       · show i ≤ l.length;omega
       · cbv
         repeat' first | exact trivial | refine ⟨rfl, ?_⟩ | fail
         refine ⟨e1, ?_⟩
         repeat' first | exact trivial | refine ⟨rfl, ?_⟩ | fail
         refine ⟨no (by rw [k0]; rfl), ?_⟩
         repeat' first | exact trivial | refine ⟨rfl, ?_⟩ | fail
theorem GC (R : bI) (l : List aw) (c now : Int) (hs : R.aj.length ≤ bc) (hl : l.length ≤ bc) (bM : (fe R c now l).length ≤ 10) : Spec Tryz.prog 159 [gM R, lA .aG l, iA c, iA now] (aE (lR .aH fun _ => fH R l c now)) := by
 refine ay au Tryz.func159 rfl rfl (fr := true) (fun _ => by kernel_rfl) fun P hP hA => ?_;have jo : l.length ≤ 1048576 := hl;cbv;refine aU.by (X := Nat) (fun i => [(2, iA c), (3, iA now), (4, pN 0), (9, oN 1), (14, lA .aG l), (15, nT fun _ => l.length), (16, nT fun _ => i)]) (fun i => [(0, .box (Gx R)), (1, aN .aH fun _ => fe R c now (l.take i))]) (fun i => i ≤ l.length) (fun i _ => l.length - i) 0 (Nat.zero_le _) ?_ ?_
 · cbv
   repeat' first | exact trivial | refine ⟨rfl, ?_⟩ | fail
 · intro i hi;cbv;refine Br.dec (fun h2 => ?_) (fun h2 => ?_) <;> cbv
   rotate_left
   · have h2 : l.length ≤ i := by simp at h2; omega
     have e : fe R c now (l.take i) = fe R c now l := by rw [List.take_of_length_le h2]
     refine bB.by hP (NT (fe R c now (l.take i)) (by rw [e]; exact bM)) ?_;cbv;refine ⟨?_, trivial⟩;show dk bp (fe R c now (l.take i)) = fH R l c now;rw [e]; rfl
   have h2 : i < l.length := by simpa using h2
   have ob : (List.length (fe R c now (l.take i)) + 1) * 32 ≤ 140737488355328 := by
     have := Gz R c now (l.take i);rw [List.length_take] at this;omega
   refine ⟨l[i], by simp, get_cast l h2, ?_⟩;cbv;refine ag.by hP (Bm R l[i] now hs (dw R l[i] now) rfl (eQ R l[i] now) rfl) ?_;cbv;refine Br.split (fun k0 => ?_) (fun k0 => ?_) <;> cbv
   · refine Br.split (fun k1 => ?_) (fun k1 => ?_) <;> cbv
     · refine ⟨ob, ?_⟩;cbv;refine Ar.exact (by (try simp only [nc] at *); omega) (by (try simp only [nc] at *); omega) ?_;cbv;refine aP.by (i + 1) ?_ ?_ ?_
       · show l.length - (i + 1) < l.length - i;omega
       · exact h2
       · cbv
         repeat' first | exact trivial | refine ⟨rfl, ?_⟩ | fail
         refine ⟨vC _ (fun p => dw R p now) h2 (by rw [k0]; exact k1), ?_⟩
         repeat' first | exact trivial | refine ⟨rfl, ?_⟩ | fail
     · refine Ar.exact (by (try simp only [nc] at *); omega) (by (try simp only [nc] at *); omega) ?_;cbv;refine aP.by (i + 1) ?_ ?_ ?_
       · show l.length - (i + 1) < l.length - i;omega
       · exact h2
       · cbv
         repeat' first | exact trivial | refine ⟨rfl, ?_⟩ | fail
         refine ⟨rL _ (fun p => dw R p now) h2 (by rw [k0]; exact k1), ?_⟩
         repeat' first | exact trivial | refine ⟨rfl, ?_⟩ | fail
   · refine Ar.exact (by (try simp only [nc] at *); omega) (by (try simp only [nc] at *); omega) ?_;cbv;refine aP.by (i + 1) ?_ ?_ ?_
     · show l.length - (i + 1) < l.length - i;omega
     · exact h2
     · cbv
       repeat' first | exact trivial | refine ⟨rfl, ?_⟩ | fail
       refine ⟨rL _ (fun p => dw R p now) h2 (by rw [k0]; rfl), ?_⟩
       repeat' first | exact trivial | refine ⟨rfl, ?_⟩ | fail
theorem GD (c : Int) (l : List aw) : (fA c l).length ≤ l.length := Gy _ _
theorem NX {l : List aB} : (ig bm l).length = l.length := by rw [w_ jM uF, mz]
theorem NY (l : List aw) (c : Int) (hl : l.length ≤ bc) (bM : (fA c l).length ≤ 10) : Spec Tryz.prog 251 [lA .aG l, iA c] (aE (lR .aI fun _ => gO l c)) := by
 refine ay au Tryz.func251 rfl rfl (fr := true) (fun _ => by kernel_rfl) fun P hP hA => ?_;have jo : l.length ≤ 1048576 := hl;cbv;refine aU.by (X := Nat) (fun i => [(1, iA c), (5, oN 0), (8, lA .aG l), (9, nT fun _ => l.length), (10, nT fun _ => i)]) (fun i => [(0, aN .aI fun _ => fA c (l.take i))]) (fun i => i ≤ l.length) (fun i _ => l.length - i) 0 (Nat.zero_le _) ?_ ?_
 · cbv
   repeat' first | exact trivial | refine ⟨rfl, ?_⟩ | fail
 · intro i hi;cbv;refine Br.dec (fun h2 => ?_) (fun h2 => ?_) <;> cbv
   rotate_left
   · have h2 : l.length ≤ i := by simp at h2; omega
     have e : fA c (l.take i) = fA c l := by rw [List.take_of_length_le h2]
     refine bB.by hP (NL (fA c (l.take i)) (by rw [e]; exact bM)) ?_;cbv;refine ⟨?_, trivial⟩;show dk bm (fA c (l.take i)) = gO l c;rw [e]; rfl
   have h2 : i < l.length := by simpa using h2
   have ob : (List.length (fA c (l.take i)) + 1) * 16 ≤ 140737488355328 := by
     have := GD c (l.take i);rw [List.length_take] at this;omega
   refine ⟨l[i], by simp, get_cast l h2, ?_⟩;cbv;refine Br.split (fun k0 => ?_) (fun k0 => ?_) <;> cbv
   · refine Br.split (fun k1 => ?_) (fun k1 => ?_) <;> cbv
     · refine ⟨ob, ?_⟩;cbv;refine Ar.exact (by (try simp only [nc] at *); omega) (by (try simp only [nc] at *); omega) ?_;cbv;refine aP.by (i + 1) ?_ ?_ ?_
       · show l.length - (i + 1) < l.length - i;omega
       · exact h2
       · cbv
         repeat' first | exact trivial | refine ⟨rfl, ?_⟩ | fail
         refine ⟨vC _ (fun p : aw => (⟨p.cm, p.id⟩ : aB)) h2 (by rw [k0]; exact k1), ?_⟩
         repeat' first | exact trivial | refine ⟨rfl, ?_⟩ | fail
     · refine Ar.exact (by (try simp only [nc] at *); omega) (by (try simp only [nc] at *); omega) ?_;cbv;refine aP.by (i + 1) ?_ ?_ ?_
       · show l.length - (i + 1) < l.length - i;omega
       · exact h2
       · cbv
         repeat' first | exact trivial | refine ⟨rfl, ?_⟩ | fail
         refine ⟨rL _ (fun p : aw => (⟨p.cm, p.id⟩ : aB)) h2 (by rw [k0]; exact k1), ?_⟩
         repeat' first | exact trivial | refine ⟨rfl, ?_⟩ | fail
   · refine Ar.exact (by (try simp only [nc] at *); omega) (by (try simp only [nc] at *); omega) ?_;cbv;refine aP.by (i + 1) ?_ ?_ ?_
     · show l.length - (i + 1) < l.length - i;omega
     · exact h2
     · cbv
       repeat' first | exact trivial | refine ⟨rfl, ?_⟩ | fail
       refine ⟨rL _ (fun p : aw => (⟨p.cm, p.id⟩ : aB)) h2 (by rw [k0]; rfl), ?_⟩
       repeat' first | exact trivial | refine ⟨rfl, ?_⟩ | fail
theorem NZ (l : List aw) (c : Int) (hl : l.length ≤ bc) : Spec Tryz.prog 230 [lA .aG l, iA c] (aE (lR .aI fun _ => gO l c)) := by
 refine ay au Tryz.func230 rfl rfl (fr := true) (fun _ => by kernel_rfl) fun P hP hA => ?_;have jo : l.length ≤ 1048576 := hl;cbv;refine aU.by (X := Nat) (fun i => [(0, lA .aG l), (1, iA c), (5, oN 0), (6, nT fun _ => i)]) (fun i => [(0, aN .aI fun _ => ig bm (fA c (l.take i)))]) (fun i => i ≤ l.length) (fun i _ => l.length - i) 0 (Nat.zero_le _) ?_ ?_
 · cbv
   repeat' first | exact trivial | refine ⟨rfl, ?_⟩ | fail
 · intro i hi;cbv;refine Br.dec (fun h2 => ?_) (fun h2 => ?_) <;> cbv
   rotate_left
   · have h2 : l.length ≤ i := by simp at h2; omega
     refine ⟨?_, trivial⟩;show ig bm (fA c (l.take i)) = gO l c;rw [List.take_of_length_le h2, w_ jM uF]; rfl
   have h2 : i < l.length := by simpa using h2
   have hlen : (ig bm (fA c (l.take i))).length ≤ bc := by
     rw [NX];exact Nat.le_trans (GD _ _) (by rw [List.length_take]; exact Nat.le_trans (Nat.min_le_right _ _) hl)
   have no : (l[i].st == 2 && l[i].ah == c) = false → ig bm (fA c (l.take i)) = ig bm (fA c (l.take (i + 1))) := fun h => by
     unfold fA; rw [rL _ (fun p : aw => (⟨p.cm, p.id⟩ : aB)) h2 h]
   have yes : (l[i].st == 2 && l[i].ah == c) = true → bS bm ⟨l[i].cm, l[i].id⟩ (ig bm (fA c (l.take i))) = ig bm (fA c (l.take (i + 1))) := fun h => by
     have e := vC (fun p : aw => p.st == 2 && p.ah == c) (fun p : aw => (⟨p.cm, p.id⟩ : aB)) h2 h;show _ = ig bm (((l.take (i + 1)).filter _).map _);rw [← e, zE]; rfl
   refine ⟨l[i], by simp, get_cast l h2, ?_⟩;cbv;refine Br.split (fun k0 => ?_) (fun k0 => ?_) <;> cbv
   · refine ⟨l[i], by simp, get_cast l h2, ?_⟩;cbv;refine Br.split (fun k1 => ?_) (fun k1 => ?_) <;> cbv
     · repeat' first
         | (refine ag.by hP (Bx (ig bm (fA c (l.take i))) ⟨l[i].cm, l[i].id⟩ hlen) ?_; cbv)
         | (refine Ix.mk l[i] (by simp) (get_cast l h2) ?_; cbv)
         | (refine And.intro ?_ ?_)
         | fail
       all_goals
         refine Ar.exact (by (try simp only [nc] at *); omega) (by (try simp only [nc] at *); omega) ?_;cbv;refine aP.by (i + 1) ?_ ?_ ?_
         · show l.length - (i + 1) < l.length - i;omega
         · exact h2
         · cbv
           repeat' first | exact trivial | refine ⟨rfl, ?_⟩ | fail
           refine ⟨yes (by rw [k0]; exact k1), ?_⟩
           repeat' first | exact trivial | refine ⟨rfl, ?_⟩ | fail
     · refine Ar.exact (by (try simp only [nc] at *); omega) (by (try simp only [nc] at *); omega) ?_;cbv;refine aP.by (i + 1) ?_ ?_ ?_
       · show l.length - (i + 1) < l.length - i;omega
       · exact h2
       · cbv
         repeat' first | exact trivial | refine ⟨rfl, ?_⟩ | fail
         refine ⟨no (by rw [k0]; exact k1), ?_⟩
         repeat' first | exact trivial | refine ⟨rfl, ?_⟩ | fail
   · refine Ar.exact (by (try simp only [nc] at *); omega) (by (try simp only [nc] at *); omega) ?_;cbv;refine aP.by (i + 1) ?_ ?_ ?_
     · show l.length - (i + 1) < l.length - i;omega
     · exact h2
     · cbv
       repeat' first | exact trivial | refine ⟨rfl, ?_⟩ | fail
       refine ⟨no (by rw [k0]; rfl), ?_⟩
       repeat' first | exact trivial | refine ⟨rfl, ?_⟩ | fail
end Go.Proofs.YticeaiiffeccmaaGreat

