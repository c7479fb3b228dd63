/- Parts of a proof. No conditions. -/

import Derived.Test.YtnenmkiabclncaaGreatG08
import Derived.Test.YtnenmkiabclncaaGreatG09
set_option linter.unusedSimpArgs false
set_option linter.unusedVariables false
namespace Go.Proofs.YtnenmkiabclncaaGreat
open Go
set_option maxRecDepth 100000
set_option maxHeartbeats 4000000 in
theorem insertionPin_ok (xs : List Pin) (hn : xs.length ≤ bigN) : SpecM Tryz.prog 263 [oN 0, iT fun _ => 0, nT fun _ => xs.length, .c (.fn 172 [])] [(0, ownB' .pin fun _ => xs)]
    (RetM (.tup []) [(0, .own .pin fun _ => sortR pinLt xs)]) := by
  refine specM_of tabOk Tryz.func263 rfl rfl (fr := true) (fun _ => by kernel_rfl) rfl rfl fun P hP hA hB => ?_
  have hs : xs.length ≤ 1048576 := hn
  cbv
  refine Ar.exact (by (try simp only [nc] at *); omega) (by (try simp only [nc] at *); omega) ?_
  cbv
  repeat (refine Pz.mk ?_; cbv)
  refine LoopE.by (X := Nat) (fun i => [(0, oN 0), (1, iT fun _ => 0), (2, nT fun _ => xs.length), (3, .c (.fn 172 [])), (8, nT fun _ => i)]) (fun i => [(0, ownB' .pin fun _ => sortR pinLt (xs.take i) ++ xs.drop i)]) (fun i => 1 ≤ i ∧ (i ≤ xs.length ∨ i = 1)) (fun i _ => xs.length - i) 1 ⟨Nat.le_refl _, .inr rfl⟩ ?_ ?_
  · cbv
    repeat' first | exact trivial | refine ⟨rfl, ?_⟩ | fail
    exact ⟨(sort_head pinLt xs).symm, trivial⟩
  · intro i ⟨hi, hi'⟩
    cbv
    refine Br.dec (fun h2 => ?_) (fun h2 => ?_) <;> (cbv; repeat (refine Pz.mk ?_; cbv))
    rotate_left
    · refine ⟨?_, trivial⟩
      have h2 : xs.length ≤ i := by simp at h2; omega
      show sortR pinLt (xs.take i) ++ xs.drop i = sortR pinLt xs
      rw [List.take_of_length_le h2, List.drop_of_length_le h2, List.append_nil]
    have h2 : i < xs.length := by simpa using h2
    generalize hp : sortR pinLt (xs.take i) = p
    have hl : p.length = i := by rw [← hp, sortR_len, List.length_take]; omega
    have hsrt : Srt pinLt p := by rw [← hp]; exact sortR_srt pinSWO _
    refine LoopE.by (X := Nat) (fun j => [(0, oN 0), (1, iT fun _ => 0), (2, nT fun _ => xs.length), (3, .c (.fn 172 [])), (8, nT fun _ => i), (9, nT fun _ => j)]) (fun j => [(0, ownB' .pin fun _ => slt p xs[i] (xs.drop (i + 1)) j)]) (fun j => j ≤ i ∧ ∀ y ∈ p.drop j, pinLt xs[i] y = true) (fun j _ => j) i ⟨Nat.le_refl _, by rw [List.drop_of_length_le (by omega)]; intro y hy; cases hy⟩ ?_ ?_
    · cbv
      repeat' first | exact trivial | refine ⟨rfl, ?_⟩ | fail
      refine ⟨?_, trivial⟩
      show p ++ xs.drop i = slt p xs[i] (xs.drop (i + 1)) i
      rw [show slt p xs[i] (xs.drop (i + 1)) i = p ++ xs[i] :: xs.drop (i + 1) by rw [slt, List.take_of_length_le (by omega), List.drop_of_length_le (by omega)]; rfl, List.drop_eq_getElem_cons h2]
    · intro j ⟨hj, hq⟩
      have hlen : (slt p xs[i] (xs.drop (i + 1)) j).length = xs.length := by rw [slt_len (by omega), List.length_drop]; omega
      have gj : (slt p xs[i] (xs.drop (i + 1)) j).getD ((j : Int)).toNat default = xs[i] := by rw [Int.toNat_natCast, List.getD_eq_getElem?_getD, slt_at (by omega)]; rfl
      have stop : (0 < j → ∀ y, p[j - 1]? = some y → pinLt xs[i] y = false) → slt p xs[i] (xs.drop (i + 1)) j = sortR pinLt (xs.take (i + 1)) ++ xs.drop (i + 1) := fun hst => by
        rw [sort_step xs h2, hp]
        have e : p.take j ++ p.drop j = p := List.take_append_drop _ _
        rw [← e, insR_split xs[i] ?_ (fun b hb => hq b (List.mem_of_mem_head? hb)), e, slt, List.append_assoc]
        · rfl
        · intro b hb
          rcases Nat.eq_zero_or_pos j with h0 | h0
          · subst h0; simp at hb
          · have hj1 : j - 1 < p.length := by omega
            have e1 : p.take j = p.take (j - 1) ++ [p[j - 1]] := by
              have := List.take_add_one (l := p) (i := j - 1)
              rw [Nat.sub_add_cancel h0, List.getElem?_eq_getElem hj1] at this
              exact this
            rw [e1] at hb
            refine srt_last pinSWO ?_ (hst h0 _ (List.getElem?_eq_getElem hj1)) b hb
            rw [← e1]
            exact List.Pairwise.sublist (List.take_sublist _ _) hsrt
      cbv
      refine Br.dec (fun h3 => ?_) (fun h3 => ?_) <;> (cbv; repeat (refine Pz.mk ?_; cbv))
      · have h3 : 0 < j := by simpa using h3
        obtain ⟨y, hy⟩ : ∃ y, p[j - 1]? = some y := ⟨_, List.getElem?_eq_getElem (by omega)⟩
        have gp : (slt p xs[i] (xs.drop (i + 1)) j).getD ((j : Int) - 1).toNat default = y := by
          rw [show ((j : Int) - 1).toNat = j - 1 by omega, List.getD_eq_getElem?_getD, slt_prev (by omega) h3, hy]; rfl
        have oj : 0 ≤ (j : Int) ∧ (j : Int) < ((slt p xs[i] (xs.drop (i + 1)) j).length : Int) := by rw [hlen]; omega
        have op : 0 ≤ (j : Int) - 1 ∧ (j : Int) - 1 < ((slt p xs[i] (xs.drop (i + 1)) j).length : Int) := by rw [hlen]; omega
        repeat' first
          | (refine Ob.mk (by first | exact oj | exact op) ?_; cbv)
          | refine And.intro ?_ ?_
          | (refine Ar.exact (by (try simp only [nc] at *); omega) (by (try simp only [nc] at *); omega) ?_; cbv)
          | (refine CallA.by hP (comparePins_ok ((slt p xs[i] (xs.drop (i + 1)) j).getD ((j : Int)).toNat default) ((slt p xs[i] (xs.drop (i + 1)) j).getD ((j : Int) - 1).toNat default)) ?_; cbv)
          | fail
        all_goals refine Br.dec (fun h4 => ?_) (fun h4 => ?_) <;> cbv
        all_goals rw [gj, gp, cmp_lt] at h4
        all_goals first
          | (have h5 : pinLt xs[i] y = true := h4
             have hq' : ∀ z ∈ p.drop (j - 1), pinLt xs[i] z = true := fun z hz => by
               have e : p.drop (j - 1) = y :: p.drop j := by
                 have hj1 : j - 1 < p.length := by omega
                 rw [List.drop_eq_getElem_cons hj1, Nat.sub_add_cancel h3]
                 rw [List.getElem?_eq_getElem hj1] at hy
                 cases hy; rfl
               rw [e] at hz
               rcases List.mem_cons.1 hz with rfl | hz
               · exact h5
               · exact hq z hz
             have hj1 : ((j : Int) - 1).toNat = j - 1 := by omega
             clear h4
             repeat' first
               | (refine Ob.mk (by first | exact oj | exact op | (simp only [List.length_set, hlen, nc] at *; omega)) ?_; cbv)
               | refine And.intro ?_ ?_
               | (refine Ar.exact (by (try simp only [nc] at *); omega) (by (try simp only [nc] at *); omega) ?_; cbv)
               | (refine Sv.mk (fun _ => (slt p xs[i] (xs.drop (i + 1)) j).set j y) (by
                    show (slt p xs[i] (xs.drop (i + 1)) j).set ((j : Int)).toNat ((slt p xs[i] (xs.drop (i + 1)) j).getD ((j : Int) - 1).toNat default) = _
                    rw [gp, Int.toNat_natCast]) ?_; cbv)
               | (refine Sv.mk (fun _ => (slt p xs[i] (xs.drop (i + 1)) j).set (j - 1) xs[i]) (by
                    show (slt p xs[i] (xs.drop (i + 1)) j).set ((j : Int) - 1).toNat ((slt p xs[i] (xs.drop (i + 1)) j).getD ((j : Int)).toNat default) = _
                    rw [gj, hj1]) ?_; cbv)
               | (refine Sv.mk (fun _ => slt p xs[i] (xs.drop (i + 1)) (j - 1)) (by
                    show ((slt p xs[i] (xs.drop (i + 1)) j).set j y).set ((j : Int) - 1).toNat ((slt p xs[i] (xs.drop (i + 1)) j).getD ((j : Int)).toNat default) = _
                    rw [gj, hj1]; exact slt_swap (by omega) h3 hy) ?_; cbv)
               | (refine Sv.mk (fun _ => slt p xs[i] (xs.drop (i + 1)) (j - 1)) (by
                    show ((slt p xs[i] (xs.drop (i + 1)) j).set (j - 1) xs[i]).set ((j : Int)).toNat ((slt p xs[i] (xs.drop (i + 1)) j).getD ((j : Int) - 1).toNat default) = _
                    rw [gp, Int.toNat_natCast]; exact slt_swap' (by omega) h3 hy) ?_; cbv)
               | (refine NextE.by (j - 1) (show j - 1 < j by omega) ⟨by omega, hq'⟩ ?_; cbv)
               | exact trivial
               | refine ⟨rfl, ?_⟩
               | refine ⟨by simp only [nc] at *; omega, ?_⟩
               | fail)
          | (have h5 : pinLt xs[i] y = false := by simpa using h4
             have st := stop fun _ z hz => by rw [hy] at hz; cases hz; exact h5
             clear h4
             repeat' first
               | (refine Ar.exact (by (try simp only [nc] at *); omega) (by (try simp only [nc] at *); omega) ?_; cbv)
               | (refine NextE.by (i + 1) (show xs.length - (i + 1) < xs.length - i by omega) ⟨by omega, .inl h2⟩ ?_; cbv)
               | exact trivial
               | refine ⟨rfl, ?_⟩
               | refine ⟨st, ?_⟩
               | fail)
      · have h3 : ¬ 0 < j := by simpa using h3
        refine Ar.exact (by (try simp only [nc] at *); omega) (by (try simp only [nc] at *); omega) ?_
        cbv
        repeat (refine Pz.mk ?_; cbv)
        refine NextE.by (i + 1) ?_ ?_ ?_
        · show xs.length - (i + 1) < xs.length - i
          omega
        · exact ⟨by omega, .inl h2⟩
        · cbv
          repeat' first | exact trivial | refine ⟨rfl, ?_⟩ | fail
          refine ⟨?_, trivial⟩
          exact stop fun h => absurd h h3
theorem stablePin_ok (xs : List Pin) (h10 : xs.length ≤ 10) : SpecM Tryz.prog 260 [oN 0, nT fun _ => xs.length, .c (.fn 172 [])] [(0, ownB' .pin fun _ => xs)]
    (RetM (.tup []) [(0, .own .pin fun _ => sortR pinLt xs)]) := by
  refine specM_of tabOk Tryz.func260 rfl rfl (fr := true) (fun _ => by kernel_rfl) rfl rfl fun P hP hA hB => ?_
  cbv
  refine LoopE.by (X := Unit) (fun _ => [(0, oN 0), (1, nT fun _ => xs.length), (2, .c (.fn 172 [])), (6, iT fun _ => 20), (7, iT fun _ => 0), (8, iT fun _ => 20)]) (fun _ => [(0, ownB' .pin fun _ => xs)]) (fun _ => True) (fun _ _ => 0) () trivial ?_ ?_
  · cbv
    repeat' first | exact trivial | refine ⟨rfl, ?_⟩ | fail
  · intro _ _
    cbv
    refine Br.dec (fun h2 => ?_) (fun h2 => ?_) <;> (cbv; repeat (refine Pz.mk ?_; cbv))
    · exfalso
      simp only [nc] at *
      omega
    refine CallM.by hP (insertionPin_ok xs (Nat.le_trans h10 (by decide))) ?_
    cbv
    repeat (refine Pz.mk ?_; cbv)
    refine LoopE.by (X := Unit) (fun _ => [(0, oN 0), (1, nT fun _ => xs.length), (2, .c (.fn 172 [])), (6, iT fun _ => 20)]) (fun _ => [(0, ownB' .pin fun _ => sortR pinLt xs)]) (fun _ => True) (fun _ _ => 0) () trivial ?_ ?_
    · cbv
      repeat' first | exact trivial | refine ⟨rfl, ?_⟩ | fail
    · intro _ _
      cbv
      refine Br.dec (fun h3 => ?_) (fun h3 => ?_) <;> (cbv; repeat (refine Pz.mk ?_; cbv))
      · exfalso
        simp only [nc] at *
        omega
      repeat' first | exact trivial | refine ⟨rfl, ?_⟩ | fail
theorem sortStablePin_ok (xs : List Pin) (h10 : xs.length ≤ 10) : SpecM Tryz.prog 247 [oN 0, .c (.fn 172 [])] [(0, ownB' .pin fun _ => xs)]
    (RetM (.tup []) [(0, .own .pin fun _ => sortR pinLt xs)]) := by
  refine specM_of tabOk Tryz.func247 rfl rfl (fr := true) (fun _ => by kernel_rfl) rfl rfl fun P hP hA hB => ?_
  cbv
  refine CallM.by hP (stablePin_ok xs h10) ?_
  cbv
  repeat (refine Pz.mk ?_; cbv)
  repeat' first | exact trivial | refine ⟨rfl, ?_⟩ | fail
theorem len64_ok (n : Int) (h0 : 0 ≤ n) (h10 : n ≤ 10) : Spec Tryz.prog 272 [.c (.lf (.int .u64 fun _ => n))] (RetX Int (fun _ => True) fun x => iR fun _ => x) := by
  refine spec_of tabOk Tryz.func272 rfl rfl (fr := true) (fun _ => by kernel_rfl) fun P hP hA => ?_
  have w8 : IntKind.u8.wrap n = n := wrap_in (has_u8.2 ⟨h0, by omega⟩)
  cbv
  refine Br.dec (fun h1 => ?_) (fun h1 => ?_) <;> (cbv; repeat (refine Pz.mk ?_; cbv))
  · exfalso
    omega
  refine Br.dec (fun h2 => ?_) (fun h2 => ?_) <;> (cbv; repeat (refine Pz.mk ?_; cbv))
  · exfalso
    omega
  refine Br.dec (fun h3 => ?_) (fun h3 => ?_) <;> (cbv; repeat (refine Pz.mk ?_; cbv))
  · exfalso
    omega
  refine ⟨⟨?_, ?_⟩, ?_⟩
  · show 0 ≤ IntKind.u8.wrap n
    rw [w8]; exact h0
  · show IntKind.u8.wrap n < _
    rw [w8]
    exact Int.lt_of_lt_of_le (b := 256) (by omega) (by decide)
  cbv
  refine Ar.exact ?_ ?_ ?_
  · dsimp only
    generalize List.getD _ _ _ = q
    have := q.toNat_lt
    simp only [nc]
    omega
  · dsimp only
    generalize List.getD _ _ _ = q
    have := q.toNat_lt
    simp only [nc]
    omega
  cbv
  exact ⟨_, trivial, Eqn.mk rfl trivial⟩
theorem len_ok (n : Int) (h0 : 0 ≤ n) (h10 : n ≤ 10) : Spec Tryz.prog 253 [.c (.lf (.int .u64 fun _ => n))] (RetX Int (fun _ => True) fun x => iR fun _ => x) := by
  refine spec_of tabOk Tryz.func253 rfl rfl (fr := true) (fun _ => by kernel_rfl) fun P hP hA => ?_
  cbv
  refine CallA.ex hP (len64_ok n h0 h10) fun x hx => ?_
  cbv
  repeat (refine Pz.mk ?_; cbv)
  refine ⟨x, trivial, ?_⟩
  cbv
  repeat' first | exact trivial | refine ⟨rfl, ?_⟩ | fail
theorem pdqsortPin_ok (xs : List Pin) (h10 : xs.length ≤ 10) (l : Int) : SpecM Tryz.prog 252 [oN 0, iT fun _ => 0, nT fun _ => xs.length, iT fun _ => l, .c (.fn 172 [])] [(0, ownB' .pin fun _ => xs)]
    (RetM (.tup []) [(0, .own .pin fun _ => sortR pinLt xs)]) := by
  refine specM_of tabOk Tryz.func252 rfl rfl (fr := true) (fun _ => by kernel_rfl) rfl rfl fun P hP hA hB => ?_
  cbv
  refine LoopE.by (X := Unit) (fun _ => [(0, oN 0), (1, iT fun _ => 0), (2, nT fun _ => xs.length), (3, iT fun _ => l), (4, .c (.fn 172 []))]) (fun _ => [(0, ownB' .pin fun _ => xs)]) (fun _ => True) (fun _ _ => 0) () trivial ?_ ?_
  · cbv
    repeat' first | exact trivial | refine ⟨rfl, ?_⟩ | fail
  · intro _ _
    cbv
    refine Ar.exact (by (try simp only [nc] at *); omega) (by (try simp only [nc] at *); omega) ?_
    cbv
    repeat (refine Pz.mk ?_; cbv)
    refine Br.dec (fun h2 => ?_) (fun h2 => ?_) <;> (cbv; repeat (refine Pz.mk ?_; cbv))
    rotate_left
    · exfalso
      simp only [nc] at *
      omega
    refine CallM.by hP (insertionPin_ok xs (Nat.le_trans h10 (by decide))) ?_
    cbv
    repeat (refine Pz.mk ?_; cbv)
    repeat' first | exact trivial | refine ⟨rfl, ?_⟩ | fail
theorem sortPin_ok (xs : List Pin) (h10 : xs.length ≤ 10) : SpecM Tryz.prog 222 [oN 0, .c (.fn 172 [])] [(0, ownB' .pin fun _ => xs)]
    (RetM (.tup []) [(0, .own .pin fun _ => sortR pinLt xs)]) := by
  refine specM_of tabOk Tryz.func222 rfl rfl (fr := true) (fun _ => by kernel_rfl) rfl rfl fun P hP hA hB => ?_
  have w64 : IntKind.u64.wrap (xs.length : Int) = (xs.length : Int) := wrap_in (has_u64.2 ⟨by omega, by omega⟩)
  have g0 : 0 ≤ IntKind.u64.wrap (xs.length : Int) := by rw [w64]; omega
  have g1 : IntKind.u64.wrap (xs.length : Int) ≤ 10 := by rw [w64]; omega
  cbv
  refine CallA.ex hP (len_ok (IntKind.u64.wrap (xs.length : Int)) g0 g1) fun l hl => ?_
  cbv
  repeat (refine Pz.mk ?_; cbv)
  refine CallM.by hP (pdqsortPin_ok xs h10 l) ?_
  cbv
  repeat (refine Pz.mk ?_; cbv)
  repeat' first | exact trivial | refine ⟨rfl, ?_⟩ | fail
end Go.Proofs.YtnenmkiabclncaaGreat
namespace Go.Proofs.YtnenmkiabclncaaGreat
open Go
set_option maxRecDepth 100000
set_option maxHeartbeats 4000000 in
theorem insertionEnt_ok (xs : List Entry) (hn : xs.length ≤ bigN) : SpecM Tryz.prog 248 [oN 0, iT fun _ => 0, nT fun _ => xs.length, .c (.fn 136 [])] [(0, ownB' .ent fun _ => xs)]
    (RetM (.tup []) [(0, .own .ent fun _ => sortR entLt xs)]) := by
  refine specM_of tabOk Tryz.func248 rfl rfl (fr := true) (fun _ => by kernel_rfl) rfl rfl fun P hP hA hB => ?_
  have hs : xs.length ≤ 1048576 := hn
  cbv
  refine Ar.exact (by (try simp only [nc] at *); omega) (by (try simp only [nc] at *); omega) ?_
  cbv
  repeat (refine Pz.mk ?_; cbv)
  refine LoopE.by (X := Nat) (fun i => [(0, oN 0), (1, iT fun _ => 0), (2, nT fun _ => xs.length), (3, .c (.fn 136 [])), (8, nT fun _ => i)]) (fun i => [(0, ownB' .ent fun _ => sortR entLt (xs.take i) ++ xs.drop i)]) (fun i => 1 ≤ i ∧ (i ≤ xs.length ∨ i = 1)) (fun i _ => xs.length - i) 1 ⟨Nat.le_refl _, .inr rfl⟩ ?_ ?_
  · cbv
    repeat' first | exact trivial | refine ⟨rfl, ?_⟩ | fail
    exact ⟨(sort_head entLt xs).symm, trivial⟩
  · intro i ⟨hi, hi'⟩
    cbv
    refine Br.dec (fun h2 => ?_) (fun h2 => ?_) <;> (cbv; repeat (refine Pz.mk ?_; cbv))
    rotate_left
    · refine ⟨?_, trivial⟩
      have h2 : xs.length ≤ i := by simp at h2; omega
      show sortR entLt (xs.take i) ++ xs.drop i = sortR entLt xs
      rw [List.take_of_length_le h2, List.drop_of_length_le h2, List.append_nil]
    have h2 : i < xs.length := by simpa using h2
    generalize hp : sortR entLt (xs.take i) = p
    have hl : p.length = i := by rw [← hp, sortR_len, List.length_take]; omega
    have hsrt : Srt entLt p := by rw [← hp]; exact sortR_srt entSWO _
    refine LoopE.by (X := Nat) (fun j => [(0, oN 0), (1, iT fun _ => 0), (2, nT fun _ => xs.length), (3, .c (.fn 136 [])), (8, nT fun _ => i), (9, nT fun _ => j)]) (fun j => [(0, ownB' .ent fun _ => slt p xs[i] (xs.drop (i + 1)) j)]) (fun j => j ≤ i ∧ ∀ y ∈ p.drop j, entLt xs[i] y = true) (fun j _ => j) i ⟨Nat.le_refl _, by rw [List.drop_of_length_le (by omega)]; intro y hy; cases hy⟩ ?_ ?_
    · cbv
      repeat' first | exact trivial | refine ⟨rfl, ?_⟩ | fail
      refine ⟨?_, trivial⟩
      show p ++ xs.drop i = slt p xs[i] (xs.drop (i + 1)) i
      rw [show slt p xs[i] (xs.drop (i + 1)) i = p ++ xs[i] :: xs.drop (i + 1) by rw [slt, List.take_of_length_le (by omega), List.drop_of_length_le (by omega)]; rfl, List.drop_eq_getElem_cons h2]
    · intro j ⟨hj, hq⟩
      have hlen : (slt p xs[i] (xs.drop (i + 1)) j).length = xs.length := by rw [slt_len (by omega), List.length_drop]; omega
      have gj : (slt p xs[i] (xs.drop (i + 1)) j).getD ((j : Int)).toNat default = xs[i] := by rw [Int.toNat_natCast, List.getD_eq_getElem?_getD, slt_at (by omega)]; rfl
      have stop : (0 < j → ∀ y, p[j - 1]? = some y → entLt xs[i] y = false) → slt p xs[i] (xs.drop (i + 1)) j = sortR entLt (xs.take (i + 1)) ++ xs.drop (i + 1) := fun hst => by
        rw [sort_step xs h2, hp]
        have e : p.take j ++ p.drop j = p := List.take_append_drop _ _
        rw [← e, insR_split xs[i] ?_ (fun b hb => hq b (List.mem_of_mem_head? hb)), e, slt, List.append_assoc]
        · rfl
        · intro b hb
          rcases Nat.eq_zero_or_pos j with h0 | h0
          · subst h0; simp at hb
          · have hj1 : j - 1 < p.length := by omega
            have e1 : p.take j = p.take (j - 1) ++ [p[j - 1]] := by
              have := List.take_add_one (l := p) (i := j - 1)
              rw [Nat.sub_add_cancel h0, List.getElem?_eq_getElem hj1] at this
              exact this
            rw [e1] at hb
            refine srt_last entSWO ?_ (hst h0 _ (List.getElem?_eq_getElem hj1)) b hb
            rw [← e1]
            exact List.Pairwise.sublist (List.take_sublist _ _) hsrt
      cbv
      refine Br.dec (fun h3 => ?_) (fun h3 => ?_) <;> (cbv; repeat (refine Pz.mk ?_; cbv))
      · have h3 : 0 < j := by simpa using h3
        obtain ⟨y, hy⟩ : ∃ y, p[j - 1]? = some y := ⟨_, List.getElem?_eq_getElem (by omega)⟩
        have gp : (slt p xs[i] (xs.drop (i + 1)) j).getD ((j : Int) - 1).toNat default = y := by
          rw [show ((j : Int) - 1).toNat = j - 1 by omega, List.getD_eq_getElem?_getD, slt_prev (by omega) h3, hy]; rfl
        have oj : 0 ≤ (j : Int) ∧ (j : Int) < ((slt p xs[i] (xs.drop (i + 1)) j).length : Int) := by rw [hlen]; omega
        have op : 0 ≤ (j : Int) - 1 ∧ (j : Int) - 1 < ((slt p xs[i] (xs.drop (i + 1)) j).length : Int) := by rw [hlen]; omega
        repeat' first
          | (refine Ob.mk (by first | exact oj | exact op) ?_; cbv)
          | refine And.intro ?_ ?_
          | (refine Ar.exact (by (try simp only [nc] at *); omega) (by (try simp only [nc] at *); omega) ?_; cbv)
          | (refine CallA.by hP (compareEntries_ok ((slt p xs[i] (xs.drop (i + 1)) j).getD ((j : Int)).toNat default) ((slt p xs[i] (xs.drop (i + 1)) j).getD ((j : Int) - 1).toNat default)) ?_; cbv)
          | fail
        all_goals refine Br.dec (fun h4 => ?_) (fun h4 => ?_) <;> cbv
        all_goals rw [gj, gp, cmp_lt] at h4
        all_goals first
          | (have h5 : entLt xs[i] y = true := h4
             have hq' : ∀ z ∈ p.drop (j - 1), entLt xs[i] z = true := fun z hz => by
               have e : p.drop (j - 1) = y :: p.drop j := by
                 have hj1 : j - 1 < p.length := by omega
                 rw [List.drop_eq_getElem_cons hj1, Nat.sub_add_cancel h3]
                 rw [List.getElem?_eq_getElem hj1] at hy
                 cases hy; rfl
               rw [e] at hz
               rcases List.mem_cons.1 hz with rfl | hz
               · exact h5
               · exact hq z hz
             have hj1 : ((j : Int) - 1).toNat = j - 1 := by omega
             clear h4
             repeat' first
               | (refine Ob.mk (by first | exact oj | exact op | (simp only [List.length_set, hlen, nc] at *; omega)) ?_; cbv)
               | refine And.intro ?_ ?_
               | (refine Ar.exact (by (try simp only [nc] at *); omega) (by (try simp only [nc] at *); omega) ?_; cbv)
               | (refine Sv.mk (fun _ => (slt p xs[i] (xs.drop (i + 1)) j).set j y) (by
                    show (slt p xs[i] (xs.drop (i + 1)) j).set ((j : Int)).toNat ((slt p xs[i] (xs.drop (i + 1)) j).getD ((j : Int) - 1).toNat default) = _
                    rw [gp, Int.toNat_natCast]) ?_; cbv)
               | (refine Sv.mk (fun _ => (slt p xs[i] (xs.drop (i + 1)) j).set (j - 1) xs[i]) (by
                    show (slt p xs[i] (xs.drop (i + 1)) j).set ((j : Int) - 1).toNat ((slt p xs[i] (xs.drop (i + 1)) j).getD ((j : Int)).toNat default) = _
                    rw [gj, hj1]) ?_; cbv)
               | (refine Sv.mk (fun _ => slt p xs[i] (xs.drop (i + 1)) (j - 1)) (by
                    show ((slt p xs[i] (xs.drop (i + 1)) j).set j y).set ((j : Int) - 1).toNat ((slt p xs[i] (xs.drop (i + 1)) j).getD ((j : Int)).toNat default) = _
                    rw [gj, hj1]; exact slt_swap (by omega) h3 hy) ?_; cbv)
               | (refine Sv.mk (fun _ => slt p xs[i] (xs.drop (i + 1)) (j - 1)) (by
                    show ((slt p xs[i] (xs.drop (i + 1)) j).set (j - 1) xs[i]).set ((j : Int)).toNat ((slt p xs[i] (xs.drop (i + 1)) j).getD ((j : Int) - 1).toNat default) = _
                    rw [gp, Int.toNat_natCast]; exact slt_swap' (by omega) h3 hy) ?_; cbv)
               | (refine NextE.by (j - 1) (show j - 1 < j by omega) ⟨by omega, hq'⟩ ?_; cbv)
               | exact trivial
               | refine ⟨rfl, ?_⟩
               | refine ⟨by simp only [nc] at *; omega, ?_⟩
               | fail)
          | (have h5 : entLt xs[i] y = false := by simpa using h4
             have st := stop fun _ z hz => by rw [hy] at hz; cases hz; exact h5
             clear h4
             repeat' first
               | (refine Ar.exact (by (try simp only [nc] at *); omega) (by (try simp only [nc] at *); omega) ?_; cbv)
               | (refine NextE.by (i + 1) (show xs.length - (i + 1) < xs.length - i by omega) ⟨by omega, .inl h2⟩ ?_; cbv)
               | exact trivial
               | refine ⟨rfl, ?_⟩
               | refine ⟨st, ?_⟩
               | fail)
      · have h3 : ¬ 0 < j := by simpa using h3
        refine Ar.exact (by (try simp only [nc] at *); omega) (by (try simp only [nc] at *); omega) ?_
        cbv
        repeat (refine Pz.mk ?_; cbv)
        refine NextE.by (i + 1) ?_ ?_ ?_
        · show xs.length - (i + 1) < xs.length - i
          omega
        · exact ⟨by omega, .inl h2⟩
        · cbv
          repeat' first | exact trivial | refine ⟨rfl, ?_⟩ | fail
          refine ⟨?_, trivial⟩
          exact stop fun h => absurd h h3
theorem smallN {α : Type} {xs : List α} (h : xs.length ≤ 10) : xs.length ≤ bigN := Nat.le_trans h (by decide)
theorem stableEnt_ok (xs : List Entry) (h10 : xs.length ≤ 10) : SpecM Tryz.prog 217 [oN 0, nT fun _ => xs.length, .c (.fn 136 [])] [(0, ownB' .ent fun _ => xs)]
    (RetM (.tup []) [(0, .own .ent fun _ => sortR entLt xs)]) := by
  refine specM_of tabOk Tryz.func217 rfl rfl (fr := true) (fun _ => by kernel_rfl) rfl rfl fun P hP hA hB => ?_
  cbv
  refine LoopE.by (X := Unit) (fun _ => [(0, oN 0), (1, nT fun _ => xs.length), (2, .c (.fn 136 [])), (6, iT fun _ => 20), (7, iT fun _ => 0), (8, iT fun _ => 20)]) (fun _ => [(0, ownB' .ent fun _ => xs)]) (fun _ => True) (fun _ _ => 0) () trivial ?_ ?_
  · cbv
    repeat' first | exact trivial | refine ⟨rfl, ?_⟩ | fail
  · intro _ _
    cbv
    refine Br.dec (fun h2 => ?_) (fun h2 => ?_) <;> (cbv; repeat (refine Pz.mk ?_; cbv))
    · exfalso
      simp only [nc] at *
      omega
    refine CallM.by hP (insertionEnt_ok xs (smallN h10)) ?_
    cbv
    repeat (refine Pz.mk ?_; cbv)
    refine LoopE.by (X := Unit) (fun _ => [(0, oN 0), (1, nT fun _ => xs.length), (2, .c (.fn 136 [])), (6, iT fun _ => 20)]) (fun _ => [(0, ownB' .ent fun _ => sortR entLt xs)]) (fun _ => True) (fun _ _ => 0) () trivial ?_ ?_
    · cbv
      repeat' first | exact trivial | refine ⟨rfl, ?_⟩ | fail
    · intro _ _
      cbv
      refine Br.dec (fun h3 => ?_) (fun h3 => ?_) <;> (cbv; repeat (refine Pz.mk ?_; cbv))
      · exfalso
        simp only [nc] at *
        omega
      repeat' first | exact trivial | refine ⟨rfl, ?_⟩ | fail
theorem sortStableEnt_ok (xs : List Entry) (h10 : xs.length ≤ 10) : SpecM Tryz.prog 135 [oN 0, .c (.fn 136 [])] [(0, ownB' .ent fun _ => xs)]
    (RetM (.tup []) [(0, .own .ent fun _ => sortR entLt xs)]) := by
  refine specM_of tabOk Tryz.func135 rfl rfl (fr := true) (fun _ => by kernel_rfl) rfl rfl fun P hP hA hB => ?_
  cbv
  refine CallM.by hP (stableEnt_ok xs h10) ?_
  cbv
  repeat (refine Pz.mk ?_; cbv)
  repeat' first | exact trivial | refine ⟨rfl, ?_⟩ | fail
end Go.Proofs.YtnenmkiabclncaaGreat
namespace Go.Proofs.YtnenmkiabclncaaGreat
open Go
set_option maxRecDepth 100000
def ruC (R : Rules) : List C := [.lf (.list .int fun _ => R.seats), .lf (.int .i64 fun _ => R.tiers), .lf (.int .i64 fun _ => R.room), .lf (.int .i64 fun _ => R.size), .lf (.int .i64 fun _ => R.period), .lf (.int .i64 fun _ => R.window), .lf (.int .i64 fun _ => R.rest), .lf (.int .i64 fun _ => R.tries), .lf (.int .i64 fun _ => R.crew)]
def entsOf (R : Rules) (c now : Int) (l : List Party) : List Entry := (l.filter fun p => entOkB R p now && p.cab == c).map fun p => entryOf R p now
def queueOf (R : Rules) (l : List Party) (c now : Int) : List Entry := sortR entLt (entsOf R c now l)
def pinsOfP (c : Int) (l : List Party) : List Pin := (l.filter fun p => p.st == 2 && p.cab == c).map fun p => ⟨p.untl, p.id⟩
def pinsIn (l : List Party) (c : Int) : List Pin := sortR pinLt (pinsOfP c l)
section
variable {α β : Type} (q : α → Bool) (f : α → β)
theorem fm_yes {l : List α} {i : Nat} (h : i < l.length) (hq : q l[i] = true) : ((l.take i).filter q).map f ++ [f l[i]] = ((l.take (i + 1)).filter q).map f := by
  rw [List.take_add_one, List.getElem?_eq_getElem h, List.filter_append, List.map_append]; simp [hq]
theorem fm_no {l : List α} {i : Nat} (h : i < l.length) (hq : q l[i] = false) : ((l.take i).filter q).map f = ((l.take (i + 1)).filter q).map f := by
  rw [List.take_add_one, List.getElem?_eq_getElem h, List.filter_append, List.map_append]; simp [hq]
theorem fm_len {l : List α} : ((l.filter q).map f).length ≤ l.length := by rw [List.length_map]; exact List.length_filter_le _ _
theorem fd_yes {l : List α} {i : Nat} (h : i < l.length) (hq : q l[i] = true) : ((l.drop i).filter q).map f = f l[i] :: ((l.drop (i + 1)).filter q).map f := by
  rw [List.drop_eq_getElem_cons h, List.filter_cons_of_pos hq]; rfl
theorem fd_no {l : List α} {i : Nat} (h : i < l.length) (hq : q l[i] = false) : ((l.drop i).filter q).map f = ((l.drop (i + 1)).filter q).map f := by
  rw [List.drop_eq_getElem_cons h, List.filter_cons_of_neg (by rw [hq]; simp)]
end
theorem entsOf_len (R : Rules) (c now : Int) (l : List Party) : (entsOf R c now l).length ≤ l.length := fm_len _ _
theorem sortL_len {l : List Entry} : (sortL entLt l).length = l.length := by rw [sortL_eq entSWO, sortR_len]
theorem specQueueOf_ok (R : Rules) (l : List Party) (c now : Int) (hs : R.seats.length ≤ bigN) (hl : l.length ≤ bigN) : Spec Tryz.prog 57 [ruA R, lA .pty l, iA c, iA now] (Ret (lR .ent fun _ => queueOf R l c now)) := by
  refine spec_of tabOk Tryz.func57 rfl rfl (fr := true) (fun _ => by kernel_rfl) fun P hP hA => ?_
  have hl' : l.length ≤ 1048576 := hl
  cbv
  refine Ar.exact (by (try simp only [nc] at *); omega) (by (try simp only [nc] at *); omega) ?_
  cbv
  repeat (refine Pz.mk ?_; cbv)
  refine LoopE.by (X := Nat) (fun m => [(1, lA .pty l), (2, iA c), (3, iA now), (4, pN 0), (9, oN 1), (10, iT fun _ => (m : Int) - 1)]) (fun m => [(0, .box (ruC R)), (1, ownB' .ent fun _ => sortL entLt (entsOf R c now (l.drop m)))]) (fun m => m ≤ l.length) (fun m _ => m) l.length (Nat.le_refl _) ?_ ?_
  · cbv
    repeat' first | exact trivial | refine ⟨rfl, ?_⟩ | fail
    refine ⟨?_, trivial⟩
    show [] = sortL entLt (entsOf R c now (l.drop l.length))
    rw [List.drop_length]; rfl
  · intro m hm
    cbv
    refine Br.dec (fun h2 => ?_) (fun h2 => ?_) <;> (cbv; repeat (refine Pz.mk ?_; cbv))
    rotate_left
    · have h2 : m = 0 := by simp only [nc] at *; omega
      subst h2
      refine ⟨?_, trivial⟩
      show sortL entLt (entsOf R c now (l.drop 0)) = queueOf R l c now
      rw [List.drop_zero, sortL_eq entSWO]; rfl
    have h2 : 1 ≤ m := by simp only [nc] at *; omega
    obtain ⟨i, rfl⟩ : ∃ i, m = i + 1 := ⟨m - 1, by omega⟩
    have hi : i < l.length := hm
    have ei : (((i + 1 : Nat) : Int) - 1).toNat = i := by omega
    have hlen : (sortL entLt (entsOf R c now (l.drop (i + 1)))).length ≤ bigN := by
      rw [sortL_len]
      exact Nat.le_trans (entsOf_len _ _ _ _) (by rw [List.length_drop]; exact Nat.le_trans (Nat.sub_le _ _) hl)
    have hpos : 0 ≤ ((i + 1 : Nat) : Int) - 1 := by omega
    have hget : l[(((i + 1 : Nat) : Int) - 1).toNat]? = some l[i] := by rw [ei]; exact List.getElem?_eq_getElem hi
    have no : (entOkB R l[i] now && l[i].cab == c) = false → sortL entLt (entsOf R c now (l.drop (i + 1))) = sortL entLt (entsOf R c now (l.drop i)) := fun h => by
      unfold entsOf; rw [fd_no _ _ hi h]
    have yes : (entOkB R l[i] now && l[i].cab == c) = true → insL entLt (entryOf R l[i] now) (sortL entLt (entsOf R c now (l.drop (i + 1)))) = sortL entLt (entsOf R c now (l.drop i)) := fun h => by
      unfold entsOf; rw [fd_yes _ _ hi h]; rfl
    have e1 : ((i + 1 : Nat) : Int) - 1 - 1 = (i : Int) - 1 := by omega
    refine ⟨l[i], hpos, hget, ?_⟩
    cbv
    repeat' first
      | (refine CallA.by hP (specEntryOf_ok R l[i] now hs (entryOf R l[i] now) rfl (entOkB R l[i] now) rfl) ?_; cbv)
      | (refine And.intro ?_ ?_)
      | fail
    all_goals
      refine Br.split (fun k0 => ?_) (fun k0 => ?_) <;> (cbv; repeat (refine Pz.mk ?_; cbv))
      · refine ⟨l[i], hpos, hget, ?_⟩
        cbv
        refine Br.split (fun k1 => ?_) (fun k1 => ?_) <;> (cbv; repeat (refine Pz.mk ?_; cbv))
        · refine CallA.by hP (l7Put_ok (sortL entLt (entsOf R c now (l.drop (i + 1)))) (entryOf R l[i] now) hlen) ?_
          cbv
          repeat (refine Pz.mk ?_; cbv)
          refine Ar.exact (by (try simp only [nc] at *); omega) (by (try simp only [nc] at *); omega) ?_
          cbv
          repeat (refine Pz.mk ?_; cbv)
          refine NextE.by i ?_ ?_ ?_
          · show i < i + 1
            omega
          · show i ≤ l.length
            omega
          · cbv
            repeat' first | exact trivial | refine ⟨rfl, ?_⟩ | fail
            refine ⟨e1, ?_⟩
            repeat' first | exact trivial | refine ⟨rfl, ?_⟩ | fail
            refine ⟨yes (by rw [k0]; exact k1), ?_⟩
            repeat' first | exact trivial | refine ⟨rfl, ?_⟩ | fail
        · refine Ar.exact (by (try simp only [nc] at *); omega) (by (try simp only [nc] at *); omega) ?_
          cbv
          repeat (refine Pz.mk ?_; cbv)
          refine NextE.by i ?_ ?_ ?_
          · show i < i + 1
            omega
          · show i ≤ l.length
            omega
          · cbv
            repeat' first | exact trivial | refine ⟨rfl, ?_⟩ | fail
            refine ⟨e1, ?_⟩
            repeat' first | exact trivial | refine ⟨rfl, ?_⟩ | fail
            refine ⟨no (by rw [k0]; exact k1), ?_⟩
            repeat' first | exact trivial | refine ⟨rfl, ?_⟩ | fail
      · refine Ar.exact (by (try simp only [nc] at *); omega) (by (try simp only [nc] at *); omega) ?_
        cbv
        repeat (refine Pz.mk ?_; cbv)
        refine NextE.by i ?_ ?_ ?_
        · show i < i + 1
          omega
        · show i ≤ l.length
          omega
        · cbv
          repeat' first | exact trivial | refine ⟨rfl, ?_⟩ | fail
          refine ⟨e1, ?_⟩
          repeat' first | exact trivial | refine ⟨rfl, ?_⟩ | fail
          refine ⟨no (by rw [k0]; rfl), ?_⟩
          repeat' first | exact trivial | refine ⟨rfl, ?_⟩ | fail
theorem implQueueOf_ok (R : Rules) (l : List Party) (c now : Int) (hs : R.seats.length ≤ bigN) (hl : l.length ≤ bigN) (h10 : (entsOf R c now l).length ≤ 10) : Spec Tryz.prog 64 [ruA R, lA .pty l, iA c, iA now] (Ret (lR .ent fun _ => queueOf R l c now)) := by
  refine spec_of tabOk Tryz.func64 rfl rfl (fr := true) (fun _ => by kernel_rfl) fun P hP hA => ?_
  have hl' : l.length ≤ 1048576 := hl
  cbv
  refine LoopE.by (X := Nat) (fun i => [(2, iA c), (3, iA now), (4, pN 0), (9, oN 1), (14, lA .pty l), (15, nT fun _ => l.length), (16, nT fun _ => i)]) (fun i => [(0, .box (ruC R)), (1, ownB' .ent fun _ => entsOf R c now (l.take i))]) (fun i => i ≤ l.length) (fun i _ => l.length - i) 0 (Nat.zero_le _) ?_ ?_
  · cbv
    repeat' first | exact trivial | refine ⟨rfl, ?_⟩ | fail
  · intro i hi
    cbv
    refine Br.dec (fun h2 => ?_) (fun h2 => ?_) <;> (cbv; repeat (refine Pz.mk ?_; cbv))
    rotate_left
    · have h2 : l.length ≤ i := by simp at h2; omega
      have e : entsOf R c now (l.take i) = entsOf R c now l := by rw [List.take_of_length_le h2]
      refine CallM.by hP (sortStableEnt_ok (entsOf R c now (l.take i)) (by rw [e]; exact h10)) ?_
      cbv
      repeat (refine Pz.mk ?_; cbv)
      refine ⟨?_, trivial⟩
      show sortR entLt (entsOf R c now (l.take i)) = queueOf R l c now
      rw [e]; rfl
    have h2 : i < l.length := by simpa using h2
    have ob : (List.length (entsOf R c now (l.take i)) + 1) * 32 ≤ 140737488355328 := by
      have := entsOf_len R c now (l.take i)
      rw [List.length_take] at this
      omega
    refine ⟨l[i], by simp, get_cast l h2, ?_⟩
    cbv
    repeat (refine Pz.mk ?_; cbv)
    refine CallA.by hP (implEntryOf_ok R l[i] now hs (entryOf R l[i] now) rfl (entOkB R l[i] now) rfl) ?_
    cbv
    repeat (refine Pz.mk ?_; cbv)
    refine Br.split (fun k0 => ?_) (fun k0 => ?_) <;> (cbv; repeat (refine Pz.mk ?_; cbv))
    · refine Br.split (fun k1 => ?_) (fun k1 => ?_) <;> (cbv; repeat (refine Pz.mk ?_; cbv))
      · refine ⟨ob, ?_⟩
        cbv
        refine Ar.exact (by (try simp only [nc] at *); omega) (by (try simp only [nc] at *); omega) ?_
        cbv
        repeat (refine Pz.mk ?_; cbv)
        refine NextE.by (i + 1) ?_ ?_ ?_
        · show l.length - (i + 1) < l.length - i
          omega
        · exact h2
        · cbv
          repeat' first | exact trivial | refine ⟨rfl, ?_⟩ | fail
          refine ⟨fm_yes _ (fun p => entryOf R p now) h2 (by rw [k0]; exact k1), ?_⟩
          repeat' first | exact trivial | refine ⟨rfl, ?_⟩ | fail
      · refine Ar.exact (by (try simp only [nc] at *); omega) (by (try simp only [nc] at *); omega) ?_
        cbv
        repeat (refine Pz.mk ?_; cbv)
        refine NextE.by (i + 1) ?_ ?_ ?_
        · show l.length - (i + 1) < l.length - i
          omega
        · exact h2
        · cbv
          repeat' first | exact trivial | refine ⟨rfl, ?_⟩ | fail
          refine ⟨fm_no _ (fun p => entryOf R p now) h2 (by rw [k0]; exact k1), ?_⟩
          repeat' first | exact trivial | refine ⟨rfl, ?_⟩ | fail
    · refine Ar.exact (by (try simp only [nc] at *); omega) (by (try simp only [nc] at *); omega) ?_
      cbv
      repeat (refine Pz.mk ?_; cbv)
      refine NextE.by (i + 1) ?_ ?_ ?_
      · show l.length - (i + 1) < l.length - i
        omega
      · exact h2
      · cbv
        repeat' first | exact trivial | refine ⟨rfl, ?_⟩ | fail
        refine ⟨fm_no _ (fun p => entryOf R p now) h2 (by rw [k0]; rfl), ?_⟩
        repeat' first | exact trivial | refine ⟨rfl, ?_⟩ | fail
theorem pinsOfP_len (c : Int) (l : List Party) : (pinsOfP c l).length ≤ l.length := fm_len _ _
theorem sortF_len {l : List Pin} : (sortF pinLt l).length = l.length := by rw [sortF_eq pinSWO pin_anti, sortR_len]
theorem implPinsIn_ok (l : List Party) (c : Int) (hl : l.length ≤ bigN) (h10 : (pinsOfP c l).length ≤ 10) : Spec Tryz.prog 213 [lA .pty l, iA c] (Ret (lR .pin fun _ => pinsIn l c)) := by
  refine spec_of tabOk Tryz.func213 rfl rfl (fr := true) (fun _ => by kernel_rfl) fun P hP hA => ?_
  have hl' : l.length ≤ 1048576 := hl
  cbv
  refine LoopE.by (X := Nat) (fun i => [(1, iA c), (5, oN 0), (8, lA .pty l), (9, nT fun _ => l.length), (10, nT fun _ => i)]) (fun i => [(0, ownB' .pin fun _ => pinsOfP c (l.take i))]) (fun i => i ≤ l.length) (fun i _ => l.length - i) 0 (Nat.zero_le _) ?_ ?_
  · cbv
    repeat' first | exact trivial | refine ⟨rfl, ?_⟩ | fail
  · intro i hi
    cbv
    refine Br.dec (fun h2 => ?_) (fun h2 => ?_) <;> (cbv; repeat (refine Pz.mk ?_; cbv))
    rotate_left
    · have h2 : l.length ≤ i := by simp at h2; omega
      have e : pinsOfP c (l.take i) = pinsOfP c l := by rw [List.take_of_length_le h2]
      refine CallM.by hP (sortStablePin_ok (pinsOfP c (l.take i)) (by rw [e]; exact h10)) ?_
      cbv
      repeat (refine Pz.mk ?_; cbv)
      refine ⟨?_, trivial⟩
      show sortR pinLt (pinsOfP c (l.take i)) = pinsIn l c
      rw [e]; rfl
    have h2 : i < l.length := by simpa using h2
    have ob : (List.length (pinsOfP c (l.take i)) + 1) * 16 ≤ 140737488355328 := by
      have := pinsOfP_len c (l.take i)
      rw [List.length_take] at this
      omega
    refine ⟨l[i], by simp, get_cast l h2, ?_⟩
    cbv
    repeat (refine Pz.mk ?_; cbv)
    refine Br.split (fun k0 => ?_) (fun k0 => ?_) <;> (cbv; repeat (refine Pz.mk ?_; cbv))
    · refine Br.split (fun k1 => ?_) (fun k1 => ?_) <;> (cbv; repeat (refine Pz.mk ?_; cbv))
      · refine ⟨ob, ?_⟩
        cbv
        refine Ar.exact (by (try simp only [nc] at *); omega) (by (try simp only [nc] at *); omega) ?_
        cbv
        repeat (refine Pz.mk ?_; cbv)
        refine NextE.by (i + 1) ?_ ?_ ?_
        · show l.length - (i + 1) < l.length - i
          omega
        · exact h2
        · cbv
          repeat' first | exact trivial | refine ⟨rfl, ?_⟩ | fail
          refine ⟨fm_yes _ (fun p : Party => (⟨p.untl, p.id⟩ : Pin)) h2 (by rw [k0]; exact k1), ?_⟩
          repeat' first | exact trivial | refine ⟨rfl, ?_⟩ | fail
      · refine Ar.exact (by (try simp only [nc] at *); omega) (by (try simp only [nc] at *); omega) ?_
        cbv
        repeat (refine Pz.mk ?_; cbv)
        refine NextE.by (i + 1) ?_ ?_ ?_
        · show l.length - (i + 1) < l.length - i
          omega
        · exact h2
        · cbv
          repeat' first | exact trivial | refine ⟨rfl, ?_⟩ | fail
          refine ⟨fm_no _ (fun p : Party => (⟨p.untl, p.id⟩ : Pin)) h2 (by rw [k0]; exact k1), ?_⟩
          repeat' first | exact trivial | refine ⟨rfl, ?_⟩ | fail
    · refine Ar.exact (by (try simp only [nc] at *); omega) (by (try simp only [nc] at *); omega) ?_
      cbv
      repeat (refine Pz.mk ?_; cbv)
      refine NextE.by (i + 1) ?_ ?_ ?_
      · show l.length - (i + 1) < l.length - i
        omega
      · exact h2
      · cbv
        repeat' first | exact trivial | refine ⟨rfl, ?_⟩ | fail
        refine ⟨fm_no _ (fun p : Party => (⟨p.untl, p.id⟩ : Pin)) h2 (by rw [k0]; rfl), ?_⟩
        repeat' first | exact trivial | refine ⟨rfl, ?_⟩ | fail
theorem specPinsIn_ok (l : List Party) (c : Int) (hl : l.length ≤ bigN) : Spec Tryz.prog 202 [lA .pty l, iA c] (Ret (lR .pin fun _ => pinsIn l c)) := by
  refine spec_of tabOk Tryz.func202 rfl rfl (fr := true) (fun _ => by kernel_rfl) fun P hP hA => ?_
  have hl' : l.length ≤ 1048576 := hl
  cbv
  refine LoopE.by (X := Nat) (fun i => [(0, lA .pty l), (1, iA c), (5, oN 0), (6, nT fun _ => i)]) (fun i => [(0, ownB' .pin fun _ => sortF pinLt (pinsOfP c (l.take i)))]) (fun i => i ≤ l.length) (fun i _ => l.length - i) 0 (Nat.zero_le _) ?_ ?_
  · cbv
    repeat' first | exact trivial | refine ⟨rfl, ?_⟩ | fail
  · intro i hi
    cbv
    refine Br.dec (fun h2 => ?_) (fun h2 => ?_) <;> (cbv; repeat (refine Pz.mk ?_; cbv))
    rotate_left
    · have h2 : l.length ≤ i := by simp at h2; omega
      refine ⟨?_, trivial⟩
      show sortF pinLt (pinsOfP c (l.take i)) = pinsIn l c
      rw [List.take_of_length_le h2, sortF_eq pinSWO pin_anti]; rfl
    have h2 : i < l.length := by simpa using h2
    have hlen : (sortF pinLt (pinsOfP c (l.take i))).length ≤ bigN := by
      rw [sortF_len]
      exact Nat.le_trans (pinsOfP_len _ _) (by rw [List.length_take]; exact Nat.le_trans (Nat.min_le_right _ _) hl)
    have no : (l[i].st == 2 && l[i].cab == c) = false → sortF pinLt (pinsOfP c (l.take i)) = sortF pinLt (pinsOfP c (l.take (i + 1))) := fun h => by
      unfold pinsOfP; rw [fm_no _ (fun p : Party => (⟨p.untl, p.id⟩ : Pin)) h2 h]
    have yes : (l[i].st == 2 && l[i].cab == c) = true → insL pinLt ⟨l[i].untl, l[i].id⟩ (sortF pinLt (pinsOfP c (l.take i))) = sortF pinLt (pinsOfP c (l.take (i + 1))) := fun h => by
      have e := fm_yes (fun p : Party => p.st == 2 && p.cab == c) (fun p : Party => (⟨p.untl, p.id⟩ : Pin)) h2 h
      show _ = sortF pinLt (((l.take (i + 1)).filter _).map _)
      rw [← e, sortF_snoc]; rfl
    refine ⟨l[i], by simp, get_cast l h2, ?_⟩
    cbv
    repeat (refine Pz.mk ?_; cbv)
    refine Br.split (fun k0 => ?_) (fun k0 => ?_) <;> (cbv; repeat (refine Pz.mk ?_; cbv))
    · refine ⟨l[i], by simp, get_cast l h2, ?_⟩
      cbv
      repeat (refine Pz.mk ?_; cbv)
      refine Br.split (fun k1 => ?_) (fun k1 => ?_) <;> (cbv; repeat (refine Pz.mk ?_; cbv))
      · repeat' first
          | (refine CallA.by hP (l9Put_ok (sortF pinLt (pinsOfP c (l.take i))) ⟨l[i].untl, l[i].id⟩ hlen) ?_; cbv)
          | (refine Ix.mk l[i] (by simp) (get_cast l h2) ?_; cbv)
          | (refine And.intro ?_ ?_)
          | fail
        all_goals
          refine Ar.exact (by (try simp only [nc] at *); omega) (by (try simp only [nc] at *); omega) ?_
          cbv
          repeat (refine Pz.mk ?_; cbv)
          refine NextE.by (i + 1) ?_ ?_ ?_
          · show l.length - (i + 1) < l.length - i
            omega
          · exact h2
          · cbv
            repeat' first | exact trivial | refine ⟨rfl, ?_⟩ | fail
            refine ⟨yes (by rw [k0]; exact k1), ?_⟩
            repeat' first | exact trivial | refine ⟨rfl, ?_⟩ | fail
      · refine Ar.exact (by (try simp only [nc] at *); omega) (by (try simp only [nc] at *); omega) ?_
        cbv
        repeat (refine Pz.mk ?_; cbv)
        refine NextE.by (i + 1) ?_ ?_ ?_
        · show l.length - (i + 1) < l.length - i
          omega
        · exact h2
        · cbv
          repeat' first | exact trivial | refine ⟨rfl, ?_⟩ | fail
          refine ⟨no (by rw [k0]; exact k1), ?_⟩
          repeat' first | exact trivial | refine ⟨rfl, ?_⟩ | fail
    · refine Ar.exact (by (try simp only [nc] at *); omega) (by (try simp only [nc] at *); omega) ?_
      cbv
      repeat (refine Pz.mk ?_; cbv)
      refine NextE.by (i + 1) ?_ ?_ ?_
      · show l.length - (i + 1) < l.length - i
        omega
      · exact h2
      · cbv
        repeat' first | exact trivial | refine ⟨rfl, ?_⟩ | fail
        refine ⟨no (by rw [k0]; rfl), ?_⟩
        repeat' first | exact trivial | refine ⟨rfl, ?_⟩ | fail
end Go.Proofs.YtnenmkiabclncaaGreat

