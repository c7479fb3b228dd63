/- Parts of a proof. No conditions. -/

import Derived.Test.YtlochjpjlhkjaaaG17
import Derived.Test.YtlochjpjlhkjaaaGTab
import Derived.Test.YtlochjpjlhkjaaaG05
import Derived.WalkKit
import Derived.Deep.RegionLaw
import Derived.Lib.SliceRun
import Derived.Shelf.RegionOpenPlain
import Derived.Lib.JoinLaws
import Derived.Shelf.Spec.SlicesInsert
set_option linter.unusedSimpArgs false
set_option linter.unusedVariables false
namespace Go.Proofs.Ytlochjpjlhkjaaa
open Go Go.RowKit Go.Lib Go.Shelf
set_option maxRecDepth 100000
set_option maxHeartbeats 1000000 in
theorem deleteParty_run (w : World) (b off c n i : Nat) (hi : i < n) (hnc : n ≤ c) (W1 W2 : World) (A : Addr) (hA : (if c = i + 1 then some (⟨b, off, none⟩ : Addr) else some ⟨b, off + (i + 1) * 10, none⟩) = some A)
    (hap : ∀ ty, (Builtin.append_ #[24, 24] ty #[.slice (some ⟨b, off, none⟩) i c, .slice (some A) (n - (i + 1)) (c - (i + 1))]).run Try.prog w.drew = .ok (.slice (some ⟨b, off, none⟩) (n - 1) c) W1)
    (hcl : ∀ ty c', (Builtin.clear_ #[24] ty #[.slice (some ⟨b, off + (n - 1) * 10, none⟩) 1 c']).run Try.prog W1 = .ok (.tuple #[]) W2) :
    Calls Try.prog 18 #[.slice (some ⟨b, off, none⟩) n c, .int .i64 i, .int .i64 ((i : Int) + 1)] w fun e w' => e = .returned (.slice (some ⟨b, off, none⟩) (n - 1) c) ∧ w' = W2 := by
  have n1 : ((i : Int) + 1).toNat = i + 1 := by omega
  have n2 : ((i : Int)).toNat = i := by omega
  have n3 : (i : Int) ≤ (i : Int) + 1 := by omega
  have n4 : (i : Int) + 1 ≤ (n : Int) := by omega
  have n5 : (n : Int) ≤ (c : Int) := by omega
  have n6 : (0 : Int) ≤ (i : Int) + 1 := by omega
  have n7 : ¬ ((i : Int) = (i : Int) + 1) := by omega
  have n8 : i ≤ c := by omega
  have n9 : n - (n - 1) = 1 := by omega
  have n10 : ¬ (c = n - 1) := by omega
  have n11 : ((n - 1 : Nat) : Int) ≤ (n : Int) := by omega
  have mixed : Try.prog.follows Departure.mixedOrders = true := by kernel_rfl
  go_enter Try.func18, Try.ntmps18
  go_wp2
  go_region_law_o (refine step_append_runI rfl _ _ _ _ rfl _ _ (by simp [Act.eval, Act.put]) (by simp [Act.eval, Act.put]) (hap _) ?_)
  go_wp2
  go_ret
  exact ⟨rfl, rfl⟩
theorem deleteParty_ok (xs : List Party) (i : Nat) (hi : i < xs.length) : SpecM Try.prog 18 [oN 0, nT fun _ => i, iT fun _ => (i : Int) + 1] [(0, ownB' .pty fun _ => xs)] (RetM (lR .pty fun _ => xs.take i ++ xs.drop (i + 1)) []) := by
  refine specM_list ⟨_, Try.func18, rfl, rfl⟩ (fun k hk => by (have q : k = 0 := by simpa [dom] using hk); omega) fun w vs ρ hr ha => ?_
  obtain ⟨hsz, hv⟩ := ha
  have e0 : vs.getD 0 Go.undef = (ρ 0).1 := (hv 0 _ rfl).2
  have e1 : vs.getD 1 Go.undef = .int .i64 (i : Int) := rl_int (hv 1 _ rfl)
  have e2 : vs.getD 2 Go.undef = .int .i64 ((i : Int) + 1) := rl_int (hv 2 _ rfl)
  have hvs := arr3 (vs := vs) hsz
  rw [e0, e1, e2] at hvs
  have ho : OwnL w.heap (.list .pty fun _ => xs) (ρ 0).1 (ρ 0).2 := hr.blk 0 _ List.mem_cons_self
  have htot : ∀ x, tot ρ [(0, ownB' .pty fun _ => xs)] x = (ρ 0).2 x := fun x => by simp [tot]
  rcases ho.seg with ⟨_, h, _⟩ | ⟨b, off, c, cs, e, fz, S, hval, hp, hb, hf, hl, hm, hoff, hseg⟩
  · have h : xs = [] := h
    rw [h] at hi; simp at hi
  have hl : xs.length ≤ c := hl
  have hm : xs.length ≤ maxL := hm
  have hseg : Seg w.heap .pty xs (fun q => cs.getD (off + q) Go.undef) S := hseg
  obtain ⟨ht, inf, z, hinf, hisz, _, hz, hoks, hzc⟩ := sl_info tabOk (T := 24) (E := .pty) rfl
  have hb' : w.drew.heap[b]? = some (.cells cs e fz) := hb
  have hseg' : Seg w.drew.heap .pty xs (fun q => cs.getD (off + q) Go.undef) S := hseg
  obtain ⟨A, news, hA, hn, hnew, hone, hsrc⟩ := src_tail (P := Try.prog) (E := .pty) (xs := xs) (k := i + 1) hi hl hb' hoff hseg' ht
  have hm1 : i + (xs.length - (i + 1)) ≤ c := by omega
  obtain ⟨W1, g1, g2, g3, g4⟩ := run_append_in (P := Try.prog) (n := i) hb' hf (by rw [hisz]; exact hsrc) (by rw [hisz]; exact hn) hone ht hinf hm1 (by rw [hisz]; exact hoff)
  rw [hisz] at g2
  have hfz : NF (setVs cs (off + i * ETy.sz .pty) news) fz := by rcases hf with h | h; exact .inl h; exact .inr (by rw [setVs_size]; exact h)
  have e3 : xs.length * ETy.sz .pty ≤ c * ETy.sz .pty := Nat.mul_le_mul_right _ hl
  have e4 : (xs.length - 1) * ETy.sz .pty + ETy.sz .pty = xs.length * ETy.sz .pty := by
    have : xs.length = (xs.length - 1) + 1 := by omega
    rw [show xs.length * ETy.sz .pty = ((xs.length - 1) + 1) * ETy.sz .pty by rw [← this], Nat.add_mul]; omega
  obtain ⟨W2, c1, c2, c3, c4⟩ := run_clear_one (P := Try.prog) (z := z) (o := off + (xs.length - 1) * ETy.sz .pty) g2 hfz ht (fun w => by simp [zeroValue, typeInfo, hinf, hz]) (fun u hu => Z.oks_one hoks (by decide) hu) (by rw [setVs_size, hzc]; omega)
  have hrun := deleteParty_run w b off c xs.length i hi hl W1 W2 A hA (fun ty => by rw [g1 ty]; congr 2; omega) c1
  rw [hvs, hval]
  refine hrun.mono fun e w' he => ?_
  obtain ⟨rfl, rfl⟩ := he
  refine ⟨_, cnt b (xs.length - 1) (ETy.sz .pty) fun _ _ _ => 0, rfl, ?_, (show Ext w W1 from ⟨g4.sz, g4.os, g4.out, g4.fz⟩).trans c4, fun x hx h0 => ?_, fun x hx => ?_, fun x => ?_⟩
  · exact cut_own (E := .pty) (w := w) (w1 := W1) rfl hi hf hl hm hoff hseg hn hnew (by simpa using hzc) g2 c2
  · rw [htot] at h0
    have hxb : x ≠ b := fun he => by rw [hp, he] at h0; have := cnt_top b xs.length (ETy.sz .pty) S; omega
    rw [c3 x hxb, g3 x hxb]; rfl
  · rw [htot, hp]
    rw [cnt0]
    simp only [cnt]
    split <;> omega
  · rw [cnt0]
    split <;> omega
end Go.Proofs.Ytlochjpjlhkjaaa
namespace Go.Proofs.Ytlochjpjlhkjaaa
open Go Go.RowKit Go.Lib Go.Shelf
set_option maxRecDepth 100000
set_option maxHeartbeats 4000000 in
theorem insertParty_end (w W1 : World) (base : Option Addr) (n c vb voff vc : Nat) (v' : Value)
    (hap : ∀ ty, (Builtin.append_ #[24, 24] ty #[.slice base n c, .slice (some ⟨vb, voff, none⟩) 1 vc]).run Try.prog w = .ok v' W1) :
    Calls Try.prog 17 #[.slice base n c, .int .i64 n, .slice (some ⟨vb, voff, none⟩) 1 vc] w fun e w' => e = .returned v' ∧ w' = W1 := by
  go_enter Try.func17, Try.ntmps17
  cases base with
  | none =>
    go_wp2_with (at_builtin; refine Lib.wpList_append_run _ rfl _ _ _ _ rfl _ _ rfl rfl _ _ (hap _) ?_)
    all_goals (go_ret; exact ⟨rfl, rfl⟩)
  | some a =>
    obtain ⟨ab, ao, asp⟩ := a
    go_wp2_with (at_builtin; refine Lib.wpList_append_run _ rfl _ _ _ _ rfl _ _ rfl rfl _ _ (hap _) ?_)
    all_goals (go_ret; exact ⟨rfl, rfl⟩)
set_option maxHeartbeats 4000000 in
theorem insertParty_shift (w W1 W2 : World) (b off n c i vb voff vc : Nat) (r1 r2 : Value) (hi : i < n) (hroom : n + 1 ≤ c) (hn63 : n + 1 ≤ 9223372036854775807)
    (hov : ∀ lb cb, (callFunc 28 #[.slice (some ⟨vb, voff, none⟩) 1 vc, .slice (some ⟨b, off + (i + 1) * 10, none⟩) lb cb]).run Try.prog w = .ok (.value (.bool false)) w)
    (hcp1 : ∀ ty dc sc, (Builtin.copy_ #[24, 24] ty #[.slice (some ⟨b, off + (i + 1) * 10, none⟩) (n - i) dc, .slice (some ⟨b, off + i * 10, none⟩) (n + 1 - i) sc]).run Try.prog w.drew = .ok r1 W1)
    (hcp2 : ∀ ty dc, (Builtin.copy_ #[24, 24] ty #[.slice (some ⟨b, off + i * 10, none⟩) (n + 1 - i) dc, .slice (some ⟨vb, voff, none⟩) 1 vc]).run Try.prog W1 = .ok r2 W2) :
    Calls Try.prog 17 #[.slice (some ⟨b, off, none⟩) n c, .int .i64 i, .slice (some ⟨vb, voff, none⟩) 1 vc] w fun e w' => e = .returned (.slice (some ⟨b, off, none⟩) (n + 1) c) ∧ w' = W2 := by
  have mixed : Try.prog.follows Departure.mixedOrders = true := by kernel_rfl
  have hz2 : ¬ ((i : Int) = (n : Int)) := by omega
  have hb0 : ((i : Int) + 1).toNat = i + 1 := by omega
  have hb1 : ((n : Int) + 1).toNat = n + 1 := by omega
  have hb2 : ¬ (c = i + 1) := by omega
  have hb3 : (i : Int) ≤ (n : Int) + 1 := by omega
  have hb4 : ¬ (c = i) := by omega
  have hb5 : ¬ ((n : Int) + 1 > (c : Int)) := by omega
  have hb6 : ¬ ((c : Int) < (n : Int) + 1) := by omega
  have hb7 : (0 : Int) ≤ (n : Int) + 1 := by omega
  have hb8 : (n : Int) + 1 ≤ (c : Int) := by omega
  have hb9 : (0 : Int) ≤ (i : Int) + 1 := by omega
  have hb10 : (i : Int) + 1 ≤ (n : Int) + 1 := by omega
  have hb11 : (i : Int) ≤ (n : Int) := by omega
  have hin : i ≤ n := by omega
  have hw1 : IntKind.i64.wrap ((i : Int) + 1) = (i : Int) + 1 := by rw [IntKind.wrap_i64]; omega
  have hw2 : IntKind.i64.wrap ((n : Int) + 1) = (n : Int) + 1 := by rw [IntKind.wrap_i64]; omega
  go_enter Try.func17, Try.ntmps17
  go_wp2_with (simp only [hov])
  go_region_law_o (refine step_copy_runI rfl _ _ _ _ rfl _ _ (by simp [Act.eval, Act.put]) (by simp [Act.eval, Act.put]) (hcp1 _ _ _) ?_)
  go_wp2_with (at_builtin; refine wpList_copy_runI _ rfl _ _ _ _ rfl _ _ rfl rfl (hcp2 _ _) ?_)
  all_goals (go_ret; exact ⟨rfl, rfl⟩)
set_option maxHeartbeats 4000000 in
theorem insertParty_grow (w W1 W2 W3 : World) (b off n c i vb voff vc nb c2 : Nat) (r1 r2 : Value) (hi : i < n) (hroom : c < n + 1) (hc : n ≤ c) (hn63 : n + 1 ≤ 9223372036854775807) (hc2 : n + 1 ≤ c2)
    (hap : ∀ ty, (Builtin.append_ #[24, 3] ty #[.slice (some ⟨b, off, none⟩) i c, .int .i64 ((n : Int) + 1 - (i : Int))]).run Try.prog w = .ok (.slice (some ⟨nb, 0, none⟩) (n + 1) c2) W1)
    (hcp1 : ∀ ty dc, (Builtin.copy_ #[24, 24] ty #[.slice (some ⟨nb, i * 10, none⟩) (n + 1 - i) dc, .slice (some ⟨vb, voff, none⟩) 1 vc]).run Try.prog W1 = .ok r1 W2)
    (hcp2 : ∀ ty dc sc, (Builtin.copy_ #[24, 24] ty #[.slice (some ⟨nb, (i + 1) * 10, none⟩) (n - i) dc, .slice (some ⟨b, off + i * 10, none⟩) (n - i) sc]).run Try.prog W2.drew = .ok r2 W3) :
    Calls Try.prog 17 #[.slice (some ⟨b, off, none⟩) n c, .int .i64 i, .slice (some ⟨vb, voff, none⟩) 1 vc] w fun e w' => e = .returned (.slice (some ⟨nb, 0, none⟩) (n + 1) c2) ∧ w' = W3 := by
  have mixed : Try.prog.follows Departure.mixedOrders = true := by kernel_rfl
  have hz2 : ¬ ((i : Int) = (n : Int)) := by omega
  have hb0 : ((i : Int) + 1).toNat = i + 1 := by omega
  have hb1 : ((n : Int) + 1).toNat = n + 1 := by omega
  have hb2 : ¬ (c2 = i + 1) := by omega
  have hb4 : ¬ (c = i) := by omega
  have hb12 : ¬ (c2 = i) := by omega
  have hb5 : (c : Int) < (n : Int) + 1 := by omega
  have hb9 : (0 : Int) ≤ (i : Int) + 1 := by omega
  have hb10 : (i : Int) + 1 ≤ (n : Int) + 1 := by omega
  have hb3 : (i : Int) ≤ (n : Int) + 1 := by omega
  have hb11 : (i : Int) ≤ (n : Int) := by omega
  have hic : i ≤ c := by omega
  have hin : i ≤ n := by omega
  have hw1 : IntKind.i64.wrap ((i : Int) + 1) = (i : Int) + 1 := by rw [IntKind.wrap_i64]; omega
  have hw2 : IntKind.i64.wrap ((n : Int) + 1) = (n : Int) + 1 := by rw [IntKind.wrap_i64]; omega
  have hw3 : IntKind.i64.wrap ((n : Int) + 1 - (i : Int)) = (n : Int) + 1 - (i : Int) := by rw [IntKind.wrap_i64]; omega
  go_enter Try.func17, Try.ntmps17
  go_wp2_with (first | (at_builtin; refine Lib.wpList_append_run _ rfl _ _ _ _ rfl _ _ rfl rfl _ _ (hap _) ?_) | (at_builtin; refine wpList_copy_runI _ rfl _ _ _ _ rfl _ _ rfl rfl (hcp1 _ _) ?_))
  go_region_law_o (refine step_copy_runI rfl _ _ _ _ rfl _ _ (by simp [Act.eval, Act.put]) (by simp [Act.eval, Act.put]) (hcp2 _ _ _) ?_)
  go_wp2
  all_goals (go_ret; exact ⟨rfl, rfl⟩)
set_option maxHeartbeats 4000000 in
theorem insertParty_ok (xs : List Party) (y : Party) (i : Nat) (hi : i ≤ xs.length) (hbig : xs.length ≤ bigN) : SpecM Try.prog 17 [oN 0, nT fun _ => i, oN 1] [(0, ownB' .pty fun _ => xs), (1, ownB' .pty fun _ => [y])] (RetM (lR .pty fun _ => xs.take i ++ y :: xs.drop i) []) := by
  refine specM_list ⟨_, Try.func17, rfl, rfl⟩ (fun k hk => by (have q : k = 0 ∨ k = 1 := by simpa [dom] using hk); omega) fun w vs ρ hr ha => ?_
  have hbig : xs.length ≤ 1048576 := hbig
  obtain ⟨hsz, hv⟩ := ha
  have e0 : vs.getD 0 Go.undef = (ρ 0).1 := (hv 0 _ rfl).2
  have e1 : vs.getD 1 Go.undef = .int .i64 (i : Int) := rl_int (hv 1 _ rfl)
  have e2 : vs.getD 2 Go.undef = (ρ 1).1 := (hv 2 _ rfl).2
  have hvs := arr3 (vs := vs) hsz
  rw [e0, e1, e2] at hvs
  have ho : OwnL w.heap (.list .pty fun _ => xs) (ρ 0).1 (ρ 0).2 := hr.blk 0 _ List.mem_cons_self
  have ho2 : OwnL w.heap (.list .pty fun _ => [y]) (ρ 1).1 (ρ 1).2 := hr.blk 1 _ (List.mem_cons_of_mem _ List.mem_cons_self)
  have htot : ∀ x, tot ρ [(0, ownB' .pty fun _ => xs), (1, ownB' .pty fun _ => [y])] x = (ρ 0).2 x + (ρ 1).2 x := fun x => by simp [tot]
  have hsum : ∀ x, (ρ 0).2 x + (ρ 1).2 x ≤ 1 := fun x => by have := hr.sum x; rwa [htot] at this
  have hthere : ∀ x, 0 < (ρ 0).2 x + (ρ 1).2 x → x < w.heap.size := fun x hx => by
    have : ∃ cs e fz, w.heap[x]? = some (.cells cs e fz) := by
      rcases Nat.eq_zero_or_pos ((ρ 0).2 x) with h | h
      · exact ho2.there x (by omega)
      · exact ho.there x h
    obtain ⟨_, _, _, h⟩ := this
    rcases Nat.lt_or_ge x w.heap.size with h' | h'
    · exact h'
    · rw [Array.getElem?_eq_none h'] at h; cases h
  obtain ⟨ht, inf, z, hinf, hisz, hby, hz, hoks, hzc⟩ := sl_info tabOk (T := 24) (E := .pty) rfl
  rcases ho2.seg with ⟨_, h, _⟩ | ⟨vb, voff, vc, us0, ue, ufz, U, hval2, hp2, hb2, hf2, hl2, hm2, hoff2, hseg2⟩
  · cases h
  have hl2 : 1 ≤ vc := hl2
  have hseg2 : Seg w.heap .pty [y] (fun q => us0.getD (voff + q) Go.undef) U := hseg2
  have hval2 : (ρ 1).1 = .slice (some ⟨vb, voff, none⟩) 1 vc := hval2
  have fin : ∀ {v : Value} {q : Nat → Nat} {w' : World}, OwnL w'.heap (.list .pty fun _ => xs.take i ++ y :: xs.drop i) v q → Ext w w' → (∀ x, x < w.heap.size → (ρ 0).2 x = 0 → w'.heap[x]? = w.heap[x]?) → (∀ x, x < w.heap.size → q x ≤ (ρ 0).2 x + (ρ 1).2 x) → (∀ x, q x ≤ 1) →
      ∃ v' q', Ending.returned v = .returned v' ∧ OwnL w'.heap (.list .pty fun _ => xs.take i ++ y :: xs.drop i) v' q' ∧ Ext w w' ∧ (∀ x, x < w.heap.size → tot ρ [(0, ownB' .pty fun _ => xs), (1, ownB' .pty fun _ => [y])] x = 0 → w'.heap[x]? = w.heap[x]?) ∧ (∀ x, x < w.heap.size → q' x ≤ tot ρ [(0, ownB' .pty fun _ => xs), (1, ownB' .pty fun _ => [y])] x) ∧ ∀ x, q' x ≤ 1 := fun a b c d e =>
    ⟨_, _, rfl, a, b, fun x hx h0 => c x hx (by rw [htot] at h0; omega), fun x hx => by rw [htot]; exact d x hx, e⟩
  rcases Nat.lt_or_ge i xs.length with hlt | hge
  · -- not at the end
    rcases ho.seg with ⟨_, h, _⟩ | ⟨b, off, c, cs, e, fz, S, hval, hp, hb, hf, hl, hm, hoff, hseg⟩
    · have h : xs = [] := h
      rw [h] at hlt; simp at hlt
    have hl : xs.length ≤ c := hl
    have hseg : Seg w.heap .pty xs (fun q => cs.getD (off + q) Go.undef) S := hseg
    have hbp : (ρ 0).2 b = 1 ∧ (ρ 1).2 b = 0 := by
      have h1 := hsum b
      have h2 : 0 < (ρ 0).2 b := by rw [hp]; exact cnt_top _ _ _ _
      omega
    have hvp : 0 < (ρ 1).2 vb := by rw [hp2]; exact cnt_top _ _ _ _
    have hne : vb ≠ b := fun he => by rw [he] at hvp; omega
    have e3 : xs.length * ETy.sz .pty ≤ c * ETy.sz .pty := Nat.mul_le_mul_right _ hl
    obtain ⟨uA, us, huA, hun, hus, hu1, husrc⟩ := src_tail (P := Try.prog) (E := .pty) (xs := [y]) (k := 0) (Nat.zero_le _) hl2 hb2 hoff2 hseg2 ht
    have hun : us.length = ETy.sz .pty := by rw [hun]; simp
    have hsegU : Seg w.heap .pty [y] (fun q => us.getD q Go.undef) U := hseg2.cells fun q hq => by
      have hq : q < ETy.sz .pty := by simpa using hq
      rw [hus q (by rw [hun]; exact hq)]; simp
    have hucell : ∀ j v, us[j]? = some v → w.cell? ((⟨vb, voff, none⟩ : Addr).add j) = some v := fun j v hj => by
      have hq := lt_of_get hj
      have h3 : us.getD j Go.undef = v := by rw [List.getD_eq_getElem?_getD, hj]; rfl
      rw [← h3, hus j hq, addr_add, Nat.zero_mul, Nat.add_zero]
      exact cell_of hb2 (getD_some (by
        have : voff + vc * ETy.sz .pty ≤ us0.size := hoff2
        have h4 := Nat.mul_le_mul_right (ETy.sz .pty) hl2
        omega))
    have hb' : w.drew.heap[b]? = some (.cells cs e fz) := hb
    obtain ⟨nA, news, hnA, hnn, hnew, hn1, _⟩ := src_tail (P := Try.prog) (w := w) (E := .pty) (xs := xs) (k := i) hi hl hb hoff hseg ht
    have hnA : nA = ⟨b, off + i * ETy.sz .pty, none⟩ := by
      rw [if_neg (by omega)] at hnA; exact (Option.some.inj hnA).symm
    have e1 : i * ETy.sz .pty + (xs.length - i) * ETy.sz .pty = xs.length * ETy.sz .pty := by rw [← Nat.add_mul]; congr 1; omega
    have hncell : ∀ j v, news[j]? = some v → w.cell? ((⟨b, off + i * ETy.sz .pty, none⟩ : Addr).add j) = some v := fun j v hj => by
      have hq := lt_of_get hj
      have h3 : news.getD j Go.undef = v := by rw [List.getD_eq_getElem?_getD, hj]; rfl
      rw [← h3, hnew j hq, addr_add]
      rw [hnn] at hq
      exact cell_of hb (getD_some (by omega))
    have e4 : (i + 1) * ETy.sz .pty = i * ETy.sz .pty + ETy.sz .pty := by rw [Nat.add_mul]; omega
    have e5 : (xs.length + 1) * ETy.sz .pty = xs.length * ETy.sz .pty + ETy.sz .pty := by rw [Nat.add_mul]; omega
    rcases Nat.lt_or_ge c (xs.length + 1) with hg | hroom
    · -- a new row
      obtain ⟨olds, hon, hold, hfc⟩ := src_head (P := Try.prog) (w := w.drew) (E := .pty) (xs := xs) (k := i) hi hl hb' hoff hseg
      have hk0 : 0 < xs.length + 1 - i := by omega
      have hrun := fun ty => run_append_grow_zeros (P := Try.prog) w 24 3 ty _ inf z .i64 .i64 ht Try.underlying3 hinf hz (some ⟨b, off, none⟩) i c olds (by rw [hisz]; exact hfc) (xs.length + 1 - i) hk0 (by rw [hisz]; decide) (by omega) (by omega) (by rw [hby]; omega) (by
        rw [hby]; exact growslice_fits (by omega) (by omega))
      have hcg := grownCap_ge w (i + (xs.length + 1 - i)) c 26
      rw [show i + (xs.length + 1 - i) = xs.length + 1 by omega] at hrun hcg
      generalize grownCap w (xs.length + 1) c 26 = C at hrun hcg
      generalize hcells : olds.toArray ++ Builtin.zeroCells z.cells (xs.length + 1 - i) ++ Builtin.zeroCells z.cells (C - (xs.length + 1)) = cells at hrun
      have hcs : cells.size = C * ETy.sz .pty := by
        rw [← hcells]
        simp only [Array.size_append, List.size_toArray, Builtin.zeroCells, Array.size_map, Array.size_range, hzc, hon]
        rw [← Nat.add_mul, ← Nat.add_mul]
        congr 1; omega
      have hol : ∀ q, q < i * ETy.sz .pty → cells.getD q Go.undef = cs.getD (off + q) Go.undef := fun q hq => by
        rw [← hold q (by rw [hon]; exact hq), ← hcells, Array.getD_eq_getD_getElem?, Array.getElem?_append_left (by simp [hon]; omega), Array.getElem?_append_left (by simp [hon]; omega), List.getElem?_toArray, List.getD_eq_getElem?_getD]
      obtain ⟨W1, hW1⟩ : ∃ W1, W1 = w.drew.alloc (.cells cells 26) := ⟨_, rfl⟩
      have k1 : W1.heap[w.heap.size]? = some (.cells cells 26 (0, 0)) := by rw [hW1]; show (w.heap.push _)[w.heap.size]? = _; simp
      have k2 : ∀ x, x < w.heap.size → W1.heap[x]? = w.heap[x]? := fun x hx => by rw [hW1]; show (w.heap.push _)[x]? = _; rw [Array.getElem?_push, if_neg (Nat.ne_of_lt hx)]
      have k3 : Ext w W1 := by rw [hW1]; exact (show Ext w w.drew from Ext.of (Nat.le_refl _) rfl rfl fun _ => rfl).trans (alloc_ext w.drew _ _)
      have hvlt : vb < w.heap.size := hthere vb (by omega)
      have hblt : b < w.heap.size := hthere b (by omega)
      have e6 : (xs.length + 1) * ETy.sz .pty ≤ C * ETy.sz .pty := Nat.mul_le_mul_right _ hcg
      obtain ⟨W2, c1, c2, c3, c4⟩ := run_copy_in (P := Try.prog) (w := W1) (o := i * ETy.sz .pty) (dLen := xs.length + 1 - i) (sLen := 1) (m := 1) (T2 := 24) k1 (NF_zero _) ht hinf (by simp only [Nat.min_def]; split <;> omega) (by rw [hisz, hun, Nat.one_mul]) (fun j v hj => by
        have := hucell j v hj
        rw [addr_add] at this ⊢
        rw [World.cell?, k2 vb hvlt]; exact this) (by rw [hun, hcs]; omega) hu1
      have c2' : W2.drew.heap[w.heap.size]? = _ := c2
      obtain ⟨W3, d1, d2, d3, d4⟩ := run_copy_in (P := Try.prog) (w := W2.drew) (o := (i + 1) * ETy.sz .pty) (dLen := xs.length - i) (sLen := xs.length - i) (m := xs.length - i) (T2 := 24) c2' (NF_zero _) ht hinf (by simp only [Nat.min_def]; split <;> omega) (by rw [hisz, hnn]) (fun j v hj => by
        have := hncell j v hj
        rw [addr_add] at this ⊢
        rw [World.cell?, show W2.drew.heap[b]? = W2.heap[b]? from rfl, c3 b (Nat.ne_of_lt hblt), k2 b hblt]; exact this) (by rw [hnn, setVs_size, hcs]; omega) hn1
      have hcall := insertParty_grow w W1 W2 W3 b off xs.length c i vb voff vc w.heap.size C _ _ hlt hg hl (by omega) hcg (fun ty => by
        have := hrun ty
        rw [show ((xs.length + 1 - i : Nat) : Int) = (xs.length : Int) + 1 - (i : Int) by omega] at this
        rw [hW1]; exact this) (fun ty dc => c1 ty dc vc) (fun ty dc sc => d1 ty dc sc)
      rw [hvs, hval, hval2]
      refine hcall.mono fun e' w' he => ?_
      obtain ⟨rfl, rfl⟩ := he
      refine fin (put_grow (E := .pty) rfl hi hcg (by unfold maxL; omega) hcs hseg hsegU hol hnn hnew hun d2) (k3.trans (c4.trans ((show Ext W2 W2.drew from Ext.of (Nat.le_refl _) rfl rfl fun _ => rfl).trans d4))) (fun x hx h0 => ?_) (fun x hx => ?_) (fun x => ?_)
      · rw [d3 x (Nat.ne_of_lt hx), show W2.drew.heap[x]? = W2.heap[x]? from rfl, c3 x (Nat.ne_of_lt hx), k2 x hx]
      · rw [cnt0, if_neg (Nat.ne_of_lt hx)]; omega
      · rw [cnt0]; split <;> omega
    · -- in place
      have e6 : (xs.length + 1) * ETy.sz .pty ≤ c * ETy.sz .pty := Nat.mul_le_mul_right _ hroom
      have hov : ∀ lb cb, (callFunc 28 #[.slice (some ⟨vb, voff, none⟩) 1 vc, .slice (some ⟨b, off + (i + 1) * ETy.sz .pty, none⟩) lb cb]).run Try.prog w = .ok (.value (.bool false)) w := fun lb cb => by
        rw [run_callFunc_extern Try.func28 (by kernel_rfl) (by kernel_rfl) (by kernel_rfl) (e := Extern.SlicesOverlaps.overlaps #[24, 24] #[4]) (by kernel_rfl),
          Lib.run_overlaps_apart w 24 4 26 ht (ETy.sz .pty) (fun w => by simp [sizeOf, typeInfo, hinf, hisz]) ⟨vb, voff, none⟩ ⟨b, off + (i + 1) * ETy.sz .pty, none⟩ 1 vc lb cb hne ue e us0.size cs.size (by simp [World.shape?, hb2]) (by simp [World.shape?, hb]) (by
            have : 0 < ETy.sz .pty := by decide
            omega) (frozen_any hb2 hf2 _) (frozen_any hb2 hf2 _)]
        rfl
      obtain ⟨W1, c1, c2, c3, c4⟩ := run_copy_in (P := Try.prog) (w := w.drew) (o := off + (i + 1) * ETy.sz .pty) (dLen := xs.length - i) (sLen := xs.length + 1 - i) (m := xs.length - i) (T2 := 24) hb' hf ht hinf (by simp only [Nat.min_def]; split <;> omega) (by rw [hisz, hnn]) hncell (by rw [hnn]; omega) hn1
      have hf1 : NF (setVs cs (off + (i + 1) * ETy.sz .pty) news) fz := by rcases hf with h | h; exact .inl h; exact .inr (by rw [setVs_size]; exact h)
      obtain ⟨W2, d1, d2, d3, d4⟩ := run_copy_in (P := Try.prog) (w := W1) (o := off + i * ETy.sz .pty) (dLen := xs.length + 1 - i) (sLen := 1) (m := 1) (T2 := 24) c2 hf1 ht hinf (by simp only [Nat.min_def]; split <;> omega) (by rw [hisz, hun, Nat.one_mul]) (fun j v hj => by
        have := hucell j v hj
        rw [addr_add] at this ⊢
        rw [World.cell?, c3 vb hne]; exact this) (by rw [hun, setVs_size]; omega) hu1
      have hcall := insertParty_shift w W1 W2 b off xs.length c i vb voff vc _ _ hlt hroom (by omega) hov (fun ty dc sc => c1 ty dc sc) (fun ty dc => d1 ty dc vc)
      rw [hvs, hval, hval2]
      refine hcall.mono fun e' w' he => ?_
      obtain ⟨rfl, rfl⟩ := he
      refine fin (put_shift (E := .pty) rfl hi hf hroom (by unfold maxL; omega) hoff hseg hsegU hnn hnew hun d2) ((show Ext w w.drew from Ext.of (Nat.le_refl _) rfl rfl fun _ => rfl).trans (c4.trans d4)) (fun x hx h0 => ?_) (fun x hx => ?_) (fun x => ?_)
      · have hxb : x ≠ b := fun he => by rw [he] at h0; omega
        rw [d3 x hxb, c3 x hxb]; rfl
      · rw [cnt0]
        split
        · rename_i he; rw [he]; omega
        · omega
      · rw [cnt0]; split <;> omega
  · -- at the end
    obtain rfl : i = xs.length := by omega
    obtain ⟨news, hN⟩ := News.of (c := vc) hb2 (by have := Nat.mul_le_mul_right (ETy.sz .pty) hl2; simpa using Nat.le_trans (Nat.add_le_add_left this voff) hoff2) hseg2
    obtain ⟨v, p, w', g1, g2, g3, g4, g5, g6⟩ := run_append (P := Try.prog) (w := w) (E := .pty) (xs := xs) (ys := [y]) (vy := .slice (some ⟨vb, voff, none⟩) 1 vc) (py := (ρ 1).2) (T := 24) (T2 := 24) (ty := 0) ho (hN.toS ht) (fun x => by rw [hp2]; simp only [cnt, segN]; exact Nat.le_add_left _ _) hsum hthere ht hinf hz hisz hzc (by rw [hby]; decide) (by rw [hby]; simp only [List.length_cons, List.length_nil]; omega)
    obtain ⟨base, c, hval⟩ : ∃ base c, (ρ 0).1 = .slice base xs.length c := by
      rcases ho.seg with ⟨h1, h2, _⟩ | ⟨b, off, c, cs, e, fz, S, hval, _⟩
      · have h2 : xs = [] := h2
        exact ⟨none, 0, by rw [h1, h2]; rfl⟩
      · exact ⟨_, c, hval⟩
    have hcall := insertParty_end w w' base xs.length c vb voff vc v (fun ty => by rw [hval] at g1; exact g1)
    rw [hvs, hval, hval2]
    refine hcall.mono fun e' w'' he => ?_
    obtain ⟨rfl, rfl⟩ := he
    have e7 : xs.take xs.length ++ y :: xs.drop xs.length = xs ++ [y] := by simp
    refine fin (by rw [e7]; exact g2) g3 g4 g5 (fun x => ?_)
    rcases Nat.lt_or_ge x w.heap.size with h | h
    · exact Nat.le_trans (g5 x h) (hsum x)
    · exact g6 x h
end Go.Proofs.Ytlochjpjlhkjaaa

