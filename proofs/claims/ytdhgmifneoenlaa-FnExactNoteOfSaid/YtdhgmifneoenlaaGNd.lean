/- Parts of a proof. No conditions. -/

import Derived.Test.YtdhgmifneoenlaaGNc
set_option linter.unusedSimpArgs false
set_option linter.unusedVariables false
namespace Go.Proofs.Ytdhgmifneoenlaa
open Go
set_option maxRecDepth 100000
theorem fdiv_nat (n k : Nat) : Int.fdiv (n : Int) ((k : Nat) : Int) = ((n / k : Nat) : Int) := by
  rw [Int.fdiv_eq_ediv_of_nonneg _ (by omega)]
  rfl
theorem Ar.nat {t : Unit → Int} {K : (Unit → Int) → Prop} (n : Nat) (hn : n < 4294967296) (ht : t () = ((n : Nat) : Int)) (hk : K fun _ => ((n : Nat) : Int)) : Ar .i64 t K :=
  .mk (fun _ => ((n : Nat) : Int)) (by rw [ht]; exact wrap_small hn) hk
theorem crc_step {a : List UInt8} {i y k : Nat} (h : i < a.length) (hp : crcN y (a.drop i) = k) : crcN (crcStep y a[i]) (a.drop (i + 1)) = k := by
  rw [← hp, List.drop_eq_getElem_cons h]
  rfl
theorem crc_one {x : Nat} (h : x % 2 = 1) : crcBit x = (x / 2) ^^^ 3988292384 := if_pos h
theorem crc_zero {x : Nat} (h : ¬ x % 2 = 1) : crcBit x = x / 2 := if_neg h
theorem crc_bit {x z k w : Nat} (hk : k < 8) (hz : crcBit x = z) (hp : crcBits (8 - k) x = w) : crcBits (8 - (k + 1)) z = w := by
  rw [show 8 - k = (8 - (k + 1)) + 1 by omega] at hp
  rw [← hp, ← hz]
  rfl
theorem crc_end {a : List UInt8} {i y z : Nat} (h : a.length ≤ i) (hp : crcN y (a.drop i) = crcN 4294967295 a) : y ^^^ 4294967295 = crcOf a := by
  rw [List.drop_of_length_le h] at hp
  have hp : y = crcN 4294967295 a := hp
  rw [crcOf, hp]
theorem specCrc_ok (a : List UInt8) (x : Nat) (hx : x = crcOf a) : Spec Try.prog 16 [lA .byte a] (Ret (nR fun _ => x)) := by
  refine spec_of tabOk Try.func16 rfl rfl (fr := true) (fun _ => by kernel_rfl) fun P hP hA => ?_
  have hal : a.length ≤ 9223372036854775807 := hA.1.1
  cbv
  refine LoopE.by (X := Nat × Nat) (fun p => [(0, lA .byte a), (3, nT fun _ => p.2), (4, nT fun _ => p.1)]) (fun p => []) (fun p => p.1 ≤ a.length ∧ p.2 < 4294967296 ∧ crcN p.2 (a.drop p.1) = crcN 4294967295 a) (fun p _ => a.length - p.1) (0, 4294967295) ⟨Nat.zero_le _, by decide, rfl⟩ ?_ ?_
  · cbv
    repeat' first | exact trivial | refine ⟨rfl, ?_⟩ | fail
  · rintro ⟨i, y⟩ ⟨hi, hy, hp⟩
    have hi : i ≤ a.length := hi
    have hy : y < 4294967296 := hy
    have hp : crcN y (a.drop i) = crcN 4294967295 a := hp
    cbv
    refine Br.dec (fun h2 => ?_) (fun h2 => ?_) <;> (cbv; repeat (refine Pz.mk ?_; cbv))
    · have h2 : i < a.length := by simpa using h2
      refine ⟨a[i], by simp, get_cast a h2, ?_⟩
      cbv
      have hb : a[i].toNat < 4294967296 := byte_lt a[i]
      refine Ar.nat (y ^^^ a[i].toNat) (xor_lt hy hb) (xor_bv hy hb) ?_
      cbv
      refine LoopE.by (X := Nat × Nat) (fun p => [(0, lA .byte a), (3, nT fun _ => p.2), (4, nT fun _ => i), (5, nT fun _ => p.1)]) (fun p => []) (fun p => p.1 ≤ 8 ∧ p.2 < 4294967296 ∧ crcBits (8 - p.1) p.2 = crcStep y a[i]) (fun p _ => 8 - p.1) (0, y ^^^ a[i].toNat) ⟨Nat.zero_le _, xor_lt hy hb, rfl⟩ ?_ ?_
      · cbv
        repeat' first | exact trivial | refine ⟨rfl, ?_⟩ | fail
      · rintro ⟨k, z⟩ ⟨hk, hz, hq⟩
        have hk : k ≤ 8 := hk
        have hz : z < 4294967296 := hz
        have hq : crcBits (8 - k) z = crcStep y a[i] := hq
        have hz2 : z / 2 < 4294967296 := by omega
        cbv
        refine Br.dec (fun h3 => ?_) (fun h3 => ?_) <;> (cbv; repeat (refine Pz.mk ?_; cbv))
        · have h3 : (k : Int) < 8 := h3
          have h3 : k < 8 := by omega
          refine ⟨by decide, ?_⟩
          cbv
          refine ⟨by decide, ?_⟩
          cbv
          refine Ar.exact ?_ ?_ ?_
          · show -9223372036854775808 ≤ (((z / 2 : Nat) : Int))
            omega
          · show (((z / 2 : Nat) : Int)) ≤ 9223372036854775807
            omega
          cbv
          refine Br.dec (fun h4 => ?_) (fun h4 => ?_) <;> (cbv; repeat (refine Pz.mk ?_; cbv))
          · have h4 : ((z % 2 : Nat) : Int) = 1 := h4
            have h4 : z % 2 = 1 := by omega
            refine Ar.nat ((z / 2) ^^^ 3988292384) (xor_lt hz2 (by decide)) (xor_bv hz2 (by decide)) ?_
            cbv
            refine Ar.exact ?_ ?_ ?_
            · show -9223372036854775808 ≤ (k : Int) + 1
              omega
            · show (k : Int) + 1 ≤ 9223372036854775807
              omega
            cbv
            refine NextE.by (k + 1, (z / 2) ^^^ 3988292384) ?_ ?_ ?_
            · show 8 - (k + 1) < 8 - k
              omega
            · exact ⟨h3, xor_lt hz2 (by decide), crc_bit h3 (crc_one h4) hq⟩
            · cbv
              repeat' first | exact trivial | refine ⟨rfl, ?_⟩ | fail
          · have h4 : ¬ ((z % 2 : Nat) : Int) = 1 := h4
            have h4 : ¬ z % 2 = 1 := by omega
            refine Ar.exact ?_ ?_ ?_
            · show -9223372036854775808 ≤ (k : Int) + 1
              omega
            · show (k : Int) + 1 ≤ 9223372036854775807
              omega
            cbv
            refine NextE.by (k + 1, z / 2) ?_ ?_ ?_
            · show 8 - (k + 1) < 8 - k
              omega
            · exact ⟨h3, hz2, crc_bit h3 (crc_zero h4) hq⟩
            · cbv
              repeat' first | exact trivial | refine ⟨rfl, ?_⟩ | fail
        · have h3 : ¬ (k : Int) < 8 := h3
          have h3 : k = 8 := by omega
          subst h3
          have hq : z = crcStep y a[i] := hq
          refine Ar.exact ?_ ?_ ?_
          · show -9223372036854775808 ≤ (i : Int) + 1
            omega
          · show (i : Int) + 1 ≤ 9223372036854775807
            omega
          cbv
          refine NextE.by (i + 1, z) ?_ ?_ ?_
          · show a.length - (i + 1) < a.length - i
            omega
          · refine ⟨h2, hz, ?_⟩
            show crcN z (a.drop (i + 1)) = crcN 4294967295 a
            rw [hq]
            exact crc_step h2 hp
          · cbv
            repeat' first | exact trivial | refine ⟨rfl, ?_⟩ | fail
    · have h2 : ¬ i < a.length := by simpa using h2
      refine Ar.nat (y ^^^ 4294967295) (xor_lt hy (by decide)) (xor_bv hy (by decide)) ?_
      cbv
      refine ⟨?_, trivial⟩
      show ((y ^^^ 4294967295 : Nat) : Int) = (x : Int)
      rw [hx, crc_end (z := 0) (by omega) hp]
theorem implCrc_ok (a : List UInt8) (x : Nat) (hx : x = crcOf a) : Spec Try.prog 19 [lA .byte a] (Ret (nR fun _ => x)) := by
  refine spec_of tabOk Try.func19 rfl rfl (fr := true) (fun _ => by kernel_rfl) fun P hP hA => ?_
  have hal : a.length ≤ 9223372036854775807 := hA.1.1
  cbv
  refine LoopE.by (X := Nat × Nat) (fun p => [(3, nT fun _ => p.2), (8, lA .byte a), (9, nT fun _ => a.length), (10, nT fun _ => p.1)]) (fun p => []) (fun p => p.1 ≤ a.length ∧ p.2 < 4294967296 ∧ crcN p.2 (a.drop p.1) = crcN 4294967295 a) (fun p _ => a.length - p.1) (0, 4294967295) ⟨Nat.zero_le _, by decide, rfl⟩ ?_ ?_
  · cbv
    repeat' first | exact trivial | refine ⟨rfl, ?_⟩ | fail
  · rintro ⟨i, y⟩ ⟨hi, hy, hp⟩
    have hi : i ≤ a.length := hi
    have hy : y < 4294967296 := hy
    have hp : crcN y (a.drop i) = crcN 4294967295 a := hp
    cbv
    refine Br.dec (fun h2 => ?_) (fun h2 => ?_) <;> (cbv; repeat (refine Pz.mk ?_; cbv))
    · have h2 : i < a.length := by simpa using h2
      refine ⟨a[i], by simp, get_cast a h2, ?_⟩
      cbv
      have hb : a[i].toNat < 4294967296 := byte_lt a[i]
      refine Ar.nat (y ^^^ a[i].toNat) (xor_lt hy hb) (xor_bv hy hb) ?_
      cbv
      refine LoopE.by (X := Nat × Nat) (fun p => [(3, nT fun _ => p.2), (6, nT fun _ => p.1), (8, lA .byte a), (9, nT fun _ => a.length), (10, nT fun _ => i)]) (fun p => []) (fun p => p.1 ≤ 8 ∧ p.2 < 4294967296 ∧ crcBits (8 - p.1) p.2 = crcStep y a[i]) (fun p _ => 8 - p.1) (0, y ^^^ a[i].toNat) ⟨Nat.zero_le _, xor_lt hy hb, rfl⟩ ?_ ?_
      · cbv
        repeat' first | exact trivial | refine ⟨rfl, ?_⟩ | fail
      · rintro ⟨k, z⟩ ⟨hk, hz, hq⟩
        have hk : k ≤ 8 := hk
        have hz : z < 4294967296 := hz
        have hq : crcBits (8 - k) z = crcStep y a[i] := hq
        have hz2 : z / 2 < 4294967296 := by omega
        cbv
        refine Br.dec (fun h3 => ?_) (fun h3 => ?_) <;> (cbv; repeat (refine Pz.mk ?_; cbv))
        · have h3 : (k : Int) < 8 := h3
          have h3 : k < 8 := by omega
          refine Ar.nat (z % 2) (by omega) (and_bv hz) ?_
          cbv
          refine ⟨by decide, ?_⟩
          cbv
          refine Ar.nat (z / 2) hz2 (fdiv_nat z 2) ?_
          cbv
          refine Br.dec (fun h4 => ?_) (fun h4 => ?_) <;> (cbv; repeat (refine Pz.mk ?_; cbv))
          · have h4 : ((z % 2 : Nat) : Int) = 1 := h4
            have h4 : z % 2 = 1 := by omega
            refine Ar.nat ((z / 2) ^^^ 3988292384) (xor_lt hz2 (by decide)) (xor_bv hz2 (by decide)) ?_
            cbv
            refine Ar.exact ?_ ?_ ?_
            · show -9223372036854775808 ≤ (k : Int) + 1
              omega
            · show (k : Int) + 1 ≤ 9223372036854775807
              omega
            cbv
            refine NextE.by (k + 1, (z / 2) ^^^ 3988292384) ?_ ?_ ?_
            · show 8 - (k + 1) < 8 - k
              omega
            · exact ⟨h3, xor_lt hz2 (by decide), crc_bit h3 (crc_one h4) hq⟩
            · cbv
              repeat' first | exact trivial | refine ⟨rfl, ?_⟩ | fail
          · have h4 : ¬ ((z % 2 : Nat) : Int) = 1 := h4
            have h4 : ¬ z % 2 = 1 := by omega
            refine Ar.exact ?_ ?_ ?_
            · show -9223372036854775808 ≤ (k : Int) + 1
              omega
            · show (k : Int) + 1 ≤ 9223372036854775807
              omega
            cbv
            refine NextE.by (k + 1, z / 2) ?_ ?_ ?_
            · show 8 - (k + 1) < 8 - k
              omega
            · exact ⟨h3, hz2, crc_bit h3 (crc_zero h4) hq⟩
            · cbv
              repeat' first | exact trivial | refine ⟨rfl, ?_⟩ | fail
        · have h3 : ¬ (k : Int) < 8 := h3
          have h3 : k = 8 := by omega
          subst h3
          have hq : z = crcStep y a[i] := hq
          refine Ar.exact ?_ ?_ ?_
          · show -9223372036854775808 ≤ (i : Int) + 1
            omega
          · show (i : Int) + 1 ≤ 9223372036854775807
            omega
          cbv
          refine NextE.by (i + 1, z) ?_ ?_ ?_
          · show a.length - (i + 1) < a.length - i
            omega
          · refine ⟨h2, hz, ?_⟩
            show crcN z (a.drop (i + 1)) = crcN 4294967295 a
            rw [hq]
            exact crc_step h2 hp
          · cbv
            repeat' first | exact trivial | refine ⟨rfl, ?_⟩ | fail
    · have h2 : ¬ i < a.length := by simpa using h2
      refine Ar.nat (y ^^^ 4294967295) (xor_lt hy (by decide)) (xor_bv hy (by decide)) ?_
      cbv
      refine ⟨?_, trivial⟩
      show ((y ^^^ 4294967295 : Nat) : Int) = (x : Int)
      rw [hx, crc_end (z := 0) (by omega) hp]
theorem sh24 (n : Nat) : Int.fdiv (n : Int) (2 ^ (min ((24 : Int).toNat) IntKind.i64.bits)) = ((n / 16777216 : Nat) : Int) := fdiv_nat n 16777216
theorem sh16 (n : Nat) : Int.fdiv (n : Int) (2 ^ (min ((16 : Int).toNat) IntKind.i64.bits)) = ((n / 65536 : Nat) : Int) := fdiv_nat n 65536
theorem sh8 (n : Nat) : Int.fdiv (n : Int) (2 ^ (min ((8 : Int).toNat) IntKind.i64.bits)) = ((n / 256 : Nat) : Int) := fdiv_nat n 256
theorem l2Four_ok (n : Nat) (hn : n < 4294967296) (x : List UInt8) (hx : x = four n) : Spec Try.prog 15 [nT fun _ => n] (Ret (sR fun _ => x)) := by
  refine spec_of tabOk Try.func15 rfl rfl (fr := true) (fun _ => by kernel_rfl) fun P hP hA => ?_
  cbv
  refine ⟨by decide, ?_⟩
  cbv
  refine Ar.nat (n / 16777216) (by omega) (sh24 n) ?_
  cbv
  refine ⟨by decide, ?_⟩
  cbv
  refine Ar.nat (n / 65536) (by omega) (sh16 n) ?_
  cbv
  refine ⟨by decide, ?_⟩
  cbv
  refine Ar.nat (n / 256) (by omega) (sh8 n) ?_
  cbv
  refine ⟨?_, trivial⟩
  exact hx.symm
theorem say_len (seq : Int) (s : List UInt8) : (sayOf seq s).length ≤ 2147483648 + s.length := by
  have := putI_len seq
  rw [sayOf, List.length_append]
  omega
theorem four_len (n : Nat) : (four n).length = 4 := rfl
theorem rest_len (seq : Int) (s : List UInt8) : (restOf seq s).length ≤ 2147483652 + s.length := by
  have := say_len seq s
  rw [restOf, List.length_append, four_len]
  omega
theorem le_maxL {a b : Nat} (ha : a ≤ 2147483648) (hb : b ≤ 15032385540) : a + b ≤ maxL := by
  unfold maxL; omega
theorem frame_ok {seq : Int} {s : List UInt8} (h : frameOkB seq s = true) : frameOf seq s = putI ((restOf seq s).length : Nat) ++ restOf seq s := if_pos h
theorem frame_no {seq : Int} {s : List UInt8} (h : ¬ frameOkB seq s = true) : frameOf seq s = [] := if_neg h
theorem specFrameOf_ok (seq : Int) (s : List UInt8) (hs : s.length ≤ 12884901888) (x : List UInt8) (hx : x = frameOf seq s) : Spec Try.prog 8 [iA seq, sA s] (Ret (sR fun _ => x)) := by
  refine spec_of tabOk Try.func8 rfl rfl (fr := true) (fun _ => by kernel_rfl) fun P hP hA => ?_
  have h1 := putI_len seq
  cbv
  refine CallA.by hP (l1InB_ok seq 1 1000000) ?_
  cbv
  repeat (refine Pz.mk ?_; cbv)
  refine Br.split (fun h => ?_) (fun h => ?_) <;> (cbv; repeat (refine Pz.mk ?_; cbv))
  · have h : isIn seq 1 1000000 = false := by simpa using h
    obtain rfl : x = [] := hx.trans (frame_no (by simp [frameOkB, h]))
    repeat' first | exact trivial | refine ⟨rfl, ?_⟩ | fail
  have h : isIn seq 1 1000000 = true := by simpa using h
  refine CallA.by hP (l1InB_ok (s.length : Int) 1 60) ?_
  cbv
  repeat (refine Pz.mk ?_; cbv)
  refine Br.split (fun h2 => ?_) (fun h2 => ?_) <;> (cbv; repeat (refine Pz.mk ?_; cbv))
  · have h2 : isIn s.length 1 60 = false := by simpa using h2
    obtain rfl : x = [] := hx.trans (frame_no (by simp [frameOkB, h2]))
    repeat' first | exact trivial | refine ⟨rfl, ?_⟩ | fail
  have h2 : isIn s.length 1 60 = true := by simpa using h2
  have hx2 : x = putI ((restOf seq s).length : Nat) ++ restOf seq s := hx.trans (frame_ok (by rw [frameOkB, h, h2]; rfl))
  refine CallA.by hP (specPutNum_ok seq (putI seq) rfl) ?_
  cbv
  repeat (refine Pz.mk ?_; cbv)
  refine ⟨?_, ?_⟩
  · show (putI seq).length + s.length ≤ maxL
    simp only [maxL]; omega
  cbv
  refine CallA.by hP (specCrc_ok (putI seq ++ s) (crcOf (putI seq ++ s)) rfl) ?_
  cbv
  repeat (refine Pz.mk ?_; cbv)
  refine CallA.by hP (l2Four_ok (crcOf (putI seq ++ s)) (crcOf_lt _) (four (crcOf (putI seq ++ s))) rfl) ?_
  cbv
  repeat (refine Pz.mk ?_; cbv)
  refine ⟨?_, ?_⟩
  · show (four (crcOf (putI seq ++ s))).length + (putI seq ++ s).length ≤ maxL
    rw [four_len, List.length_append]
    simp only [maxL]; omega
  cbv
  have h3 := putI_len (restOf seq s).length
  have h4 := rest_len seq s
  have h5 : (restOf seq s).length ≤ 15032385540 := by omega
  refine CallA.by hP (specPutNum_ok (restOf seq s).length (putI (restOf seq s).length) rfl) ?_
  cbv
  repeat (refine Pz.mk ?_; cbv)
  refine ⟨?_, ?_⟩
  · exact le_maxL h3 h5
  cbv
  exact ⟨hx2.symm, trivial⟩
theorem implFrameOf_ok (seq : Int) (s : List UInt8) (hs : s.length ≤ 12884901888) (x : List UInt8) (hx : x = frameOf seq s) : Spec Try.prog 9 [iA seq, sA s] (Ret (sR fun _ => x)) := by
  refine spec_of tabOk Try.func9 rfl rfl (fr := true) (fun _ => by kernel_rfl) fun P hP hA => ?_
  have h1 := putI_len seq
  cbv
  refine CallA.by hP (withinB_ok seq 1 1000000) ?_
  cbv
  repeat (refine Pz.mk ?_; cbv)
  refine Br.split (fun h => ?_) (fun h => ?_) <;> (cbv; repeat (refine Pz.mk ?_; cbv))
  · have h : isIn seq 1 1000000 = false := by simpa using h
    obtain rfl : x = [] := hx.trans (frame_no (by simp [frameOkB, h]))
    repeat' first | exact trivial | refine ⟨rfl, ?_⟩ | fail
  have h : isIn seq 1 1000000 = true := by simpa using h
  refine CallA.by hP (withinB_ok (s.length : Int) 1 60) ?_
  cbv
  repeat (refine Pz.mk ?_; cbv)
  refine Br.split (fun h2 => ?_) (fun h2 => ?_) <;> (cbv; repeat (refine Pz.mk ?_; cbv))
  · have h2 : isIn s.length 1 60 = false := by simpa using h2
    obtain rfl : x = [] := hx.trans (frame_no (by simp [frameOkB, h2]))
    repeat' first | exact trivial | refine ⟨rfl, ?_⟩ | fail
  have h2 : isIn s.length 1 60 = true := by simpa using h2
  have hx2 : x = putI ((restOf seq s).length : Nat) ++ restOf seq s := hx.trans (frame_ok (by rw [frameOkB, h, h2]; rfl))
  refine CallA.by hP (implPutNum_ok seq (putI seq) rfl) ?_
  cbv
  repeat (refine Pz.mk ?_; cbv)
  refine ⟨?_, ?_⟩
  · show ((putI seq).length + s.length) * 1 ≤ 140737488355328
    omega
  cbv
  refine CallA.by hP (implCrc_ok (putI seq ++ s) (crcOf (putI seq ++ s)) rfl) ?_
  cbv
  repeat (refine Pz.mk ?_; cbv)
  have hc := crcOf_lt (putI seq ++ s)
  refine ⟨by decide, ?_⟩
  cbv
  refine Ar.nat (crcOf (putI seq ++ s) / 16777216) (by omega) (sh24 _) ?_
  cbv
  refine ⟨by decide, ?_⟩
  cbv
  refine Ar.nat (crcOf (putI seq ++ s) / 65536) (by omega) (sh16 _) ?_
  cbv
  refine ⟨by decide, ?_⟩
  cbv
  refine Ar.nat (crcOf (putI seq ++ s) / 256) (by omega) (sh8 _) ?_
  cbv
  refine ⟨?_, ?_⟩
  · show ((four (crcOf (putI seq ++ s))).length + (putI seq ++ s).length) * 1 ≤ 140737488355328
    rw [four_len, List.length_append]
    omega
  cbv
  have h3 := putI_len (restOf seq s).length
  have h4 := rest_len seq s
  have h5 : (restOf seq s).length ≤ 15032385540 := by omega
  repeat' first
    | (refine CallA.by hP (implPutNum_ok (restOf seq s).length (putI (restOf seq s).length) rfl) ?_; cbv)
    | (refine Ob.mk (le_maxL h3 h5) ?_; cbv)
    | (refine Pz.mk ?_; cbv)
    | exact ⟨hx2.symm, trivial⟩
    | refine And.intro ?_ ?_
    | fail
theorem nums_le6 {a : List Int} (h : a.length ≤ 6) : (nums a).length ≤ 12884901888 := by
  have h1 := nums_len a
  omega
theorem reqNums_len (q : Req) : (reqNums q).length ≤ 6 := by
  unfold reqNums
  repeat' split
  all_goals simp
theorem reqBytes_len (q : Req) : (reqBytes q).length ≤ 12884901888 := by
  unfold reqBytes
  split
  · exact nums_le6 (reqNums_len q)
  · simp
theorem specNoteOf_ok (seq : Int) (q : Req) (x : List UInt8) (hx : x = noteOf seq q) : Spec Try.prog 4 [iA seq, eA .req q] (Ret (sR fun _ => x)) := by
  refine spec_of tabOk Try.func4 rfl rfl (fr := true) (fun _ => by kernel_rfl) fun P hP hA => ?_
  have hl := reqBytes_len q
  cbv
  refine CallA.by hP (specReqBytes_ok q (reqBytes q) rfl) ?_
  cbv
  repeat (refine Pz.mk ?_; cbv)
  refine Br.split (fun h => ?_) (fun h => ?_) <;> (cbv; repeat (refine Pz.mk ?_; cbv))
  · have h : reqBytes q = [] := by simpa using h
    obtain rfl : x = [] := hx.trans (by rw [noteOf, h, frame_none])
    repeat' first | exact trivial | refine ⟨rfl, ?_⟩ | fail
  refine CallA.by hP (specFrameOf_ok seq (reqBytes q) hl x hx) ?_
  cbv
  repeat (refine Pz.mk ?_; cbv)
  exact ⟨rfl, trivial⟩
theorem implNoteOf_ok (seq : Int) (q : Req) (x : List UInt8) (hx : x = noteOf seq q) : Spec Try.prog 6 [iA seq, eA .req q] (Ret (sR fun _ => x)) := by
  refine spec_of tabOk Try.func6 rfl rfl (fr := true) (fun _ => by kernel_rfl) fun P hP hA => ?_
  have hl := reqBytes_len q
  cbv
  refine CallA.by hP (implReqBytes_ok q (reqBytes q) rfl) ?_
  cbv
  repeat (refine Pz.mk ?_; cbv)
  refine CallA.by hP (implFrameOf_ok seq (reqBytes q) hl x hx) ?_
  cbv
  repeat (refine Pz.mk ?_; cbv)
  exact ⟨rfl, trivial⟩
theorem lawNoteOf_ok (seq : Int) (q : Req) : Spec Try.prog 3 [iA seq, eA .req q] (Ret (bR fun _ => true)) := by
  refine spec_of tabOk Try.func3 rfl rfl (fr := true) (fun _ => by kernel_rfl) fun P hP hA => ?_
  cbv
  refine CallA.by hP (toReq_ok q) ?_
  cbv
  repeat (refine Pz.mk ?_; cbv)
  refine CallA.by hP (specNoteOf_ok seq q (noteOf seq q) rfl) ?_
  cbv
  repeat (refine Pz.mk ?_; cbv)
  refine CallA.by hP (toReq_ok q) ?_
  cbv
  repeat (refine Pz.mk ?_; cbv)
  refine CallA.by hP (implNoteOf_ok seq q (noteOf seq q) rfl) ?_
  cbv
  repeat (refine Pz.mk ?_; cbv)
  refine Br.split (fun h => ?_) (fun h => ?_) <;> (cbv; repeat (refine Pz.mk ?_; cbv))
  · simp at h
  · exact ⟨rfl, trivial⟩
end Go.Proofs.Ytdhgmifneoenlaa

