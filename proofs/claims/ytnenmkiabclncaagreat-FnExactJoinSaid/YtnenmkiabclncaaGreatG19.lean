/- Parts of a proof. No conditions. -/

import Derived.Test.YtnenmkiabclncaaGreatGKe
import Derived.Test.YtnenmkiabclncaaGreatG14
set_option linter.unusedSimpArgs false
set_option linter.unusedVariables false
namespace Go.Proofs.YtnenmkiabclncaaGreat
open Go
set_option maxRecDepth 100000
theorem copyWheel_ok (w : List (List Pin)) (hw : smallSpk w) : Spec Tryz.prog 169 [whA w] (Ret (whR fun _ => w)) := by
  have hl : w.length ≤ 1048576 := hw.1
  refine spec_of tabOk Tryz.func169 rfl rfl (fr := true) (fun _ => by kernel_rfl) fun P hP hA => ?_
  cbv
  repeat (refine Pz.mk ?_; cbv)
  refine LoopE.by (X := Nat) (fun i => [(2, pN 0), (3, pN 1), (7, lA .spk w), (8, nT fun _ => w.length), (9, nT fun _ => i)]) (fun i => [(0, .box [.nil]), (1, .box [.own 2]), (2, ownB' .spk fun _ => w.take i)]) (fun i => i ≤ w.length) (fun i _ => w.length - i) 0 (Nat.zero_le _) ?_ ?_
  · cbv
    repeat (refine Pz.mk ?_; cbv)
    repeat' first | exact trivial | refine ⟨rfl, ?_⟩ | fail
  · intro i hi
    cbv
    repeat (refine Pz.mk ?_; cbv)
    refine Br.dec (fun h2 => ?_) (fun h2 => ?_) <;> (cbv; repeat (refine Pz.mk ?_; cbv))
    · have h2 : i < w.length := by simpa using h2
      have hp : w[i].length ≤ 1048576 := hw.2 _ (List.getElem_mem h2)
      have o1 : (0 + w[i].length) * 16 ≤ 140737488355328 := by omega
      have o2 : ((w.take i).length + 1) * 24 ≤ 140737488355328 := by rw [List.length_take]; omega
      repeat' first
        | (refine Ob.mk o1 ?_; cbv; repeat (refine Pz.mk ?_; cbv))
        | (refine Ob.mk o2 ?_; cbv; repeat (refine Pz.mk ?_; cbv))
        | (refine Ix.mk w[i] (by simp) (get_cast w h2) ?_; cbv; repeat (refine Pz.mk ?_; cbv))
        | refine And.intro ?_ ?_
        | fail
      all_goals
        refine Ar.exact (by (try simp only [nc] at *); omega) (by (try simp only [nc] at *); omega) ?_
        cbv
        repeat (refine Pz.mk ?_; cbv)
        refine NextE.by (i + 1) ?_ ?_ ?_
        · show w.length - (i + 1) < w.length - i
          omega
        · exact h2
        · cbv
          repeat (refine Pz.mk ?_; cbv)
          repeat' first | exact trivial | refine ⟨rfl, ?_⟩ | refine ⟨tk1 h2, ?_⟩ | fail
    · have h2 : w.length ≤ i := by simp at h2; omega
      have e : w.take i = w := List.take_of_length_le h2
      repeat' first | exact trivial | refine ⟨rfl, ?_⟩ | refine ⟨e, ?_⟩ | fail
theorem l9Copy_ok (w : List (List Pin)) (hw : smallSpk w) : Spec Tryz.prog 175 [whA w] (Ret (whR fun _ => w)) := by
  have hl : w.length ≤ 1048576 := hw.1
  refine spec_of tabOk Tryz.func175 rfl rfl (fr := true) (fun _ => by kernel_rfl) fun P hP hA => ?_
  cbv
  repeat (refine Pz.mk ?_; cbv)
  refine LoopE.by (X := Nat) (fun i => [(1, pN 0), (2, pN 1), (3, pN 2), (4, nT fun _ => i)]) (fun i => [(0, .box [.lf (.list .spk fun _ => w)]), (1, .box [.nil]), (2, .box [.own 3]), (3, ownB' .spk fun _ => w.take i)]) (fun i => i ≤ w.length) (fun i _ => w.length - i) 0 (Nat.zero_le _) ?_ ?_
  · cbv
    repeat (refine Pz.mk ?_; cbv)
    repeat' first | exact trivial | refine ⟨rfl, ?_⟩ | fail
  · intro i hi
    cbv
    repeat (refine Pz.mk ?_; cbv)
    refine Br.dec (fun h2 => ?_) (fun h2 => ?_) <;> (cbv; repeat (refine Pz.mk ?_; cbv))
    · have h2 : i < w.length := by simpa using h2
      have hp : w[i].length ≤ 1048576 := hw.2 _ (List.getElem_mem h2)
      have o1 : (0 + w[i].length) * 16 ≤ 140737488355328 := by omega
      have o2 : ((w.take i).length + 1) * 24 ≤ 140737488355328 := by rw [List.length_take]; omega
      repeat' first
        | (refine Ob.mk o1 ?_; cbv; repeat (refine Pz.mk ?_; cbv))
        | (refine Ob.mk o2 ?_; cbv; repeat (refine Pz.mk ?_; cbv))
        | (refine Ix.mk w[i] (by simp) (get_cast w h2) ?_; cbv; repeat (refine Pz.mk ?_; cbv))
        | refine And.intro ?_ ?_
        | fail
      all_goals
        refine Ar.exact (by (try simp only [nc] at *); omega) (by (try simp only [nc] at *); omega) ?_
        cbv
        repeat (refine Pz.mk ?_; cbv)
        refine NextE.by (i + 1) ?_ ?_ ?_
        · show w.length - (i + 1) < w.length - i
          omega
        · exact h2
        · cbv
          repeat (refine Pz.mk ?_; cbv)
          repeat' first | exact trivial | refine ⟨rfl, ?_⟩ | refine ⟨tk1 h2, ?_⟩ | fail
    · have h2 : w.length ≤ i := by simp at h2; omega
      have e : w.take i = w := List.take_of_length_le h2
      repeat' first | exact trivial | refine ⟨rfl, ?_⟩ | refine ⟨e, ?_⟩ | fail
theorem copyCabin_ok (c : Cabin) (hs : smallCab c) : Spec Tryz.prog 152 [eA .cab c] (Ret (eR .cab fun _ => c)) := by
  refine spec_of tabOk Tryz.func152 rfl rfl (fr := true) (fun _ => by kernel_rfl) fun P hP hA => ?_
  cbv
  repeat (refine Pz.mk ?_; cbv)
  repeat' first
    | exact trivial
    | (refine CallA.by hP (copyEntries_ok c.row hs.1) ?_; cbv; repeat (refine Pz.mk ?_; cbv))
    | (refine CallA.by hP (copyWheel_ok c.spoke hs.2) ?_; cbv; repeat (refine Pz.mk ?_; cbv))
    | refine ⟨rfl, ?_⟩
    | refine And.intro ?_ ?_
    | fail
theorem l10Copy_ok (c : Cabin) (hs : smallCab c) : Spec Tryz.prog 148 [eA .cab c] (Ret (eR .cab fun _ => c)) := by
  refine spec_of tabOk Tryz.func148 rfl rfl (fr := true) (fun _ => by kernel_rfl) fun P hP hA => ?_
  cbv
  repeat (refine Pz.mk ?_; cbv)
  repeat' first
    | exact trivial
    | (refine CallA.by hP (l7Copy_ok c.row hs.1) ?_; cbv; repeat (refine Pz.mk ?_; cbv))
    | (refine CallA.by hP (l9Copy_ok c.spoke hs.2) ?_; cbv; repeat (refine Pz.mk ?_; cbv))
    | refine ⟨rfl, ?_⟩
    | refine And.intro ?_ ?_
    | fail
end Go.Proofs.YtnenmkiabclncaaGreat
namespace Go.Proofs.YtnenmkiabclncaaGreat
open Go
set_option maxRecDepth 100000
def ledMv (l : Ledger) (n df dh ds dt : Int) : Ledger := ⟨l.total, l.free + df * n, l.held + dh * n, l.sold + ds * n, l.tied + dt * n⟩
def seatsB (l : Ledger) (n df dh ds dt : Int) : Bool := ledOkB l && (isIn n 0 60 && ledOkB (ledMv l n df dh ds dt))
def seatsOf (l : Ledger) (n df dh ds dt : Int) : Ledger := if seatsB l n df dh ds dt = true then ledMv l n df dh ds dt else l
structure Sgn (d : Int) : Prop where
  lo : -1 ≤ d
  hi : d ≤ 1
theorem sgn_mul {d n : Int} (h : Sgn d) (hn : 0 ≤ n ∧ n ≤ 60) : -60 ≤ d * n ∧ d * n ≤ 60 := by
  have a := h.lo
  have b := h.hi
  rcases (by omega : d = -1 ∨ d = 0 ∨ d = 1) with e | e | e <;> subst e <;> omega
theorem seats_no {l : Ledger} {n df dh ds dt : Int} {x : Ledger} {b : Bool} (hx : x = seatsOf l n df dh ds dt) (hb : b = seatsB l n df dh ds dt) (e : seatsB l n df dh ds dt = false) : x = l ∧ b = false :=
  ⟨hx.trans (if_neg (by rw [e]; simp)), hb.trans e⟩
set_option maxHeartbeats 1000000 in
theorem l8Turn_ok (l : Ledger) (n df dh ds dt : Int) (h1 : Sgn df) (h2 : Sgn dh) (h3 : Sgn ds) (h4 : Sgn dt) (x : Ledger) (hx : x = seatsOf l n df dh ds dt) (b : Bool) (hb : b = seatsB l n df dh ds dt) :
    Spec Tryz.prog 174 [leA l, iA n, iA df, iA dh, iA ds, iA dt] (Ret (.tup [(true, leS fun _ => x), (false, [.bool fun _ => b])])) := by
  refine spec_of tabOk Tryz.func174 rfl rfl (fr := true) (fun _ => by kernel_rfl) fun P hP hA => ?_
  cbv
  repeat (refine Pz.mk ?_; cbv)
  refine CallA.by hP (specLedgerOk_ok l (ledOkB l) rfl) ?_
  cbv
  repeat (refine Pz.mk ?_; cbv)
  refine Br.split (fun k0 => ?_) (fun k0 => ?_) <;> (cbv; repeat (refine Pz.mk ?_; cbv))
  · have k0 : (!ledOkB l) = true := k0
    have k0 : ledOkB l = false := by simpa using k0
    have e := seats_no hx hb (by rw [seatsB, k0]; rfl)
    obtain rfl : x = l := e.1
    obtain rfl : b = false := e.2
    repeat' first | exact trivial | refine ⟨rfl, ?_⟩ | fail
  have k0 : (!ledOkB l) = false := k0
  have k0 : ledOkB l = true := by simpa using k0
  refine CallA.by hP (l1InB_ok n 0 60) ?_
  cbv
  repeat (refine Pz.mk ?_; cbv)
  refine Br.split (fun k1 => ?_) (fun k1 => ?_) <;> (cbv; repeat (refine Pz.mk ?_; cbv))
  · have k1 : (!isIn n 0 60) = true := k1
    have k1 : isIn n 0 60 = false := by simpa using k1
    have e := seats_no hx hb (by rw [seatsB, k0, k1]; rfl)
    obtain rfl : x = l := e.1
    obtain rfl : b = false := e.2
    repeat' first | exact trivial | refine ⟨rfl, ?_⟩ | fail
  have k1 : (!isIn n 0 60) = false := k1
  have k1 : isIn n 0 60 = true := by simpa using k1
  have hn := isIn_ok k1
  have hg := ledG k0
  have g1 := hg.total
  have g2 := hg.free
  have g3 := hg.held
  have g4 := hg.sold
  have g5 := hg.tied
  have m1 := sgn_mul h1 hn
  have m2 := sgn_mul h2 hn
  have m3 := sgn_mul h3 hn
  have m4 := sgn_mul h4 hn
  repeat (refine Ar.exact (by omega) (by omega) ?_; cbv; repeat (refine Pz.mk ?_; cbv))
  refine CallA.by hP (specLedgerOk_ok (ledMv l n df dh ds dt) (ledOkB (ledMv l n df dh ds dt)) rfl) ?_
  cbv
  repeat (refine Pz.mk ?_; cbv)
  refine Br.split (fun k2 => ?_) (fun k2 => ?_) <;> (cbv; repeat (refine Pz.mk ?_; cbv))
  · have k2 : (!ledOkB (ledMv l n df dh ds dt)) = true := k2
    have k2 : ledOkB (ledMv l n df dh ds dt) = false := by simpa using k2
    have e := seats_no hx hb (by rw [seatsB, k0, k1, k2]; rfl)
    obtain rfl : x = l := e.1
    obtain rfl : b = false := e.2
    repeat' first | exact trivial | refine ⟨rfl, ?_⟩ | fail
  have k2 : (!ledOkB (ledMv l n df dh ds dt)) = false := k2
  have k2 : ledOkB (ledMv l n df dh ds dt) = true := by simpa using k2
  have e : seatsB l n df dh ds dt = true := by rw [seatsB, k0, k1, k2]; rfl
  obtain rfl : x = ledMv l n df dh ds dt := hx.trans (if_pos e)
  obtain rfl : b = true := hb.trans e
  repeat' first | exact trivial | refine ⟨rfl, ?_⟩ | fail
theorem mv_Drop (l : Ledger) (n : Int) : ledMv l n 1 (-1) 0 0 = ⟨l.total, l.free + n, l.held - n, l.sold, l.tied⟩ := by
  unfold ledMv; congr 1 <;> omega
theorem specSeatsDrop_ok (l : Ledger) (n : Int) (x : Ledger) (hx : x = seatsOf l n 1 (-1) 0 0) (b : Bool) (hb : b = seatsB l n 1 (-1) 0 0) : Spec Tryz.prog 184 [leA l, iA n] (Ret (.tup [(true, leS fun _ => x), (false, [.bool fun _ => b])])) := by
  refine spec_of tabOk Tryz.func184 rfl rfl (fr := true) (fun _ => by kernel_rfl) fun P hP hA => ?_
  cbv
  repeat (refine Pz.mk ?_; cbv)
  refine CallA.by hP (l8Turn_ok l n 1 (-1) 0 0 ⟨by omega, by omega⟩ ⟨by omega, by omega⟩ ⟨by omega, by omega⟩ ⟨by omega, by omega⟩ x hx b hb) ?_
  cbv
  repeat (refine Pz.mk ?_; cbv)
  repeat' first | exact trivial | refine ⟨rfl, ?_⟩ | fail
theorem seatsDrop1_ok (l : Ledger) (n : Int) (hl : ledOkB l = true) (hn : 0 ≤ n ∧ n ≤ 60) : SpecM Tryz.prog 187 [.c (.ptr 0 0), .c (.pcs [.int .i64 fun _ => n] 0)] [(0, .box [.lf (.int .i64 fun _ => l.total), .lf (.int .i64 fun _ => l.free), .lf (.int .i64 fun _ => l.held), .lf (.int .i64 fun _ => l.sold), .lf (.int .i64 fun _ => l.tied)])]
    (RetM (.tup []) [(0, .box [.int .i64 fun _ => l.total, .int .i64 fun _ => l.free + n, .int .i64 fun _ => l.held - n, .int .i64 fun _ => l.sold, .int .i64 fun _ => l.tied])]) := by
  have hg := ledG hl
  have g1 := hg.total
  have g2 := hg.free
  have g3 := hg.held
  have g4 := hg.sold
  have g5 := hg.tied
  refine specM_of tabOk Tryz.func187 rfl rfl (fr := true) (fun _ => by kernel_rfl) rfl rfl fun P hP hA hB => ?_
  cbv
  repeat (refine Pz.mk ?_; cbv)
  repeat (refine Ar.exact (by omega) (by omega) ?_; cbv; repeat (refine Pz.mk ?_; cbv))
  repeat' first | exact trivial | refine ⟨rfl, ?_⟩ | fail
set_option maxHeartbeats 1000000 in
theorem movedDrop_ok (l : Ledger) (n : Int) (x : Ledger) (hx : x = seatsOf l n 1 (-1) 0 0) (b : Bool) (hb : b = seatsB l n 1 (-1) 0 0) :
    Spec Tryz.prog 155 [leA l, iA n, .c (.fn 187 [.pcs [.int .i64 fun _ => n] 0])] (Ret (.tup [(true, leS fun _ => x), (false, [.bool fun _ => b])])) := by
  refine spec_of tabOk Tryz.func155 rfl rfl (fr := true) (fun _ => by kernel_rfl) fun P hP hA => ?_
  cbv
  repeat (refine Pz.mk ?_; cbv)
  refine CallA.by hP (implLedgerOk_ok l (ledOkB l) rfl) ?_
  cbv
  repeat (refine Pz.mk ?_; cbv)
  refine Br.split (fun k0 => ?_) (fun k0 => ?_) <;> (cbv; repeat (refine Pz.mk ?_; cbv))
  · have k0 : (!ledOkB l) = true := k0
    have k0 : ledOkB l = false := by simpa using k0
    have e := seats_no hx hb (by rw [seatsB, k0]; rfl)
    obtain rfl : x = l := e.1
    obtain rfl : b = false := e.2
    repeat' first | exact trivial | refine ⟨rfl, ?_⟩ | fail
  have k0 : (!ledOkB l) = false := k0
  have k0 : ledOkB l = true := by simpa using k0
  refine CallA.by hP (withinB_ok n 0 60) ?_
  cbv
  repeat (refine Pz.mk ?_; cbv)
  refine Br.split (fun k1 => ?_) (fun k1 => ?_) <;> (cbv; repeat (refine Pz.mk ?_; cbv))
  · have k1 : (!isIn n 0 60) = true := k1
    have k1 : isIn n 0 60 = false := by simpa using k1
    have e := seats_no hx hb (by rw [seatsB, k0, k1]; rfl)
    obtain rfl : x = l := e.1
    obtain rfl : b = false := e.2
    repeat' first | exact trivial | refine ⟨rfl, ?_⟩ | fail
  have k1 : (!isIn n 0 60) = false := k1
  have k1 : isIn n 0 60 = true := by simpa using k1
  refine CallM.by hP (seatsDrop1_ok l n k0 (isIn_ok k1)) ?_
  cbv
  repeat (refine Pz.mk ?_; cbv)
  refine CallA.by hP (implLedgerOk_ok (⟨l.total, l.free + n, l.held - n, l.sold, l.tied⟩ : Ledger) (ledOkB (ledMv l n 1 (-1) 0 0)) (by rw [mv_Drop])) ?_
  cbv
  repeat (refine Pz.mk ?_; cbv)
  refine Br.split (fun k2 => ?_) (fun k2 => ?_) <;> (cbv; repeat (refine Pz.mk ?_; cbv))
  · have k2 : (!ledOkB (ledMv l n 1 (-1) 0 0)) = true := k2
    have k2 : ledOkB (ledMv l n 1 (-1) 0 0) = false := by simpa using k2
    have e := seats_no hx hb (by rw [seatsB, k0, k1, k2]; rfl)
    obtain rfl : x = l := e.1
    obtain rfl : b = false := e.2
    repeat' first | exact trivial | refine ⟨rfl, ?_⟩ | fail
  have k2 : (!ledOkB (ledMv l n 1 (-1) 0 0)) = false := k2
  have k2 : ledOkB (ledMv l n 1 (-1) 0 0) = true := by simpa using k2
  have e : seatsB l n 1 (-1) 0 0 = true := by rw [seatsB, k0, k1, k2]; rfl
  obtain rfl : x = (⟨l.total, l.free + n, l.held - n, l.sold, l.tied⟩ : Ledger) := hx.trans ((if_pos e).trans (mv_Drop l n))
  obtain rfl : b = true := hb.trans e
  repeat' first | exact trivial | refine ⟨rfl, ?_⟩ | fail
theorem implSeatsDrop_ok (l : Ledger) (n : Int) (x : Ledger) (hx : x = seatsOf l n 1 (-1) 0 0) (b : Bool) (hb : b = seatsB l n 1 (-1) 0 0) : Spec Tryz.prog 112 [leA l, iA n] (Ret (.tup [(true, leS fun _ => x), (false, [.bool fun _ => b])])) := by
  refine spec_of tabOk Tryz.func112 rfl rfl (fr := true) (fun _ => by kernel_rfl) fun P hP hA => ?_
  cbv
  repeat (refine Pz.mk ?_; cbv)
  refine CallA.by hP (movedDrop_ok l n x hx b hb) ?_
  cbv
  repeat (refine Pz.mk ?_; cbv)
  repeat' first | exact trivial | refine ⟨rfl, ?_⟩ | fail
theorem mv_Sell (l : Ledger) (n : Int) : ledMv l n 0 (-1) 1 0 = ⟨l.total, l.free, l.held - n, l.sold + n, l.tied⟩ := by
  unfold ledMv; congr 1 <;> omega
theorem specSeatsSell_ok (l : Ledger) (n : Int) (x : Ledger) (hx : x = seatsOf l n 0 (-1) 1 0) (b : Bool) (hb : b = seatsB l n 0 (-1) 1 0) : Spec Tryz.prog 103 [leA l, iA n] (Ret (.tup [(true, leS fun _ => x), (false, [.bool fun _ => b])])) := by
  refine spec_of tabOk Tryz.func103 rfl rfl (fr := true) (fun _ => by kernel_rfl) fun P hP hA => ?_
  cbv
  repeat (refine Pz.mk ?_; cbv)
  refine CallA.by hP (l8Turn_ok l n 0 (-1) 1 0 ⟨by omega, by omega⟩ ⟨by omega, by omega⟩ ⟨by omega, by omega⟩ ⟨by omega, by omega⟩ x hx b hb) ?_
  cbv
  repeat (refine Pz.mk ?_; cbv)
  repeat' first | exact trivial | refine ⟨rfl, ?_⟩ | fail
theorem seatsSell1_ok (l : Ledger) (n : Int) (hl : ledOkB l = true) (hn : 0 ≤ n ∧ n ≤ 60) : SpecM Tryz.prog 179 [.c (.ptr 0 0), .c (.pcs [.int .i64 fun _ => n] 0)] [(0, .box [.lf (.int .i64 fun _ => l.total), .lf (.int .i64 fun _ => l.free), .lf (.int .i64 fun _ => l.held), .lf (.int .i64 fun _ => l.sold), .lf (.int .i64 fun _ => l.tied)])]
    (RetM (.tup []) [(0, .box [.int .i64 fun _ => l.total, .int .i64 fun _ => l.free, .int .i64 fun _ => l.held - n, .int .i64 fun _ => l.sold + n, .int .i64 fun _ => l.tied])]) := by
  have hg := ledG hl
  have g1 := hg.total
  have g2 := hg.free
  have g3 := hg.held
  have g4 := hg.sold
  have g5 := hg.tied
  refine specM_of tabOk Tryz.func179 rfl rfl (fr := true) (fun _ => by kernel_rfl) rfl rfl fun P hP hA hB => ?_
  cbv
  repeat (refine Pz.mk ?_; cbv)
  repeat (refine Ar.exact (by omega) (by omega) ?_; cbv; repeat (refine Pz.mk ?_; cbv))
  repeat' first | exact trivial | refine ⟨rfl, ?_⟩ | fail
set_option maxHeartbeats 1000000 in
theorem movedSell_ok (l : Ledger) (n : Int) (x : Ledger) (hx : x = seatsOf l n 0 (-1) 1 0) (b : Bool) (hb : b = seatsB l n 0 (-1) 1 0) :
    Spec Tryz.prog 155 [leA l, iA n, .c (.fn 179 [.pcs [.int .i64 fun _ => n] 0])] (Ret (.tup [(true, leS fun _ => x), (false, [.bool fun _ => b])])) := by
  refine spec_of tabOk Tryz.func155 rfl rfl (fr := true) (fun _ => by kernel_rfl) fun P hP hA => ?_
  cbv
  repeat (refine Pz.mk ?_; cbv)
  refine CallA.by hP (implLedgerOk_ok l (ledOkB l) rfl) ?_
  cbv
  repeat (refine Pz.mk ?_; cbv)
  refine Br.split (fun k0 => ?_) (fun k0 => ?_) <;> (cbv; repeat (refine Pz.mk ?_; cbv))
  · have k0 : (!ledOkB l) = true := k0
    have k0 : ledOkB l = false := by simpa using k0
    have e := seats_no hx hb (by rw [seatsB, k0]; rfl)
    obtain rfl : x = l := e.1
    obtain rfl : b = false := e.2
    repeat' first | exact trivial | refine ⟨rfl, ?_⟩ | fail
  have k0 : (!ledOkB l) = false := k0
  have k0 : ledOkB l = true := by simpa using k0
  refine CallA.by hP (withinB_ok n 0 60) ?_
  cbv
  repeat (refine Pz.mk ?_; cbv)
  refine Br.split (fun k1 => ?_) (fun k1 => ?_) <;> (cbv; repeat (refine Pz.mk ?_; cbv))
  · have k1 : (!isIn n 0 60) = true := k1
    have k1 : isIn n 0 60 = false := by simpa using k1
    have e := seats_no hx hb (by rw [seatsB, k0, k1]; rfl)
    obtain rfl : x = l := e.1
    obtain rfl : b = false := e.2
    repeat' first | exact trivial | refine ⟨rfl, ?_⟩ | fail
  have k1 : (!isIn n 0 60) = false := k1
  have k1 : isIn n 0 60 = true := by simpa using k1
  refine CallM.by hP (seatsSell1_ok l n k0 (isIn_ok k1)) ?_
  cbv
  repeat (refine Pz.mk ?_; cbv)
  refine CallA.by hP (implLedgerOk_ok (⟨l.total, l.free, l.held - n, l.sold + n, l.tied⟩ : Ledger) (ledOkB (ledMv l n 0 (-1) 1 0)) (by rw [mv_Sell])) ?_
  cbv
  repeat (refine Pz.mk ?_; cbv)
  refine Br.split (fun k2 => ?_) (fun k2 => ?_) <;> (cbv; repeat (refine Pz.mk ?_; cbv))
  · have k2 : (!ledOkB (ledMv l n 0 (-1) 1 0)) = true := k2
    have k2 : ledOkB (ledMv l n 0 (-1) 1 0) = false := by simpa using k2
    have e := seats_no hx hb (by rw [seatsB, k0, k1, k2]; rfl)
    obtain rfl : x = l := e.1
    obtain rfl : b = false := e.2
    repeat' first | exact trivial | refine ⟨rfl, ?_⟩ | fail
  have k2 : (!ledOkB (ledMv l n 0 (-1) 1 0)) = false := k2
  have k2 : ledOkB (ledMv l n 0 (-1) 1 0) = true := by simpa using k2
  have e : seatsB l n 0 (-1) 1 0 = true := by rw [seatsB, k0, k1, k2]; rfl
  obtain rfl : x = (⟨l.total, l.free, l.held - n, l.sold + n, l.tied⟩ : Ledger) := hx.trans ((if_pos e).trans (mv_Sell l n))
  obtain rfl : b = true := hb.trans e
  repeat' first | exact trivial | refine ⟨rfl, ?_⟩ | fail
theorem implSeatsSell_ok (l : Ledger) (n : Int) (x : Ledger) (hx : x = seatsOf l n 0 (-1) 1 0) (b : Bool) (hb : b = seatsB l n 0 (-1) 1 0) : Spec Tryz.prog 106 [leA l, iA n] (Ret (.tup [(true, leS fun _ => x), (false, [.bool fun _ => b])])) := by
  refine spec_of tabOk Tryz.func106 rfl rfl (fr := true) (fun _ => by kernel_rfl) fun P hP hA => ?_
  cbv
  repeat (refine Pz.mk ?_; cbv)
  refine CallA.by hP (movedSell_ok l n x hx b hb) ?_
  cbv
  repeat (refine Pz.mk ?_; cbv)
  repeat' first | exact trivial | refine ⟨rfl, ?_⟩ | fail
theorem mv_Free (l : Ledger) (n : Int) : ledMv l n 1 0 (-1) 0 = ⟨l.total, l.free + n, l.held, l.sold - n, l.tied⟩ := by
  unfold ledMv; congr 1 <;> omega
theorem specSeatsFree_ok (l : Ledger) (n : Int) (x : Ledger) (hx : x = seatsOf l n 1 0 (-1) 0) (b : Bool) (hb : b = seatsB l n 1 0 (-1) 0) : Spec Tryz.prog 154 [leA l, iA n] (Ret (.tup [(true, leS fun _ => x), (false, [.bool fun _ => b])])) := by
  refine spec_of tabOk Tryz.func154 rfl rfl (fr := true) (fun _ => by kernel_rfl) fun P hP hA => ?_
  cbv
  repeat (refine Pz.mk ?_; cbv)
  refine CallA.by hP (l8Turn_ok l n 1 0 (-1) 0 ⟨by omega, by omega⟩ ⟨by omega, by omega⟩ ⟨by omega, by omega⟩ ⟨by omega, by omega⟩ x hx b hb) ?_
  cbv
  repeat (refine Pz.mk ?_; cbv)
  repeat' first | exact trivial | refine ⟨rfl, ?_⟩ | fail
theorem seatsFree1_ok (l : Ledger) (n : Int) (hl : ledOkB l = true) (hn : 0 ≤ n ∧ n ≤ 60) : SpecM Tryz.prog 156 [.c (.ptr 0 0), .c (.pcs [.int .i64 fun _ => n] 0)] [(0, .box [.lf (.int .i64 fun _ => l.total), .lf (.int .i64 fun _ => l.free), .lf (.int .i64 fun _ => l.held), .lf (.int .i64 fun _ => l.sold), .lf (.int .i64 fun _ => l.tied)])]
    (RetM (.tup []) [(0, .box [.int .i64 fun _ => l.total, .int .i64 fun _ => l.free + n, .int .i64 fun _ => l.held, .int .i64 fun _ => l.sold - n, .int .i64 fun _ => l.tied])]) := by
  have hg := ledG hl
  have g1 := hg.total
  have g2 := hg.free
  have g3 := hg.held
  have g4 := hg.sold
  have g5 := hg.tied
  refine specM_of tabOk Tryz.func156 rfl rfl (fr := true) (fun _ => by kernel_rfl) rfl rfl fun P hP hA hB => ?_
  cbv
  repeat (refine Pz.mk ?_; cbv)
  repeat (refine Ar.exact (by omega) (by omega) ?_; cbv; repeat (refine Pz.mk ?_; cbv))
  repeat' first | exact trivial | refine ⟨rfl, ?_⟩ | fail
set_option maxHeartbeats 1000000 in
theorem movedFree_ok (l : Ledger) (n : Int) (x : Ledger) (hx : x = seatsOf l n 1 0 (-1) 0) (b : Bool) (hb : b = seatsB l n 1 0 (-1) 0) :
    Spec Tryz.prog 155 [leA l, iA n, .c (.fn 156 [.pcs [.int .i64 fun _ => n] 0])] (Ret (.tup [(true, leS fun _ => x), (false, [.bool fun _ => b])])) := by
  refine spec_of tabOk Tryz.func155 rfl rfl (fr := true) (fun _ => by kernel_rfl) fun P hP hA => ?_
  cbv
  repeat (refine Pz.mk ?_; cbv)
  refine CallA.by hP (implLedgerOk_ok l (ledOkB l) rfl) ?_
  cbv
  repeat (refine Pz.mk ?_; cbv)
  refine Br.split (fun k0 => ?_) (fun k0 => ?_) <;> (cbv; repeat (refine Pz.mk ?_; cbv))
  · have k0 : (!ledOkB l) = true := k0
    have k0 : ledOkB l = false := by simpa using k0
    have e := seats_no hx hb (by rw [seatsB, k0]; rfl)
    obtain rfl : x = l := e.1
    obtain rfl : b = false := e.2
    repeat' first | exact trivial | refine ⟨rfl, ?_⟩ | fail
  have k0 : (!ledOkB l) = false := k0
  have k0 : ledOkB l = true := by simpa using k0
  refine CallA.by hP (withinB_ok n 0 60) ?_
  cbv
  repeat (refine Pz.mk ?_; cbv)
  refine Br.split (fun k1 => ?_) (fun k1 => ?_) <;> (cbv; repeat (refine Pz.mk ?_; cbv))
  · have k1 : (!isIn n 0 60) = true := k1
    have k1 : isIn n 0 60 = false := by simpa using k1
    have e := seats_no hx hb (by rw [seatsB, k0, k1]; rfl)
    obtain rfl : x = l := e.1
    obtain rfl : b = false := e.2
    repeat' first | exact trivial | refine ⟨rfl, ?_⟩ | fail
  have k1 : (!isIn n 0 60) = false := k1
  have k1 : isIn n 0 60 = true := by simpa using k1
  refine CallM.by hP (seatsFree1_ok l n k0 (isIn_ok k1)) ?_
  cbv
  repeat (refine Pz.mk ?_; cbv)
  refine CallA.by hP (implLedgerOk_ok (⟨l.total, l.free + n, l.held, l.sold - n, l.tied⟩ : Ledger) (ledOkB (ledMv l n 1 0 (-1) 0)) (by rw [mv_Free])) ?_
  cbv
  repeat (refine Pz.mk ?_; cbv)
  refine Br.split (fun k2 => ?_) (fun k2 => ?_) <;> (cbv; repeat (refine Pz.mk ?_; cbv))
  · have k2 : (!ledOkB (ledMv l n 1 0 (-1) 0)) = true := k2
    have k2 : ledOkB (ledMv l n 1 0 (-1) 0) = false := by simpa using k2
    have e := seats_no hx hb (by rw [seatsB, k0, k1, k2]; rfl)
    obtain rfl : x = l := e.1
    obtain rfl : b = false := e.2
    repeat' first | exact trivial | refine ⟨rfl, ?_⟩ | fail
  have k2 : (!ledOkB (ledMv l n 1 0 (-1) 0)) = false := k2
  have k2 : ledOkB (ledMv l n 1 0 (-1) 0) = true := by simpa using k2
  have e : seatsB l n 1 0 (-1) 0 = true := by rw [seatsB, k0, k1, k2]; rfl
  obtain rfl : x = (⟨l.total, l.free + n, l.held, l.sold - n, l.tied⟩ : Ledger) := hx.trans ((if_pos e).trans (mv_Free l n))
  obtain rfl : b = true := hb.trans e
  repeat' first | exact trivial | refine ⟨rfl, ?_⟩ | fail
theorem implSeatsFree_ok (l : Ledger) (n : Int) (x : Ledger) (hx : x = seatsOf l n 1 0 (-1) 0) (b : Bool) (hb : b = seatsB l n 1 0 (-1) 0) : Spec Tryz.prog 96 [leA l, iA n] (Ret (.tup [(true, leS fun _ => x), (false, [.bool fun _ => b])])) := by
  refine spec_of tabOk Tryz.func96 rfl rfl (fr := true) (fun _ => by kernel_rfl) fun P hP hA => ?_
  cbv
  repeat (refine Pz.mk ?_; cbv)
  refine CallA.by hP (movedFree_ok l n x hx b hb) ?_
  cbv
  repeat (refine Pz.mk ?_; cbv)
  repeat' first | exact trivial | refine ⟨rfl, ?_⟩ | fail
theorem mv_Tie (l : Ledger) (n : Int) : ledMv l n 0 0 0 1 = ⟨l.total, l.free, l.held, l.sold, l.tied + n⟩ := by
  unfold ledMv; congr 1 <;> omega
theorem specSeatsTie_ok (l : Ledger) (n : Int) (x : Ledger) (hx : x = seatsOf l n 0 0 0 1) (b : Bool) (hb : b = seatsB l n 0 0 0 1) : Spec Tryz.prog 117 [leA l, iA n] (Ret (.tup [(true, leS fun _ => x), (false, [.bool fun _ => b])])) := by
  refine spec_of tabOk Tryz.func117 rfl rfl (fr := true) (fun _ => by kernel_rfl) fun P hP hA => ?_
  cbv
  repeat (refine Pz.mk ?_; cbv)
  refine CallA.by hP (l8Turn_ok l n 0 0 0 1 ⟨by omega, by omega⟩ ⟨by omega, by omega⟩ ⟨by omega, by omega⟩ ⟨by omega, by omega⟩ x hx b hb) ?_
  cbv
  repeat (refine Pz.mk ?_; cbv)
  repeat' first | exact trivial | refine ⟨rfl, ?_⟩ | fail
theorem seatsTie1_ok (l : Ledger) (n : Int) (hl : ledOkB l = true) (hn : 0 ≤ n ∧ n ≤ 60) : SpecM Tryz.prog 193 [.c (.ptr 0 0), .c (.pcs [.int .i64 fun _ => n] 0)] [(0, .box [.lf (.int .i64 fun _ => l.total), .lf (.int .i64 fun _ => l.free), .lf (.int .i64 fun _ => l.held), .lf (.int .i64 fun _ => l.sold), .lf (.int .i64 fun _ => l.tied)])]
    (RetM (.tup []) [(0, .box [.int .i64 fun _ => l.total, .int .i64 fun _ => l.free, .int .i64 fun _ => l.held, .int .i64 fun _ => l.sold, .int .i64 fun _ => l.tied + n])]) := by
  have hg := ledG hl
  have g1 := hg.total
  have g2 := hg.free
  have g3 := hg.held
  have g4 := hg.sold
  have g5 := hg.tied
  refine specM_of tabOk Tryz.func193 rfl rfl (fr := true) (fun _ => by kernel_rfl) rfl rfl fun P hP hA hB => ?_
  cbv
  repeat (refine Pz.mk ?_; cbv)
  repeat (refine Ar.exact (by omega) (by omega) ?_; cbv; repeat (refine Pz.mk ?_; cbv))
  repeat' first | exact trivial | refine ⟨rfl, ?_⟩ | fail
set_option maxHeartbeats 1000000 in
theorem movedTie_ok (l : Ledger) (n : Int) (x : Ledger) (hx : x = seatsOf l n 0 0 0 1) (b : Bool) (hb : b = seatsB l n 0 0 0 1) :
    Spec Tryz.prog 155 [leA l, iA n, .c (.fn 193 [.pcs [.int .i64 fun _ => n] 0])] (Ret (.tup [(true, leS fun _ => x), (false, [.bool fun _ => b])])) := by
  refine spec_of tabOk Tryz.func155 rfl rfl (fr := true) (fun _ => by kernel_rfl) fun P hP hA => ?_
  cbv
  repeat (refine Pz.mk ?_; cbv)
  refine CallA.by hP (implLedgerOk_ok l (ledOkB l) rfl) ?_
  cbv
  repeat (refine Pz.mk ?_; cbv)
  refine Br.split (fun k0 => ?_) (fun k0 => ?_) <;> (cbv; repeat (refine Pz.mk ?_; cbv))
  · have k0 : (!ledOkB l) = true := k0
    have k0 : ledOkB l = false := by simpa using k0
    have e := seats_no hx hb (by rw [seatsB, k0]; rfl)
    obtain rfl : x = l := e.1
    obtain rfl : b = false := e.2
    repeat' first | exact trivial | refine ⟨rfl, ?_⟩ | fail
  have k0 : (!ledOkB l) = false := k0
  have k0 : ledOkB l = true := by simpa using k0
  refine CallA.by hP (withinB_ok n 0 60) ?_
  cbv
  repeat (refine Pz.mk ?_; cbv)
  refine Br.split (fun k1 => ?_) (fun k1 => ?_) <;> (cbv; repeat (refine Pz.mk ?_; cbv))
  · have k1 : (!isIn n 0 60) = true := k1
    have k1 : isIn n 0 60 = false := by simpa using k1
    have e := seats_no hx hb (by rw [seatsB, k0, k1]; rfl)
    obtain rfl : x = l := e.1
    obtain rfl : b = false := e.2
    repeat' first | exact trivial | refine ⟨rfl, ?_⟩ | fail
  have k1 : (!isIn n 0 60) = false := k1
  have k1 : isIn n 0 60 = true := by simpa using k1
  refine CallM.by hP (seatsTie1_ok l n k0 (isIn_ok k1)) ?_
  cbv
  repeat (refine Pz.mk ?_; cbv)
  refine CallA.by hP (implLedgerOk_ok (⟨l.total, l.free, l.held, l.sold, l.tied + n⟩ : Ledger) (ledOkB (ledMv l n 0 0 0 1)) (by rw [mv_Tie])) ?_
  cbv
  repeat (refine Pz.mk ?_; cbv)
  refine Br.split (fun k2 => ?_) (fun k2 => ?_) <;> (cbv; repeat (refine Pz.mk ?_; cbv))
  · have k2 : (!ledOkB (ledMv l n 0 0 0 1)) = true := k2
    have k2 : ledOkB (ledMv l n 0 0 0 1) = false := by simpa using k2
    have e := seats_no hx hb (by rw [seatsB, k0, k1, k2]; rfl)
    obtain rfl : x = l := e.1
    obtain rfl : b = false := e.2
    repeat' first | exact trivial | refine ⟨rfl, ?_⟩ | fail
  have k2 : (!ledOkB (ledMv l n 0 0 0 1)) = false := k2
  have k2 : ledOkB (ledMv l n 0 0 0 1) = true := by simpa using k2
  have e : seatsB l n 0 0 0 1 = true := by rw [seatsB, k0, k1, k2]; rfl
  obtain rfl : x = (⟨l.total, l.free, l.held, l.sold, l.tied + n⟩ : Ledger) := hx.trans ((if_pos e).trans (mv_Tie l n))
  obtain rfl : b = true := hb.trans e
  repeat' first | exact trivial | refine ⟨rfl, ?_⟩ | fail
theorem implSeatsTie_ok (l : Ledger) (n : Int) (x : Ledger) (hx : x = seatsOf l n 0 0 0 1) (b : Bool) (hb : b = seatsB l n 0 0 0 1) : Spec Tryz.prog 120 [leA l, iA n] (Ret (.tup [(true, leS fun _ => x), (false, [.bool fun _ => b])])) := by
  refine spec_of tabOk Tryz.func120 rfl rfl (fr := true) (fun _ => by kernel_rfl) fun P hP hA => ?_
  cbv
  repeat (refine Pz.mk ?_; cbv)
  refine CallA.by hP (movedTie_ok l n x hx b hb) ?_
  cbv
  repeat (refine Pz.mk ?_; cbv)
  repeat' first | exact trivial | refine ⟨rfl, ?_⟩ | fail
theorem mv_Untie (l : Ledger) (n : Int) : ledMv l n 0 0 0 (-1) = ⟨l.total, l.free, l.held, l.sold, l.tied - n⟩ := by
  unfold ledMv; congr 1 <;> omega
theorem specSeatsUntie_ok (l : Ledger) (n : Int) (x : Ledger) (hx : x = seatsOf l n 0 0 0 (-1)) (b : Bool) (hb : b = seatsB l n 0 0 0 (-1)) : Spec Tryz.prog 178 [leA l, iA n] (Ret (.tup [(true, leS fun _ => x), (false, [.bool fun _ => b])])) := by
  refine spec_of tabOk Tryz.func178 rfl rfl (fr := true) (fun _ => by kernel_rfl) fun P hP hA => ?_
  cbv
  repeat (refine Pz.mk ?_; cbv)
  refine CallA.by hP (l8Turn_ok l n 0 0 0 (-1) ⟨by omega, by omega⟩ ⟨by omega, by omega⟩ ⟨by omega, by omega⟩ ⟨by omega, by omega⟩ x hx b hb) ?_
  cbv
  repeat (refine Pz.mk ?_; cbv)
  repeat' first | exact trivial | refine ⟨rfl, ?_⟩ | fail
theorem seatsUntie1_ok (l : Ledger) (n : Int) (hl : ledOkB l = true) (hn : 0 ≤ n ∧ n ≤ 60) : SpecM Tryz.prog 183 [.c (.ptr 0 0), .c (.pcs [.int .i64 fun _ => n] 0)] [(0, .box [.lf (.int .i64 fun _ => l.total), .lf (.int .i64 fun _ => l.free), .lf (.int .i64 fun _ => l.held), .lf (.int .i64 fun _ => l.sold), .lf (.int .i64 fun _ => l.tied)])]
    (RetM (.tup []) [(0, .box [.int .i64 fun _ => l.total, .int .i64 fun _ => l.free, .int .i64 fun _ => l.held, .int .i64 fun _ => l.sold, .int .i64 fun _ => l.tied - n])]) := by
  have hg := ledG hl
  have g1 := hg.total
  have g2 := hg.free
  have g3 := hg.held
  have g4 := hg.sold
  have g5 := hg.tied
  refine specM_of tabOk Tryz.func183 rfl rfl (fr := true) (fun _ => by kernel_rfl) rfl rfl fun P hP hA hB => ?_
  cbv
  repeat (refine Pz.mk ?_; cbv)
  repeat (refine Ar.exact (by omega) (by omega) ?_; cbv; repeat (refine Pz.mk ?_; cbv))
  repeat' first | exact trivial | refine ⟨rfl, ?_⟩ | fail
set_option maxHeartbeats 1000000 in
theorem movedUntie_ok (l : Ledger) (n : Int) (x : Ledger) (hx : x = seatsOf l n 0 0 0 (-1)) (b : Bool) (hb : b = seatsB l n 0 0 0 (-1)) :
    Spec Tryz.prog 155 [leA l, iA n, .c (.fn 183 [.pcs [.int .i64 fun _ => n] 0])] (Ret (.tup [(true, leS fun _ => x), (false, [.bool fun _ => b])])) := by
  refine spec_of tabOk Tryz.func155 rfl rfl (fr := true) (fun _ => by kernel_rfl) fun P hP hA => ?_
  cbv
  repeat (refine Pz.mk ?_; cbv)
  refine CallA.by hP (implLedgerOk_ok l (ledOkB l) rfl) ?_
  cbv
  repeat (refine Pz.mk ?_; cbv)
  refine Br.split (fun k0 => ?_) (fun k0 => ?_) <;> (cbv; repeat (refine Pz.mk ?_; cbv))
  · have k0 : (!ledOkB l) = true := k0
    have k0 : ledOkB l = false := by simpa using k0
    have e := seats_no hx hb (by rw [seatsB, k0]; rfl)
    obtain rfl : x = l := e.1
    obtain rfl : b = false := e.2
    repeat' first | exact trivial | refine ⟨rfl, ?_⟩ | fail
  have k0 : (!ledOkB l) = false := k0
  have k0 : ledOkB l = true := by simpa using k0
  refine CallA.by hP (withinB_ok n 0 60) ?_
  cbv
  repeat (refine Pz.mk ?_; cbv)
  refine Br.split (fun k1 => ?_) (fun k1 => ?_) <;> (cbv; repeat (refine Pz.mk ?_; cbv))
  · have k1 : (!isIn n 0 60) = true := k1
    have k1 : isIn n 0 60 = false := by simpa using k1
    have e := seats_no hx hb (by rw [seatsB, k0, k1]; rfl)
    obtain rfl : x = l := e.1
    obtain rfl : b = false := e.2
    repeat' first | exact trivial | refine ⟨rfl, ?_⟩ | fail
  have k1 : (!isIn n 0 60) = false := k1
  have k1 : isIn n 0 60 = true := by simpa using k1
  refine CallM.by hP (seatsUntie1_ok l n k0 (isIn_ok k1)) ?_
  cbv
  repeat (refine Pz.mk ?_; cbv)
  refine CallA.by hP (implLedgerOk_ok (⟨l.total, l.free, l.held, l.sold, l.tied - n⟩ : Ledger) (ledOkB (ledMv l n 0 0 0 (-1))) (by rw [mv_Untie])) ?_
  cbv
  repeat (refine Pz.mk ?_; cbv)
  refine Br.split (fun k2 => ?_) (fun k2 => ?_) <;> (cbv; repeat (refine Pz.mk ?_; cbv))
  · have k2 : (!ledOkB (ledMv l n 0 0 0 (-1))) = true := k2
    have k2 : ledOkB (ledMv l n 0 0 0 (-1)) = false := by simpa using k2
    have e := seats_no hx hb (by rw [seatsB, k0, k1, k2]; rfl)
    obtain rfl : x = l := e.1
    obtain rfl : b = false := e.2
    repeat' first | exact trivial | refine ⟨rfl, ?_⟩ | fail
  have k2 : (!ledOkB (ledMv l n 0 0 0 (-1))) = false := k2
  have k2 : ledOkB (ledMv l n 0 0 0 (-1)) = true := by simpa using k2
  have e : seatsB l n 0 0 0 (-1) = true := by rw [seatsB, k0, k1, k2]; rfl
  obtain rfl : x = (⟨l.total, l.free, l.held, l.sold, l.tied - n⟩ : Ledger) := hx.trans ((if_pos e).trans (mv_Untie l n))
  obtain rfl : b = true := hb.trans e
  repeat' first | exact trivial | refine ⟨rfl, ?_⟩ | fail
theorem implSeatsUntie_ok (l : Ledger) (n : Int) (x : Ledger) (hx : x = seatsOf l n 0 0 0 (-1)) (b : Bool) (hb : b = seatsB l n 0 0 0 (-1)) : Spec Tryz.prog 109 [leA l, iA n] (Ret (.tup [(true, leS fun _ => x), (false, [.bool fun _ => b])])) := by
  refine spec_of tabOk Tryz.func109 rfl rfl (fr := true) (fun _ => by kernel_rfl) fun P hP hA => ?_
  cbv
  repeat (refine Pz.mk ?_; cbv)
  refine CallA.by hP (movedUntie_ok l n x hx b hb) ?_
  cbv
  repeat (refine Pz.mk ?_; cbv)
  repeat' first | exact trivial | refine ⟨rfl, ?_⟩ | fail
end Go.Proofs.YtnenmkiabclncaaGreat

