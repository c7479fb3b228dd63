/- Parts of a proof. No conditions. -/

import Derived.Test.YtlochjpjlhkjaaaGWe
import Derived.Test.YtlochjpjlhkjaaaGUd
import Derived.Test.YtlochjpjlhkjaaaG09
set_option linter.unusedSimpArgs false
set_option linter.unusedVariables false
namespace Go.Proofs.Ytlochjpjlhkjaaa
open Go
set_option maxRecDepth 100000
theorem LoopE.by1 {pk : List Nat} {σ : SS} {R : SS → (SS → Prop) → Prop} {A : Type} (sl : A → List (Nat × V)) (bl : A → List (Nat × Blk)) (φ : A → Prop) (m : A → Unit → Nat) (a : A)
    (hn : normToH pk σ { env := mkEnv (sl a) 0 σ.env.length, blk := bl a }) (h0 : φ a)
    (hr : ∀ a, φ a → R { env := mkEnv (sl a) 0 σ.env.length, blk := bl a } fun σ' => NextE pk A (fun x => { env := mkEnv (sl x) 0 σ.env.length, blk := bl x }) (fun x => φ x) (fun x => m x) (m a) σ') : LoopE pk σ R :=
  LoopE.by (X := A) (fun x => sl x) (fun x => bl x) (fun x => φ x) (fun x => m x) a h0 hn fun x hx => hr x hx
def ptyS (x : Unit → Party) : List Sh := [.int .i64 fun _ => (x ()).id, .int .i64 fun _ => (x ()).cab, .int .i64 fun _ => (x ()).frm, .int .i64 fun _ => (x ()).siz, .int .i64 fun _ => (x ()).tier, .int .i64 fun _ => (x ()).since, .int .i64 fun _ => (x ()).turn, .int .i64 fun _ => (x ()).st, .int .i64 fun _ => (x ()).untl, .int .i64 fun _ => (x ()).asked]
theorem big_ok (code : List UInt8) : Spec Try.prog 4 [lA .byte code] (Ret (bR fun _ => decide ((code.length : Int) > 1048576))) := by
  refine spec_of tabOk Try.func4 rfl rfl (fr := true) (fun _ => by kernel_rfl) fun P hP hA => ?_
  cbv
  repeat' first | exact trivial | refine ⟨rfl, ?_⟩ | fail
set_option maxHeartbeats 4000000 in
theorem drawPartyPut_ok (code : List UInt8) (hc : code.length ≤ bigN) : SpecM Try.prog 5 [.c (.own 0)] [(0, .view .byte fun _ => code)] (RetX' (List Party × Party) (fun x => x.1.length ≤ 20) (fun x => .tup [(false, [.own .pty fun _ => x.1]), (true, ptyS fun _ => x.2)]) (fun _ => [(0, .vw)])) := by
  refine specX_of (pk := [0]) tabOk Try.func5 rfl rfl (fr := true) (fun _ => by kernel_rfl) (fun _ => rfl) rfl rfl fun P hP hA hB => ?_
  cbv
  repeat (refine Pz.mk ?_; cbv)
  refine CallM.byK hP (l1New_ok code hc) ?_
  cbv
  repeat (refine Pz.mk ?_; cbv)
  refine CallM.ex hP (l11Draw_ok code 0 (newH code (min code.length 4000)) ⟨Int.le_refl 0, Int.natCast_nonneg _⟩ hc) fun ⟨g, i1, h1⟩ ⟨hg, c1⟩ => ?_
  cbv
  repeat (refine Pz.mk ?_; cbv)
  have hg : hoDraw g := hg
  refine CallM.ex hP (l5Right_ok code i1 h1 c1 hc) fun ⟨r, i2, h2⟩ ⟨hr, c2⟩ => ?_
  cbv
  repeat (refine Pz.mk ?_; cbv)
  refine CallM.ex hP (l6Right_ok code i2 h2 c2 hc r hr 9 (by omega)) fun ⟨p, i3, h3⟩ ⟨_, c3⟩ => ?_
  cbv
  repeat (refine Pz.mk ?_; cbv)
  refine ⟨(g.parties, p), hg.2.1, ?_⟩
  cbv
  repeat (refine Pz.mk ?_; cbv)
  repeat' first | exact trivial | refine ⟨rfl, ?_⟩ | fail
def eqPty (a b : Party) : Bool := a.id == b.id && (a.cab == b.cab && (a.frm == b.frm && (a.siz == b.siz && (a.tier == b.tier && (a.since == b.since && (a.turn == b.turn && (a.st == b.st && (a.untl == b.untl && (a.asked == b.asked && true)))))))))
theorem eqPty_refl (a : Party) : eqPty a a = true := by simp [eqPty]
set_option maxHeartbeats 4000000 in
theorem lawPartiesM_ok (code : List UInt8) : SpecM Try.prog 3 [.c (.own 0)] [(0, .view .byte fun _ => code)] (RetM (bR fun _ => true) []) := by
  refine specM_of tabOk Try.func3 rfl rfl (fr := true) (fun _ => by kernel_rfl) rfl rfl fun P hP hA hB => ?_
  cbv
  repeat (refine Pz.mk ?_; cbv)
  refine CallA.by hP (big_ok code) ?_
  cbv
  repeat (refine Pz.mk ?_; cbv)
  refine Br.dec (fun h0 => ?_) (fun h0 => ?_) <;> (cbv; repeat (refine Pz.mk ?_; cbv))
  · repeat' first | exact trivial | refine ⟨rfl, ?_⟩ | fail
  have hc : code.length ≤ bigN := by
    have h0 : ¬ (code.length : Int) > 1048576 := h0
    show code.length ≤ 1048576
    omega
  refine CallM.ex hP (drawPartyPut_ok code hc) fun ⟨l, p⟩ hl => ?_
  cbv
  repeat (refine Pz.mk ?_; cbv)
  have hl20 : l.length ≤ 20 := hl
  have hl : l.length ≤ bigN := Nat.le_trans hl20 (by decide)
  obtain ⟨n, hn, e1, e2, e3⟩ := put_found l p
  have ml := partyPut_len l p
  obtain ⟨m, hm⟩ : ∃ m, m = partyPut l p := ⟨_, rfl⟩
  simp only [← hm] at e1 e2 e3 ml hn
  refine CallA.by hP (implPartyPut_ok l p hl m hm) ?_
  cbv
  repeat (refine Pz.mk ?_; cbv)
  have hml : m.length ≤ bigN := Nat.le_trans ml (Nat.le_trans (Nat.succ_le_succ hl20) (by decide))
  obtain ⟨c, hcc⟩ : ∃ c, c = partyCut l p.id := ⟨_, rfl⟩
  refine CallA.by hP (implPartyCut_ok m p.id hml c (hcc.trans e3.symm)) ?_
  cbv
  repeat (refine Pz.mk ?_; cbv)
  refine CallA.by hP (implPartyAt_ok ⟨⟨[], 0, 0, 0, 0, 0, 0, 0, 0⟩, 0, 0, m, [], [], []⟩ p.id (n : Int) e1.symm) ?_
  cbv
  repeat (refine Pz.mk ?_; cbv)
  have k0 : ¬ (n : Int) < 0 := by omega
  have k1 : ¬ (m.length : Int) ≤ (n : Int) := by omega
  have k2 : 0 ≤ (n : Int) ∧ (n : Int) < (m.length : Int) := by omega
  repeat' first
    | exact trivial
    | (refine Pz.mk ?_; cbv)
    | (refine Br.no (decide_eq_false k0) ?_; cbv)
    | (refine Br.no (decide_eq_false k1) ?_; cbv)
    | (refine Ob.mk k2 ?_; cbv)
    | fail
  refine Br.no ?_ ?_
  · have ge : getE .pty (fun _ => m) (fun _ => ((n : Nat) : Int).toNat) () = p := by
      show m.getD ((n : Nat) : Int).toNat _ = p
      rw [Int.toNat_natCast, List.getD_eq_getElem?_getD, List.getElem?_eq_getElem hn]
      exact e2
    show (!eqPty (getE .pty (fun _ => m) (fun _ => ((n : Nat) : Int).toNat) ()) p) = false
    rw [ge, eqPty_refl]; rfl
  cbv
  repeat (refine Pz.mk ?_; cbv)
  refine CallA.by hP (specPartyCut_ok l p.id hl c hcc) ?_
  cbv
  repeat (refine Pz.mk ?_; cbv)
  refine Br.split (fun h1 => ?_) (fun h1 => ?_) <;> (cbv; repeat (refine Pz.mk ?_; cbv))
  · have h1 : ((c.length : Int) != (c.length : Int)) = true := h1
    simp at h1
  have hcl : c.length ≤ 20 := by rw [hcc, partyCut, cutAt]; split; exact hl20; rw [List.length_append, List.length_take, List.length_drop]; omega
  apply LoopE.by1 (A := Int) (fun j => [(6, oN 1), (8, oN 2), (9, iT fun _ => j)]) (fun j => [(1, ownB' .pty fun _ => c), (2, ownB' .pty fun _ => c)]) (fun j => 0 ≤ j ∧ j.toNat ≤ c.length) (fun j _ => c.length - j.toNat)
  · cbv
    repeat' first | exact trivial | refine ⟨rfl, ?_⟩ | fail
  · exact ⟨by omega, Nat.zero_le _⟩
  rintro j ⟨q1, q2⟩
  cbv
  refine Br.dec (fun h2 => ?_) (fun h2 => ?_) <;> (cbv; repeat (refine Pz.mk ?_; cbv))
  · have h2' : j < (c.length : Int) := h2
    have h3 : j.toNat + 1 ≤ c.length ∧ (j + 1).toNat = j.toNat + 1 := by omega
    have h4 : c.length - (j + 1).toNat < c.length - j.toNat := by omega
    repeat' first
      | exact trivial
      | (refine Pz.mk ?_; cbv)
      | (refine Ob.mk ⟨q1, h2⟩ ?_; cbv)
      | (refine Br.no (by show (!eqPty _ _) = false; rw [eqPty_refl]; rfl) ?_; cbv)
      | (refine Ar.exact (by omega) (by omega) ?_; cbv)
      | fail
    any_goals
      apply NextE.mk1
      · cbv
        (try dsimp only)
        repeat' first | exact trivial | refine ⟨rfl, ?_⟩ | fail
      · (try dsimp only)
        exact ⟨by omega, by rw [h3.2]; exact h3.1⟩
      · (try dsimp only)
        exact h4
  · repeat' first | exact trivial | refine ⟨rfl, ?_⟩ | fail
theorem lawParties_ok (code : List UInt8) : Spec Try.prog 3 [lA .byte code] (Ret (bR fun _ => true)) := Spec.ofView (lawPartiesM_ok code)
end Go.Proofs.Ytlochjpjlhkjaaa

