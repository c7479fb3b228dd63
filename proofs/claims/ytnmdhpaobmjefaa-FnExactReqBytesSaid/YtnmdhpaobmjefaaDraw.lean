/-
  Regions whose order is open: what is to be shown is enough. No conditions.
-/
import Derived.Test.YtnmdhpaobmjefaaCode
import Derived.OrdersHeld
namespace Go.Proofs.Ytnmdhpaobmjefaa
open Go

section
variable {P : Program} {tab : Tab} (hT : tabB P tab = true) {Γ : Ctx} {H : Hp}
include hT

omit hT in
theorem pickI_ok {ops : Array Oper} {b : Bool} {nm0 : List Nat} {listed : Array Bool} {σ : SS} : ∀ {l : List Nat} {i : Nat}, pickI tab ops b nm0 listed σ l = some i → i ∈ l ∧ ∃ o, ops[i]? = some o ∧ isDet tab b nm0 σ o = true ∧ Region.free .any ops listed i = true
  | [], i, h => by simp [pickI] at h
  | j :: l, i, h => by
    unfold pickI at h
    split at h
    · rename_i o ho
      split at h
      · rename_i hc
        cases h
        simp only [Bool.and_eq_true] at hc
        exact ⟨List.mem_cons_self, o, ho, hc.1, hc.2⟩
      · obtain ⟨h1, h2⟩ := pickI_ok h; exact ⟨List.mem_cons_of_mem _ h1, h2⟩
    · obtain ⟨h1, h2⟩ := pickI_ok h; exact ⟨List.mem_cons_of_mem _ h1, h2⟩

omit hT in
theorem allOf_get {p : Nat → Prop} : ∀ {l : List Nat}, allOf l p → ∀ i ∈ l, p i
  | [], _, i, hi => by cases hi
  | [j], h, i, hi => by
    simp only [List.mem_singleton] at hi
    subst hi; exact h
  | j :: k :: l, h, i, hi => by
    rcases List.mem_cons.1 hi with rfl | hi
    · exact h.1
    · exact allOf_get h.2 i hi

omit hT in
/-- a slot that is decided: other values are as they were -/
theorem setE_ev {σ : SS} {d : Nat} {t : Unit → Bool} {b : Bool} (hd : σ.env.getD d (.c .undef) = .c (.lf (.bool t))) (x : Operand) :
    (σ.setE d (.c (.bl b))).ev x = σ.ev x ∨ (∃ t, σ.ev x = .c (.lf (.bool t))) ∧ ∃ b', (σ.setE d (.c (.bl b))).ev x = .c (.bl b') := by
  cases x with
  | tmp j =>
    by_cases h : d = j
    · subst h
      right
      refine ⟨⟨t, hd⟩, b, ?_⟩
      have hlt : d < σ.env.length := by
        rcases Nat.lt_or_ge d σ.env.length with h | h
        · exact h
        · rw [List.getD_eq_getElem?_getD, List.getElem?_eq_none h] at hd; cases hd
      simp [SS.ev, SS.setE, List.getD_eq_getElem?_getD, hlt]
    · left
      simp [SS.ev, SS.setE, List.getD_eq_getElem?_getD, h]
  | _ => left; rfl

omit hT in
theorem setE_callee {σ σ' : SS} {o : Oper} (h : calleeV σ o = none) : calleeV σ' o = none := by
  cases hop : o.op with
  | call c =>
    cases hc : c.callee with
    | value x => simp [calleeV, hop, hc] at h
    | _ => simp [calleeV, hop, hc]
  | _ => simp [calleeV, hop]

omit hT in
theorem setE_mem {σ σ' : SS} {o : Oper} (hev : ∀ x, σ'.ev x = σ.ev x ∨ (∃ t, σ.ev x = .c (.lf (.bool t))) ∧ ∃ b', σ'.ev x = .c (.bl b')) (h : isMem tab σ o = false) : isMem tab σ' o = false := by
  have key : ∀ x, isOwnV (σ'.ev x) = isOwnV (σ.ev x) := fun x => by
    rcases hev x with h | ⟨⟨t, h1⟩, b', h2⟩
    · rw [h]
    · rw [h1, h2]; rfl
  have key2 : ∀ x, isOelV (σ'.ev x) = isOelV (σ.ev x) := fun x => by
    rcases hev x with h | ⟨⟨t, h1⟩, b', h2⟩
    · rw [h]
    · rw [h1, h2]; rfl
  unfold isMem at h ⊢
  split at h <;> simp_all

omit hT in
theorem setE_rd {σ σ' : SS} {o : Oper} (hev : ∀ x, σ'.ev x = σ.ev x ∨ (∃ t, σ.ev x = .c (.lf (.bool t))) ∧ ∃ b', σ'.ev x = .c (.bl b')) : rdN o σ' = rdN o σ := by
  unfold rdN
  split
  · rename_i T x _
    rcases hev x with h | ⟨⟨t, h1⟩, b', h2⟩
    · rw [h]
    · rw [h1, h2]; rfl
  · rfl

/-- an operation that may be taken alone yields its value whenever it comes up -/
theorem vcG_det {S : World → Prop} {ρ : Rho} {ops : Array Oper} {o : Oper} {b : Bool} {nm0 : List Nat} {σ : SS} {a : Act} {w : World} {K : SS → Prop} (h : vcG P tab ops.toList o σ K) (hd : isDet tab b nm0 σ o = true) (r : RelH Γ H ρ σ a w)
    (hS : ∀ w', S w' → ∀ rd : List Nat, rdOk b nm0 rd = true → Keeps H ρ rd w w') :
    ∃ v σ', YieldsIf P ops S o v a ∧ K σ' ∧ RelH Γ H ρ σ' (a.put o.dst v) w := by
  simp only [isDet, Bool.and_eq_true, Bool.not_eq_true', Option.isNone_iff_eq_none] at hd
  obtain ⟨⟨hc, hm⟩, hrd⟩ := hd
  have go : ∀ {σ1 : SS}, vcOp P tab o σ1 K → RelH Γ H ρ σ1 a w → calleeV σ1 o = none → isMem tab σ1 o = false → rdOk b nm0 (rdN o σ1) = true →
      ∃ v σ', (∀ w', S w' → (execOp a.eval o).run P w' = .ok (.value v) w') ∧ K σ' ∧ RelH Γ H ρ σ' (a.put o.dst v) w := fun {σ1} h r hc hm hrd => by
    unfold vcOp at h
    simp only [hc, hm, Bool.false_eq_true, if_false] at h
    obtain ⟨v, y, hk, hv, hrun⟩ := vcDet_ok hT r h
    exact ⟨y, _, fun w' hw' => hrun w' (hS w' hw' _ hrd), hk, r.put hv _⟩
  unfold vcG at h
  split at h
  · rename_i hg
    obtain ⟨v, σ', h1, h2, h3⟩ := go h r hc hm hrd
    exact ⟨v, σ', .inl ⟨by simp [Region.wanted, hg], h1⟩, h2, h3⟩
  · rename_i j want hg
    split at h
    · rename_i d hdd
      obtain ⟨y1, y2⟩ := yielded_env (⟨H, ρ, r⟩ : Rel Γ σ a w) hdd
      split at h
      · rename_i c hb
        split at h
        · rename_i hbw
          obtain ⟨v, σ', h1, h2, h3⟩ := go h r hc hm hrd
          exact ⟨v, σ', .inl ⟨by simp [Region.wanted, hg, y1 c hb, hbw], h1⟩, h2, h3⟩
        · rename_i hbw
          exact ⟨Go.undef, _, .inr ⟨by simp [Region.wanted, hg, y1 c hb, hbw], rfl⟩, h, r.skip _⟩
      · rename_i hb
        exact ⟨Go.undef, _, .inr ⟨by simp [Region.wanted, hg, y2 hb], rfl⟩, h, r.skip _⟩
      · rename_i t hb
        obtain ⟨h⟩ := h
        have r' := r.setE hb
        have hlt : d < σ.env.length := by
          rcases Nat.lt_or_ge d σ.env.length with h | h
          · exact h
          · rw [List.getD_eq_getElem?_getD, List.getElem?_eq_none h] at hb; cases hb
        have y3 := (yielded_env (⟨H, ρ, r'⟩ : Rel Γ _ a w) hdd).1 (t ()) (by simp [SS.setE, List.getD_eq_getElem?_getD, hlt])
        have hev := setE_ev (b := t ()) hb
        split at h
        · rename_i hbw
          obtain ⟨v, σ', h1, h2, h3⟩ := go h r' (setE_callee hc) (setE_mem hev hm) (by rw [setE_rd hev]; exact hrd)
          exact ⟨v, σ', .inl ⟨by simp [Region.wanted, hg, y3, hbw], h1⟩, h2, h3⟩
        · rename_i hbw
          exact ⟨Go.undef, _, .inr ⟨by simp [Region.wanted, hg, y3, hbw], rfl⟩, h, r'.skip _⟩
      · cases h
    · cases h

theorem vcDraw_ok {ops : Array Oper} {b : Bool} {nm0 : List Nat} {Q : Exit → Act → World → Prop} {w0 : World} {ρ0 : Rho} {K : SS → Prop} (hsel : Region.noSelect ops = true) (hbw : b = true → ∀ (i : Nat) o, ops[i]? = some o → isWr tab o = false)
    (hw0 : b = false → Γ.hd = []) (hhd : b = true → ∀ k ∈ nm0, (k, ρ0 k) ∈ Γ.hd) (hlt : ∀ k ∈ nm0, ∀ x, 0 < (ρ0 k).2 x → x < w0.heap.size) (hpan : ∀ c a w, ¬ Q (.panic c) a w) (hQ : ∀ σ' a' w', K σ' → (∃ ρ, RelH Γ H ρ σ' a' w') → Q .normal a' w') :
    ∀ (n : Nat) {listed : Array Bool} {σ : SS} {a : Act} {w : World} {ρ : Rho}, vcDraw P tab ops b nm0 n listed σ K → RelH Γ H ρ σ a w → (b = true → KeepW w0 w) →
      wpAnyH P .any ops Q (fun w' => (∀ x o, H x = some o → w'.heap[x]? = some o) ∧ (b = true → KeepW w0 w')) n listed a w
  | 0, listed, σ, a, w, ρ, h, r, hk => by
    unfold vcDraw at h
    split at h
    · rename_i he
      exact ⟨he, hQ _ _ _ h ⟨ρ, r⟩⟩
    · cases h
  | n + 1, listed, σ, a, w, ρ, h, r, hk => by
    unfold vcDraw at h
    split at h
    · rename_i he
      exact wpAnyH_done he (hQ _ _ _ h ⟨ρ, r⟩) _
    · rename_i r0 rs he
      split at h
      · rename_i i hp
        obtain ⟨hi, o, ho, hd, hf⟩ := pickI_ok hp
        simp only [ho] at h
        obtain ⟨v, σ', hy, hK, r'⟩ := vcG_det hT h hd r (S := fun w' => (∀ x o, H x = some o → w'.heap[x]? = some o) ∧ (b = true → KeepW w0 w')) fun w' hw' rd hrd => by
          refine ⟨hw'.1, fun k hk' x hx => ?_⟩
          cases b with
          | false => simp only [rdOk, List.isEmpty_iff] at hrd; subst hrd; cases hk'
          | true =>
            have h1 : k ∈ nm0 := by
              simp only [rdOk, List.all_eq_true] at hrd
              simpa using hrd k hk'
            have h2 := (r.hd _ (hhd rfl k h1)).2.2 x
            have h3 := hlt k h1 x (by simp only at h2; omega)
            have h4 := hk rfl x _ (Array.getElem?_eq_getElem h3)
            have h5 := hw'.2 rfl x _ (Array.getElem?_eq_getElem h3)
            rw [h4, h5]
        exact wpAnyH_take ho hsel hf (by rw [he]; simpa using hi) (fun c a w hq => (hpan _ _ _ hq).elim) hy ⟨r.b.hh, hk⟩ (vcDraw_ok hsel hbw hw0 hhd hlt hpan hQ n hK r' hk)
      · refine wpAnyH_all he (by simp) fun i hi => ?_
        have h := allOf_get h i hi
        split at h
        · rename_i o ho
          refine vcG_ok hT (fun hwr => by cases b with | false => exact hw0 rfl | true => rw [hbw rfl i _ ho] at hwr; cases hwr) ho h r fun σ' a' w' hK hr => ?_
          obtain ⟨⟨ρ', r'⟩, hkeep⟩ := hr
          have hk' : b = true → KeepW w0 w' := fun hb x o hx => hkeep (hbw hb i _ ho) x o (hk hb x o hx)
          exact ⟨⟨r'.b.hh, hk'⟩, vcDraw_ok hsel hbw hw0 hhd hlt hpan hQ n hK r' hk'⟩
        · cases h

/-- a region whose order is open -/
theorem vcDraw_region {id : Nat} {ops : Array Oper} {σ : SS} {a : Act} {w : World} {K : Exit → SS → Prop} {Q : Exit → Act → World → Prop} (hd0 : Γ.hd = [])
    (h : if Region.noSelect ops = true then vcDraw P tab ops (ops.toList.all fun o => !isWr tab o) (σ.blk.map (·.1)) ops.size (Array.replicate ops.size false) σ fun σ' => K .normal σ' else False)
    (r : Rel Γ σ a w) (hQ : ∀ σ' a' w', K .normal σ' → Rel Γ σ' a' w' → Q .normal a' w') : (Code.region id ops true).wp P Q a w := by
  split at h
  · rename_i hsel
    obtain ⟨H, ρ, r⟩ := r
    let Γ' : Ctx := { Γ with hd := if (ops.toList.all fun o => !isWr tab o) = true then σ.blk.map fun p => (p.1, ρ p.1) else [] }
    have r' : RelH Γ' H ρ σ a { w with drawn := w.drawn + 1 } := by
      refine ⟨r.b, r.e, r.d, r.n.trans ⟨Nat.le_refl _, rfl, rfl, fun _ => rfl⟩, fun p hp => ?_, r.hm⟩
      simp only [Γ'] at hp
      split at hp
      · obtain ⟨q, hq, rfl⟩ := List.mem_map.1 hp
        exact ⟨List.mem_map.2 ⟨q, hq, rfl⟩, rfl, fun x => Nat.le_refl _⟩
      · cases hp
    refine Code.wp_mono (Q := fun e a w => match e with | .normal => Q .normal a w | _ => False) (fun e a w hq => by cases e <;> first | exact hq | exact hq.elim) ?_
    refine wp_region_held (tabB_mix hT) (vcDraw_ok (Γ := Γ') (H := H) (ρ0 := ρ) (w0 := { w with drawn := w.drawn + 1 }) hT hsel (fun hb i o ho => ?_) (fun hb => by simp only [Γ', hb]; rfl) (fun hb k hk => ?_) (fun k hk x hx => ?_) (fun c a w hq => hq) (fun σ' a' w' hK hr => ?_) _ h r' fun _ => KeepW.refl _)
    · have := List.all_eq_true.1 hb o (List.mem_of_getElem? (l := ops.toList) (i := i) (by simpa using ho))
      simpa using this
    · obtain ⟨q, hq, rfl⟩ := List.mem_map.1 hk
      simp only [Γ', hb, if_true]
      exact List.mem_map.2 ⟨q, hq, rfl⟩
    · obtain ⟨q, hq, rfl⟩ := List.mem_map.1 hk
      exact r'.lt (Nat.lt_of_lt_of_le hx (tot_le hq x))
    · obtain ⟨ρ', r2⟩ := hr
      exact hQ _ _ _ hK ⟨H, ρ', r2.b, r2.e, r2.d, r2.n, by rw [hd0]; (intro p hp; cases hp), r2.hm⟩
  · cases h

end

end Go.Proofs.Ytnmdhpaobmjefaa
