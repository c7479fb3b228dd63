/- Parts of a proof. No conditions. -/

import Derived.Test.YtehpbaiclfilaaaGreatG08
set_option linter.unusedSimpArgs false
set_option linter.unusedVariables false
namespace Go.Proofs.YtehpbaiclfilaaaGreat
open Go
set_option maxRecDepth 100000
def hM {α : Type} (p : α → Bool) (l : List α) : Int := match l.findIdx? p with | some i => (i : Int) | none => -1
section
variable {α : Type} {p : α → Bool} {l : List α}
theorem oM {i : Nat} (hi : i < l.length) (h : p l[i] = true) (hn : ∀ (j : Nat) x, j < i → l[j]? = some x → p x = false) : hM p l = (i : Int) := by
 have : l.findIdx? p = some i := by
  rw [List.findIdx?_eq_some_iff_getElem];refine ⟨hi, h, fun j hj => ?_⟩;rw [hn j _ hj (List.getElem?_eq_getElem (by omega))]; simp
 simp [hM, this]
theorem oO (hn : ∀ (j : Nat) x, l[j]? = some x → p x = false) : hM p l = -1 := by
 have : l.findIdx? p = none := by
  rw [List.findIdx?_eq_none_iff];intro x hx;obtain ⟨j, hj⟩ := List.mem_iff_getElem?.1 hx;exact hn j x hj
 simp [hM, this]
theorem hO (p : α → Bool) (l : List α) : (hM p l = -1 ∧ ∀ x ∈ l, p x = false) ∨ ∃ i, ∃ h : i < l.length, hM p l = (i : Int) ∧ p l[i] = true ∧ ∀ (j : Nat) x, j < i → l[j]? = some x → p x = false := by
 cases h : l.findIdx? p with
 | none => exact .inl ⟨by simp [hM, h], List.findIdx?_eq_none_iff.1 h⟩
 | some i =>
   obtain ⟨h1, h2, h3⟩ := List.findIdx?_eq_some_iff_getElem.1 h;refine .inr ⟨i, h1, by simp [hM, h], h2, fun j x hj hx => ?_⟩;have aL := bq hx;rw [List.getElem?_eq_getElem aL] at hx;cases hx;have := h3 j hj;simpa using this
theorem il {q : α → Prop} {i : Nat} (hi : i < l.length) (hn : ∀ (j : Nat) x, j < i → l[j]? = some x → q x) (h : q l[i]) : ∀ (j : Nat) x, j < i + 1 → l[j]? = some x → q x := by
 intro j x hj hx;rcases Nat.lt_or_ge j i with h1 | h1
 · exact hn j x h1 hx
 · obtain rfl : j = i := by omega
   rw [List.getElem?_eq_getElem hi] at hx;cases hx; exact h
theorem np {q : α → Prop} {i : Nat} (hi : l.length ≤ i) (hn : ∀ (j : Nat) x, j < i → l[j]? = some x → q x) : ∀ (j : Nat) x, l[j]? = some x → q x :=
 fun j x hx => hn j x (Nat.lt_of_lt_of_le (bq hx) hi) hx
end
theorem DI {α : Type} (p : α → Bool) (l : List α) : -1 ≤ hM p l ∧ hM p l < l.length := by
 rcases hO p l with ⟨h, _⟩ | ⟨i, hi, h, _⟩ <;> rw [h] <;> omega
def dm (l : List Entry) (id : Int) : Int := hM (fun e => e.bg == id) l
def aP (l : List au) (id : Int) : Int := hM (fun e => e.id == id) l
theorem DJ (a : List Entry) (id : Int) (x : Int) (hx : x = dm a id) : Spec Tryz.prog 93 [lA .aD a, iA id] (aE (iR fun _ => x)) := by
 refine aH ay Tryz.func93 rfl rfl (fr := true) (fun _ => by kernel_rfl) fun P hP hA => ?_;obtain ⟨⟨ha, _⟩, _⟩ := hA;have ha : a.length ≤ 9223372036854775807 := ha;cbv;refine aT.by (X := Nat) (fun i => [(0, lA .aD a), (1, iA id), (5, nT fun _ => i)]) (fun _ => []) (fun i => i ≤ a.length ∧ ∀ (j : Nat) y, j < i → a[j]? = some y → (y.bg == id) = false) (fun i _ => a.length - i) 0 ⟨Nat.zero_le _, fun j y hj => by omega⟩ ?_ ?_
 · cbv
   repeat' first | exact trivial | refine ⟨rfl, ?_⟩ | fail
 · intro i ⟨hi, hn⟩;cbv;refine Br.dec (fun h2 => ?_) (fun h2 => ?_) <;> cbv
   · have h2 : i < a.length := by simpa using h2
     refine ⟨a[i], by simp, get_cast a h2, ?_⟩;cbv;refine Br.split (fun h3 => ?_) (fun h3 => ?_) <;> cbv
     · refine ⟨?_, trivial⟩;exact (hx.trans (oM h2 h3 hn)).symm
     · refine Ar.exact (by (try simp only [nc] at *); omega) (by (try simp only [nc] at *); omega) ?_;cbv;refine aJ.by (i + 1) ?_ ?_ ?_
       · show a.length - (i + 1) < a.length - i;omega
       · exact ⟨h2, il h2 hn h3⟩
       · cbv
         repeat' first | exact trivial | refine ⟨rfl, ?_⟩ | fail
   · have h2 : a.length ≤ i := by simp at h2; omega
     refine ⟨?_, trivial⟩;exact (hx.trans (oO (np h2 hn))).symm
theorem DK (a : List au) (id : Int) (x : Int) (hx : x = aP a id) : Spec Tryz.prog 114 [lA .az a, iA id] (aE (iR fun _ => x)) := by
 refine aH ay Tryz.func114 rfl rfl (fr := true) (fun _ => by kernel_rfl) fun P hP hA => ?_;obtain ⟨⟨ha, _⟩, _⟩ := hA;have ha : a.length ≤ 9223372036854775807 := ha;cbv;refine aT.by (X := Nat) (fun i => [(0, lA .az a), (1, iA id), (5, nT fun _ => i)]) (fun _ => []) (fun i => i ≤ a.length ∧ ∀ (j : Nat) y, j < i → a[j]? = some y → (y.id == id) = false) (fun i _ => a.length - i) 0 ⟨Nat.zero_le _, fun j y hj => by omega⟩ ?_ ?_
 · cbv
   repeat' first | exact trivial | refine ⟨rfl, ?_⟩ | fail
 · intro i ⟨hi, hn⟩;cbv;refine Br.dec (fun h2 => ?_) (fun h2 => ?_) <;> cbv
   · have h2 : i < a.length := by simpa using h2
     refine ⟨a[i], by simp, get_cast a h2, ?_⟩;cbv;refine Br.split (fun h3 => ?_) (fun h3 => ?_) <;> cbv
     · refine ⟨?_, trivial⟩;exact (hx.trans (oM h2 h3 hn)).symm
     · refine Ar.exact (by (try simp only [nc] at *); omega) (by (try simp only [nc] at *); omega) ?_;cbv;refine aJ.by (i + 1) ?_ ?_ ?_
       · show a.length - (i + 1) < a.length - i;omega
       · exact ⟨h2, il h2 hn h3⟩
       · cbv
         repeat' first | exact trivial | refine ⟨rfl, ?_⟩ | fail
   · have h2 : a.length ≤ i := by simp at h2; omega
     refine ⟨?_, trivial⟩;exact (hx.trans (oO (np h2 hn))).symm
theorem PN (e : Entry) (id : Int) : Spec Tryz.prog 144 [eA .aD e, .c (.bZ [.int .i64 fun _ => id] 0)] (aE (bR fun _ => e.bg == id)) := by
 refine aH ay Tryz.func144 rfl rfl (fr := true) (fun _ => by kernel_rfl) fun P hP hA => ?_;cbv
 repeat' first | exact trivial | refine ⟨rfl, ?_⟩ | fail
theorem PO (e : au) (id : Int) : Spec Tryz.prog 173 [eA .az e, .c (.bZ [.int .i64 fun _ => id] 0)] (aE (bR fun _ => e.id == id)) := by
 refine aH ay Tryz.func173 rfl rfl (fr := true) (fun _ => by kernel_rfl) fun P hP hA => ?_;cbv
 repeat' first | exact trivial | refine ⟨rfl, ?_⟩ | fail
theorem PQ (a : List Entry) (id : Int) (x : Int) (hx : x = dm a id) : Spec Tryz.prog 143 [lA .aD a, .c (.fn 144 [.bZ [.int .i64 fun _ => id] 0])] (aE (iR fun _ => x)) := by
 refine aH ay Tryz.func143 rfl rfl (fr := true) (fun _ => by kernel_rfl) fun P hP hA => ?_;obtain ⟨⟨ha, _⟩, _⟩ := hA;have ha : a.length ≤ 9223372036854775807 := ha;cbv;refine aT.by (X := Nat) (fun i => [(0, lA .aD a), (1, .c (.fn 144 [.bZ [.int .i64 fun _ => id] 0])), (7, nT fun _ => a.length), (8, nT fun _ => i)]) (fun _ => []) (fun i => i ≤ a.length ∧ ∀ (j : Nat) y, j < i → a[j]? = some y → (y.bg == id) = false) (fun i _ => a.length - i) 0 ⟨Nat.zero_le _, fun j y hj => by omega⟩ ?_ ?_
 · cbv
   repeat' first | exact trivial | refine ⟨rfl, ?_⟩ | fail
 · intro i ⟨hi, hn⟩;cbv;refine Br.dec (fun h2 => ?_) (fun h2 => ?_) <;> cbv
   · have h2 : i < a.length := by simpa using h2
     refine ⟨a[i], by simp, get_cast a h2, ?_⟩;cbv;refine ag.by hP (PN a[i] id) ?_;cbv;refine Br.split (fun h3 => ?_) (fun h3 => ?_) <;> cbv
     · refine ⟨?_, trivial⟩;exact (hx.trans (oM h2 h3 hn)).symm
     · refine Ar.exact (by (try simp only [nc] at *); omega) (by (try simp only [nc] at *); omega) ?_;cbv;refine aJ.by (i + 1) ?_ ?_ ?_
       · show a.length - (i + 1) < a.length - i;omega
       · exact ⟨h2, il h2 hn h3⟩
       · cbv
         repeat' first | exact trivial | refine ⟨rfl, ?_⟩ | fail
   · have h2 : a.length ≤ i := by simp at h2; omega
     refine ⟨?_, trivial⟩;exact (hx.trans (oO (np h2 hn))).symm
theorem PR (a : List au) (id : Int) (x : Int) (hx : x = aP a id) : Spec Tryz.prog 147 [lA .az a, .c (.fn 173 [.bZ [.int .i64 fun _ => id] 0])] (aE (iR fun _ => x)) := by
 refine aH ay Tryz.func147 rfl rfl (fr := true) (fun _ => by kernel_rfl) fun P hP hA => ?_;obtain ⟨⟨ha, _⟩, _⟩ := hA;have ha : a.length ≤ 9223372036854775807 := ha;cbv;refine aT.by (X := Nat) (fun i => [(0, lA .az a), (1, .c (.fn 173 [.bZ [.int .i64 fun _ => id] 0])), (7, nT fun _ => a.length), (8, nT fun _ => i)]) (fun _ => []) (fun i => i ≤ a.length ∧ ∀ (j : Nat) y, j < i → a[j]? = some y → (y.id == id) = false) (fun i _ => a.length - i) 0 ⟨Nat.zero_le _, fun j y hj => by omega⟩ ?_ ?_
 · cbv
   repeat' first | exact trivial | refine ⟨rfl, ?_⟩ | fail
 · intro i ⟨hi, hn⟩;cbv;refine Br.dec (fun h2 => ?_) (fun h2 => ?_) <;> cbv
   · have h2 : i < a.length := by simpa using h2
     refine ⟨a[i], by simp, get_cast a h2, ?_⟩;cbv;refine ag.by hP (PO a[i] id) ?_;cbv;refine Br.split (fun h3 => ?_) (fun h3 => ?_) <;> cbv
     · refine ⟨?_, trivial⟩;exact (hx.trans (oM h2 h3 hn)).symm
     · refine Ar.exact (by (try simp only [nc] at *); omega) (by (try simp only [nc] at *); omega) ?_;cbv;refine aJ.by (i + 1) ?_ ?_ ?_
       · show a.length - (i + 1) < a.length - i;omega
       · exact ⟨h2, il h2 hn h3⟩
       · cbv
         repeat' first | exact trivial | refine ⟨rfl, ?_⟩ | fail
   · have h2 : a.length ≤ i := by simp at h2; omega
     refine ⟨?_, trivial⟩;exact (hx.trans (oO (np h2 hn))).symm
theorem zS (a : List Entry) (id : Int) (x : Int) (hx : x = dm a id) : Spec Tryz.prog 92 [lA .aD a, iA id] (aE (iR fun _ => x)) := by
 refine aH ay Tryz.func92 rfl rfl (fr := true) (fun _ => by kernel_rfl) fun P hP hA => ?_;cbv;refine ag.by hP (PQ a id x hx) ?_;cbv
 repeat' first | exact trivial | refine ⟨rfl, ?_⟩ | fail
theorem DL (a : List au) (id : Int) (x : Int) (hx : x = aP a id) : Spec Tryz.prog 121 [lA .az a, iA id] (aE (iR fun _ => x)) := by
 refine aH ay Tryz.func121 rfl rfl (fr := true) (fun _ => by kernel_rfl) fun P hP hA => ?_;cbv;refine ag.by hP (PR a id x hx) ?_;cbv
 repeat' first | exact trivial | refine ⟨rfl, ?_⟩ | fail
theorem jC (h : ai) (id : Int) (x : Int) (hx : x = aP h.ae id) : Spec Tryz.prog 53 [dk h, iA id] (aE (iR fun _ => x)) := by
 refine aH ay Tryz.func53 rfl rfl (fr := true) (fun _ => by kernel_rfl) fun P hP hA => ?_;cbv;refine ag.by hP (DL h.ae id x hx) ?_;cbv
 repeat' first | exact trivial | refine ⟨rfl, ?_⟩ | fail
theorem oP (h : ai) (id : Int) (x : Int) (hx : x = aP h.ae id) : Spec Tryz.prog 47 [dk h, iA id] (aE (iR fun _ => x)) := by
 refine aH ay Tryz.func47 rfl rfl (fr := true) (fun _ => by kernel_rfl) fun P hP hA => ?_;cbv;refine ag.by hP (DK h.ae id x hx) ?_;cbv
 repeat' first | exact trivial | refine ⟨rfl, ?_⟩ | fail
def fY (e : Entry) : Bool := aj e.lvl 0 4 && (aj e.aw 1 1000000 && (aj e.bg 1 999 && aj e.siz 1 6))
structure gE (l : List Entry) : Prop where
 ok : ∀ e ∈ l, fY e = true
 lt : l.Pairwise fun a b => aY a b = true
 ne : l.Pairwise fun a b => a.bg ≠ b.bg
instance (l : List Entry) : Decidable (gE l) :=
 decidable_of_iff ((∀ e ∈ l, fY e = true) ∧ (l.Pairwise fun a b => aY a b = true) ∧ l.Pairwise fun a b => a.bg ≠ b.bg) ⟨fun ⟨a, b, c⟩ => ⟨a, b, c⟩, fun ⟨a, b, c⟩ => ⟨a, b, c⟩⟩
def dJ (l : List Entry) : Bool := decide (l.length ≤ 10) && decide (gE l)
theorem gE.nil : gE [] := ⟨fun e he => (by cases he), List.Pairwise.nil, List.Pairwise.nil⟩
theorem gE.snoc {l : List Entry} {i : Nat} (hi : i < l.length) (h : gE (l.take i)) (ok : fY l[i] = true) (lt : 0 < i → aY (l[i - 1]'(by omega)) l[i] = true) (ne : ∀ (j : Nat) x, j < i → l[j]? = some x → (x.bg == l[i].bg) = false) : gE (l.take (i + 1)) := by
 have e : l.take (i + 1) = l.take i ++ [l[i]] := by rw [List.take_add_one, List.getElem?_eq_getElem hi]; rfl
 have get : ∀ x ∈ l.take i, ∃ j, j < i ∧ l[j]? = some x := fun x hx => by
   obtain ⟨j, hj⟩ := List.mem_iff_getElem?.1 hx;rw [List.getElem?_take] at hj
   split at hj
   · exact ⟨j, by assumption, hj⟩
   · cases hj
 refine ⟨fun x hx => ?_, ?_, ?_⟩
 · rw [e, List.mem_append] at hx;rcases hx with hx | hx
   · exact h.ok x hx
   · cases List.mem_singleton.1 hx; exact ok
 · rw [e, List.pairwise_append];refine ⟨h.lt, List.pairwise_singleton _ _, fun a ha b hb => ?_⟩;cases List.mem_singleton.1 hb;obtain ⟨j, hj, hx⟩ := get a ha;have hl := lt (by omega);rcases Nat.lt_or_ge j (i - 1) with h1 | h1
   · have h2 := (List.pairwise_iff_getElem.1 h.lt) j (i - 1) (by rw [List.length_take]; omega) (by rw [List.length_take]; omega) h1;simp only [List.getElem_take] at h2;rw [List.getElem?_eq_getElem (by omega)] at hx;cases hx;exact lD.tr _ _ _ h2 hl
   · obtain rfl : j = i - 1 := by omega
     rw [List.getElem?_eq_getElem (by omega)] at hx;cases hx; exact hl
 · rw [e, List.pairwise_append];refine ⟨h.ne, List.pairwise_singleton _ _, fun a ha b hb => ?_⟩;cases List.mem_singleton.1 hb;obtain ⟨j, hj, hx⟩ := get a ha;have := ne j a hj hx;simpa using this
theorem gE.at_ {l : List Entry} (h : gE l) {i : Nat} (hi : i < l.length) : fY l[i] = true ∧ (0 < i → aY (l[i - 1]'(by omega)) l[i] = true) ∧ ∀ (j : Nat) x, j < i → l[j]? = some x → (x.bg == l[i].bg) = false := by
 refine ⟨h.ok _ (List.getElem_mem hi), fun h0 => ?_, fun j x hj hx => ?_⟩
 · exact (List.pairwise_iff_getElem.1 h.lt) (i - 1) i (by omega) hi (by omega)
 · have := (List.pairwise_iff_getElem.1 h.ne) j i (by omega) hi hj;rw [List.getElem?_eq_getElem (by omega)] at hx;cases hx;simpa using this
theorem zU {l : List Entry} {i : Nat} (hi : i < l.length) : (dm l l[i].bg = (i : Int)) ↔ ∀ (j : Nat) x, j < i → l[j]? = some x → (x.bg == l[i].bg) = false := by
 constructor
 · intro h j x hj hx;rcases hO (fun e : Entry => e.bg == l[i].bg) l with ⟨h1, _⟩ | ⟨k, hk, h1, h2, h3⟩
   · have : dm l l[i].bg = -1 := h1;omega
   · have : dm l l[i].bg = (k : Int) := h1;exact h3 j x (by omega) hx
 · exact fun h => oM hi (by simp) h
theorem zV {l : List Entry} {i : Nat} (hi : i < l.length) : (dm (l.take i) l[i].bg < 0) ↔ ∀ (j : Nat) x, j < i → l[j]? = some x → (x.bg == l[i].bg) = false := by
 constructor
 · intro h j x hj hx;rcases hO (fun e : Entry => e.bg == l[i].bg) (l.take i) with ⟨_, h1⟩ | ⟨k, hk, h1, _⟩
   · exact h1 x (List.mem_iff_getElem?.2 ⟨j, by rw [List.getElem?_take, if_pos hj]; exact hx⟩)
   · have : dm (l.take i) l[i].bg = (k : Int) := h1;omega
 · intro h
   have : dm (l.take i) l[i].bg = -1 := oO fun j x hx => by
     rw [List.getElem?_take] at hx
     split at hx
     · exact h j x (by assumption) hx
     · cases hx
   omega
theorem I2 {l : List Entry} (h : ¬ gE l) : dJ l = false := by simp [dJ, h]
theorem I3 {l : List Entry} (h : 10 < l.length) : dJ l = false := by
 unfold dJ; rw [decide_eq_false (by omega : ¬ l.length ≤ 10)]; rfl
theorem xv {l : List Entry} (h : l.length ≤ 10) (hq : gE l) : dJ l = true := by simp [dJ, h, hq]
theorem DM (a : List Entry) (b : Bool) (hb : b = dJ a) : Spec Tryz.prog 185 [lA .aD a] (aE (bR fun _ => b)) := by
 refine aH ay Tryz.func185 rfl rfl (fr := true) (fun _ => by kernel_rfl) fun P hP hA => ?_;obtain ⟨⟨ha, _⟩, _⟩ := hA;have ha : a.length ≤ 9223372036854775807 := ha;cbv;refine Br.dec (fun h0 => ?_) (fun h0 => ?_) <;> cbv
 · have h0 : (a.length : Int) > 10 := h0;refine ⟨?_, trivial⟩;exact (hb.trans (I3 (by omega))).symm
 have h0 : ¬ (a.length : Int) > 10 := h0;refine aT.by (X := Nat) (fun i => [(0, lA .aD a), (3, nT fun _ => i)]) (fun _ => []) (fun i => i ≤ a.length ∧ gE (a.take i)) (fun i _ => a.length - i) 0 ⟨Nat.zero_le _, by rw [List.take_zero]; exact gE.nil⟩ ?_ ?_
 · cbv
   repeat' first | exact trivial | refine ⟨rfl, ?_⟩ | fail
 · intro i ⟨hi, hn⟩;cbv;refine Br.dec (fun h2 => ?_) (fun h2 => ?_) <;> cbv
   rotate_left
   · have h2 : a.length ≤ i := by simp at h2; omega
     refine ⟨?_, trivial⟩;rw [List.take_of_length_le h2] at hn;simp only [nc] at *;exact (hb.trans (xv (by omega) hn)).symm
   have h2 : i < a.length := by simpa using h2
   have no : ∀ {c : Prop}, (gE a → c) → ¬ c → b = false := fun h1 h2 => hb.trans (I2 fun h => h2 (h1 h));refine ⟨a[i], by simp, get_cast a h2, ?_⟩;cbv;refine ag.by hP (da a[i].lvl 0 4) ?_;cbv;refine Br.split (fun k0 => ?_) (fun k0 => ?_) <;> cbv
   · refine ⟨?_, trivial⟩;exact (no (fun h => (h.at_ h2).1) (by simp_all [fY])).symm
   refine ag.by hP (da a[i].aw 1 1000000) ?_;cbv;refine Br.split (fun k1 => ?_) (fun k1 => ?_) <;> cbv
   · refine ⟨?_, trivial⟩;exact (no (fun h => (h.at_ h2).1) (by simp_all [fY])).symm
   refine ag.by hP (da a[i].bg 1 999) ?_;cbv;refine Br.split (fun k2 => ?_) (fun k2 => ?_) <;> cbv
   · refine ⟨?_, trivial⟩;exact (no (fun h => (h.at_ h2).1) (by simp_all [fY])).symm
   refine ag.by hP (da a[i].siz 1 6) ?_;cbv;refine Br.split (fun k3 => ?_) (fun k3 => ?_) <;> cbv
   · refine ⟨?_, trivial⟩;exact (no (fun h => (h.at_ h2).1) (by simp_all [fY])).symm
   have ok : fY a[i] = true := by simp_all [fY]
   clear k0 k1 k2 k3;refine Br.dec (fun k4 => ?_) (fun k4 => ?_) <;> cbv
   · have k4 : (i : Int) > 0 := k4;have h3 : i - 1 < a.length := by omega
     have hc : ((i : Int) - 1).toNat = i - 1 := by omega
     refine Ar.exact (by (try simp only [nc] at *); omega) (by (try simp only [nc] at *); omega) ?_;cbv;refine ⟨a[i - 1], by (try simp only [nc] at *); omega, by simp only [nc]; rw [hc]; exact List.getElem?_eq_getElem h3, ?_⟩;cbv;refine ag.by hP (IP a[i - 1] a[i]) ?_;cbv;refine Br.split (fun k5 => ?_) (fun k5 => ?_) <;> cbv
     · refine ⟨?_, trivial⟩;exact (no (fun h => (h.at_ h2).2.1 (by simp only [nc] at *; omega)) (by simpa using k5)).symm
     have k5 : aY a[i - 1] a[i] = true := by simpa using k5
     refine ag.by hP (DJ a a[i].bg (dm a a[i].bg) rfl) ?_;cbv;refine Br.split (fun k6 => ?_) (fun k6 => ?_) <;> cbv
     · refine ⟨?_, trivial⟩;have k6 : (dm a a[i].bg != (i : Int)) = true := k6;exact (no (fun h => (zU h2).2 (h.at_ h2).2.2) (by simpa using k6)).symm
     have k6 : (dm a a[i].bg != (i : Int)) = false := k6;have k6 : dm a a[i].bg = (i : Int) := by simpa using k6
     refine Ar.exact (by (try simp only [nc] at *); omega) (by (try simp only [nc] at *); omega) ?_;cbv;refine aJ.by (i + 1) ?_ ?_ ?_
     · show a.length - (i + 1) < a.length - i;omega
     · exact ⟨h2, hn.snoc h2 ok (fun _ => k5) ((zU h2).1 k6)⟩
     · cbv
       repeat' first | exact trivial | refine ⟨rfl, ?_⟩ | fail
   · have k4 : ¬ (i : Int) > 0 := k4;refine ag.by hP (DJ a a[i].bg (dm a a[i].bg) rfl) ?_;cbv;refine Br.split (fun k6 => ?_) (fun k6 => ?_) <;> cbv
     · refine ⟨?_, trivial⟩;have k6 : (dm a a[i].bg != (i : Int)) = true := k6;exact (no (fun h => (zU h2).2 (h.at_ h2).2.2) (by simpa using k6)).symm
     have k6 : (dm a a[i].bg != (i : Int)) = false := k6;have k6 : dm a a[i].bg = (i : Int) := by simpa using k6
     refine Ar.exact (by (try simp only [nc] at *); omega) (by (try simp only [nc] at *); omega) ?_;cbv;refine aJ.by (i + 1) ?_ ?_ ?_
     · show a.length - (i + 1) < a.length - i;omega
     · exact ⟨h2, hn.snoc h2 ok (fun h => absurd h (by simp only [nc] at *; omega)) ((zU h2).1 k6)⟩
     · cbv
       repeat' first | exact trivial | refine ⟨rfl, ?_⟩ | fail
theorem xw (a : List Entry) (b : Bool) (hb : b = dJ a) : Spec Tryz.prog 153 [lA .aD a] (aE (bR fun _ => b)) := by
 refine aH ay Tryz.func153 rfl rfl (fr := true) (fun _ => by kernel_rfl) fun P hP hA => ?_;obtain ⟨⟨ha, _⟩, _⟩ := hA;have ha : a.length ≤ 9223372036854775807 := ha;cbv;refine Br.dec (fun h0 => ?_) (fun h0 => ?_) <;> cbv
 · have h0 : (a.length : Int) > 10 := h0;refine ⟨?_, trivial⟩;exact (hb.trans (I3 (by omega))).symm
 have h0 : ¬ (a.length : Int) > 10 := h0;refine aT.by (X := Nat) (fun i => [(0, lA .aD a), (8, lA .aD a), (9, nT fun _ => a.length), (10, nT fun _ => i)]) (fun _ => []) (fun i => i ≤ a.length ∧ gE (a.take i)) (fun i _ => a.length - i) 0 ⟨Nat.zero_le _, by rw [List.take_zero]; exact gE.nil⟩ ?_ ?_
 · cbv
   repeat' first | exact trivial | refine ⟨rfl, ?_⟩ | fail
 · intro i ⟨hi, hn⟩;cbv;refine Br.dec (fun h2 => ?_) (fun h2 => ?_) <;> cbv
   rotate_left
   · have h2 : a.length ≤ i := by simp at h2; omega
     refine ⟨?_, trivial⟩;rw [List.take_of_length_le h2] at hn;simp only [nc] at *;exact (hb.trans (xv (by omega) hn)).symm
   have h2 : i < a.length := by simpa using h2
   have no : ∀ {c : Prop}, (gE a → c) → ¬ c → b = false := fun h1 h2 => hb.trans (I2 fun h => h2 (h1 h));refine ⟨a[i], by simp, get_cast a h2, ?_⟩;cbv;have tk : dm ((a.take ((i : Int)).toNat).drop ((0 : Int)).toNat) a[i].bg = dm (a.take i) a[i].bg := by simp
   refine Br.dec (fun k4 => ?_) (fun k4 => ?_) <;> cbv
   · have k4 : (i : Int) > 0 := k4;have h3 : i - 1 < a.length := by omega
     have hc : ((i : Int) - 1).toNat = i - 1 := by omega
     refine Ar.exact (by (try simp only [nc] at *); omega) (by (try simp only [nc] at *); omega) ?_;cbv;refine ⟨a[i - 1], by (try simp only [nc] at *); omega, by simp only [nc]; rw [hc]; exact List.getElem?_eq_getElem h3, ?_⟩;cbv;refine ag.by hP (IS a[i - 1] a[i]) ?_;cbv;refine Br.split (fun k5 => ?_) (fun k5 => ?_) <;> cbv
     · refine ⟨?_, trivial⟩;exact (no (fun h => (h.at_ h2).2.1 (by simp only [nc] at *; omega)) (by simpa using k5)).symm
     have k5 : aY a[i - 1] a[i] = true := by simpa using k5
     refine ⟨⟨by simp, by simp only [nc] at *; omega, by simp only [nc] at *; omega⟩, ?_⟩;cbv;refine ag.by hP (zS ((a.take ((i : Int)).toNat).drop ((0 : Int)).toNat) a[i].bg (dm (a.take i) a[i].bg) tk.symm) ?_;cbv;refine Br.dec (fun k6 => ?_) (fun k6 => ?_) <;> cbv
     · refine ⟨?_, trivial⟩;have k6 : dm (a.take i) a[i].bg ≥ 0 := k6;exact (no (fun h => (zV h2).2 (h.at_ h2).2.2) (by omega)).symm
     have k6 : ¬ dm (a.take i) a[i].bg ≥ 0 := k6;have k6 := (zV h2).1 (by omega);refine ag.by hP (nk a[i].lvl 5 (by omega) (by omega)) ?_;cbv;refine Br.split (fun q0 => ?_) (fun q0 => ?_) <;> cbv
     · refine ⟨?_, trivial⟩;exact (no (fun h => (h.at_ h2).1) (by simp_all [fY])).symm
     refine ag.by hP (cV a[i].aw 1 1000000) ?_;cbv;refine Br.split (fun q1 => ?_) (fun q1 => ?_) <;> cbv
     · refine ⟨?_, trivial⟩;exact (no (fun h => (h.at_ h2).1) (by simp_all [fY])).symm
     refine ag.by hP (cV a[i].bg 1 999) ?_;cbv;refine Br.split (fun q2 => ?_) (fun q2 => ?_) <;> cbv
     · refine ⟨?_, trivial⟩;exact (no (fun h => (h.at_ h2).1) (by simp_all [fY])).symm
     refine ag.by hP (cV a[i].siz 1 6) ?_;cbv;refine Br.split (fun q3 => ?_) (fun q3 => ?_) <;> cbv
     · refine ⟨?_, trivial⟩;exact (no (fun h => (h.at_ h2).1) (by simp_all [fY])).symm
     have ok : fY a[i] = true := by simp_all [fY]
     clear q0 q1 q2 q3;refine Ar.exact (by (try simp only [nc] at *); omega) (by (try simp only [nc] at *); omega) ?_;cbv;refine aJ.by (i + 1) ?_ ?_ ?_
     · show a.length - (i + 1) < a.length - i;omega
     · exact ⟨h2, hn.snoc h2 ok (fun _ => k5) k6⟩
     · cbv
       repeat' first | exact trivial | refine ⟨rfl, ?_⟩ | fail
   · have k4 : ¬ (i : Int) > 0 := k4;refine ⟨⟨by simp, by simp only [nc] at *; omega, by simp only [nc] at *; omega⟩, ?_⟩;cbv;refine ag.by hP (zS ((a.take ((i : Int)).toNat).drop ((0 : Int)).toNat) a[i].bg (dm (a.take i) a[i].bg) tk.symm) ?_;cbv;refine Br.dec (fun k6 => ?_) (fun k6 => ?_) <;> cbv
     · refine ⟨?_, trivial⟩;have k6 : dm (a.take i) a[i].bg ≥ 0 := k6;exact (no (fun h => (zV h2).2 (h.at_ h2).2.2) (by omega)).symm
     have k6 : ¬ dm (a.take i) a[i].bg ≥ 0 := k6;have k6 := (zV h2).1 (by omega);refine ag.by hP (nk a[i].lvl 5 (by omega) (by omega)) ?_;cbv;refine Br.split (fun q0 => ?_) (fun q0 => ?_) <;> cbv
     · refine ⟨?_, trivial⟩;exact (no (fun h => (h.at_ h2).1) (by simp_all [fY])).symm
     refine ag.by hP (cV a[i].aw 1 1000000) ?_;cbv;refine Br.split (fun q1 => ?_) (fun q1 => ?_) <;> cbv
     · refine ⟨?_, trivial⟩;exact (no (fun h => (h.at_ h2).1) (by simp_all [fY])).symm
     refine ag.by hP (cV a[i].bg 1 999) ?_;cbv;refine Br.split (fun q2 => ?_) (fun q2 => ?_) <;> cbv
     · refine ⟨?_, trivial⟩;exact (no (fun h => (h.at_ h2).1) (by simp_all [fY])).symm
     refine ag.by hP (cV a[i].siz 1 6) ?_;cbv;refine Br.split (fun q3 => ?_) (fun q3 => ?_) <;> cbv
     · refine ⟨?_, trivial⟩;exact (no (fun h => (h.at_ h2).1) (by simp_all [fY])).symm
     have ok : fY a[i] = true := by simp_all [fY]
     clear q0 q1 q2 q3;refine Ar.exact (by (try simp only [nc] at *); omega) (by (try simp only [nc] at *); omega) ?_;cbv;refine aJ.by (i + 1) ?_ ?_ ?_
     · show a.length - (i + 1) < a.length - i;omega
     · exact ⟨h2, hn.snoc h2 ok (fun h => absurd h (by simp only [nc] at *; omega)) k6⟩
     · cbv
       repeat' first | exact trivial | refine ⟨rfl, ?_⟩ | fail
theorem DN {a b : Entry} (Vj : a.lvl = b.lvl) (PS : a.aw = b.aw) (Vk : a.bg = b.bg) (PT : a.siz = b.siz) : a = b := by
 cases a; cases b; simp_all
theorem I4 {a b : aA} (Vl : a.tm = b.tm) (Vm : a.pid = b.pid) : a = b := by
 cases a; cases b; simp_all
theorem I5 (a b : List Entry) : Spec Tryz.prog 129 [lA .aD a, lA .aD b] (aE (bR fun _ => decide (a = b))) := by
 refine aH ay Tryz.func129 rfl rfl (fr := true) (fun _ => by kernel_rfl) fun P hP hA => ?_;obtain ⟨⟨ha, _⟩, _⟩ := hA;have ha : a.length ≤ 9223372036854775807 := ha;cbv;refine Br.split (fun h1 => ?_) (fun h1 => ?_) <;> cbv
 · refine ⟨?_, trivial⟩;have := rQ (a := a) (b := b) h1;simp [this]
 have h1 := rP (a := a) (b := b) h1;refine aT.by (X := Nat) (fun i => [(0, lA .aD a), (1, lA .aD b), (5, nT fun _ => i)]) (fun _ => []) (fun i => i ≤ a.length ∧ a.take i = b.take i) (fun i _ => a.length - i) 0 ⟨Nat.zero_le _, by simp⟩ ?_ ?_
 · cbv
   repeat' first | exact trivial | refine ⟨rfl, ?_⟩ | fail
 · intro i ⟨hi, ht⟩;cbv;refine Br.dec (fun h2 => ?_) (fun h2 => ?_) <;> cbv
   · have h2 : i < a.length := by simpa using h2
     have fZ : i < b.length := h1 ▸ h2;refine ⟨a[i], by simp, get_cast a h2, ?_⟩;cbv;refine ⟨b[i], by simp, get_cast b fZ, ?_⟩;cbv;refine Br.split (fun h3 => ?_) (fun h3 => ?_) <;> cbv
     · refine ⟨?_, trivial⟩;have := rN h2 fZ (fun he => by rw [he] at h3; simp at h3);simp [this]
     · refine Ar.exact (by (try simp only [nc] at *); omega) (by (try simp only [nc] at *); omega) ?_;cbv;refine aJ.by (i + 1) ?_ ?_ ?_
       · show a.length - (i + 1) < a.length - i;omega
       · refine ⟨h2, rM ht h2 fZ ?_⟩;simp only [Bool.not_eq_false', Bool.and_eq_true, beq_iff_eq, Bool.and_true] at h3;exact (by obtain ⟨g0, g1, g2, g3⟩ := h3; exact DN g0 g1 g2 g3)
       · cbv
         repeat' first | exact trivial | refine ⟨rfl, ?_⟩ | fail
   · refine ⟨?_, trivial⟩;have h2 : a.length ≤ i := by simp at h2; omega
     simp [rO h1 h2 ht]
theorem I6 (a b : List aA) : Spec Tryz.prog 130 [lA .aF a, lA .aF b] (aE (bR fun _ => decide (a = b))) := by
 refine aH ay Tryz.func130 rfl rfl (fr := true) (fun _ => by kernel_rfl) fun P hP hA => ?_;obtain ⟨⟨ha, _⟩, _⟩ := hA;have ha : a.length ≤ 9223372036854775807 := ha;cbv;refine Br.split (fun h1 => ?_) (fun h1 => ?_) <;> cbv
 · refine ⟨?_, trivial⟩;have := rQ (a := a) (b := b) h1;simp [this]
 have h1 := rP (a := a) (b := b) h1;refine aT.by (X := Nat) (fun i => [(0, lA .aF a), (1, lA .aF b), (5, nT fun _ => i)]) (fun _ => []) (fun i => i ≤ a.length ∧ a.take i = b.take i) (fun i _ => a.length - i) 0 ⟨Nat.zero_le _, by simp⟩ ?_ ?_
 · cbv
   repeat' first | exact trivial | refine ⟨rfl, ?_⟩ | fail
 · intro i ⟨hi, ht⟩;cbv;refine Br.dec (fun h2 => ?_) (fun h2 => ?_) <;> cbv
   · have h2 : i < a.length := by simpa using h2
     have fZ : i < b.length := h1 ▸ h2;refine ⟨a[i], by simp, get_cast a h2, ?_⟩;cbv;refine ⟨b[i], by simp, get_cast b fZ, ?_⟩;cbv;refine Br.split (fun h3 => ?_) (fun h3 => ?_) <;> cbv
     · refine ⟨?_, trivial⟩;have := rN h2 fZ (fun he => by rw [he] at h3; simp at h3);simp [this]
     · refine Ar.exact (by (try simp only [nc] at *); omega) (by (try simp only [nc] at *); omega) ?_;cbv;refine aJ.by (i + 1) ?_ ?_ ?_
       · show a.length - (i + 1) < a.length - i;omega
       · refine ⟨h2, rM ht h2 fZ ?_⟩;simp only [Bool.not_eq_false', Bool.and_eq_true, beq_iff_eq, Bool.and_true] at h3;exact (by obtain ⟨g0, g1⟩ := h3; exact I4 g0 g1)
       · cbv
         repeat' first | exact trivial | refine ⟨rfl, ?_⟩ | fail
   · refine ⟨?_, trivial⟩;have h2 : a.length ≤ i := by simp at h2; omega
     simp [rO h1 h2 ht]
theorem PV (a b : List Entry) : Spec Tryz.prog 178 [lA .aD a, lA .aD b] (aE (bR fun _ => decide (a = b))) := by
 refine aH ay Tryz.func178 rfl rfl (fr := true) (fun _ => by kernel_rfl) fun P hP hA => ?_;obtain ⟨⟨ha, _⟩, _⟩ := hA;have ha : a.length ≤ 9223372036854775807 := ha;cbv;refine Br.split (fun h1 => ?_) (fun h1 => ?_) <;> cbv
 · refine ⟨?_, trivial⟩;have := rQ (a := a) (b := b) h1;simp [this]
 have h1 := rP (a := a) (b := b) h1;refine aT.by (X := Nat) (fun i => [(0, lA .aD a), (1, lA .aD b), (12, nT fun _ => a.length), (13, nT fun _ => i)]) (fun _ => []) (fun i => i ≤ a.length ∧ a.take i = b.take i) (fun i _ => a.length - i) 0 ⟨Nat.zero_le _, by simp⟩ ?_ ?_
 · cbv
   repeat' first | exact trivial | refine ⟨rfl, ?_⟩ | fail
 · intro i ⟨hi, ht⟩;cbv;refine Br.dec (fun h2 => ?_) (fun h2 => ?_) <;> cbv
   · have h2 : i < a.length := by simpa using h2
     have fZ : i < b.length := h1 ▸ h2;refine ⟨a[i], by simp, get_cast a h2, ?_⟩;cbv;refine ⟨b[i], by simp, get_cast b fZ, ?_⟩;cbv;refine Br.split (fun h3 => ?_) (fun h3 => ?_) <;> cbv
     · refine ⟨?_, trivial⟩;have := rN h2 fZ (fun he => by rw [he] at h3; simp at h3);simp [this]
     · refine Ar.exact (by (try simp only [nc] at *); omega) (by (try simp only [nc] at *); omega) ?_;cbv;refine aJ.by (i + 1) ?_ ?_ ?_
       · show a.length - (i + 1) < a.length - i;omega
       · refine ⟨h2, rM ht h2 fZ ?_⟩;simp only [Bool.not_eq_false', Bool.and_eq_true, beq_iff_eq, Bool.and_true] at h3;exact (by obtain ⟨g0, g1, g2, g3⟩ := h3; exact DN g0 g1 g2 g3)
       · cbv
         repeat' first | exact trivial | refine ⟨rfl, ?_⟩ | fail
   · refine ⟨?_, trivial⟩;have h2 : a.length ≤ i := by simp at h2; omega
     simp [rO h1 h2 ht]
theorem PW (a b : List aA) : Spec Tryz.prog 179 [lA .aF a, lA .aF b] (aE (bR fun _ => decide (a = b))) := by
 refine aH ay Tryz.func179 rfl rfl (fr := true) (fun _ => by kernel_rfl) fun P hP hA => ?_;obtain ⟨⟨ha, _⟩, _⟩ := hA;have ha : a.length ≤ 9223372036854775807 := ha;cbv;refine Br.split (fun h1 => ?_) (fun h1 => ?_) <;> cbv
 · refine ⟨?_, trivial⟩;have := rQ (a := a) (b := b) h1;simp [this]
 have h1 := rP (a := a) (b := b) h1;refine aT.by (X := Nat) (fun i => [(0, lA .aF a), (1, lA .aF b), (12, nT fun _ => a.length), (13, nT fun _ => i)]) (fun _ => []) (fun i => i ≤ a.length ∧ a.take i = b.take i) (fun i _ => a.length - i) 0 ⟨Nat.zero_le _, by simp⟩ ?_ ?_
 · cbv
   repeat' first | exact trivial | refine ⟨rfl, ?_⟩ | fail
 · intro i ⟨hi, ht⟩;cbv;refine Br.dec (fun h2 => ?_) (fun h2 => ?_) <;> cbv
   · have h2 : i < a.length := by simpa using h2
     have fZ : i < b.length := h1 ▸ h2;refine ⟨a[i], by simp, get_cast a h2, ?_⟩;cbv;refine ⟨b[i], by simp, get_cast b fZ, ?_⟩;cbv;refine Br.split (fun h3 => ?_) (fun h3 => ?_) <;> cbv
     · refine ⟨?_, trivial⟩;have := rN h2 fZ (fun he => by rw [he] at h3; simp at h3);simp [this]
     · refine Ar.exact (by (try simp only [nc] at *); omega) (by (try simp only [nc] at *); omega) ?_;cbv;refine aJ.by (i + 1) ?_ ?_ ?_
       · show a.length - (i + 1) < a.length - i;omega
       · refine ⟨h2, rM ht h2 fZ ?_⟩;simp only [Bool.not_eq_false', Bool.and_eq_true, beq_iff_eq, Bool.and_true] at h3;exact (by obtain ⟨g0, g1⟩ := h3; exact I4 g0 g1)
       · cbv
         repeat' first | exact trivial | refine ⟨rfl, ?_⟩ | fail
   · refine ⟨?_, trivial⟩;have h2 : a.length ≤ i := by simp at h2; omega
     simp [rO h1 h2 ht]
theorem DO (a : List Entry) (hn : a.length ≤ aR) : Spec Tryz.prog 157 [lA .aD a] (aE (lR .aD fun _ => a)) := by
 refine aH ay Tryz.func157 rfl rfl (fr := true) (fun _ => by kernel_rfl) fun P hP hA => ?_;have hn : a.length ≤ 1048576 := hn;cbv;refine ⟨by show (0 + a.length) * 32 ≤ 140737488355328; omega, ?_⟩;cbv
 repeat' first | exact trivial | refine ⟨rfl, ?_⟩ | fail
theorem zW {α : Type} {lt : α → α → Bool} {l : List α} {e : α} {i : Nat} (hn : ∀ (j : Nat) y, j < i → l[j]? = some y → lt y e = true) (h : ∀ y, l[i]? = some y → lt y e = false) : l.take i ++ [e] ++ l.drop i = bG lt e l := by
 rw [BN hn h]; simp
theorem I7 (a : List Entry) (e : Entry) (hn : a.length ≤ aR) : Spec Tryz.prog 102 [lA .aD a, eA .aD e] (aE (lR .aD fun _ => bG aY e a)) := by
 refine aH ay Tryz.func102 rfl rfl (fr := true) (fun _ => by kernel_rfl) fun P hP hA => ?_;have hs : a.length ≤ 1048576 := hn;cbv;refine aT.by (X := Nat) (fun i => [(0, lA .aD a), (3, pN 0), (5, nT fun _ => i)]) (fun _ => [(0, .box ((bQ .aD fun _ => e).map .lf))]) (fun i => i ≤ a.length ∧ ∀ (j : Nat) y, j < i → a[j]? = some y → aY y e = true) (fun i _ => a.length - i) 0 ⟨Nat.zero_le _, fun j y hj => by omega⟩ ?_ ?_
 · cbv
   repeat' first | exact trivial | refine ⟨rfl, ?_⟩ | fail
 · intro i ⟨hi, hx⟩;cbv;refine Br.dec (fun h2 => ?_) (fun h2 => ?_) <;> cbv
   · have h2 : i < a.length := by simpa using h2
     refine ⟨a[i], by simp, get_cast a h2, ?_⟩;cbv;refine ag.by hP (IP a[i] e) ?_;cbv;refine Br.split (fun h3 => ?_) (fun h3 => ?_) <;> cbv
     · refine Ar.exact (by (try simp only [nc] at *); omega) (by (try simp only [nc] at *); omega) ?_;cbv;refine aJ.by (i + 1) ?_ ?_ ?_
       · show a.length - (i + 1) < a.length - i;omega
       · exact ⟨h2, il h2 hx h3⟩
       · cbv
         repeat' first | exact trivial | refine ⟨rfl, ?_⟩ | fail
     · have hf : ∀ y, a[i]? = some y → aY y e = false := fun y hy => by
         rw [List.getElem?_eq_getElem h2] at hy; cases hy; exact h3
       have oQ : i ≤ a.length := hi;refine ⟨⟨by simp, by simp only [nc] at *; omega, by simp only [nc] at *; omega⟩, ?_⟩;cbv;have tk : (a.take ((i : Int)).toNat).drop ((0 : Int)).toNat = a.take i := by simp
       have dp : (a.take (a.length : Int).toNat).drop ((i : Int)).toNat = a.drop i := by simp
       have o1 : (List.length ((a.take ((i : Int)).toNat).drop ((0 : Int)).toNat) + 1) * 32 ≤ 140737488355328 := by rw [tk, List.length_take]; omega
       have o2 : (List.length ((a.take ((i : Int)).toNat).drop ((0 : Int)).toNat ++ [e]) + List.length ((a.take (a.length : Int).toNat).drop ((i : Int)).toNat)) * 32 ≤ 140737488355328 := by rw [tk, dp, List.length_append, List.length_take, List.length_drop]; simp; omega
       have fin : (a.take ((i : Int)).toNat).drop ((0 : Int)).toNat ++ [e] ++ (a.take (a.length : Int).toNat).drop ((i : Int)).toNat = bG aY e a := by rw [tk, dp]; exact zW hx hf
       have os : 0 ≤ (i : Int) ∧ (i : Int) ≤ (a.length : Int) ∧ (a.length : Int) ≤ (a.length : Int) := ⟨by omega, by omega, by omega⟩
       repeat' first
         | (refine ag.by hP (DO ((a.take ((i : Int)).toNat).drop ((0 : Int)).toNat) (by rw [tk, List.length_take]; show _ ≤ 1048576; omega)) ?_; cbv)
         | (refine Ob.mk (by first | exact o1 | exact o2 | exact os) ?_; cbv)
         | refine And.intro ?_ ?_
         | exact ⟨fin, trivial⟩
         | fail
   · have h2 : a.length ≤ i := by simp at h2; omega
     have oQ : i ≤ a.length := hi
     have hf : ∀ y, a[i]? = some y → aY y e = false := fun y hy => by
       rw [List.getElem?_eq_none h2] at hy; cases hy
     refine ⟨⟨by simp, by simp only [nc] at *; omega, by simp only [nc] at *; omega⟩, ?_⟩;cbv;have tk : (a.take ((i : Int)).toNat).drop ((0 : Int)).toNat = a.take i := by simp
     have dp : (a.take (a.length : Int).toNat).drop ((i : Int)).toNat = a.drop i := by simp
     have o1 : (List.length ((a.take ((i : Int)).toNat).drop ((0 : Int)).toNat) + 1) * 32 ≤ 140737488355328 := by rw [tk, List.length_take]; omega
     have o2 : (List.length ((a.take ((i : Int)).toNat).drop ((0 : Int)).toNat ++ [e]) + List.length ((a.take (a.length : Int).toNat).drop ((i : Int)).toNat)) * 32 ≤ 140737488355328 := by rw [tk, dp, List.length_append, List.length_take, List.length_drop]; simp; omega
     have fin : (a.take ((i : Int)).toNat).drop ((0 : Int)).toNat ++ [e] ++ (a.take (a.length : Int).toNat).drop ((i : Int)).toNat = bG aY e a := by rw [tk, dp]; exact zW hx hf
     have os : 0 ≤ (i : Int) ∧ (i : Int) ≤ (a.length : Int) ∧ (a.length : Int) ≤ (a.length : Int) := ⟨by omega, by omega, by omega⟩
     repeat' first
       | (refine ag.by hP (DO ((a.take ((i : Int)).toNat).drop ((0 : Int)).toNat) (by rw [tk, List.length_take]; show _ ≤ 1048576; omega)) ?_; cbv)
       | (refine Ob.mk (by first | exact o1 | exact o2 | exact os) ?_; cbv)
       | refine And.intro ?_ ?_
       | exact ⟨fin, trivial⟩
       | fail
theorem DP (a : List aA) (e : aA) (hn : a.length ≤ aR) : Spec Tryz.prog 188 [lA .aF a, eA .aF e] (aE (lR .aF fun _ => bG bm e a)) := by
 refine aH ay Tryz.func188 rfl rfl (fr := true) (fun _ => by kernel_rfl) fun P hP hA => ?_;have hs : a.length ≤ 1048576 := hn;cbv;refine aT.by (X := Nat) (fun i => [(0, lA .aF a), (3, pN 0), (5, nT fun _ => i)]) (fun _ => [(0, .box ((bQ .aF fun _ => e).map .lf))]) (fun i => i ≤ a.length ∧ ∀ (j : Nat) y, j < i → a[j]? = some y → bm y e = true) (fun i _ => a.length - i) 0 ⟨Nat.zero_le _, fun j y hj => by omega⟩ ?_ ?_
 · cbv
   repeat' first | exact trivial | refine ⟨rfl, ?_⟩ | fail
 · intro i ⟨hi, hx⟩;cbv;refine Br.dec (fun h2 => ?_) (fun h2 => ?_) <;> cbv
   · have h2 : i < a.length := by simpa using h2
     refine ⟨a[i], by simp, get_cast a h2, ?_⟩;cbv;refine ag.by hP (IT a[i] e) ?_;cbv;refine Br.split (fun h3 => ?_) (fun h3 => ?_) <;> cbv
     · refine Ar.exact (by (try simp only [nc] at *); omega) (by (try simp only [nc] at *); omega) ?_;cbv;refine aJ.by (i + 1) ?_ ?_ ?_
       · show a.length - (i + 1) < a.length - i;omega
       · exact ⟨h2, il h2 hx h3⟩
       · cbv
         repeat' first | exact trivial | refine ⟨rfl, ?_⟩ | fail
     · have hf : ∀ y, a[i]? = some y → bm y e = false := fun y hy => by
         rw [List.getElem?_eq_getElem h2] at hy; cases hy; exact h3
       have oQ : i ≤ a.length := hi;refine ⟨⟨by simp, by simp only [nc] at *; omega, by simp only [nc] at *; omega⟩, ?_⟩;cbv;have tk : (a.take ((i : Int)).toNat).drop ((0 : Int)).toNat = a.take i := by simp
       refine ⟨by show (0 + List.length ((a.take ((i : Int)).toNat).drop ((0 : Int)).toNat)) * 16 ≤ 140737488355328; rw [tk, List.length_take]; omega, ?_⟩;cbv;refine ⟨by show (List.length ([] ++ (a.take ((i : Int)).toNat).drop ((0 : Int)).toNat) + 1) * 16 ≤ 140737488355328; rw [tk, List.nil_append, List.length_take]; omega, ?_⟩;cbv;refine ⟨⟨by simp, by simp only [nc] at *; omega, by simp⟩, ?_⟩;cbv;have dp : (a.take (a.length : Int).toNat).drop ((i : Int)).toNat = a.drop i := by simp
       refine ⟨by show (List.length ([] ++ (a.take ((i : Int)).toNat).drop ((0 : Int)).toNat ++ [e]) + List.length ((a.take (a.length : Int).toNat).drop ((i : Int)).toNat)) * 16 ≤ 140737488355328; rw [tk, dp, List.nil_append, List.length_append, List.length_take, List.length_drop]; simp; omega, ?_⟩;cbv;refine ⟨?_, trivial⟩;show [] ++ (a.take ((i : Int)).toNat).drop ((0 : Int)).toNat ++ [e] ++ (a.take (a.length : Int).toNat).drop ((i : Int)).toNat = bG bm e a;rw [tk, dp, List.nil_append];exact zW hx hf
   · have h2 : a.length ≤ i := by simp at h2; omega
     have oQ : i ≤ a.length := hi
     have hf : ∀ y, a[i]? = some y → bm y e = false := fun y hy => by
       rw [List.getElem?_eq_none h2] at hy; cases hy
     refine ⟨⟨by simp, by simp only [nc] at *; omega, by simp only [nc] at *; omega⟩, ?_⟩;cbv;have tk : (a.take ((i : Int)).toNat).drop ((0 : Int)).toNat = a.take i := by simp
     refine ⟨by show (0 + List.length ((a.take ((i : Int)).toNat).drop ((0 : Int)).toNat)) * 16 ≤ 140737488355328; rw [tk, List.length_take]; omega, ?_⟩;cbv;refine ⟨by show (List.length ([] ++ (a.take ((i : Int)).toNat).drop ((0 : Int)).toNat) + 1) * 16 ≤ 140737488355328; rw [tk, List.nil_append, List.length_take]; omega, ?_⟩;cbv;refine ⟨⟨by simp, by simp only [nc] at *; omega, by simp⟩, ?_⟩;cbv;have dp : (a.take (a.length : Int).toNat).drop ((i : Int)).toNat = a.drop i := by simp
     refine ⟨by show (List.length ([] ++ (a.take ((i : Int)).toNat).drop ((0 : Int)).toNat ++ [e]) + List.length ((a.take (a.length : Int).toNat).drop ((i : Int)).toNat)) * 16 ≤ 140737488355328; rw [tk, dp, List.nil_append, List.length_append, List.length_take, List.length_drop]; simp; omega, ?_⟩;cbv;refine ⟨?_, trivial⟩;show [] ++ (a.take ((i : Int)).toNat).drop ((0 : Int)).toNat ++ [e] ++ (a.take (a.length : Int).toNat).drop ((i : Int)).toNat = bG bm e a;rw [tk, dp, List.nil_append];exact zW hx hf
end Go.Proofs.YtehpbaiclfilaaaGreat

