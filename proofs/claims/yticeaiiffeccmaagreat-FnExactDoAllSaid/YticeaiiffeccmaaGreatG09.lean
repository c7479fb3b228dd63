/- Parts of a proof. No conditions. -/

import Derived.Test.YticeaiiffeccmaaGreatG08
set_option linter.unusedSimpArgs false
set_option linter.unusedVariables false
namespace Go.Proofs.YticeaiiffeccmaaGreat
open Go
set_option maxRecDepth 100000
def iD {α : Type} (p : α → Bool) (l : List α) : Int := match l.findIdx? p with | some i => (i : Int) | none => -1
section
variable {α : Type} {p : α → Bool} {l : List α}
theorem mb {i : Nat} (hi : i < l.length) (h : p l[i] = true) (hn : ∀ (j : Nat) x, j < i → l[j]? = some x → p x = false) : iD p l = (i : Int) := by
 have : l.findIdx? p = some i := by
  rw [List.findIdx?_eq_some_iff_getElem];refine ⟨hi, h, fun j hj => ?_⟩;rw [hn j _ hj (List.getElem?_eq_getElem (by omega))]; simp
 simp [iD, this]
theorem mc (hn : ∀ (j : Nat) x, l[j]? = some x → p x = false) : iD p l = -1 := by
 have : l.findIdx? p = none := by
  rw [List.findIdx?_eq_none_iff];intro x hx;obtain ⟨j, hj⟩ := List.mem_iff_getElem?.1 hx;exact hn j x hj
 simp [iD, this]
theorem im (p : α → Bool) (l : List α) : (iD p l = -1 ∧ ∀ x ∈ l, p x = false) ∨ ∃ i, ∃ h : i < l.length, iD p l = (i : Int) ∧ p l[i] = true ∧ ∀ (j : Nat) x, j < i → l[j]? = some x → p x = false := by
 cases h : l.findIdx? p with
 | none => exact .inl ⟨by simp [iD, h], List.findIdx?_eq_none_iff.1 h⟩
 | some i =>
   obtain ⟨h1, h2, h3⟩ := List.findIdx?_eq_some_iff_getElem.1 h;refine .inr ⟨i, h1, by simp [iD, h], h2, fun j x hj hx => ?_⟩;have aR := bK hx;rw [List.getElem?_eq_getElem aR] at hx;cases hx;have := h3 j hj;simpa using this
theorem f_ {q : α → Prop} {i : Nat} (hi : i < l.length) (hn : ∀ (j : Nat) x, j < i → l[j]? = some x → q x) (h : q l[i]) : ∀ (j : Nat) x, j < i + 1 → l[j]? = some x → q x := by
 intro j x hj hx;rcases Nat.lt_or_ge j i with h1 | h1
 · exact hn j x h1 hx
 · obtain rfl : j = i := by omega
   rw [List.getElem?_eq_getElem hi] at hx;cases hx; exact h
theorem lh {q : α → Prop} {i : Nat} (hi : l.length ≤ i) (hn : ∀ (j : Nat) x, j < i → l[j]? = some x → q x) : ∀ (j : Nat) x, l[j]? = some x → q x :=
 fun j x hx => hn j x (Nat.lt_of_lt_of_le (bK hx) hi) hx
end
theorem Bq {α : Type} (p : α → Bool) (l : List α) : -1 ≤ iD p l ∧ iD p l < l.length := by
 rcases im p l with ⟨h, _⟩ | ⟨i, hi, h, _⟩ <;> rw [h] <;> omega
def cY (l : List Entry) (id : Int) : Int := iD (fun e => e.aV == id) l
def bw (l : List aw) (id : Int) : Int := iD (fun e => e.id == id) l
theorem Bt (a : List Entry) (id : Int) (x : Int) (hx : x = cY a id) : Spec Tryz.prog 172 [lA .aH a, iA id] (aE (iR fun _ => x)) := by
 refine ay au Tryz.func172 rfl rfl (fr := true) (fun _ => by kernel_rfl) fun P hP hA => ?_;obtain ⟨⟨ha, _⟩, _⟩ := hA;have ha : a.length ≤ 9223372036854775807 := ha;cbv;refine aU.by (X := Nat) (fun i => [(0, lA .aH a), (1, iA id), (5, nT fun _ => i)]) (fun _ => []) (fun i => i ≤ a.length ∧ ∀ (j : Nat) y, j < i → a[j]? = some y → (y.aV == id) = false) (fun i _ => a.length - i) 0 ⟨Nat.zero_le _, fun j y hj => by omega⟩ ?_ ?_
 · cbv
   repeat' first | exact trivial | refine ⟨rfl, ?_⟩ | fail
 · intro i ⟨hi, hn⟩;cbv;refine Br.dec (fun h2 => ?_) (fun h2 => ?_) <;> cbv
   · have h2 : i < a.length := by simpa using h2
     refine ⟨a[i], by simp, get_cast a h2, ?_⟩;cbv;refine Br.split (fun h3 => ?_) (fun h3 => ?_) <;> cbv
     · refine ⟨?_, trivial⟩;exact (hx.trans (mb h2 h3 hn)).symm
     · refine Ar.exact (by (try simp only [nc] at *); omega) (by (try simp only [nc] at *); omega) ?_;cbv;refine aP.by (i + 1) ?_ ?_ ?_
       · show a.length - (i + 1) < a.length - i;omega
       · exact ⟨h2, f_ h2 hn h3⟩
       · cbv
         repeat' first | exact trivial | refine ⟨rfl, ?_⟩ | fail
   · have h2 : a.length ≤ i := by simp at h2; omega
     refine ⟨?_, trivial⟩;exact (hx.trans (mc (lh h2 hn))).symm
theorem Bu (a : List aw) (id : Int) (x : Int) (hx : x = bw a id) : Spec Tryz.prog 170 [lA .aG a, iA id] (aE (iR fun _ => x)) := by
 refine ay au Tryz.func170 rfl rfl (fr := true) (fun _ => by kernel_rfl) fun P hP hA => ?_;obtain ⟨⟨ha, _⟩, _⟩ := hA;have ha : a.length ≤ 9223372036854775807 := ha;cbv;refine aU.by (X := Nat) (fun i => [(0, lA .aG a), (1, iA id), (5, nT fun _ => i)]) (fun _ => []) (fun i => i ≤ a.length ∧ ∀ (j : Nat) y, j < i → a[j]? = some y → (y.id == id) = false) (fun i _ => a.length - i) 0 ⟨Nat.zero_le _, fun j y hj => by omega⟩ ?_ ?_
 · cbv
   repeat' first | exact trivial | refine ⟨rfl, ?_⟩ | fail
 · intro i ⟨hi, hn⟩;cbv;refine Br.dec (fun h2 => ?_) (fun h2 => ?_) <;> cbv
   · have h2 : i < a.length := by simpa using h2
     refine ⟨a[i], by simp, get_cast a h2, ?_⟩;cbv;refine Br.split (fun h3 => ?_) (fun h3 => ?_) <;> cbv
     · refine ⟨?_, trivial⟩;exact (hx.trans (mb h2 h3 hn)).symm
     · refine Ar.exact (by (try simp only [nc] at *); omega) (by (try simp only [nc] at *); omega) ?_;cbv;refine aP.by (i + 1) ?_ ?_ ?_
       · show a.length - (i + 1) < a.length - i;omega
       · exact ⟨h2, f_ h2 hn h3⟩
       · cbv
         repeat' first | exact trivial | refine ⟨rfl, ?_⟩ | fail
   · have h2 : a.length ≤ i := by simp at h2; omega
     refine ⟨?_, trivial⟩;exact (hx.trans (mc (lh h2 hn))).symm
theorem Nz (e : Entry) (id : Int) : Spec Tryz.prog 183 [eA .aH e, .c (.b0 [.int .i64 fun _ => id] 0)] (aE (bR fun _ => e.aV == id)) := by
 refine ay au Tryz.func183 rfl rfl (fr := true) (fun _ => by kernel_rfl) fun P hP hA => ?_;cbv
 repeat' first | exact trivial | refine ⟨rfl, ?_⟩ | fail
theorem NA (e : aw) (id : Int) : Spec Tryz.prog 181 [eA .aG e, .c (.b0 [.int .i64 fun _ => id] 0)] (aE (bR fun _ => e.id == id)) := by
 refine ay au Tryz.func181 rfl rfl (fr := true) (fun _ => by kernel_rfl) fun P hP hA => ?_;cbv
 repeat' first | exact trivial | refine ⟨rfl, ?_⟩ | fail
theorem NB (a : List Entry) (id : Int) (x : Int) (hx : x = cY a id) : Spec Tryz.prog 178 [lA .aH a, .c (.fn 183 [.b0 [.int .i64 fun _ => id] 0])] (aE (iR fun _ => x)) := by
 refine ay au Tryz.func178 rfl rfl (fr := true) (fun _ => by kernel_rfl) fun P hP hA => ?_;obtain ⟨⟨ha, _⟩, _⟩ := hA;have ha : a.length ≤ 9223372036854775807 := ha;cbv;refine aU.by (X := Nat) (fun i => [(0, lA .aH a), (1, .c (.fn 183 [.b0 [.int .i64 fun _ => id] 0])), (7, nT fun _ => a.length), (8, nT fun _ => i)]) (fun _ => []) (fun i => i ≤ a.length ∧ ∀ (j : Nat) y, j < i → a[j]? = some y → (y.aV == id) = false) (fun i _ => a.length - i) 0 ⟨Nat.zero_le _, fun j y hj => by omega⟩ ?_ ?_
 · cbv
   repeat' first | exact trivial | refine ⟨rfl, ?_⟩ | fail
 · intro i ⟨hi, hn⟩;cbv;refine Br.dec (fun h2 => ?_) (fun h2 => ?_) <;> cbv
   · have h2 : i < a.length := by simpa using h2
     refine ⟨a[i], by simp, get_cast a h2, ?_⟩;cbv;refine ag.by hP (Nz a[i] id) ?_;cbv;refine Br.split (fun h3 => ?_) (fun h3 => ?_) <;> cbv
     · refine ⟨?_, trivial⟩;exact (hx.trans (mb h2 h3 hn)).symm
     · refine Ar.exact (by (try simp only [nc] at *); omega) (by (try simp only [nc] at *); omega) ?_;cbv;refine aP.by (i + 1) ?_ ?_ ?_
       · show a.length - (i + 1) < a.length - i;omega
       · exact ⟨h2, f_ h2 hn h3⟩
       · cbv
         repeat' first | exact trivial | refine ⟨rfl, ?_⟩ | fail
   · have h2 : a.length ≤ i := by simp at h2; omega
     refine ⟨?_, trivial⟩;exact (hx.trans (mc (lh h2 hn))).symm
theorem NC (a : List aw) (id : Int) (x : Int) (hx : x = bw a id) : Spec Tryz.prog 110 [lA .aG a, .c (.fn 181 [.b0 [.int .i64 fun _ => id] 0])] (aE (iR fun _ => x)) := by
 refine ay au Tryz.func110 rfl rfl (fr := true) (fun _ => by kernel_rfl) fun P hP hA => ?_;obtain ⟨⟨ha, _⟩, _⟩ := hA;have ha : a.length ≤ 9223372036854775807 := ha;cbv;refine aU.by (X := Nat) (fun i => [(0, lA .aG a), (1, .c (.fn 181 [.b0 [.int .i64 fun _ => id] 0])), (7, nT fun _ => a.length), (8, nT fun _ => i)]) (fun _ => []) (fun i => i ≤ a.length ∧ ∀ (j : Nat) y, j < i → a[j]? = some y → (y.id == id) = false) (fun i _ => a.length - i) 0 ⟨Nat.zero_le _, fun j y hj => by omega⟩ ?_ ?_
 · cbv
   repeat' first | exact trivial | refine ⟨rfl, ?_⟩ | fail
 · intro i ⟨hi, hn⟩;cbv;refine Br.dec (fun h2 => ?_) (fun h2 => ?_) <;> cbv
   · have h2 : i < a.length := by simpa using h2
     refine ⟨a[i], by simp, get_cast a h2, ?_⟩;cbv;refine ag.by hP (NA a[i] id) ?_;cbv;refine Br.split (fun h3 => ?_) (fun h3 => ?_) <;> cbv
     · refine ⟨?_, trivial⟩;exact (hx.trans (mb h2 h3 hn)).symm
     · refine Ar.exact (by (try simp only [nc] at *); omega) (by (try simp only [nc] at *); omega) ?_;cbv;refine aP.by (i + 1) ?_ ?_ ?_
       · show a.length - (i + 1) < a.length - i;omega
       · exact ⟨h2, f_ h2 hn h3⟩
       · cbv
         repeat' first | exact trivial | refine ⟨rfl, ?_⟩ | fail
   · have h2 : a.length ≤ i := by simp at h2; omega
     refine ⟨?_, trivial⟩;exact (hx.trans (mc (lh h2 hn))).symm
theorem Bv (a : List Entry) (id : Int) (x : Int) (hx : x = cY a id) : Spec Tryz.prog 108 [lA .aH a, iA id] (aE (iR fun _ => x)) := by
 refine ay au Tryz.func108 rfl rfl (fr := true) (fun _ => by kernel_rfl) fun P hP hA => ?_;cbv;refine ag.by hP (NB a id x hx) ?_;cbv
 repeat' first | exact trivial | refine ⟨rfl, ?_⟩ | fail
theorem Bw (a : List aw) (id : Int) (x : Int) (hx : x = bw a id) : Spec Tryz.prog 104 [lA .aG a, iA id] (aE (iR fun _ => x)) := by
 refine ay au Tryz.func104 rfl rfl (fr := true) (fun _ => by kernel_rfl) fun P hP hA => ?_;cbv;refine ag.by hP (NC a id x hx) ?_;cbv
 repeat' first | exact trivial | refine ⟨rfl, ?_⟩ | fail
theorem nN (h : an) (id : Int) (x : Int) (hx : x = bw h.ae id) : Spec Tryz.prog 53 [cw h, iA id] (aE (iR fun _ => x)) := by
 refine ay au Tryz.func53 rfl rfl (fr := true) (fun _ => by kernel_rfl) fun P hP hA => ?_;cbv;refine ag.by hP (Bw h.ae id x hx) ?_;cbv
 repeat' first | exact trivial | refine ⟨rfl, ?_⟩ | fail
theorem qq (h : an) (id : Int) (x : Int) (hx : x = bw h.ae id) : Spec Tryz.prog 91 [cw h, iA id] (aE (iR fun _ => x)) := by
 refine ay au Tryz.func91 rfl rfl (fr := true) (fun _ => by kernel_rfl) fun P hP hA => ?_;cbv;refine ag.by hP (Bu h.ae id x hx) ?_;cbv
 repeat' first | exact trivial | refine ⟨rfl, ?_⟩ | fail
def fG (e : Entry) : Bool := aq e.lvl 0 4 && (aq e.aC 1 1000000 && (aq e.aV 1 999 && aq e.al 1 6))
structure ga (l : List Entry) : Prop where
 ok : ∀ e ∈ l, fG e = true
 lt : l.Pairwise fun a b => bp a b = true
 ne : l.Pairwise fun a b => a.aV ≠ b.aV
instance (l : List Entry) : Decidable (ga l) :=
 decidable_of_iff ((∀ e ∈ l, fG e = true) ∧ (l.Pairwise fun a b => bp a b = true) ∧ l.Pairwise fun a b => a.aV ≠ b.aV) ⟨fun ⟨a, b, c⟩ => ⟨a, b, c⟩, fun ⟨a, b, c⟩ => ⟨a, b, c⟩⟩
def dI (l : List Entry) : Bool := decide (l.length ≤ 10) && decide (ga l)
theorem ga.nil : ga [] := ⟨fun e he => (by cases he), List.Pairwise.nil, List.Pairwise.nil⟩
theorem ga.snoc {l : List Entry} {i : Nat} (hi : i < l.length) (h : ga (l.take i)) (ok : fG l[i] = true) (lt : 0 < i → bp (l[i - 1]'(by omega)) l[i] = true) (ne : ∀ (j : Nat) x, j < i → l[j]? = some x → (x.aV == l[i].aV) = false) : ga (l.take (i + 1)) := by
 have e : l.take (i + 1) = l.take i ++ [l[i]] := by rw [List.take_add_one, List.getElem?_eq_getElem hi]; rfl
 have get : ∀ x ∈ l.take i, ∃ j, j < i ∧ l[j]? = some x := fun x hx => by
   obtain ⟨j, hj⟩ := List.mem_iff_getElem?.1 hx;rw [List.getElem?_take] at hj
   split at hj
   · exact ⟨j, by assumption, hj⟩
   · cases hj
 refine ⟨fun x hx => ?_, ?_, ?_⟩
 · rw [e, List.mem_append] at hx;rcases hx with hx | hx
   · exact h.ok x hx
   · cases List.mem_singleton.1 hx; exact ok
 · rw [e, List.pairwise_append];refine ⟨h.lt, List.pairwise_singleton _ _, fun a ha b hb => ?_⟩;cases List.mem_singleton.1 hb;obtain ⟨j, hj, hx⟩ := get a ha;have hl := lt (by omega);rcases Nat.lt_or_ge j (i - 1) with h1 | h1
   · have h2 := (List.pairwise_iff_getElem.1 h.lt) j (i - 1) (by rw [List.length_take]; omega) (by rw [List.length_take]; omega) h1;simp only [List.getElem_take] at h2;rw [List.getElem?_eq_getElem (by omega)] at hx;cases hx;exact oz.tr _ _ _ h2 hl
   · obtain rfl : j = i - 1 := by omega
     rw [List.getElem?_eq_getElem (by omega)] at hx;cases hx; exact hl
 · rw [e, List.pairwise_append];refine ⟨h.ne, List.pairwise_singleton _ _, fun a ha b hb => ?_⟩;cases List.mem_singleton.1 hb;obtain ⟨j, hj, hx⟩ := get a ha;have := ne j a hj hx;simpa using this
theorem ga.at_ {l : List Entry} (h : ga l) {i : Nat} (hi : i < l.length) : fG l[i] = true ∧ (0 < i → bp (l[i - 1]'(by omega)) l[i] = true) ∧ ∀ (j : Nat) x, j < i → l[j]? = some x → (x.aV == l[i].aV) = false := by
 refine ⟨h.ok _ (List.getElem_mem hi), fun h0 => ?_, fun j x hj hx => ?_⟩
 · exact (List.pairwise_iff_getElem.1 h.lt) (i - 1) i (by omega) hi (by omega)
 · have := (List.pairwise_iff_getElem.1 h.ne) j i (by omega) hi hj;rw [List.getElem?_eq_getElem (by omega)] at hx;cases hx;simpa using this
theorem yh {l : List Entry} {i : Nat} (hi : i < l.length) : (cY l l[i].aV = (i : Int)) ↔ ∀ (j : Nat) x, j < i → l[j]? = some x → (x.aV == l[i].aV) = false := by
 constructor
 · intro h j x hj hx;rcases im (fun e : Entry => e.aV == l[i].aV) l with ⟨h1, _⟩ | ⟨k, hk, h1, h2, h3⟩
   · have : cY l l[i].aV = -1 := h1;omega
   · have : cY l l[i].aV = (k : Int) := h1;exact h3 j x (by omega) hx
 · exact fun h => mb hi (by simp) h
theorem yi {l : List Entry} {i : Nat} (hi : i < l.length) : (cY (l.take i) l[i].aV < 0) ↔ ∀ (j : Nat) x, j < i → l[j]? = some x → (x.aV == l[i].aV) = false := by
 constructor
 · intro h j x hj hx;rcases im (fun e : Entry => e.aV == l[i].aV) (l.take i) with ⟨_, h1⟩ | ⟨k, hk, h1, _⟩
   · exact h1 x (List.mem_iff_getElem?.2 ⟨j, by rw [List.getElem?_take, if_pos hj]; exact hx⟩)
   · have : cY (l.take i) l[i].aV = (k : Int) := h1;omega
 · intro h
   have : cY (l.take i) l[i].aV = -1 := mc fun j x hx => by
     rw [List.getElem?_take] at hx
     split at hx
     · exact h j x (by assumption) hx
     · cases hx
   omega
theorem Gq {l : List Entry} (h : ¬ ga l) : dI l = false := by simp [dI, h]
theorem Gr {l : List Entry} (h : 10 < l.length) : dI l = false := by
 unfold dI; rw [decide_eq_false (by omega : ¬ l.length ≤ 10)]; rfl
theorem vz {l : List Entry} (h : l.length ≤ 10) (hq : ga l) : dI l = true := by simp [dI, h, hq]
theorem ND (a : List Entry) (b : Bool) (hb : b = dI a) : Spec Tryz.prog 258 [lA .aH a] (aE (bR fun _ => b)) := by
 refine ay au Tryz.func258 rfl rfl (fr := true) (fun _ => by kernel_rfl) fun P hP hA => ?_;obtain ⟨⟨ha, _⟩, _⟩ := hA;have ha : a.length ≤ 9223372036854775807 := ha;cbv;refine Br.dec (fun h0 => ?_) (fun h0 => ?_) <;> cbv
 · have h0 : (a.length : Int) > 10 := h0;refine ⟨?_, trivial⟩;exact (hb.trans (Gr (by omega))).symm
 have h0 : ¬ (a.length : Int) > 10 := h0;refine aU.by (X := Nat) (fun i => [(0, lA .aH a), (3, nT fun _ => i)]) (fun _ => []) (fun i => i ≤ a.length ∧ ga (a.take i)) (fun i _ => a.length - i) 0 ⟨Nat.zero_le _, by rw [List.take_zero]; exact ga.nil⟩ ?_ ?_
 · cbv
   repeat' first | exact trivial | refine ⟨rfl, ?_⟩ | fail
 · intro i ⟨hi, hn⟩;cbv;refine Br.dec (fun h2 => ?_) (fun h2 => ?_) <;> cbv
   rotate_left
   · have h2 : a.length ≤ i := by simp at h2; omega
     refine ⟨?_, trivial⟩;rw [List.take_of_length_le h2] at hn;simp only [nc] at *;exact (hb.trans (vz (by omega) hn)).symm
   have h2 : i < a.length := by simpa using h2
   have no : ∀ {c : Prop}, (ga a → c) → ¬ c → b = false := fun h1 h2 => hb.trans (Gq fun h => h2 (h1 h));refine ⟨a[i], by simp, get_cast a h2, ?_⟩;cbv;refine ag.by hP (da a[i].lvl 0 4) ?_;cbv;refine Br.split (fun k0 => ?_) (fun k0 => ?_) <;> cbv
   · refine ⟨?_, trivial⟩;exact (no (fun h => (h.at_ h2).1) (by simp_all [fG])).symm
   refine ag.by hP (da a[i].aC 1 1000000) ?_;cbv;refine Br.split (fun k1 => ?_) (fun k1 => ?_) <;> cbv
   · refine ⟨?_, trivial⟩;exact (no (fun h => (h.at_ h2).1) (by simp_all [fG])).symm
   refine ag.by hP (da a[i].aV 1 999) ?_;cbv;refine Br.split (fun k2 => ?_) (fun k2 => ?_) <;> cbv
   · refine ⟨?_, trivial⟩;exact (no (fun h => (h.at_ h2).1) (by simp_all [fG])).symm
   refine ag.by hP (da a[i].al 1 6) ?_;cbv;refine Br.split (fun k3 => ?_) (fun k3 => ?_) <;> cbv
   · refine ⟨?_, trivial⟩;exact (no (fun h => (h.at_ h2).1) (by simp_all [fG])).symm
   have ok : fG a[i] = true := by simp_all [fG]
   clear k0 k1 k2 k3;refine Br.dec (fun k4 => ?_) (fun k4 => ?_) <;> cbv
   · have k4 : (i : Int) > 0 := k4;have h3 : i - 1 < a.length := by omega
     have hc : ((i : Int) - 1).toNat = i - 1 := by omega
     refine Ar.exact (by (try simp only [nc] at *); omega) (by (try simp only [nc] at *); omega) ?_;cbv;refine ⟨a[i - 1], by (try simp only [nc] at *); omega, by simp only [nc]; rw [hc]; exact List.getElem?_eq_getElem h3, ?_⟩;cbv;refine ag.by hP (Gh a[i - 1] a[i]) ?_;cbv;refine Br.split (fun k5 => ?_) (fun k5 => ?_) <;> cbv
     · refine ⟨?_, trivial⟩;exact (no (fun h => (h.at_ h2).2.1 (by simp only [nc] at *; omega)) (by simpa using k5)).symm
     have k5 : bp a[i - 1] a[i] = true := by simpa using k5
     refine ag.by hP (Bt a a[i].aV (cY a a[i].aV) rfl) ?_;cbv;refine Br.split (fun k6 => ?_) (fun k6 => ?_) <;> cbv
     · refine ⟨?_, trivial⟩;have k6 : (cY a a[i].aV != (i : Int)) = true := k6;exact (no (fun h => (yh h2).2 (h.at_ h2).2.2) (by simpa using k6)).symm
     have k6 : (cY a a[i].aV != (i : Int)) = false := k6;have k6 : cY a a[i].aV = (i : Int) := by simpa using k6
     refine Ar.exact (by (try simp only [nc] at *); omega) (by (try simp only [nc] at *); omega) ?_;cbv;refine aP.by (i + 1) ?_ ?_ ?_
     · show a.length - (i + 1) < a.length - i;omega
     · exact ⟨h2, hn.snoc h2 ok (fun _ => k5) ((yh h2).1 k6)⟩
     · cbv
       repeat' first | exact trivial | refine ⟨rfl, ?_⟩ | fail
   · have k4 : ¬ (i : Int) > 0 := k4;refine ag.by hP (Bt a a[i].aV (cY a a[i].aV) rfl) ?_;cbv;refine Br.split (fun k6 => ?_) (fun k6 => ?_) <;> cbv
     · refine ⟨?_, trivial⟩;have k6 : (cY a a[i].aV != (i : Int)) = true := k6;exact (no (fun h => (yh h2).2 (h.at_ h2).2.2) (by simpa using k6)).symm
     have k6 : (cY a a[i].aV != (i : Int)) = false := k6;have k6 : cY a a[i].aV = (i : Int) := by simpa using k6
     refine Ar.exact (by (try simp only [nc] at *); omega) (by (try simp only [nc] at *); omega) ?_;cbv;refine aP.by (i + 1) ?_ ?_ ?_
     · show a.length - (i + 1) < a.length - i;omega
     · exact ⟨h2, hn.snoc h2 ok (fun h => absurd h (by simp only [nc] at *; omega)) ((yh h2).1 k6)⟩
     · cbv
       repeat' first | exact trivial | refine ⟨rfl, ?_⟩ | fail
theorem vA (a : List Entry) (b : Bool) (hb : b = dI a) : Spec Tryz.prog 204 [lA .aH a] (aE (bR fun _ => b)) := by
 refine ay au Tryz.func204 rfl rfl (fr := true) (fun _ => by kernel_rfl) fun P hP hA => ?_;obtain ⟨⟨ha, _⟩, _⟩ := hA;have ha : a.length ≤ 9223372036854775807 := ha;cbv;refine Br.dec (fun h0 => ?_) (fun h0 => ?_) <;> cbv
 · have h0 : (a.length : Int) > 10 := h0;refine ⟨?_, trivial⟩;exact (hb.trans (Gr (by omega))).symm
 have h0 : ¬ (a.length : Int) > 10 := h0;refine aU.by (X := Nat) (fun i => [(0, lA .aH a), (8, lA .aH a), (9, nT fun _ => a.length), (10, nT fun _ => i)]) (fun _ => []) (fun i => i ≤ a.length ∧ ga (a.take i)) (fun i _ => a.length - i) 0 ⟨Nat.zero_le _, by rw [List.take_zero]; exact ga.nil⟩ ?_ ?_
 · cbv
   repeat' first | exact trivial | refine ⟨rfl, ?_⟩ | fail
 · intro i ⟨hi, hn⟩;cbv;refine Br.dec (fun h2 => ?_) (fun h2 => ?_) <;> cbv
   rotate_left
   · have h2 : a.length ≤ i := by simp at h2; omega
     refine ⟨?_, trivial⟩;rw [List.take_of_length_le h2] at hn;simp only [nc] at *;exact (hb.trans (vz (by omega) hn)).symm
   have h2 : i < a.length := by simpa using h2
   have no : ∀ {c : Prop}, (ga a → c) → ¬ c → b = false := fun h1 h2 => hb.trans (Gq fun h => h2 (h1 h));refine ⟨a[i], by simp, get_cast a h2, ?_⟩;cbv;have tk : cY ((a.take ((i : Int)).toNat).drop ((0 : Int)).toNat) a[i].aV = cY (a.take i) a[i].aV := by simp
   refine Br.dec (fun k4 => ?_) (fun k4 => ?_) <;> cbv
   · have k4 : (i : Int) > 0 := k4;have h3 : i - 1 < a.length := by omega
     have hc : ((i : Int) - 1).toNat = i - 1 := by omega
     refine Ar.exact (by (try simp only [nc] at *); omega) (by (try simp only [nc] at *); omega) ?_;cbv;refine ⟨a[i - 1], by (try simp only [nc] at *); omega, by simp only [nc]; rw [hc]; exact List.getElem?_eq_getElem h3, ?_⟩;cbv;refine ag.by hP (Gj a[i - 1] a[i]) ?_;cbv;refine Br.split (fun k5 => ?_) (fun k5 => ?_) <;> cbv
     · refine ⟨?_, trivial⟩;exact (no (fun h => (h.at_ h2).2.1 (by simp only [nc] at *; omega)) (by simpa using k5)).symm
     have k5 : bp a[i - 1] a[i] = true := by simpa using k5
     refine ⟨⟨by simp, by simp only [nc] at *; omega, by simp only [nc] at *; omega⟩, ?_⟩;cbv;refine ag.by hP (Bv ((a.take ((i : Int)).toNat).drop ((0 : Int)).toNat) a[i].aV (cY (a.take i) a[i].aV) tk.symm) ?_;cbv;refine Br.dec (fun k6 => ?_) (fun k6 => ?_) <;> cbv
     · refine ⟨?_, trivial⟩;have k6 : cY (a.take i) a[i].aV ≥ 0 := k6;exact (no (fun h => (yi h2).2 (h.at_ h2).2.2) (by omega)).symm
     have k6 : ¬ cY (a.take i) a[i].aV ≥ 0 := k6;have k6 := (yi h2).1 (by omega);refine ag.by hP (nM a[i].lvl 5 (by omega) (by omega)) ?_;cbv;refine Br.split (fun q0 => ?_) (fun q0 => ?_) <;> cbv
     · refine ⟨?_, trivial⟩;exact (no (fun h => (h.at_ h2).1) (by simp_all [fG])).symm
     refine ag.by hP (cW a[i].aC 1 1000000) ?_;cbv;refine Br.split (fun q1 => ?_) (fun q1 => ?_) <;> cbv
     · refine ⟨?_, trivial⟩;exact (no (fun h => (h.at_ h2).1) (by simp_all [fG])).symm
     refine ag.by hP (cW a[i].aV 1 999) ?_;cbv;refine Br.split (fun q2 => ?_) (fun q2 => ?_) <;> cbv
     · refine ⟨?_, trivial⟩;exact (no (fun h => (h.at_ h2).1) (by simp_all [fG])).symm
     refine ag.by hP (cW a[i].al 1 6) ?_;cbv;refine Br.split (fun q3 => ?_) (fun q3 => ?_) <;> cbv
     · refine ⟨?_, trivial⟩;exact (no (fun h => (h.at_ h2).1) (by simp_all [fG])).symm
     have ok : fG a[i] = true := by simp_all [fG]
     clear q0 q1 q2 q3;refine Ar.exact (by (try simp only [nc] at *); omega) (by (try simp only [nc] at *); omega) ?_;cbv;refine aP.by (i + 1) ?_ ?_ ?_
     · show a.length - (i + 1) < a.length - i;omega
     · exact ⟨h2, hn.snoc h2 ok (fun _ => k5) k6⟩
     · cbv
       repeat' first | exact trivial | refine ⟨rfl, ?_⟩ | fail
   · have k4 : ¬ (i : Int) > 0 := k4;refine ⟨⟨by simp, by simp only [nc] at *; omega, by simp only [nc] at *; omega⟩, ?_⟩;cbv;refine ag.by hP (Bv ((a.take ((i : Int)).toNat).drop ((0 : Int)).toNat) a[i].aV (cY (a.take i) a[i].aV) tk.symm) ?_;cbv;refine Br.dec (fun k6 => ?_) (fun k6 => ?_) <;> cbv
     · refine ⟨?_, trivial⟩;have k6 : cY (a.take i) a[i].aV ≥ 0 := k6;exact (no (fun h => (yi h2).2 (h.at_ h2).2.2) (by omega)).symm
     have k6 : ¬ cY (a.take i) a[i].aV ≥ 0 := k6;have k6 := (yi h2).1 (by omega);refine ag.by hP (nM a[i].lvl 5 (by omega) (by omega)) ?_;cbv;refine Br.split (fun q0 => ?_) (fun q0 => ?_) <;> cbv
     · refine ⟨?_, trivial⟩;exact (no (fun h => (h.at_ h2).1) (by simp_all [fG])).symm
     refine ag.by hP (cW a[i].aC 1 1000000) ?_;cbv;refine Br.split (fun q1 => ?_) (fun q1 => ?_) <;> cbv
     · refine ⟨?_, trivial⟩;exact (no (fun h => (h.at_ h2).1) (by simp_all [fG])).symm
     refine ag.by hP (cW a[i].aV 1 999) ?_;cbv;refine Br.split (fun q2 => ?_) (fun q2 => ?_) <;> cbv
     · refine ⟨?_, trivial⟩;exact (no (fun h => (h.at_ h2).1) (by simp_all [fG])).symm
     refine ag.by hP (cW a[i].al 1 6) ?_;cbv;refine Br.split (fun q3 => ?_) (fun q3 => ?_) <;> cbv
     · refine ⟨?_, trivial⟩;exact (no (fun h => (h.at_ h2).1) (by simp_all [fG])).symm
     have ok : fG a[i] = true := by simp_all [fG]
     clear q0 q1 q2 q3;refine Ar.exact (by (try simp only [nc] at *); omega) (by (try simp only [nc] at *); omega) ?_;cbv;refine aP.by (i + 1) ?_ ?_ ?_
     · show a.length - (i + 1) < a.length - i;omega
     · exact ⟨h2, hn.snoc h2 ok (fun h => absurd h (by simp only [nc] at *; omega)) k6⟩
     · cbv
       repeat' first | exact trivial | refine ⟨rfl, ?_⟩ | fail
theorem Gs {a b : Entry} (Rp : a.lvl = b.lvl) (Rq : a.aC = b.aC) (Rr : a.aV = b.aV) (Rs : a.al = b.al) : a = b := by
 cases a; cases b; simp_all
theorem Gt {a b : aB} (Rt : a.tm = b.tm) (Ru : a.pid = b.pid) : a = b := by
 cases a; cases b; simp_all
theorem NG (a b : List Entry) : Spec Tryz.prog 227 [lA .aH a, lA .aH b] (aE (bR fun _ => decide (a = b))) := by
 refine ay au Tryz.func227 rfl rfl (fr := true) (fun _ => by kernel_rfl) fun P hP hA => ?_;obtain ⟨⟨ha, _⟩, _⟩ := hA;have ha : a.length ≤ 9223372036854775807 := ha;cbv;refine Br.split (fun h1 => ?_) (fun h1 => ?_) <;> cbv
 · refine ⟨?_, trivial⟩;have := l7 (a := a) (b := b) h1;simp [this]
 have h1 := l6 (a := a) (b := b) h1;refine aU.by (X := Nat) (fun i => [(0, lA .aH a), (1, lA .aH b), (5, nT fun _ => i)]) (fun _ => []) (fun i => i ≤ a.length ∧ a.take i = b.take i) (fun i _ => a.length - i) 0 ⟨Nat.zero_le _, by simp⟩ ?_ ?_
 · cbv
   repeat' first | exact trivial | refine ⟨rfl, ?_⟩ | fail
 · intro i ⟨hi, ht⟩;cbv;refine Br.dec (fun h2 => ?_) (fun h2 => ?_) <;> cbv
   · have h2 : i < a.length := by simpa using h2
     have iE : i < b.length := h1 ▸ h2;refine ⟨a[i], by simp, get_cast a h2, ?_⟩;cbv;refine ⟨b[i], by simp, get_cast b iE, ?_⟩;cbv;refine Br.split (fun h3 => ?_) (fun h3 => ?_) <;> cbv
     · refine ⟨?_, trivial⟩;have := l4 h2 iE (fun he => by rw [he] at h3; simp at h3);simp [this]
     · refine Ar.exact (by (try simp only [nc] at *); omega) (by (try simp only [nc] at *); omega) ?_;cbv;refine aP.by (i + 1) ?_ ?_ ?_
       · show a.length - (i + 1) < a.length - i;omega
       · refine ⟨h2, l3 ht h2 iE ?_⟩;simp only [Bool.not_eq_false', Bool.and_eq_true, beq_iff_eq, Bool.and_true] at h3;exact (by obtain ⟨g0, g1, g2, g3⟩ := h3; exact Gs g0 g1 g2 g3)
       · cbv
         repeat' first | exact trivial | refine ⟨rfl, ?_⟩ | fail
   · refine ⟨?_, trivial⟩;have h2 : a.length ≤ i := by simp at h2; omega
     simp [l5 h1 h2 ht]
theorem NH (a b : List aB) : Spec Tryz.prog 228 [lA .aI a, lA .aI b] (aE (bR fun _ => decide (a = b))) := by
 refine ay au Tryz.func228 rfl rfl (fr := true) (fun _ => by kernel_rfl) fun P hP hA => ?_;obtain ⟨⟨ha, _⟩, _⟩ := hA;have ha : a.length ≤ 9223372036854775807 := ha;cbv;refine Br.split (fun h1 => ?_) (fun h1 => ?_) <;> cbv
 · refine ⟨?_, trivial⟩;have := l7 (a := a) (b := b) h1;simp [this]
 have h1 := l6 (a := a) (b := b) h1;refine aU.by (X := Nat) (fun i => [(0, lA .aI a), (1, lA .aI b), (5, nT fun _ => i)]) (fun _ => []) (fun i => i ≤ a.length ∧ a.take i = b.take i) (fun i _ => a.length - i) 0 ⟨Nat.zero_le _, by simp⟩ ?_ ?_
 · cbv
   repeat' first | exact trivial | refine ⟨rfl, ?_⟩ | fail
 · intro i ⟨hi, ht⟩;cbv;refine Br.dec (fun h2 => ?_) (fun h2 => ?_) <;> cbv
   · have h2 : i < a.length := by simpa using h2
     have iE : i < b.length := h1 ▸ h2;refine ⟨a[i], by simp, get_cast a h2, ?_⟩;cbv;refine ⟨b[i], by simp, get_cast b iE, ?_⟩;cbv;refine Br.split (fun h3 => ?_) (fun h3 => ?_) <;> cbv
     · refine ⟨?_, trivial⟩;have := l4 h2 iE (fun he => by rw [he] at h3; simp at h3);simp [this]
     · refine Ar.exact (by (try simp only [nc] at *); omega) (by (try simp only [nc] at *); omega) ?_;cbv;refine aP.by (i + 1) ?_ ?_ ?_
       · show a.length - (i + 1) < a.length - i;omega
       · refine ⟨h2, l3 ht h2 iE ?_⟩;simp only [Bool.not_eq_false', Bool.and_eq_true, beq_iff_eq, Bool.and_true] at h3;exact (by obtain ⟨g0, g1⟩ := h3; exact Gt g0 g1)
       · cbv
         repeat' first | exact trivial | refine ⟨rfl, ?_⟩ | fail
   · refine ⟨?_, trivial⟩;have h2 : a.length ≤ i := by simp at h2; omega
     simp [l5 h1 h2 ht]
theorem NI (a b : List Entry) : Spec Tryz.prog 249 [lA .aH a, lA .aH b] (aE (bR fun _ => decide (a = b))) := by
 refine ay au Tryz.func249 rfl rfl (fr := true) (fun _ => by kernel_rfl) fun P hP hA => ?_;obtain ⟨⟨ha, _⟩, _⟩ := hA;have ha : a.length ≤ 9223372036854775807 := ha;cbv;refine Br.split (fun h1 => ?_) (fun h1 => ?_) <;> cbv
 · refine ⟨?_, trivial⟩;have := l7 (a := a) (b := b) h1;simp [this]
 have h1 := l6 (a := a) (b := b) h1;refine aU.by (X := Nat) (fun i => [(0, lA .aH a), (1, lA .aH b), (12, nT fun _ => a.length), (13, nT fun _ => i)]) (fun _ => []) (fun i => i ≤ a.length ∧ a.take i = b.take i) (fun i _ => a.length - i) 0 ⟨Nat.zero_le _, by simp⟩ ?_ ?_
 · cbv
   repeat' first | exact trivial | refine ⟨rfl, ?_⟩ | fail
 · intro i ⟨hi, ht⟩;cbv;refine Br.dec (fun h2 => ?_) (fun h2 => ?_) <;> cbv
   · have h2 : i < a.length := by simpa using h2
     have iE : i < b.length := h1 ▸ h2;refine ⟨a[i], by simp, get_cast a h2, ?_⟩;cbv;refine ⟨b[i], by simp, get_cast b iE, ?_⟩;cbv;refine Br.split (fun h3 => ?_) (fun h3 => ?_) <;> cbv
     · refine ⟨?_, trivial⟩;have := l4 h2 iE (fun he => by rw [he] at h3; simp at h3);simp [this]
     · refine Ar.exact (by (try simp only [nc] at *); omega) (by (try simp only [nc] at *); omega) ?_;cbv;refine aP.by (i + 1) ?_ ?_ ?_
       · show a.length - (i + 1) < a.length - i;omega
       · refine ⟨h2, l3 ht h2 iE ?_⟩;simp only [Bool.not_eq_false', Bool.and_eq_true, beq_iff_eq, Bool.and_true] at h3;exact (by obtain ⟨g0, g1, g2, g3⟩ := h3; exact Gs g0 g1 g2 g3)
       · cbv
         repeat' first | exact trivial | refine ⟨rfl, ?_⟩ | fail
   · refine ⟨?_, trivial⟩;have h2 : a.length ≤ i := by simp at h2; omega
     simp [l5 h1 h2 ht]
theorem NJ (a b : List aB) : Spec Tryz.prog 250 [lA .aI a, lA .aI b] (aE (bR fun _ => decide (a = b))) := by
 refine ay au Tryz.func250 rfl rfl (fr := true) (fun _ => by kernel_rfl) fun P hP hA => ?_;obtain ⟨⟨ha, _⟩, _⟩ := hA;have ha : a.length ≤ 9223372036854775807 := ha;cbv;refine Br.split (fun h1 => ?_) (fun h1 => ?_) <;> cbv
 · refine ⟨?_, trivial⟩;have := l7 (a := a) (b := b) h1;simp [this]
 have h1 := l6 (a := a) (b := b) h1;refine aU.by (X := Nat) (fun i => [(0, lA .aI a), (1, lA .aI b), (12, nT fun _ => a.length), (13, nT fun _ => i)]) (fun _ => []) (fun i => i ≤ a.length ∧ a.take i = b.take i) (fun i _ => a.length - i) 0 ⟨Nat.zero_le _, by simp⟩ ?_ ?_
 · cbv
   repeat' first | exact trivial | refine ⟨rfl, ?_⟩ | fail
 · intro i ⟨hi, ht⟩;cbv;refine Br.dec (fun h2 => ?_) (fun h2 => ?_) <;> cbv
   · have h2 : i < a.length := by simpa using h2
     have iE : i < b.length := h1 ▸ h2;refine ⟨a[i], by simp, get_cast a h2, ?_⟩;cbv;refine ⟨b[i], by simp, get_cast b iE, ?_⟩;cbv;refine Br.split (fun h3 => ?_) (fun h3 => ?_) <;> cbv
     · refine ⟨?_, trivial⟩;have := l4 h2 iE (fun he => by rw [he] at h3; simp at h3);simp [this]
     · refine Ar.exact (by (try simp only [nc] at *); omega) (by (try simp only [nc] at *); omega) ?_;cbv;refine aP.by (i + 1) ?_ ?_ ?_
       · show a.length - (i + 1) < a.length - i;omega
       · refine ⟨h2, l3 ht h2 iE ?_⟩;simp only [Bool.not_eq_false', Bool.and_eq_true, beq_iff_eq, Bool.and_true] at h3;exact (by obtain ⟨g0, g1⟩ := h3; exact Gt g0 g1)
       · cbv
         repeat' first | exact trivial | refine ⟨rfl, ?_⟩ | fail
   · refine ⟨?_, trivial⟩;have h2 : a.length ≤ i := by simp at h2; omega
     simp [l5 h1 h2 ht]
theorem vB (a : List Entry) (hn : a.length ≤ bc) : Spec Tryz.prog 162 [lA .aH a] (aE (lR .aH fun _ => a)) := by
 refine ay au Tryz.func162 rfl rfl (fr := true) (fun _ => by kernel_rfl) fun P hP hA => ?_;have hn : a.length ≤ 1048576 := hn;cbv;refine ⟨by show (0 + a.length) * 32 ≤ 140737488355328; omega, ?_⟩;cbv
 repeat' first | exact trivial | refine ⟨rfl, ?_⟩ | fail
theorem yj {α : Type} {lt : α → α → Bool} {l : List α} {e : α} {i : Nat} (hn : ∀ (j : Nat) y, j < i → l[j]? = some y → lt y e = true) (h : ∀ y, l[i]? = some y → lt y e = false) : l.take i ++ [e] ++ l.drop i = bS lt e l := by
 rw [zD hn h]; simp
theorem Gu (a : List Entry) (e : Entry) (hn : a.length ≤ bc) : Spec Tryz.prog 213 [lA .aH a, eA .aH e] (aE (lR .aH fun _ => bS bp e a)) := by
 refine ay au Tryz.func213 rfl rfl (fr := true) (fun _ => by kernel_rfl) fun P hP hA => ?_;have hs : a.length ≤ 1048576 := hn;cbv;refine aU.by (X := Nat) (fun i => [(0, lA .aH a), (3, pN 0), (5, nT fun _ => i)]) (fun _ => [(0, .box ((bQ .aH fun _ => e).map .lf))]) (fun i => i ≤ a.length ∧ ∀ (j : Nat) y, j < i → a[j]? = some y → bp y e = true) (fun i _ => a.length - i) 0 ⟨Nat.zero_le _, fun j y hj => by omega⟩ ?_ ?_
 · cbv
   repeat' first | exact trivial | refine ⟨rfl, ?_⟩ | fail
 · intro i ⟨hi, hx⟩;cbv;refine Br.dec (fun h2 => ?_) (fun h2 => ?_) <;> cbv
   · have h2 : i < a.length := by simpa using h2
     refine ⟨a[i], by simp, get_cast a h2, ?_⟩;cbv;refine ag.by hP (Gh a[i] e) ?_;cbv;refine Br.split (fun h3 => ?_) (fun h3 => ?_) <;> cbv
     · refine Ar.exact (by (try simp only [nc] at *); omega) (by (try simp only [nc] at *); omega) ?_;cbv;refine aP.by (i + 1) ?_ ?_ ?_
       · show a.length - (i + 1) < a.length - i;omega
       · exact ⟨h2, f_ h2 hx h3⟩
       · cbv
         repeat' first | exact trivial | refine ⟨rfl, ?_⟩ | fail
     · have hf : ∀ y, a[i]? = some y → bp y e = false := fun y hy => by
         rw [List.getElem?_eq_getElem h2] at hy; cases hy; exact h3
       have nO : i ≤ a.length := hi;refine ⟨⟨by simp, by simp only [nc] at *; omega, by simp only [nc] at *; omega⟩, ?_⟩;cbv;have tk : (a.take ((i : Int)).toNat).drop ((0 : Int)).toNat = a.take i := by simp
       have dp : (a.take (a.length : Int).toNat).drop ((i : Int)).toNat = a.drop i := by simp
       have o1 : (List.length ((a.take ((i : Int)).toNat).drop ((0 : Int)).toNat) + 1) * 32 ≤ 140737488355328 := by rw [tk, List.length_take]; omega
       have o2 : (List.length ((a.take ((i : Int)).toNat).drop ((0 : Int)).toNat ++ [e]) + List.length ((a.take (a.length : Int).toNat).drop ((i : Int)).toNat)) * 32 ≤ 140737488355328 := by rw [tk, dp, List.length_append, List.length_take, List.length_drop]; simp; omega
       have fin : (a.take ((i : Int)).toNat).drop ((0 : Int)).toNat ++ [e] ++ (a.take (a.length : Int).toNat).drop ((i : Int)).toNat = bS bp e a := by rw [tk, dp]; exact yj hx hf
       have os : 0 ≤ (i : Int) ∧ (i : Int) ≤ (a.length : Int) ∧ (a.length : Int) ≤ (a.length : Int) := ⟨by omega, by omega, by omega⟩
       repeat' first
         | (refine ag.by hP (vB ((a.take ((i : Int)).toNat).drop ((0 : Int)).toNat) (by rw [tk, List.length_take]; show _ ≤ 1048576; omega)) ?_; cbv)
         | (refine Ob.mk (by first | exact o1 | exact o2 | exact os) ?_; cbv)
         | refine And.intro ?_ ?_
         | exact ⟨fin, trivial⟩
         | fail
   · have h2 : a.length ≤ i := by simp at h2; omega
     have nO : i ≤ a.length := hi
     have hf : ∀ y, a[i]? = some y → bp y e = false := fun y hy => by
       rw [List.getElem?_eq_none h2] at hy; cases hy
     refine ⟨⟨by simp, by simp only [nc] at *; omega, by simp only [nc] at *; omega⟩, ?_⟩;cbv;have tk : (a.take ((i : Int)).toNat).drop ((0 : Int)).toNat = a.take i := by simp
     have dp : (a.take (a.length : Int).toNat).drop ((i : Int)).toNat = a.drop i := by simp
     have o1 : (List.length ((a.take ((i : Int)).toNat).drop ((0 : Int)).toNat) + 1) * 32 ≤ 140737488355328 := by rw [tk, List.length_take]; omega
     have o2 : (List.length ((a.take ((i : Int)).toNat).drop ((0 : Int)).toNat ++ [e]) + List.length ((a.take (a.length : Int).toNat).drop ((i : Int)).toNat)) * 32 ≤ 140737488355328 := by rw [tk, dp, List.length_append, List.length_take, List.length_drop]; simp; omega
     have fin : (a.take ((i : Int)).toNat).drop ((0 : Int)).toNat ++ [e] ++ (a.take (a.length : Int).toNat).drop ((i : Int)).toNat = bS bp e a := by rw [tk, dp]; exact yj hx hf
     have os : 0 ≤ (i : Int) ∧ (i : Int) ≤ (a.length : Int) ∧ (a.length : Int) ≤ (a.length : Int) := ⟨by omega, by omega, by omega⟩
     repeat' first
       | (refine ag.by hP (vB ((a.take ((i : Int)).toNat).drop ((0 : Int)).toNat) (by rw [tk, List.length_take]; show _ ≤ 1048576; omega)) ?_; cbv)
       | (refine Ob.mk (by first | exact o1 | exact o2 | exact os) ?_; cbv)
       | refine And.intro ?_ ?_
       | exact ⟨fin, trivial⟩
       | fail
theorem Bx (a : List aB) (e : aB) (hn : a.length ≤ bc) : Spec Tryz.prog 174 [lA .aI a, eA .aI e] (aE (lR .aI fun _ => bS bm e a)) := by
 refine ay au Tryz.func174 rfl rfl (fr := true) (fun _ => by kernel_rfl) fun P hP hA => ?_;have hs : a.length ≤ 1048576 := hn;cbv;refine aU.by (X := Nat) (fun i => [(0, lA .aI a), (3, pN 0), (5, nT fun _ => i)]) (fun _ => [(0, .box ((bQ .aI fun _ => e).map .lf))]) (fun i => i ≤ a.length ∧ ∀ (j : Nat) y, j < i → a[j]? = some y → bm y e = true) (fun i _ => a.length - i) 0 ⟨Nat.zero_le _, fun j y hj => by omega⟩ ?_ ?_
 · cbv
   repeat' first | exact trivial | refine ⟨rfl, ?_⟩ | fail
 · intro i ⟨hi, hx⟩;cbv;refine Br.dec (fun h2 => ?_) (fun h2 => ?_) <;> cbv
   · have h2 : i < a.length := by simpa using h2
     refine ⟨a[i], by simp, get_cast a h2, ?_⟩;cbv;refine ag.by hP (Gk a[i] e) ?_;cbv;refine Br.split (fun h3 => ?_) (fun h3 => ?_) <;> cbv
     · refine Ar.exact (by (try simp only [nc] at *); omega) (by (try simp only [nc] at *); omega) ?_;cbv;refine aP.by (i + 1) ?_ ?_ ?_
       · show a.length - (i + 1) < a.length - i;omega
       · exact ⟨h2, f_ h2 hx h3⟩
       · cbv
         repeat' first | exact trivial | refine ⟨rfl, ?_⟩ | fail
     · have hf : ∀ y, a[i]? = some y → bm y e = false := fun y hy => by
         rw [List.getElem?_eq_getElem h2] at hy; cases hy; exact h3
       have nO : i ≤ a.length := hi;refine ⟨⟨by simp, by simp only [nc] at *; omega, by simp only [nc] at *; omega⟩, ?_⟩;cbv;have tk : (a.take ((i : Int)).toNat).drop ((0 : Int)).toNat = a.take i := by simp
       refine ⟨by show (0 + List.length ((a.take ((i : Int)).toNat).drop ((0 : Int)).toNat)) * 16 ≤ 140737488355328; rw [tk, List.length_take]; omega, ?_⟩;cbv;refine ⟨by show (List.length ([] ++ (a.take ((i : Int)).toNat).drop ((0 : Int)).toNat) + 1) * 16 ≤ 140737488355328; rw [tk, List.nil_append, List.length_take]; omega, ?_⟩;cbv;refine ⟨⟨by simp, by simp only [nc] at *; omega, by simp⟩, ?_⟩;cbv;have dp : (a.take (a.length : Int).toNat).drop ((i : Int)).toNat = a.drop i := by simp
       refine ⟨by show (List.length ([] ++ (a.take ((i : Int)).toNat).drop ((0 : Int)).toNat ++ [e]) + List.length ((a.take (a.length : Int).toNat).drop ((i : Int)).toNat)) * 16 ≤ 140737488355328; rw [tk, dp, List.nil_append, List.length_append, List.length_take, List.length_drop]; simp; omega, ?_⟩;cbv;refine ⟨?_, trivial⟩;show [] ++ (a.take ((i : Int)).toNat).drop ((0 : Int)).toNat ++ [e] ++ (a.take (a.length : Int).toNat).drop ((i : Int)).toNat = bS bm e a;rw [tk, dp, List.nil_append];exact yj hx hf
   · have h2 : a.length ≤ i := by simp at h2; omega
     have nO : i ≤ a.length := hi
     have hf : ∀ y, a[i]? = some y → bm y e = false := fun y hy => by
       rw [List.getElem?_eq_none h2] at hy; cases hy
     refine ⟨⟨by simp, by simp only [nc] at *; omega, by simp only [nc] at *; omega⟩, ?_⟩;cbv;have tk : (a.take ((i : Int)).toNat).drop ((0 : Int)).toNat = a.take i := by simp
     refine ⟨by show (0 + List.length ((a.take ((i : Int)).toNat).drop ((0 : Int)).toNat)) * 16 ≤ 140737488355328; rw [tk, List.length_take]; omega, ?_⟩;cbv;refine ⟨by show (List.length ([] ++ (a.take ((i : Int)).toNat).drop ((0 : Int)).toNat) + 1) * 16 ≤ 140737488355328; rw [tk, List.nil_append, List.length_take]; omega, ?_⟩;cbv;refine ⟨⟨by simp, by simp only [nc] at *; omega, by simp⟩, ?_⟩;cbv;have dp : (a.take (a.length : Int).toNat).drop ((i : Int)).toNat = a.drop i := by simp
     refine ⟨by show (List.length ([] ++ (a.take ((i : Int)).toNat).drop ((0 : Int)).toNat ++ [e]) + List.length ((a.take (a.length : Int).toNat).drop ((i : Int)).toNat)) * 16 ≤ 140737488355328; rw [tk, dp, List.nil_append, List.length_append, List.length_take, List.length_drop]; simp; omega, ?_⟩;cbv;refine ⟨?_, trivial⟩;show [] ++ (a.take ((i : Int)).toNat).drop ((0 : Int)).toNat ++ [e] ++ (a.take (a.length : Int).toNat).drop ((i : Int)).toNat = bS bm e a;rw [tk, dp, List.nil_append];exact yj hx hf
end Go.Proofs.YticeaiiffeccmaaGreat

