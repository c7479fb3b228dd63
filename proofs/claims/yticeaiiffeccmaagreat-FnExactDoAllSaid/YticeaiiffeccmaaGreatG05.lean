/- Parts of a proof. No conditions. -/

import Derived.Test.YticeaiiffeccmaaGreatGTab
set_option linter.unusedSimpArgs false
set_option linter.unusedVariables false
namespace Go.Proofs.YticeaiiffeccmaaGreat
open Go
def iT (t : Unit → Int) : V := .c (.lf (.int .i64 t))
def lT (E : av) (t : Unit → List E.α) : V := .c (.lf (.list E t))
def oN (k : Nat) : V := .c (.own k)
def pN (k : Nat) : V := .c (.ptr k 0)
def aN (E : av) (t : Unit → List E.α) : ar := .own E t false
section
variable {α : Type}
theorem rB (a : List α) (d : α) {i : Nat} (h : i < a.length) : (a.take i ++ List.replicate (a.length - i) d).set i a[i] = a.take (i + 1) ++ List.replicate (a.length - (i + 1)) d := by
 obtain ⟨m, hm⟩ : ∃ m, a.length - i = m + 1 := ⟨a.length - i - 1, by omega⟩;have h2 : a.length - (i + 1) = m := by omega
 rw [hm, h2, List.set_append_right _ _ (by rw [List.length_take]; omega), List.length_take, Nat.min_eq_left (by omega), Nat.sub_self, List.replicate_succ, List.set_cons_zero, List.take_add_one, List.getElem?_eq_getElem h];simp only [Option.toList_some, List.append_assoc, List.singleton_append]
theorem rC (a : List α) (d : α) {i : Nat} (h : i ≤ a.length) : (a.take i ++ List.replicate (a.length - i) d).length = a.length := by
 simp; omega
theorem l3 {a b : List α} {i : Nat} (h : a.take i = b.take i) (ha : i < a.length) (hb : i < b.length) (he : a[i] = b[i]) : a.take (i + 1) = b.take (i + 1) := by
 rw [List.take_add_one, List.take_add_one, h, List.getElem?_eq_getElem ha, List.getElem?_eq_getElem hb, he]
theorem l4 {a b : List α} {i : Nat} (ha : i < a.length) (hb : i < b.length) (he : a[i] ≠ b[i]) : a ≠ b := fun h => by
 subst h; exact he rfl
theorem l5 {a b : List α} (hl : a.length = b.length) {i : Nat} (hi : a.length ≤ i) (h : a.take i = b.take i) : a = b := by
 rwa [List.take_of_length_le hi, List.take_of_length_le (by omega)] at h
theorem l6 {a b : List α} (h : (((a.length : Nat) : Int) != ((b.length : Nat) : Int)) = false) : a.length = b.length := by
 simp at h; omega
theorem l7 {a b : List α} (h : (((a.length : Nat) : Int) != ((b.length : Nat) : Int)) = true) : a ≠ b := by
 intro he; subst he; simp at h
theorem get_cast (xs : List α) {i : Nat} (h : i < xs.length) : xs[((i : Int)).toNat]? = some xs[i] := by
 rw [Int.toNat_natCast]; exact List.getElem?_eq_getElem h
end
structure mR (ok : Prop) (left r : Int) : Prop where
 lo : -1 ≤ r
 hi : r ≤ left
 ok : 0 ≤ r → ok
def bc : Nat := 1048576
def eY (n k : Nat) : List Int := (List.range n).map fun (i : Nat) => ((k + i : Nat) : Int)
theorem tv (n k : Nat) : (eY n k).length = n := by simp [eY]
theorem F2 (n k : Nat) {i : Nat} (h : i < (eY n k).length) : (eY n k)[i] = ((k + i : Nat) : Int) := by simp [eY]
def nT (t : Unit → Nat) : V := .c (.lf (.int .i64 fun _ => ((t () : Nat) : Int)))
def nR (t : Unit → Nat) : dv := iR fun _ => ((t () : Nat) : Int)
theorem jx {n : Nat} (h : decide (((n : Nat) : Int) < 0) = true) : False := by
 have h := of_decide_eq_true h;omega
theorem Mk {α : Type} {a b : List α} (hl : b.length = a.length) {i : Nat} (h : i < a.length) : (b.take i ++ a.drop i).set i (b[i]'(by omega)) = b.take (i + 1) ++ a.drop (i + 1) := by
 have hi : i < b.length := by omega
 rw [List.set_append_right _ _ (by rw [List.length_take]; omega), List.length_take, Nat.min_eq_left (by omega), Nat.sub_self, List.drop_eq_getElem_cons h, List.set_cons_zero, List.take_add_one, List.getElem?_eq_getElem hi];simp only [Option.toList_some, List.append_assoc, List.singleton_append]
theorem Ml {α : Type} {a b : List α} (hl : b.length = a.length) (i : Nat) : (b.take i ++ a.drop i).length = a.length := by
 simp; omega
theorem Mm {α : Type} {a b : List α} (hl : b.length = a.length) {i : Nat} (h : a.length ≤ i) : b.take i ++ a.drop i = b := by
 rw [List.take_of_length_le (by omega), List.drop_of_length_le h, List.append_nil]
set_option maxRecDepth 100000
theorem Ba (a : List Int) (left : Int) (h0 : 0 ≤ left) (hb : left ≤ 1048576) : Spec Tryz.prog 43 [lA .int a, iA left] (jR Int (fun r => mR (a.length ≤ bc) left r) fun r => iR fun _ => r) := by
 refine ay au Tryz.func43 rfl rfl (fr := true) (fun _ => by kernel_rfl) fun P hP hA => ?_;obtain ⟨⟨ha, _⟩, hl, _⟩ := hA;have ha : a.length ≤ 9223372036854775807 := ha;cbv;refine Ar.exact ?_ ?_ ?_
 · show -9223372036854775808 ≤ left - (a.length : Int);omega
 · show left - (a.length : Int) ≤ 9223372036854775807;omega
 cbv;refine Br.dec (fun h => ?_) (fun h => ?_) <;> cbv
 · refine ⟨-1, ⟨by omega, by omega, by omega⟩, ?_⟩;cbv; exact ⟨rfl, trivial⟩
 · have h : ¬ left - (a.length : Int) < 0 := h;refine ⟨left - a.length, ⟨by omega, by omega, fun _ => ?_⟩, ?_⟩
   · show a.length ≤ 1048576;omega
   · cbv; exact ⟨rfl, trivial⟩
theorem Bb (a : List Int) (hn : a.length ≤ bc) : Spec Tryz.prog 50 [lA .int a] (aE (lR .int fun _ => a)) := by
 refine ay au Tryz.func50 rfl rfl (fr := true) (fun _ => by kernel_rfl) fun P hP hA => ?_;have hn : a.length ≤ 1048576 := hn;cbv;refine ⟨?_, ?_⟩
 · show 0 ≤ (a.length : Int) ∧ (a.length : Int) ≤ a.length ∧ (a.length : Int) * 8 ≤ 140737488355328;omega
 cbv;refine aU.by (X := Nat) (fun i => [(0, lA .int a), (3, oN 0), (4, iT fun _ => i)]) (fun i => [(0, aN .int fun _ => a.take i ++ List.replicate (a.length - i) 0)]) (fun i => i ≤ a.length) (fun i _ => a.length - i) 0 (Nat.zero_le _) ?_ ?_
 · cbv;refine ⟨rfl, rfl, ?_, trivial⟩;show List.replicate ((a.length : Int)).toNat (0 : Int) = a.take 0 ++ List.replicate (a.length - 0) 0;simp
 · intro i hi;cbv;refine Br.dec (fun h2 => ?_) (fun h2 => ?_) <;> cbv
   · have h2 : i < a.length := by simpa using h2
     refine ⟨a[i], by simp, get_cast a h2, ?_⟩;cbv;refine ⟨?_, ?_⟩
     · show 0 ≤ (i : Int) ∧ (i : Int) < ((a.take i ++ List.replicate (a.length - i) (0 : Int)).length : Int);rw [rC a 0 hi]; omega
     cbv;refine Sv.ik ?_;cbv;refine Ar.exact ?_ ?_ ?_
     · show -9223372036854775808 ≤ (i : Int) + 1;omega
     · show (i : Int) + 1 ≤ 9223372036854775807;omega
     cbv;refine aP.by (i + 1) ?_ ?_ ?_
     · show a.length - (i + 1) < a.length - i;omega
     · exact h2
     · cbv;refine ⟨rfl, rfl, ?_, trivial⟩;exact rB a 0 h2
   · have h2 : a.length ≤ i := by simp at h2; omega
     refine ⟨?_, trivial⟩;show a.take i ++ List.replicate (a.length - i) 0 = a;rw [show a.length - i = 0 by omega, List.take_of_length_le h2];simp
theorem tw (a b : List Int) : Spec Tryz.prog 20 [lA .int a, lA .int b] (aE (bR fun _ => decide (a = b))) := by
 refine ay au Tryz.func20 rfl rfl (fr := true) (fun _ => by kernel_rfl) fun P hP hA => ?_;obtain ⟨⟨ha, _⟩, _⟩ := hA;have ha : a.length ≤ 9223372036854775807 := ha;cbv;refine Br.split (fun h1 => ?_) (fun h1 => ?_) <;> cbv
 · refine ⟨?_, trivial⟩;have := l7 (a := a) (b := b) h1;simp [this]
 have h1 := l6 (a := a) (b := b) h1;refine aU.by (X := Nat) (fun i => [(0, lA .int a), (1, lA .int b), (5, iT fun _ => i)]) (fun _ => []) (fun i => i ≤ a.length ∧ a.take i = b.take i) (fun i _ => a.length - i) 0 ⟨Nat.zero_le _, by simp⟩ ?_ ?_
 · cbv; exact ⟨rfl, rfl, rfl, trivial⟩
 · intro i ⟨hi, ht⟩;cbv;refine Br.dec (fun h2 => ?_) (fun h2 => ?_) <;> cbv
   · have h2 : i < a.length := by simpa using h2
     refine ⟨a[i], by simp, get_cast a h2, ?_⟩;cbv;refine ⟨b[i], by simp, get_cast b (h1 ▸ h2), ?_⟩;cbv;refine Br.split (fun h3 => ?_) (fun h3 => ?_) <;> cbv
     · refine ⟨?_, trivial⟩;have := l4 h2 (h1 ▸ h2) (by simpa using h3);simp [this]
     · refine Ar.exact ?_ ?_ ?_
       · show -9223372036854775808 ≤ (i : Int) + 1;omega
       · show (i : Int) + 1 ≤ 9223372036854775807;omega
       cbv;refine aP.by (i + 1) ?_ ?_ ?_
       · show a.length - (i + 1) < a.length - i;omega
       · exact ⟨h2, l3 ht h2 (h1 ▸ h2) (by simpa using h3)⟩
       · cbv; exact ⟨rfl, rfl, rfl, trivial⟩
   · refine ⟨?_, trivial⟩;have h2 : a.length ≤ i := by simp at h2; omega
     simp [l5 h1 h2 ht]
theorem rD (a : List Int) (k : Nat) (hk : k + a.length ≤ 4611686018427387904) :
   cB Tryz.prog 21 [oN 0, nT fun _ => k] [(0, aN .int fun _ => a)] (cV (nR fun _ => k + a.length) [(0, .own .int fun _ => eY a.length k)]) := by
 refine dW au Tryz.func21 rfl rfl (fr := true) (fun _ => by kernel_rfl) rfl rfl fun P hP hA hB => ?_;cbv;refine aU.by (X := Nat) (fun i => [(0, oN 0), (1, nT fun _ => k + i), (5, nT fun _ => i)]) (fun i => [(0, aN .int fun _ => (eY a.length k).take i ++ a.drop i)]) (fun i => i ≤ a.length) (fun i _ => a.length - i) 0 (Nat.zero_le _) ?_ ?_
 · cbv;refine ⟨rfl, rfl, ?_, trivial⟩;show a = (eY a.length k).take 0 ++ a.drop 0;simp
 · intro i hi;have hlen : ((eY a.length k).take i ++ a.drop i).length = a.length := Ml (tv _ _) i;cbv;refine Br.dec (fun h2 => ?_) (fun h2 => ?_) <;> cbv
   · have h2 : (i : Int) < (((eY a.length k).take i ++ a.drop i).length : Int) := h2;rw [hlen] at h2;have h2 : i < a.length := by omega
     refine ⟨?_, ?_⟩
     · show 0 ≤ (i : Int) ∧ (i : Int) < (((eY a.length k).take i ++ a.drop i).length : Int);rw [hlen]; omega
     cbv;refine Sv.ik ?_;cbv;refine Ar.exact ?_ ?_ ?_
     · show -9223372036854775808 ≤ ((k + i : Nat) : Int) + 1;omega
     · show ((k + i : Nat) : Int) + 1 ≤ 9223372036854775807;omega
     cbv;refine Ar.exact ?_ ?_ ?_
     · show -9223372036854775808 ≤ (i : Int) + 1;omega
     · show (i : Int) + 1 ≤ 9223372036854775807;omega
     cbv;refine aP.by (i + 1) ?_ ?_ ?_
     · show a.length - (i + 1) < a.length - i;omega
     · exact h2
     · cbv;refine ⟨rfl, rfl, ?_, trivial⟩;have := Mk (b := eY a.length k) (tv _ _) h2;rw [F2] at this;exact this
   · have h2 : ¬ (i : Int) < (((eY a.length k).take i ++ a.drop i).length : Int) := h2;rw [hlen] at h2;have h2 : a.length ≤ i := by omega
     refine ⟨?_, ?_, trivial⟩
     · exact Mm (tv _ _) h2
     · show ((k + i : Nat) : Int) = ((k + a.length : Nat) : Int);omega
theorem rE (n k : Nat) (hk : k + n ≤ 4611686018427387904) : Spec Tryz.prog 22 [lT .int fun _ => eY n k, nT fun _ => k] (aE (nR fun _ => k + n)) := by
 refine ay au Tryz.func22 rfl rfl (fr := true) (fun _ => by kernel_rfl) fun P hP hA => ?_;cbv;refine aU.by (X := Nat) (fun i => [(0, lT .int fun _ => eY n k), (1, nT fun _ => k + i), (5, nT fun _ => i)]) (fun _ => []) (fun i => i ≤ n) (fun i _ => n - i) 0 (Nat.zero_le _) ?_ ?_
 · cbv;exact ⟨rfl, rfl, rfl, trivial⟩
 · intro i hi;cbv;refine Br.dec (fun h2 => ?_) (fun h2 => ?_) <;> cbv
   · have h2 : (i : Int) < ((eY n k).length : Int) := h2;rw [tv] at h2;have h2 : i < n := by omega
     refine ⟨((k + i : Nat) : Int), by simp, ?_, ?_⟩
     · show (eY n k)[((i : Int)).toNat]? = _;rw [get_cast _ (by rw [tv]; exact h2), F2]
     cbv;refine Br.split (fun h3 => ?_) (fun h3 => ?_) <;> cbv
     · exfalso;have h3 : (((k + i : Nat) : Int) != ((k + i : Nat) : Int)) = true := h3;simp at h3
     refine Ar.exact ?_ ?_ ?_
     · show -9223372036854775808 ≤ ((k + i : Nat) : Int) + 1;omega
     · show ((k + i : Nat) : Int) + 1 ≤ 9223372036854775807;omega
     cbv;refine Ar.exact ?_ ?_ ?_
     · show -9223372036854775808 ≤ (i : Int) + 1;omega
     · show (i : Int) + 1 ≤ 9223372036854775807;omega
     cbv;refine aP.by (i + 1) ?_ ?_ ?_
     · show n - (i + 1) < n - i;omega
     · exact h2
     · cbv;exact ⟨rfl, rfl, rfl, trivial⟩
   · have h2 : ¬ (i : Int) < ((eY n k).length : Int) := h2;rw [tv] at h2;refine ⟨?_, trivial⟩;show ((k + i : Nat) : Int) = ((k + n : Nat) : Int);omega
theorem yc (n lo hi : Int) : Spec Tryz.prog 139 [iA n, iA lo, iA hi] (aE (bR fun _ => (decide (lo ≤ n) && decide (n ≤ hi)))) := by
 refine ay au Tryz.func139 rfl rfl (fr := true) (fun _ => by kernel_rfl) fun P hP hA => ?_;cbv;refine Br.dec (fun h1 => ?_) (fun h1 => ?_) <;> cbv
 · refine ⟨?_, trivial⟩;simp [h1]
 · refine ⟨?_, trivial⟩;simp [h1]
theorem Bc (n lo hi : Int) : Spec Tryz.prog 89 [iA n, iA lo, iA hi] (aE (bR fun _ => (decide (lo ≤ n) && decide (n ≤ hi)))) := by
 refine ay au Tryz.func89 rfl rfl (fr := true) (fun _ => by kernel_rfl) fun P hP hA => ?_;cbv;refine Br.dec (fun h1 => ?_) (fun h1 => ?_) <;> cbv
 · refine ⟨?_, trivial⟩;simp [h1]
 · refine ⟨?_, trivial⟩;simp [h1]
theorem Mn (n sz : Int) (h0 : 0 ≤ sz) (h1 : sz ≤ 9223372036854775807) : Spec Tryz.prog 141 [iA n, iA sz] (aE (bR fun _ => (decide (0 ≤ n) && decide (n < sz)))) := by
 refine ay au Tryz.func141 rfl rfl (fr := true) (fun _ => by kernel_rfl) fun P hP hA => ?_;cbv;refine Ar.exact ?_ ?_ ?_
 · show -9223372036854775808 ≤ sz - 1;omega
 · show sz - 1 ≤ _;omega
 cbv;refine ag.by hP (yc _ _ _) ?_;cbv;refine ⟨?_, trivial⟩;rw [Bool.eq_iff_iff]; simp only [Bool.and_eq_true, decide_eq_true_eq]; omega
def aq (n lo hi : Int) : Bool := decide (lo ≤ n) && decide (n ≤ hi)
theorem bO {n lo hi : Int} (h : aq n lo hi = true) : lo ≤ n ∧ n ≤ hi := by simpa [aq] using h
theorem cW (n lo hi : Int) : Spec Tryz.prog 139 [iA n, iA lo, iA hi] (aE (bR fun _ => aq n lo hi)) := yc n lo hi
theorem da (n lo hi : Int) : Spec Tryz.prog 89 [iA n, iA lo, iA hi] (aE (bR fun _ => aq n lo hi)) := Bc n lo hi
def field (n : Int) : Bool := decide (0 ≤ n) && decide (n ≤ 9999)
theorem Mo (n : Int) : Spec Tryz.prog 207 [iA n] (aE (bR fun _ => field n)) := by
 refine ay au Tryz.func207 rfl rfl (fr := true) (fun _ => by kernel_rfl) fun P hP hA => ?_;cbv;refine ag.by hP (Bc _ _ _) ?_;cbv;exact ⟨rfl, trivial⟩
theorem rF (q : bF) : Spec Tryz.prog 26 [eA .cT q] (aE (eR .cT fun _ => q)) := by
 refine ay au Tryz.func26 rfl rfl (fr := true) (fun _ => by kernel_rfl) fun P hP hA => ?_;cbv;exact ⟨rfl, rfl, rfl, rfl, rfl, rfl, trivial⟩
theorem Mp (n : Int) : Spec Tryz.prog 211 [iA n] (aE (bR fun _ => field n)) := by
 refine ay au Tryz.func211 rfl rfl (fr := true) (fun _ => by kernel_rfl) fun P hP hA => ?_;cbv;refine ag.by hP (yc _ _ _) ?_;cbv;exact ⟨rfl, trivial⟩
def eZ (q : bF) : Bool :=
 if q.kind = 1 then field q.id && field q.ah && (decide (-1 ≤ q.ak) && decide (q.ak ≤ 9999)) && field q.al && field q.aJ
 else if q.kind = 2 ∨ q.kind = 4 ∨ q.kind = 5 ∨ q.kind = 7 then field q.id && (q.ah == 0 && (q.ak == 0 && (q.al == 0 && q.aJ == 0)))
 else if q.kind = 3 then field q.ah && field q.al && (q.id == 0 && (q.ak == 0 && q.aJ == 0))
 else if q.kind = 6 then q.id == 0 && (q.ah == 0 && (q.ak == 0 && (q.al == 0 && q.aJ == 0)))
 else false
theorem Mq (q : bF) (b : Bool) (hb : b = eZ q) : Spec Tryz.prog 134 [eA .cT q] (aE (bR fun _ => b)) := by
 refine ay au Tryz.func134 rfl rfl (fr := true) (fun _ => by kernel_rfl) fun P hP hA => ?_;subst hb;cbv
 repeat' first
  | (refine ag.by hP (Mo _) ?_; cbv)
  | (refine ag.by hP (Bc _ _ _) ?_; cbv)
  | (refine Br.split (fun h => ?_) (fun h => ?_) <;> cbv)
 all_goals refine ⟨?_, trivial⟩
 all_goals first
  | (simp_all [eZ]; done)
  | (simp_all [eZ]; intro a b; have := h a; omega)
theorem Mr (q : bF) (b : Bool) (hb : b = eZ q) : Spec Tryz.prog 140 [eA .cT q] (aE (bR fun _ => b)) := by
 refine ay au Tryz.func140 rfl rfl (fr := true) (fun _ => by kernel_rfl) fun P hP hA => ?_;subst hb;cbv
 repeat' first
  | (refine ag.by hP (Mp _) ?_; cbv)
  | (refine ag.by hP (yc _ _ _) ?_; cbv)
  | (refine Br.split (fun h => ?_) (fun h => ?_) <;> cbv)
 all_goals refine ⟨?_, trivial⟩
 all_goals first
  | (simp_all [eZ]; done)
  | (simp_all [eZ]; intro a b; have := h a; omega)
end Go.Proofs.YticeaiiffeccmaaGreat

