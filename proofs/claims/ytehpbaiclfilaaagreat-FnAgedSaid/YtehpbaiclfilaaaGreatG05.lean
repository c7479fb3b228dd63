/- Parts of a proof. No conditions. -/

import Derived.Test.YtehpbaiclfilaaaGreatGTab
set_option linter.unusedSimpArgs false
set_option linter.unusedVariables false
namespace Go.Proofs.YtehpbaiclfilaaaGreat
open Go
def iT (t : Unit → Int) : V := .c (.lf (.int .i64 t))
def lT (E : an) (t : Unit → List E.α) : V := .c (.lf (.list E t))
def oN (k : Nat) : V := .c (.own k)
def pN (k : Nat) : V := .c (.ptr k 0)
def aQ (E : an) (t : Unit → List E.α) : ak := .own E t false
section
variable {α : Type}
theorem rM {a b : List α} {i : Nat} (h : a.take i = b.take i) (ha : i < a.length) (hb : i < b.length) (he : a[i] = b[i]) : a.take (i + 1) = b.take (i + 1) := by
 rw [List.take_add_one, List.take_add_one, h, List.getElem?_eq_getElem ha, List.getElem?_eq_getElem hb, he]
theorem rN {a b : List α} {i : Nat} (ha : i < a.length) (hb : i < b.length) (he : a[i] ≠ b[i]) : a ≠ b := fun h => by
 subst h; exact he rfl
theorem rO {a b : List α} (hl : a.length = b.length) {i : Nat} (hi : a.length ≤ i) (h : a.take i = b.take i) : a = b := by
 rwa [List.take_of_length_le hi, List.take_of_length_le (by omega)] at h
theorem rP {a b : List α} (h : (((a.length : Nat) : Int) != ((b.length : Nat) : Int)) = false) : a.length = b.length := by
 simp at h; omega
theorem rQ {a b : List α} (h : (((a.length : Nat) : Int) != ((b.length : Nat) : Int)) = true) : a ≠ b := by
 intro he; subst he; simp at h
theorem get_cast (xs : List α) {i : Nat} (h : i < xs.length) : xs[((i : Int)).toNat]? = some xs[i] := by
 rw [Int.toNat_natCast]; exact List.getElem?_eq_getElem h
end
def aR : Nat := 1048576
def nT (t : Unit → Nat) : V := .c (.lf (.int .i64 fun _ => ((t () : Nat) : Int)))
def nR (t : Unit → Nat) : dj := iR fun _ => ((t () : Nat) : Int)
set_option maxRecDepth 100000
end Go.Proofs.YtehpbaiclfilaaaGreat
namespace Go.Proofs.YtehpbaiclfilaaaGreat
open Go
set_option maxRecDepth 100000
theorem zL (n lo hi : Int) : Spec Tryz.prog 65 [iA n, iA lo, iA hi] (aE (bR fun _ => (decide (lo ≤ n) && decide (n ≤ hi)))) := by
 refine aH ay Tryz.func65 rfl rfl (fr := true) (fun _ => by kernel_rfl) fun P hP hA => ?_;cbv;refine Br.dec (fun h1 => ?_) (fun h1 => ?_) <;> cbv
 · refine ⟨?_, trivial⟩;simp [h1]
 · refine ⟨?_, trivial⟩;simp [h1]
theorem Dm (n lo hi : Int) : Spec Tryz.prog 71 [iA n, iA lo, iA hi] (aE (bR fun _ => (decide (lo ≤ n) && decide (n ≤ hi)))) := by
 refine aH ay Tryz.func71 rfl rfl (fr := true) (fun _ => by kernel_rfl) fun P hP hA => ?_;cbv;refine Br.dec (fun h1 => ?_) (fun h1 => ?_) <;> cbv
 · refine ⟨?_, trivial⟩;simp [h1]
 · refine ⟨?_, trivial⟩;simp [h1]
theorem Pe (n sz : Int) (h0 : 0 ≤ sz) (h1 : sz ≤ 9223372036854775807) : Spec Tryz.prog 66 [iA n, iA sz] (aE (bR fun _ => (decide (0 ≤ n) && decide (n < sz)))) := by
 refine aH ay Tryz.func66 rfl rfl (fr := true) (fun _ => by kernel_rfl) fun P hP hA => ?_;cbv;refine Ar.exact ?_ ?_ ?_
 · show -9223372036854775808 ≤ sz - 1;omega
 · show sz - 1 ≤ _;omega
 cbv;refine ag.by hP (zL _ _ _) ?_;cbv;refine ⟨?_, trivial⟩;rw [Bool.eq_iff_iff]; simp only [Bool.and_eq_true, decide_eq_true_eq]; omega
def aj (n lo hi : Int) : Bool := decide (lo ≤ n) && decide (n ≤ hi)
theorem bB {n lo hi : Int} (h : aj n lo hi = true) : lo ≤ n ∧ n ≤ hi := by simpa [aj] using h
theorem cV (n lo hi : Int) : Spec Tryz.prog 65 [iA n, iA lo, iA hi] (aE (bR fun _ => aj n lo hi)) := zL n lo hi
theorem da (n lo hi : Int) : Spec Tryz.prog 71 [iA n, iA lo, iA hi] (aE (bR fun _ => aj n lo hi)) := Dm n lo hi
def field (n : Int) : Bool := decide (0 ≤ n) && decide (n ≤ 9999)
theorem Pf (n : Int) : Spec Tryz.prog 76 [iA n] (aE (bR fun _ => field n)) := by
 refine aH ay Tryz.func76 rfl rfl (fr := true) (fun _ => by kernel_rfl) fun P hP hA => ?_;cbv;refine ag.by hP (Dm _ _ _) ?_;cbv;exact ⟨rfl, trivial⟩
theorem Pg (n : Int) : Spec Tryz.prog 75 [iA n] (aE (bR fun _ => field n)) := by
 refine aH ay Tryz.func75 rfl rfl (fr := true) (fun _ => by kernel_rfl) fun P hP hA => ?_;cbv;refine ag.by hP (zL _ _ _) ?_;cbv;exact ⟨rfl, trivial⟩
def dN (q : dL) : Bool :=
 if q.kind = 1 then field q.id && field q.cf && (decide (-1 ≤ q.al) && decide (q.al ≤ 9999)) && field q.siz && field q.aK
 else if q.kind = 2 ∨ q.kind = 4 ∨ q.kind = 5 ∨ q.kind = 7 then field q.id && (q.cf == 0 && (q.al == 0 && (q.siz == 0 && q.aK == 0)))
 else if q.kind = 3 then field q.cf && field q.siz && (q.id == 0 && (q.al == 0 && q.aK == 0))
 else if q.kind = 6 then q.id == 0 && (q.cf == 0 && (q.al == 0 && (q.siz == 0 && q.aK == 0)))
 else false
theorem Iv (q : dL) (b : Bool) (hb : b = dN q) : Spec Tryz.prog 24 [eA .h_ q] (aE (bR fun _ => b)) := by
 refine aH ay Tryz.func24 rfl rfl (fr := true) (fun _ => by kernel_rfl) fun P hP hA => ?_;subst hb;cbv
 repeat' first
  | (refine ag.by hP (Pf _) ?_; cbv)
  | (refine ag.by hP (Dm _ _ _) ?_; cbv)
  | (refine Br.split (fun h => ?_) (fun h => ?_) <;> cbv)
 all_goals refine ⟨?_, trivial⟩
 all_goals first
  | (simp_all [dN]; done)
  | (simp_all [dN]; intro a b; have := h a; omega)
theorem Dn (q : dL) (b : Bool) (hb : b = dN q) : Spec Tryz.prog 23 [eA .h_ q] (aE (bR fun _ => b)) := by
 refine aH ay Tryz.func23 rfl rfl (fr := true) (fun _ => by kernel_rfl) fun P hP hA => ?_;subst hb;cbv
 repeat' first
  | (refine ag.by hP (Pg _) ?_; cbv)
  | (refine ag.by hP (zL _ _ _) ?_; cbv)
  | (refine Br.split (fun h => ?_) (fun h => ?_) <;> cbv)
 all_goals refine ⟨?_, trivial⟩
 all_goals first
  | (simp_all [dN]; done)
  | (simp_all [dN]; intro a b; have := h a; omega)
end Go.Proofs.YtehpbaiclfilaaaGreat

