/-
  Plain laws on lists. No conditions.
-/
import Derived.Test.YtnmdhpaobmjefaaTab
namespace Go.Proofs.Ytnmdhpaobmjefaa
open Go

def iT (t : Unit → Int) : V := .c (.lf (.int .i64 t))
def bT (t : Unit → Bool) : V := .c (.lf (.bool t))
def lT (E : ETy) (t : Unit → List E.α) : V := .c (.lf (.list E t))
def oN (k : Nat) : V := .c (.own k)
def pN (k : Nat) : V := .c (.ptr k 0)
def ownB' (E : ETy) (t : Unit → List E.α) : Blk := .own E t false

section
variable {α : Type}

theorem fill_set (a : List α) (d : α) {i : Nat} (h : i < a.length) : (a.take i ++ List.replicate (a.length - i) d).set i a[i] = a.take (i + 1) ++ List.replicate (a.length - (i + 1)) d := by
  obtain ⟨m, hm⟩ : ∃ m, a.length - i = m + 1 := ⟨a.length - i - 1, by omega⟩
  have h2 : a.length - (i + 1) = m := by omega
  rw [hm, h2, List.set_append_right _ _ (by rw [List.length_take]; omega), List.length_take, Nat.min_eq_left (by omega), Nat.sub_self, List.replicate_succ, List.set_cons_zero, List.take_add_one, List.getElem?_eq_getElem h]
  simp only [Option.toList_some, List.append_assoc, List.singleton_append]

theorem fill_len (a : List α) (d : α) {i : Nat} (h : i ≤ a.length) : (a.take i ++ List.replicate (a.length - i) d).length = a.length := by
  simp; omega

theorem fill_all (a : List α) (d : α) : a.take a.length ++ List.replicate (a.length - a.length) d = a := by simp

theorem take_step {a b : List α} {i : Nat} (h : a.take i = b.take i) (ha : i < a.length) (hb : i < b.length) (he : a[i] = b[i]) : a.take (i + 1) = b.take (i + 1) := by
  rw [List.take_add_one, List.take_add_one, h, List.getElem?_eq_getElem ha, List.getElem?_eq_getElem hb, he]

theorem take_ne {a b : List α} {i : Nat} (ha : i < a.length) (hb : i < b.length) (he : a[i] ≠ b[i]) : a ≠ b := fun h => by
  subst h; exact he rfl

theorem take_all {a b : List α} (hl : a.length = b.length) {i : Nat} (hi : a.length ≤ i) (h : a.take i = b.take i) : a = b := by
  rwa [List.take_of_length_le hi, List.take_of_length_le (by omega)] at h

theorem len_eq {a b : List α} (h : (((a.length : Nat) : Int) != ((b.length : Nat) : Int)) = false) : a.length = b.length := by
  simp at h; omega

theorem len_ne {a b : List α} (h : (((a.length : Nat) : Int) != ((b.length : Nat) : Int)) = true) : a ≠ b := by
  intro he; subst he; simp at h

theorem get_cast (xs : List α) {i : Nat} (h : i < xs.length) : xs[((i : Int)).toNat]? = some xs[i] := by
  rw [Int.toNat_natCast]; exact List.getElem?_eq_getElem h

end

/-- what a function that reckons a size says: a number that is not below 0 tells that the thing is small -/
structure szP (ok : Prop) (left r : Int) : Prop where
  lo : -1 ≤ r
  hi : r ≤ left
  ok : 0 ≤ r → ok

def bigN : Nat := 1048576

/-- numbers from k on -/
def markL (n k : Nat) : List Int := (List.range n).map fun (i : Nat) => ((k + i : Nat) : Int)

theorem markL_len (n k : Nat) : (markL n k).length = n := by simp [markL]
theorem markL_zero (k : Nat) : markL 0 k = [] := rfl
theorem markL_get (n k : Nat) {i : Nat} (h : i < (markL n k).length) : (markL n k)[i] = ((k + i : Nat) : Int) := by simp [markL]

/-- a small number, as an argument -/
def nT (t : Unit → Nat) : V := .c (.lf (.int .i64 fun _ => ((t () : Nat) : Int)))
def nR (t : Unit → Nat) : RSh := iR fun _ => ((t () : Nat) : Int)

theorem neg_no {n : Nat} (h : decide (((n : Nat) : Int) < 0) = true) : False := by
  have h := of_decide_eq_true h
  omega

theorem nat_lo (n : Nat) : -9223372036854775808 ≤ ((n : Nat) : Int) := by omega

/-- a list of which the first elements are others -/
theorem over_set {α : Type} {a b : List α} (hl : b.length = a.length) {i : Nat} (h : i < a.length) : (b.take i ++ a.drop i).set i (b[i]'(by omega)) = b.take (i + 1) ++ a.drop (i + 1) := by
  have hi : i < b.length := by omega
  rw [List.set_append_right _ _ (by rw [List.length_take]; omega), List.length_take, Nat.min_eq_left (by omega), Nat.sub_self, List.drop_eq_getElem_cons h, List.set_cons_zero, List.take_add_one, List.getElem?_eq_getElem hi]
  simp only [Option.toList_some, List.append_assoc, List.singleton_append]

theorem over_len {α : Type} {a b : List α} (hl : b.length = a.length) (i : Nat) : (b.take i ++ a.drop i).length = a.length := by
  simp; omega

theorem over_all {α : Type} {a b : List α} (hl : b.length = a.length) {i : Nat} (h : a.length ≤ i) : b.take i ++ a.drop i = b := by
  rw [List.take_of_length_le (by omega), List.drop_of_length_le h, List.append_nil]

theorem over_get {α : Type} {a b : List α} (hl : b.length = a.length) {i : Nat} (h : i < a.length) : (b.take i ++ a.drop i)[i]? = some a[i] := by
  rw [List.getElem?_append_right (by rw [List.length_take]; omega), List.length_take, Nat.min_eq_left (by omega), Nat.sub_self, List.getElem?_drop, Nat.add_zero, List.getElem?_eq_getElem h]

end Go.Proofs.Ytnmdhpaobmjefaa
