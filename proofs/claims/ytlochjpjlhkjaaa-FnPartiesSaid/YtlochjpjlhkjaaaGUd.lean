/- Parts of a proof. No conditions. -/

import Derived.Test.YtlochjpjlhkjaaaG23
set_option linter.unusedSimpArgs false
set_option linter.unusedVariables false
namespace Go.Proofs.Ytlochjpjlhkjaaa
open Go
set_option maxRecDepth 100000
theorem pAt_first {l : List Party} {id : Int} {i : Nat} (hi : i < l.length) (h1 : l[i].id = id) (h2 : ∀ (j : Nat) x, j < i → l[j]? = some x → x.id ≠ id) : pAt l id = (i : Int) := by
  rcases atOf_cases (fun p : Party => p.id == id) l with ⟨_, hn⟩ | ⟨m, hm, e, e1, hmin⟩
  · have := hn _ (List.getElem_mem hi)
    simp [h1] at this
  · have e : pAt l id = (m : Int) := e
    have e1 : l[m].id = id := by simpa using e1
    rcases Nat.lt_trichotomy m i with q | q | q
    · exact (h2 m _ q (List.getElem?_eq_getElem hm) e1).elim
    · rw [e, q]
    · have := hmin i _ q (List.getElem?_eq_getElem hi)
      simp [h1] at this
theorem put_found (l : List Party) (p : Party) : ∃ i, ∃ hi : i < (partyPut l p).length, pAt (partyPut l p) p.id = (i : Int) ∧ (partyPut l p)[i] = p ∧ partyCut (partyPut l p) p.id = partyCut l p.id := by
  rcases atOf_cases (fun q : Party => q.id == p.id) l with ⟨e, hn⟩ | ⟨i, hi, e, e1, hmin⟩
  · have e : pAt l p.id = -1 := e
    have hne : ∀ x ∈ l, x.id ≠ p.id := fun x hx => by simpa using hn x hx
    have e2 : partyPut l p = l.take (putAt l p.id) ++ p :: l.drop (putAt l p.id) := if_neg (by omega)
    have hm : putAt l p.id ≤ l.length := by
      unfold putAt; split
      · exact Nat.le_refl _
      · rcases atOf_cases (fun q : Party => decide (q.id > p.id)) l with ⟨a, _⟩ | ⟨m, hm, a, _⟩
        · have a : gtAt l p.id = -1 := a
          omega
        · have a : gtAt l p.id = (m : Int) := a
          omega
    have hl : (l.take (putAt l p.id)).length = putAt l p.id := by rw [List.length_take]; omega
    have hlt : putAt l p.id < (partyPut l p).length := by rw [e2, List.length_append, hl, List.length_cons]; omega
    have hget : (partyPut l p)[putAt l p.id]? = some p := by rw [e2, List.getElem?_append_right (by omega), hl, Nat.sub_self]; rfl
    have hget' : (partyPut l p)[putAt l p.id] = p := by rw [List.getElem?_eq_getElem hlt] at hget; exact Option.some.inj hget
    have hat : pAt (partyPut l p) p.id = (putAt l p.id : Nat) := pAt_first hlt (by rw [hget']) fun j x hj hx => by
      rw [e2, List.getElem?_append_left (by omega)] at hx
      exact hne x (List.mem_of_mem_take (List.mem_of_getElem? hx))
    refine ⟨_, hlt, hat, hget', ?_⟩
    rw [cut_at hat, show partyCut l p.id = l from by rw [partyCut, e]; rfl, e2, List.take_append_of_le_length (by omega), List.take_of_length_le (by omega), List.drop_append, List.drop_of_length_le (by omega), hl,
      show putAt l p.id + 1 - putAt l p.id = 1 by omega]
    show l.take _ ++ ([] ++ l.drop _) = l
    rw [List.nil_append, List.take_append_drop]
  · have e : pAt l p.id = (i : Int) := e
    have e2 : partyPut l p = l.set i p := put_set e
    have hlt : i < (partyPut l p).length := by rw [e2, List.length_set]; exact hi
    have hget' : (partyPut l p)[i] = p := by
      have : (partyPut l p)[i]? = some p := by rw [e2, List.getElem?_set, if_pos rfl, if_pos hi]
      rw [List.getElem?_eq_getElem hlt] at this; exact Option.some.inj this
    have hat : pAt (partyPut l p) p.id = (i : Int) := pAt_first hlt (by rw [hget']) fun j x hj hx => by
      rw [e2, List.getElem?_set, if_neg (by omega)] at hx
      have := hmin j x hj hx
      simpa using this
    refine ⟨i, hlt, hat, hget', ?_⟩
    rw [cut_at hat, cut_at e, e2, List.take_set_of_le (by omega), List.drop_set_of_lt (by omega)]
end Go.Proofs.Ytlochjpjlhkjaaa

