/- Parts of a proof. No conditions. -/

import Derived.Test.YticeaiiffeccmaaGreatGOpen
import Derived.WideKeyArgs
import Derived.OpenShut
set_option linter.unusedSimpArgs false
set_option linter.unusedVariables false
namespace Go.Proofs.YticeaiiffeccmaaGreat
open Go Go.ChangeShapes Go.WideShapes
section
variable {H' : Type} {enc : TypeId × Value → H'} {P : Program} {tab : bj} {w W' : World} {base F1 : Nat} {sp : Nat → Bool} {held : Bool}
theorem Mi (hT : eW P tab = true) (hB : oZ P tab = true) (E : av) {T : TypeId} {fs : Array Field} (n : Nat) (ht : P.underlying T = some (.struct fs)) (hk : oY P tab n T = some (tp E)) {r : Reach} {v : Value} {d : DataW H'} {ps : List MemPlace}
   (ck : Value.okWide P w r F1 T v) (h : DataW.Trod enc P w base sp held T v d ps) : ∃ x : E.α, RV (fun b => w.heap[b]?) (fun _ => default) (fun _ => False) (eA E x) v := by
 obtain ⟨cs, rfl, _⟩ := okWide_struct ht ck;obtain ⟨fuel, h⟩ := h;have hc := x_ hT hB rfl fuel h hk;obtain ⟨x, hx⟩ := hc.elem;refine ⟨x, cs, rfl, ?_, fun j c hj => ?_⟩
 · have := hc.1;rw [L_] at this;simp only [List.length_map, gR];simpa [Value.cells] using this
 · rw [List.getElem?_map, Option.map_eq_some_iff] at hj;obtain ⟨l, hj, rfl⟩ := hj;have := hx j l hj
   have e : (Value.agg cs).cells.toList.getD j Go.undef = cs.getD j Go.undef := by
    rw [List.getD_eq_getElem?_getD, Array.getD_eq_getD_getElem?]; simp [Value.cells]
   rw [e] at this;exact this
theorem Mj (hT : eW P tab = true) (hB : oZ P tab = true) (E : av) {T e : TypeId} (n : Nat) (ht : P.underlying T = some (.slice e)) (hk : oY P tab n T = some [.sl E]) {r : Reach} {v : Value} {d : DataW H'} {ps : List MemPlace}
  (ck : Value.okWide P w r F1 T v) (h : DataW.Trod enc P w base sp held T v d ps) : ∃ xs : List E.α, RV (fun b => w.heap[b]?) (fun _ => default) (fun _ => False) (lA E xs) v := by
 obtain ⟨a, len, cap, rfl⟩ := okWide_slice ht ck;obtain ⟨fuel, h⟩ := h;have hc := x_ hT hB rfl fuel h hk;obtain ⟨x, c, cs, he, hx, _⟩ := hc.head;have : c = .slice a len cap := by simpa [Value.cells] using (List.cons.inj he).1.symm
 subst this;exact ⟨x, hx⟩
theorem rz (hl : laidOutB P = true) : ∀ {ts : List TypeId} {vs : List Value} {ds : List (DataW H')} {ps : List MemPlace}, (ts.all fun t => P.readableRec t && decide (t < P.types.size)) = true →
   DataW.TrodAll enc P w base (fun _ => true) true ts vs ds ps → (∀ p ∈ ps, w.sameAt W' p) → (∀ p ∈ ps, sp p.block = true) → DataW.TrodAll enc P W' base sp true ts vs ds ps
 | [], [], [], _, _, h, _, _ => h
 | [], _ :: _, _, _, _, h, _, _ => by simp [DataW.TrodAll] at h
 | [], [], _ :: _, _, _, h, _, _ => by simp [DataW.TrodAll] at h
 | t :: ts, vs, ds, ps, yb, h, hs, hp => by
   obtain ⟨v, Rk, d, Rl, p, q, rfl, rfl, rfl, h0, h1⟩ := trodAll_cons h;simp only [List.all_cons, Bool.and_eq_true, decide_eq_true_eq] at yb
   exact trodAll_cons_mk (WideElems.Trod_stays hl yb.1.1 yb.1.2 h0 (fun x hx => hs x (List.mem_append_left _ hx)) fun x hx => hp x (List.mem_append_left _ hx))
    (rz hl yb.2 h1 (fun x hx => hs x (List.mem_append_right _ hx)) fun x hx => hp x (List.mem_append_right _ hx))
end
theorem Spec.tq {P : Program} {f : FuncId} {as : List V} (h : Spec P f as (aE (bR fun _ => true))) {w : World} {vs : Array Value} (ha : args (fun b => w.heap[b]?) (fun _ => default) (fun _ => False) as vs) :
   Calls P f vs w fun e w' => e = .returned (.bool true) ∧ RowKit.Grown w w' ∧ ∀ p : MemPlace, p.block < w.heap.size → w.sameAt w' p := by
 refine Calls.mono (h.can.2 w vs ha) fun e w' hw => ?_;obtain ⟨v, r, nb, H', ρ, rfl, ⟨rfl, rfl⟩, _, hb, hv, hx⟩ := hw;have : v = .bool true := RL.of_bool hv;subst this;have hh : ∀ (b : Nat) o, w.heap[b]? = some o → w'.heap[b]? = some o := fun b o ho => hb.hh b o (hb.h0 b o ho);refine ⟨rfl, Grown.of hx hh, fun p hp => ?_⟩;cases p with
 | cell b off =>
   have d_ : b < w.heap.size := hp;have h1 := hh b _ (Array.getElem?_eq_getElem d_);have h2 := Array.getElem?_eq_getElem d_;show w'.cell? ⟨b, off, none⟩ = w.cell? ⟨b, off, none⟩;unfold World.cell?;simp only [h1, h2]
 | map b =>
   have d_ : b < w.heap.size := hp;have h1 := hh b _ (Array.getElem?_eq_getElem d_);show w'.heap[b]? = w.heap[b]?;rw [h1, Array.getElem?_eq_getElem d_]
theorem tu {H : Hp} {ρ : aL} {D : Nat → Prop} {c0 c1 : V} {v0 v1 : Value} (h0 : RV H ρ D c0 v0) (h1 : RV H ρ D c1 v1) : args H ρ D [c0, c1] #[v0, v1] :=
 ⟨rfl, fun j x hj => by
  match j, hj with
  | 0, hj => cases hj; exact h0
  | 1, hj => cases hj; exact h1⟩
end Go.Proofs.YticeaiiffeccmaaGreat

