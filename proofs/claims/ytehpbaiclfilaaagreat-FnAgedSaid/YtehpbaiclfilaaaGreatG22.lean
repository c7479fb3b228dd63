/- Parts of a proof. No conditions. -/

import Derived.Test.YtehpbaiclfilaaaGreatG16
import Derived.Test.YtehpbaiclfilaaaGreatG20
import Derived.Test.YtehpbaiclfilaaaGreatG19
import Derived.Test.YtehpbaiclfilaaaGreatG07
import Derived.Test.YtehpbaiclfilaaaGreatG21
set_option linter.unusedSimpArgs false
set_option linter.unusedVariables false
namespace Go.Proofs.YtehpbaiclfilaaaGreat
open Go
set_option maxRecDepth 100000
theorem tZ {h : ai} {q : dL} (hv : bM h q = 0) : aW h = true ∧ aj q.kind 1 7 = true ∧ dN q = true := by
 cases h0 : aW h with
 | false => rw [Au h0] at hv; cases hv
 | true =>
   cases h1 : aj q.kind 1 7 with
   | false => rw [Av h0 h1] at hv; cases hv
   | true =>
     cases h2 : dN q with
     | false => rw [Aw h0 h1 h2] at hv; cases hv
     | true => exact ⟨rfl, rfl, rfl⟩
def AM (h : ai) (k : Int) (n df dh ds dt : Int) : List a_ := h.cabins.set k.toNat { aC h k with ah := bz (aC h k).ah n df dh ds dt }
def t_ (h : ai) (k n : Int) : ai := { h with cabins := AM h k n 1 0 (-1) 0, todo := fG h.todo k }
def lu : dL := ⟨6, 0, 0, 0, 0, 0⟩
def EU (h : ai) (k : Nat) (c : a_) : a_ := { c with row := cH h.rules h.ae (k : Int) (h.now + 1) }
def hX (h : ai) (i : Nat) : List a_ := h.cabins.mapIdx fun k c => if k < i then EU h k c else c
def iL (h : ai) : Nat → List Int
 | 0 => h.todo
 | i + 1 => if ja h (i : Int) > 0 then fG (iL h i) (i : Int) else iL h i
def vQ (h : ai) (i : Nat) : ai := { h with now := h.now + 1, cabins := hX h i, todo := iL h i }
def gw (h : ai) : ai := if bM h lu = 0 then vQ h h.cabins.length else h
theorem sN (h : ai) (i : Nat) : (hX h i).length = h.cabins.length := by simp [hX]
theorem EZ (h : ai) : hX h 0 = h.cabins := by
 apply List.ext_getElem?;intro j;simp [hX]
theorem E3 (h : ai) {i : Nat} (hi : i < h.cabins.length) : (hX h i).getD i default = h.cabins[i] := by
 rw [List.getD_eq_getElem?_getD, List.getElem?_eq_getElem (by rw [sN]; exact hi)];simp [hX]
theorem E4 (h : ai) {i : Nat} (hi : i < h.cabins.length) : (hX h i).set i (EU h i ((hX h i).getD i default)) = hX h (i + 1) := by
 rw [E3 h hi];apply List.ext_getElem?;intro j;rw [List.getElem?_set, sN]
 by_cases e : i = j
 · subst e;rw [if_pos rfl, if_pos hi];simp [hX, hi]
 · rw [if_neg e];simp only [hX, List.getElem?_mapIdx];cases hj : h.cabins[j]? with
   | none => rfl
   | some c =>
     simp only [Option.map_some]
     congr 1
     by_cases q : j < i
     · rw [if_pos q, if_pos (by omega)]
     · rw [if_neg q, if_neg (by omega)]
theorem Ap (l : List Int) (k : Int) : (fG l k).length ≤ l.length + 1 := by
 unfold fG; split
 · omega
 · simp
theorem oU (h : ai) : ∀ i, (iL h i).length ≤ h.todo.length + i
 | 0 => Nat.le_refl _
 | i + 1 => by
   have ih := oU h i;rw [iL]; split
   · have := Ap (iL h i) (i : Int); omega
   · omega
theorem E_ (h : ai) {i : Nat} (q : ja h (i : Int) > 0) : fG (iL h i) (i : Int) = iL h (i + 1) := (if_pos q).symm
theorem Fc (h : ai) {i : Nat} (q : ¬ ja h (i : Int) > 0) : iL h i = iL h (i + 1) := (if_neg q).symm
set_option maxHeartbeats 2000000 in
theorem o_ (h : ai) (hs : bh h) (x : ai) (hx : x = gw h) (c : Int) (hc : c = bM h lu) : Spec Tryz.prog 26 [dk h] (aE (.bc [(true, ik fun _ => x), (false, [.int .i64 fun _ => c])])) := by
 have s1 := hs.1;have s2 := hs.2.1;have s4 : h.todo.length ≤ 1048576 := hs.2.2.2.1;refine aH ay Tryz.func26 rfl rfl (fr := true) (fun _ => by kernel_rfl) fun P hP hA => ?_;cbv;refine ag.by hP (mJ h hs) ?_;cbv;refine ag.by hP (oZ h lu hs c hc) ?_;cbv;refine Br.split (fun k0 => ?_) (fun k0 => ?_) <;> cbv
 · have k0 : (c != 0) = true := k0;have k0 : ¬ c = 0 := by simpa using k0
   obtain rfl : x = h := hx.trans (if_neg (by rw [← hc]; exact k0))
   repeat' first | exact trivial | refine ⟨rfl, ?_⟩ | fail
 have k0 : (c != 0) = false := k0;obtain rfl : c = 0 := by simpa using k0
 obtain rfl : x = vQ h h.cabins.length := hx.trans (if_pos hc.symm);have hg := cI.1 (tZ hc.symm).1;have hn := bB hg.now;have fh := hg.fy;have y4 := (dO hg.rules).len;refine Ar.exact (by (try simp only [nc] at *); omega) (by (try simp only [nc] at *); omega) ?_;cbv;refine aT.by (X := Nat) (fun i => [(2, pN 0), (4, pN 1), (22, nT fun _ => h.cabins.length), (23, nT fun _ => i)]) (fun i => [(0, .box [.nil, .lf (.int .i64 fun _ => 0), .lf (.int .i64 fun _ => 0), .lf (.int .i64 fun _ => 0), .lf (.int .i64 fun _ => 0), .lf (.int .i64 fun _ => 0), .lf (.int .i64 fun _ => 0), .lf (.int .i64 fun _ => 0), .lf (.int .i64 fun _ => 0), .lf (.int .i64 fun _ => 0), .lf (.int .i64 fun _ => 0), .nil, .nil, .nil, .nil]), (1, .box [.own 2, .lf (.int .i64 fun _ => h.rules.cm), .lf (.int .i64 fun _ => h.rules.room), .lf (.int .i64 fun _ => h.rules.size), .lf (.int .i64 fun _ => h.rules.period), .lf (.int .i64 fun _ => h.rules.ck), .lf (.int .i64 fun _ => h.rules.rest), .lf (.int .i64 fun _ => h.rules.tries), .lf (.int .i64 fun _ => h.rules.bP), .lf (.int .i64 fun _ => h.now + 1), .lf (.int .i64 fun _ => h.aw), .own 3, .own 4, .own 5, .own 6]), (2, aQ .int fun _ => h.rules.ah), (3, aQ .az fun _ => h.ae), (4, aQ .cf fun _ => hX h i), (5, aQ .int fun _ => iL h i), (6, aQ .int fun _ => h.aN)]) (fun i => i ≤ h.cabins.length) (fun i _ => h.cabins.length - i) 0 (Nat.zero_le _) ?_ ?_
 · cbv
   repeat' first | exact trivial | refine ⟨rfl, ?_⟩ | refine ⟨(EZ h).symm, ?_⟩ | fail
 · intro i hi;have tl := sN h i;cbv;refine Br.dec (fun h2 => ?_) (fun h2 => ?_) <;> cbv
   rotate_left
   · have h2 : h.cabins.length ≤ i := by simp [sN] at h2; omega
     obtain rfl : i = h.cabins.length := Nat.le_antisymm hi h2
     repeat' first | exact trivial | refine ⟨rfl, ?_⟩ | fail
   have h2 : i < h.cabins.length := by simpa [sN] using h2
   have q1 := jN hg h2 (h.now + 1);have oi : 0 ≤ (i : Int) ∧ (i : Int) < ((hX h i).length : Int) := by omega
   have st : (hX h i).set ((i : Int)).toNat (EU h i ((hX h i).getD ((i : Int)).toNat default)) = hX h (i + 1) := by rw [Int.toNat_natCast]; exact E4 h h2
   have lt := oU h i;have lf := tP hg
   repeat' first
     | exact trivial
     | (refine ag.by hP (DT h.rules h.ae (i : Int) (h.now + 1) s1 s2 q1) ?_; cbv)
     | (refine Ob.mk (oi) ?_; cbv)
     | (refine Sv.mk (fun _ => hX h (i + 1)) (st) ?_; cbv)
     | (refine ag.by hP (Dy h.ae (i : Int) s2) ?_; cbv)
     | (refine Pz.mk ?_; cbv) | (refine bu.mk ?_ (by kernel_rfl) ?_; rotate_left; cbv; rotate_right) | refine ⟨rfl, ?_⟩ | refine And.intro ?_ ?_ | exact rfl | fail
   refine Br.dec (fun h3 => ?_) (fun h3 => ?_) <;> cbv
   · have h3 : ja h (i : Int) > 0 := h3;refine ag.by hP (vA (iL h i) (i : Int) (by show _ ≤ 1048576; omega) (iL h (i + 1)) (E_ h h3).symm) ?_;cbv;refine Ar.exact (by (try simp only [nc] at *); omega) (by (try simp only [nc] at *); omega) ?_;cbv;refine aJ.by (i + 1) ?_ ?_ ?_
     · show h.cabins.length - (i + 1) < h.cabins.length - i;omega
     · exact h2
     · cbv
       repeat' first | exact trivial | refine ⟨rfl, ?_⟩ | fail
   · have h3 : ¬ ja h (i : Int) > 0 := h3;refine Ar.exact (by (try simp only [nc] at *); omega) (by (try simp only [nc] at *); omega) ?_;cbv;refine aJ.by (i + 1) ?_ ?_ ?_
     · show h.cabins.length - (i + 1) < h.cabins.length - i;omega
     · exact h2
     · cbv
       repeat' first | exact trivial | refine ⟨rfl, ?_⟩ | refine ⟨Fc h h3, ?_⟩ | fail
end Go.Proofs.YtehpbaiclfilaaaGreat

