/- Parts of a proof. No conditions. -/

import Derived.Test.YtdhgmifneoenlaaGRb
set_option linter.unusedSimpArgs false
set_option linter.unusedVariables false
namespace Go.Proofs.Ytdhgmifneoenlaa
open Go
set_option maxRecDepth 100000
def crcBit (x : Nat) : Nat := if x % 2 = 1 then (x / 2) ^^^ 3988292384 else x / 2
def crcBits : Nat → Nat → Nat
  | 0, x => x
  | k + 1, x => crcBits k (crcBit x)
def crcStep (x : Nat) (b : UInt8) : Nat := crcBits 8 (x ^^^ b.toNat)
def crcN (x : Nat) (l : List UInt8) : Nat := l.foldl crcStep x
def crcOf (l : List UInt8) : Nat := crcN 4294967295 l ^^^ 4294967295
theorem xor_lt {a b : Nat} (ha : a < 4294967296) (hb : b < 4294967296) : a ^^^ b < 4294967296 := Nat.xor_lt_two_pow (n := 32) ha hb
theorem crcBit_lt {x : Nat} (h : x < 4294967296) : crcBit x < 4294967296 := by
  unfold crcBit; split
  · exact xor_lt (by omega) (by decide)
  · omega
theorem crcBits_lt : ∀ (k : Nat) {x : Nat}, x < 4294967296 → crcBits k x < 4294967296
  | 0, _, h => h
  | k + 1, _, h => crcBits_lt k (crcBit_lt h)
theorem byte_lt (b : UInt8) : b.toNat < 4294967296 := Nat.lt_trans b.toNat_lt (by decide)
theorem crcN_lt : ∀ (l : List UInt8) {x : Nat}, x < 4294967296 → crcN x l < 4294967296
  | [], _, h => h
  | b :: l, _, h => crcN_lt l (crcBits_lt 8 (xor_lt h (byte_lt b)))
theorem crcOf_lt (l : List UInt8) : crcOf l < 4294967296 := xor_lt (crcN_lt l (by decide)) (by decide)
theorem xor_bv {a b : Nat} (ha : a < 4294967296) (hb : b < 4294967296) : (((BitVec.ofInt 64 (a : Int)) ^^^ (BitVec.ofInt 64 (b : Int))).toNat : Int) = ((a ^^^ b : Nat) : Int) := by
  rw [BitVec.ofInt_natCast, BitVec.ofInt_natCast, BitVec.toNat_xor, BitVec.toNat_ofNat, BitVec.toNat_ofNat, Nat.mod_eq_of_lt (by omega), Nat.mod_eq_of_lt (by omega)]
theorem and_bv {a : Nat} (ha : a < 4294967296) : (((BitVec.ofInt 64 (a : Int)) &&& (BitVec.ofInt 64 (1 : Int))).toNat : Int) = ((a % 2 : Nat) : Int) := by
  rw [BitVec.ofInt_natCast, BitVec.toNat_and, BitVec.toNat_ofNat, Nat.mod_eq_of_lt (by omega)]
  have : (BitVec.ofInt 64 (1 : Int)).toNat = 1 := by decide
  rw [this, Nat.and_one_is_mod]
theorem wrap_small {n : Nat} (h : n < 4294967296) : IntKind.i64.wrap ((n : Nat) : Int) = (n : Int) := wrap_in (has_i64.2 ⟨by omega, by omega⟩)
def four (n : Nat) : List UInt8 := [byt ((n / 16777216 : Nat) : Int), byt ((n / 65536 : Nat) : Int), byt ((n / 256 : Nat) : Int), byt (n : Int)]
def sayOf (seq : Int) (s : List UInt8) : List UInt8 := putI seq ++ s
def restOf (seq : Int) (s : List UInt8) : List UInt8 := four (crcOf (sayOf seq s)) ++ sayOf seq s
def frameOkB (seq : Int) (s : List UInt8) : Bool := isIn seq 1 1000000 && isIn s.length 1 60
def frameOf (seq : Int) (s : List UInt8) : List UInt8 := if frameOkB seq s = true then putI ((restOf seq s).length : Nat) ++ restOf seq s else []
def noteOf (seq : Int) (q : Req) : List UInt8 := frameOf seq (reqBytes q)
theorem frame_none (seq : Int) : frameOf seq [] = [] := by
  rw [frameOf, if_neg]
  simp [frameOkB, isIn]
end Go.Proofs.Ytdhgmifneoenlaa

