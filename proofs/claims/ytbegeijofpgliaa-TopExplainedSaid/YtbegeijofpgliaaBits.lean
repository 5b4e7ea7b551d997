/-
  Bits of small numbers, as int has them.
-/
import Derived.Test.YtbegeijofpgliaaPlain
import Derived.WalkKit
namespace Go.Proofs.Ytbegeijofpgliaa
open Go.RowKit

theorem i64_small (n : Nat) (h : n < 4611686018427387904) : IntKind.i64.wrap (n : Int) = n := by
  rw [IntKind.wrap_i64]; omega

theorem ofInt64 (a : Nat) (h : a < 4611686018427387904) : (BitVec.ofInt 64 (a : Int)).toNat = a := by
  rw [BitVec.ofInt_natCast, BitVec.toNat_ofNat]; exact Nat.mod_eq_of_lt (by omega)

theorem i64_or (a b : Nat) (ha : a < 4611686018427387904) (hb : b < 4611686018427387904) : bits .or .i64 (a : Int) (b : Int) = ((a ||| b : Nat) : Int) := by
  have hx : a ||| b < 2 ^ 62 := Nat.or_lt_two_pow (by omega) (by omega)
  show IntKind.i64.wrap ((BitVec.ofInt 64 (a : Int) ||| BitVec.ofInt 64 (b : Int)).toNat : Int) = _
  rw [BitVec.toNat_or, ofInt64 a ha, ofInt64 b hb, i64_small _ (by omega)]

theorem i64_and (a b : Nat) (ha : a < 4611686018427387904) (hb : b < 4611686018427387904) : bits .and .i64 (a : Int) (b : Int) = ((a &&& b : Nat) : Int) := by
  have hx : a &&& b ≤ a := Nat.and_le_left
  show IntKind.i64.wrap ((BitVec.ofInt 64 (a : Int) &&& BitVec.ofInt 64 (b : Int)).toNat : Int) = _
  rw [BitVec.toNat_and, ofInt64 a ha, ofInt64 b hb, i64_small _ (by omega)]

theorem i64_andNot (a b : Nat) (ha : a < 4611686018427387904) (hb : b < 4611686018427387904) : bits .andNot .i64 (a : Int) (b : Int) = ((a &&& (18446744073709551615 - b) : Nat) : Int) := by
  have hx : a &&& (18446744073709551615 - b) ≤ a := Nat.and_le_left
  show IntKind.i64.wrap ((BitVec.ofInt 64 (a : Int) &&& ~~~ BitVec.ofInt 64 (b : Int)).toNat : Int) = _
  have e : 2 ^ 64 - 1 - b = 18446744073709551615 - b := by omega
  rw [BitVec.toNat_and, BitVec.toNat_not, ofInt64 a ha, ofInt64 b hb, e, i64_small _ (by omega)]

theorem pow_small (q : Nat) (h : q ≤ 60) : 2 ^ q ≤ 1152921504606846976 := by
  have := Nat.pow_le_pow_right (n := 2) (by omega) h
  simpa using this

theorem wrap_pow (q : Nat) (h : q ≤ 60) : wrap64 (2 ^ q) = ((2 ^ q : Nat) : Int) := by
  have h1 := pow_small q h
  have h2 : ((2 : Int) ^ q) = ((2 ^ q : Nat) : Int) := by simp
  rw [h2]
  generalize 2 ^ q = m at *
  unfold wrap64
  omega

theorem bitsOf_small {o : List Nat} {n : Nat} (h : ∀ i ∈ o, i < n) (hn : n ≤ 60) : bitsOf o < 4611686018427387904 := by
  have := bitsOf_lt h
  have := pow_small n hn
  omega

/-- One more bit. -/
theorem bits_more {o : List Nat} {q n : Nat} (h : ∀ i ∈ o, i < n) (hn : n ≤ 60) (hq : q ≤ 60) : bits .or .i64 (bitsOf o : Nat) (wrap64 (2 ^ q)) = ((bitsOf (o ++ [q]) : Nat) : Int) := by
  rw [wrap_pow q hq, i64_or _ _ (bitsOf_small h hn) (by have := pow_small q hq; omega), bitsOf_snoc, Nat.one_shiftLeft]

theorem filter_range_succ (p : Nat → Bool) (q : Nat) : (List.range (q + 1)).filter p = (List.range q).filter p ++ if p q then [q] else [] := by
  rw [List.range_succ, List.filter_append]
  simp [List.filter_cons]

end Go.Proofs.Ytbegeijofpgliaa
