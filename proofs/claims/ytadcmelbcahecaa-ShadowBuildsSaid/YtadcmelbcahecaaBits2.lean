/- More laws of bits on int: one bit, some bits in the middle, all but the lowest twelve. No program in sight. -/
import Derived.Test.YtadcmelbcahecaaBits
namespace Go.Proofs.Ytadcmelbcahecaa
open Go.RowKit

theorem and_field_nat (A m k : Nat) : A &&& ((2 ^ m - 1) * 2 ^ k) = A / 2 ^ k % 2 ^ m * 2 ^ k := by
  rw [← Nat.and_two_pow_sub_one_eq_mod, ← Nat.shiftRight_eq_div_pow, ← Nat.shiftLeft_eq, ← Nat.shiftLeft_eq]
  apply Nat.eq_of_testBit_eq
  intro i
  rw [Nat.testBit_and, Nat.testBit_shiftLeft, Nat.testBit_shiftLeft, Nat.testBit_and, Nat.testBit_shiftRight]
  by_cases h : k ≤ i
  · simp [h, Nat.add_sub_cancel' h]
  · simp [h]

theorem and_nat (a : Int) (M : Nat) (hM : M < 9223372036854775808) : bits .and .i64 a (M : Int) = (((a % 18446744073709551616).toNat &&& M : Nat) : Int) := by
  have hm : (BitVec.ofInt 64 (M : Int)).toNat = M := by
    rw [BitVec.ofInt_natCast, BitVec.toNat_ofNat]
    exact Nat.mod_eq_of_lt (by omega)
  have ha : (BitVec.ofInt 64 a).toNat = (a % 18446744073709551616).toNat := by
    have := ofInt64_toNat a
    omega
  show IntKind.i64.wrap ((BitVec.ofInt 64 a &&& BitVec.ofInt 64 (M : Int)).toNat : Int) = _
  rw [BitVec.toNat_and, hm, ha, IntKind.wrap_i64]
  have := Nat.and_le_right (n := (a % 18446744073709551616).toNat) (m := M)
  omega

theorem bit0 (a : Int) : bits .and .i64 a 1 = a % 2 := and1 a
theorem bit1 (a : Int) : bits .and .i64 a 2 = a / 2 % 2 * 2 := by
  have h := and_nat a 2 (by decide)
  have h2 := and_field_nat (a % 18446744073709551616).toNat 1 1
  rw [show (2 ^ 1 - 1) * 2 ^ 1 = 2 from rfl] at h2
  rw [h2] at h
  simp only [Nat.reducePow] at h
  rw [show ((2 : Nat) : Int) = 2 from rfl] at h
  rw [h]
  omega
theorem bit2 (a : Int) : bits .and .i64 a 4 = a / 4 % 2 * 4 := by
  have h := and_nat a 4 (by decide)
  have h2 := and_field_nat (a % 18446744073709551616).toNat 1 2
  rw [show (2 ^ 1 - 1) * 2 ^ 2 = 4 from rfl] at h2
  rw [h2] at h
  simp only [Nat.reducePow] at h
  rw [show ((4 : Nat) : Int) = 4 from rfl] at h
  rw [h]
  omega
theorem bit3 (a : Int) : bits .and .i64 a 8 = a / 8 % 2 * 8 := by
  have h := and_nat a 8 (by decide)
  have h2 := and_field_nat (a % 18446744073709551616).toNat 1 3
  rw [show (2 ^ 1 - 1) * 2 ^ 3 = 8 from rfl] at h2
  rw [h2] at h
  simp only [Nat.reducePow] at h
  rw [show ((8 : Nat) : Int) = 8 from rfl] at h
  rw [h]
  omega
theorem bit4 (a : Int) : bits .and .i64 a 16 = a / 16 % 2 * 16 := by
  have h := and_nat a 16 (by decide)
  have h2 := and_field_nat (a % 18446744073709551616).toNat 1 4
  rw [show (2 ^ 1 - 1) * 2 ^ 4 = 16 from rfl] at h2
  rw [h2] at h
  simp only [Nat.reducePow] at h
  rw [show ((16 : Nat) : Int) = 16 from rfl] at h
  rw [h]
  omega
theorem bit14 (a : Int) : bits .and .i64 a 30 = a / 2 % 16 * 2 := by
  have h := and_nat a 30 (by decide)
  have h2 := and_field_nat (a % 18446744073709551616).toNat 4 1
  rw [show (2 ^ 4 - 1) * 2 ^ 1 = 30 from rfl] at h2
  rw [h2] at h
  simp only [Nat.reducePow] at h
  rw [show ((30 : Nat) : Int) = 30 from rfl] at h
  rw [h]
  omega
theorem and31 (a : Int) : bits .and .i64 a 31 = a % 32 := i64_and_mask a 5 (by decide)
theorem bit31 (a : Int) : bits .and .i64 a 2147483648 = a / 2147483648 % 2 * 2147483648 := by
  have h := and_nat a 2147483648 (by decide)
  have h2 := and_field_nat (a % 18446744073709551616).toNat 1 31
  rw [show (2 ^ 1 - 1) * 2 ^ 31 = 2147483648 from rfl] at h2
  rw [h2] at h
  simp only [Nat.reducePow] at h
  rw [show ((2147483648 : Nat) : Int) = 2147483648 from rfl] at h
  rw [h]
  omega

theorem andnot12 (a : Int) (h0 : 0 ≤ a) (h1 : a < 9223372036854775808) : bits .andNot .i64 a 4095 = a / 4096 * 4096 := by
  have ha : (BitVec.ofInt 64 a).toNat = a.toNat := by
    have := ofInt64_toNat a
    omega
  show IntKind.i64.wrap ((BitVec.ofInt 64 a &&& ~~~ BitVec.ofInt 64 4095).toNat : Int) = _
  rw [BitVec.toNat_and, ha, show (~~~ BitVec.ofInt 64 4095).toNat = (2 ^ 52 - 1) * 2 ^ 12 from by decide, and_field_nat, IntKind.wrap_i64]
  simp only [Nat.reducePow]
  omega

theorem or12 (x y : Int) (h0 : 0 ≤ x) (h1 : x < 1125899906842624) (h2 : 0 ≤ y) (h3 : y < 4096) : bits .or .i64 (x * 4096) y = x * 4096 + y :=
  bits_join .i64 62 (by decide) (fun n _ _ => by rw [IntKind.wrap_i64]; omega) 12 (x * 4096) y (by omega) (by omega) (by omega) h2 h3 (by omega)
end Go.Proofs.Ytadcmelbcahecaa
