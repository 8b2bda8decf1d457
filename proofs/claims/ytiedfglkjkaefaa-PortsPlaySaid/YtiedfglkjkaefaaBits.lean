/- Small laws of bits on int: a mask, a join, a shift. No program in sight. -/
import Derived.WalkKit
import Derived.Laws.BitsAllLaws
import Derived.Laws.BitsLemmas
namespace Go.Proofs.Ytiedfglkjkaefaa
open Go.RowKit

theorem ofInt64_toNat (a : Int) : ((BitVec.ofInt 64 a).toNat : Int) = a % 18446744073709551616 := by
  rw [BitVec.toNat_ofInt]
  have : (0 : Int) ≤ a % (2 ^ 64 : Nat) := Int.emod_nonneg _ (by decide)
  rw [Int.toNat_of_nonneg this]
  rfl

theorem i64_and_mask (a : Int) (k : Nat) (hk : k ≤ 62) : bits .and .i64 a ((2 ^ k - 1 : Nat) : Int) = a % ((2 ^ k : Nat) : Int) := by
  have hp : 2 ^ k ≤ 2 ^ 62 := Nat.pow_le_pow_right (by decide) hk
  have hp0 : 0 < 2 ^ k := Nat.pow_pos (by decide)
  have hm : (BitVec.ofInt 64 ((2 ^ k - 1 : Nat) : Int)).toNat = 2 ^ k - 1 := by
    rw [BitVec.ofInt_natCast, BitVec.toNat_ofNat]
    exact Nat.mod_eq_of_lt (by omega)
  show IntKind.i64.wrap ((BitVec.ofInt 64 a &&& BitVec.ofInt 64 ((2 ^ k - 1 : Nat) : Int)).toNat : Int) = _
  rw [BitVec.toNat_and, hm, Nat.and_two_pow_sub_one_eq_mod, IntKind.wrap_i64]
  have h1 : (((BitVec.ofInt 64 a).toNat % 2 ^ k : Nat) : Int) = a % ((2 ^ k : Nat) : Int) := by
    rw [Int.natCast_emod, ofInt64_toNat]
    have hd : ((2 ^ k : Nat) : Int) ∣ 18446744073709551616 := by
      have : (2 : Nat) ^ k ∣ 2 ^ 64 := Nat.pow_dvd_pow 2 (by omega)
      have h2 : ((2 ^ k : Nat) : Int) ∣ ((2 ^ 64 : Nat) : Int) := Int.natCast_dvd_natCast.2 this
      exact h2
    exact Int.emod_emod_of_dvd a hd
  rw [h1]
  have h2 : 0 ≤ a % ((2 ^ k : Nat) : Int) := Int.emod_nonneg _ (by omega)
  have h3 : a % ((2 ^ k : Nat) : Int) < ((2 ^ k : Nat) : Int) := Int.emod_lt_of_pos _ (by omega)
  omega

theorem and0 (a : Int) : bits .and .i64 a 0 = 0 := by
  have h := i64_and_mask a 0 (by decide)
  simp only [Nat.pow_zero, Nat.sub_self] at h
  rw [show ((0 : Nat) : Int) = 0 from rfl] at h
  rw [h]; omega
theorem and1 (a : Int) : bits .and .i64 a 1 = a % 2 := i64_and_mask a 1 (by decide)
theorem and3 (a : Int) : bits .and .i64 a 3 = a % 4 := i64_and_mask a 2 (by decide)
theorem and255 (a : Int) : bits .and .i64 a 255 = a % 256 := i64_and_mask a 8 (by decide)
theorem and1023 (a : Int) : bits .and .i64 a 1023 = a % 1024 := i64_and_mask a 10 (by decide)
theorem and4095 (a : Int) : bits .and .i64 a 4095 = a % 4096 := i64_and_mask a 12 (by decide)
theorem and20 (a : Int) : bits .and .i64 a 1048575 = a % 1048576 := i64_and_mask a 20 (by decide)
theorem and32 (a : Int) : bits .and .i64 a 4294967295 = a % 4294967296 := i64_and_mask a 32 (by decide)

end Go.Proofs.Ytiedfglkjkaefaa
