/-
  Masks of an int: n & (2^k - 1) is n modulo 2^k, whatever n is. Conditions: k at most 32.
-/
import Derived.Test.YtapbphbnffggnaaKit
namespace Go.Proofs.Ytapbphbnffggnaa
set_option linter.unusedVariables false
set_option linter.unusedSimpArgs false
open Go.RowKit

theorem ofInt_toNat (n : Int) : ((BitVec.ofInt 64 n).toNat : Int) = n % 18446744073709551616 := by
  rw [BitVec.toNat_ofInt]
  have h : 0 ≤ n % ((2 : Int) ^ 64) := Int.emod_nonneg _ (by decide)
  have e : ((2 : Int) ^ 64) = 18446744073709551616 := by decide
  rw [e] at h
  show ((n % ((2 ^ 64 : Nat) : Int)).toNat : Int) = _
  rw [show (((2 ^ 64 : Nat) : Int)) = 18446744073709551616 from by decide]
  omega

theorem and_nat (n : Int) (m : Nat) (hm : m < 4294967296) : bits .and .i64 n (m : Int) = (((BitVec.ofInt 64 n).toNat &&& m : Nat) : Int) := by
  have h2 : (BitVec.ofInt 64 (m : Int)).toNat = m := by
    rw [BitVec.ofInt_natCast, BitVec.toNat_ofNat]; exact Nat.mod_eq_of_lt (by omega)
  have hx : (BitVec.ofInt 64 n).toNat &&& m ≤ m := Nat.and_le_right
  show IntKind.i64.wrap ((BitVec.ofInt 64 n &&& BitVec.ofInt 64 (m : Int)).toNat : Int) = _
  rw [BitVec.toNat_and, h2, IntKind.wrap_i64]
  omega

theorem mask (n : Int) (k : Nat) (hk : k ≤ 32) : bits .and .i64 n (((2 ^ k - 1 : Nat)) : Int) = n % ((2 ^ k : Nat) : Int) := by
  have hp : 2 ^ k ≤ 2 ^ 32 := Nat.pow_le_pow_right (by omega) hk
  have hp0 : 0 < 2 ^ k := Nat.pow_pos (by omega)
  rw [and_nat n _ (by omega), Nat.and_two_pow_sub_one_eq_mod]
  have h := ofInt_toNat n
  have hd : ((2 ^ k : Nat) : Int) ∣ 18446744073709551616 := by
    refine ⟨((2 ^ (64 - k) : Nat) : Int), ?_⟩
    rw [← Int.natCast_mul, ← Nat.pow_add, show k + (64 - k) = 64 by omega]
    decide
  rw [Int.natCast_emod, h, Int.emod_emod_of_dvd _ hd]

theorem and_1 (n : Int) : bits .and .i64 n 1 = n % 2 := mask n 1 (by omega)
theorem and_3 (n : Int) : bits .and .i64 n 3 = n % 4 := mask n 2 (by omega)
theorem and_7 (n : Int) : bits .and .i64 n 7 = n % 8 := mask n 3 (by omega)
theorem and_15 (n : Int) : bits .and .i64 n 15 = n % 16 := mask n 4 (by omega)
theorem and_31 (n : Int) : bits .and .i64 n 31 = n % 32 := mask n 5 (by omega)
theorem and_255 (n : Int) : bits .and .i64 n 255 = n % 256 := mask n 8 (by omega)
theorem and_4095 (n : Int) : bits .and .i64 n 4095 = n % 4096 := mask n 12 (by omega)
theorem and_65535 (n : Int) : bits .and .i64 n 65535 = n % 65536 := mask n 16 (by omega)

end Go.Proofs.Ytapbphbnffggnaa
