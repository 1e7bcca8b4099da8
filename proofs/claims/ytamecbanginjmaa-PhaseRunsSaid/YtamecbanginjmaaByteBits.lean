/-
  The bits of a byte, as the walk spells them. Conditions: numbers between 0 and 255.
-/
import Derived.Test.YtamecbanginjmaaKit
import Derived.Laws.BitsAllLaws
namespace Go.Proofs.Ytamecbanginjmaa
open Go.RowKit

/-- Bit t of x. -/
def bitZ (x t : Int) : Bool := bits .and .u8 (x / 2 ^ t.toNat) 1 == 1

theorem bit_nat (x t : Nat) (hx : x < 256) : bitZ (x : Int) (t : Int) = x.testBit t := by
  have hd : x / 2 ^ t < 256 := Nat.lt_of_le_of_lt (Nat.div_le_self _ _) hx
  unfold bitZ
  rw [Int.toNat_natCast]
  have h1 : ((x : Int) / 2 ^ t) = ((x / 2 ^ t : Nat) : Int) := by simp
  rw [h1]
  have h2 := u8_and_nat (x / 2 ^ t) 1 hd (by omega)
  rw [show ((1 : Nat) : Int) = 1 from rfl] at h2
  rw [h2, Nat.and_one_is_mod, Nat.testBit_eq_decide_div_mod_eq]
  rw [Bool.eq_iff_iff]
  simp
  omega

theorem byte_nat {x : Int} (h0 : 0 ≤ x) (h1 : x ≤ 255) : ∃ n : Nat, x = n ∧ n < 256 := ⟨x.toNat, by omega, by omega⟩

theorem bit_and {x y t : Int} (hx0 : 0 ≤ x) (hx1 : x ≤ 255) (hy0 : 0 ≤ y) (hy1 : y ≤ 255) (ht : 0 ≤ t) : bitZ (bits .and .u8 x y) t = (bitZ x t && bitZ y t) := by
  obtain ⟨a, rfl, ha⟩ := byte_nat hx0 hx1
  obtain ⟨b, rfl, hb⟩ := byte_nat hy0 hy1
  obtain ⟨k, rfl⟩ := Int.eq_ofNat_of_zero_le ht
  rw [u8_and_nat a b ha hb, bit_nat _ _ (Nat.lt_of_le_of_lt Nat.and_le_left ha), bit_nat _ _ ha, bit_nat _ _ hb, Nat.testBit_and]

theorem or_lt {a b : Nat} (ha : a < 256) (hb : b < 256) : a ||| b < 256 := Nat.or_lt_two_pow (n := 8) ha hb

theorem bit_or {x y t : Int} (hx0 : 0 ≤ x) (hx1 : x ≤ 255) (hy0 : 0 ≤ y) (hy1 : y ≤ 255) (ht : 0 ≤ t) : bitZ (bits .or .u8 x y) t = (bitZ x t || bitZ y t) := by
  obtain ⟨a, rfl, ha⟩ := byte_nat hx0 hx1
  obtain ⟨b, rfl, hb⟩ := byte_nat hy0 hy1
  obtain ⟨k, rfl⟩ := Int.eq_ofNat_of_zero_le ht
  rw [u8_or_nat a b ha hb, bit_nat _ _ (or_lt ha hb), bit_nat _ _ ha, bit_nat _ _ hb, Nat.testBit_or]

theorem and_byte {x y : Int} (hx0 : 0 ≤ x) (hx1 : x ≤ 255) (hy0 : 0 ≤ y) (hy1 : y ≤ 255) : 0 ≤ bits .and .u8 x y ∧ bits .and .u8 x y ≤ 255 := by
  obtain ⟨a, rfl, ha⟩ := byte_nat hx0 hx1
  obtain ⟨b, rfl, hb⟩ := byte_nat hy0 hy1
  rw [u8_and_nat a b ha hb]
  have : a &&& b ≤ a := Nat.and_le_left
  omega

theorem or_byte {x y : Int} (hx0 : 0 ≤ x) (hx1 : x ≤ 255) (hy0 : 0 ≤ y) (hy1 : y ≤ 255) : 0 ≤ bits .or .u8 x y ∧ bits .or .u8 x y ≤ 255 := by
  obtain ⟨a, rfl, ha⟩ := byte_nat hx0 hx1
  obtain ⟨b, rfl, hb⟩ := byte_nat hy0 hy1
  rw [u8_or_nat a b ha hb]
  have := or_lt ha hb
  omega

theorem bit_0 (x : Int) : (bits .and .u8 x 1 == 1) = bitZ x 0 := by unfold bitZ; simp
theorem bit_1 (x : Int) : (bits .and .u8 (x / 2) 1 == 1) = bitZ x 1 := rfl
theorem bit_2 (x : Int) : (bits .and .u8 (x / 4) 1 == 1) = bitZ x 2 := rfl
theorem bit_3 (x : Int) : (bits .and .u8 (x / 8) 1 == 1) = bitZ x 3 := rfl

theorem bit_zero (x : Int) (t : Nat) (h0 : 0 ≤ x) (h1 : x ≤ 255) : (bits .and .u8 (x / 2 ^ t) 1 == 0) = !bitZ x t := by
  obtain ⟨a, rfl, ha⟩ := byte_nat h0 h1
  have hd : a / 2 ^ t < 256 := Nat.lt_of_le_of_lt (Nat.div_le_self _ _) ha
  have e : ((a : Int) / 2 ^ t) = ((a / 2 ^ t : Nat) : Int) := by simp
  have h2 := u8_and_nat (a / 2 ^ t) 1 hd (by omega)
  rw [show ((1 : Nat) : Int) = 1 from rfl] at h2
  unfold bitZ
  rw [Int.toNat_natCast, e, h2, Nat.and_one_is_mod]
  rw [Bool.eq_iff_iff]
  simp
  omega
theorem bitz_0 (x : Int) (h0 : 0 ≤ x) (h1 : x ≤ 255) : (bits .and .u8 x 1 == 0) = !bitZ x 0 := by simpa using bit_zero x 0 h0 h1
theorem bitz_1 (x : Int) (h0 : 0 ≤ x) (h1 : x ≤ 255) : (bits .and .u8 (x / 2) 1 == 0) = !bitZ x 1 := bit_zero x 1 h0 h1
theorem bitz_2 (x : Int) (h0 : 0 ≤ x) (h1 : x ≤ 255) : (bits .and .u8 (x / 4) 1 == 0) = !bitZ x 2 := bit_zero x 2 h0 h1
theorem bitz_3 (x : Int) (h0 : 0 ≤ x) (h1 : x ≤ 255) : (bits .and .u8 (x / 8) 1 == 0) = !bitZ x 3 := bit_zero x 3 h0 h1

end Go.Proofs.Ytamecbanginjmaa
