/- Plain facts on bits of 32-bit numbers, in the walk's own spelling. -/
import Derived.WalkKit
namespace Go.Proofs.Gen
open Go

theorem wraps_u32 (n : Int) (h₀ : 0 ≤ n) (h₁ : n < 2 ^ 32) : IntKind.u32.wrap n = n := by rw [IntKind.wrap_u32]; omega
theorem u32_and (a b : Nat) (ha : a < 4294967296) (hb : b < 4294967296) : bits .and .u32 a b = ((a &&& b : Nat) : Int) := (bits_nat .u32 32 (by decide) wraps_u32 a b ha hb).1
theorem u32_or (a b : Nat) (ha : a < 4294967296) (hb : b < 4294967296) : bits .or .u32 a b = ((a ||| b : Nat) : Int) := (bits_nat .u32 32 (by decide) wraps_u32 a b ha hb).2

theorem u32_shr (c i : Nat) (hi : i < 32) : (c : Int) / 2 ^ min i 32 = ((c / 2 ^ i : Nat) : Int) := by
  rw [Nat.min_eq_left (by omega)]
  simp

theorem u32_bit (c i : Nat) (hc : c < 4294967296) (hi : i < 32) : (bits .and .u32 ((c : Int) / 2 ^ min i 32) 1 == 1) = c.testBit i := by
  have hd : c / 2 ^ i < 4294967296 := Nat.lt_of_le_of_lt (Nat.div_le_self _ _) hc
  have h := u32_and (c / 2 ^ i) 1 hd (by decide)
  rw [u32_shr c i hi]
  have h' : bits .and .u32 ((c / 2 ^ i : Nat) : Int) 1 = ((c / 2 ^ i % 2 : Nat) : Int) := by
    rw [Nat.and_one_is_mod] at h
    exact h
  rw [h', Nat.testBit_eq_decide_div_mod_eq, Bool.eq_iff_iff, beq_iff_eq, decide_eq_true_iff]
  omega

theorem u32_bit' (c i : Nat) (hc : c < 4294967296) (hi : i < 32) : (bits .and .u32 ((c : Int) / 2 ^ i) 1 == 1) = c.testBit i := by
  have h := u32_bit c i hc hi
  rw [Nat.min_eq_left (by omega)] at h
  exact h

theorem u32_or_bit (s v : Nat) (hs : s < 4294967296) (hv : v < 32) : bits .or .u32 (s : Int) (2 ^ v % 4294967296) = ((s ||| 2 ^ v : Nat) : Int) := by
  have hp : 2 ^ v < 4294967296 := by
    have : 2 ^ v < 2 ^ 32 := Nat.pow_lt_pow_right (by omega) hv
    simpa using this
  have e : ((2 : Int) ^ v % 4294967296) = ((2 ^ v : Nat) : Int) := by
    have h1 : ((2 : Int) ^ v) = ((2 ^ v : Nat) : Int) := by simp
    rw [h1]
    generalize 2 ^ v = z at hp
    omega
  rw [e]
  exact u32_or s (2 ^ v) hs hp

end Go.Proofs.Gen
