/- The reference: a cube of one feature, as Of asks for it. -/
import Derived.Test.YtefclohjeompkaaRefM
namespace Go.Proofs.Ytefclohjeompkaa
open Go Go.RowKit Go.Proofs.Gen Go.Proofs.Bdd Go.Proofs.Bdd.T

theorem cubeN_one {i x : Nat} (hi : i < 24) : cubeN (2 ^ i) 0 x = x.testBit i := by
  have hp : (2 : Nat) ^ i < 16777216 := by
    have h1 : (2 : Nat) ^ i < 2 ^ 24 := Nat.pow_lt_pow_right (by omega) hi
    have e24 : (2 : Nat) ^ 24 = 16777216 := by decide
    omega
  have h0 := Nat.two_pow_pos i
  have ha : x &&& 2 ^ i = if x.testBit i = true then 2 ^ i else 0 := by
    apply Nat.eq_of_testBit_eq
    intro j
    rw [Nat.testBit_and, Nat.testBit_two_pow]
    by_cases h : i = j
    · subst h
      cases hx : x.testBit i <;> simp
    · split <;> simp [h]
  rw [cubeN, Nat.mod_eq_of_lt hp, ha, Nat.and_zero]
  cases x.testBit i
  · have : ((0 : Nat) == 2 ^ i) = false := by
      simp only [beq_eq_false_iff_ne, ne_eq]
      omega
    simp [this]
  · simp

theorem cube_one {w : World} {i : Nat} (hi : i < 24) : Calls Try.prog 82 #[.int .u32 ((2 ^ i : Nat) : Int), .int .u32 0] w (SPost w (feats (2 ^ i ||| 0)) (fun c => c i)) := by
  have hp : (2 : Nat) ^ i < 4294967296 := by
    have h1 : (2 : Nat) ^ i < 2 ^ 24 := Nat.pow_lt_pow_right (by omega) hi
    have e24 : (2 : Nat) ^ 24 = 16777216 := by decide
    omega
  refine (cube_table (2 ^ i) 0 hp (by decide)).mono ?_
  rintro e w' ⟨v, rfl, hv, hb⟩
  refine ⟨v, rfl, ⟨_, hv, fun c => ?_⟩, hb⟩
  rw [tabTo_rf, cubeN_one hi]
  exact cfg_idx (feats_rising _) c (feats_mem.2 ⟨hi, by rw [Nat.or_zero, Nat.testBit_two_pow]; simp⟩)

end Go.Proofs.Ytefclohjeompkaa
