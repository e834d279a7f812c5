/- More plain facts on decision trees. -/
import Derived.Test.YtefclohjeompkaaTree
namespace Go.Proofs.Bdd
namespace T

/-! ### The features of a list -/

def sup (L : List T) : Nat := L.foldl (fun a t => a ||| 2 ^ t.lv) 0

theorem sup_snoc (L : List T) (t : T) : sup (L ++ [t]) = sup L ||| 2 ^ t.lv := by simp [sup, List.foldl_append]

theorem sup_bit_aux (i : Nat) : ∀ (L : List T) (a : Nat), (L.foldl (fun a t => a ||| 2 ^ t.lv) a).testBit i = (a.testBit i || L.any (fun t => t.lv == i))
  | [], a => by simp
  | t :: L, a => by
    simp only [List.foldl_cons, List.any_cons]
    have e : decide (t.lv = i) = (t.lv == i) := by rw [Bool.eq_iff_iff]; simp
    rw [sup_bit_aux i L, Nat.testBit_or, Nat.testBit_two_pow, e, Bool.or_assoc]

theorem sup_bit (L : List T) (i : Nat) : (sup L).testBit i = L.any (fun t => t.lv == i) := by
  unfold sup
  rw [sup_bit_aux]
  simp

theorem sup_lt {L : List T} (h : ∀ t ∈ L, t.lv < 24) : sup L < 16777216 := by
  have e : (16777216 : Nat) = 2 ^ 24 := by decide
  rw [e]
  refine Nat.lt_pow_two_of_testBit _ fun i hi => ?_
  rw [sup_bit, List.any_eq_false]
  intro t ht
  have := h t ht
  simp; omega

end T
end Go.Proofs.Bdd
