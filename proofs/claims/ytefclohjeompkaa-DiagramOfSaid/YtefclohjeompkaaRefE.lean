/- The reference: Join2. -/
import Derived.Test.YtefclohjeompkaaRefD
namespace Go.Proofs.Ytefclohjeompkaa
open Go Go.RowKit Go.Proofs.Gen Go.Proofs.Bdd Go.Proofs.Bdd.T

theorem Rising.snoc : ∀ {V : List Nat} {m i : Nat}, Rising m V → m ≤ i → (∀ j ∈ V, j < i) → i < 24 → Rising m (V ++ [i])
  | [], _, _, _, hm, _, hi => ⟨hm, hi⟩
  | j :: _, _, _, h, _, ha, hi => ⟨h.1, Rising.snoc h.2 (ha j (List.mem_cons_self ..)) (fun x hx => ha x (List.mem_cons_of_mem _ hx)) hi⟩

theorem featsTo_lt {f k i : Nat} (h : i ∈ featsTo f k) : i < k := by
  have := List.mem_filter.1 h
  simpa using this.1
theorem featsTo_rising (f : Nat) : ∀ k, k ≤ 24 → Rising 0 (featsTo f k)
  | 0, _ => Nat.zero_le _
  | k + 1, h => by
    rw [featsTo_succ]
    have ih := featsTo_rising f k (by omega)
    split
    · exact ih.snoc (Nat.zero_le _) (fun j hj => featsTo_lt hj) (by omega)
    · rw [List.append_nil]
      exact ih
theorem feats_rising (f : Nat) : Rising 0 (feats f) := featsTo_rising f 24 (Nat.le_refl _)

/-- A table that is filled up to k. -/
def tabTo (n : Nat) (g : Nat → Bool) (k : Nat) : List Bool := (List.range n).map (fun j => decide (j < k) && g j)
theorem tabTo_zero (n : Nat) (g : Nat → Bool) : tabTo n g 0 = List.replicate n false := by
  apply List.ext_getElem (by simp [tabTo])
  intro i h1 h2
  simp [tabTo]
theorem tabTo_succ (n : Nat) (g : Nat → Bool) (k : Nat) : tabTo n g (k + 1) = (tabTo n g k).set k (g k) := by
  apply List.ext_getElem (by simp [tabTo])
  intro i h1 h2
  rw [List.getElem_set]
  simp only [tabTo, List.getElem_map, List.getElem_range]
  by_cases h : k = i
  · subst h; simp
  · rw [if_neg h]
    have : decide (i < k + 1) = decide (i < k) := by
      rw [decide_eq_decide]; omega
    rw [this]
theorem tabTo_len (n : Nat) (g : Nat → Bool) (k : Nat) : (tabTo n g k).length = n := by simp [tabTo]

def jop (how : Nat) (x y : Bool) : Bool := if how = 0 then x && y else if how = 1 then x || y else x != y

end Go.Proofs.Ytefclohjeompkaa
