/- The reference: tables and functions. -/
import Derived.Test.YtefclohjeompkaaRefF
namespace Go.Proofs.Ytefclohjeompkaa
open Go Go.RowKit Go.Proofs.Gen Go.Proofs.Bdd Go.Proofs.Bdd.T

/-- The bits of a configuration. -/
def bitOf : List Nat → Nat → Nat → Bool
  | [], _, _ => false
  | i :: V, k, j => (j == i && k % 2 == 1) || bitOf V (k / 2) j

theorem cfg_dvd : ∀ {V : List Nat} {m : Nat}, Rising m V → ∀ k, ∃ q, cfg V k = 2 ^ m * q
  | [], m, _, k => ⟨0, by simp [cfg]⟩
  | i :: V, m, h, k => by
    obtain ⟨q, hq⟩ := cfg_dvd h.2 (k / 2)
    refine ⟨2 ^ (i - m) * (k % 2 + 2 * q), ?_⟩
    have e : (2 : Nat) ^ i = 2 ^ m * 2 ^ (i - m) := by
      rw [← Nat.pow_add]
      congr 1
      have := h.1
      omega
    rw [← Nat.mul_assoc, ← e, Nat.mul_add, cfg, hq, Nat.pow_succ, Nat.mul_comm (k % 2), Nat.mul_assoc]

theorem cfg_bit : ∀ {V : List Nat} {m : Nat}, Rising m V → ∀ k j, (cfg V k).testBit j = bitOf V k j
  | [], m, _, k, j => by simp [cfg, bitOf]
  | i :: V, m, h, k, j => by
    have ih := cfg_bit h.2 (k / 2) j
    obtain ⟨q, hq⟩ := cfg_dvd h.2 (k / 2)
    have hlt : k % 2 * 2 ^ i < 2 ^ (i + 1) := by
      have h3 : k % 2 * 2 ^ i ≤ 1 * 2 ^ i := Nat.mul_le_mul_right _ (by omega)
      have h4 := Nat.two_pow_pos i
      rw [Nat.pow_succ]
      omega
    have e : cfg (i :: V) k = cfg V (k / 2) ||| k % 2 * 2 ^ i := by
      rw [cfg, Nat.add_comm, hq, Nat.two_pow_add_eq_or_of_lt hlt]
    rw [e, Nat.testBit_or, ih, bitOf, Bool.or_comm]
    congr 1
    rcases (show k % 2 = 0 ∨ k % 2 = 1 by omega) with h0 | h0
    · rw [h0]; simp
    · rw [h0, Nat.one_mul, Nat.testBit_two_pow]
      by_cases hj : i = j
      · subst hj; simp
      · simp [hj, Ne.symm hj]

theorem bitOf_not : ∀ {V : List Nat} {k j : Nat}, j ∉ V → bitOf V k j = false
  | [], _, _, _ => rfl
  | i :: V, k, j, h => by
    have h1 : j ≠ i := fun e => h (by rw [e]; exact List.mem_cons_self ..)
    have h2 : j ∉ V := fun e => h (List.mem_cons_of_mem _ e)
    simp [bitOf, h1, bitOf_not h2]

theorem idx_congr : ∀ {V : List Nat} {c c' : Nat → Bool}, (∀ i ∈ V, c i = c' i) → idx V c = idx V c'
  | [], _, _, _ => rfl
  | i :: V, c, c', h => by
    rw [idx, idx, h i (List.mem_cons_self ..), idx_congr (fun j hj => h j (List.mem_cons_of_mem _ hj))]

theorem rf_congr {V : List Nat} {T : List Bool} {c c' : Nat → Bool} (h : ∀ i ∈ V, c i = c' i) : rf V T c = rf V T c' := by
  rw [rf, rf, idx_congr h]

theorem idx_bitOf : ∀ {V : List Nat} {m : Nat}, Rising m V → ∀ k, k < 2 ^ V.length → idx V (bitOf V k) = k
  | [], m, _, k, h => by simp at h; subst h; rfl
  | i :: V, m, h, k, hk => by
    rw [List.length_cons, Nat.pow_succ] at hk
    have ih := idx_bitOf h.2 (k / 2) (by omega)
    have hn : i ∉ V := fun hm => by have := (h.2.all i hm).1; omega
    have e1 : bitOf (i :: V) k i = (k % 2 == 1) := by simp [bitOf, bitOf_not hn]
    have e2 : idx V (bitOf (i :: V) k) = idx V (bitOf V (k / 2)) := idx_congr fun j hj => by
      have : j ≠ i := fun e => hn (e ▸ hj)
      simp [bitOf, this]
    rw [idx, e1, e2, ih]
    rcases (show k % 2 = 0 ∨ k % 2 = 1 by omega) with h0 | h0 <;> rw [h0] <;> simp <;> omega

theorem idx_cfg {V : List Nat} {m : Nat} (h : Rising m V) {k : Nat} (hk : k < 2 ^ V.length) : idx V (cfg V k).testBit = k := by
  rw [show (cfg V k).testBit = bitOf V k from funext fun j => cfg_bit h k j]
  exact idx_bitOf h k hk

theorem bitOf_idx (c : Nat → Bool) (j : Nat) : ∀ {V : List Nat}, bitOf V (idx V c) j = (V.contains j && c j)
  | [] => rfl
  | i :: V => by
    have e1 : ((c i).toNat + 2 * idx V c) % 2 = (c i).toNat := by cases c i <;> simp <;> omega
    have e2 : ((c i).toNat + 2 * idx V c) / 2 = idx V c := by cases c i <;> simp <;> omega
    rw [bitOf, idx, e1, e2, bitOf_idx c j, List.contains_cons]
    by_cases h : j = i
    · subst h
      cases c j <;> simp
    · have : (j == i) = false := by simpa using h
      rw [this]
      simp

theorem cfg_idx {V : List Nat} {m : Nat} (h : Rising m V) (c : Nat → Bool) {j : Nat} (hj : j ∈ V) : (cfg V (idx V c)).testBit j = c j := by
  rw [cfg_bit h, bitOf_idx]
  simp [hj]

theorem feats_mem {f i : Nat} : i ∈ feats f ↔ i < 24 ∧ f.testBit i = true := by
  simp [feats, featsTo]

/-- A set of the reference: features and function. -/
def IsS (w : World) (v : Value) (V : List Nat) (f : (Nat → Bool) → Bool) : Prop := ∃ T, IsR w v V T ∧ ∀ c, rf V T c = f c

theorem tabTo_rf {V : List Nat} {g : Nat → Bool} (c : Nat → Bool) : rf V (tabTo (2 ^ V.length) g (2 ^ V.length)) c = g (idx V c) := by
  have h := idx_lt c V
  rw [rf, List.getD_eq_getElem?_getD, List.getElem?_eq_getElem (by rw [tabTo_len]; exact h)]
  simp [tabTo, h]

theorem join2_says {w : World} {va vb : Value} {V V' : List Nat} {f f' : (Nat → Bool) → Bool} (ha : IsS w va V f) (hb : IsS w vb V' f') (how : Nat) (hh : how < 3) :
    Calls Try.prog 103 #[va, vb, .int .i64 how] w fun e w' => ∃ v, e = .returned v ∧ IsS w' v (feats (numb V ||| numb V')) (fun c => jop how (f c) (f' c)) ∧ Below w.heap.size w w' := by
  obtain ⟨T, hT, hf⟩ := ha
  obtain ⟨T', hT', hf'⟩ := hb
  refine (join2_calls hT hT' how hh).mono ?_
  rintro e w' ⟨v, rfl, hv, hbl⟩
  refine ⟨v, rfl, ⟨_, hv, fun c => ?_⟩, hbl⟩
  rw [tabTo_rf]
  have hU := feats_rising (numb V ||| numb V')
  have m1 : ∀ i ∈ V, i ∈ feats (numb V ||| numb V') := fun i hi => feats_mem.2 ⟨(hT.rise.all i hi).2, by rw [Nat.testBit_or, numb_bit]; simp [hi]⟩
  have m2 : ∀ i ∈ V', i ∈ feats (numb V ||| numb V') := fun i hi => feats_mem.2 ⟨(hT'.rise.all i hi).2, by rw [Nat.testBit_or, numb_bit V']; simp [hi]⟩
  rw [jcell, rf_congr (fun i hi => cfg_idx hU c (m1 i hi)), rf_congr (fun i hi => cfg_idx hU c (m2 i hi)), hf, hf']

end Go.Proofs.Ytefclohjeompkaa
