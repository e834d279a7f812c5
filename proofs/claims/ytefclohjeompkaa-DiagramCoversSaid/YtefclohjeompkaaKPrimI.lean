/- Prime cubes by number: the plain law. -/
import Derived.Test.YtefclohjeompkaaKPrimH
namespace Go.Proofs.Ytefclohjeompkaa
open Go Go.RowKit Go.Shelf Go.Sort Go.Proofs.Gen Go.Proofs.Bdd Go.Proofs.Bdd.T

/-- The number with given digits. -/
def numOf (g : Nat → Nat) : Nat → Nat
  | 0 => 0
  | m + 1 => numOf g m + g m * 3 ^ m

theorem numOf_lt {g : Nat → Nat} (hg : ∀ j, g j < 3) : ∀ m, numOf g m < 3 ^ m
  | 0 => by simp [numOf]
  | m + 1 => by
    have ih := numOf_lt hg m
    have h := hg m
    show numOf g m + g m * 3 ^ m < _
    rw [Nat.pow_succ]
    have : g m * 3 ^ m ≤ 2 * 3 ^ m := Nat.mul_le_mul_right _ (by omega)
    omega

theorem dig_numOf {g : Nat → Nat} (hg : ∀ j, g j < 3) : ∀ m j, j < m → dig (numOf g m) j = g j
  | 0, j, h => by omega
  | m + 1, j, h => by
    have hlt := numOf_lt hg m
    have hp : 0 < 3 ^ m := Nat.pow_pos (by omega)
    by_cases e : j = m
    · subst e
      show (numOf g j + g j * 3 ^ j) / 3 ^ j % 3 = g j
      rw [Nat.add_mul_div_right _ _ hp, Nat.div_eq_of_lt hlt, Nat.zero_add, Nat.mod_eq_of_lt (hg j)]
    · have hj : j < m := by omega
      rw [← dig_low (k := numOf g (m + 1)) hj]
      show dig ((numOf g m + g m * 3 ^ m) % 3 ^ m) j = g j
      rw [Nat.add_mul_mod_self_right, Nat.mod_eq_of_lt hlt]
      exact dig_numOf hg m j hj

theorem dig_lt3 (k j : Nat) : dig k j < 3 := Nat.mod_lt _ (by omega)

theorem numOf_dig : ∀ m k, k < 3 ^ m → numOf (dig k) m = k
  | 0, k, h => by simp at h; simp [numOf, h]
  | m + 1, k, h => by
    have hp : 0 < 3 ^ m := Nat.pow_pos (by omega)
    have ih := numOf_dig m (k % 3 ^ m) (Nat.mod_lt _ hp)
    have e : ∀ m', m' ≤ m → numOf (dig (k % 3 ^ m)) m' = numOf (dig k) m' := by
      intro m'
      induction m' with
      | zero => intro _; rfl
      | succ m' ihm =>
        intro hm'
        show numOf (dig (k % 3 ^ m)) m' + dig (k % 3 ^ m) m' * 3 ^ m' = numOf (dig k) m' + dig k m' * 3 ^ m'
        rw [ihm (by omega), dig_low (by omega)]
    show numOf (dig k) m + dig k m * 3 ^ m = k
    rw [← e m (Nat.le_refl _), ih, dig_top h, Nat.mul_comm]
    exact Nat.mod_add_div k (3 ^ m)

theorem dig_ext {m k k' : Nat} (h : k < 3 ^ m) (h' : k' < 3 ^ m) (hd : ∀ j, j < m → dig k j = dig k' j) : k = k' := by
  rw [← numOf_dig m k h, ← numOf_dig m k' h']
  have : ∀ m', m' ≤ m → numOf (dig k) m' = numOf (dig k') m' := by
    intro m'
    induction m' with
    | zero => intro _; rfl
    | succ m' ih =>
      intro hm
      show numOf (dig k) m' + dig k m' * 3 ^ m' = numOf (dig k') m' + dig k' m' * 3 ^ m'
      rw [ih (by omega), hd m' (by omega)]
  exact this m (Nat.le_refl _)

/-- A digit taken away. -/
def dropD (g : Nat → Nat) (j : Nat) : Nat → Nat := fun i => if i = j then 0 else g i

theorem numOf_drop (g : Nat → Nat) (j : Nat) : ∀ m, numOf g m = numOf (dropD g j) m + (if j < m then g j * 3 ^ j else 0)
  | 0 => by simp [numOf]
  | m + 1 => by
    have ih := numOf_drop g j m
    show numOf g m + g m * 3 ^ m = numOf (dropD g j) m + dropD g j m * 3 ^ m + _
    rw [ih]
    unfold dropD
    by_cases e : m = j
    · subst e
      simp
    · by_cases h : j < m
      · simp [e, h, show j < m + 1 by omega]; omega
      · simp [e, h, show ¬ j < m + 1 by omega]

theorem sub_dig {m k j : Nat} (h : k < 3 ^ m) (hj : j < m) : k - dig k j * 3 ^ j = numOf (dropD (dig k) j) m := by
  have h1 := numOf_drop (dig k) j m
  rw [numOf_dig m k h, if_pos hj] at h1
  omega

theorem dropD_lt3 (k j i : Nat) : dropD (dig k) j i < 3 := by
  unfold dropD
  split
  · omega
  · exact dig_lt3 _ _

/-! ### What is listed -/
theorem feats_hd (s : Nat) : ∀ i j, i < (feats s).length → j < (feats s).length → (feats s).getD i 0 = (feats s).getD j 0 → i = j := fun _ _ hi hj e => feats_inj hi hj e

/-- The cube with a number lies in a set. -/
def InC (s : Nat) (f : F) (k : Nat) : Prop := ∀ c, mtK (feats s) (feats s).length k c → f c = true

theorem inL_getD {s : Nat} {f : F} {k : Nat} (hk : k < 3 ^ (feats s).length) : (inL (feats s) (feats s).length f).getD k false = true ↔ InC s f k := by
  rw [List.getD_eq_getElem?_getD]
  unfold inL
  rw [List.getElem?_map, List.getElem?_range hk]
  exact inK_iff (feats_hd s) _ (Nat.le_refl _) f k hk

theorem mem_pks {s : Nat} {f : F} {k : Nat} : k ∈ pks s f (3 ^ (feats s).length) ↔ k < 3 ^ (feats s).length ∧ InC s f k ∧ ∀ j, j < (feats s).length → 0 < dig k j → ¬ InC s f (numOf (dropD (dig k) j) (feats s).length) := by
  unfold pks
  rw [List.mem_filter, List.mem_range]
  refine and_congr_right fun hk => ?_
  rw [Bool.and_eq_true]
  refine and_congr (inK_iff (feats_hd s) _ (Nat.le_refl _) f k hk) ?_
  constructor
  · intro h j hj h0 hin
    rw [← sub_dig hk hj] at hin
    have hlt : k - dig k j * 3 ^ j < 3 ^ (feats s).length := by omega
    rw [primeB_no hj h0 ((inL_getD hlt).2 hin)] at h
    cases h
  · intro h
    refine primeB_yes fun j hj h0 => Bool.eq_false_iff.2 fun hin => h j hj h0 ?_
    have hlt : k - dig k j * 3 ^ j < 3 ^ (feats s).length := by omega
    rw [← sub_dig hk hj]
    exact (inL_getD hlt).1 hin

theorem pks_nodup (s : Nat) (f : F) (k : Nat) : (pks s f k).Nodup := List.Pairwise.filter _ List.nodup_range

theorem kOn_bit {V : List Nat} {k : Nat} (i : Nat) : ∀ m, (kOn V k m).testBit i = true ↔ ∃ j, j < m ∧ dig k j = 2 ∧ V.getD j 0 = i
  | 0 => by simp [kOn]
  | m + 1 => by
    have ih := kOn_bit (V := V) (k := k) i m
    unfold kOn
    split
    · rename_i h2
      rw [Nat.testBit_or, Bool.or_eq_true, ih, Nat.testBit_two_pow, decide_eq_true_iff]
      constructor
      · rintro (⟨j, h1, h3, h4⟩ | h)
        · exact ⟨j, by omega, h3, h4⟩
        · exact ⟨m, by omega, h2, h⟩
      · rintro ⟨j, h1, h3, h4⟩
        by_cases e : j = m
        · subst e; exact .inr h4
        · exact .inl ⟨j, by omega, h3, h4⟩
    · rename_i h2
      rw [ih]
      constructor
      · rintro ⟨j, h1, h3, h4⟩
        exact ⟨j, by omega, h3, h4⟩
      · rintro ⟨j, h1, h3, h4⟩
        by_cases e : j = m
        · subst e; exact absurd h3 h2
        · exact ⟨j, by omega, h3, h4⟩

theorem kOff_bit {V : List Nat} {k : Nat} (i : Nat) : ∀ m, (kOff V k m).testBit i = true ↔ ∃ j, j < m ∧ dig k j = 1 ∧ V.getD j 0 = i
  | 0 => by simp [kOff]
  | m + 1 => by
    have ih := kOff_bit (V := V) (k := k) i m
    unfold kOff
    split
    · rename_i h2
      rw [Nat.testBit_or, Bool.or_eq_true, ih, Nat.testBit_two_pow, decide_eq_true_iff]
      constructor
      · rintro (⟨j, h1, h3, h4⟩ | h)
        · exact ⟨j, by omega, h3, h4⟩
        · exact ⟨m, by omega, h2, h⟩
      · rintro ⟨j, h1, h3, h4⟩
        by_cases e : j = m
        · subst e; exact .inr h4
        · exact .inl ⟨j, by omega, h3, h4⟩
    · rename_i h2
      rw [ih]
      constructor
      · rintro ⟨j, h1, h3, h4⟩
        exact ⟨j, by omega, h3, h4⟩
      · rintro ⟨j, h1, h3, h4⟩
        by_cases e : j = m
        · subst e; exact absurd h3 h2
        · exact ⟨j, by omega, h3, h4⟩

theorem cube_lits {on off : Nat} {c : Nat → Bool} : cubeF on off c = true ↔ ∀ i, i < 24 → (on.testBit i = true → c i = true) ∧ (off.testBit i = true → c i = false) := by
  unfold cubeF
  rw [litsFrom_all]
  refine ⟨fun h i hi => ?_, fun h i _ hi => ?_⟩
  · have h1 := h i (Nat.zero_le _) (by omega)
    unfold lit at h1
    refine ⟨fun h2 => ?_, fun h2 => ?_⟩
    · rw [h2] at h1
      simp at h1
      exact h1.1
    · rw [h2] at h1
      simp at h1
      exact h1.2
  · obtain ⟨h1, h2⟩ := h i (by omega)
    unfold lit
    cases ha : on.testBit i <;> cases hb : off.testBit i <;> simp
    · exact h2 hb
    · exact h1 ha
    · have := (h1 ha).symm.trans (h2 hb)
      cases this

/-- The cube of a number and the number's configurations. -/
theorem mtK_cub {s k : Nat} (c : Nat → Bool) : cubeF (cubK s k).on (cubK s k).off c = true ↔ mtK (feats s) (feats s).length k c := by
  rw [cube_lits]
  constructor
  · intro h j hj
    refine ⟨fun h1 => (h _ (feats_at_lt s j)).2 ((kOff_bit _ _).2 ⟨j, hj, h1, rfl⟩), fun h1 => (h _ (feats_at_lt s j)).1 ((kOn_bit _ _).2 ⟨j, hj, h1, rfl⟩)⟩
  · intro h i hi
    constructor
    · intro hb
      obtain ⟨j, hj, h1, rfl⟩ := (kOn_bit _ _).1 hb
      exact (h j hj).2 h1
    · intro hb
      obtain ⟨j, hj, h1, rfl⟩ := (kOff_bit _ _).1 hb
      exact (h j hj).1 h1

/-- The configuration of a cube that has nothing else on. -/
theorem mtK_min (s k : Nat) : mtK (feats s) (feats s).length k fun i => (kOn (feats s) k (feats s).length).testBit i := by
  intro j hj
  constructor
  · intro h1
    refine Bool.eq_false_iff.2 fun hb => ?_
    obtain ⟨j', hj', h2, e⟩ := (kOn_bit _ _).1 hb
    obtain rfl := feats_inj hj' hj e
    omega
  · intro h1
    exact (kOn_bit _ _).2 ⟨j, hj, h1, rfl⟩

theorem cubLt_total {x y : Cub} (h1 : ¬ cubLt x y) (h2 : ¬ cubLt y x) : x = y := by
  unfold cubLt at h1 h2
  exact Cub.eq (by omega) (by omega)

theorem sorted_only {d : Array Cub} {l : List Cub} (hp : d.toList.Perm l) (hs : SortedIn (ltOf cmpC) 0 d.size d) (hl : l.Pairwise fun x y => ¬ cubLt y x) : d.toList = l := by
  refine List.Perm.eq_of_pairwise (le := fun x y => ¬ cubLt y x) (fun a b _ _ h1 h2 => cubLt_total h2 h1) ?_ hl hp
  rw [List.pairwise_iff_getElem]
  intro i j hi hj hij
  have h := hs i j (Nat.zero_le _) hij (by simpa using hj)
  rw [lt_cmpC, decide_eq_false_iff_not] at h
  rw [getElem!_pos d i (by simpa using hi), getElem!_pos d j (by simpa using hj)] at h
  simpa using h

end Go.Proofs.Ytefclohjeompkaa
