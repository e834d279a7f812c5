/- Parts of a proof: PrimJ, PrimK, LawWide. -/
import Derived.Test.YtefclohjeompkaaKPrimI
import Derived.Test.YtefclohjeompkaaKPrimH
/- The prime cubes of what is true of all features, and of one at least: the plain law. -/
namespace Go.Proofs.Ytefclohjeompkaa
open Go Go.RowKit Go.Shelf Go.Sort Go.Proofs.Gen Go.Proofs.Bdd Go.Proofs.Bdd.T

/-- True of all features. -/
def AllOf (s : Nat) (f : F) : Prop := ∀ c, f c = true ↔ ∀ j, j < (feats s).length → c ((feats s).getD j 0) = true
/-- True of one at least. -/
def OneOf (s : Nat) (f : F) : Prop := ∀ c, f c = true ↔ ∃ j, j < (feats s).length ∧ c ((feats s).getD j 0) = true

theorem mem_at {s i : Nat} (h : i ∈ feats s) : ∃ j, j < (feats s).length ∧ (feats s).getD j 0 = i := by
  obtain ⟨j, hj, e⟩ := List.getElem_of_mem h
  refine ⟨j, hj, ?_⟩
  rw [List.getD_eq_getElem?_getD, List.getElem?_eq_getElem hj]
  simpa using e

theorem allOf_in {s : Nat} {f : F} (h : AllOf s f) (k : Nat) : InC s f k ↔ ∀ j, j < (feats s).length → dig k j = 2 := by
  constructor
  · intro hi j hj
    have h1 := (h _).1 (hi _ (mtK_min s k)) j hj
    obtain ⟨j', hj', h2, e⟩ := (kOn_bit _ _).1 h1
    obtain rfl := feats_inj hj' hj e
    exact h2
  · intro hd c hc
    exact (h c).2 fun j hj => (hc j hj).2 (hd j hj)

theorem oneOf_in {s : Nat} {f : F} (h : OneOf s f) (k : Nat) : InC s f k ↔ ∃ j, j < (feats s).length ∧ dig k j = 2 := by
  constructor
  · intro hi
    obtain ⟨j, hj, h1⟩ := (h _).1 (hi _ (mtK_min s k))
    obtain ⟨j', hj', h2, e⟩ := (kOn_bit _ _).1 h1
    exact ⟨j', hj', h2⟩
  · rintro ⟨j, hj, hd⟩ c hc
    exact (h c).2 ⟨j, hj, (hc j hj).2 hd⟩

theorem allOf_dep {s : Nat} (hs : s < 16777216) {f : F} (h : AllOf s f) (i : Nat) : s.testBit i = dep f i := by
  by_cases hm : i ∈ feats s
  · rw [(feats_mem.1 hm).2]
    refine (dep_true.2 ⟨fun _ => true, fun e => ?_⟩).symm
    have e1 : upd (fun _ => true) i true = fun _ => true := by funext j; unfold upd; split <;> rfl
    rw [e1, (h _).2 fun _ _ => rfl] at e
    obtain ⟨j, hj, e2⟩ := mem_at hm
    have := (h _).1 e.symm j hj
    rw [e2, upd, if_pos rfl] at this
    cases this
  · have h0 : s.testBit i = false := by
      refine Bool.eq_false_iff.2 fun hb => hm (feats_mem.2 ⟨?_, hb⟩)
      rcases Nat.lt_or_ge i 24 with h1 | h1
      · exact h1
      · rw [Nat.testBit_lt_two_pow (Nat.lt_of_lt_of_le hs (Nat.pow_le_pow_right (by omega) h1 : 2 ^ 24 ≤ 2 ^ i))] at hb
        cases hb
    rw [h0]
    refine (Bool.eq_false_iff.2 fun hd => ?_).symm
    obtain ⟨c, hc⟩ := dep_true.1 hd
    refine hc (Bool.eq_iff_iff.2 ?_)
    rw [h, h]
    refine forall_congr' fun j => forall_congr' fun hj => ?_
    have hne : (feats s).getD j 0 ≠ i := fun e => hm (e ▸ feats_at hj)
    rw [upd, upd, if_neg hne, if_neg hne]

theorem oneOf_dep {s : Nat} (hs : s < 16777216) {f : F} (h : OneOf s f) (i : Nat) : s.testBit i = dep f i := by
  by_cases hm : i ∈ feats s
  · rw [(feats_mem.1 hm).2]
    refine (dep_true.2 ⟨fun _ => false, fun e => ?_⟩).symm
    have e1 : upd (fun _ => false) i false = fun _ => false := by funext j; unfold upd; split <;> rfl
    obtain ⟨j, hj, e2⟩ := mem_at hm
    have e3 := (h (upd (fun _ => false) i true)).2 ⟨j, hj, by rw [e2, upd, if_pos rfl]⟩
    rw [e3, e1] at e
    obtain ⟨j', _, h'⟩ := (h _).1 e.symm
    cases h'
  · have h0 : s.testBit i = false := by
      refine Bool.eq_false_iff.2 fun hb => hm (feats_mem.2 ⟨?_, hb⟩)
      rcases Nat.lt_or_ge i 24 with h1 | h1
      · exact h1
      · rw [Nat.testBit_lt_two_pow (Nat.lt_of_lt_of_le hs (Nat.pow_le_pow_right (by omega) h1 : 2 ^ 24 ≤ 2 ^ i))] at hb
        cases hb
    rw [h0]
    refine (Bool.eq_false_iff.2 fun hd => ?_).symm
    obtain ⟨c, hc⟩ := dep_true.1 hd
    refine hc (Bool.eq_iff_iff.2 ?_)
    rw [h, h]
    refine exists_congr fun j => and_congr_right fun hj => ?_
    have hne : (feats s).getD j 0 ≠ i := fun e => hm (e ▸ feats_at hj)
    rw [upd, upd, if_neg hne, if_neg hne]

theorem two_lt3 : ∀ j : Nat, (fun _ => 2 : Nat → Nat) j < 3 := fun _ => by show 2 < 3; omega
theorem pow_lt24 {v : Nat} (h : v < 24) : 2 ^ v < 16777216 := (Nat.pow_lt_pow_right (by omega) h : 2 ^ v < 2 ^ 24)

theorem allOf_pks {s : Nat} {f : F} (h : AllOf s f) : (pks s f (3 ^ (feats s).length)).Perm [numOf (fun _ => 2) (feats s).length] := by
  refine (List.perm_ext_iff_of_nodup (pks_nodup _ _ _) (by simp)).2 fun k => ?_
  rw [mem_pks, allOf_in h, List.mem_singleton]
  constructor
  · rintro ⟨h1, h2, -⟩
    exact dig_ext h1 (numOf_lt two_lt3 _) fun j hj => by rw [h2 j hj, dig_numOf two_lt3 _ j hj]
  · rintro rfl
    refine ⟨numOf_lt two_lt3 _, fun j hj => dig_numOf two_lt3 _ j hj, fun j hj _ hi => ?_⟩
    have := (allOf_in h _).1 hi j hj
    rw [dig_numOf (dropD_lt3 _ _) _ j hj, dropD, if_pos rfl] at this
    cases this

/-- The number with one digit on. -/
def oneD (j : Nat) : Nat → Nat := fun i => if i = j then 2 else 0
theorem oneD_lt3 (j i : Nat) : oneD j i < 3 := by unfold oneD; split <;> omega

theorem oneOf_pks {s : Nat} {f : F} (h : OneOf s f) : (pks s f (3 ^ (feats s).length)).Perm ((List.range (feats s).length).map fun j => numOf (oneD j) (feats s).length) := by
  have hinj : ∀ i j, i < (feats s).length → j < (feats s).length → numOf (oneD i) (feats s).length = numOf (oneD j) (feats s).length → i = j := fun i j hi hj e => by
    have h1 := dig_numOf (oneD_lt3 i) _ i hi
    rw [e, dig_numOf (oneD_lt3 j) _ i hi] at h1
    unfold oneD at h1
    simp at h1
    exact h1
  refine (List.perm_ext_iff_of_nodup (pks_nodup _ _ _) ?_).2 fun k => ?_
  · rw [List.Nodup, List.pairwise_map]
    refine List.Pairwise.imp_of_mem ?_ (List.nodup_range (n := (feats s).length))
    intro a b ha hb hne e
    exact hne (hinj a b (List.mem_range.1 ha) (List.mem_range.1 hb) e)
  · rw [mem_pks, oneOf_in h, List.mem_map]
    constructor
    · rintro ⟨h1, ⟨j, hj, h2⟩, h3⟩
      refine ⟨j, List.mem_range.2 hj, dig_ext (numOf_lt (oneD_lt3 j) _) h1 fun i hi => ?_⟩
      rw [dig_numOf (oneD_lt3 j) _ i hi]
      unfold oneD
      split
      · rename_i e; rw [e, h2]
      · rename_i e
        rcases Nat.eq_zero_or_pos (dig k i) with h0 | h0
        · exact h0.symm
        · refine absurd ((oneOf_in h _).2 ⟨j, hj, ?_⟩) (h3 i hi h0)
          rw [dig_numOf (dropD_lt3 _ _) _ j hj, dropD, if_neg (fun e' => e e'.symm), h2]
    · rintro ⟨j, hj, rfl⟩
      have hj := List.mem_range.1 hj
      refine ⟨numOf_lt (oneD_lt3 j) _, ⟨j, hj, by rw [dig_numOf (oneD_lt3 j) _ j hj]; simp [oneD]⟩, fun i hi h0 hin => ?_⟩
      obtain ⟨m, hm, h2⟩ := (oneOf_in h _).1 hin
      rw [dig_numOf (oneD_lt3 j) _ i hi] at h0
      have e : i = j := by
        unfold oneD at h0
        split at h0
        · assumption
        · omega
      rw [dig_numOf (dropD_lt3 _ _) _ m hm] at h2
      unfold dropD at h2
      split at h2
      · omega
      · rename_i hne
        rw [dig_numOf (oneD_lt3 j) _ m hm, oneD, if_neg (fun e' => hne (e'.trans e.symm))] at h2
        omega

theorem allOf_cub {s : Nat} (hs : s < 16777216) : cubK s (numOf (fun _ => 2) (feats s).length) = ⟨s, 0, hs, by omega⟩ := by
  refine Cub.eq (Nat.eq_of_testBit_eq fun i => Bool.eq_iff_iff.2 ?_) (Nat.eq_of_testBit_eq fun i => Bool.eq_iff_iff.2 ?_)
  · show (kOn _ _ _).testBit i = true ↔ s.testBit i = true
    rw [kOn_bit]
    constructor
    · rintro ⟨j, hj, _, rfl⟩
      exact (feats_mem.1 (feats_at hj)).2
    · intro hb
      have hi : i < 24 := by
        rcases Nat.lt_or_ge i 24 with h1 | h1
        · exact h1
        · rw [Nat.testBit_lt_two_pow (Nat.lt_of_lt_of_le hs (Nat.pow_le_pow_right (by omega) h1 : 2 ^ 24 ≤ 2 ^ i))] at hb
          cases hb
      obtain ⟨j, hj, e⟩ := mem_at (feats_mem.2 ⟨hi, hb⟩)
      exact ⟨j, hj, dig_numOf two_lt3 _ j hj, e⟩
  · show (kOff _ _ _).testBit i = true ↔ (0 : Nat).testBit i = true
    rw [kOff_bit]
    constructor
    · rintro ⟨j, hj, h1, _⟩
      rw [dig_numOf two_lt3 _ j hj] at h1
      cases h1
    · intro hb
      simp at hb

theorem oneOf_cub {s j : Nat} (hj : j < (feats s).length) : cubK s (numOf (oneD j) (feats s).length) = ⟨2 ^ (feats s).getD j 0, 0, pow_lt24 (feats_at_lt s j), by omega⟩ := by
  refine Cub.eq (Nat.eq_of_testBit_eq fun i => Bool.eq_iff_iff.2 ?_) (Nat.eq_of_testBit_eq fun i => Bool.eq_iff_iff.2 ?_)
  · show (kOn _ _ _).testBit i = true ↔ (2 ^ (feats s).getD j 0).testBit i = true
    rw [kOn_bit, Nat.testBit_two_pow, decide_eq_true_iff]
    constructor
    · rintro ⟨m, hm, h1, e⟩
      rw [dig_numOf (oneD_lt3 j) _ m hm] at h1
      unfold oneD at h1
      split at h1
      · rename_i e'; rw [← e, e']
      · cases h1
    · intro e
      exact ⟨j, hj, by rw [dig_numOf (oneD_lt3 j) _ j hj]; simp [oneD], e⟩
  · show (kOff _ _ _).testBit i = true ↔ (0 : Nat).testBit i = true
    rw [kOff_bit]
    constructor
    · rintro ⟨m, hm, h1, _⟩
      rw [dig_numOf (oneD_lt3 j) _ m hm] at h1
      unfold oneD at h1
      split at h1 <;> cases h1
    · intro hb
      simp at hb

end Go.Proofs.Ytefclohjeompkaa

/- Primes of all features, and of one at least. -/
namespace Go.Proofs.Ytefclohjeompkaa
open Go Go.RowKit Go.Shelf Go.Sort Go.Proofs.Gen Go.Proofs.Bdd Go.Proofs.Bdd.T

theorem primes_all {w : World} {v : Value} {f : F} (h : IsF w v f) {s : Nat} (hs : s < 16777216) (ha : AllOf s f) (hV : (feats s).length ≤ 12) :
    Calls Try.prog 74 #[v] w fun e w' => ∃ g cap, e = .returned (.tuple #[.slice (some ⟨g, 0, none⟩) 1 cap, .int .i64 0]) ∧ w'.cell? ⟨g, 0, none⟩ = some (.int .u32 (s : Nat)) ∧ w'.cell? ⟨g, 1, none⟩ = some (.int .u32 0) ∧ Near w w' := by
  refine (primes_walk h hs (allOf_dep hs ha) hV).mono ?_
  rintro e w' ⟨ao, cap, d, rfl, hr, hp, -, hn⟩
  have h1 : d.toList = [⟨s, 0, hs, by omega⟩] := by
    have := hp.trans ((allOf_pks ha).map _)
    rw [List.map_cons, List.map_nil, allOf_cub hs] at this
    exact List.perm_singleton.1 this
  have h2 : d.size = 1 := by
    have := congrArg List.length h1
    simpa using this
  obtain ⟨g, rfl, c0, c1⟩ := hr 0 _ (by rw [h1]; rfl)
  exact ⟨g, cap, by rw [h2], c0, c1, hn⟩

theorem feats_rise (s : Nat) {i j : Nat} (hij : i < j) (hj : j < (feats s).length) : (feats s).getD i 0 < (feats s).getD j 0 := by
  have hp : (feats s).Pairwise (· < ·) := List.Pairwise.filter _ List.pairwise_lt_range
  have := List.pairwise_iff_getElem.1 hp i j (by omega) hj hij
  rw [List.getD_eq_getElem?_getD, List.getD_eq_getElem?_getD, List.getElem?_eq_getElem (show i < (feats s).length by omega), List.getElem?_eq_getElem hj]
  simpa using this

theorem feats_pow1 {v : Nat} (h : v < 24) : (feats (2 ^ v)).length = 1 := by
  have : ∀ v, v < 24 → (feats (2 ^ v)).length = 1 := by decide +kernel
  exact this v h

theorem primes_one {w : World} {v : Value} {f : F} (h : IsF w v f) {s : Nat} (hs : s < 16777216) (ha : OneOf s f) (hV : (feats s).length ≤ 12) :
    Calls Try.prog 74 #[v] w fun e w' => ∃ ao cap, e = .returned (.tuple #[.slice ao (feats s).length cap, .int .i64 0]) ∧ (∀ j, j < (feats s).length → ∃ g, ao = some ⟨g, 0, none⟩ ∧ w'.cell? ⟨g, j * 2, none⟩ = some (.int .u32 ((2 ^ (feats s).getD j 0 : Nat))) ∧ w'.cell? ⟨g, j * 2 + 1, none⟩ = some (.int .u32 0)) ∧ Near w w' := by
  refine (primes_walk h hs (oneOf_dep hs ha) hV).mono ?_
  rintro e w' ⟨ao, cap, d, rfl, hr, hp, hso, hn⟩
  have h1 : d.toList = (List.range (feats s).length).map fun j => (⟨2 ^ (feats s).getD j 0, 0, pow_lt24 (feats_at_lt s j), by omega⟩ : Cub) := by
    refine sorted_only ?_ hso ?_
    · refine (hp.trans ((oneOf_pks ha).map _)).trans ?_
      rw [List.map_map]
      refine List.Perm.of_eq (List.map_congr_left fun j hj => ?_)
      exact oneOf_cub (List.mem_range.1 hj)
    · rw [List.pairwise_map]
      refine List.Pairwise.imp_of_mem ?_ (List.pairwise_lt_range (n := (feats s).length))
      intro a b _ hb hab hlt
      have hb := List.mem_range.1 hb
      have h3 := Nat.pow_lt_pow_right (a := 2) (by omega) (feats_rise s hab hb)
      unfold cubLt Cub.size at hlt
      simp only [Nat.or_zero, feats_pow1 (feats_at_lt s _)] at hlt
      omega
  have h2 : d.size = (feats s).length := by
    have := congrArg List.length h1
    simpa using this
  refine ⟨ao, cap, by rw [h2], fun j hj => ?_, hn⟩
  obtain ⟨g, hg, c0, c1⟩ := hr j ⟨2 ^ (feats s).getD j 0, 0, pow_lt24 (feats_at_lt s j), by omega⟩ (by rw [h1, List.getElem?_map, List.getElem?_range hj]; rfl)
  exact ⟨g, hg, c0, c1⟩

theorem feats_and24 (f : Nat) : feats (f &&& 16777215) = feats f := by
  unfold feats featsTo
  refine List.filter_congr fun i hi => ?_
  rw [low24 f i (List.mem_range.1 hi)]

theorem all_cube (f : Nat) : AllOf (f &&& 16777215) (cubeF f 0) := by
  intro c
  rw [cube_lits, feats_and24]
  constructor
  · intro h j hj
    exact (h _ (feats_at_lt f j)).1 (feats_mem.1 (feats_at hj)).2
  · intro h i hi
    refine ⟨fun hb => ?_, fun hb => by simp at hb⟩
    obtain ⟨j, hj, rfl⟩ := mem_at (feats_mem.2 ⟨hi, hb⟩)
    exact h j hj

theorem one_cube (f : Nat) : OneOf (f &&& 16777215) (fun c => !cubeF 0 f c) := by
  intro c
  rw [feats_and24]
  rw [show (!cubeF 0 f c) = true ↔ ¬ cubeF 0 f c = true from by cases cubeF 0 f c <;> simp, cube_lits]
  constructor
  · intro h
    refine Classical.byContradiction fun hne => h fun i hi => ⟨fun hb => by simp at hb, fun hb => ?_⟩
    obtain ⟨j, hj, rfl⟩ := mem_at (feats_mem.2 ⟨hi, hb⟩)
    exact Bool.eq_false_iff.2 fun hc => hne ⟨j, hj, hc⟩
  · rintro ⟨j, hj, h1⟩ h
    have := (h _ (feats_at_lt f j)).2 (feats_mem.1 (feats_at hj)).2
    rw [h1] at this
    cases this

end Go.Proofs.Ytefclohjeompkaa

/- The law DiagramWide: the walk. -/
namespace Go.Proofs.Ytefclohjeompkaa
open Go Go.RowKit Go.Shelf Go.Sort Go.Proofs.Gen Go.Proofs.Bdd Go.Proofs.Bdd.T

set_option maxRecDepth 100000 in
set_option maxHeartbeats 3200000 in
theorem law_wide {w : World} {nn : Nat} (hnn : nn < 4294967296) : Calls Try.prog 15 #[.int .u32 nn] w fun e w' => e = .returned (.bool true) ∧ Near w w' := by
  have HC1 := Lib.hid (fun (w' : World) => show Calls Try.prog 73 #[.int .u32 nn, .int .u32 0] w' (FPost w' (cubeF nn 0)) from cube_f (on := nn) (off := 0) hnn (by decide) w')
  have HC2 := Lib.hid (fun (w' : World) => show Calls Try.prog 73 #[.int .u32 0, .int .u32 nn] w' (FPost w' (cubeF 0 nn)) from cube_f (on := 0) (off := nn) (by decide) hnn w')
  have hsl : nn &&& 16777215 < 16777216 := Nat.lt_of_le_of_lt Nat.and_le_right (by omega)
  have HFe := Lib.hid (fun (w' : World) => features_calls nn hnn w')
  obtain ⟨V, hV⟩ : ∃ V, feats nn = V := ⟨_, rfl⟩
  rw [hV] at HFe
  have HV := Lib.hid hV
  clear hV
  go_enter Try.func15, Try.ntmps15
  go_upto_region 2 with (go_at_call 18; refine (HFe.out _).mono ?_; rintro e w1 ⟨v1, rfl, r1, n1⟩; obtain ⟨ao1, cap1, rfl⟩ := owns_form r1; clear r1)
  go_upto_region 3 with (first
    | (go_at_call 32; have hseen := hi3; refine (not_f hi3).mono ?_; rintro e w4 ⟨v4, rfl, hi4, n4⟩; obtain ⟨p1, p2, p3, p4, rfl⟩ := (hi2.near n3).form; obtain ⟨q1, q2, q3, q4, rfl⟩ := hi4.form)
    | (go_at_call 73; have hseen := hi2; refine (HC2.out _).mono ?_; rintro e w3 ⟨v3, rfl, hi3, n3⟩)
    | (go_at_call 73; refine (HC1.out _).mono ?_; rintro e w2 ⟨v2, rfl, hi2, n2⟩))
  have hN5 : ∀ W5, W5 = (w4.alloc (.cells #[.slice p1 p2 p3, .int .i64 p4] 31)).alloc (.cells #[.slice q1 q2 q3, .int .i64 q4] 31) → Near w4 W5 ∧ W5.heap[w4.heap.size]? = some (.cells #[.slice p1 p2 p3, .int .i64 p4] 31 (0, 0)) ∧ W5.heap[w4.heap.size + 1]? = some (.cells #[.slice q1 q2 q3, .int .i64 q4] 31 (0, 0)) := by
    rintro W5 rfl
    exact ⟨((Near.refl w4).alloc _).alloc _, (heap_old_at (by simp)).trans (heap_new_at rfl), heap_new_at (by simp)⟩
  have h5 := hN5 _ rfl
  generalize (w4.alloc (.cells #[.slice p1 p2 p3, .int .i64 p4] 31)).alloc (.cells #[.slice q1 q2 q3, .int .i64 q4] 31) = W5 at h5 ⊢
  clear hN5
  obtain ⟨n5, ha5, hb5⟩ := h5
  have HIA := Lib.hid ((hi2.near (n3.trans n4)).near n5)
  have HIB := Lib.hid (hi4.near n5)
  have HN5 := Lib.hid (((((n1.trans n2).trans n3).trans n4)).trans n5)
  obtain ⟨c0, c1⟩ : W5.cell? ⟨w4.heap.size, 0, none⟩ = some (.slice p1 p2 p3) ∧ W5.cell? ⟨w4.heap.size, 1, none⟩ = some (.int .i64 p4) := ⟨cell1 (o := 0) ha5 rfl, cell1 (o := 1) ha5 rfl⟩
  have HB5 := Lib.hid hb5
  clear hi2 hi3 hi4 n1 n2 n3 n4 n5 ha5 hb5 hseen
  have hfv : feats (nn &&& 16777215) = V := (feats_and24 nn).trans HV.out
  by_cases hl : 12 < V.length
  · have HP1 := Lib.hid (primes_many HIA.out hsl (allOf_dep hsl (all_cube nn)) (by rw [hfv]; exact hl))
    have HP2 := Lib.hid (fun (w' : World) (hn : Near W5 w') => primes_many (HIB.out.near hn) hsl (oneOf_dep hsl (one_cube nn)) (by rw [hfv]; exact hl))
    have hl' : (12 : Int) < V.length := by omega
    clear hfv
    go_wp2_with (first
      | (go_at_call 74; have hseen := HN6; refine (HP2.out _ HN6.out).mono ?_; rintro e w7 ⟨rfl, n7⟩; have HN7 := Lib.hid (HN6.out.trans n7); clear n7)
      | (go_at_call 74; refine HP1.out.mono ?_; rintro e w6 ⟨rfl, n6⟩; have HN6 := Lib.hid n6; have hb6 := keepN n6 HB5.out; have d0 := cell1 (o := 0) hb6 rfl; have d1 := cell1 (o := 1) hb6 rfl; clear n6 hb6)
      | (go_at_call 17; refine (wakes_calls _).mono ?_; rintro e w8 ⟨rfl, n8⟩; have HN8 := Lib.hid n8; clear n8))
    go_ret
    exact ⟨rfl, (HN5.out.trans HN7.out).trans HN8.out⟩
  · have HP1 := Lib.hid (primes_all HIA.out hsl (all_cube nn) (by rw [hfv]; omega))
    have HP2 := Lib.hid (fun (w' : World) (hn : Near W5 w') => primes_one (HIB.out.near hn) hsl (one_cube nn) (by rw [hfv]; omega))
    rw [hfv] at HP2
    have hse : ((nn &&& 16777215 : Nat) : Int) = (nn : Int) % 16777216 := by
      have : nn &&& 16777215 = nn % 16777216 := Nat.and_two_pow_sub_one_eq_mod nn 24
      rw [this]; rfl
    rw [hse] at HP1
    have hl' : ¬ (12 : Int) < V.length := by omega
    have HFV := Lib.hid hfv
    clear hfv hse hsl
    go_upto_region 10 with (first
      | (go_at_call 74; have hseen := HN6; refine (HP2.out _ HN6.out).mono ?_; rintro e w7 ⟨bo, bcap, rfl, hcs, n7⟩; have HN7 := Lib.hid (HN6.out.trans n7); have HCS := Lib.hid hcs; have e0 := n7.cell x0; have e1 := n7.cell x1; clear n7 hcs x0 x1)
      | (go_at_call 74; refine HP1.out.mono ?_; rintro e w6 ⟨ga, acap, rfl, x0, x1, n6⟩; have HN6 := Lib.hid n6; have hb6 := keepN n6 HB5.out; have d0 := cell1 (o := 0) hb6 rfl; have d1 := cell1 (o := 1) hb6 rfl; clear n6 hb6))
    go_loopw [10] (fun i wr => ∃ k : Nat, k ≤ V.length ∧ i = .int .i64 k ∧ Near w7 wr) (fun i _ => V.length - (intOf i).toNat)
    case atStart => exact ⟨0, Nat.zero_le _, rfl, Near.refl _⟩
    case round =>
      obtain ⟨k, hk, rfl, hn⟩ := hrel
      have HR := Lib.hid hn
      clear hn
      by_cases hlt : k < V.length
      · have hlt' : (k : Int) < V.length := by omega
        have hv24 : V.getD k 0 < 24 := by rw [← HV.out]; exact feats_at_lt nn k
        have hvk : (V.map iv)[k]? = some (iv (V.getD k 0)) := by rw [List.getElem?_map, List.getD_eq_getElem?_getD, List.getElem?_eq_getElem hlt]; rfl
        obtain ⟨gb, ebo, y0, y1⟩ := HCS.out k hlt
        subst ebo
        generalize V.getD k 0 = x at hv24 hvk y0
        have HVK := Lib.hid hvk
        obtain ⟨p, hp⟩ : ∃ p : Nat, p = 2 ^ x := ⟨_, rfl⟩
        have hpw : IntKind.u32.wrap ((2 : Int) ^ x) = (p : Int) := by
          have h1 := pow_lt24 hv24
          have h2 : ((2 ^ x : Nat) : Int) = (2 : Int) ^ x := Int.natCast_pow 2 x
          rw [← h2, ← hp]
          exact IntWalk.u32_in _ (by omega)
        rw [← hp] at y0
        clear hp
        have hxw : IntKind.u64.wrap (x : Int) = (x : Int) := IntWalk.u64_in _ (by omega)
        have r0 := HR.out.cell y0
        have r1 := HR.out.cell y1
        have hSk : ∀ w', Near wr w' → w'.cell? ⟨gb, k * 2, none⟩ = some (.int .u32 (p : Nat)) ∧ w'.cell? ⟨gb, k * 2 + 1, none⟩ = some (.int .u32 0) := fun w' hn => ⟨hn.cell r0, hn.cell r1⟩
        have HSK := Lib.hid hSk
        clear y0 y1 hSk hvk
        go_wp2_with fail
        refine wp_region_noPanic ?_
        refine wp_region_held_drew (S := (fun w' => w'.cell? ⟨gb, k * 2, none⟩ = some (.int .u32 (p : Nat)) ∧ w'.cell? ⟨gb, k * 2 + 1, none⟩ = some (.int .u32 0))) (by kernel_rfl) (HSK.out _ (Near.refl _).drew) (fun hHeld => ?_)
        have hnd := (Near.refl wr).drew
        generalize wr.drew = x0 at hnd hHeld ⊢
        have HW0 := Lib.hid hnd
        clear hnd r0 r1
        refine takeH0 (v := .slice (some ⟨gb, 0, none⟩) V.length bcap) (by kernel_rfl) (by kernel_rfl) (by kernel_rfl) (fun _ _ _ h => h) (Or.inl ⟨by rfl, fun w' hSw => ?_⟩) hHeld ?_
        · go_simp
        simp only [Act.put, List.setIfInBounds_toArray, List.set_cons_zero, List.set_cons_succ]
        refine takeH1 (v := .int .i64 k) (by kernel_rfl) (by kernel_rfl) (by kernel_rfl) (fun _ _ _ h => h) (Or.inl ⟨by rfl, fun w' hSw => ?_⟩) hHeld ?_
        · go_simp
        simp only [Act.put, List.setIfInBounds_toArray, List.set_cons_zero, List.set_cons_succ]
        refine takeH2 (v := .pointer (some ⟨gb, k * 2, none⟩)) (by kernel_rfl) (by kernel_rfl) (by kernel_rfl) (fun _ _ _ h => h) (Or.inl ⟨by rfl, fun w' hSw => ?_⟩) hHeld ?_
        · go_simp
        simp only [Act.put, List.setIfInBounds_toArray, List.set_cons_zero, List.set_cons_succ]
        refine takeH3 (v := .agg #[.int .u32 (p : Nat), .int .u32 0]) (by kernel_rfl) (by kernel_rfl) (by kernel_rfl) (fun _ _ _ h => h) (Or.inl ⟨by rfl, fun w' hSw => ?_⟩) hHeld ?_
        · go_simp
        simp only [Act.put, List.setIfInBounds_toArray, List.set_cons_zero, List.set_cons_succ]
        refine takeH4 (v := .int .u32 nn) (by kernel_rfl) (by kernel_rfl) (by kernel_rfl) (fun _ _ _ h => h) (Or.inl ⟨by rfl, fun w' hSw => ?_⟩) hHeld ?_
        · go_simp
        simp only [Act.put, List.setIfInBounds_toArray, List.set_cons_zero, List.set_cons_succ]
        refine takeH6 (v := .int .i64 k) (by kernel_rfl) (by kernel_rfl) (by kernel_rfl) (fun _ _ _ h => h) (Or.inl ⟨by rfl, fun w' hSw => ?_⟩) hHeld ?_
        · go_simp
        simp only [Act.put, List.setIfInBounds_toArray, List.set_cons_zero, List.set_cons_succ]
        clear hHeld
        refine wpAnyH_ready (rs := [5]) (by kernel_rfl) (by simp) ?_
        refine consH5 (fun K hK => ?_) AllReadyH.nil
        go_simp
        go_at_call 18
        refine (HFe.out _).mono ?_
        rintro e v1 ⟨vv, rfl, rr, m1⟩
        have HM1 := Lib.hid (HW0.out.trans m1)
        obtain ⟨gz, cz, ez, z0, -⟩ := row1 rr (k := k) (u := iv x) HVK.out hlt
        cases ez
        have z1 : v1.cell? ⟨gz, k, none⟩ = some (.int .i64 (x : Nat)) := z0
        clear m1 rr z0
        refine hK.out _ _ (HSK.out _ HM1.out) (fun hHeld => ?_)
        clear hK K
        try simp only [Act.put, List.setIfInBounds_toArray, List.set_cons_zero, List.set_cons_succ]
        refine takeH7 (v := .pointer (some ⟨gz, k, none⟩)) (by kernel_rfl) (by kernel_rfl) (by kernel_rfl) (fun _ _ _ h => h) (Or.inl ⟨by rfl, fun w' hSw => ?_⟩) hHeld ?_
        · go_simp
        simp only [Act.put, List.setIfInBounds_toArray, List.set_cons_zero, List.set_cons_succ]
        clear hHeld
        refine wpAnyH_ready (rs := [8]) (by kernel_rfl) (by simp) ?_
        refine consH8 (fun K hK => ?_) AllReadyH.nil
        go_simp
        refine hK.out _ _ (HSK.out _ HM1.out) (fun hHeld => ?_)
        clear hK K
        try simp only [Act.put, List.setIfInBounds_toArray, List.set_cons_zero, List.set_cons_succ]
        refine takeH9 (v := .int .u64 x) (by kernel_rfl) (by kernel_rfl) (by kernel_rfl) (fun _ _ _ h => h) (Or.inl ⟨by rfl, fun w' hSw => ?_⟩) hHeld ?_
        · go_simp
        simp only [Act.put, List.setIfInBounds_toArray, List.set_cons_zero, List.set_cons_succ]
        refine takeH10 (v := .int .u32 (p : Nat)) (by kernel_rfl) (by kernel_rfl) (by kernel_rfl) (fun _ _ _ h => h) (Or.inl ⟨by rfl, fun w' hSw => ?_⟩) hHeld ?_
        · go_simp
        simp only [Act.put, List.setIfInBounds_toArray, List.set_cons_zero, List.set_cons_succ]
        refine takeH11 (v := .agg #[.int .u32 (p : Nat), .int .u32 0]) (by kernel_rfl) (by kernel_rfl) (by kernel_rfl) (fun _ _ _ h => h) (Or.inl ⟨by rfl, fun w' hSw => ?_⟩) hHeld ?_
        · go_simp
        simp only [Act.put, List.setIfInBounds_toArray, List.set_cons_zero, List.set_cons_succ]
        refine takeH12 (v := .bool false) (by kernel_rfl) (by kernel_rfl) (by kernel_rfl) (fun _ _ _ h => h) (Or.inl ⟨by rfl, fun w' hSw => ?_⟩) hHeld ?_
        · go_simp
        simp only [Act.put, List.setIfInBounds_toArray, List.set_cons_zero, List.set_cons_succ]
        refine wpAnyH_done (by kernel_rfl) ?_ _
        refine NoPanic.normal ?_
        go_wp2_with fail
        exact ⟨⟨k + 1, by omega, by go_num, HR.out.trans HM1.out⟩, by simp [intOf]; omega⟩
      · have hkl : k = V.length := by omega
        subst hkl
        go_wp2_with (go_at_call 17; refine (wakes_calls _).mono ?_; rintro e w8 ⟨rfl, n8⟩; have HN8 := Lib.hid n8; clear n8)
        go_ret
        exact ⟨rfl, ((HN5.out.trans HN7.out).trans HR.out).trans HN8.out⟩

end Go.Proofs.Ytefclohjeompkaa
