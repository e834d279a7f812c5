/- Parts of a proof: Ones, BetA, BetB, RefQ. -/
import Derived.Lib.BitFns
import Derived.KernelRfl
import Derived.IntWalk
import Derived.Test.YtefclohjeompkaaKRefP
/- The contract of OnesCount32. -/
namespace Go.Proofs.Ytefclohjeompkaa
open Go Go.RowKit Go.Proofs.Gen Go.Proofs.Bdd Go.Proofs.Bdd.T

theorem pop_fold : (⟨((([0, 1, 1, 2, 1, 2, 2, 3, 1, 2, 2, 3, 2, 3, 3, 4, 1, 2, 2, 3, 2, 3, 3, 4, 2, 3, 3, 4, 3, 4, 4, 5, 1, 2, 2, 3, 2, 3, 3, 4, 2, 3, 3, 4, 3, 4, 4, 5, 2, 3, 3, 4, 3, 4, 4, 5, 3, 4, 4, 5, 4, 5, 5, 6] : List UInt8).append [1, 2, 2, 3, 2, 3, 3, 4, 2, 3, 3, 4, 3, 4, 4, 5, 2, 3, 3, 4, 3, 4, 4, 5, 3, 4, 4, 5, 4, 5, 5, 6, 2, 3, 3, 4, 3, 4, 4, 5, 3, 4, 4, 5, 4, 5, 5, 6, 3, 4, 4, 5, 4, 5, 5, 6, 4, 5, 5, 6, 5, 6, 6, 7]).append (([1, 2, 2, 3, 2, 3, 3, 4, 2, 3, 3, 4, 3, 4, 4, 5, 2, 3, 3, 4, 3, 4, 4, 5, 3, 4, 4, 5, 4, 5, 5, 6, 2, 3, 3, 4, 3, 4, 4, 5, 3, 4, 4, 5, 4, 5, 5, 6, 3, 4, 4, 5, 4, 5, 5, 6, 4, 5, 5, 6, 5, 6, 6, 7] : List UInt8).append [2, 3, 3, 4, 3, 4, 4, 5, 3, 4, 4, 5, 4, 5, 5, 6, 3, 4, 4, 5, 4, 5, 5, 6, 4, 5, 5, 6, 5, 6, 6, 7, 3, 4, 4, 5, 4, 5, 5, 6, 4, 5, 5, 6, 5, 6, 6, 7, 4, 5, 5, 6, 5, 6, 6, 7, 5, 6, 6, 7, 6, 7, 7, 8])).toArray⟩ : ByteArray) = Lib.pop8tab := by kernel_rfl

theorem pop_le {n : Nat} (h : n < 256) : 0 ≤ Lib.pop8 (n : Int) ∧ Lib.pop8 (n : Int) ≤ 8 := by
  have e := Lib.pop8_eq ⟨n, h⟩
  have l := Lib.onesCount_le8 ⟨n, h⟩
  simp only at e l
  omega

theorem byte_and (x k : Nat) (h : x < 4294967296) : bits .and .u32 ((x : Int) / (2 ^ k : Nat)) 255 = ((x / 2 ^ k % 256 : Nat) : Int) := by
  have hd : x / 2 ^ k < 4294967296 := Nat.lt_of_le_of_lt (Nat.div_le_self _ _) h
  have e := Go.Proofs.Gen.u32_and (x / 2 ^ k) 255 hd (by decide)
  have e2 : x / 2 ^ k &&& 255 = x / 2 ^ k % 256 := Nat.and_two_pow_sub_one_eq_mod (x / 2 ^ k) 8
  rw [e2] at e
  rw [← e]
  simp

set_option maxRecDepth 100000 in
set_option maxHeartbeats 1600000 in
theorem ones_walk (x : Nat) (hx : x < 4294967296) (w : World) : Calls Try.prog 111 #[.int .u32 x] w fun e w' => e = .returned (.int .i64 (Lib.pop8 ((x / 16777216 : Nat) : Int) + Lib.pop8 ((x / 65536 % 256 : Nat) : Int) + Lib.pop8 ((x / 256 % 256 : Nat) : Int) + Lib.pop8 ((x % 256 : Nat) : Int))) ∧ Near w w' := by
  have fold := pop_fold
  have e1 : (x : Int) / 16777216 = ((x / 16777216 : Nat) : Int) := by omega
  have e2 : bits .and .u32 ((x : Int) / 65536) 255 = ((x / 65536 % 256 : Nat) : Int) := byte_and x 16 hx
  have e3 : bits .and .u32 ((x : Int) / 256) 255 = ((x / 256 % 256 : Nat) : Int) := byte_and x 8 hx
  have e4 : bits .and .u32 (x : Int) 255 = ((x % 256 : Nat) : Int) := by
    have := byte_and x 0 hx
    simpa using this
  obtain ⟨y1, h1⟩ : ∃ y, y = x / 16777216 := ⟨_, rfl⟩
  obtain ⟨y2, h2⟩ : ∃ y, y = x / 65536 % 256 := ⟨_, rfl⟩
  obtain ⟨y3, h3⟩ : ∃ y, y = x / 256 % 256 := ⟨_, rfl⟩
  obtain ⟨y4, h4⟩ : ∃ y, y = x % 256 := ⟨_, rfl⟩
  have l1 : y1 < 256 := by omega
  have l2 : y2 < 256 := by omega
  have l3 : y3 < 256 := by omega
  have l4 : y4 < 256 := by omega
  rw [← h1] at e1 ⊢
  rw [← h2] at e2 ⊢
  rw [← h3] at e3 ⊢
  rw [← h4] at e4 ⊢
  clear h1 h2 h3 h4
  obtain ⟨p1, p1'⟩ := pop_le l1
  obtain ⟨p2, p2'⟩ := pop_le l2
  obtain ⟨p3, p3'⟩ := pop_le l3
  obtain ⟨p4, p4'⟩ := pop_le l4
  have m1 : (y1 : Int) ≤ 255 := by omega
  have m2 : (y2 : Int) ≤ 255 := by omega
  have m3 : (y3 : Int) ≤ 255 := by omega
  have m4 : (y4 : Int) ≤ 255 := by omega
  generalize hq1 : Lib.pop8 (y1 : Int) = q1 at p1 p1' ⊢
  generalize hq2 : Lib.pop8 (y2 : Int) = q2 at p2 p2' ⊢
  generalize hq3 : Lib.pop8 (y3 : Int) = q3 at p3 p3' ⊢
  generalize hq4 : Lib.pop8 (y4 : Int) = q4 at p4 p4' ⊢
  go_enter Try.func111, Try.ntmps111
  go_wp2_with fail
  go_quiet (fail)
  all_goals
    go_wp2_with fail
    exact bodyPost_ret (v := .int .i64 (q1 + q2 + q3 + q4)) (by simp [results, Try.results111, go_sem]) rfl ⟨rfl, (Near.refl _).drewN _⟩

theorem pop_bits : ∀ n : Fin 256, Lib.pop8 (n.val : Int) = (((List.range 8).filter fun i => n.val.testBit i).length : Int) := by decide +kernel

theorem byte_filter (x k : Nat) : ((List.range 8).filter fun i => (x / 2 ^ k % 256).testBit i).length = ((List.range 8).filter fun i => x.testBit (k + i)).length := by
  congr 1
  refine List.filter_congr fun i hi => ?_
  have hi8 : i < 8 := by simpa using hi
  rw [show (256 : Nat) = 2 ^ 8 from by decide, Nat.testBit_mod_two_pow, Nat.testBit_div_two_pow, Nat.add_comm]
  simp [hi8]

theorem ones_feats {x : Nat} (h : x < 16777216) : Lib.pop8 ((x / 16777216 : Nat) : Int) + Lib.pop8 ((x / 65536 % 256 : Nat) : Int) + Lib.pop8 ((x / 256 % 256 : Nat) : Int) + Lib.pop8 ((x % 256 : Nat) : Int) = ((feats x).length : Int) := by
  have h0 : x / 16777216 = 0 := by omega
  have e0 : Lib.pop8 ((0 : Nat) : Int) = 0 := by decide +kernel
  have e1 := pop_bits ⟨x / 65536 % 256, by omega⟩
  have e2 := pop_bits ⟨x / 256 % 256, by omega⟩
  have e3 := pop_bits ⟨x % 256, by omega⟩
  have b1 := byte_filter x 16
  have b2 := byte_filter x 8
  have b3 := byte_filter x 0
  have c1 : (2 : Nat) ^ 16 = 65536 := by decide
  have c2 : (2 : Nat) ^ 8 = 256 := by decide
  rw [c1] at b1
  rw [c2] at b2
  rw [Nat.pow_zero, Nat.div_one] at b3
  simp only at e1 e2 e3
  rw [h0, e0, e1, e2, e3, b1, b2, b3]
  have hr : List.range 24 = List.range 8 ++ ((List.range 8).map fun i => 8 + i) ++ ((List.range 8).map fun i => 16 + i) := by decide
  have hf : (feats x).length = ((List.range 8).filter fun i => x.testBit (0 + i)).length + ((List.range 8).filter fun i => x.testBit (8 + i)).length + ((List.range 8).filter fun i => x.testBit (16 + i)).length := by
    unfold feats featsTo
    rw [hr, List.filter_append, List.filter_append, List.length_append, List.length_append, List.filter_map, List.filter_map, List.length_map, List.length_map]
    simp only [Nat.zero_add]
    rfl
  rw [hf]
  omega

theorem ones_calls {x : Nat} (h : x < 16777216) (w : World) : Calls Try.prog 111 #[.int .u32 x] w fun e w' => e = .returned (.int .i64 (feats x).length) ∧ Near w w' := by
  rw [← ones_feats h]
  exact ones_walk x (by omega) w

end Go.Proofs.Ytefclohjeompkaa

/- Between: plain facts, and the walk of its first loop. -/
namespace Go.Proofs.Ytefclohjeompkaa
open Go Go.RowKit Go.Proofs.Gen Go.Proofs.Bdd Go.Proofs.Bdd.T

/-- How many of the n features from k on, of those of f, a configuration has. -/
def cntFrom (f : Nat) (c : Nat → Bool) : Nat → Nat → Nat
  | _, 0 => 0
  | k, n + 1 => (if f.testBit k && c k then 1 else 0) + cntFrom f c (k + 1) n
def bet (low high : Int) (n : Nat) : Bool := decide (low ≤ n) && decide ((n : Int) ≤ high)
/-- The function of Between. -/
def betF (f : Nat) (low high : Int) : F := fun c => bet low high (cntFrom f c 0 24)

/-- A row of trees, the features from k on behind it. -/
structure BRow (f : Nat) (low high : Int) (k : Nat) (ts : List T) : Prop where
  len : ts.length = (featsTo f k).length + 1
  is : ∀ j t, ts[j]? = some t → t.Ok ∧ k ≤ t.lv ∧ ∀ c, t.ev c = bet low high (j + cntFrom f c k (24 - k))

theorem feats_low (f : Nat) : feats (f &&& 16777215) = featsTo f 24 := by
  unfold feats featsTo
  refine List.filter_congr fun i hi => ?_
  rw [low24 f i (by simpa using hi)]

/-- The first row. -/
def row0 (low high : Int) (n : Nat) : List T := (List.range n).map fun j => leaf (bet low high j)
theorem row0_is (f : Nat) (low high : Int) : BRow f low high 24 (row0 low high ((featsTo f 24).length + 1)) := by
  refine ⟨by simp [row0], fun j t hj => ?_⟩
  unfold row0 at hj
  rw [List.getElem?_map] at hj
  by_cases h : j < (featsTo f 24).length + 1
  · rw [List.getElem?_range h] at hj
    simp at hj
    subst hj
    exact ⟨trivial, Nat.le_refl _, fun c => rfl⟩
  · rw [List.getElem?_eq_none (by simp; omega)] at hj
    simp at hj

/-- A row without its last: one feature more. -/
theorem brow_skip {f : Nat} {low high : Int} {k : Nat} {ts : List T} (h : BRow f low high (k + 1) ts) (hk : k < 24) (hb : f.testBit k = false) : BRow f low high k ts := by
  refine ⟨?_, fun j t hj => ?_⟩
  · rw [h.len, featsTo_succ, hb]
    simp
  · obtain ⟨ok, hl, he⟩ := h.is j t hj
    refine ⟨ok, by omega, fun c => ?_⟩
    rw [he, show 24 - k = (24 - (k + 1)) + 1 from by omega, cntFrom, hb]
    simp

/-- The next row's trees. -/
def nextT (k : Nat) (ts : List T) (j : Nat) : T := T.mk k (ts.getD j (leaf false)) (ts.getD (j + 1) (leaf false))

theorem brow_next {f : Nat} {low high : Int} {k : Nat} {ts : List T} (h : BRow f low high (k + 1) ts) (hk : k < 24) (hb : f.testBit k = true) : BRow f low high k ((List.range (featsTo f (k + 1)).length).map (nextT k ts)) := by
  have hl : (featsTo f (k + 1)).length = (featsTo f k).length + 1 := by rw [featsTo_succ, hb]; simp
  refine ⟨by simp [hl], fun j t hj => ?_⟩
  have hjl : j < (featsTo f (k + 1)).length := by
    have := (List.getElem?_eq_some_iff.1 hj).1
    simpa using this
  rw [List.getElem?_map, List.getElem?_range hjl] at hj
  simp only [Option.map_some, Option.some.injEq] at hj
  subst hj
  have hlen := h.len
  have g1 : ts[j]? = some (ts[j]'(by omega)) := List.getElem?_eq_getElem (by omega)
  have g2 : ts[j + 1]? = some (ts[j + 1]'(by omega)) := List.getElem?_eq_getElem (by omega)
  obtain ⟨o1, v1, e1⟩ := h.is j _ g1
  obtain ⟨o2, v2, e2⟩ := h.is (j + 1) _ g2
  unfold nextT
  rw [List.getD_eq_getElem?_getD, List.getD_eq_getElem?_getD, g1, g2]
  simp only [Option.getD_some]
  refine ⟨mk_ok hk (by omega) (by omega) o1 o2, mk_lv (by omega), fun c => ?_⟩
  rw [mk_ev, e1, e2, show 24 - k = (24 - (k + 1)) + 1 from by omega, cntFrom, hb]
  cases c k
  · simp
  · simp only [Bool.and_self, if_true]
    congr 1
    omega

/-- The first row's numbers, as far as they are laid. -/
def vals0 (low high : Int) (n k : Nat) : List Value := (List.range n).map fun j => iv (if j < k ∧ bet low high j = true then 1 else 0)
theorem vals0_zero (low high : Int) (n : Nat) : vals0 low high n 0 = List.replicate n (.int .i64 0) := by
  apply List.ext_getElem (by simp [vals0])
  intro i h1 h2
  simp [vals0, iv]
theorem vals0_end (low high : Int) (n : Nat) (M : List T) : vals0 low high n n = (row0 low high n).map fun t => iv (pl M t) := by
  apply List.ext_getElem (by simp [vals0, row0])
  intro i h1 h2
  have hi : i < n := by simpa [vals0] using h1
  simp only [vals0, row0, List.getElem_map, List.getElem_range, pl_leaf, hi, true_and]
  cases bet low high i <;> rfl
theorem vals0_yes {low high : Int} {n k : Nat} (h : bet low high k = true) : vals0 low high n (k + 1) = (vals0 low high n k).set k (.int .i64 1) := by
  apply List.ext_getElem (by simp [vals0])
  intro i h1 h2
  rw [List.getElem_set]
  simp only [vals0, List.getElem_map, List.getElem_range]
  by_cases e : k = i
  · subst e
    rw [if_pos rfl, if_pos ⟨by omega, h⟩]
    rfl
  · rw [if_neg e]
    have : (i < k + 1) ↔ (i < k) := by omega
    simp only [this]
theorem vals0_no {low high : Int} {n k : Nat} (h : bet low high k = false) : vals0 low high n (k + 1) = vals0 low high n k := by
  apply List.ext_getElem (by simp [vals0])
  intro i h1 h2
  simp only [vals0, List.getElem_map, List.getElem_range]
  by_cases e : i = k
  · subst e
    simp [h]
  · have : (i < k + 1) ↔ (i < k) := by omega
    simp only [this]
theorem vals0_len (low high : Int) (n k : Nat) : (vals0 low high n k).length = n := by simp [vals0]

end Go.Proofs.Ytefclohjeompkaa

/- The contract of Between. -/
namespace Go.Proofs.Ytefclohjeompkaa
open Go Go.RowKit Go.Proofs.Gen Go.Proofs.Bdd Go.Proofs.Bdd.T

/-- A new slice of n ints, all 0. -/
theorem make_ints (w : World) (n : Nat) (hn : n ≤ 1000) : ∃ w', (Instr.makeSlice 28 (.int .i64 (n : Int)) (.int .i64 (n : Int))).run Try.prog w = .ok (.slice (some ⟨w.heap.size, 0, none⟩) n n) w' ∧
    w'.ownsRow w.heap.size 3 1 (.slice (some ⟨w.heap.size, 0, none⟩) n n) n (List.replicate n (.int .i64 0)) ∧ w.grownBy w' none := by
  obtain ⟨i0, hi0, hz0, hz1, hz2⟩ := info_parts info3
  obtain ⟨w1, h1, h2, h3⟩ := run_make_full (P := Try.prog) w w.heap.size 28 3 i0 (.int .i64 0) 1 Try.underlying28 hi0 hz0 hz1 .i64 .i64 n (by rw [hz2]; omega) (by unfold maxLen; omega) (Nat.le_refl _)
  refine ⟨w1, h1, ?_, h3⟩
  have hc : (madeCells (Value.int .i64 0).cells (n * 1)).toList = List.replicate n (.int .i64 0) := by
    rw [Nat.mul_one]
    have e : (Value.int .i64 0).cells = #[Value.int .i64 0] := by simp [Value.cells]
    rw [e, toList_madeCells_one]
  rw [hc] at h2
  exact h2

theorem u32_bit0 (c i : Nat) (hc : c < 4294967296) (hi : i < 32) : (bits .and .u32 ((c : Int) / 2 ^ i) 1 == 0) = !c.testBit i := by
  have h := u32_bit' c i hc hi
  have hd : c / 2 ^ i < 4294967296 := Nat.lt_of_le_of_lt (Nat.div_le_self _ _) hc
  have h' := Go.Proofs.Gen.u32_and (c / 2 ^ i) 1 hd (by decide)
  rw [Nat.and_one_is_mod] at h'
  have e : ((c : Int) / 2 ^ i) = ((c / 2 ^ i : Nat) : Int) := by simp
  rw [e] at h ⊢
  rw [show ((1 : Int)) = ((1 : Nat) : Int) from rfl] at h ⊢
  rw [h'] at h ⊢
  rw [← h]
  have : c / 2 ^ i % 2 = 0 ∨ c / 2 ^ i % 2 = 1 := by omega
  rcases this with e | e <;> rw [e] <;> rfl

/-- The numbers of a row that is made. -/
def valsN (M : List T) (k : Nat) (ts : List T) (m j : Nat) : List Value := (List.range m).map fun q => iv (if q < j then pl M (nextT k ts q) else 0)
theorem valsN_zero (M : List T) (k : Nat) (ts : List T) (m : Nat) : valsN M k ts m 0 = List.replicate m (.int .i64 0) := by
  apply List.ext_getElem (by simp [valsN])
  intro i h1 h2
  simp [valsN, iv]
theorem valsN_succ (M : List T) (k : Nat) (ts : List T) (m j : Nat) : valsN M k ts m (j + 1) = (valsN M k ts m j).set j (iv (pl M (nextT k ts j))) := by
  apply List.ext_getElem (by simp [valsN])
  intro i h1 h2
  rw [List.getElem_set]
  simp only [valsN, List.getElem_map, List.getElem_range]
  by_cases e : j = i
  · subst e
    rw [if_pos rfl, if_pos (by omega)]
  · rw [if_neg e]
    have : (i < j + 1) ↔ (i < j) := by omega
    simp only [this]
theorem valsN_add {M : List T} {k : Nat} {ts : List T} {m j : Nat} (hi : ∀ q, q < j → In M (nextT k ts q)) (i : Nat) (l h : T) : valsN (add M i l h) k ts m j = valsN M k ts m j := by
  refine List.map_congr_left fun q _ => ?_
  by_cases e : q < j
  · rw [if_pos e, if_pos e]
    obtain ⟨N, hN⟩ := add_prefix M i l h
    rw [hN, pl_append (hi q e)]
  · rw [if_neg e, if_neg e]
theorem valsN_end (M : List T) (k : Nat) (ts : List T) (m : Nat) : valsN M k ts m m = ((List.range m).map (nextT k ts)).map fun t => iv (pl M t) := by
  unfold valsN
  rw [List.map_map]
  refine List.map_congr_left fun q hq => ?_
  rw [if_pos (by simpa using hq)]
  rfl
theorem map_add {M : List T} {ts : List T} (hi : ∀ t ∈ ts, In M t) (i : Nat) (l h : T) : (ts.map fun t => iv (pl (add M i l h) t)) = ts.map fun t => iv (pl M t) := by
  refine List.map_congr_left fun t ht => ?_
  obtain ⟨N, hN⟩ := add_prefix M i l h
  rw [hN, pl_append (hi t ht)]

set_option maxRecDepth 100000 in
set_option maxHeartbeats 3200000 in
theorem between_f {f : Nat} (hf : f < 4294967296) (low high : Int) (w : World) : Calls Try.prog 72 #[.int .u32 f, .int .i64 low, .int .i64 high] w (FPost w (betF f low high)) := by
  have a1 : bits .and .u32 (f : Int) 16777215 = ((f &&& 16777215 : Nat) : Int) := Go.Proofs.Gen.u32_and f 16777215 hf (by decide)
  have l1 := and24_lt f
  have hfl := feats_low f
  have hlen := featsTo_len f 24
  obtain ⟨n, hn⟩ : ∃ n, n = (featsTo f 24).length := ⟨_, rfl⟩
  rw [← hn] at hlen
  have ho := fun w => ones_calls (x := f &&& 16777215) l1 w
  rw [hfl, ← hn] at ho
  have HO := Lib.hid ho
  have HNn := Lib.hid hn
  clear ho hfl hn
  go_enter Try.func72, Try.ntmps72
  go_upto_region 3 with (first
    | (go_at_call 76; refine (maker_new _).mono ?_; rintro e w1 ⟨rfl, rfl⟩)
    | (go_at_call 111; refine (HO.out _).mono ?_; rintro e w1 ⟨rfl, n1⟩))
  clear a1
  have facts : ∀ W, W = (((w.alloc (Obj.cells #[Value.slice none 0 0, Value.int IntKind.i64 0] 31)).alloc (Obj.map #[] 0)).alloc (Obj.cells #[Value.slice none 0 0, Value.map (some (w.heap.size + 1))] 154)) →
      Near w W ∧ W.heap[w.heap.size]? = some (.cells #[.slice none 0 0, .int .i64 0] 31 (0, 0)) ∧ W.heap.size = w.heap.size + 3 ∧ IsMaker W (w.heap.size + 1 + 1) (fun b => w.heap.size + 1 ≤ b ∧ b < w.heap.size + 3) [] := by
    rintro W rfl
    refine ⟨(((Near.refl w).alloc _).alloc _).alloc _, ?_, by simp, maker_empty ?_ (kb := w.heap.size + 1) ?_ (by omega) (by omega)⟩
    all_goals
      repeat (first | exact heap_new_at (by simp; done) | refine (heap_old_at (by simp <;> omega)).trans ?_)
  obtain ⟨k1, k2, k3, k4⟩ := facts _ rfl
  have HN := Lib.hid (k1.trans n1)
  have HR := Lib.hid (keepN n1 k2)
  have HM := Lib.hid (k4.near n1)
  have hsz : w.heap.size + 3 ≤ w1.heap.size := by
    have := n1.size'
    rw [k3] at this
    exact this
  clear facts k1 k2 k3 k4 n1
  obtain ⟨w2, hmk, hrow, hgr⟩ := make_ints w1 (n + 1) (by omega)
  have e1 : (((n + 1 : Nat) : Int)) = (n : Int) + 1 := by omega
  rw [e1] at hmk
  have HRow := Lib.hid hrow
  have N2 : Near w1 w2 := Kept.grown (Near.refl w1) hgr (by intro k e; cases e)
  have HN2 := Lib.hid (HN.out.trans N2)
  have HR2 := Lib.hid (keepN N2 HR.out)
  have HM2 := Lib.hid (HM.out.near N2)
  have hl2 : w1.heap.size < w2.heap.size := (hrow.lt _ rfl).2
  clear hrow hgr N2 e1
  go_wp2_with fail
  go_loopw [10, 23] (fun x i wr => ∃ k : Nat, k ≤ n + 1 ∧ i = .int .i64 k ∧ wr.ownsRow w1.heap.size 3 1 (.slice (some ⟨w1.heap.size, 0, none⟩) (n + 1) (n + 1)) (n + 1) (vals0 low high (n + 1) k) ∧ Kept (fun b => b = w1.heap.size) w2 wr) (fun _ i _ => n + 1 - (intOf i).toNat)
  case atStart =>
    refine ⟨0, Nat.zero_le _, rfl, ?_, Kept.refl _ _⟩
    rw [vals0_zero]
    exact HRow.out
  case round =>
    obtain ⟨k, hk, rfl, hrow, hkp⟩ := hrel
    have HRw := Lib.hid hrow
    have HK := Lib.hid hkp
    clear hrow hkp
    by_cases hlt : k < n + 1
    · have hlt' : (k : Int) < (n : Int) + 1 := by omega
      by_cases hlo : low ≤ k
      · by_cases hhi : (k : Int) ≤ high
        · have hbt : bet low high k = true := by simp [bet, hlo, hhi]
          have hv := vals0_yes (n := n + 1) hbt
          have HV := Lib.hid hv
          obtain ⟨g, c, cur, e, hg, hcu, -⟩ := row1' HRw.out (k := k) (u := (vals0 low high (n + 1) k)[k]'(by rw [vals0_len]; exact hlt)) (List.getElem?_eq_getElem (by rw [vals0_len]; exact hlt)) hlt
          cases e
          have c0 := cell1 (o := k) hg hcu
          have f0 := free1 hg k
          clear hv hbt hg hcu
          go_wp2_with fail
          refine ⟨⟨k + 1, by omega, by go_num, ?_, HK.out.setCell (fun _ => rfl) _⟩, by simp [intOf]; omega⟩
          rw [HV.out]
          exact (HRw.out.stored k _).1
        · have hbt : bet low high k = false := by simp [bet, hhi]
          have HV := Lib.hid (vals0_no (n := n + 1) hbt)
          clear hbt
          go_wp2_with fail
          refine ⟨⟨k + 1, by omega, by go_num, ?_, HK.out⟩, by simp [intOf]; omega⟩
          rw [HV.out]
          exact HRw.out
      · have hbt : bet low high k = false := by simp [bet, hlo]
        have HV := Lib.hid (vals0_no (n := n + 1) hbt)
        clear hbt
        go_wp2_with fail
        refine ⟨⟨k + 1, by omega, by go_num, ?_, HK.out⟩, by simp [intOf]; omega⟩
        rw [HV.out]
        exact HRw.out
    · have hkl : k = n + 1 := by omega
      rw [hkl] at HRw
      have hkn : ¬ (k : Int) < (n : Int) + 1 := by omega
      clear hkl
      have hpl : Places (w.heap.size + 1) wr (w.heap.size + 1 + 1) (.slice (some ⟨w1.heap.size, 0, none⟩) (n + 1) (n + 1)) (row0 low high (n + 1)) [] := by
        refine ⟨.nil, (HM2.out.of_kept HK.out (fun b hb h e => by omega)).mono (fun b h => ⟨h.1, ?_⟩), ?_, ?_⟩
        · simp only [Value.ownBlock, ne_eq, Option.some.injEq]
          omega
        · have := HRw.out
          rw [vals0_end low high (n + 1) []] at this
          have hl : (row0 low high (n + 1)).length = n + 1 := by simp [row0]
          rw [hl]
          exact ownsRow_low (base := w1.heap.size) this (by omega)
        · intro t ht
          obtain ⟨j, _, rfl⟩ := List.mem_map.1 ht
          trivial
      have HP := Lib.hid hpl
      have HNr := Lib.hid (show Near w wr from Kept.mono (HN2.out.kept.trans HK.out) (fun b hb h => by omega))
      have HRr := Lib.hid ((HK.out.block _ (by omega) (by omega)).trans HR2.out)
      have HB0 := Lib.hid (HNn.out ▸ row0_is f low high)
      have hzr : w.heap.size + 3 ≤ wr.heap.size := by
        have := HK.out.size
        omega
      clear hpl HRw HK HN HR HM HN2 HR2 HM2 HRow
      go_wp2_with fail
      go_loopw [9, 11] (fun x i wr => ∃ (k : Nat) (ts M : List T), k ≤ 24 ∧ i = .int .i64 ((k : Int) - 1) ∧ BRow f low high k ts ∧ Places (w.heap.size + 1) wr (w.heap.size + 1 + 1) x ts M ∧ M.length ≤ 25 * (24 - k) ∧ Near w wr ∧ wr.heap[w.heap.size]? = some (.cells #[.slice none 0 0, .int .i64 0] 31 (0, 0)) ∧ w.heap.size + 3 ≤ wr.heap.size) (fun _ i _ => (intOf i + 1).toNat)
      case atStart =>
        exact ⟨24, _, [], Nat.le_refl _, rfl, HB0.out, HP.out, Nat.zero_le _, HNr.out, HRr.out, hzr⟩
      case round =>
        clear HB0 HP HNr HRr hzr
        obtain ⟨k, ts, M, hk, rfl, hbr, hpl, hML, hn, hres, hzq⟩ := hrel
        have HBr := Lib.hid hbr
        have HPl := Lib.hid hpl
        have HNq := Lib.hid hn
        have HRq := Lib.hid hres
        clear hbr hpl hn hres
        cases k with
        | zero =>
          have e0 : ((0 : Nat) : Int) - 1 = -1 := rfl
          rw [e0]
          have hn1 : ¬ (0 : Int) ≤ -1 := by omega
          have hl1 : ts.length = 1 := by rw [HBr.out.len]; rfl
          have ht0 : ts[0]? = some (ts[0]'(by omega)) := List.getElem?_eq_getElem (by omega)
          obtain ⟨t, ht⟩ : ∃ t, t = ts[0]'(by omega) := ⟨_, rfl⟩
          rw [← ht] at ht0
          obtain ⟨ok, -, hev⟩ := HBr.out.is 0 t ht0
          have hin := HPl.out.inn _ (List.mem_of_getElem? ht0)
          have hrow := HPl.out.row
          rw [hl1] at hrow
          obtain ⟨g, xc, hx9, z0, -⟩ := row1 hrow (k := 0) (u := iv (pl M t)) (by rw [List.getElem?_map, ht0]; rfl) (by omega)
          subst hx9
          simp only [iv] at z0
          have HEv := Lib.hid hev
          clear hrow hl1 ht0 ht hev e0
          go_wp2_with (first
            | (go_at_call 79; refine (done_calls HPl.out.good (by omega) hin ok HPl.out.maker rfl).mono ?_; rintro e w3 ⟨v3, rfl, hd, hb⟩; obtain ⟨bo, bn, bc, rfl, -⟩ := hd.form; have HD3 := Lib.hid hd; have HB3 := Lib.hid hb; have HE := Lib.hid (keepE hb HRq.out); have q0 := cell1 (o := 0) HE.out rfl; have q1 := cell1 (o := 1) HE.out rfl; have f0 := free1 HE.out 0; have f1 := free1 HE.out 1; clear hd hb))
          refine bodyPost_ret (v := .agg #[.slice bo bn bc, .int .i64 (pl (nodes t) t : Nat)]) (by simp [results, Try.results72, go_sem, q0, q1]) rfl
            ⟨_, rfl, ⟨t, isD_store HD3.out HE.out, fun c => ?_⟩, ((HNq.out.trans (Near.of_below HB3.out)).set (by show w.heap.size ≤ w.heap.size; omega) _).set (by show w.heap.size ≤ w.heap.size; omega) _⟩
          rw [HEv.out, Nat.zero_add]
          rfl
        | succ p =>
          have e0 : ((p + 1 : Nat) : Int) - 1 = (p : Int) := by omega
          rw [e0]
          have hb0 := u32_bit0 f p hf (by omega)
          have HB := Lib.hid hb0
          clear hb0 e0
          have hp24 : p < 24 := by omega
          have hp64 : (p : Int) < 64 := by omega
          cases hbit : f.testBit p with
          | false =>
            have hbf : (bits BinOp.and IntKind.u32 ((f : Int) / 2 ^ p) 1 == 0) = true := by rw [HB.out, hbit]; rfl
            have HBt := Lib.hid hbit
            clear hbit
            go_wp2_with fail
            exact ⟨⟨p, ts, M, by omega, rfl, brow_skip HBr.out hp24 HBt.out, HPl.out, by omega, HNq.out, HRq.out, hzq⟩, by simp [intOf]⟩
          | true =>
            have hbf : (bits BinOp.and IntKind.u32 ((f : Int) / 2 ^ p) 1 == 0) = false := by rw [HB.out, hbit]; rfl
            have HBt := Lib.hid hbit
            clear hbit
            have hlen := HBr.out.len
            obtain ⟨m, hm⟩ : ∃ m, m = (featsTo f (p + 1)).length := ⟨_, rfl⟩
            rw [← hm] at hlen
            have hmle : m ≤ p + 1 := by rw [hm]; exact featsTo_len f (p + 1)
            have hrow := HPl.out.row
            rw [hlen] at hrow
            obtain ⟨g, xc, hx9, -, hgl⟩ := row1 hrow (k := 0) (u := iv (pl M (ts[0]'(by omega)))) (by rw [List.getElem?_map, List.getElem?_eq_getElem (by omega)]; rfl) (by omega)
            subst hx9
            obtain ⟨w5, hmk, hrow5, hgr5⟩ := make_ints wr m (by omega)
            have N5 : Near wr w5 := Kept.grown (Near.refl wr) hgr5 (by intro k e; cases e)
            have hl5 : wr.heap.size < w5.heap.size := (hrow5.lt _ rfl).2
            have HRow5 := Lib.hid hrow5
            have HRowX := Lib.hid hrow
            have HN5 := Lib.hid N5
            have HMm := Lib.hid hm
            have HLen := Lib.hid hlen
            have hgb := (hrow.lt g rfl).1
            clear hrow hrow5 hgr5 N5 hm hlen
            go_wp2_with fail
            obtain ⟨wo, rfl⟩ : ∃ wo : World, wo = wr := ⟨_, rfl⟩
            go_loopw [13, 53] (fun x i wr => ∃ (j : Nat) (N : List T), j ≤ m ∧ i = .int .i64 (j : Nat) ∧ T.Good N ∧ IsMaker wr (w.heap.size + 1 + 1) (fun b => (w.heap.size + 1 ≤ b ∧ b ≠ g) ∧ b ≠ wo.heap.size) N ∧ N.length ≤ M.length + j ∧
                wr.ownsRow (w.heap.size + 1) 3 1 (.slice (some ⟨g, 0, none⟩) (m + 1) xc) (m + 1) (ts.map fun t => iv (pl N t)) ∧ wr.ownsRow wo.heap.size 3 1 (.slice (some ⟨wo.heap.size, 0, none⟩) m m) m (valsN N p ts m j) ∧
                (∀ t ∈ ts, In N t) ∧ (∀ q, q < j → In N (nextT p ts q)) ∧ Kept (fun b => (w.heap.size + 1 ≤ b ∧ b ≠ g)) w5 wr) (fun _ i _ => m - (intOf i).toNat)
            case atStart =>
              refine ⟨0, M, Nat.zero_le _, rfl, HPl.out.good, ?_, by omega, ?_, ?_, HPl.out.inn, fun q hq => absurd hq (Nat.not_lt_zero _), Kept.refl _ _⟩
              · refine (HPl.out.maker.mono_lt (R := fun b => (w.heap.size + 1 ≤ b ∧ b ≠ g) ∧ b ≠ wo.heap.size) (fun b hb h => ⟨⟨h.1, fun e => h.2 (by rw [e]; rfl)⟩, by omega⟩)).near HN5.out
              · exact owns_kept HRowX.out HN5.out.kept (R := fun _ => False) (fun _ _ x => x)
              · rw [valsN_zero]
                exact HRow5.out
            case round =>
              obtain ⟨j, N, hj, rfl, gN, hm, hNL, hrx, hry, hix, hiy, hkp⟩ := hrel
              have HMk := Lib.hid hm
              have HX := Lib.hid hrx
              have HY := Lib.hid hry
              have HIX := Lib.hid hix
              have HIY := Lib.hid hiy
              have HK := Lib.hid hkp
              have hzk := hkp.size
              clear hm hrx hry hix hiy hkp
              by_cases hlt : j < m
              · have hlt' : (j : Int) < m := by omega
                have hlen := HLen.out
                have t1 : ts[j]? = some (ts[j]'(by omega)) := List.getElem?_eq_getElem (by omega)
                have t2 : ts[j + 1]? = some (ts[j + 1]'(by omega)) := List.getElem?_eq_getElem (by omega)
                obtain ⟨tl, htl⟩ : ∃ t, t = ts[j]'(by omega) := ⟨_, rfl⟩
                obtain ⟨th, hth⟩ : ∃ t, t = ts[j + 1]'(by omega) := ⟨_, rfl⟩
                rw [← htl] at t1
                rw [← hth] at t2
                obtain ⟨ol, vl, -⟩ := HBr.out.is _ _ t1
                obtain ⟨oh, vh, -⟩ := HBr.out.is _ _ t2
                have hnt : nextT p ts j = T.mk p tl th := by
                  unfold nextT
                  rw [List.getD_eq_getElem?_getD, List.getD_eq_getElem?_getD, t1, t2]
                  rfl
                obtain ⟨g1, c1, e1, z1, -⟩ := row1 HX.out (k := j) (u := iv (pl N tl)) (by rw [List.getElem?_map, t1]; rfl) (by omega)
                obtain ⟨g2, c2, e2, z2, -⟩ := row1 HX.out (k := j + 1) (u := iv (pl N th)) (by rw [List.getElem?_map, t2]; rfl) (by omega)
                cases e1
                cases e2
                have il := HIX.out _ (List.mem_of_getElem? t1)
                have ih := HIX.out _ (List.mem_of_getElem? t2)
                simp only [iv] at z1 z2
                have HNT := Lib.hid hnt
                have hj1 : (j : Int) + 1 < (m : Int) + 1 := by omega
                have hj2 : (j : Int) < (m : Int) + 1 := by omega
                have hjb : 0 ≤ (j : Int) + 1 := by omega
                clear hnt t1 t2 htl hth hlen
                have hsk : ∀ w', Kept (fun b => (w.heap.size + 1 ≤ b ∧ b ≠ g)) wr w' → w'.cell? ⟨g, j, none⟩ = some (.int .i64 (pl N tl : Nat)) ∧ w'.cell? ⟨g, j + 1, none⟩ = some (.int .i64 (pl N th : Nat)) :=
                  fun w' h => ⟨h.cell z1 (fun e => e.2 rfl), h.cell z2 (fun e => e.2 rfl)⟩
                have HSK := Lib.hid hsk
                clear hsk
                have hwo : w.heap.size + 1 ≤ wo.heap.size ∧ wo.heap.size ≠ g := ⟨by omega, by omega⟩
                have hzz : w.heap.size + 3 ≤ wo.heap.size := hzq
                have hw1 : IntKind.i64.wrap ((j : Int) + 1) = (j : Int) + 1 := IntWalk.i64_in _ (by omega)
                have hw2 : ((j : Int) + 1).toNat = j + 1 := by omega
                go_wp2_with fail
                go_region_held3 (fun w' => w'.cell? ⟨g, j, none⟩ = some (.int .i64 (pl N tl : Nat)) ∧ w'.cell? ⟨g, j + 1, none⟩ = some (.int .i64 (pl N th : Nat)))
                  (first
                    | exact HSK.out _ (HK3.out.setCell (fun _ => hwo) _)
                    | exact HSK.out _ HK3.out
                    | exact HSK.out _ (Kept.refl _ _).drew)
                  (first
                    | (go_at_call 78; refine (node_calls gN il ih hp24 (by omega) (S := fun b => (w.heap.size + 1 ≤ b ∧ b ≠ g) ∧ b ≠ wo.heap.size) (fun b hb => by have hb' : wr.heap.size ≤ b := hb; exact ⟨⟨by omega, by omega⟩, by omega⟩) (HMk.out.near (Near.refl _).drew) rfl rfl rfl).mono ?_; rintro e w3 ⟨rfl, hm3, hk3⟩; have HM3 := Lib.hid hm3; have HKn := Lib.hid hk3; have HK3 := Lib.hid ((Kept.refl (fun b => (w.heap.size + 1 ≤ b ∧ b ≠ g)) wr).drew.trans (Kept.mono hk3 (fun _ _ h => h.1))); have hy3 := owns_kept HY.out.drew hk3 (fun b hb h => h.2 (by cases hb; rfl)); have HY3 := Lib.hid hy3; obtain ⟨gy, cy, cury, ey, hgy, hcy, -⟩ := row1' hy3 (k := j) (u := (valsN N p ts m j)[j]'(by simp [valsN]; omega)) (List.getElem?_eq_getElem (by simp [valsN]; omega)) hlt; cases ey; have y0 := cell1 (o := j) hgy hcy; have yf := free1 hgy j; clear hm3 hk3 hy3 hgy hcy))
                all_goals
                  have hrx3 := owns_kept HX.out.drew HKn.out (fun b hb h => h.1.2 (by cases hb; rfl))
                  have hfin : (w3.setCell ⟨wo.heap.size, j, none⟩ (.int .i64 (pl (add N p tl th) (T.mk p tl th) : Nat))).ownsRow wo.heap.size 3 1 (.slice (some ⟨wo.heap.size, 0, none⟩) m m) m (valsN (add N p tl th) p ts m (j + 1)) := by
                    rw [valsN_succ, valsN_add HIY.out, HNT.out]
                    exact (HY3.out.stored j _).1
                  have hrx4 : (w3.setCell ⟨wo.heap.size, j, none⟩ (.int .i64 (pl (add N p tl th) (T.mk p tl th) : Nat))).ownsRow (w.heap.size + 1) 3 1 (.slice (some ⟨g, 0, none⟩) (m + 1) xc) (m + 1) (ts.map fun t => iv (pl (add N p tl th) t)) := by
                    rw [map_add HIX.out]
                    exact ownsRow_setCell_other hrx3 (by simp only [Value.ownBlock, ne_eq, Option.some.injEq]; omega) _
                  have HFin := Lib.hid hfin
                  have HRX4 := Lib.hid hrx4
                  clear hfin hrx3 hrx4 hw1 hw2
                  go_wp2_with fail
                  have HKe := Lib.hid (HK.out.trans (Kept.setCell (p := ⟨wo.heap.size, j, none⟩) HK3.out (fun _ => hwo) (.int .i64 (pl (add N p tl th) (T.mk p tl th) : Nat))))
                  go_roundw
                  case measure => simp [intOf]; omega
                  case rel =>
                  refine ⟨j + 1, add N p tl th, by omega, by go_num, add_good gN il ih hp24 (by omega) (by omega) ol oh, ?_, ?_, HRX4.out, HFin.out, ?_, ?_, HKe.out⟩
                  · exact HM3.out.of_kept (R := fun b => b = wo.heap.size) (Kept.setCell (S := fun b => b = wo.heap.size) (p := ⟨wo.heap.size, j, none⟩) (Kept.refl _ w3) (fun _ => rfl) _) (fun b _ h => h.2)
                  · have := add_len N p tl th
                    omega
                  · intro t ht
                    obtain ⟨N', hN'⟩ := add_prefix N p tl th
                    rw [hN']
                    exact (HIX.out t ht).mono N'
                  · intro q hq
                    by_cases e : q = j
                    · subst e
                      rw [HNT.out]
                      exact add_in il
                    · obtain ⟨N', hN'⟩ := add_prefix N p tl th
                      rw [hN']
                      exact (HIY.out q (by omega)).mono N'
              · have hjm : j = m := by omega
                subst hjm
                have hbn : BRow f low high p ((List.range j).map (nextT p ts)) := by
                  have := brow_next HBr.out hp24 HBt.out
                  rw [← HMm.out] at this
                  exact this
                have hpl : Places (w.heap.size + 1) wr (w.heap.size + 1 + 1) (.slice (some ⟨wo.heap.size, 0, none⟩) j j) ((List.range j).map (nextT p ts)) N := by
                  refine ⟨gN, HMk.out.mono (fun b h => ⟨h.1.1, ?_⟩), ?_, ?_⟩
                  · have := h.2
                    simp only [Value.ownBlock, ne_eq, Option.some.injEq]
                    omega
                  · have := HY.out
                    rw [valsN_end] at this
                    have hl : ((List.range j).map (nextT p ts)).length = j := by simp
                    rw [hl]
                    exact ownsRow_low this (by omega)
                  · intro t ht
                    obtain ⟨q, hq, rfl⟩ := List.mem_map.1 ht
                    exact HIY.out q (by simpa using hq)
                have HPl2 := Lib.hid hpl
                have HBn := Lib.hid hbn
                have hnw : Near w wr := Kept.mono ((HNq.out.trans HN5.out).kept.trans HK.out) (fun b hb h => by omega)
                have HNw := Lib.hid hnw
                have HRw := Lib.hid ((HK.out.block w.heap.size (by omega) (by omega)).trans (keepN HN5.out HRq.out))
                clear hpl hbn hnw
                go_wp2_with fail
                exact ⟨⟨p, _, N, by omega, rfl, HBn.out, HPl2.out, by omega, HNw.out, HRw.out, by omega⟩, by simp [intOf]⟩

end Go.Proofs.Ytefclohjeompkaa

/- The reference's Between, as a table. -/
namespace Go.Proofs.Ytefclohjeompkaa
open Go Go.RowKit Go.Proofs.Gen Go.Proofs.Bdd Go.Proofs.Bdd.T

def betN (low high : Int) (c : Nat) : Bool := decide (low ≤ ((feats c).length : Int)) && decide (((feats c).length : Int) ≤ high)

set_option maxRecDepth 100000 in
set_option maxHeartbeats 1600000 in
theorem bet_table {w : World} (f : Nat) (low high : Int) (hf : f < 4294967296) :
    Calls Try.prog 130 #[.int .u32 f, .int .i64 low, .int .i64 high] w fun e w' => ∃ v, e = .returned v ∧ IsR w' v (feats f) (tabTo (2 ^ (feats f).length) (fun k => betN low high (cfg (feats f) k)) (2 ^ (feats f).length)) ∧ Below w.heap.size w w' := by
  have hV := feats_rising f
  obtain ⟨V, hVV⟩ : ∃ V, V = feats f := ⟨_, rfl⟩
  rw [← hVV] at hV ⊢
  have HV := Lib.hid hV
  have HU := Lib.hid hVV
  have HOR := Lib.hid hf
  clear hV hVV hf
  have HN3 := Lib.hid ((Near.refl w).alloc (.cells #[.slice none 0 0, .slice none 0 0] 37))
  have HEC := Lib.hid (heap_new_at (w := w) (o := .cells #[.slice none 0 0, .slice none 0 0] 37) rfl)
  go_enter Try.func130, Try.ntmps130
  go_wp2_with (first
    | (go_at_call 18; refine (features_calls _ HOR.out _).mono ?_; rw [← HU.out]; rintro e w4 ⟨x, rfl, rx, n4⟩; have RX := Lib.hid rx; clear rx)
    | (go_at_call 127; refine (blank_calls HV.out (ownsRow_low RX.out (Nat.zero_le _))).mono ?_; rintro e w5 ⟨sn, rfl, rn, n5⟩; have RN := Lib.hid rn; clear rn; obtain ⟨ao, cap, rfl⟩ := owns_form RX.out; obtain ⟨no, ncp, rfl⟩ := owns_form RN.out))
  obtain ⟨tb, tcp, tcur, htv, htg, -, htb⟩ := row1' RN.out (k := 0) (u := .bool false) (by simp [Nat.two_pow_pos]) (Nat.two_pow_pos _)
  simp only [Value.slice.injEq, true_and] at htv
  obtain ⟨rfl, rfl⟩ := htv
  have htl : tb < w5.heap.size := (Array.getElem?_eq_some_iff.1 htg).1
  have W45 : Near w (w5.alloc (.cells #[.slice ao V.length cap, .slice (some ⟨tb, 0, none⟩) (2 ^ V.length) ncp] 37)) := ((HN3.out.trans n4).trans n5).alloc _
  have HWW := Lib.hid W45
  have EC4 := Lib.hid (heap_old_at (o := .cells #[.slice ao V.length cap, .slice (some ⟨tb, 0, none⟩) (2 ^ V.length) ncp] 37) (Array.getElem?_eq_some_iff.1 (keepN n5 (keepN n4 HEC.out))).1 |>.trans (keepN n5 (keepN n4 HEC.out)))
  have EO : (w5.alloc (.cells #[.slice ao V.length cap, .slice (some ⟨tb, 0, none⟩) (2 ^ V.length) ncp] 37)).heap[w5.heap.size]? = some (.cells #[.slice ao V.length cap, .slice (some ⟨tb, 0, none⟩) (2 ^ V.length) ncp] 37 (0, 0)) := heap_new_at rfl
  have HEO := Lib.hid EO
  have RNW := Lib.hid (ownsRow_low (RN.out.alloc (.cells #[.slice ao V.length cap, .slice (some ⟨tb, 0, none⟩) (2 ^ V.length) ncp] 37)) (Nat.zero_le _))
  have hWs : w5.heap.size < (w5.alloc (.cells #[.slice ao V.length cap, .slice (some ⟨tb, 0, none⟩) (2 ^ V.length) ncp] 37)).heap.size := by simp
  have lV := HV.out.len
  have hw4 : w.heap.size + 1 ≤ w4.heap.size := by simpa using n4.size'
  have W44 := Lib.hid (n5.alloc (.cells #[.slice ao V.length cap, .slice (some ⟨tb, 0, none⟩) (2 ^ V.length) ncp] 37))
  have RX2 := Lib.hid (ownsRow_low RX.out (Nat.zero_le _))
  clear W45 EO RN RX HEC n4 n5 htg HN3
  obtain ⟨N, hN⟩ : ∃ N, N = 2 ^ V.length := ⟨_, rfl⟩
  have hNb : N ≤ 16777216 := by
    have hp : (2 : Nat) ^ V.length ≤ 2 ^ 24 := Nat.pow_le_pow_right (by omega) (by omega)
    have e24 : (2 : Nat) ^ 24 = 16777216 := by decide
    omega
  rw [← hN] at hWs HWW HEO RNW W44 EC4 ⊢
  have HNN := Lib.hid hN
  clear hN
  generalize (w5.alloc (.cells #[.slice ao V.length cap, .slice (some ⟨tb, 0, none⟩) N ncp] 37)) = W at hWs HWW HEO RNW W44 EC4 ⊢
  have HG : ∃ g : Nat → Bool, g = fun k => betN low high (cfg V k) := ⟨_, rfl⟩
  obtain ⟨g, hg⟩ := HG
  have HG := Lib.hid hg
  clear hg
  go_loopw [8] (fun i wr => ∃ k : Nat, k ≤ N ∧ i = .int .i64 k ∧ wr.ownsRow 0 4 1 (.slice (some ⟨tb, 0, none⟩) N ncp) N ((tabTo N g k).map Value.bool) ∧ Kept (fun b => b = tb) W wr) (fun i _ => N - (intOf i).toNat)
  case atStart =>
    refine ⟨0, Nat.zero_le _, rfl, ?_, Kept.refl _ _⟩
    rw [tabTo_zero]
    exact RNW.out
  case round =>
    obtain ⟨k, hk, rfl, hown, hkp⟩ := hrel
    have z0 : Near w wr := Kept.mono ((HWW.out.kept (S := fun b => b = tb)).trans hkp) (fun b hb e => by omega)
    have xo' : wr.heap[w5.heap.size]? = some (.cells #[.slice ao V.length cap, .slice (some ⟨tb, 0, none⟩) N ncp] 37 (0, 0)) := (hkp.block _ hWs (by omega)).trans HEO.out
    have z4 : Near w4 wr := Kept.mono ((W44.out.kept (S := fun b => b = tb)).trans hkp) (fun b hb e => by omega)
    have o0 := cell1 (o := 0) xo' rfl
    have o1 := cell1 (o := 1) xo' rfl
    have HOwn := Lib.hid hown
    have HXO := Lib.hid xo'
    clear xo' hown
    by_cases hlt : k < N
    · have hlt' : (k : Int) < N := by omega
      obtain ⟨tcur', htk, u0, hu0⟩ : ∃ cur, wr.heap[tb]? = some (.cells cur 4 (0, 0)) ∧ ∃ u, cur[k]? = some u := by
        obtain ⟨g', c', cur, e, hg', hc', _⟩ := row1' HOwn.out (k := k) (u := .bool ((tabTo N g k)[k]'(by rw [tabTo_len]; exact hlt))) (by rw [List.getElem?_map, List.getElem?_eq_getElem (by rw [tabTo_len]; exact hlt)]; rfl) hlt
        cases e
        exact ⟨cur, hg', _, hc'⟩
      have t0 := cell1 htk hu0
      have tf := free1 htk k
      have hgk : g k = betN low high (cfg V k) := by rw [HG.out]
      have hts : ((tabTo N g (k + 1)).map Value.bool) = ((tabTo N g k).map Value.bool).set k (.bool (g k)) := by rw [tabTo_succ, List.map_set]
      have HGK := Lib.hid hgk
      have HTS := Lib.hid hts
      have HTK := Lib.hid htk
      have HU0 := Lib.hid hu0
      clear hgk hts htk hu0 t0 tf
      have HC6 := Lib.hid (show cfg V k < 4294967296 by have := cfg_lt HV.out k; omega)
      obtain ⟨n, hn⟩ : ∃ n, n = (feats (cfg V k)).length := ⟨_, rfl⟩
      have hz : g k = (decide (low ≤ (n : Int)) && decide ((n : Int) ≤ high)) := by rw [HGK.out, betN, hn]
      have HZ := Lib.hid hz
      have HNn := Lib.hid hn
      clear hz hn
      have hend : ∀ w6, Near wr w6 → ∀ z, z = g k → ∀ wz, wz = w6.setCell ⟨tb, k, none⟩ (.bool z) → wz.ownsRow 0 4 1 (.slice (some ⟨tb, 0, none⟩) N ncp) N ((tabTo N g (k + 1)).map Value.bool) ∧ Kept (fun b => b = tb) W wz := by
        rintro w6 n6 z rfl wz rfl
        rw [HTS.out]
        exact ⟨((owns_kept HOwn.out n6.kept (fun _ _ x => x)).stored k _).1, (hkp.trans n6.kept).setCell (fun _ => rfl) _⟩
      have fin : ∀ w6, Near wr w6 → ∀ z, z = g k → (∃ q : Nat, q ≤ N ∧ (Value.int .i64 ((k : Int) + 1)) = .int .i64 q ∧ (w6.setCell ⟨tb, k, none⟩ (.bool z)).ownsRow 0 4 1 (.slice (some ⟨tb, 0, none⟩) N ncp) N ((tabTo N g q).map Value.bool) ∧ Kept (fun b => b = tb) W (w6.setCell ⟨tb, k, none⟩ (.bool z))) := fun w6 n6 z hz =>
        ⟨k + 1, by omega, by simp, (hend _ n6 _ hz _ rfl).1, (hend _ n6 _ hz _ rfl).2⟩
      have HFin := Lib.hid fin
      clear fin hend
      by_cases hb1 : low ≤ (n : Int)
      · by_cases hb2 : (n : Int) ≤ high
        · have hz : g k = true := by rw [HZ.out]; simp [hb1, hb2]
          have HZ2 := Lib.hid hz
          clear hz
          go_wp2_with (first
            | (go_at_call 83; refine (config_calls HV.out (by omega) (owns_kept RX2.out z4.kept (fun _ _ x => x)) k (by omega)).mono ?_; rintro e w6 ⟨rfl, n6⟩; have HN6 := Lib.hid n6; clear n6)
            | (go_at_call 18; refine (features_calls _ HC6.out _).mono ?_; rw [← HNn.out]; rintro e w7 ⟨x, rfl, rx, n7⟩; have HN7 := Lib.hid (HN6.out.trans n7); obtain ⟨xo, xc, rfl⟩ := owns_form rx; clear rx n7; have p1 := cell1 (o := 1) (keepN HN7.out HXO.out) rfl; have t0 := cell1 (keepN HN7.out HTK.out) HU0.out; have tf := free1 (keepN HN7.out HTK.out) k))
          exact ⟨HFin.out _ HN7.out _ (by rw [HZ2.out]), by simp [intOf]; omega⟩
        · have hb2' : high < (n : Int) := by omega
          have hz : g k = false := by rw [HZ.out]; simp [hb2]
          have HZ2 := Lib.hid hz
          clear hz
          go_wp2_with (first
            | (go_at_call 83; refine (config_calls HV.out (by omega) (owns_kept RX2.out z4.kept (fun _ _ x => x)) k (by omega)).mono ?_; rintro e w6 ⟨rfl, n6⟩; have HN6 := Lib.hid n6; clear n6)
            | (go_at_call 18; refine (features_calls _ HC6.out _).mono ?_; rw [← HNn.out]; rintro e w7 ⟨x, rfl, rx, n7⟩; have HN7 := Lib.hid (HN6.out.trans n7); obtain ⟨xo, xc, rfl⟩ := owns_form rx; clear rx n7; have p1 := cell1 (o := 1) (keepN HN7.out HXO.out) rfl; have t0 := cell1 (keepN HN7.out HTK.out) HU0.out; have tf := free1 (keepN HN7.out HTK.out) k))
          exact ⟨HFin.out _ HN7.out _ (by rw [HZ2.out]; exact decide_eq_false (by omega)), by simp [intOf]; omega⟩
      · have hb1' : (n : Int) < low := by omega
        have hz : g k = false := by rw [HZ.out]; simp [hb1]
        have HZ2 := Lib.hid hz
        clear hz
        go_wp2_with (first
          | (go_at_call 83; refine (config_calls HV.out (by omega) (owns_kept RX2.out z4.kept (fun _ _ x => x)) k (by omega)).mono ?_; rintro e w6 ⟨rfl, n6⟩; have HN6 := Lib.hid n6; clear n6)
          | (go_at_call 18; refine (features_calls _ HC6.out _).mono ?_; rw [← HNn.out]; rintro e w7 ⟨x, rfl, rx, n7⟩; have HN7 := Lib.hid (HN6.out.trans n7); obtain ⟨xo, xc, rfl⟩ := owns_form rx; clear rx n7; have p1 := cell1 (o := 1) (keepN HN7.out HXO.out) rfl; have t0 := cell1 (keepN HN7.out HTK.out) HU0.out; have tf := free1 (keepN HN7.out HTK.out) k))
        exact ⟨HFin.out _ HN7.out _ (by rw [HZ2.out]), by simp [intOf]; omega⟩
    · have hkN : k = N := by omega
      subst hkN
      have rc := (hkp.block _ (by omega) (by omega)).trans EC4.out
      have c0 := cell1 (o := 0) rc rfl
      have c1 := cell1 (o := 1) rc rfl
      have f0 := free1 rc 0
      have f1 := free1 rc 1
      have R1r := owns_kept (R := fun _ => False) RX2.out z4.kept (fun _ _ x => x)
      have ne1 := owns_ne R1r rc (by decide : (3 : Nat) ≠ 37)
      have ne2 := owns_ne HOwn.out rc (by decide : (4 : Nat) ≠ 37)
      have RX3 := Lib.hid R1r
      clear R1r
      go_wp2_with fail
      have e1 := HNN.out
      have e2 := HG.out
      refine bodyPost_ret (v := .agg #[.slice ao V.length cap, .slice (some ⟨tb, 0, none⟩) k ncp]) (by simp [results, Try.results130, go_sem, c0, c1]) rfl ⟨_, rfl, ?_, (((z0.below).setCell (by show w.heap.size ≤ w.heap.size; omega) _).setCell (by show w.heap.size ≤ w.heap.size; omega) _)⟩
      refine ⟨HV.out, by rw [tabTo_len], _, _, rfl, ownsRow_setCell_other (ownsRow_setCell_other RX3.out ne1 _) ne1 _, ?_⟩
      rw [tabTo_len, ← e1, ← e2]
      exact ownsRow_setCell_other (ownsRow_setCell_other HOwn.out ne2 _) ne2 _

theorem cntFrom_len (f : Nat) (c : Nat → Bool) : ∀ n k, cntFrom f c k n = ((List.range' k n).filter fun i => f.testBit i && c i).length
  | 0, _ => rfl
  | n + 1, k => by
    rw [cntFrom, cntFrom_len f c n (k + 1), List.range'_succ, List.filter_cons]
    split
    · rw [List.length_cons]; omega
    · omega

theorem betN_betF (f : Nat) (low high : Int) (c : Nat → Bool) : betN low high (cfg (feats f) (idx (feats f) c)) = betF f low high c := by
  have hr := feats_rising f
  have hl : (feats (cfg (feats f) (idx (feats f) c))).length = cntFrom f c 0 24 := by
    rw [cntFrom_len]
    unfold feats featsTo
    rw [List.range_eq_range']
    congr 1
    refine List.filter_congr fun i hi => ?_
    have hi24 : i < 24 := by simpa using hi
    have hb := cfg_bit hr (idx (feats f) c) i
    rw [bitOf_idx] at hb
    unfold feats featsTo at hb
    rw [List.range_eq_range'] at hb
    rw [hb]
    congr 1
    rw [Bool.eq_iff_iff]
    simp [hi24]
  unfold betN betF bet
  rw [hl]

theorem rbet_f {w : World} {f : Nat} (hf : f < 4294967296) (low high : Int) : Calls Try.prog 130 #[.int .u32 f, .int .i64 low, .int .i64 high] w (SPost w (feats f) (betF f low high)) := by
  refine (bet_table f low high hf).mono ?_
  rintro e w' ⟨v, rfl, hv, hb⟩
  refine ⟨v, rfl, ⟨_, hv, fun c => ?_⟩, hb⟩
  rw [tabTo_rf, betN_betF]

end Go.Proofs.Ytefclohjeompkaa
