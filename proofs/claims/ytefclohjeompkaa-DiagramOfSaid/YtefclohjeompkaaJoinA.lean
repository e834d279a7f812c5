/- Small functions that 'join' and 'with' call: at, both, either, odd, newMaker. -/
import Derived.Test.YtefclohjeompkaaDone2
namespace Go.Proofs.Ytefclohjeompkaa
open Go Go.RowKit Go.Proofs.Gen Go.Proofs.Bdd Go.Proofs.Bdd.T

set_option maxHeartbeats 400000 in
theorem maker_new (w : World) : Calls Try.prog 76 #[] w fun e w' => e = .returned (.pointer (some ⟨w.heap.size + 1, 0, none⟩)) ∧
    w' = (w.alloc (.map #[] 0)).alloc (.cells #[.slice none 0 0, .map (some w.heap.size)] 154) := by
  have hmm := @run_makeMap Try.prog
  go_enter Try.func76, Try.ntmps76
  go_wp2
  go_ret
  exact ⟨rfl, rfl⟩

theorem two_new (w : World) (a b : Obj) : Below w.heap.size w ((w.alloc a).alloc b) := ((Below.refl _ w).alloc (Nat.le_refl _) _).alloc (by simp) _

set_option maxHeartbeats 400000 in
theorem at_leaf (asv : Value) (ra : Int) (x : Nat) (hx : (x : Int) < 2) (w : World) :
    Calls Try.prog 146 #[.agg #[asv, .int .i64 ra], .int .i64 x] w fun e w' => e = .returned (.agg #[.int .i64 24, .int .i64 x, .int .i64 x]) ∧ w' = (w.alloc (.cells #[asv, .int .i64 ra] 31)).alloc (.cells #[.int .i64 24, .int .i64 x, .int .i64 x] 26) := by
  go_enter Try.func146, Try.ntmps146
  go_wp2
  exact bodyPost_ret (v := .agg #[.int .i64 24, .int .i64 x, .int .i64 x]) (by simp [results, Try.results146, go_sem]) rfl ⟨rfl, rfl⟩

set_option maxHeartbeats 400000 in
theorem at_node (g n cap : Nat) (ra : Int) (x : Nat) (t : Tri) (hx : 2 ≤ x) (hn : x < n + 2) (hm : n < 1099511627776) (w : World)
    (x0 : w.cell? ⟨g, (x - 2) * 3, none⟩ = some (.int .i64 t.v)) (x1 : w.cell? ⟨g, (x - 2) * 3 + 1, none⟩ = some (.int .i64 t.lo)) (x2 : w.cell? ⟨g, (x - 2) * 3 + 2, none⟩ = some (.int .i64 t.hi)) :
    Calls Try.prog 146 #[.agg #[.slice (some ⟨g, 0, none⟩) n cap, .int .i64 ra], .int .i64 x] w fun e w' => e = .returned (triV t) ∧ w' = (w.alloc (.cells #[.slice (some ⟨g, 0, none⟩) n cap, .int .i64 ra] 31)).alloc (.cells #[.int .i64 t.v, .int .i64 t.lo, .int .i64 t.hi] 26) := by
  have hg := World.block_lt_of_cell? w ⟨g, _, none⟩ x0
  have hx' : ¬ (x : Int) < 2 := by omega
  go_enter Try.func146, Try.ntmps146
  go_wp2
  exact bodyPost_ret (v := triV t) (by simp [results, Try.results146, go_sem, triV]) rfl ⟨rfl, rfl⟩

/-- A shortcut's answer. -/
def OpPost (o : Option Bool) (w : World) (e : Ending) (w' : World) : Prop :=
  w = w' ∧ match o with
    | some b => e = .returned (.tuple #[.int .i64 (b.toNat : Nat), .bool true])
    | none => ∃ r, e = .returned (.tuple #[.int .i64 r, .bool false])

def scBoth (x y : Nat) : Option Bool := if x = 0 ∨ y = 0 then some false else if x = 1 ∧ y = 1 then some true else none
def scEither (x y : Nat) : Option Bool := if x = 1 ∨ y = 1 then some true else if x = 0 ∧ y = 0 then some false else none
def scOdd (x y : Nat) : Option Bool := if x < 2 ∧ y < 2 then some (x != y) else none

theorem few (x : Nat) : x = 0 ∨ x = 1 ∨ ∃ k, x = k + 2 := by
  match x with
  | 0 => exact .inl rfl
  | 1 => exact .inr (.inl rfl)
  | k + 2 => exact .inr (.inr ⟨k, rfl⟩)

set_option maxRecDepth 100000 in
set_option maxHeartbeats 800000 in
theorem both_calls (x y : Nat) (w : World) : Calls Try.prog 93 #[.int .i64 x, .int .i64 y] w (OpPost (scBoth x y) w) := by
  have n0 : ∀ k : Nat, (((k : Int) + 2) == 0) = false := fun k => by rw [beq_eq_false_iff_ne]; omega
  have n1 : ∀ k : Nat, (((k : Int) + 2) == 1) = false := fun k => by rw [beq_eq_false_iff_ne]; omega
  have n2 : ∀ k : Nat, decide (((k : Int) + 2) < 2) = false := fun k => decide_eq_false (by omega)
  rcases few x with rfl | rfl | ⟨k, rfl⟩ <;> rcases few y with rfl | rfl | ⟨j, rfl⟩
  all_goals
    generalize hs : scBoth _ _ = o
    simp [scBoth] at hs
    subst hs
    try simp only [Int.natCast_add]
    try simp only [Int.natCast_zero]
    try simp only [Int.natCast_one]
    try simp only [Int.cast_ofNat_Int]
    go_enter Try.func93, Try.ntmps93
    go_wp2
    all_goals
      go_ret2
      first
        | exact ⟨rfl, rfl⟩
        | exact ⟨rfl, _, rfl⟩

set_option maxRecDepth 100000 in
set_option maxHeartbeats 800000 in
theorem either_calls (x y : Nat) (w : World) : Calls Try.prog 92 #[.int .i64 x, .int .i64 y] w (OpPost (scEither x y) w) := by
  have n0 : ∀ k : Nat, (((k : Int) + 2) == 0) = false := fun k => by rw [beq_eq_false_iff_ne]; omega
  have n1 : ∀ k : Nat, (((k : Int) + 2) == 1) = false := fun k => by rw [beq_eq_false_iff_ne]; omega
  have n2 : ∀ k : Nat, decide (((k : Int) + 2) < 2) = false := fun k => decide_eq_false (by omega)
  rcases few x with rfl | rfl | ⟨k, rfl⟩ <;> rcases few y with rfl | rfl | ⟨j, rfl⟩
  all_goals
    generalize hs : scEither _ _ = o
    simp [scEither] at hs
    subst hs
    try simp only [Int.natCast_add]
    try simp only [Int.natCast_zero]
    try simp only [Int.natCast_one]
    try simp only [Int.cast_ofNat_Int]
    go_enter Try.func92, Try.ntmps92
    go_wp2
    all_goals
      go_ret2
      first
        | exact ⟨rfl, rfl⟩
        | exact ⟨rfl, _, rfl⟩

set_option maxRecDepth 100000 in
set_option maxHeartbeats 800000 in
theorem odd_calls (x y : Nat) (w : World) : Calls Try.prog 99 #[.int .i64 x, .int .i64 y] w (OpPost (scOdd x y) w) := by
  have n0 : ∀ k : Nat, (((k : Int) + 2) == 0) = false := fun k => by rw [beq_eq_false_iff_ne]; omega
  have n1 : ∀ k : Nat, (((k : Int) + 2) == 1) = false := fun k => by rw [beq_eq_false_iff_ne]; omega
  have n2 : ∀ k : Nat, decide (((k : Int) + 2) < 2) = false := fun k => decide_eq_false (by omega)
  rcases few x with rfl | rfl | ⟨k, rfl⟩ <;> rcases few y with rfl | rfl | ⟨j, rfl⟩
  all_goals
    generalize hs : scOdd _ _ = o
    simp [scOdd] at hs
    subst hs
    try simp only [Int.natCast_add]
    try simp only [Int.natCast_zero]
    try simp only [Int.natCast_one]
    try simp only [Int.cast_ofNat_Int]
    go_enter Try.func99, Try.ntmps99
    go_wp2
    all_goals
      go_ret2
      first
        | exact ⟨rfl, rfl⟩
        | exact ⟨rfl, _, rfl⟩

/-- A node as 'at' tells it: of the empty and the full set, one behind all features. -/
def atT (L : List T) : T → Tri
  | .leaf b => ⟨24, b.toNat, b.toNat⟩
  | .node i l h => ⟨i, pl L l, pl L h⟩

theorem pl_leaf (L : List T) (b : Bool) : pl L (leaf b) = b.toNat := by cases b <;> rfl

/-- THE CONTRACT OF 'at'. -/
theorem at_calls {L : List T} {v : Value} (hlen : L.length < 1099511627776) {w : World} (hr : w.ownsRow 0 26 3 v L.length (cellsOf (enc L))) {t : T} (hin : In L t) (ra : Int) {x : Int} (hx : x = (pl L t : Nat)) :
    Calls Try.prog 146 #[.agg #[v, .int .i64 ra], .int .i64 x] w fun e w' => e = .returned (triV (atT L t)) ∧ w' = (w.alloc (.cells #[v, .int .i64 ra] 31)).alloc (.cells #[.int .i64 (atT L t).v, .int .i64 (atT L t).lo, .int .i64 (atT L t).hi] 26) := by
  subst hx
  cases t with
  | leaf b =>
    refine (at_leaf v ra (pl L (leaf b)) (by rw [pl_leaf]; cases b <;> decide) w).mono ?_
    rintro e w' ⟨rfl, rfl⟩
    rw [pl_leaf]
    exact ⟨rfl, rfl⟩
  | node i l h =>
    have hge : (enc L)[pl L (node i l h) - 2]? = some (en L (node i l h)) := by simp [enc, pl_get (L := L) (i := i) (l := l) (h := h) hin]
    have hle : (enc L).length = L.length := by simp [enc]
    obtain ⟨g, cap, rfl, x0, x1, x2⟩ := tri_cells (by rw [hle]; exact hr) hge
    rw [hle]
    exact at_node g L.length cap ra (pl L (node i l h)) (en L (node i l h)) (pl_node i l h) (pl_lt hin) hlen w x0 x1 x2

end Go.Proofs.Ytefclohjeompkaa
