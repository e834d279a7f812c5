/- Parts of a proof: CmpA, BestA, BestF, BestG, BestH. -/
import Derived.BigQuiet
import Derived.Test.YtefclohjeompkaaKOps
import Derived.Test.YtefclohjeompkaaKDownW
import Derived.Test.YtefclohjeompkaaKRefP
/- The contracts of cmp.Compare and cmp.Or. -/
namespace Go.Proofs.Ytefclohjeompkaa
open Go Go.RowKit Go.Proofs.Gen Go.Proofs.Bdd Go.Proofs.Bdd.T

/-- How two numbers compare. -/
def cmpI (a b : Int) : Int := if a < b then -1 else if b < a then 1 else 0

set_option maxRecDepth 100000 in
set_option maxHeartbeats 800000 in
theorem nan2_calls (a : Int) (w : World) : Calls Try.prog 158 #[.int .i64 a] w fun e w' => e = .returned (.bool false) ∧ w' = w := by
  go_enter Try.func158, Try.ntmps158
  go_wp2_with fail
  exact bodyPost_ret (v := .bool false) (by simp [results, Try.results158, go_sem]) rfl ⟨rfl, rfl⟩
set_option maxRecDepth 100000 in
set_option maxHeartbeats 800000 in
theorem nan24_calls (a : Int) (w : World) : Calls Try.prog 144 #[.int .u32 a] w fun e w' => e = .returned (.bool false) ∧ w' = w := by
  go_enter Try.func144, Try.ntmps144
  go_wp2_with fail
  exact bodyPost_ret (v := .bool false) (by simp [results, Try.results144, go_sem]) rfl ⟨rfl, rfl⟩

set_option maxRecDepth 100000 in
set_option maxHeartbeats 800000 in
theorem compare2_calls (a b : Int) (w : World) : Calls Try.prog 147 #[.int .i64 a, .int .i64 b] w fun e w' => e = .returned (.int .i64 (cmpI a b)) ∧ w' = w := by
  have hq : cmpI a b = if a < b then -1 else if b < a then 1 else 0 := rfl
  by_cases h1 : a < b
  · rw [if_pos h1] at hq
    rw [hq]
    clear hq
    go_enter Try.func147, Try.ntmps147
    go_wp2_with (first
      | (go_at_call 158; refine (nan2_calls _ _).mono ?_; rintro e w1 ⟨rfl, rfl⟩))
    exact bodyPost_ret (v := .int .i64 (-1)) (by simp [results, Try.results147, go_sem]) rfl ⟨rfl, rfl⟩
  · rw [if_neg h1] at hq
    by_cases h2 : b < a
    · rw [if_pos h2] at hq
      rw [hq]
      clear hq
      go_enter Try.func147, Try.ntmps147
      go_wp2_with (first
        | (go_at_call 158; refine (nan2_calls _ _).mono ?_; rintro e w1 ⟨rfl, rfl⟩))
      exact bodyPost_ret (v := .int .i64 1) (by simp [results, Try.results147, go_sem]) rfl ⟨rfl, rfl⟩
    · rw [if_neg h2] at hq
      rw [hq]
      clear hq
      go_enter Try.func147, Try.ntmps147
      go_wp2_with (first
        | (go_at_call 158; refine (nan2_calls _ _).mono ?_; rintro e w1 ⟨rfl, rfl⟩))
      exact bodyPost_ret (v := .int .i64 0) (by simp [results, Try.results147, go_sem]) rfl ⟨rfl, rfl⟩

set_option maxRecDepth 100000 in
set_option maxHeartbeats 800000 in
theorem compare24_calls (a b : Int) (w : World) : Calls Try.prog 123 #[.int .u32 a, .int .u32 b] w fun e w' => e = .returned (.int .i64 (cmpI a b)) ∧ w' = w := by
  have hq : cmpI a b = if a < b then -1 else if b < a then 1 else 0 := rfl
  by_cases h1 : a < b
  · rw [if_pos h1] at hq
    rw [hq]
    clear hq
    go_enter Try.func123, Try.ntmps123
    go_wp2_with (first
      | (go_at_call 144; refine (nan24_calls _ _).mono ?_; rintro e w1 ⟨rfl, rfl⟩))
    exact bodyPost_ret (v := .int .i64 (-1)) (by simp [results, Try.results123, go_sem]) rfl ⟨rfl, rfl⟩
  · rw [if_neg h1] at hq
    by_cases h2 : b < a
    · rw [if_pos h2] at hq
      rw [hq]
      clear hq
      go_enter Try.func123, Try.ntmps123
      go_wp2_with (first
        | (go_at_call 144; refine (nan24_calls _ _).mono ?_; rintro e w1 ⟨rfl, rfl⟩))
      exact bodyPost_ret (v := .int .i64 1) (by simp [results, Try.results123, go_sem]) rfl ⟨rfl, rfl⟩
    · rw [if_neg h2] at hq
      rw [hq]
      clear hq
      go_enter Try.func123, Try.ntmps123
      go_wp2_with (first
        | (go_at_call 144; refine (nan24_calls _ _).mono ?_; rintro e w1 ⟨rfl, rfl⟩))
      exact bodyPost_ret (v := .int .i64 0) (by simp [results, Try.results123, go_sem]) rfl ⟨rfl, rfl⟩

set_option maxRecDepth 100000 in
set_option maxHeartbeats 800000 in
theorem cmpOr_calls {g : Nat} {x y : Int} {w : World} (c0 : w.cell? ⟨g, 0, none⟩ = some (.int .i64 x)) (c1 : w.cell? ⟨g, 1, none⟩ = some (.int .i64 y)) :
    Calls Try.prog 121 #[.slice (some ⟨g, 0, none⟩) 2 2] w fun e w' => e = .returned (.int .i64 (if x = 0 then y else x)) ∧ w' = w := by
  by_cases h1 : x = 0
  · subst h1
    rw [if_pos rfl]
    by_cases h2 : y = 0
    · subst h2
      go_enter Try.func121, Try.ntmps121
      go_wp2_with fail
      go_loopw [8] (fun i wr => ∃ k : Nat, k ≤ 2 ∧ i = .int .i64 k ∧ wr = w) (fun i _ => 2 - (intOf i).toNat)
      case atStart => exact ⟨0, by omega, rfl, rfl⟩
      case round =>
        obtain ⟨k, hk, rfl, rfl⟩ := hrel
        obtain rfl | rfl | rfl : k = 0 ∨ k = 1 ∨ k = 2 := by omega
        · go_wp2_with fail
          exact ⟨⟨1, by omega, rfl, trivial⟩, by simp [intOf]⟩
        · go_wp2_with fail
          exact ⟨⟨2, by omega, rfl, trivial⟩, by simp [intOf]⟩
        · go_wp2_with fail
          exact bodyPost_ret (v := .int .i64 0) (by simp [results, Try.results121, go_sem]) rfl ⟨rfl, rfl⟩
    · go_enter Try.func121, Try.ntmps121
      go_wp2_with fail
      go_loopw [8] (fun i wr => ∃ k : Nat, k ≤ 1 ∧ i = .int .i64 k ∧ wr = w) (fun i _ => 2 - (intOf i).toNat)
      case atStart => exact ⟨0, by omega, rfl, rfl⟩
      case round =>
        obtain ⟨k, hk, rfl, rfl⟩ := hrel
        obtain rfl | rfl : k = 0 ∨ k = 1 := by omega
        · go_wp2_with fail
          exact ⟨⟨1, by omega, rfl, trivial⟩, by simp [intOf]⟩
        · have h2' : (y == 0) = false := by simpa using h2
          go_wp2_with fail
          exact bodyPost_ret (v := .int .i64 y) (by simp [results, Try.results121, go_sem]) rfl ⟨rfl, rfl⟩
  · rw [if_neg h1]
    have h1' : (x == 0) = false := by simpa using h1
    go_enter Try.func121, Try.ntmps121
    go_wp2_with fail
    go_loopw [8] (fun i wr => i = .int .i64 0 ∧ wr = w) (fun i _ => 2 - (intOf i).toNat)
    case atStart => exact ⟨rfl, rfl⟩
    case round =>
      obtain ⟨rfl, rfl⟩ := hrel
      go_wp2_with fail
      exact bodyPost_ret (v := .int .i64 x) (by simp [results, Try.results121, go_sem]) rfl ⟨rfl, rfl⟩

end Go.Proofs.Ytefclohjeompkaa

/- The better one of two choices. -/
namespace Go.Proofs.Ytefclohjeompkaa
open Go Go.RowKit Go.Proofs.Gen Go.Proofs.Bdd Go.Proofs.Bdd.T

theorem cmp_lex (a b : Int) (c d : Nat) : ((if cmpI a b = 0 then cmpI c d else cmpI a b) < 0) ↔ lexLt a c b d := by
  unfold cmpI lexLt
  by_cases h1 : a < b
  · simp [h1]
  · by_cases h2 : b < a
    · have : ¬ a = b := by omega
      simp [h1, h2, this]
    · have : a = b := by omega
      subst this
      by_cases h3 : c < d
      · have : (c : Int) < d := by omega
        simp [h3]
      · have h4 : ¬ (c : Int) < d := by omega
        by_cases h5 : (d : Int) < c
        · simp [h3, h5]
        · simp [h3, h5]

theorem better_eq (x y : Ch) : chBetter x y = if x.is = false then y else if y.is = false then x else if lexLt y.cost y.c x.cost x.c then y else x := by
  unfold chBetter
  cases hx : x.is <;> cases hy : y.is <;> simp

theorem cmpOr_is {g : Nat} {x y r : Int} {w : World} (hr : (if x = 0 then y else x) = r) (c0 : w.cell? ⟨g, 0, none⟩ = some (.int .i64 x)) (c1 : w.cell? ⟨g, 1, none⟩ = some (.int .i64 y)) :
    Calls Try.prog 121 #[.slice (some ⟨g, 0, none⟩) 2 2] w fun e w' => e = .returned (.int .i64 r) ∧ w' = w := hr ▸ cmpOr_calls c0 c1

set_option maxRecDepth 100000 in
set_option maxHeartbeats 3200000 in
theorem better_calls (x y : Ch) (w : World) : Calls Try.prog 136 #[chV x, chV y] w fun e w' => e = .returned (chV (chBetter x y)) ∧ Near w w' := by
  have hzz := better_eq x y
  obtain ⟨lx, px, ex, ix⟩ := x
  obtain ⟨ly, py, ey, iy⟩ := y
  generalize chBetter _ _ = z at hzz ⊢
  have HZ := Lib.hid hzz
  clear hzz
  have facts : ∀ W, W = ((w.alloc (.cells #[.int .i64 lx, .int .i64 px, .int .u32 ex, .bool ix] 130)).alloc (.cells #[.int .i64 ly, .int .i64 py, .int .u32 ey, .bool iy] 130)).alloc (.cells #[.int .i64 0, .int .i64 0, .int .u32 0, .bool false] 130) →
      Near w W ∧ W.heap[w.heap.size]? = some (.cells #[.int .i64 lx, .int .i64 px, .int .u32 ex, .bool ix] 130 (0, 0)) ∧ W.heap[w.heap.size + 1]? = some (.cells #[.int .i64 ly, .int .i64 py, .int .u32 ey, .bool iy] 130 (0, 0)) ∧ W.heap[w.heap.size + 1 + 1]? = some (.cells #[.int .i64 0, .int .i64 0, .int .u32 0, .bool false] 130 (0, 0)) := by
    rintro W rfl
    refine ⟨(((Near.refl w).alloc _).alloc _).alloc _, ?_, ?_, ?_⟩
    all_goals
      repeat (first | exact heap_new_at (by simp; done) | refine (heap_old_at (by simp <;> omega)).trans ?_)
  simp only [show chV ⟨lx, px, ex, ix⟩ = .agg #[.int .i64 lx, .int .i64 px, .int .u32 ex, .bool ix] from rfl, show chV ⟨ly, py, ey, iy⟩ = .agg #[.int .i64 ly, .int .i64 py, .int .u32 ey, .bool iy] from rfl]
  go_enter Try.func136, Try.ntmps136
  go_upto_region 1 with fail
  have hf := facts _ rfl
  generalize (((w.alloc _).alloc _).alloc _) = W at hf ⊢
  clear facts
  obtain ⟨hN, hX, hY, hO⟩ := hf
  have HN := Lib.hid hN
  have HX := Lib.hid hX
  have HY := Lib.hid hY
  have HO := Lib.hid hO
  clear hN hX hY hO
  -- what the two ends come to
  have endY : ∀ W2, Near W W2 → W2.cell? ⟨w.heap.size + 1, 0, none⟩ = some (.int .i64 ly) ∧ W2.cell? ⟨w.heap.size + 1, 1, none⟩ = some (.int .i64 py) ∧ W2.cell? ⟨w.heap.size + 1, 2, none⟩ = some (.int .u32 ey) ∧ W2.cell? ⟨w.heap.size + 1, 3, none⟩ = some (.bool iy) := fun W2 h =>
    ⟨cell1 (o := 0) (keepN h HY.out) rfl, cell1 (o := 1) (keepN h HY.out) rfl, cell1 (o := 2) (keepN h HY.out) rfl, cell1 (o := 3) (keepN h HY.out) rfl⟩
  have endX : ∀ W2, Near W W2 → W2.cell? ⟨w.heap.size, 0, none⟩ = some (.int .i64 lx) ∧ W2.cell? ⟨w.heap.size, 1, none⟩ = some (.int .i64 px) ∧ W2.cell? ⟨w.heap.size, 2, none⟩ = some (.int .u32 ex) ∧ W2.cell? ⟨w.heap.size, 3, none⟩ = some (.bool ix) := fun W2 h =>
    ⟨cell1 (o := 0) (keepN h HX.out) rfl, cell1 (o := 1) (keepN h HX.out) rfl, cell1 (o := 2) (keepN h HX.out) rfl, cell1 (o := 3) (keepN h HX.out) rfl⟩
  have endO : ∀ W2, Near W W2 → (W2.cell? ⟨w.heap.size + 1 + 1, 0, none⟩ = some (.int .i64 0) ∧ W2.cell? ⟨w.heap.size + 1 + 1, 1, none⟩ = some (.int .i64 0) ∧ W2.cell? ⟨w.heap.size + 1 + 1, 2, none⟩ = some (.int .u32 0) ∧ W2.cell? ⟨w.heap.size + 1 + 1, 3, none⟩ = some (.bool false)) ∧ (∀ o, W2.frozen? ⟨w.heap.size + 1 + 1, o, none⟩ = false) ∧
      ∀ p0 p1 p2 p3, ((((W2.setCell ⟨w.heap.size + 1 + 1, 0, none⟩ p0).setCell ⟨w.heap.size + 1 + 1, 1, none⟩ p1).setCell ⟨w.heap.size + 1 + 1, 2, none⟩ p2).setCell ⟨w.heap.size + 1 + 1, 3, none⟩ p3).heap[w.heap.size + 1 + 1]? = some (.cells #[p0, p1, p2, p3] 130 (0, 0)) ∧
        Near w ((((W2.setCell ⟨w.heap.size + 1 + 1, 0, none⟩ p0).setCell ⟨w.heap.size + 1 + 1, 1, none⟩ p1).setCell ⟨w.heap.size + 1 + 1, 2, none⟩ p2).setCell ⟨w.heap.size + 1 + 1, 3, none⟩ p3) := fun W2 h =>
    ⟨⟨cell1 (o := 0) (keepN h HO.out) rfl, cell1 (o := 1) (keepN h HO.out) rfl, cell1 (o := 2) (keepN h HO.out) rfl, cell1 (o := 3) (keepN h HO.out) rfl⟩, fun o => free1 (keepN h HO.out) o, fun p0 p1 p2 p3 => ⟨filled4 (keepN h HO.out) p0 p1 p2 p3, near_fill4 (HN.out.trans h) (by omega) p0 p1 p2 p3⟩⟩
  have EX := Lib.hid endX
  have EY := Lib.hid endY
  have EO := Lib.hid endO
  clear endX endY endO
  obtain ⟨-, x1, x2, x3⟩ := EX.out _ (Near.refl W)
  obtain ⟨-, y1, y2, y3⟩ := EY.out _ (Near.refl W)
  cases ix with
  | false =>
    go_quiet (fail)
    obtain ⟨b0, b1, b2, b3⟩ := EY.out _ (Near.refl W)
    obtain ⟨⟨z0, z1, z2, z3⟩, zf, -⟩ := EO.out _ (Near.refl W)
    go_wp2_with fail
    obtain ⟨q, hn⟩ := (EO.out _ ((Near.refl W).drewN nq)).2.2 (.int .i64 ly) (.int .i64 py) (.int .u32 ey) (.bool iy)
    have q0 := cell1 (o := 0) q rfl
    have q1 := cell1 (o := 1) q rfl
    have q2 := cell1 (o := 2) q rfl
    have q3 := cell1 (o := 3) q rfl
    exact bodyPost_ret (v := .agg #[.int .i64 ly, .int .i64 py, .int .u32 ey, .bool iy]) (by simp [results, Try.results136, go_sem, q0, q1, q2, q3]) rfl ⟨by rw [HZ.out]; rfl, hn⟩
  | true =>
    cases iy with
    | false =>
      go_quiet (fail)
      obtain ⟨b0, b1, b2, b3⟩ := EX.out _ (Near.refl W)
      obtain ⟨⟨z0, z1, z2, z3⟩, zf, -⟩ := EO.out _ (Near.refl W)
      go_wp2_with fail
      obtain ⟨q, hn⟩ := (EO.out _ ((Near.refl W).drewN nq)).2.2 (.int .i64 lx) (.int .i64 px) (.int .u32 ex) (.bool true)
      have q0 := cell1 (o := 0) q rfl
      have q1 := cell1 (o := 1) q rfl
      have q2 := cell1 (o := 2) q rfl
      have q3 := cell1 (o := 3) q rfl
      exact bodyPost_ret (v := .agg #[.int .i64 lx, .int .i64 px, .int .u32 ex, .bool true]) (by simp [results, Try.results136, go_sem, q0, q1, q2, q3]) rfl ⟨by rw [HZ.out]; rfl, hn⟩
    | true =>
      have HL := Lib.hid (cmp_lex py px ey ex)
      generalize hc1 : cmpI py px = c1 at HL
      generalize hc2 : cmpI (ey : Int) (ex : Int) = c2 at HL
      generalize hr : (if c1 = 0 then c2 else c1) = r at HL
      have HR := Lib.hid hr
      clear hr
      have HC1 := Lib.hid hc1
      have HC2 := Lib.hid hc2
      clear hc1 hc2
      have sOf : ∀ w', Near W w' → w'.cell? ⟨w.heap.size, 1, none⟩ = some (.int .i64 px) ∧ w'.cell? ⟨w.heap.size, 2, none⟩ = some (.int .u32 ex) ∧ w'.cell? ⟨w.heap.size, 3, none⟩ = some (.bool true) ∧ w'.cell? ⟨w.heap.size + 1, 1, none⟩ = some (.int .i64 py) ∧ w'.cell? ⟨w.heap.size + 1, 2, none⟩ = some (.int .u32 ey) ∧ w'.cell? ⟨w.heap.size + 1, 3, none⟩ = some (.bool true) :=
        fun w' h => ⟨(EX.out _ h).2.1, (EX.out _ h).2.2.1, (EX.out _ h).2.2.2, (EY.out _ h).2.1, (EY.out _ h).2.2.1, (EY.out _ h).2.2.2⟩
      go_region_held3 (fun w' => w'.cell? ⟨w.heap.size, 1, none⟩ = some (.int .i64 px) ∧ w'.cell? ⟨w.heap.size, 2, none⟩ = some (.int .u32 ex) ∧ w'.cell? ⟨w.heap.size, 3, none⟩ = some (.bool true) ∧ w'.cell? ⟨w.heap.size + 1, 1, none⟩ = some (.int .i64 py) ∧ w'.cell? ⟨w.heap.size + 1, 2, none⟩ = some (.int .u32 ey) ∧ w'.cell? ⟨w.heap.size + 1, 3, none⟩ = some (.bool true))
        ((refine sOf _ ?_; first | exact (Near.refl _).drew | exact (Near.refl _).drew.alloc _ | exact (Near.refl _).drew.alloc _))
        (first
          | (go_at_call 147; refine (compare2_calls _ _ _).mono ?_; rintro e v1 ⟨rfl, rfl⟩; rw [HC1.out])
          | (go_at_call 123; refine (compare24_calls _ _ _).mono ?_; rintro e v1 ⟨rfl, rfl⟩; rw [HC2.out])
          | (go_at_call 121; refine (cmpOr_is HR.out (by simp) (by simp)).mono ?_; rintro e v1 ⟨rfl, rfl⟩))
      have hNW : Near W (W.alloc (Obj.cells #[Value.int IntKind.i64 c1, Value.int IntKind.i64 c2] 3)).drew := ((Near.refl W).alloc _).drew
      generalize (W.alloc (Obj.cells #[Value.int IntKind.i64 c1, Value.int IntKind.i64 c2] 3)).drew = W3 at hNW ⊢
      have HNW := Lib.hid hNW
      obtain ⟨b0, b1, b2, b3⟩ := EY.out _ hNW
      obtain ⟨a0, a1, a2, a3⟩ := EX.out _ hNW
      obtain ⟨⟨z0, z1, z2, z3⟩, zf, -⟩ := EO.out _ hNW
      clear hNW x1 x2 x3 y1 y2 y3 sOf
      by_cases hlt : r < 0
      · have hx := HL.out.1 hlt
        have HX2 := Lib.hid hx
        have hd : decide (r < 0) = true := by simpa using hlt
        rw [hd]
        clear hx hd hlt
        go_wp2_with fail
        obtain ⟨q, hn⟩ := (EO.out _ HNW.out).2.2 (.int .i64 ly) (.int .i64 py) (.int .u32 ey) (.bool true)
        have q0 := cell1 (o := 0) q rfl
        have q1 := cell1 (o := 1) q rfl
        have q2 := cell1 (o := 2) q rfl
        have q3 := cell1 (o := 3) q rfl
        exact bodyPost_ret (v := .agg #[.int .i64 ly, .int .i64 py, .int .u32 ey, .bool true]) (by simp [results, Try.results136, go_sem, q0, q1, q2, q3]) rfl ⟨by rw [HZ.out, if_neg (by simp), if_neg (by simp), if_pos HX2.out]; rfl, hn⟩
      · have hx := fun h => hlt (HL.out.2 h)
        have HX2 := Lib.hid hx
        have hd : decide (r < 0) = false := by simpa using hlt
        rw [hd]
        clear hx hd hlt
        go_wp2_with fail
        obtain ⟨q, hn⟩ := (EO.out _ HNW.out).2.2 (.int .i64 lx) (.int .i64 px) (.int .u32 ex) (.bool true)
        have q0 := cell1 (o := 0) q rfl
        have q1 := cell1 (o := 1) q rfl
        have q2 := cell1 (o := 2) q rfl
        have q3 := cell1 (o := 3) q rfl
        exact bodyPost_ret (v := .agg #[.int .i64 lx, .int .i64 px, .int .u32 ex, .bool true]) (by simp [results, Try.results136, go_sem, q0, q1, q2, q3]) rfl ⟨by rw [HZ.out, if_neg (by simp), if_neg (by simp), if_neg HX2.out]; rfl, hn⟩

end Go.Proofs.Ytefclohjeompkaa

/- The walk of Fold[choice]: the best choice of each node. -/
namespace Go.Proofs.Ytefclohjeompkaa
open Go Go.RowKit Go.Proofs.Gen Go.Proofs.Bdd Go.Proofs.Bdd.T

def chK (x : Ch) : List Value := [.int .i64 x.lev, .int .i64 x.cost, .int .u32 x.c, .bool x.is]
def chs (l : List Ch) : List Value := l.flatMap chK

theorem ch_cells {w : World} {base : Nat} {v : Value} {l : List Ch} (h : w.ownsRow base 130 4 v l.length (chs l)) {k : Nat} {x : Ch} (hk : l[k]? = some x) :
    ∃ g cap, v = .slice (some ⟨g, 0, none⟩) l.length cap ∧ base ≤ g ∧ w.cell? ⟨g, k * 4, none⟩ = some (.int .i64 x.lev) ∧ w.cell? ⟨g, k * 4 + 1, none⟩ = some (.int .i64 x.cost) ∧ w.cell? ⟨g, k * 4 + 2, none⟩ = some (.int .u32 x.c) ∧ w.cell? ⟨g, k * 4 + 3, none⟩ = some (.bool x.is) := by
  have hlt : k < l.length := (List.getElem?_eq_some_iff.1 hk).1
  rcases h.2 with ⟨_, h0⟩ | ⟨g, cap, cur, rfl, hb, hg, _, _, hs, ht⟩
  · omega
  · refine ⟨g, cap, rfl, hb, ?_⟩
    have at' : ∀ (l : List Ch) (k : Nat) (x : Ch), l[k]? = some x → ∀ j, j < 4 → (chs l)[k * 4 + j]? = (chK x)[j]? := by
      intro l
      induction l with
      | nil => intro k x h; simp at h
      | cons y r ih =>
        intro k x hk j hj
        have e : chs (y :: r) = chK y ++ chs r := rfl
        have ly : (chK y).length = 4 := rfl
        rw [e]
        cases k with
        | zero =>
          simp at hk
          subst hk
          rw [List.getElem?_append_left (by omega), Nat.zero_mul, Nat.zero_add]
        | succ k =>
          rw [List.getElem?_append_right (by omega), ly, show (k + 1) * 4 + j - 4 = k * 4 + j from by omega]
          exact ih k x (by simpa using hk) j hj
    have look : ∀ j, j < 4 → w.cell? ⟨g, k * 4 + j, none⟩ = (chK x)[j]? := by
      intro j hj
      have a := at' l k x hk j hj
      rw [← ht, List.getElem?_take, if_pos (by omega)] at a
      simp only [World.cell?, hg]
      simpa using a
    exact ⟨look 0 (by omega), look 1 (by omega), look 2 (by omega), look 3 (by omega)⟩

/-- The choices behind k nodes. -/
def chL (W : Nat → Bool → Int) (L : List T) : List Ch := ⟨24, 0, 0, false⟩ :: ⟨24, 0, 0, true⟩ :: L.map (ch W)

theorem chL_get {W : Nat → Bool → Int} {L : List T} {t : T} (h : In L t) : (chL W L)[pl L t]? = some (ch W t) := by
  cases t with
  | leaf b => cases b <;> rfl
  | node i l r =>
    have h2 := pl_node (L := L) i l r
    have e : pl L (node i l r) = (pl L (node i l r) - 2) + 1 + 1 := by omega
    rw [e]
    simp only [chL, List.getElem?_cons_succ, List.getElem?_map]
    rw [pl_get h]
    rfl

theorem chL_len {W : Nat → Bool → Int} {k : Nat} {L : List T} (hk : k ≤ L.length) : (chL W (L.take k)).length = k + 2 := by simp [chL, Nat.min_eq_left hk]

theorem chs_snoc {W : Nat → Bool → Int} {k : Nat} {L : List T} (hk : k < L.length) : chs (chL W (L.take (k + 1))) = chs (chL W (L.take k)) ++ chK (ch W L[k]) := by
  have e : chL W (L.take (k + 1)) = chL W (L.take k) ++ [ch W L[k]] := by
    rw [chL, chL, List.take_succ_eq_append_getElem hk, List.map_append]
    rfl
  rw [e, chs, chs, List.flatMap_append]
  simp

theorem cell_four_at {w : World} {b : Nat} (hb : b = w.heap.size) (x y z u : Value) (t : TypeId) : ∀ j v, [x, y, z, u][j]? = some v → (w.alloc (.cells #[x, y, z, u] t)).cell? ((⟨b, 0, none⟩ : Addr).add j) = some v := by
  subst hb
  intro j v hj
  match j, hj with
  | 0, hj => simp at hj; subst hj; simp [Addr.add]
  | 1, hj => simp at hj; subst hj; simp [Addr.add]
  | 2, hj => simp at hj; subst hj; simp [Addr.add]
  | 3, hj => simp at hj; subst hj; simp [Addr.add]

theorem info130 : (Try.prog.info? 130).map (fun i => (i.zero, i.size, i.bytes)) = some (some (.agg #[.int .i64 0, .int .i64 0, .int .u32 0, .bool false]), 4, 24) := by kernel_rfl

set_option maxRecDepth 100000 in
set_option maxHeartbeats 3200000 in
theorem fold_choice (Wt : Nat → Bool → Int) (L : List T) (g : T.Good L) (hlen : L.length < 1099511627776) (t0 : T) (hin : In L t0) (ao : Option Addr) (cap cb : Nat) (w : World)
    (hr : w.ownsRow 0 26 3 (.slice ao L.length cap) L.length (cellsOf (enc L)))
    (hj : ∀ i l h, node i l h ∈ L → ∀ w', Near w w' → Calls Try.prog 135 (#[] ++ #[.int .i64 i, chV (ch Wt l), chV (ch Wt h)] ++ #[.pointer (some ⟨cb, 0, none⟩)]) w' fun e w'' => e = .returned (chV (ch Wt (node i l h))) ∧ Near w' w'') :
    Calls Try.prog 134 #[.agg #[.slice ao L.length cap, .int .i64 (pl L t0 : Nat)], .agg #[.int .i64 24, .int .i64 0, .int .u32 0, .bool false], .agg #[.int .i64 24, .int .i64 0, .int .u32 0, .bool true], .func (.func 135) #[] #[.pointer (some ⟨cb, 0, none⟩)]] w fun e w' =>
      e = .returned (chV (ch Wt t0)) ∧ Near w w' := by
  have HR := Lib.hid hr
  have HJ := Lib.hid hj
  clear hr hj
  have hen : ∀ (args : Array Value) (w : World), (callFunc 135 args).run Try.prog w = .ok (.enter 135 args) w := call_enters Try.func135 (by kernel_rfl) rfl
  have HEn := Lib.hid hen
  clear hen
  obtain ⟨i0, hi0, hz0, hz1, hz2⟩ := info_parts info130
  have facts : ∀ W, W = ((((w.alloc (.cells #[.slice ao L.length cap, .int .i64 (pl L t0 : Nat)] 31)).alloc (.cells #[.int .i64 24, .int .i64 0, .int .u32 0, .bool false] 130)).alloc (.cells #[.int .i64 24, .int .i64 0, .int .u32 0, .bool true] 130)).alloc (.cells #[.int .i64 0, .int .i64 0, .int .u32 0, .bool false] 130)) →
      Near w W ∧ W.heap.size = w.heap.size + 1 + 1 + 1 + 1 ∧ W.heap[w.heap.size]? = some (.cells #[.slice ao L.length cap, .int .i64 (pl L t0 : Nat)] 31 (0, 0)) ∧ W.heap[w.heap.size + 1 + 1 + 1]? = some (.cells #[.int .i64 0, .int .i64 0, .int .u32 0, .bool false] 130 (0, 0)) := by
    rintro W rfl
    refine ⟨((((Near.refl w).alloc _).alloc _).alloc _).alloc _, by simp, ?_, ?_⟩
    all_goals
      repeat (first | exact heap_new_at (by simp; done) | refine (heap_old_at (by simp <;> omega)).trans ?_)
  go_enter Try.func134, Try.ntmps134
  go_wp2_with fail
  have hfc := facts _ rfl
  generalize ((((w.alloc _).alloc _).alloc _).alloc _) = W at hfc ⊢
  clear facts
  obtain ⟨hN4, hS4, hA4, hR4⟩ := hfc
  have HN4 := Lib.hid hN4
  have HA4 := Lib.hid hA4
  have HR4 := Lib.hid hR4
  have HS4 := Lib.hid hS4
  clear hN4 hS4 hA4 hR4
  go_loopw [9, 18] (fun v i wr => ∃ k : Nat, k ≤ L.length ∧ i = .int .i64 k ∧ wr.ownsRow (w.heap.size + 1 + 1 + 1 + 1) 130 4 v (k + 2) (chs (chL Wt (L.take k))) ∧ Kept (fun b => w.heap.size + 1 + 1 + 1 + 1 ≤ b) W wr) (fun _ i _ => L.length - (intOf i).toNat)
  case atStart =>
    refine ⟨0, Nat.zero_le _, rfl, ⟨rfl, .inr ⟨w.heap.size + 1 + 1 + 1 + 1, 2, _, rfl, Nat.le_refl _, heap_new_at HS4.out.symm, Nat.le_refl _, by unfold maxLen; omega, rfl, rfl⟩⟩, (Kept.refl _ _).alloc _⟩
  case round =>
    obtain ⟨k, hk, rfl, hown, hkp⟩ := hrel
    have hz4 := HN4.out.size
    have hzr := hkp.size
    have hs4 := HS4.out
    have KN : Near w wr := HN4.out.trans (Kept.mono hkp (fun b hb (h : w.heap.size + 1 + 1 + 1 + 1 ≤ b) => by omega))
    have HKN := Lib.hid KN
    have HKP := Lib.hid hkp
    clear KN hkp
    by_cases hlt : k < L.length
    · have hle : (enc L).length = L.length := by simp [enc]
      have hge : (enc L)[k]? = some (en L L[k]) := by simp [enc, hlt]
      obtain ⟨gb, cap', hsv, x0, x1, x2⟩ := tri_cells (by rw [hle]; exact HR.out) hge
      rw [hle] at hsv
      simp only [Value.slice.injEq, true_and] at hsv
      obtain ⟨rfl, rfl⟩ := hsv
      have hmem : L[k] ∈ L := List.getElem_mem hlt
      have hnode := g.all L[k] hmem
      obtain ⟨i, l, h, hnd⟩ : ∃ i l h, L[k] = node i l h := by
        cases hx : L[k] with
        | leaf b => rw [hx] at hnode; exact hnode.1.elim
        | node j l' h' => exact ⟨j, l', h', rfl⟩
      have hpre := g.pre k i l h (by rw [List.getElem?_eq_getElem hlt, hnd])
      have hsnoc := chs_snoc (W := Wt) hlt
      rw [hnd] at x0 x1 x2 hmem hsnoc
      have pL : pl L l = pl (L.take k) l := by
        have := pl_append (M := L.drop k) hpre.1
        rwa [List.take_append_drop] at this
      have pH : pl L h = pl (L.take k) h := by
        have := pl_append (M := L.drop k) hpre.2.1
        rwa [List.take_append_drop] at this
      have hlen2 := chL_len (W := Wt) hk
      have bL := pl_lt hpre.1
      have bH := pl_lt hpre.2.1
      simp only [List.length_take] at bL bH
      obtain ⟨g2, cap2, hv, hgb2, y0, y1, y2, y3⟩ := ch_cells (by rw [hlen2]; exact hown) (chL_get (W := Wt) hpre.1)
      obtain ⟨g3, cap3, hv3, -, z0, z1, z2, z3⟩ := ch_cells (by rw [hlen2]; exact hown) (chL_get (W := Wt) hpre.2.1)
      rw [hlen2] at hv hv3
      subst hv
      simp only [Value.slice.injEq, Option.some.injEq, Addr.mk.injEq, and_true, true_and] at hv3
      obtain ⟨rfl, rfl⟩ := hv3
      have x0' := HKN.out.cell x0
      have x1' := HKN.out.cell x1
      have x2' := HKN.out.cell x2
      simp only [en] at x0' x1' x2'
      rw [pL] at x1'
      rw [pH] at x2'
      have bL1 : ((pl (L.take k) l : Nat) : Int) < (k : Int) + 2 := by omega
      have bH1 : ((pl (L.take k) h : Nat) : Int) < (k : Int) + 2 := by omega
      have HO := Lib.hid hown
      have HSn := Lib.hid hsnoc
      have HMem := Lib.hid hmem
      have hcells : ∀ w' : World, w'.ownsRow (w.heap.size + 1 + 1 + 1 + 1) 130 4 (.slice (some ⟨g2, 0, none⟩) (k + 2) cap2) (k + 2) (chs (chL Wt (L.take k))) →
          (w'.cell? ⟨g2, pl (L.take k) l * 4, none⟩ = some (.int .i64 (ch Wt l).lev) ∧ w'.cell? ⟨g2, pl (L.take k) l * 4 + 1, none⟩ = some (.int .i64 (ch Wt l).cost) ∧ w'.cell? ⟨g2, pl (L.take k) l * 4 + 2, none⟩ = some (.int .u32 (ch Wt l).c) ∧ w'.cell? ⟨g2, pl (L.take k) l * 4 + 3, none⟩ = some (.bool (ch Wt l).is)) ∧
          w'.cell? ⟨g2, pl (L.take k) h * 4, none⟩ = some (.int .i64 (ch Wt h).lev) ∧ w'.cell? ⟨g2, pl (L.take k) h * 4 + 1, none⟩ = some (.int .i64 (ch Wt h).cost) ∧ w'.cell? ⟨g2, pl (L.take k) h * 4 + 2, none⟩ = some (.int .u32 (ch Wt h).c) ∧ w'.cell? ⟨g2, pl (L.take k) h * 4 + 3, none⟩ = some (.bool (ch Wt h).is) := by
        intro w' h'
        obtain ⟨g', c', e, -, a0, a1, a2, a3⟩ := ch_cells (by rw [hlen2]; exact h') (chL_get (W := Wt) hpre.1)
        obtain ⟨g'', c'', e', -, b0, b1, b2, b3⟩ := ch_cells (by rw [hlen2]; exact h') (chL_get (W := Wt) hpre.2.1)
        simp only [Value.slice.injEq, Option.some.injEq, Addr.mk.injEq, and_true] at e e'
        obtain ⟨rfl, -⟩ := e
        obtain ⟨rfl, -⟩ := e'
        exact ⟨⟨a0, a1, a2, a3⟩, b0, b1, b2, b3⟩
      generalize hp : pl (L.take k) l = p at hcells x1' bL1 y0 y1 y2 y3
      have HCe := Lib.hid hcells
      clear hcells
      generalize hq : pl (L.take k) h = q at HCe x2' bH1 z0 z1 z2 z3
      clear x0 x1 x2 hown hsnoc hnd hle hge pL pH hlen2 hnode hp hq hpre hmem bL bH hs4 hz4
      have hstep : ∀ w', Near w w' → Calls Try.prog 135 (#[] ++ #[.int .i64 i, chV (ch Wt l), chV (ch Wt h)] ++ #[.pointer (some ⟨cb, 0, none⟩)]) w' fun e w'' => ∃ v, e = .returned v ∧ (v = chV (ch Wt (node i l h)) ∧ Near w' w'') := fun w' hn => (HJ.out i l h HMem.out w' hn).mono fun e w'' hh => ⟨_, hh.1, rfl, hh.2⟩
      generalize ch Wt (node i l h) = cn at HSn hstep
      generalize ch Wt l = cl at hstep y0 y1 y2 y3 HCe
      generalize ch Wt h = cr at hstep z0 z1 z2 z3 HCe
      obtain ⟨n1, n2, n3, n4⟩ := cn
      obtain ⟨l1, l2, l3, l4⟩ := cl
      obtain ⟨r1, r2, r3, r4⟩ := cr
      simp only [chV] at hstep
      have HStep := Lib.hid hstep
      clear hstep
      dsimp only at y0 y1 y2 y3 z0 z1 z2 z3
      go_upto_region 5 with fail
      have N5 : Near wr (wr.alloc (.cells #[.int .i64 i, .int .i64 p, .int .i64 q] 26)) := (Near.refl wr).alloc _
      have X0 : (wr.alloc (.cells #[.int .i64 i, .int .i64 p, .int .i64 q] 26)).heap[wr.heap.size]? = some (.cells #[.int .i64 i, .int .i64 p, .int .i64 q] 26 (0, 0)) := heap_new_at rfl
      generalize (wr.alloc (.cells #[.int .i64 i, .int .i64 p, .int .i64 q] 26)) = W5 at X0 N5 ⊢
      have HN5 := Lib.hid N5
      have HX0 := Lib.hid X0
      have hR5 := owns_kept (R := fun _ => False) HO.out N5 (fun _ _ x => x)
      have HR5 := Lib.hid hR5
      clear hR5
      have hgw : g2 < wr.heap.size := (HO.out.lt g2 rfl).2
      have hsOf : ∀ w', Kept (fun b => b = g2) W5 w' → w'.ownsRow (w.heap.size + 1 + 1 + 1 + 1) 130 4 (.slice (some ⟨g2, 0, none⟩) (k + 2) cap2) (k + 2) (chs (chL Wt (L.take k))) → w'.cell? ⟨wr.heap.size, 0, none⟩ = some (.int .i64 i) ∧ w'.cell? ⟨wr.heap.size, 1, none⟩ = some (.int .i64 p) ∧ w'.cell? ⟨wr.heap.size, 2, none⟩ = some (.int .i64 q) ∧
          (w'.cell? ⟨g2, p * 4, none⟩ = some (.int .i64 l1) ∧ w'.cell? ⟨g2, p * 4 + 1, none⟩ = some (.int .i64 l2) ∧ w'.cell? ⟨g2, p * 4 + 2, none⟩ = some (.int .u32 l3) ∧ w'.cell? ⟨g2, p * 4 + 3, none⟩ = some (.bool l4)) ∧
          w'.cell? ⟨g2, q * 4, none⟩ = some (.int .i64 r1) ∧ w'.cell? ⟨g2, q * 4 + 1, none⟩ = some (.int .i64 r2) ∧ w'.cell? ⟨g2, q * 4 + 2, none⟩ = some (.int .u32 r3) ∧ w'.cell? ⟨g2, q * 4 + 3, none⟩ = some (.bool r4) := fun w' hn hr =>
        ⟨hn.cell (cell1 (o := 0) HX0.out rfl) (by omega), hn.cell (cell1 (o := 1) HX0.out rfl) (by omega), hn.cell (cell1 (o := 2) HX0.out rfl) (by omega), HCe.out w' hr⟩
      have HSOf := Lib.hid hsOf
      have hg2b : w.heap.size + 1 + 1 + 1 + 1 ≤ g2 := hgb2
      have hb5 : w.heap.size + 1 + 1 + 1 + 1 ≤ W5.heap.size := Nat.le_trans (by have := HS4.out; omega) N5.size
      clear x0' x1' x2' y0 y1 y2 y3 z0 z1 z2 z3 N5 X0 hsOf
      go_region_held3 (fun w' => w'.cell? ⟨wr.heap.size, 0, none⟩ = some (.int .i64 i) ∧ w'.cell? ⟨wr.heap.size, 1, none⟩ = some (.int .i64 p) ∧ w'.cell? ⟨wr.heap.size, 2, none⟩ = some (.int .i64 q) ∧
          (w'.cell? ⟨g2, p * 4, none⟩ = some (.int .i64 l1) ∧ w'.cell? ⟨g2, p * 4 + 1, none⟩ = some (.int .i64 l2) ∧ w'.cell? ⟨g2, p * 4 + 2, none⟩ = some (.int .u32 l3) ∧ w'.cell? ⟨g2, p * 4 + 3, none⟩ = some (.bool l4)) ∧
          w'.cell? ⟨g2, q * 4, none⟩ = some (.int .i64 r1) ∧ w'.cell? ⟨g2, q * 4 + 1, none⟩ = some (.int .i64 r2) ∧ w'.cell? ⟨g2, q * 4 + 2, none⟩ = some (.int .u32 r3) ∧ w'.cell? ⟨g2, q * 4 + 3, none⟩ = some (.bool r4))
        (first
          | exact HSOf.out _ HG7.out HO7.out
          | exact HSOf.out _ (HN6.out.kept.alloc _) (HR6.out.alloc _)
          | exact HSOf.out _ HN6.out.kept HR6.out
          | exact HSOf.out _ (Kept.refl _ _).drew HR5.out.drew)
        (first
          | (refine step_value rfl (.tmp 23) (.tmp 25) (.tmp 30) (.tmp 35) #[3, 130, 130] rfl HEn.out rfl (.int .i64 i) (.agg #[.int .i64 l1, .int .i64 l2, .int .u32 l3, .bool l4]) (.agg #[.int .i64 r1, .int .i64 r2, .int .u32 r3, .bool r4]) rfl rfl rfl (HStep.out W5.drew (HKN.out.trans HN5.out.drew)) ?_; rintro v6 w6 ⟨rfl, n60⟩; have n6 := (Near.refl W5).drew.trans n60; clear n60; have HN6 := Lib.hid n6; have HR6 := Lib.hid (owns_kept (R := fun _ => False) HR5.out n6 (fun _ _ x => x)); clear n6)
          | (refine step_append_keep rfl (.tmp 22) (.tmp 37) 192 rfl (w.heap.size+1+1+1+1) 130 i0 (.agg #[.int .i64 0, .int .i64 0, .int .u32 0, .bool false]) 4 24 Try.underlying192 hi0 hz0 hz1 hz2 rfl (by decide) _ _ _ rfl (HR6.out.alloc _) ⟨w6.heap.size, 0, none⟩ 1 1 [.int .i64 n1, .int .i64 n2, .int .u32 n3, .bool n4] rfl rfl (cell_four_at rfl _ _ _ _ _) (by simp [Value.oneCell']) (by unfold maxLen; omega) (by omega) (Nat.le_trans (Nat.le_trans hb5 HN6.out.size) (by simp)) ?_; intro ao7 cap7 w7 hown7 hg7 hl7 hold7; have HO7 := Lib.hid hold7; have HG7 := Lib.hid (((Near.kept (S := fun b => b = g2) HN6.out).alloc _).grown hg7 (fun b hb _ => by cases hb; rfl)); have HOw7 := Lib.hid hown7; clear hown7 hg7 hl7 hold7))
      all_goals
        go_wp2_with fail
        exact ⟨⟨k + 1, hlt, by go_num, by rw [HSn.out]; exact HOw7.out, (HKP.out.trans HN5.out.kept).trans (Kept.mono HG7.out (fun b _ h => by rw [h]; exact hg2b))⟩, by simp [intOf]; omega⟩
    · have hkl : k = L.length := by omega
      subst hkl
      have hlen2 := chL_len (W := Wt) hk
      rw [List.take_length] at hown hlen2
      obtain ⟨g2, cap2, hv, -, y0, y1, y2, y3⟩ := ch_cells (by rw [hlen2]; exact hown) (chL_get (W := Wt) hin)
      rw [hlen2] at hv
      subst hv
      have bT := pl_lt hin
      have bT1 : ((pl L t0 : Nat) : Int) < (L.length : Int) + 2 := by omega
      have a0 := cell1 (o := 1) ((HKP.out.block w.heap.size (by have := HS4.out; omega) (by omega)).trans HA4.out) rfl
      have r0 := (HKP.out.block (w.heap.size + 1 + 1 + 1) (by have := HS4.out; omega) (by omega)).trans HR4.out
      have c0 := cell1 (o := 0) r0 rfl
      have c1 := cell1 (o := 1) r0 rfl
      have c2 := cell1 (o := 2) r0 rfl
      have c3 := cell1 (o := 3) r0 rfl
      have cf := free1 r0
      have hend := filled4 r0 (.int .i64 (ch Wt t0).lev) (.int .i64 (ch Wt t0).cost) (.int .u32 (ch Wt t0).c) (.bool (ch Wt t0).is)
      have hne := near_fill4 (b := w.heap.size + 1 + 1 + 1) HKN.out (by omega) (.int .i64 (ch Wt t0).lev) (.int .i64 (ch Wt t0).cost) (.int .u32 (ch Wt t0).c) (.bool (ch Wt t0).is)
      have HEnd := Lib.hid hend
      have HNe := Lib.hid hne
      clear hend hne hown hlen2 r0 bT
      generalize hp : pl L t0 = p at y0 y1 y2 y3 a0 bT1
      clear hp
      go_wp2_with fail
      have q0 := cell1 (o := 0) HEnd.out rfl
      have q1 := cell1 (o := 1) HEnd.out rfl
      have q2 := cell1 (o := 2) HEnd.out rfl
      have q3 := cell1 (o := 3) HEnd.out rfl
      exact bodyPost_ret (v := chV (ch Wt t0)) (by simp [results, Try.results134, go_sem, q0, q1, q2, q3, chV]) rfl ⟨rfl, HNe.out⟩

end Go.Proofs.Ytefclohjeompkaa

/- The join of the best family: one node's choice. -/
namespace Go.Proofs.Ytefclohjeompkaa
open Go Go.RowKit Go.Proofs.Gen Go.Proofs.Bdd Go.Proofs.Bdd.T

theorem better_is {x y z : Ch} (w : World) (h : chBetter x y = z) : Calls Try.prog 136 #[chV x, chV y] w fun e w' => e = .returned (chV z) ∧ Near w w' := h ▸ better_calls x y w

set_option maxRecDepth 100000 in
set_option maxHeartbeats 3200000 in
theorem best1_calls {w : World} {wb cb i : Nat} {W : Nat → Bool → Int} (hw : IsWt w wb W) (hW : WtOk W) (hc : w.cell? ⟨cb, 0, none⟩ = some (.pointer (some ⟨wb, 0, none⟩))) {x y z : Ch} (hx : ChOk x) (hy : ChOk y) (hix : i < x.lev) (hiy : i < y.lev)
    (hz : chBetter (chStep W (chDown W x (x.lev - (i + 1))) i false) (chStep W (chDown W y (y.lev - (i + 1))) i true) = z) :
    Calls Try.prog 135 #[.int .i64 i, chV x, chV y, .pointer (some ⟨cb, 0, none⟩)] w fun e w' => e = .returned (chV z) ∧ Near w w' := by
  have hdx := hx.down hW (k := x.lev - (i + 1)) (by omega)
  have hdy := hy.down hW (k := y.lev - (i + 1)) (by omega)
  have l1 : i < (chDown W x (x.lev - (i + 1))).lev := by rw [hdx.2]; omega
  have l2 : i < (chDown W y (y.lev - (i + 1))).lev := by rw [hdy.2]; omega
  have hwr : IntKind.i64.wrap ((i : Int) + 1) = ((i + 1 : Nat) : Int) := by rw [IntWalk.i64_in _ (by have := hx.1; omega)]; rfl
  have HD1 := Lib.hid (fun (w' : World) (h : Near w w') => down_calls (hw.near h) hW hx (lo := i + 1) (by omega))
  have HD2 := Lib.hid (fun (w' : World) (h : Near w w') => down_calls (hw.near h) hW hy (lo := i + 1) (by omega))
  have HT1 := Lib.hid (fun (w' : World) (h : Near w w') => step_calls (hw.near h) hW hdx.1 l1 false)
  have HT2 := Lib.hid (fun (w' : World) (h : Near w w') => step_calls (hw.near h) hW hdy.1 l2 true)
  generalize chDown W x (x.lev - (i + 1)) = d1 at HD1 HT1 hz
  generalize chDown W y (y.lev - (i + 1)) = d2 at HD2 HT2 hz
  generalize chStep W d1 i false = t1 at HT1 hz
  generalize chStep W d2 i true = t2 at HT2 hz
  have HB := Lib.hid (fun (w' : World) => better_is w' hz)
  obtain ⟨lx, px, ex, ix⟩ := x
  obtain ⟨ly, py, ey, iy⟩ := y
  obtain ⟨lz, pz, ez, iz⟩ := z
  have hcl : cb < w.heap.size := World.block_lt_of_cell? w ⟨cb, 0, none⟩ hc
  clear hdx hdy l1 l2 hz hx hy hix hiy
  have facts : ∀ W, W = ((w.alloc (.cells #[.int .i64 lx, .int .i64 px, .int .u32 ex, .bool ix] 130)).alloc (.cells #[.int .i64 ly, .int .i64 py, .int .u32 ey, .bool iy] 130)).alloc (.cells #[.int .i64 0, .int .i64 0, .int .u32 0, .bool false] 130) →
      Near w W ∧ W.heap[w.heap.size]? = some (.cells #[.int .i64 lx, .int .i64 px, .int .u32 ex, .bool ix] 130 (0, 0)) ∧ W.heap[w.heap.size + 1]? = some (.cells #[.int .i64 ly, .int .i64 py, .int .u32 ey, .bool iy] 130 (0, 0)) ∧ W.heap[w.heap.size + 1 + 1]? = some (.cells #[.int .i64 0, .int .i64 0, .int .u32 0, .bool false] 130 (0, 0)) := by
    rintro W rfl
    refine ⟨(((Near.refl w).alloc _).alloc _).alloc _, ?_, ?_, ?_⟩
    all_goals
      repeat (first | exact heap_new_at (by simp; done) | refine (heap_old_at (by simp <;> omega)).trans ?_)
  simp only [show chV ⟨lx, px, ex, ix⟩ = .agg #[.int .i64 lx, .int .i64 px, .int .u32 ex, .bool ix] from rfl, show chV ⟨ly, py, ey, iy⟩ = .agg #[.int .i64 ly, .int .i64 py, .int .u32 ey, .bool iy] from rfl, show chV ⟨lz, pz, ez, iz⟩ = .agg #[.int .i64 lz, .int .i64 pz, .int .u32 ez, .bool iz] from rfl] at HD1 HD2 HB ⊢
  go_enter Try.func135, Try.ntmps135
  go_upto_region 1 with fail
  have hf := facts _ rfl
  generalize (((w.alloc _).alloc _).alloc _) = W1 at hf ⊢
  clear facts
  obtain ⟨hN, hX, hY, hO⟩ := hf
  have HN := Lib.hid hN
  have HX := Lib.hid hX
  have HY := Lib.hid hY
  have HO := Lib.hid hO
  have HC := Lib.hid hc
  clear hX hY hO hc hw
  have sOf : ∀ w', Kept (fun b => b = w.heap.size + 1 + 1) W1 w' → w'.cell? ⟨cb, 0, none⟩ = some (.pointer (some ⟨wb, 0, none⟩)) ∧ (w'.cell? ⟨w.heap.size, 0, none⟩ = some (.int .i64 lx) ∧ w'.cell? ⟨w.heap.size, 1, none⟩ = some (.int .i64 px) ∧ w'.cell? ⟨w.heap.size, 2, none⟩ = some (.int .u32 ex) ∧ w'.cell? ⟨w.heap.size, 3, none⟩ = some (.bool ix)) ∧
      w'.cell? ⟨w.heap.size + 1, 0, none⟩ = some (.int .i64 ly) ∧ w'.cell? ⟨w.heap.size + 1, 1, none⟩ = some (.int .i64 py) ∧ w'.cell? ⟨w.heap.size + 1, 2, none⟩ = some (.int .u32 ey) ∧ w'.cell? ⟨w.heap.size + 1, 3, none⟩ = some (.bool iy) := fun w' h =>
    ⟨h.cell (HN.out.cell HC.out) (by omega), ⟨h.cell (cell1 (o := 0) HX.out rfl) (by omega), h.cell (cell1 (o := 1) HX.out rfl) (by omega), h.cell (cell1 (o := 2) HX.out rfl) (by omega), h.cell (cell1 (o := 3) HX.out rfl) (by omega)⟩, h.cell (cell1 (o := 0) HY.out rfl) (by omega), h.cell (cell1 (o := 1) HY.out rfl) (by omega), h.cell (cell1 (o := 2) HY.out rfl) (by omega), h.cell (cell1 (o := 3) HY.out rfl) (by omega)⟩
  have SOf := Lib.hid sOf
  have hcur : Near W1 W1.drew := (Near.refl _).drew
  have HCur := Lib.hid hcur
  clear sOf hN hcur
  have hend : ∀ W3, Near W1 W3 → (W3.cell? ⟨w.heap.size + 1 + 1, 0, none⟩ = some (.int .i64 0) ∧ W3.cell? ⟨w.heap.size + 1 + 1, 1, none⟩ = some (.int .i64 0) ∧ W3.cell? ⟨w.heap.size + 1 + 1, 2, none⟩ = some (.int .u32 0) ∧ W3.cell? ⟨w.heap.size + 1 + 1, 3, none⟩ = some (.bool false)) ∧ (∀ o, W3.frozen? ⟨w.heap.size + 1 + 1, o, none⟩ = false) := fun W3 h =>
    ⟨⟨cell1 (o := 0) (keepN h HO.out) rfl, cell1 (o := 1) (keepN h HO.out) rfl, cell1 (o := 2) (keepN h HO.out) rfl, cell1 (o := 3) (keepN h HO.out) rfl⟩, fun o => free1 (keepN h HO.out) o⟩
  have HEnd := Lib.hid hend
  clear hend
  go_region_held3 (fun w' => w'.cell? ⟨cb, 0, none⟩ = some (.pointer (some ⟨wb, 0, none⟩)) ∧ (w'.cell? ⟨w.heap.size, 0, none⟩ = some (.int .i64 lx) ∧ w'.cell? ⟨w.heap.size, 1, none⟩ = some (.int .i64 px) ∧ w'.cell? ⟨w.heap.size, 2, none⟩ = some (.int .u32 ex) ∧ w'.cell? ⟨w.heap.size, 3, none⟩ = some (.bool ix)) ∧
      w'.cell? ⟨w.heap.size + 1, 0, none⟩ = some (.int .i64 ly) ∧ w'.cell? ⟨w.heap.size + 1, 1, none⟩ = some (.int .i64 py) ∧ w'.cell? ⟨w.heap.size + 1, 2, none⟩ = some (.int .u32 ey) ∧ w'.cell? ⟨w.heap.size + 1, 3, none⟩ = some (.bool iy))
    (first | exact SOf.out _ (((((H5.out.kept (S := fun b => b = w.heap.size + 1 + 1)).setCell (p := ⟨w.heap.size + 1 + 1, 0, none⟩) (fun _ => rfl) _).setCell (p := ⟨w.heap.size + 1 + 1, 1, none⟩) (fun _ => rfl) _).setCell (p := ⟨w.heap.size + 1 + 1, 2, none⟩) (fun _ => rfl) _).setCell (p := ⟨w.heap.size + 1 + 1, 3, none⟩) (fun _ => rfl) _) | exact SOf.out _ H5.out.kept | exact SOf.out _ H4.out.kept | exact SOf.out _ H3.out.kept | exact SOf.out _ H2.out.kept | exact SOf.out _ H1.out.kept | exact SOf.out _ HCur.out.kept)
    (first
      | (go_at_call 138; refine (HD1.out _ (HN.out.trans HCur.out)).mono ?_; rintro e v1 ⟨rfl, m1⟩; have H1 := Lib.hid (HCur.out.trans m1); clear m1 HD1)
      | (go_at_call 137; refine (HT1.out _ (HN.out.trans H1.out)).mono ?_; rintro e v2 ⟨rfl, m2⟩; have H2 := Lib.hid (H1.out.trans m2); clear m2 HT1)
      | (go_at_call 138; refine (HD2.out _ (HN.out.trans H2.out)).mono ?_; rintro e v3 ⟨rfl, m3⟩; have H3 := Lib.hid (H2.out.trans m3); clear m3 HD2)
      | (go_at_call 137; refine (HT2.out _ (HN.out.trans H3.out)).mono ?_; rintro e v4 ⟨rfl, m4⟩; have H4 := Lib.hid (H3.out.trans m4); clear m4 HT2)
      | (go_at_call 136; refine (HB.out _).mono ?_; rintro e v5 ⟨rfl, m5⟩; have H5 := Lib.hid (H4.out.trans m5); obtain ⟨⟨z0, z1, z2, z3⟩, zf⟩ := HEnd.out _ H5.out; clear m5))
  have hend := filled4 (keepN H5.out HO.out) (.int .i64 lz) (.int .i64 pz) (.int .u32 ez) (.bool iz)
  have hne := near_fill4 (b := w.heap.size + 1 + 1) (HN.out.trans H5.out) (by omega) (.int .i64 lz) (.int .i64 pz) (.int .u32 ez) (.bool iz)
  have HE2 := Lib.hid hend
  have HNe := Lib.hid hne
  clear hend hne
  go_wp2_with fail
  have q0 := cell1 (o := 0) HE2.out rfl
  have q1 := cell1 (o := 1) HE2.out rfl
  have q2 := cell1 (o := 2) HE2.out rfl
  have q3 := cell1 (o := 3) HE2.out rfl
  exact bodyPost_ret (v := .agg #[.int .i64 lz, .int .i64 pz, .int .u32 ez, .bool iz]) (by simp [results, Try.results135, go_sem, q0, q1, q2, q3]) rfl ⟨rfl, HNe.out⟩

end Go.Proofs.Ytefclohjeompkaa

/- The best configuration of a set: the program's best. -/
namespace Go.Proofs.Ytefclohjeompkaa
open Go Go.RowKit Go.Proofs.Gen Go.Proofs.Bdd Go.Proofs.Bdd.T

open Classical in
/-- The best configuration, and what it costs. -/
noncomputable def bestC (W : Nat → Bool → Int) (f : F) : Nat := if h : ∃ c x, IsBest W f x c then h.choose else 0
open Classical in
noncomputable def bestX (W : Nat → Bool → Int) (f : F) : Int := if h : ∃ x c, IsBest W f x c then h.choose else 0

theorem bestC_is {W : Nat → Bool → Int} {f : F} {x : Int} {c : Nat} (h : IsBest W f x c) : bestC W f = c := by
  have hh : ∃ c x, IsBest W f x c := ⟨c, x, h⟩
  unfold bestC
  rw [dif_pos hh]
  obtain ⟨y, hy⟩ := hh.choose_spec
  exact (hy.one h).2
theorem bestX_is {W : Nat → Bool → Int} {f : F} {x : Int} {c : Nat} (h : IsBest W f x c) : bestX W f = x := by
  have hh : ∃ x c, IsBest W f x c := ⟨x, c, h⟩
  unfold bestX
  rw [dif_pos hh]
  obtain ⟨y, hy⟩ := hh.choose_spec
  exact (hy.one h).1
theorem best_no {W : Nat → Bool → Int} {f : F} (h : nowhere f = true) : bestC W f = 0 ∧ bestX W f = 0 := by
  have no : ∀ x c, ¬ IsBest W f x c := fun x c hb => by
    have := hb.yes
    rw [nowhere_iff.1 h] at this
    cases this
  unfold bestC bestX
  rw [dif_neg fun ⟨c, x, hb⟩ => no x c hb, dif_neg fun ⟨x, c, hb⟩ => no x c hb]
  exact ⟨rfl, rfl⟩

theorem ChOk.better {x y : Ch} (hx : ChOk x) (hy : ChOk y) : ChOk (chBetter x y) := by
  unfold chBetter
  split
  · exact hy
  · exact hx
theorem ch_ok {W : Nat → Bool → Int} (hW : WtOk W) : ∀ t : T, t.Ok → ChOk (ch W t)
  | .leaf b, _ => ⟨Nat.le_refl _, by show -(2147483648 * ((24 - 24 : Nat) : Int)) ≤ 0; simp, by show (0 : Int) ≤ 2147483648 * ((24 - 24 : Nat) : Int); simp, by show 0 < 16777216; omega⟩
  | .node i l h, ok => by
    have ol := ch_ok hW l ok.2.2.2.2.1
    have oh := ch_ok hW h ok.2.2.2.2.2
    have ll := (ch_best W l ok.2.2.2.2.1).lev
    have lh := (ch_best W h ok.2.2.2.2.2).lev
    have h1 := ok.2.1
    have h2 := ok.2.2.1
    have dl := ol.down hW (k := (ch W l).lev - (i + 1)) (by omega)
    have dh := oh.down hW (k := (ch W h).lev - (i + 1)) (by omega)
    exact (dl.1.step hW (by rw [dl.2]; omega) false).better (dh.1.step hW (by rw [dh.2]; omega) true)

/-- What best hands back. -/
def bestR (W : Nat → Bool → Int) (t : T) : Ch := if (ch W t).is = true then chDown W (ch W t) (ch W t).lev else ⟨0, 0, 0, false⟩

theorem bestR_says (W : Nat → Bool → Int) {t : T} (ok : t.Ok) : (bestR W t).c = bestC W t.ev ∧ (bestR W t).cost = bestX W t.ev ∧ (bestR W t).is = !nowhere t.ev := by
  obtain ⟨h1, h2⟩ := ch_all W ok
  have his : ∀ k, (chDown W (ch W t) k).is = (ch W t).is := by
    intro k
    induction k with
    | zero => rfl
    | succ k ih => exact ih
  unfold bestR
  cases hi : (ch W t).is with
  | true =>
    rw [if_pos rfl]
    exact ⟨(bestC_is (h2 hi)).symm, (bestX_is (h2 hi)).symm, by rw [his, h1]⟩
  | false =>
    have hn : nowhere t.ev = true := by rw [h1] at hi; simpa using hi
    rw [if_neg (by simp)]
    exact ⟨(best_no hn).1.symm, (best_no hn).2.symm, by rw [hn]; rfl⟩

set_option maxRecDepth 100000 in
set_option maxHeartbeats 3200000 in
theorem best_walk {w : World} {v : Value} {t : T} (h : IsD w v t) {wb : Nat} {W : Nat → Bool → Int} (hw : IsWt w wb W) (hW : WtOk W) {r : Ch} (hr : bestR W t = r) :
    Calls Try.prog 108 #[v, .pointer (some ⟨wb, 0, none⟩)] w fun e w' => e = .returned (chV r) ∧ Near w w' := by
  have hok := ch_ok hW t h.1
  have hr' : r = if (ch W t).is = true then chDown W (ch W t) (ch W t).lev else ⟨0, 0, 0, false⟩ := hr.symm
  have HR := Lib.hid hr'
  clear hr hr'
  obtain ⟨ok, sv, rfl, hrow⟩ := h
  obtain ⟨ao, cap, rfl⟩ := owns_form hrow
  have g := nodes_good ok
  have hlen := nodes_len ok
  have HF := Lib.hid (fun (w' : World) (hn : Near w w') (cb : Nat) (hc : w'.cell? ⟨cb, 0, none⟩ = some (.pointer (some ⟨wb, 0, none⟩))) =>
    fold_choice W (nodes t) g (by omega) t (nodes_in t) ao cap cb w' (owns_kept (R := fun _ => False) hrow hn (fun _ _ x => x)) (fun i l r hm w'' hn'' => by
      have o := (g.all _ hm).2
      have ll := (ch_best W l o.2.2.2.2.1).lev
      have lr := (ch_best W r o.2.2.2.2.2).lev
      have h1 := o.2.1
      have h2 := o.2.2.1
      exact best1_calls (hw.near (hn.trans hn'')) hW (hn''.cell hc) (ch_ok hW l o.2.2.2.2.1) (ch_ok hW r o.2.2.2.2.2) (by omega) (by omega) rfl))
  have HD := Lib.hid (fun (w' : World) (hn : Near w w') => down_calls (hw.near hn) hW hok (lo := 0) (Nat.zero_le _))
  generalize ch W t = x at HF HD HR hok
  obtain ⟨xl, xp, xe, xi⟩ := x
  generalize hd : chDown W ⟨xl, xp, xe, xi⟩ ((⟨xl, xp, xe, xi⟩ : Ch).lev - 0) = d at HD
  obtain ⟨dl, dp, de, di⟩ := d
  have HDD := Lib.hid hd
  have HW := Lib.hid hw
  clear hw hd hok hlen hrow g
  generalize (nodes t).length = m at HF ⊢
  generalize pl (nodes t) t = q at HF ⊢
  have facts : ∀ W1, W1 = (((w.alloc (.cells #[.slice ao m cap, .int .i64 q] 31)).alloc (.cells #[.pointer (some ⟨wb, 0, none⟩)] 132)).alloc (.cells #[.int .i64 0, .int .i64 0, .int .u32 0, .bool false] 130)).alloc (.cells #[.int .i64 24, .int .i64 0, .int .u32 0, .bool true] 130) →
      Near w W1 ∧ W1.heap[w.heap.size]? = some (.cells #[.slice ao m cap, .int .i64 q] 31 (0, 0)) ∧ W1.heap[w.heap.size + 1]? = some (.cells #[.pointer (some ⟨wb, 0, none⟩)] 132 (0, 0)) ∧ W1.heap[w.heap.size + 1 + 1]? = some (.cells #[.int .i64 0, .int .i64 0, .int .u32 0, .bool false] 130 (0, 0)) ∧ W1.heap[w.heap.size + 1 + 1 + 1]? = some (.cells #[.int .i64 24, .int .i64 0, .int .u32 0, .bool true] 130 (0, 0)) := by
    rintro W rfl
    refine ⟨((((Near.refl w).alloc _).alloc _).alloc _).alloc _, ?_, ?_, ?_, ?_⟩
    all_goals
      repeat (first | exact heap_new_at (by simp; done) | refine (heap_old_at (by simp <;> omega)).trans ?_)
  simp only [chV] at HF HD
  obtain ⟨rl, rp, re, ri⟩ := r
  simp only [chV]
  go_enter Try.func108, Try.ntmps108
  go_upto_region 2 with fail
  have hf := facts _ rfl
  generalize ((((w.alloc _).alloc _).alloc _).alloc _) = W1 at hf ⊢
  clear facts
  obtain ⟨hN, hA, hP, hO, hE⟩ := hf
  have HN := Lib.hid hN
  have HP := Lib.hid hP
  have HO := Lib.hid hO
  have a0 := cell1 (o := 0) hA rfl
  have a1 := cell1 (o := 1) hA rfl
  have e0 := cell1 (o := 0) hE rfl
  have e1 := cell1 (o := 1) hE rfl
  have e2 := cell1 (o := 2) hE rfl
  have e3 := cell1 (o := 3) hE rfl
  have HF1 := Lib.hid (HF.out _ hN (w.heap.size + 1) (cell1 (o := 0) hP rfl))
  clear hN hA hP hO hE HF
  go_upto_region 3 with (go_at_call 134; refine HF1.out.mono ?_; rintro e w2 ⟨rfl, n2⟩)
  have n3 : Near W1 (w2.alloc (.cells #[.int .i64 xl, .int .i64 xp, .int .u32 xe, .bool xi] 130)) := n2.alloc _
  have h3 : (w2.alloc (.cells #[.int .i64 xl, .int .i64 xp, .int .u32 xe, .bool xi] 130)).heap[w2.heap.size]? = some (.cells #[.int .i64 xl, .int .i64 xp, .int .u32 xe, .bool xi] 130 (0, 0)) := heap_new_at rfl
  generalize w2.alloc (.cells #[.int .i64 xl, .int .i64 xp, .int .u32 xe, .bool xi] 130) = W3 at n3 h3 ⊢
  have N3 := Lib.hid (HN.out.trans n3)
  have x0 := cell1 (o := 0) h3 rfl
  have x1 := cell1 (o := 1) h3 rfl
  have x2 := cell1 (o := 2) h3 rfl
  have x3 := cell1 (o := 3) h3 rfl
  have hO3 := keepN n3 HO.out
  have hP3 : W3.cell? ⟨w.heap.size + 1, 0, none⟩ = some (.pointer (some ⟨wb, 0, none⟩)) := cell1 (o := 0) (keepN n3 HP.out) rfl
  have HO3 := Lib.hid hO3
  have HP3 := Lib.hid hP3
  clear a0 a1 e0 e1 e2 e3 n2 n3 h3 hP3 hO3
  cases xi with
  | false =>
    have hz := HR.out
    rw [if_neg (by simp)] at hz
    cases hz
    have z0 := cell1 (o := 0) HO3.out rfl
    have z1 := cell1 (o := 1) HO3.out rfl
    have z2 := cell1 (o := 2) HO3.out rfl
    have z3 := cell1 (o := 3) HO3.out rfl
    have zf := free1 HO3.out
    go_wp2_with fail
    have q := filled4 HO3.out (.int .i64 0) (.int .i64 0) (.int .u32 0) (.bool false)
    have hne := near_fill4 (b := w.heap.size + 1 + 1) N3.out (by omega) (.int .i64 0) (.int .i64 0) (.int .u32 0) (.bool false)
    have q0 := cell1 (o := 0) q rfl
    have q1 := cell1 (o := 1) q rfl
    have q2 := cell1 (o := 2) q rfl
    have q3 := cell1 (o := 3) q rfl
    exact bodyPost_ret (v := .agg #[.int .i64 0, .int .i64 0, .int .u32 0, .bool false]) (by simp [results, Try.results108, go_sem, q0, q1, q2, q3]) rfl ⟨rfl, hne⟩
  | true =>
    have hz := HR.out
    rw [if_pos rfl] at hz
    have hz2 := hz.trans HDD.out
    cases hz2
    have hp3 := HP3.out
    have hd0 := HD.out W3 N3.out
    simp only [Int.ofNat_zero] at hd0
    have HD0 := Lib.hid hd0
    clear hd0 hz
    go_wp2_with (go_at_call 138; refine HD0.out.mono ?_; rintro e w4 ⟨rfl, n4⟩; have HO4 := Lib.hid (keepN n4 HO3.out); have z0 := cell1 (o := 0) HO4.out rfl; have z1 := cell1 (o := 1) HO4.out rfl; have z2 := cell1 (o := 2) HO4.out rfl; have z3 := cell1 (o := 3) HO4.out rfl; have zf := free1 HO4.out)
    have q := filled4 HO4.out (.int .i64 dl) (.int .i64 dp) (.int .u32 de) (.bool di)
    have hne := near_fill4 (b := w.heap.size + 1 + 1) (N3.out.trans n4) (by omega) (.int .i64 dl) (.int .i64 dp) (.int .u32 de) (.bool di)
    have q0 := cell1 (o := 0) q rfl
    have q1 := cell1 (o := 1) q rfl
    have q2 := cell1 (o := 2) q rfl
    have q3 := cell1 (o := 3) q rfl
    exact bodyPost_ret (v := .agg #[.int .i64 dl, .int .i64 dp, .int .u32 de, .bool di]) (by simp [results, Try.results108, go_sem, q0, q1, q2, q3]) rfl ⟨rfl, hne⟩

/-- By function: the cost, the configuration, and whether there is one. -/
theorem best_f {w : World} {v : Value} {f : F} (h : IsF w v f) {wb : Nat} {W : Nat → Bool → Int} (hw : IsWt w wb W) (hW : WtOk W) :
    ∃ lev : Nat, Calls Try.prog 108 #[v, .pointer (some ⟨wb, 0, none⟩)] w fun e w' => e = .returned (.agg #[.int .i64 lev, .int .i64 (bestX W f), .int .u32 (bestC W f : Nat), .bool (!nowhere f)]) ∧ Near w w' := by
  obtain ⟨t, hd, he⟩ := h
  obtain rfl : t.ev = f := funext he
  obtain ⟨h1, h2, h3⟩ := bestR_says W hd.1
  refine ⟨(bestR W t).lev, ?_⟩
  have := best_walk hd hw hW (r := bestR W t) rfl
  rw [← h1, ← h2, ← h3]
  exact this

end Go.Proofs.Ytefclohjeompkaa
