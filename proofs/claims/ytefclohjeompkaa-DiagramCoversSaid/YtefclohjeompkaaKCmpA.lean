/- The contracts of cmp.Compare and cmp.Or. -/
import Derived.Test.YtefclohjeompkaaKOps
namespace Go.Proofs.Ytefclohjeompkaa
open Go Go.RowKit Go.Proofs.Gen Go.Proofs.Bdd Go.Proofs.Bdd.T

/-- How two numbers compare. -/
def cmpI (a b : Int) : Int := if a < b then -1 else if b < a then 1 else 0

set_option maxRecDepth 100000 in
set_option maxHeartbeats 800000 in
theorem nan2_calls (a : Int) (w : World) : Calls Try.prog 158 #[.int .i64 a] w fun e w' => e = .returned (.bool false) ∧ w' = w := by
  go_enter Try.func158, Try.ntmps158
  go_wp2_with fail
  exact bodyPost_ret (v := .bool false) (by simp [results, Try.results158, go_sem]) rfl ⟨rfl, rfl⟩
set_option maxRecDepth 100000 in
set_option maxHeartbeats 800000 in
theorem nan24_calls (a : Int) (w : World) : Calls Try.prog 144 #[.int .u32 a] w fun e w' => e = .returned (.bool false) ∧ w' = w := by
  go_enter Try.func144, Try.ntmps144
  go_wp2_with fail
  exact bodyPost_ret (v := .bool false) (by simp [results, Try.results144, go_sem]) rfl ⟨rfl, rfl⟩

set_option maxRecDepth 100000 in
set_option maxHeartbeats 800000 in
theorem compare2_calls (a b : Int) (w : World) : Calls Try.prog 147 #[.int .i64 a, .int .i64 b] w fun e w' => e = .returned (.int .i64 (cmpI a b)) ∧ w' = w := by
  have hq : cmpI a b = if a < b then -1 else if b < a then 1 else 0 := rfl
  by_cases h1 : a < b
  · rw [if_pos h1] at hq
    rw [hq]
    clear hq
    go_enter Try.func147, Try.ntmps147
    go_wp2_with (first
      | (go_at_call 158; refine (nan2_calls _ _).mono ?_; rintro e w1 ⟨rfl, rfl⟩))
    exact bodyPost_ret (v := .int .i64 (-1)) (by simp [results, Try.results147, go_sem]) rfl ⟨rfl, rfl⟩
  · rw [if_neg h1] at hq
    by_cases h2 : b < a
    · rw [if_pos h2] at hq
      rw [hq]
      clear hq
      go_enter Try.func147, Try.ntmps147
      go_wp2_with (first
        | (go_at_call 158; refine (nan2_calls _ _).mono ?_; rintro e w1 ⟨rfl, rfl⟩))
      exact bodyPost_ret (v := .int .i64 1) (by simp [results, Try.results147, go_sem]) rfl ⟨rfl, rfl⟩
    · rw [if_neg h2] at hq
      rw [hq]
      clear hq
      go_enter Try.func147, Try.ntmps147
      go_wp2_with (first
        | (go_at_call 158; refine (nan2_calls _ _).mono ?_; rintro e w1 ⟨rfl, rfl⟩))
      exact bodyPost_ret (v := .int .i64 0) (by simp [results, Try.results147, go_sem]) rfl ⟨rfl, rfl⟩

set_option maxRecDepth 100000 in
set_option maxHeartbeats 800000 in
theorem compare24_calls (a b : Int) (w : World) : Calls Try.prog 123 #[.int .u32 a, .int .u32 b] w fun e w' => e = .returned (.int .i64 (cmpI a b)) ∧ w' = w := by
  have hq : cmpI a b = if a < b then -1 else if b < a then 1 else 0 := rfl
  by_cases h1 : a < b
  · rw [if_pos h1] at hq
    rw [hq]
    clear hq
    go_enter Try.func123, Try.ntmps123
    go_wp2_with (first
      | (go_at_call 144; refine (nan24_calls _ _).mono ?_; rintro e w1 ⟨rfl, rfl⟩))
    exact bodyPost_ret (v := .int .i64 (-1)) (by simp [results, Try.results123, go_sem]) rfl ⟨rfl, rfl⟩
  · rw [if_neg h1] at hq
    by_cases h2 : b < a
    · rw [if_pos h2] at hq
      rw [hq]
      clear hq
      go_enter Try.func123, Try.ntmps123
      go_wp2_with (first
        | (go_at_call 144; refine (nan24_calls _ _).mono ?_; rintro e w1 ⟨rfl, rfl⟩))
      exact bodyPost_ret (v := .int .i64 1) (by simp [results, Try.results123, go_sem]) rfl ⟨rfl, rfl⟩
    · rw [if_neg h2] at hq
      rw [hq]
      clear hq
      go_enter Try.func123, Try.ntmps123
      go_wp2_with (first
        | (go_at_call 144; refine (nan24_calls _ _).mono ?_; rintro e w1 ⟨rfl, rfl⟩))
      exact bodyPost_ret (v := .int .i64 0) (by simp [results, Try.results123, go_sem]) rfl ⟨rfl, rfl⟩

set_option maxRecDepth 100000 in
set_option maxHeartbeats 800000 in
theorem cmpOr_calls {g : Nat} {x y : Int} {w : World} (c0 : w.cell? ⟨g, 0, none⟩ = some (.int .i64 x)) (c1 : w.cell? ⟨g, 1, none⟩ = some (.int .i64 y)) :
    Calls Try.prog 121 #[.slice (some ⟨g, 0, none⟩) 2 2] w fun e w' => e = .returned (.int .i64 (if x = 0 then y else x)) ∧ w' = w := by
  by_cases h1 : x = 0
  · subst h1
    rw [if_pos rfl]
    by_cases h2 : y = 0
    · subst h2
      go_enter Try.func121, Try.ntmps121
      go_wp2_with fail
      go_loopw [8] (fun i wr => ∃ k : Nat, k ≤ 2 ∧ i = .int .i64 k ∧ wr = w) (fun i _ => 2 - (intOf i).toNat)
      case atStart => exact ⟨0, by omega, rfl, rfl⟩
      case round =>
        obtain ⟨k, hk, rfl, rfl⟩ := hrel
        obtain rfl | rfl | rfl : k = 0 ∨ k = 1 ∨ k = 2 := by omega
        · go_wp2_with fail
          exact ⟨⟨1, by omega, rfl, trivial⟩, by simp [intOf]⟩
        · go_wp2_with fail
          exact ⟨⟨2, by omega, rfl, trivial⟩, by simp [intOf]⟩
        · go_wp2_with fail
          exact bodyPost_ret (v := .int .i64 0) (by simp [results, Try.results121, go_sem]) rfl ⟨rfl, rfl⟩
    · go_enter Try.func121, Try.ntmps121
      go_wp2_with fail
      go_loopw [8] (fun i wr => ∃ k : Nat, k ≤ 1 ∧ i = .int .i64 k ∧ wr = w) (fun i _ => 2 - (intOf i).toNat)
      case atStart => exact ⟨0, by omega, rfl, rfl⟩
      case round =>
        obtain ⟨k, hk, rfl, rfl⟩ := hrel
        obtain rfl | rfl : k = 0 ∨ k = 1 := by omega
        · go_wp2_with fail
          exact ⟨⟨1, by omega, rfl, trivial⟩, by simp [intOf]⟩
        · have h2' : (y == 0) = false := by simpa using h2
          go_wp2_with fail
          exact bodyPost_ret (v := .int .i64 y) (by simp [results, Try.results121, go_sem]) rfl ⟨rfl, rfl⟩
  · rw [if_neg h1]
    have h1' : (x == 0) = false := by simpa using h1
    go_enter Try.func121, Try.ntmps121
    go_wp2_with fail
    go_loopw [8] (fun i wr => i = .int .i64 0 ∧ wr = w) (fun i _ => 2 - (intOf i).toNat)
    case atStart => exact ⟨rfl, rfl⟩
    case round =>
      obtain ⟨rfl, rfl⟩ := hrel
      go_wp2_with fail
      exact bodyPost_ret (v := .int .i64 x) (by simp [results, Try.results121, go_sem]) rfl ⟨rfl, rfl⟩

end Go.Proofs.Ytefclohjeompkaa
