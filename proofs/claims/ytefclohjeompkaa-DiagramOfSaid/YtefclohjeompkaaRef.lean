/- The reference's sets: plain facts, and the walks of its small functions. -/
import Derived.Test.YtefclohjeompkaaWakes
namespace Go.Proofs.Ytefclohjeompkaa
open Go Go.RowKit Go.Proofs.Gen Go.Proofs.Bdd Go.Proofs.Bdd.T

/-- The features of a number, rising, below k. -/
def featsTo (f k : Nat) : List Nat := (List.range k).filter (fun i => f.testBit i)
def feats (f : Nat) : List Nat := featsTo f 24

theorem featsTo_succ (f k : Nat) : featsTo f (k + 1) = featsTo f k ++ if f.testBit k = true then [k] else [] := by
  unfold featsTo
  rw [List.range_succ, List.filter_append]
  simp only [List.filter_cons, List.filter_nil]

theorem featsTo_len (f k : Nat) : (featsTo f k).length ≤ k := Nat.le_trans (List.length_filter_le _ _) (by simp)

def iv (i : Nat) : Value := .int .i64 i

/-- A row of one cell each. -/
theorem row1 {w : World} {base e n : Nat} {v : Value} {xs : List Value} (h : w.ownsRow base e 1 v n xs) {k : Nat} {u : Value} (hk : xs[k]? = some u) (hn : k < n) :
    ∃ g cap, v = .slice (some ⟨g, 0, none⟩) n cap ∧ w.cell? ⟨g, k, none⟩ = some u ∧ g < w.heap.size := by
  rcases h.2 with ⟨_, h0⟩ | ⟨g, cap, cur, rfl, _, hg, _, _, hs, ht⟩
  · omega
  · refine ⟨g, cap, rfl, ?_, (Array.getElem?_eq_some_iff.1 hg).1⟩
    rw [← ht, List.getElem?_take, if_pos (by omega)] at hk
    simp only [World.cell?, hg]
    simpa using hk

theorem ownsRow_base {w : World} {base e size n : Nat} {v : Value} {xs : List Value} (h : w.ownsRow base e size v n xs) {m : Nat} : ∀ k, v.ownBlock = some k → k < m → base ≤ k := by
  intro k hk _
  rcases h.2 with ⟨rfl, _⟩ | ⟨g, cap, cur, rfl, hb, _⟩
  · cases hk
  · cases hk
    exact hb

theorem cell_one_at {w : World} {b : Nat} (hb : b = w.heap.size) (x : Value) (t : TypeId) : ∀ j u, [x][j]? = some u → (w.alloc (.cells #[x] t)).cell? ((⟨b, 0, none⟩ : Addr).add j) = some u := by
  subst hb
  intro j u hj
  match j, hj with
  | 0, hj => simp at hj; subst hj; simp [Addr.add]

theorem info3 : (Try.prog.info? 3).map (fun i => (i.zero, i.size, i.bytes)) = some (some (.int .i64 0), 1, 8) := by kernel_rfl

set_option maxRecDepth 100000 in
set_option maxHeartbeats 800000 in
theorem features_calls (f : Nat) (hf : f < 4294967296) (w : World) :
    Calls Try.prog 18 #[.int .u32 f] w fun e w' => ∃ v, e = .returned v ∧ w'.ownsRow w.heap.size 3 1 v (feats f).length ((feats f).map iv) ∧ Near w w' := by
  obtain ⟨i0, hi0, hz0, hz1, hz2⟩ := info_parts info3
  go_enter Try.func18, Try.ntmps18
  go_wp2_with fail
  go_loopw [0, 3, 4] (fun x v i wr => ∃ k : Nat, k ≤ 24 ∧ i = .int .i64 k ∧ x = .int .u32 ((f / 2 ^ k : Nat) : Int) ∧ wr.ownsRow w.heap.size 3 1 v (featsTo f k).length ((featsTo f k).map iv) ∧ Kept (fun b => w.heap.size ≤ b) w wr) (fun _ _ i _ => 24 - (intOf i).toNat)
  case atStart => exact ⟨0, Nat.zero_le _, rfl, by simp, World.ownsRow_nil _ _ _ _, Kept.refl _ _⟩
  case round =>
    obtain ⟨k, hk, rfl, rfl, hown, hkp⟩ := hrel
    have hsz := hkp.size
    by_cases hlt : k < 24
    · have hlt' : (k : Int) < 24 := by omega
      have hl := featsTo_len f k
      have hs := featsTo_succ f k
      have hd : f / 2 ^ k / 2 = f / 2 ^ (k + 1) := by rw [Nat.div_div_eq_div_mul, Nat.pow_succ]
      have hfk : f / 2 ^ k < 4294967296 := Nat.lt_of_le_of_lt (Nat.div_le_self _ _) hf
      obtain ⟨y, hy⟩ : ∃ y, y = f / 2 ^ k := ⟨_, rfl⟩
      rw [Nat.testBit_eq_decide_div_mod_eq] at hs
      rw [← hy] at hd hfk hs ⊢
      obtain ⟨fl, hfl⟩ : ∃ z, z = featsTo f k := ⟨_, rfl⟩
      rw [← hfl] at hl hs hown
      have HY := Lib.hid hy
      have HD := Lib.hid hd
      have HS := Lib.hid hs
      clear hy hd hs hfl
      obtain ⟨ao, cap, rfl⟩ := owns_form hown
      have HO := Lib.hid hown
      clear hown
      by_cases h1 : y % 2 = 1
      · have h1' : ((y : Int) % 2 == 1) = true := by
          have : (y : Int) % 2 = 1 := by omega
          rw [this]; rfl
        go_wp2_with (first | (at_builtin; refine wpList_append_in rfl (.tmp 12) (.tmp 14) 28 rfl w.heap.size 3 i0 (.int .i64 0) 1 8 Try.underlying28 hi0 hz0 hz1 hz2 rfl (by decide) _ _ _ rfl (by exact HO.out.alloc _) ⟨wr.heap.size, 0, none⟩ 1 1 [.int .i64 k] rfl rfl (by exact cell_one_at rfl _ _) (by simp [Value.oneCell']) (by unfold maxLen; omega) (by omega) (by simp <;> omega) ?_; intro ao' cap' w3 hown3 hg3 hl3))
        have hs' : featsTo f (k + 1) = fl ++ [k] := by rw [HS.out, if_pos (by simpa using h1)]
        refine ⟨⟨k + 1, by omega, by go_num, ?_, ?_, (hkp.alloc _).grown hg3 (ownsRow_base HO.out)⟩, by simp [intOf]; omega⟩
        · rw [← HD.out]
          rfl
        · rw [hs', List.length_append, List.map_append]
          exact hown3
      · have h1' : ((y : Int) % 2 == 1) = false := by
          have : (y : Int) % 2 = 0 := by omega
          rw [this]; rfl
        have hs' : featsTo f (k + 1) = fl := by rw [HS.out, if_neg (by simpa using h1), List.append_nil]
        go_wp2_with fail
        refine ⟨⟨k + 1, by omega, by go_num, ?_, ?_, hkp⟩, by simp [intOf]; omega⟩
        · rw [← HD.out]
          rfl
        · rw [hs']
          exact HO.out
    · have hk24 : k = 24 := by omega
      subst hk24
      obtain ⟨y, hy⟩ : ∃ y, y = f / 2 ^ 24 := ⟨_, rfl⟩
      rw [← hy]
      obtain ⟨ao, cap, rfl⟩ := owns_form hown
      have HO := Lib.hid hown
      clear hown
      go_wp2_with fail
      go_ret
      exact ⟨_, rfl, HO.out, Kept.mono hkp (fun b hb h => by omega)⟩

end Go.Proofs.Ytefclohjeompkaa
