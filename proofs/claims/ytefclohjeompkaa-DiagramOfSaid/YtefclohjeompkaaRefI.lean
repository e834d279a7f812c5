/- The reference: Const, Many, Empty, Same. -/
import Derived.Test.YtefclohjeompkaaRefH
namespace Go.Proofs.Ytefclohjeompkaa
open Go Go.RowKit Go.Proofs.Gen Go.Proofs.Bdd Go.Proofs.Bdd.T

set_option maxRecDepth 100000 in
set_option maxHeartbeats 800000 in
theorem const_calls (b : Bool) (w : World) : Calls Try.prog 80 #[.bool b] w (SPost w [] (fun _ => b)) := by
  go_enter Try.func80, Try.ntmps80
  go_wp2_with fail
  refine bodyPost_ret (v := .agg #[.slice none 0 0, .slice (some ⟨w.heap.size + 1, 0, none⟩) 1 1]) (by simp [results, Try.results80, go_sem]) rfl ⟨_, rfl, ⟨[b], ⟨Nat.zero_le _, rfl, _, _, rfl, World.ownsRow_nil _ _ _ _, ?_⟩, fun c => rfl⟩, (((Near.refl w).alloc _).alloc _).below⟩
  exact ⟨rfl, .inr ⟨w.heap.size + 1, 1, #[.bool b], rfl, Nat.zero_le _, heap_new_at (by simp), Nat.le_refl _, by unfold maxLen; omega, rfl, rfl⟩⟩

/-- How many cells of a table are true. -/
def trues (T : List Bool) : Nat := T.countP id

set_option maxRecDepth 100000 in
set_option maxHeartbeats 800000 in
theorem many_calls {w : World} {v : Value} {V : List Nat} {T : List Bool} (h : IsR w v V T) : Calls Try.prog 104 #[v] w fun e w' => e = .returned (.int .i64 (trues T)) ∧ Near w w' := by
  obtain ⟨hV, hT, sv, st, rfl, r1, r2⟩ := h
  obtain ⟨ao, cap, rfl⟩ := owns_form r1
  obtain ⟨bo, cbp, rfl⟩ := owns_form r2
  have HT := Lib.hid r2
  have hl := hV.len
  have hp : (2 : Nat) ^ V.length ≤ 2 ^ 24 := Nat.pow_le_pow_right (by omega) (by omega)
  have e24 : (2 : Nat) ^ 24 = 16777216 := by decide
  rw [e24] at hp
  have hTb : T.length ≤ 16777216 := by omega
  clear hT e24 hp r1 r2
  obtain ⟨n, hn⟩ : ∃ n, n = V.length := ⟨_, rfl⟩
  rw [← hn]
  clear hn
  have a1 : (w.alloc (.cells #[.slice ao n cap, .slice bo T.length cbp] 37)).cell? ⟨w.heap.size, 1, none⟩ = some (.slice bo T.length cbp) := by simp
  have hN : Near w (w.alloc (.cells #[.slice ao n cap, .slice bo T.length cbp] 37)) := (Near.refl w).alloc _
  go_enter Try.func104, Try.ntmps104
  go_wp2_with fail
  generalize (w.alloc (.cells #[.slice ao n cap, .slice bo T.length cbp] 37)) = W at a1 hN ⊢
  have A1 := Lib.hid a1
  clear a1
  go_loopw [3, 4] (fun m i wr => ∃ k : Nat, k ≤ T.length ∧ i = .int .i64 k ∧ m = .int .i64 (trues (T.take k)) ∧ Near W wr) (fun _ i _ => T.length - (intOf i).toNat)
  case atStart => exact ⟨0, Nat.zero_le _, rfl, rfl, Near.refl _⟩
  case round =>
    obtain ⟨k, hk, rfl, rfl, hw⟩ := hrel
    have b1 := hw.cell A1.out
    have hx : trues (T.take k) ≤ k := Nat.le_trans List.countP_le_length (by simp; omega)
    by_cases hlt : k < T.length
    · have hlt' : (k : Int) < T.length := by omega
      obtain ⟨g, cap', hv, x0, hg⟩ := row1 HT.out (k := k) (u := .bool T[k]) (by simp [hlt]) hlt
      simp only [Value.slice.injEq, true_and] at hv
      obtain ⟨rfl, rfl⟩ := hv
      have y0 := hw.cell (hN.cell x0)
      have hs : trues (T.take (k + 1)) = trues (T.take k) + if T[k] = true then 1 else 0 := by
        rw [List.take_succ_eq_append_getElem hlt, trues, trues, List.countP_append]
        simp [List.countP_cons]
      obtain ⟨z, hz⟩ : ∃ z, z = trues (T.take k) := ⟨_, rfl⟩
      obtain ⟨y, hy⟩ : ∃ y, y = T[k] := ⟨_, rfl⟩
      rw [← hz, ← hy] at hs
      rw [← hz] at hx ⊢
      rw [← hy] at y0
      have HS := Lib.hid hs
      clear x0 hs hz hy
      cases y
      all_goals
        go_wp2_with fail
        exact ⟨⟨k + 1, by omega, by go_num, by rw [HS.out]; simp, hw⟩, by simp [intOf]; omega⟩
    · have hkl : k = T.length := by omega
      subst hkl
      rw [List.take_length]
      go_wp2_with fail
      exact bodyPost_ret (v := .int .i64 (trues T)) (by simp [results, Try.results104, go_sem]) rfl ⟨rfl, hN.trans hw⟩

theorem trues_zero {V : List Nat} {T : List Bool} (hV : Rising 0 V) (hT : T.length = 2 ^ V.length) : trues T = 0 ↔ ∀ c, rf V T c = false := by
  rw [trues, List.countP_eq_zero]
  constructor
  · intro h c
    have hx := idx_lt c V
    rw [rf, List.getD_eq_getElem?_getD, List.getElem?_eq_getElem (by omega)]
    simpa using h _ (List.getElem_mem (by omega))
  · intro h b hb
    obtain ⟨k, hk, rfl⟩ := List.getElem_of_mem hb
    have := h (cfg V k).testBit
    rw [rf, idx_cfg hV (by omega), List.getD_eq_getElem?_getD, List.getElem?_eq_getElem hk] at this
    simpa using this

open Classical in
/-- Does a function hold nowhere? -/
noncomputable def nowhere (f : (Nat → Bool) → Bool) : Bool := decide (∀ c, f c = false)

set_option maxRecDepth 100000 in
set_option maxHeartbeats 800000 in
theorem rempty_calls {w : World} {v : Value} {V : List Nat} {f : (Nat → Bool) → Bool} (h : IsS w v V f) : Calls Try.prog 57 #[v] w fun e w' => e = .returned (.bool (nowhere f)) ∧ Near w w' := by
  obtain ⟨ao, n, cap, bo, m, cbp, rfl⟩ := h.form
  obtain ⟨T, hT, hf⟩ := h
  have ht := trues_zero hT.rise hT.len
  have hq : (((trues T : Nat) : Int) == 0) = nowhere f := by
    rw [nowhere, Bool.eq_iff_iff]
    simp only [beq_iff_eq, decide_eq_true_eq, ← hf, ← ht]
    omega
  have HQ := Lib.hid hq
  have HT := Lib.hid hT
  have hN : Near w (w.alloc (.cells #[.slice ao n cap, .slice bo m cbp] 37)) := (Near.refl w).alloc _
  clear hq ht hf hT
  go_enter Try.func57, Try.ntmps57
  go_wp2_with (first
    | (go_at_call 104; refine (many_calls (HT.out.near hN)).mono ?_; rintro e w1 ⟨rfl, n1⟩))
  rw [HQ.out]
  exact bodyPost_ret (v := .bool (nowhere f)) (by simp [results, Try.results57, go_sem]) rfl ⟨rfl, hN.trans n1⟩

open Classical in
/-- Are two functions the same? -/
noncomputable def sameF (f g : (Nat → Bool) → Bool) : Bool := decide (∀ c, f c = g c)

set_option maxRecDepth 100000 in
set_option maxHeartbeats 800000 in
theorem rsame_calls {w : World} {va vb : Value} {V V' : List Nat} {f f' : (Nat → Bool) → Bool} (ha : IsS w va V f) (hb : IsS w vb V' f') : Calls Try.prog 59 #[va, vb] w fun e w' => e = .returned (.bool (sameF f f')) ∧ Near w w' := by
  obtain ⟨ao, n, cap, bo, m, cbp, rfl⟩ := ha.form
  obtain ⟨ao', n', cap', bo', m', cbp', rfl⟩ := hb.form
  have hq : nowhere (fun c => jop 2 (f c) (f' c)) = sameF f f' := by
    rw [nowhere, sameF, decide_eq_decide]
    refine ⟨fun h c => ?_, fun h c => ?_⟩
    · have := h c
      simpa [jop] using this
    · rw [h c]; simp [jop]
  have HQ := Lib.hid hq
  have HA := Lib.hid ha
  have HB := Lib.hid hb
  have hN : Near w ((w.alloc (.cells #[.slice ao n cap, .slice bo m cbp] 37)).alloc (.cells #[.slice ao' n' cap', .slice bo' m' cbp'] 37)) := ((Near.refl w).alloc _).alloc _
  clear hq ha hb
  go_enter Try.func59, Try.ntmps59
  go_wp2_with (first
    | (go_at_call 105; refine (rxor_calls (HA.out.near hN) (HB.out.near hN)).mono ?_; rintro e w1 ⟨v, rfl, h1, b1⟩)
    | (go_at_call 57; refine (rempty_calls h1).mono ?_; rintro e w2 ⟨rfl, n2⟩))
  rw [HQ.out]
  exact bodyPost_ret (v := .bool (sameF f f')) (by simp [results, Try.results59, go_sem]) rfl ⟨rfl, (hN.trans (Near.of_below b1)).trans n2⟩

end Go.Proofs.Ytefclohjeompkaa
