/- The reference: what a set value stands for; Has, Blank, Join, Const. -/
import Derived.Test.YtefclohjeompkaaRefB
namespace Go.Proofs.Ytefclohjeompkaa
open Go Go.RowKit Go.Proofs.Gen Go.Proofs.Bdd Go.Proofs.Bdd.T

/-- The index of a configuration. -/
def idx : List Nat → (Nat → Bool) → Nat
  | [], _ => 0
  | i :: V, c => (c i).toNat + 2 * idx V c
theorem idx_snoc (i : Nat) (c : Nat → Bool) : ∀ V : List Nat, idx (V ++ [i]) c = idx V c + (c i).toNat * 2 ^ V.length
  | [] => by simp [idx]
  | j :: V => by
    simp only [List.cons_append, idx, List.length_cons]
    rw [idx_snoc i c V, Nat.pow_succ, Nat.mul_add, ← Nat.mul_assoc, Nat.mul_comm 2 ((c i).toNat), Nat.mul_assoc, Nat.mul_comm 2 (2 ^ V.length), Nat.add_assoc]
theorem idx_lt (c : Nat → Bool) : ∀ V : List Nat, idx V c < 2 ^ V.length
  | [] => by simp [idx]
  | j :: V => by
    have h := idx_lt c V
    simp only [idx, List.length_cons]
    rw [Nat.pow_succ]
    cases c j <;> simp <;> omega
theorem Rising.len : ∀ {V : List Nat} {m : Nat}, Rising m V → V.length + m ≤ 24
  | [], m, h => by
    have := h.le
    simpa using this
  | i :: V, m, h => by
    have h1 := h.2.len
    have h2 := h.1
    simp only [List.length_cons]
    omega

/-- A set of the reference: features and table. -/
structure IsR (w : World) (v : Value) (V : List Nat) (T : List Bool) : Prop where
  rise : Rising 0 V
  len : T.length = 2 ^ V.length
  rows : ∃ sv st, v = .agg #[sv, st] ∧ w.ownsRow 0 3 1 sv V.length (V.map iv) ∧ w.ownsRow 0 4 1 st T.length (T.map Value.bool)

theorem IsR.near {w w' : World} {v : Value} {V : List Nat} {T : List Bool} (h : IsR w v V T) (hn : Near w w') : IsR w' v V T := by
  obtain ⟨h1, h2, sv, st, rfl, r1, r2⟩ := h
  exact ⟨h1, h2, sv, st, rfl, owns_kept r1 hn.kept (fun _ _ x => x), owns_kept r2 hn.kept (fun _ _ x => x)⟩

/-- What a set says of a configuration. -/
def rf (V : List Nat) (T : List Bool) (c : Nat → Bool) : Bool := T.getD (idx V c) false

set_option maxRecDepth 100000 in
set_option maxHeartbeats 800000 in
theorem rhas_calls {w : World} {v : Value} {V : List Nat} {T : List Bool} (h : IsR w v V T) (c : Nat) (hc : c < 4294967296) :
    Calls Try.prog 90 #[v, .int .u32 c] w fun e w' => e = .returned (.bool (rf V T c.testBit)) ∧ Near w w' := by
  obtain ⟨hV, hT, sv, st, rfl, r1, r2⟩ := h
  obtain ⟨ao, cap, rfl⟩ := owns_form r1
  obtain ⟨bo, cbp, rfl⟩ := owns_form r2
  have HR := Lib.hid r1
  have HT := Lib.hid r2
  have hl := hV.len
  have hp : (2 : Nat) ^ V.length ≤ 2 ^ 24 := Nat.pow_le_pow_right (by omega) (by omega)
  have e24 : (2 : Nat) ^ 24 = 16777216 := by decide
  rw [e24] at hp
  have hTb : T.length ≤ 16777216 := by omega
  have HL := Lib.hid hT
  clear hT e24
  have a0 : (w.alloc (.cells #[.slice ao V.length cap, .slice bo T.length cbp] 37)).cell? ⟨w.heap.size, 0, none⟩ = some (.slice ao V.length cap) := by simp
  have a1 : (w.alloc (.cells #[.slice ao V.length cap, .slice bo T.length cbp] 37)).cell? ⟨w.heap.size, 1, none⟩ = some (.slice bo T.length cbp) := by simp
  have hN : Near w (w.alloc (.cells #[.slice ao V.length cap, .slice bo T.length cbp] 37)) := (Near.refl w).alloc _
  clear r1 r2
  go_enter Try.func90, Try.ntmps90
  go_wp2_with fail
  generalize (w.alloc (.cells #[.slice ao V.length cap, .slice bo T.length cbp] 37)) = W at a0 a1 hN ⊢
  have A0 := Lib.hid a0
  have A1 := Lib.hid a1
  clear a0 a1
  go_loopw [5, 6, 7] (fun m x i wr => ∃ k : Nat, k ≤ V.length ∧ i = .int .i64 k ∧ m = .int .i64 (idx (V.take k) c.testBit) ∧ x = .int .i64 ((2 ^ k : Nat) : Int) ∧ Near W wr) (fun _ _ i _ => V.length - (intOf i).toNat)
  case atStart => exact ⟨0, Nat.zero_le _, rfl, rfl, rfl, Near.refl _⟩
  case round =>
    obtain ⟨k, hk, rfl, rfl, rfl, hn⟩ := hrel
    have b0 := hn.cell A0.out
    have b1 := hn.cell A1.out
    have hx := idx_lt c.testBit (V.take k)
    rw [List.length_take, Nat.min_eq_left hk] at hx
    have hpk : (2 : Nat) ^ k ≤ 2 ^ V.length := Nat.pow_le_pow_right (by omega) hk
    by_cases hlt : k < V.length
    · have hlt' : (k : Int) < V.length := by omega
      obtain ⟨g, cap', hv, x0, hg⟩ := row1 HR.out (k := k) (u := iv V[k]) (by simp [hlt]) hlt
      simp only [Value.slice.injEq, true_and] at hv
      obtain ⟨rfl, rfl⟩ := hv
      have y0 := hn.cell (hN.cell x0)
      have hs := idx_snoc V[k] c.testBit (V.take k)
      rw [← List.take_succ_eq_append_getElem hlt, List.length_take, Nat.min_eq_left hk] at hs
      have hi := (hV.all _ (List.getElem_mem hlt)).2
      have hps : (2 : Nat) ^ (k + 1) = 2 ^ k * 2 := Nat.pow_succ 2 k
      obtain ⟨i, hii⟩ : ∃ i, i = V[k] := ⟨_, rfl⟩
      obtain ⟨y, hy⟩ : ∃ y, y = 2 ^ k := ⟨_, rfl⟩
      obtain ⟨z, hz⟩ : ∃ z, z = idx (V.take k) c.testBit := ⟨_, rfl⟩
      rw [← hz, ← hii, ← hy] at hs
      rw [← hz, ← hy] at hx
      rw [← hy] at hps hpk
      rw [← hz, ← hy]
      rw [← hii] at y0 hi
      simp only [iv] at y0
      have HS := Lib.hid hs
      have HP := Lib.hid hps
      clear x0 hs hii hz hy hps
      by_cases h1 : c.testBit i = true
      · go_wp2_with (first | (go_at_call 102; refine (selected_calls c i hc hi _).mono ?_; rintro e w1 ⟨rfl, rfl⟩))
        exact ⟨⟨k + 1, by omega, by go_num, by rw [HS.out, h1, Bool.toNat_true, Nat.one_mul]; rfl, by rw [HP.out, Nat.mul_comm]; rfl, hn⟩, by simp [intOf]; omega⟩
      · have h1' : c.testBit i = false := by simpa using h1
        go_wp2_with (first | (go_at_call 102; refine (selected_calls c i hc hi _).mono ?_; rintro e w1 ⟨rfl, rfl⟩))
        exact ⟨⟨k + 1, by omega, by go_num, by rw [HS.out, h1', Bool.toNat_false, Nat.zero_mul, Nat.add_zero], by rw [HP.out, Nat.mul_comm]; rfl, hn⟩, by simp [intOf]; omega⟩
    · have hkl : k = V.length := by omega
      subst hkl
      rw [List.take_length] at hx ⊢
      have hxl : idx V c.testBit < T.length := by rw [HL.out]; exact hx
      obtain ⟨g, cap', hv, x0, hg⟩ := row1 HT.out (k := idx V c.testBit) (u := .bool (rf V T c.testBit)) (by rw [List.getElem?_map, List.getElem?_eq_getElem hxl]; simp [rf, List.getD, List.getElem?_eq_getElem hxl]) hxl
      simp only [Value.slice.injEq, true_and] at hv
      obtain ⟨rfl, rfl⟩ := hv
      have y0 := hn.cell (hN.cell x0)
      have hxT : ((idx V c.testBit : Nat) : Int) < T.length := by omega
      go_wp2_with fail
      exact bodyPost_ret (v := .bool (rf V T c.testBit)) (by simp [results, Try.results90, go_sem]) rfl ⟨rfl, hN.trans hn⟩

end Go.Proofs.Ytefclohjeompkaa
