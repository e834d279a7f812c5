/- The reference: Number, selected, Config. -/
import Derived.Test.YtefclohjeompkaaRef
namespace Go.Proofs.Ytefclohjeompkaa
open Go Go.RowKit Go.Proofs.Gen Go.Proofs.Bdd Go.Proofs.Bdd.T

/-- The number of a list of features. -/
def numb (V : List Nat) : Nat := V.foldl (fun a i => a ||| 2 ^ i) 0
theorem numb_snoc (V : List Nat) (i : Nat) : numb (V ++ [i]) = numb V ||| 2 ^ i := by simp [numb, List.foldl_append]
theorem numb_bit_aux (i : Nat) : ∀ (V : List Nat) (a : Nat), (V.foldl (fun a i => a ||| 2 ^ i) a).testBit i = (a.testBit i || V.contains i)
  | [], a => by simp
  | j :: V, a => by
    rw [List.foldl_cons, numb_bit_aux i V, Nat.testBit_or, Nat.testBit_two_pow, List.contains_cons, Bool.or_assoc]
    congr 1
    congr 1
    by_cases h : j = i
    · subst h; simp
    · simp [h, Ne.symm h]
theorem numb_bit (V : List Nat) (i : Nat) : (numb V).testBit i = V.contains i := by
  unfold numb
  rw [numb_bit_aux]
  simp
theorem numb_lt {V : List Nat} (h : ∀ i ∈ V, i < 24) : numb V < 16777216 := by
  have e : (16777216 : Nat) = 2 ^ 24 := by decide
  rw [e]
  refine Nat.lt_pow_two_of_testBit _ fun i hi => ?_
  rw [numb_bit]
  have : i ∉ V := fun hm => by have := h i hm; omega
  simpa using this

/-- The configuration of an index. -/
def cfg : List Nat → Nat → Nat
  | [], _ => 0
  | i :: V, k => k % 2 * 2 ^ i + cfg V (k / 2)
theorem cfg_snoc (i : Nat) : ∀ (V : List Nat) (k : Nat), cfg (V ++ [i]) k = cfg V k + k / 2 ^ V.length % 2 * 2 ^ i
  | [], k => by simp [cfg]
  | j :: V, k => by
    simp only [List.cons_append, cfg, List.length_cons]
    rw [cfg_snoc i V, Nat.div_div_eq_div_mul, Nat.pow_succ, Nat.mul_comm (2 ^ V.length) 2, Nat.add_assoc]

/-- Rising, from m, below 24. -/
def Rising : Nat → List Nat → Prop
  | m, [] => m ≤ 24
  | m, i :: V => m ≤ i ∧ Rising (i + 1) V
theorem Rising.le : ∀ {V : List Nat} {m : Nat}, Rising m V → m ≤ 24
  | [], _, h => h
  | i :: V, m, h => by have := Rising.le h.2; have := h.1; omega
theorem Rising.all : ∀ {V : List Nat} {m : Nat}, Rising m V → ∀ i ∈ V, m ≤ i ∧ i < 24
  | [], _, _, i, hi => by cases hi
  | j :: V, m, h, i, hi => by
    have h1 := h.1
    have h2 := h.2.le
    rcases List.mem_cons.1 hi with rfl | hm
    · omega
    · have := h.2.all i hm
      omega
theorem cfg_le : ∀ {V : List Nat} {m : Nat}, Rising m V → ∀ k, cfg V k + 2 ^ m ≤ 2 ^ 24
  | [], m, h, k => by
    simp only [cfg, Nat.zero_add]
    exact Nat.pow_le_pow_right (by omega) h
  | i :: V, m, h, k => by
    have h1 := cfg_le h.2 (k / 2)
    have h2 : 2 ^ m ≤ 2 ^ i := Nat.pow_le_pow_right (by omega) h.1
    have h3 : k % 2 * 2 ^ i ≤ 1 * 2 ^ i := Nat.mul_le_mul_right _ (by omega)
    rw [Nat.pow_succ] at h1
    simp only [cfg]
    omega
theorem cfg_lt {V : List Nat} {m : Nat} (h : Rising m V) (k : Nat) : cfg V k < 16777216 := by
  have h1 := cfg_le h k
  have h2 := Nat.two_pow_pos m
  have e : (16777216 : Nat) = 2 ^ 24 := by decide
  omega
theorem Rising.take : ∀ {V : List Nat} {m : Nat}, Rising m V → ∀ j, Rising m (V.take j)
  | [], m, h, j => by simpa using h
  | i :: V, m, h, 0 => by
    have h1 := h.1
    have h2 := h.2.le
    show m ≤ 24
    omega
  | i :: V, m, h, j + 1 => ⟨h.1, h.2.take j⟩

theorem add_bit (z i : Nat) (hz : z < 16777216) (hi : i < 24) : ((z : Int) + 2 ^ i % 4294967296) % 4294967296 = ((z + 2 ^ i : Nat) : Int) := by
  have hp : (2 : Nat) ^ i < 2 ^ 24 := Nat.pow_lt_pow_right (by omega) hi
  have e : (2 : Nat) ^ 24 = 16777216 := by decide
  rw [show ((2 : Int) ^ i) = ((2 ^ i : Nat) : Int) from by simp]
  rw [e] at hp
  generalize (2 : Nat) ^ i = p at *
  omega

theorem sel_bit (c i : Nat) : (((c : Int) / 2 ^ i).tmod 2 == 1) = c.testBit i := by
  rw [show ((2 : Int) ^ i) = ((2 ^ i : Nat) : Int) from by simp, ← Int.natCast_ediv, show (2 : Int) = ((2 : Nat) : Int) from rfl, ← Int.ofNat_tmod, Nat.testBit_eq_decide_div_mod_eq]
  by_cases h : c / 2 ^ i % 2 = 1
  · rw [h]; rfl
  · have h0 : c / 2 ^ i % 2 = 0 := by omega
    rw [h0]; rfl

set_option maxRecDepth 100000 in
set_option maxHeartbeats 800000 in
theorem selected_calls (c i : Nat) (_hc : c < 4294967296) (hi : i < 24) (w : World) :
    Calls Try.prog 102 #[.int .u32 c, .int .i64 i] w fun e w' => e = .returned (.bool (c.testBit i)) ∧ w' = w := by
  go_enter Try.func102, Try.ntmps102
  go_wp2_with fail
  rw [sel_bit]
  exact bodyPost_ret (v := .bool (c.testBit i)) (by simp [results, Try.results102, go_sem]) rfl ⟨rfl, rfl⟩

set_option maxRecDepth 100000 in
set_option maxHeartbeats 800000 in
theorem number_calls {V : List Nat} (hV : ∀ i ∈ V, i < 24) (hl : V.length ≤ 1000) {v : Value} {w : World} (hr : w.ownsRow 0 3 1 v V.length (V.map iv)) :
    Calls Try.prog 107 #[v] w fun e w' => e = .returned (.int .u32 (numb V)) ∧ Near w w' := by
  obtain ⟨ao, cap, rfl⟩ := owns_form hr
  have HR := Lib.hid hr
  clear hr
  go_enter Try.func107, Try.ntmps107
  go_wp2_with fail
  go_loopw [3, 4] (fun x i wr => ∃ k : Nat, k ≤ V.length ∧ i = .int .i64 k ∧ x = .int .u32 (numb (V.take k)) ∧ Near w wr) (fun _ i _ => V.length - (intOf i).toNat)
  case atStart => exact ⟨0, Nat.zero_le _, rfl, rfl, Near.refl _⟩
  case round =>
    obtain ⟨k, hk, rfl, rfl, hn⟩ := hrel
    by_cases hlt : k < V.length
    · have hlt' : (k : Int) < V.length := by omega
      obtain ⟨g, cap', hv, x0, hg⟩ := row1 HR.out (k := k) (u := iv V[k]) (by simp [hlt]) hlt
      simp only [Value.slice.injEq, true_and] at hv
      obtain ⟨rfl, rfl⟩ := hv
      have y0 := hn.cell x0
      have hs : numb (V.take (k + 1)) = numb (V.take k) ||| 2 ^ V[k] := by rw [List.take_succ_eq_append_getElem hlt, numb_snoc]
      have hi := hV _ (List.getElem_mem hlt)
      have hb := numb_lt (V := V.take k) (fun i hm => hV i (List.mem_of_mem_take hm))
      obtain ⟨i, hii⟩ : ∃ i, i = V[k] := ⟨_, rfl⟩
      rw [← hii] at y0 hs hi
      simp only [iv] at y0
      have hi64 : ((i : Nat) : Int) < 64 := by omega
      have HS := Lib.hid hs
      clear x0 hs hii
      go_wp2_with fail
      exact ⟨⟨k + 1, by omega, by go_num, by rw [HS.out, u32_or_bit _ _ (by omega) (by omega)], hn⟩, by simp [intOf]; omega⟩
    · have hkl : k = V.length := by omega
      subst hkl
      go_wp2_with fail
      go_ret
      exact ⟨congrArg (fun z : List Nat => Ending.returned (Value.int .u32 ((numb z : Nat) : Int))) (List.take_length (l := V)), hn⟩

set_option maxRecDepth 100000 in
set_option maxHeartbeats 800000 in
theorem config_calls {V : List Nat} (hV : Rising 0 V) (hl : V.length ≤ 1000) {v : Value} {w : World} (hr : w.ownsRow 0 3 1 v V.length (V.map iv)) (n : Nat) (hn63 : n < 9223372036854775808) :
    Calls Try.prog 83 #[v, .int .i64 n] w fun e w' => e = .returned (.int .u32 (cfg V n)) ∧ Near w w' := by
  obtain ⟨ao, cap, rfl⟩ := owns_form hr
  have HR := Lib.hid hr
  clear hr
  go_enter Try.func83, Try.ntmps83
  go_wp2_with fail
  go_loopw [1, 5, 6] (fun m x i wr => ∃ k : Nat, k ≤ V.length ∧ i = .int .i64 k ∧ m = .int .i64 ((n / 2 ^ k : Nat) : Int) ∧ x = .int .u32 (cfg (V.take k) n) ∧ Near w wr) (fun _ _ i _ => V.length - (intOf i).toNat)
  case atStart => exact ⟨0, Nat.zero_le _, rfl, by simp, rfl, Near.refl _⟩
  case round =>
    obtain ⟨k, hk, rfl, rfl, rfl, hn⟩ := hrel
    by_cases hlt : k < V.length
    · have hlt' : (k : Int) < V.length := by omega
      obtain ⟨g, cap', hv, x0, hg⟩ := row1 HR.out (k := k) (u := iv V[k]) (by simp [hlt]) hlt
      simp only [Value.slice.injEq, true_and] at hv
      obtain ⟨rfl, rfl⟩ := hv
      have y0 := hn.cell x0
      have hs := cfg_snoc V[k] (V.take k) n
      rw [← List.take_succ_eq_append_getElem hlt, List.length_take, Nat.min_eq_left hk] at hs
      have hi := (hV.all _ (List.getElem_mem hlt)).2
      have hb := cfg_lt (hV.take k) n
      have hb1 := cfg_lt (hV.take (k + 1)) n
      have hd : n / 2 ^ k / 2 = n / 2 ^ (k + 1) := by rw [Nat.div_div_eq_div_mul, Nat.pow_succ]
      have hnk : n / 2 ^ k ≤ n := Nat.div_le_self _ _
      obtain ⟨i, hii⟩ : ∃ i, i = V[k] := ⟨_, rfl⟩
      obtain ⟨y, hy⟩ : ∃ y, y = n / 2 ^ k := ⟨_, rfl⟩
      obtain ⟨z, hz⟩ : ∃ z, z = cfg (V.take k) n := ⟨_, rfl⟩
      obtain ⟨z1, hz1⟩ : ∃ z, z = cfg (V.take (k + 1)) n := ⟨_, rfl⟩
      rw [← hy, ← hz, ← hz1, ← hii] at hs
      rw [← hz] at hb ⊢
      rw [← hz1] at hb1
      rw [← hy] at hd hnk ⊢
      rw [← hii] at y0 hi
      simp only [iv] at y0
      have hi64 : ((i : Nat) : Int) < 64 := by omega
      have HS := Lib.hid hs
      have HZ := Lib.hid hz1
      have HD := Lib.hid hd
      clear x0 hs hii hz hz1 hy hd
      by_cases h1 : y % 2 = 1
      · have h1' : ((y : Int) % 2 == 1) = true := by
          have : (y : Int) % 2 = 1 := by omega
          rw [this]; rfl
        go_wp2_with fail
        exact ⟨⟨k + 1, by omega, by go_num, by rw [← HD.out]; rfl, by rw [add_bit z i hb hi, ← HZ.out, HS.out, h1, Nat.one_mul], hn⟩, by simp [intOf]; omega⟩
      · have h1' : ((y : Int) % 2 == 1) = false := by
          have : (y : Int) % 2 = 0 := by omega
          rw [this]; rfl
        have h0 : y % 2 = 0 := by omega
        go_wp2_with fail
        exact ⟨⟨k + 1, by omega, by go_num, by rw [← HD.out]; rfl, by rw [← HZ.out, HS.out, h0, Nat.zero_mul, Nat.add_zero], hn⟩, by simp [intOf]; omega⟩
    · have hkl : k = V.length := by omega
      subst hkl
      go_wp2_with fail
      go_ret
      exact ⟨congrArg (fun z : List Nat => Ending.returned (Value.int .u32 ((cfg z n : Nat) : Int))) (List.take_length (l := V)), hn⟩

end Go.Proofs.Ytefclohjeompkaa
