/- Parts of a proof: CntA, CntB, LawCounts. -/
import Derived.Test.YtefclohjeompkaaKSaidA
import Derived.Test.YtefclohjeompkaaKOfB
import Derived.Test.YtefclohjeompkaaKLawBuilds
import Derived.Test.YtefclohjeompkaaKOpenA
/- Counting over the features on which a function depends: the plain law. -/
namespace Go.Proofs.Ytefclohjeompkaa
open Go Go.RowKit Go.Proofs.Gen Go.Proofs.Bdd Go.Proofs.Bdd.T

/-- How many of the numbers below N a condition takes. -/
def sumN : Nat → (Nat → Bool) → Nat
  | 0, _ => 0
  | n + 1, g => sumN n g + (g n).toNat

theorem sumN_le (g : Nat → Bool) : ∀ n, sumN n g ≤ n
  | 0 => Nat.le_refl _
  | n + 1 => by
    have := sumN_le g n
    simp only [sumN]
    cases g n <;> simp <;> omega

theorem sumN_congr {g h : Nat → Bool} : ∀ {n : Nat}, (∀ j, j < n → g j = h j) → sumN n g = sumN n h
  | 0, _ => rfl
  | n + 1, e => by
    simp only [sumN]
    rw [sumN_congr (n := n) (fun j hj => e j (by omega)), e n (by omega)]

theorem sumN_two (g : Nat → Bool) : ∀ n, sumN (n * 2) g = sumN n (fun m => g (m * 2)) + sumN n (fun m => g (m * 2 + 1))
  | 0 => rfl
  | n + 1 => by
    rw [show (n + 1) * 2 = n * 2 + 1 + 1 from by omega]
    simp only [sumN]
    rw [sumN_two g n]
    omega

/-- A configuration in which the features of a list are as a number's bits say. -/
def over (c : Nat → Bool) : List Nat → Nat → Nat → Bool
  | [], _ => c
  | i :: V, k => over (upd c i (k % 2 == 1)) V (k / 2)

theorem over_upd {f : F} {i : Nat} (hi : dep f i = false) (b : Bool) : ∀ (V : List Nat) (c : Nat → Bool) (k : Nat), i ∉ V → f (over (upd c i b) V k) = f (over c V k)
  | [], c, k, _ => by
    have h : ¬ dep f i = true := by simp [hi]
    rw [dep_true] at h
    have h2 : f (upd c i true) = f (upd c i false) := Classical.byContradiction fun e => h ⟨c, e⟩
    have h3 : c = upd c i (c i) := by
      funext j
      unfold upd
      by_cases e : j = i
      · simp [e]
      · simp [e]
    show f (upd c i b) = f c
    rw [h3]
    have h4 : ∀ x y, upd (upd c i x) i y = upd c i y := fun x y => by
      funext j
      unfold upd
      by_cases e : j = i <;> simp [e]
    rw [h4]
    cases b <;> cases c i <;> simp [h2]
  | j :: V, c, k, hn => by
    have h1 : i ≠ j := fun e => hn (by rw [e]; exact List.mem_cons_self ..)
    have h2 : i ∉ V := fun e => hn (List.mem_cons_of_mem _ e)
    simp only [over]
    rw [upd_comm h1]
    exact over_upd hi b V _ _ h2

theorem cF_sum {f : F} : ∀ (k lo : Nat) (c : Nat → Bool) (V : List Nat), Rising lo V → (∀ i ∈ V, i < lo + k) → (∀ i, lo ≤ i → i < lo + k → i ∉ V → dep f i = false) →
    cF k lo c f = sumN (2 ^ V.length) (fun j => f (over c V j)) * 2 ^ (k - V.length) ∧ V.length ≤ k
  | 0, lo, c, [], _, _, _ => by simp [cF, sumN, over]
  | 0, lo, c, i :: V, hr, hl, _ => by
    have := hl i (List.mem_cons_self ..)
    have := hr.1
    omega
  | k + 1, lo, c, [], hr, hl, hd => by
    have h24 : (∀ i ∈ ([] : List Nat), i < lo + 1 + k) := fun i hi => by cases hi
    have hd' : ∀ i, lo + 1 ≤ i → i < lo + 1 + k → i ∉ ([] : List Nat) → dep f i = false := fun i h1 h2 h3 => hd i (by omega) (by omega) h3
    have hz := hd lo (Nat.le_refl _) (by omega) (by simp)
    have key : ∀ (k lo : Nat) (c : Nat → Bool), (∀ i, lo ≤ i → i < lo + k → dep f i = false) → cF k lo c f = (f c).toNat * 2 ^ k := by
      intro k
      induction k with
      | zero => intro lo c _; simp [cF]
      | succ k ih =>
        intro lo c h
        have e : ∀ b, f (upd c lo b) = f c := fun b => over_upd (h lo (Nat.le_refl _) (by omega)) b [] c 0 (by simp)
        simp only [cF]
        rw [ih _ _ (fun i h1 h2 => h i (by omega) (by omega)), ih _ _ (fun i h1 h2 => h i (by omega) (by omega)), e, e, Nat.pow_succ, ← Nat.mul_assoc]
        omega
    refine ⟨?_, Nat.zero_le _⟩
    rw [key _ _ _ (fun i h1 h2 => hd i h1 h2 (by simp))]
    simp [sumN, over]
  | k + 1, lo, c, i :: V, hr, hl, hd => by
    by_cases e : i = lo
    · subst e
      have hni : i ∉ V := fun hm => by have := (hr.2.all i hm).1; omega
      have h1 : ∀ j ∈ V, j < i + 1 + k := fun j hj => by have := hl j (List.mem_cons_of_mem _ hj); omega
      have h2 : ∀ j, i + 1 ≤ j → j < i + 1 + k → j ∉ V → dep f j = false := fun j a b hj => hd j (by omega) (by omega) (by
        intro hm
        rcases List.mem_cons.1 hm with e | hm
        · omega
        · exact hj hm)
      have a0 := cF_sum k (i + 1) (upd c i false) V hr.2 h1 h2
      have a1 := cF_sum k (i + 1) (upd c i true) V hr.2 h1 h2
      simp only [cF]
      rw [a0.1, a1.1, List.length_cons, Nat.pow_succ, sumN_two]
      have e0 : ∀ m : Nat, m * 2 % 2 = 0 := fun m => by omega
      have e1 : ∀ m : Nat, (m * 2 + 1) % 2 = 1 := fun m => by omega
      have e2 : ∀ m : Nat, m * 2 / 2 = m := fun m => by omega
      have e3 : ∀ m : Nat, (m * 2 + 1) / 2 = m := fun m => by omega
      simp only [over, e0, e1, e2, e3]
      refine ⟨?_, by omega⟩
      rw [show k + 1 - (V.length + 1) = k - V.length from by omega, Nat.add_mul]
      rfl
    · have hlo : lo < i := by have := hr.1; omega
      have hnl : lo ∉ i :: V := fun hm => by
        have h' : Rising (lo + 1) (i :: V) := ⟨hlo, hr.2⟩
        have := (h'.all lo hm).1
        omega
      have h' : Rising (lo + 1) (i :: V) := ⟨hlo, hr.2⟩
      have hz := hd lo (Nat.le_refl _) (by omega) hnl
      have a := fun b => cF_sum k (lo + 1) (upd c lo b) (i :: V) h' (fun j hj => by have := hl j hj; omega) (fun j x y hj => hd j (by omega) (by omega) hj)
      simp only [cF]
      rw [(a false).1, (a true).1]
      simp only [over_upd hz _ (i :: V) c _ hnl]
      refine ⟨?_, by have := (a true).2; omega⟩
      rw [show k + 1 - (i :: V).length = k - (i :: V).length + 1 from by have := (a true).2; omega, Nat.pow_succ]
      rw [Nat.mul_comm _ (2 ^ (k - (i :: V).length) * 2)]
      rw [Nat.mul_comm (sumN _ _)]
      rw [Nat.mul_assoc, Nat.two_mul, Nat.mul_add]

/-- The bits of a configuration, and a number's bits. -/
theorem over_bitOf : ∀ {V : List Nat} {m : Nat}, Rising m V → ∀ (c : Nat → Bool) (k j : Nat), over c V k j = if j ∈ V then bitOf V k j else c j
  | [], _, _, c, k, j => by simp [over]
  | i :: V, m, h, c, k, j => by
    simp only [over, bitOf]
    rw [over_bitOf h.2]
    by_cases hj : j ∈ V
    · have : j ≠ i := fun e => by have := (h.2.all j hj).1; omega
      simp [hj, this]
    · by_cases e : j = i
      · subst e
        simp [hj, upd_same, bitOf_not hj]
      · simp [hj, e, upd_other _ _ e]

/-- COUNTED OVER WHAT IT DEPENDS ON. -/
theorem cF_cfg {f : F} {n : Nat} {V : List Nat} (hr : Rising 0 V) (hl : ∀ i ∈ V, i < n) (hd : ∀ i, i < n → i ∉ V → dep f i = false) :
    cF n 0 (fun _ => false) f = sumN (2 ^ V.length) (fun j => f (cfg V j).testBit) * 2 ^ (n - V.length) ∧ V.length ≤ n := by
  have h := cF_sum (f := f) n 0 (fun _ => false) V hr (fun i hi => by have := hl i hi; omega) (fun i _ h1 h2 => hd i (by omega) h2)
  refine ⟨?_, h.2⟩
  rw [h.1]
  congr 1
  refine sumN_congr fun j _ => congrArg f (funext fun i => ?_)
  rw [over_bitOf hr, cfg_bit hr]
  by_cases hi : i ∈ V
  · simp [hi]
  · simp [hi, bitOf_not hi]

end Go.Proofs.Ytefclohjeompkaa

/- Count by function, of the program and of the reference. -/
namespace Go.Proofs.Ytefclohjeompkaa
open Go Go.RowKit Go.Proofs.Gen Go.Proofs.Bdd Go.Proofs.Bdd.T

/-- What a count says: its error, its number; s the features on which it depends. -/
def cntE (s : Nat) (n : Int) : Int := if n < 0 ∨ 24 < n then 3 else if 2 ^ n.toNat ≤ s then 2 else 0
def cntN (s : Nat) (f : F) (n : Int) : Nat := if cntE s n = 0 then cF n.toNat 0 (fun _ => false) f else 0

theorem count_any {w : World} {v : Value} {f : F} {s : Nat} (h : IsF w v f) (hs : ∀ i, s.testBit i = dep f i) (n : Int) :
    Calls Try.prog 29 #[v, .int .i64 n] w fun e w' => e = .returned (.tuple #[.int .u64 (cntN s f n : Nat), .int .i64 (cntE s n)]) ∧ Near w w' := by
  obtain ⟨t, hd, he⟩ := h
  have hf : f = t.ev := funext fun c => (he c).symm
  subst hf
  have hsup : sup (nodes t) = s := by
    apply Nat.eq_of_testBit_eq
    intro i
    rw [sup_dep hd.1, hs]
  by_cases h1 : n < 0 ∨ 24 < n
  · have e1 : cntE s n = 3 := by simp [cntE, h1]
    have e2 : cntN s t.ev n = 0 := by simp [cntN, e1]
    rw [e1, e2]
    obtain ⟨ao, m, cap, rfl, -⟩ := hd.form
    exact count_out _ _ _ rfl n h1 w
  · obtain ⟨k, rfl⟩ : ∃ k : Nat, n = k := ⟨n.toNat, by omega⟩
    have hk : k ≤ 24 := by omega
    by_cases h2 : 2 ^ k ≤ s
    · have e1 : cntE s k = 2 := by simp [cntE, h1, h2]
      have e2 : cntN s t.ev k = 0 := by simp [cntN, e1]
      rw [e1, e2]
      exact count_deep hd hk (by rw [hsup]; exact h2)
    · have e1 : cntE s k = 0 := by simp [cntE, h1, h2]
      have e2 : cntN s t.ev k = cF k 0 (fun _ => false) t.ev := by simp [cntN, e1]
      rw [e1, e2]
      have := count_calls hd hk (by rw [hsup]; omega)
      rwa [cA_cF] at this

theorem rsupp_says {w : World} {v : Value} {f : F} {s : Nat} (h : IsG w v f) (hs : ∀ i, s.testBit i = dep f i) : Calls Try.prog 60 #[v] w fun e w' => e = .returned (.int .u32 (s : Nat)) ∧ Near w w' := by
  obtain ⟨V, h⟩ := h
  have : numb (deps f V) = s := by
    apply Nat.eq_of_testBit_eq
    intro i
    rw [numb_bit, hs, Bool.eq_iff_iff]
    simp only [deps, List.contains_iff_mem, List.mem_filter]
    exact ⟨fun h' => h'.2, fun h' => ⟨dep_mem h h', h'⟩⟩
  rw [← this]
  exact rsupport_calls h

theorem rhas_g {w : World} {v : Value} {f : F} {b : Bool} {c : Nat} (h : IsG w v f) (hb : f c.testBit = b) (hc : c < 4294967296) : Calls Try.prog 90 #[v, .int .u32 c] w fun e w' => e = .returned (.bool b) ∧ Near w w' := by
  obtain ⟨V, T, h, hf⟩ := h
  rw [← hb, ← hf]
  exact rhas_calls h c hc

theorem dep24 {w : World} {v : Value} {f : F} {i : Nat} (h : IsG w v f) (hd : dep f i = true) : i < 24 := by
  obtain ⟨V, h⟩ := h
  exact (h.rise.all i (dep_mem h hd)).2

set_option maxRecDepth 100000 in
set_option maxHeartbeats 1600000 in
theorem rcount_any {w : World} {v : Value} {f : F} {s : Nat} (h : IsG w v f) (hs : ∀ i, s.testBit i = dep f i) (n : Int) :
    Calls Try.prog 30 #[v, .int .i64 n] w fun e w' => e = .returned (.tuple #[.int .u64 (cntN s f n : Nat), .int .i64 (cntE s n)]) ∧ Near w w' := by
  have HA := Lib.hid h
  have HS := Lib.hid hs
  have hs24 : s < 2 ^ 24 := Nat.lt_pow_two_of_testBit _ fun i hi => by
    rw [hs]
    cases hd : dep f i with
    | false => rfl
    | true => have := dep24 h hd; omega
  obtain ⟨a1, a2, a3, a4, a5, a6, rfl⟩ := h.form
  have hN : Near w (w.alloc (.cells #[.slice a1 a2 a3, .slice a4 a5 a6] 37)) := (Near.refl w).alloc _
  have hE : (w.alloc (.cells #[.slice a1 a2 a3, .slice a4 a5 a6] 37)).heap[w.heap.size]? = some (.cells #[.slice a1 a2 a3, .slice a4 a5 a6] 37 (0, 0)) := heap_new_at rfl
  by_cases h1 : n < 0 ∨ 24 < n
  · have e1 : cntE s n = 3 := by simp [cntE, h1]
    have e2 : cntN s f n = 0 := by simp [cntN, e1]
    rw [e1, e2]
    rcases h1 with h1 | h1
    · go_enter Try.func30, Try.ntmps30
      go_wp2
      exact bodyPost_ret (v := .tuple #[.int .u64 0, .int .i64 3]) (by simp [results, Try.results30, go_sem]) rfl ⟨rfl, hN⟩
    · have h0 : ¬ n < 0 := by omega
      go_enter Try.func30, Try.ntmps30
      go_wp2
      exact bodyPost_ret (v := .tuple #[.int .u64 0, .int .i64 3]) (by simp [results, Try.results30, go_sem]) rfl ⟨rfl, hN⟩
  · obtain ⟨k, rfl⟩ : ∃ k : Nat, n = k := ⟨n.toNat, by omega⟩
    have hk : k ≤ 24 := by omega
    have g1 : ¬ (24 : Int) < (k : Int) := by omega
    have g2 : ¬ (k : Int) < 0 := by omega
    have g3 : (k : Int) < 64 := by omega
    have hdiv : ((s : Nat) : Int) / 2 ^ k = ((s / 2 ^ k : Nat) : Int) := by
      rw [show ((2 : Int) ^ k) = ((2 ^ k : Nat) : Int) from by simp, ← Int.natCast_ediv]
    by_cases h2 : 2 ^ k ≤ s
    · have e1 : cntE s k = 2 := by simp [cntE, h1, h2]
      have e2 : cntN s f k = 0 := by simp [cntN, e1]
      rw [e1, e2]
      have hq : (0 : Int) < ((s : Nat) : Int) / 2 ^ k := by
        rw [hdiv]
        have := Nat.div_pos h2 (Nat.two_pow_pos k)
        omega
      have e0 := cell1 (o := 0) hE rfl
      have e1' := cell1 (o := 1) hE rfl
      clear hdiv hs
      go_enter Try.func30, Try.ntmps30
      go_wp2_with (go_at_call 60; refine (rsupp_says (HA.out.near hN) HS.out).mono ?_; rintro e w1 ⟨rfl, n1⟩)
      exact bodyPost_ret (v := .tuple #[.int .u64 0, .int .i64 2]) (by simp [results, Try.results30, go_sem]) rfl ⟨rfl, hN.trans n1⟩
    · have e1 : cntE s k = 0 := by simp [cntE, h1, h2]
      have e2 : cntN s f k = cF k 0 (fun _ => false) f := by simp [cntN, e1]
      rw [e1, e2]
      have hq : ¬ (0 : Int) < ((s : Nat) : Int) / 2 ^ k := by
        rw [hdiv, Nat.div_eq_of_lt (by omega)]
        omega
      have hV := feats_rising s
      have hmem : ∀ i, i ∈ feats s ↔ dep f i = true := fun i => by
        rw [feats_mem, hs]
        refine ⟨fun h' => h'.2, fun h' => ⟨?_, h'⟩⟩
        exact dep24 HA.out h'
      have hsum := cF_cfg (f := f) (n := k) hV (fun i hi => by
        have h3 := (feats_mem.1 hi).2
        rcases Nat.lt_or_ge i k with h4 | h4
        · exact h4
        · have := Nat.ge_two_pow_of_testBit h3
          have h5 : 2 ^ k ≤ 2 ^ i := Nat.pow_le_pow_right (by omega) h4
          omega) (fun i hi hn => by
        cases hd : dep f i with
        | false => rfl
        | true => exact absurd ((hmem i).2 hd) hn)
      obtain ⟨V, hVe⟩ : ∃ V, V = feats s := ⟨_, rfl⟩
      rw [← hVe] at hV hsum
      have HV := Lib.hid hV
      have HVE := Lib.hid hVe
      have HSum := Lib.hid hsum.1
      have hVk := hsum.2
      have HE := Lib.hid hE
      have HN := Lib.hid hN
      have e0 := cell1 (o := 0) hE rfl
      have e1' := cell1 (o := 1) hE rfl
      have hs32 : s < 4294967296 := by have : (2 : Nat) ^ 24 = 16777216 := by decide
                                       omega
      clear hV hVe hsum hE hN hmem hdiv hs
      go_enter Try.func30, Try.ntmps30
      go_upto_region 6 with (first
        | (go_at_call 60; refine (rsupp_says (HA.out.near HN.out) HS.out).mono ?_; rintro e w1 ⟨rfl, n1⟩; replace e0 := n1.cell e0; replace e1' := n1.cell e1')
        | (go_at_call 60; refine (rsupp_says (HA.out.near (HN.out.trans n1)) HS.out).mono ?_; rintro e w2 ⟨rfl, n2⟩)
        | (go_at_call 18; refine (features_calls s hs32 _).mono ?_; rintro e w3 ⟨v3, rfl, r3, n3⟩; have HR3 := Lib.hid r3; obtain ⟨bo, bc, rfl⟩ := owns_form r3; clear r3))
      rw [← HVE.out] at HR3 ⊢
      have N3 := Lib.hid ((HN.out.trans (n1.trans n2)).trans n3)
      have HEr := Lib.hid (keepN ((n1.trans n2).trans n3) HE.out)
      have lV : V.length ≤ 24 := Nat.le_trans hVk hk
      clear hq h2 hs24 h1
      have hsl := Lib.hid (fun q => sumN_le (fun j => f (cfg V j).testBit) q)
      obtain ⟨d, hd⟩ : ∃ d, d = k - V.length := ⟨_, rfl⟩
      have hkd : (k : Int) - V.length = (d : Int) := by omega
      have hd64 : (d : Int) < 64 := by omega
      obtain ⟨N, hN⟩ : ∃ N, N = 2 ^ V.length := ⟨_, rfl⟩
      have hNb : N ≤ 16777216 := by
        rw [hN]
        have hp : (2 : Nat) ^ V.length ≤ 2 ^ 24 := Nat.pow_le_pow_right (by omega) lV
        have e24 : (2 : Nat) ^ 24 = 16777216 := by decide
        rwa [e24] at hp
      have hwr : wrap64 ((2 : Int) ^ V.length) = (N : Int) := by
        rw [show ((2 : Int) ^ V.length) = ((2 ^ V.length : Nat) : Int) from by simp, ← hN]
        exact IntWalk.wrap64_in _ (by omega)
      have hdb : 2 ^ d ≤ 16777216 := by
        have hp : (2 : Nat) ^ d ≤ 2 ^ 24 := Nat.pow_le_pow_right (by omega) (by omega)
        have e24 : (2 : Nat) ^ 24 = 16777216 := by decide
        rwa [e24] at hp
      obtain ⟨D, hD⟩ : ∃ D, D = 2 ^ d := ⟨_, rfl⟩
      rw [← hD] at hdb
      have hwd : IntKind.u64.wrap ((2 : Int) ^ d) = (D : Int) := by
        rw [show ((2 : Int) ^ d) = (D : Int) from by rw [hD]; simp]
        exact IntWalk.u64_in _ (by omega)
      have HSum2 := Lib.hid (show cF k 0 (fun _ => false) f = sumN N (fun j => f (cfg V j).testBit) * D by rw [hN, hD, hd]; exact HSum.out)
      obtain ⟨g, hg⟩ : ∃ g : Nat → Bool, g = fun j => f (cfg V j).testBit := ⟨_, rfl⟩
      rw [← hg] at HSum2 hsl
      have HG := Lib.hid hg
      have HNp := Lib.hid hN
      clear n1 n2 n3 e0 e1' hd hN hD hg HSum
      go_wp2_with fail
      go_loopw [7, 8] (fun z j wr => ∃ q : Nat, q ≤ N ∧ j = .int .i64 q ∧ z = .int .u64 (sumN q g * D : Nat) ∧ Near w3 wr) (fun _ j _ => N - (intOf j).toNat)
      case atStart => exact ⟨0, Nat.zero_le _, rfl, by simp [sumN], Near.refl _⟩
      case round =>
        obtain ⟨q, hq, rfl, rfl, hn⟩ := hrel
        have HK := Lib.hid hn
        have c0 := cell1 (o := 0) (keepN hn HEr.out) rfl
        have c1 := cell1 (o := 1) (keepN hn HEr.out) rfl
        clear hn
        by_cases hlt : q < N
        · have hlt' : (q : Int) < N := by omega
          have hsq : sumN (q + 1) g = sumN q g + (g q).toNat := rfl
          have hsb := hsl.out q
          obtain ⟨S, hS⟩ : ∃ S, S = sumN q g := ⟨_, rfl⟩
          rw [← hS] at hsq hsb ⊢
          have HSq := Lib.hid hsq
          obtain ⟨b, hb⟩ : ∃ b, b = g q := ⟨_, rfl⟩
          have HGq := Lib.hid (show f (cfg V q).testBit = b by rw [hb, HG.out])
          rw [← hb] at HSq
          have hSD : S * D ≤ 16777216 * 16777216 := Nat.mul_le_mul (by omega) hdb
          have hcl := cfg_lt HV.out q
          have hadd : IntKind.u64.wrap (((S * D : Nat) : Int) + (D : Int)) = (((S + 1) * D : Nat) : Int) := by
            rw [Nat.add_mul, Nat.one_mul]
            rw [IntWalk.u64_in _ (by omega)]
            rfl
          have HAdd := Lib.hid hadd
          generalize hSDe : S * D = SD at hSD ⊢
          rw [hSDe] at HAdd
          have HSDe := Lib.hid hSDe
          clear hsq hS hb hadd hSDe
          have sOf : ∀ w', Near wr w' → w'.cell? ⟨w.heap.size, 0, none⟩ = some (.slice a1 a2 a3) ∧ w'.cell? ⟨w.heap.size, 1, none⟩ = some (.slice a4 a5 a6) := fun w' h => ⟨h.cell c0, h.cell c1⟩
          have HSO := Lib.hid sOf
          clear sOf
          go_wp2_with fail
          go_region_held3 (fun w' => w'.cell? ⟨w.heap.size, 0, none⟩ = some (.slice a1 a2 a3) ∧ w'.cell? ⟨w.heap.size, 1, none⟩ = some (.slice a4 a5 a6))
            ((refine HSO.out _ ?_; first | exact z6 | exact z5 | exact (Near.refl _).drew))
            (first
              | (go_at_call 83; refine (config_calls HV.out (by omega) (owns_kept (ownsRow_low HR3.out (Nat.zero_le _)) (HK.out.trans (Near.refl _).drew).kept (fun _ _ x => x)) q (by omega)).mono ?_; rintro e v5 ⟨rfl, n5⟩; have z5 : Near wr v5 := (Near.refl _).drew.trans n5)
              | (go_at_call 90; refine (rhas_g (HA.out.near ((N3.out.trans HK.out).trans z5)) HGq.out (by omega)).mono ?_; rintro e v6 ⟨rfl, n6⟩; have z6 : Near wr v6 := z5.trans n6))
          all_goals
            have Z6 := Lib.hid (HK.out.trans z6)
            clear z5 z6 n5 n6 c0 c1
            cases b
            · go_wp2_with fail
              exact ⟨⟨q + 1, by omega, by go_num, by rw [HSq.out, ← HSDe.out]; rfl, Z6.out⟩, by simp [intOf]; omega⟩
            · have ha := HAdd.out
              go_wp2_with fail
              exact ⟨⟨q + 1, by omega, by go_num, by rw [HSq.out]; rfl, Z6.out⟩, by simp [intOf]; omega⟩
        · have hlt' : ¬ (q : Int) < N := by omega
          have hqN : q = N := by omega
          have HQ := Lib.hid (show sumN q g * D = cF k 0 (fun _ => false) f by rw [HSum2.out, hqN])
          clear hqN
          go_wp2_with fail
          exact bodyPost_ret (v := .tuple #[.int .u64 (sumN q g * D : Nat), .int .i64 0]) (by simp [results, Try.results30, go_sem]) rfl ⟨by rw [HQ.out], N3.out.trans HK.out⟩

end Go.Proofs.Ytefclohjeompkaa

/- The law DiagramCounts: the walk. -/
namespace Go.Proofs.Ytefclohjeompkaa
open Go Go.RowKit Go.Proofs.Gen Go.Proofs.Bdd Go.Proofs.Bdd.T

/-- The last set of a script. -/
def lastF (l : List SOp) : F := (makeF l).getD l.length fun _ => false

/-- The last one of a row of sets. -/
theorem Sets.last {e : TypeId} {Is : World → Value → F → Prop} {b : Nat} {w : World} {x : Value} {l : List SOp} (h : Sets e Is b w x (makeF l)) :
    ∃ g cap u v, x = .slice (some ⟨g, 0, none⟩) (l.length + 1) cap ∧ w.cell? ⟨g, l.length * 2, none⟩ = some u ∧ w.cell? ⟨g, l.length * 2 + 1, none⟩ = some v ∧ Is w (.agg #[u, v]) (lastF l) := by
  obtain ⟨g, cap, u, v, hx, -, h1, h2, h3⟩ := h.nth (j := l.length) (by rw [makeF_len]; omega)
  rw [makeF_len] at hx
  exact ⟨g, cap, u, v, hx, h1, h2, h3⟩

set_option maxRecDepth 100000 in
set_option maxHeartbeats 3200000 in
theorem law_counts {w : World} {v : Value} {l : List SOp} (h : RdOps w v l) (n : Int) : Calls Try.prog 6 #[v, .int .i64 n] w fun e w' => e = .returned (.bool true) ∧ Near w w' := by
  have HM := Lib.hid (ment_calls h)
  cases hb : mentB l with
  | false =>
    have HB := Lib.hid hb
    obtain ⟨ao, cap, rfl, -⟩ := h
    clear hb
    go_enter Try.func6, Try.ntmps6
    go_wp2_with (first
      | (go_at_call 23; refine HM.out.mono ?_; rintro e w1 ⟨rfl, n1⟩; rw [HB.out])
      | (go_at_call 17; refine (wakes_calls _).mono ?_; rintro e w2 ⟨rfl, n2⟩))
    go_ret
    exact ⟨rfl, n1.trans n2⟩
  | true =>
    have HB := Lib.hid hb
    have hok := mentB_ok hb
    have hl12 := hok.1
    have h40 := Lib.hid hok.2
    have HL := Lib.hid h
    obtain ⟨ao, cap, rfl, -⟩ := h
    clear hb hok
    go_enter Try.func6, Try.ntmps6
    go_upto_region 4 with (first
      | (go_at_call 23; refine HM.out.mono ?_; rintro e w1 ⟨rfl, n1⟩; rw [HB.out])
      | (go_at_call 24; refine (both_calls2 (HL.out.near n1) (by omega) h40.out).mono ?_; rintro e w2 ⟨sv, tv, rfl, s2, t2, n2⟩; obtain ⟨g, sc, u0, u1, rfl, x0, x1, hi⟩ := s2.last; obtain ⟨g', tc, v0, v1, rfl, y0, y1, hi'⟩ := t2.last; obtain ⟨p1, p2, p3, p4, hpe⟩ := hi.form; obtain ⟨q1, q2, q3, q4, q5, q6, hqe⟩ := hi'.form; simp only [Value.agg.injEq, Array.mk.injEq, List.cons.injEq, and_true] at hpe hqe; obtain ⟨rfl, rfl⟩ := hpe; obtain ⟨rfl, rfl⟩ := hqe; have HN := Lib.hid (n1.trans n2); clear s2 t2 n1 n2))
    obtain ⟨s, hs24, hs, -⟩ := support_f hi
    have HC := Lib.hid (fun (w' : World) (hn : Near w2 w') => count_any (hi.near hn) hs n)
    have HD := Lib.hid (fun (w' : World) (hn : Near w2 w') => rcount_any (hi'.near hn) hs n)
    clear hi hi' hs
    generalize cntN s (lastF l) n = cn at HC HD
    generalize cntE s n = ce at HC HD
    go_wp2_with (first
      | (go_at_call 29; refine (HC.out _ (Near.refl _)).mono ?_; rintro e w3 ⟨rfl, n3⟩; have z0 := n3.cell y0; have z1 := n3.cell y1)
      | (go_at_call 30; refine (HD.out _ n3).mono ?_; rintro e w4 ⟨rfl, n4⟩)
      | (go_at_call 17; refine (wakes_calls _).mono ?_; rintro e w9 ⟨rfl, n9⟩))
    go_ret
    exact ⟨rfl, ((HN.out.trans n3).trans n4).trans n9⟩

end Go.Proofs.Ytefclohjeompkaa
