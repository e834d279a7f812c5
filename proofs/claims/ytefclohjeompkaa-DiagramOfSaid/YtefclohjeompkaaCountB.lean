/- Count's plain law and its contract. -/
import Derived.Test.YtefclohjeompkaaCount
namespace Go.Proofs.Ytefclohjeompkaa
open Go Go.RowKit Go.Proofs.Gen Go.Proofs.Bdd Go.Proofs.Bdd.T

/-- How many settings of k variables from lo on satisfy t, the others as c says. -/
def cA : Nat → Nat → (Nat → Bool) → T → Nat
  | 0, _, c, t => (t.ev c).toNat
  | k + 1, lo, c, t => cA k (lo + 1) (upd c lo false) t + cA k (lo + 1) (upd c lo true) t

/-- All levels below n. -/
def Low (n : Nat) : T → Prop
  | .leaf _ => True
  | .node i l h => i < n ∧ Low n l ∧ Low n h

theorem cA_skip {i : Nat} {l h : T} : ∀ (k lo : Nat) (c : Nat → Bool), i < lo → cA k lo c (node i l h) = if c i then cA k lo c h else cA k lo c l
  | 0, lo, c, _ => by simp only [cA, T.ev]; split <;> rfl
  | k + 1, lo, c, hi => by
    simp only [cA]
    rw [cA_skip k (lo + 1) _ (by omega), cA_skip k (lo + 1) _ (by omega), upd_other _ _ (by omega), upd_other _ _ (by omega)]
    split <;> rfl

theorem cA_le : ∀ (k lo : Nat) (c : Nat → Bool) (t : T), cA k lo c t ≤ 2 ^ k
  | 0, lo, c, t => by simp only [cA]; cases t.ev c <;> simp
  | k + 1, lo, c, t => by
    have h1 := cA_le k (lo + 1) (upd c lo false) t
    have h2 := cA_le k (lo + 1) (upd c lo true) t
    simp only [cA]
    rw [Nat.pow_succ]
    omega

theorem cv_lev {n i : Nat} {t : T} (hl : Low n t) (h1 : i < t.lv) (h2 : i < n) : i + 1 ≤ (cv n t).lev := by
  cases t with
  | leaf b => exact h2
  | node j l h => exact h1

theorem cA_cv (n : Nat) : ∀ (k lo : Nat) (c : Nat → Bool) (t : T), lo + k = n → t.Ok → Low n t → lo ≤ (cv n t).lev → cA k lo c t = (cv n t).n * 2 ^ ((cv n t).lev - lo)
  | 0, lo, c, t, e, ok, hl, h => by
    cases t with
    | leaf b =>
      simp only [cA, cv, T.ev]
      rw [show n - lo = 0 by omega]
      simp
    | node i l r =>
      have := hl.1
      simp only [cv] at h
      omega
  | k + 1, lo, c, t, e, ok, hl, h => by
    by_cases hlt : lo < (cv n t).lev
    · simp only [cA]
      rw [cA_cv n k (lo + 1) _ t (by omega) ok hl hlt, cA_cv n k (lo + 1) _ t (by omega) ok hl hlt, show (cv n t).lev - lo = ((cv n t).lev - (lo + 1)) + 1 by omega, Nat.pow_succ]
      have : (cv n t).n * (2 ^ ((cv n t).lev - (lo + 1)) * 2) = ((cv n t).n * 2 ^ ((cv n t).lev - (lo + 1))) * 2 := by rw [Nat.mul_assoc]
      omega
    · cases t with
      | leaf b =>
        simp only [cv] at h hlt
        omega
      | node i l r =>
        simp only [cv] at h hlt
        have hi : lo = i := by omega
        subst hi
        have bl := cv_lev hl.2.1 ok.2.1 hl.1
        have bh := cv_lev hl.2.2 ok.2.2.1 hl.1
        simp only [cA]
        rw [cA_skip k (lo + 1) _ (by omega), cA_skip k (lo + 1) _ (by omega), upd_same, upd_same]
        simp only [if_true, Bool.false_eq_true, if_false]
        rw [cA_cv n k (lo + 1) _ l (by omega) ok.2.2.2.2.1 hl.2.1 bl, cA_cv n k (lo + 1) _ r (by omega) ok.2.2.2.2.2 hl.2.2 bh]
        simp only [cv, Nat.sub_self, Nat.pow_zero, Nat.mul_one, Nat.sub_sub]

theorem low_of {n : Nat} {L : List T} (g : T.Good L) (h : ∀ t ∈ L, t.lv < n) : ∀ t : T, In L t → Low n t
  | .leaf _, _ => trivial
  | .node i l r, hin =>
    have hm : node i l r ∈ L := hin
    ⟨h _ hm, low_of g h l (g.kids hm).1, low_of g h r (g.kids hm).2⟩

theorem sup_low {n : Nat} {L : List T} (h : sup L < 2 ^ n) : ∀ t ∈ L, t.lv < n := by
  intro t ht
  by_cases hlt : t.lv < n
  · exact hlt
  · have h1 := sup_bit L t.lv
    rw [Nat.testBit_lt_two_pow (Nat.lt_of_lt_of_le h (Nat.pow_le_pow_right (by omega) (by omega)))] at h1
    have h2 : L.any (fun u => u.lv == t.lv) = true := List.any_eq_true.2 ⟨t, ht, by simp⟩
    rw [h2] at h1
    cases h1

theorem cv_bound {n i : Nat} (t : T) (ok : t.Ok) (hl : Low n t) (h : i + 1 ≤ (cv n t).lev) (hn : n ≤ 24) (hi : i < n) : (cv n t).n * 2 ^ ((cv n t).lev - i - 1) ≤ 16777216 := by
  have h1 := cA_cv n (n - (i + 1)) (i + 1) (fun _ => false) t (by omega) ok hl h
  have h2 := cA_le (n - (i + 1)) (i + 1) (fun _ => false) t
  rw [Nat.sub_sub, ← h1]
  exact Nat.le_trans h2 (Nat.le_trans (Nat.pow_le_pow_right (by omega) (show n - (i + 1) ≤ 24 by omega)) (by decide))

theorem cv_lev_le {n : Nat} {t : T} (hl : Low n t) : (cv n t).lev ≤ n := by
  cases t with
  | leaf b => exact Nat.le_refl _
  | node j l h => exact Nat.le_of_lt hl.1

theorem fold_count_calls {n : Nat} (hn : n ≤ 24) {w : World} {v : Value} {t : T} (h : IsD w v t) (hs : sup (nodes t) < 2 ^ n) :
    Calls Try.prog 88 #[v, .agg #[.int .i64 n, .int .u64 0], .agg #[.int .i64 n, .int .u64 1], .func (.func 89) #[] #[]] w fun e w' =>
      e = .returned (.agg #[.int .i64 (cv n t).lev, .int .u64 (cv n t).n]) ∧ Below w.heap.size w w' := by
  obtain ⟨ok, sv, rfl, hr⟩ := h
  obtain ⟨ao, cap, rfl⟩ := owns_form hr
  have g := nodes_good ok
  have hL := sup_low hs
  have := nodes_len ok
  refine fold_counted n hn (nodes t) g (by omega) t (nodes_in t) ao cap w hr ?_
  intro i l r hm w'
  have k := g.kids hm
  have o := (g.all _ hm).2
  have ll := low_of g hL l k.1
  have lr := low_of g hL r k.2
  have hi : i < n := hL _ hm
  have b1 := cv_lev ll o.2.1 hi
  have b2 := cv_lev lr o.2.2.1 hi
  exact count1_walk i _ _ _ _ w' b1 b2 (Nat.le_trans (cv_lev_le ll) hn) (Nat.le_trans (cv_lev_le lr) hn) (cv_bound l o.2.2.2.2.1 ll b1 hn hi) (cv_bound r o.2.2.2.2.2 lr b2 hn hi)

set_option maxRecDepth 100000 in
set_option maxHeartbeats 800000 in
theorem count_out (v : Value) (sv : Value) (r : Int) (hv : v = .agg #[sv, .int .i64 r]) (n : Int) (h : n < 0 ∨ 24 < n) (w : World) : Calls Try.prog 29 #[v, .int .i64 n] w fun e w' => e = .returned (.tuple #[.int .u64 0, .int .i64 3]) ∧ Near w w' := by
  subst hv
  rcases h with h | h
  · go_enter Try.func29, Try.ntmps29
    go_wp2
    exact bodyPost_ret (v := .tuple #[.int .u64 0, .int .i64 3]) (by simp [results, Try.results29, go_sem]) rfl ⟨rfl, (Near.refl w).alloc _⟩
  · have h0 : ¬ n < 0 := by omega
    go_enter Try.func29, Try.ntmps29
    go_wp2
    exact bodyPost_ret (v := .tuple #[.int .u64 0, .int .i64 3]) (by simp [results, Try.results29, go_sem]) rfl ⟨rfl, (Near.refl w).alloc _⟩

set_option maxRecDepth 100000 in
set_option maxHeartbeats 800000 in
theorem count_calls {w : World} {v : Value} {t : T} (h : IsD w v t) {n : Nat} (hn : n ≤ 24) (hs : sup (nodes t) < 2 ^ n) :
    Calls Try.prog 29 #[v, .int .i64 n] w fun e w' => e = .returned (.tuple #[.int .u64 (cA n 0 (fun _ => false) t : Nat), .int .i64 0]) ∧ Near w w' := by
  have h1 : ¬ (24 : Int) < (n : Int) := by omega
  have h2 : ¬ (n : Int) < 0 := by omega
  obtain ⟨ao, m, cap, rfl, hm⟩ := h.form
  have H := Lib.hid h
  have HS := Lib.hid hs
  clear h hs hm
  have hq : ((sup (nodes t) : Nat) : Int) / 2 ^ n = 0 := by
    rw [show ((2 : Int) ^ n) = ((2 ^ n : Nat) : Int) from by simp, ← Int.natCast_ediv, Nat.div_eq_of_lt HS.out]
    rfl
  have hN : Near w (w.alloc (.cells #[.slice ao m cap, .int .i64 (pl (nodes t) t : Nat)] 31)) := (Near.refl w).alloc _
  have a0 : (w.alloc (.cells #[.slice ao m cap, .int .i64 (pl (nodes t) t : Nat)] 31)).cell? ⟨w.heap.size, 0, none⟩ = some (.slice ao m cap) := by simp
  have a1 : (w.alloc (.cells #[.slice ao m cap, .int .i64 (pl (nodes t) t : Nat)] 31)).cell? ⟨w.heap.size, 1, none⟩ = some (.int .i64 (pl (nodes t) t : Nat)) := by simp
  have A0 := Lib.hid a0
  have A1 := Lib.hid a1
  have HN := Lib.hid hN
  clear a0 a1 hN
  go_enter Try.func29, Try.ntmps29
  go_wp2_with (first
    | (go_at_call 44; refine (support_calls (H.out.near HN.out)).mono ?_; rintro e w1 ⟨rfl, n1⟩; have b0 := n1.cell A0.out; have b1 := n1.cell A1.out)
    | (go_at_call 88; refine (fold_count_calls hn (H.out.near (HN.out.trans n1)) HS.out).mono ?_; rintro e w2 ⟨rfl, n2⟩))
  have hcv : (cv n t).n * 2 ^ (cv n t).lev = cA n 0 (fun _ => false) t := by
    have := cA_cv n n 0 (fun _ => false) t (by omega) H.out.1 (low_of (nodes_good H.out.1) (sup_low HS.out) t (nodes_in t)) (Nat.zero_le _)
    rw [this, Nat.sub_zero]
  have hle := cv_lev_le (low_of (nodes_good H.out.1) (sup_low HS.out) t (nodes_in t))
  have hb := cA_le n 0 (fun _ => false) t
  have hb2 : (2 : Nat) ^ n ≤ 2 ^ 24 := Nat.pow_le_pow_right (by omega) hn
  have hb3 : (2 : Nat) ^ 24 = 16777216 := by decide
  have hw : IntKind.u64.wrap (((cv n t).n : Int) * 2 ^ min (cv n t).lev 64) = (cA n 0 (fun _ => false) t : Nat) := by
    rw [Nat.min_eq_left (by omega), ← hcv, show (((cv n t).n : Int) * 2 ^ (cv n t).lev) = (((cv n t).n * 2 ^ (cv n t).lev : Nat) : Int) from by simp, hcv]
    exact u64_in _ (by omega) (by omega)
  rw [hw]
  exact bodyPost_ret (v := .tuple #[.int .u64 (cA n 0 (fun _ => false) t : Nat), .int .i64 0]) (by simp [results, Try.results29, go_sem]) rfl ⟨rfl, ((HN.out.trans n1).trans (Near.of_below n2)).alloc _⟩

set_option maxRecDepth 100000 in
set_option maxHeartbeats 800000 in
theorem count_deep {w : World} {v : Value} {t : T} (h : IsD w v t) {n : Nat} (hn : n ≤ 24) (hs : 2 ^ n ≤ sup (nodes t)) :
    Calls Try.prog 29 #[v, .int .i64 n] w fun e w' => e = .returned (.tuple #[.int .u64 0, .int .i64 2]) ∧ Near w w' := by
  have h1 : ¬ (24 : Int) < (n : Int) := by omega
  have h2 : ¬ (n : Int) < 0 := by omega
  obtain ⟨ao, m, cap, rfl, hm⟩ := h.form
  have H := Lib.hid h
  have HS := Lib.hid hs
  clear h hs hm
  have hq : (((sup (nodes t) : Nat) : Int) / 2 ^ n == 0) = false := by
    have h3 : 0 < sup (nodes t) / 2 ^ n := Nat.div_pos HS.out (Nat.two_pow_pos n)
    rw [show ((2 : Int) ^ n) = ((2 ^ n : Nat) : Int) from by simp, ← Int.natCast_ediv]
    simp only [beq_eq_false_iff_ne, ne_eq]
    omega
  have hN : Near w (w.alloc (.cells #[.slice ao m cap, .int .i64 (pl (nodes t) t : Nat)] 31)) := (Near.refl w).alloc _
  have HN := Lib.hid hN
  have hq2 : (((sup (nodes t) : Nat) : Int) / 2 ^ n != 0) = true := by simp only [bne, hq, Bool.not_false]
  clear hN
  go_enter Try.func29, Try.ntmps29
  go_wp2_with (first
    | (go_at_call 44; refine (support_calls (H.out.near HN.out)).mono ?_; rintro e w1 ⟨rfl, n1⟩))
  exact bodyPost_ret (v := .tuple #[.int .u64 0, .int .i64 2]) (by simp [results, Try.results29, go_sem]) rfl ⟨rfl, HN.out.trans n1⟩

end Go.Proofs.Ytefclohjeompkaa
