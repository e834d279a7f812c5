/- Parts of a proof: PrimM, LawCovers. -/
import Derived.Test.YtefclohjeompkaaKPrimI
import Derived.Test.YtefclohjeompkaaKPrimH
import Derived.Test.YtefclohjeompkaaKSaidA
/- Prime cubes lie in a set, cover it, and none lies in another one: the plain law. -/
namespace Go.Proofs.Ytefclohjeompkaa
open Go Go.RowKit Go.Shelf Go.Sort Go.Proofs.Gen Go.Proofs.Bdd Go.Proofs.Bdd.T

def cuF (x : Cub) : F := cubeF x.on x.off

theorem mtK_sub {s k1 k2 : Nat} (h : ∀ j, j < (feats s).length → dig k2 j ≠ 0 → dig k1 j = dig k2 j) {c : Nat → Bool} (hc : mtK (feats s) (feats s).length k1 c) : mtK (feats s) (feats s).length k2 c := fun j hj => by
  refine ⟨fun h1 => (hc j hj).1 ?_, fun h1 => (hc j hj).2 ?_⟩
  · rw [h j hj (by omega), h1]
  · rw [h j hj (by omega), h1]

/-- The configuration of a cube that has all else on. -/
theorem mtK_max (s k : Nat) : mtK (feats s) (feats s).length k fun i => !(kOff (feats s) k (feats s).length).testBit i := by
  intro j hj
  constructor
  · intro h1
    have : (kOff (feats s) k (feats s).length).testBit ((feats s).getD j 0) = true := (kOff_bit _ _).2 ⟨j, hj, h1, rfl⟩
    simp only [this, Bool.not_true]
  · intro h1
    have : (kOff (feats s) k (feats s).length).testBit ((feats s).getD j 0) = false := by
      refine Bool.eq_false_iff.2 fun hb => ?_
      obtain ⟨j', hj', h2, e⟩ := (kOff_bit _ _).1 hb
      obtain rfl := feats_inj hj' hj e
      omega
    simp only [this, Bool.not_false]

theorem mtK_all {s k1 k2 : Nat} (h : ∀ c, mtK (feats s) (feats s).length k1 c → mtK (feats s) (feats s).length k2 c) : ∀ j, j < (feats s).length → dig k2 j ≠ 0 → dig k1 j = dig k2 j := by
  intro j hj h0
  have h3 := dig_lt3 k2 j
  by_cases h2 : dig k2 j = 2
  · have h4 := ((h _ (mtK_min s k1)) j hj).2 h2
    obtain ⟨j', hj', h5, e⟩ := (kOn_bit _ _).1 h4
    obtain rfl := feats_inj hj' hj e
    rw [h5, h2]
  · have h1 : dig k2 j = 1 := by omega
    have h4 := ((h _ (mtK_max s k1)) j hj).1 h1
    have h4' : (kOff (feats s) k1 (feats s).length).testBit ((feats s).getD j 0) = true := by simpa using h4
    obtain ⟨j', hj', h5, e⟩ := (kOff_bit _ _).1 h4'
    obtain rfl := feats_inj hj' hj e
    rw [h5, h1]

/-- Two prime cubes: neither lies in the other. -/
theorem prime_apart {s : Nat} {f : F} {k1 k2 : Nat} (h1 : k1 ∈ pks s f (3 ^ (feats s).length)) (h2 : k2 ∈ pks s f (3 ^ (feats s).length)) (hne : k1 ≠ k2) : ∃ c, mtK (feats s) (feats s).length k1 c ∧ ¬ mtK (feats s) (feats s).length k2 c := by
  refine Classical.byContradiction fun hno => ?_
  have hall : ∀ c, mtK (feats s) (feats s).length k1 c → mtK (feats s) (feats s).length k2 c := fun c hc => Classical.byContradiction fun hn => hno ⟨c, hc, hn⟩
  have hd := mtK_all hall
  obtain ⟨l1, i1, p1⟩ := mem_pks.1 h1
  obtain ⟨l2, i2, p2⟩ := mem_pks.1 h2
  have hex : ∃ j, j < (feats s).length ∧ dig k1 j ≠ dig k2 j := Classical.byContradiction fun hn => hne (dig_ext l1 l2 fun j hj => Classical.byContradiction fun he => hn ⟨j, hj, he⟩)
  obtain ⟨j, hj, hdj⟩ := hex
  have h20 : dig k2 j = 0 := Classical.byContradiction fun h => hdj (hd j hj h)
  refine p1 j hj (by omega) fun c hc => i2 c (mtK_sub (fun i hi h0 => ?_) hc)
  rw [dig_numOf (dropD_lt3 _ _) _ i hi, dropD, if_neg (fun e => h0 (by rw [e, h20]))]
  exact hd i hi h0

/-- What a set holds, a prime cube of it holds. -/
theorem prime_covers {s : Nat} {f : F} (hon : OnV (feats s) (feats s).length f) {c : Nat → Bool} (hc : f c = true) : ∃ k, k ∈ pks s f (3 ^ (feats s).length) ∧ mtK (feats s) (feats s).length k c := by
  have hshrink : ∀ N k, k ≤ N → k < 3 ^ (feats s).length → InC s f k → mtK (feats s) (feats s).length k c → ∃ k', k' ∈ pks s f (3 ^ (feats s).length) ∧ mtK (feats s) (feats s).length k' c := by
    intro N
    induction N with
    | zero =>
      intro k hk hl hi hm
      obtain rfl : k = 0 := by omega
      refine ⟨0, mem_pks.2 ⟨hl, hi, fun j hj h0 => ?_⟩, hm⟩
      unfold dig at h0
      simp at h0
    | succ N ih =>
      intro k hk hl hi hm
      by_cases hp : k ∈ pks s f (3 ^ (feats s).length)
      · exact ⟨k, hp, hm⟩
      · have hex : ∃ j, j < (feats s).length ∧ 0 < dig k j ∧ InC s f (numOf (dropD (dig k) j) (feats s).length) := Classical.byContradiction fun hn => hp (mem_pks.2 ⟨hl, hi, fun j hj h0 hin => hn ⟨j, hj, h0, hin⟩⟩)
        obtain ⟨j, hj, h0, hin⟩ := hex
        have hlt : numOf (dropD (dig k) j) (feats s).length < k := by
          have h1 := numOf_drop (dig k) j (feats s).length
          rw [numOf_dig _ k hl, if_pos hj] at h1
          have : 0 < dig k j * 3 ^ j := Nat.mul_pos h0 (Nat.pow_pos (by omega))
          omega
        refine ih _ (by omega) (by omega) hin (mtK_sub (fun i hi' hd => ?_) hm)
        rw [dig_numOf (dropD_lt3 _ _) _ i hi', dropD] at hd ⊢
        split at hd
        · exact absurd rfl hd
        · rename_i hne
          rw [if_neg hne]
  have hg : ∀ j, (fun j => if c ((feats s).getD j 0) = true then 2 else 1 : Nat → Nat) j < 3 := fun j => by
    show (if c ((feats s).getD j 0) = true then 2 else 1) < 3
    split <;> omega
  refine hshrink _ (numOf (fun j => if c ((feats s).getD j 0) = true then 2 else 1) (feats s).length) (Nat.le_refl _) (numOf_lt hg _) ?_ ?_
  · intro d hd
    rw [← hc]
    refine hon _ _ fun j hj => ?_
    have h1 := hd j hj
    rw [dig_numOf hg _ j hj] at h1
    cases hb : c ((feats s).getD j 0) with
    | true => exact h1.2 (by rw [if_pos hb])
    | false => exact h1.1 (by rw [if_neg (by rw [hb]; simp)])
  · intro j hj
    rw [dig_numOf hg _ j hj]
    cases hb : c ((feats s).getD j 0) with
    | true => exact ⟨fun h => by simp at h, fun _ => rfl⟩
    | false => exact ⟨fun _ => rfl, fun h => by simp at h⟩

/-- What is said of the prime cubes. -/
structure CovOk (f : F) (l : List Cub) : Prop where
  held : ∀ x, x ∈ l → nowhere (cuF x) = false
  within : ∀ x, x ∈ l → nowhere (fun c => cuF x c && !f c) = true
  apart : ∀ (i k : Nat) (x y : Cub), l[i]? = some x → l[k]? = some y → k ≠ i → nowhere (fun c => cuF x c && !cuF y c) = false
  cover : ∀ c, l.any (fun x => cuF x c) = f c

theorem not_nowhere {g : F} {c : Nat → Bool} (h : g c = true) : nowhere g = false := by
  refine Bool.eq_false_iff.2 fun hn => ?_
  rw [nowhere_iff.1 hn c] at h
  cases h

theorem cov_ok {s : Nat} {f : F} (hon : OnV (feats s) (feats s).length f) {l : List Cub} (hp : l.Perm ((pks s f (3 ^ (feats s).length)).map (cubK s))) : CovOk f l := by
  have hm : ∀ x, x ∈ l ↔ ∃ k, k ∈ pks s f (3 ^ (feats s).length) ∧ cubK s k = x := fun x => by rw [hp.mem_iff, List.mem_map]
  refine ⟨fun x hx => ?_, fun x hx => ?_, ?_, fun c => ?_⟩
  · obtain ⟨k, _, rfl⟩ := (hm x).1 hx
    exact not_nowhere ((mtK_cub _).2 (mtK_min s k))
  · obtain ⟨k, hk, rfl⟩ := (hm x).1 hx
    refine nowhere_iff.2 fun c => ?_
    cases hb : cuF (cubK s k) c with
    | false => rfl
    | true => rw [(mem_pks.1 hk).2.1 c ((mtK_cub c).1 hb)]; rfl
  · have hR : l.Pairwise fun x y => (∃ c, cuF x c = true ∧ ¬ cuF y c = true) ∧ ∃ c, cuF y c = true ∧ ¬ cuF x c = true := by
      refine (hp.pairwise_iff (fun {x y} h => ⟨h.2, h.1⟩)).2 ?_
      rw [List.pairwise_map]
      refine List.Pairwise.imp_of_mem ?_ (pks_nodup s f (3 ^ (feats s).length))
      intro a b ha hb hne
      refine ⟨?_, ?_⟩
      · obtain ⟨c, h1, h2⟩ := prime_apart ha hb hne
        exact ⟨c, (mtK_cub c).2 h1, fun h => h2 ((mtK_cub c).1 h)⟩
      · obtain ⟨c, h1, h2⟩ := prime_apart hb ha (fun e => hne e.symm)
        exact ⟨c, (mtK_cub c).2 h1, fun h => h2 ((mtK_cub c).1 h)⟩
    rw [List.pairwise_iff_getElem] at hR
    intro i k x y hx hy hne
    obtain ⟨hi, rfl⟩ := List.getElem?_eq_some_iff.1 hx
    obtain ⟨hk, rfl⟩ := List.getElem?_eq_some_iff.1 hy
    have hex : ∃ c, cuF l[i] c = true ∧ ¬ cuF l[k] c = true := by
      rcases Nat.lt_or_gt_of_ne hne with h | h
      · exact (hR k i hk hi h).2
      · exact (hR i k hi hk h).1
    obtain ⟨c, h1, h2⟩ := hex
    exact not_nowhere (c := c) (by rw [h1, Bool.eq_false_iff.2 h2]; rfl)
  · rw [Bool.eq_iff_iff, List.any_eq_true]
    constructor
    · rintro ⟨x, hx, hc⟩
      obtain ⟨k, hk, rfl⟩ := (hm x).1 hx
      exact (mem_pks.1 hk).2.1 c ((mtK_cub c).1 hc)
    · intro hc
      obtain ⟨k, hk, h1⟩ := prime_covers hon hc
      exact ⟨cubK s k, (hm _).2 ⟨k, hk, rfl⟩, (mtK_cub c).2 h1⟩

theorem pks_len (s : Nat) (f : F) (k : Nat) : (pks s f k).length ≤ k := by
  unfold pks
  exact Nat.le_trans (List.length_filter_le _ _) (by simp)

theorem primes_cov {w : World} {v : Value} {f : F} (h : IsF w v f) {s : Nat} (hs24 : s < 16777216) (hs : ∀ i, s.testBit i = dep f i) (hV : (feats s).length ≤ 8) :
    Calls Try.prog 74 #[v] w fun e w' => ∃ (ao : Option Addr) (cap : Nat) (l : List Cub), e = .returned (.tuple #[.slice ao l.length cap, .int .i64 0]) ∧ RdC w' ao l ∧ CovOk f l ∧ l.length ≤ 6561 ∧ Near w w' := by
  refine (primes_walk h hs24 hs (by omega)).mono ?_
  rintro e w' ⟨ao, cap, d, rfl, hr, hp, -, hn⟩
  refine ⟨ao, cap, d.toList, rfl, hr, cov_ok (onV_feats h.low hs) hp, ?_, hn⟩
  rw [hp.length_eq, List.length_map]
  refine Nat.le_trans (pks_len _ _ _) ?_
  have h1 : 3 ^ (feats s).length ≤ 3 ^ 8 := Nat.pow_le_pow_right (by omega) hV
  exact h1

end Go.Proofs.Ytefclohjeompkaa

/- The law DiagramCovers: the walk. -/
namespace Go.Proofs.Ytefclohjeompkaa
open Go Go.RowKit Go.Shelf Go.Sort Go.Proofs.Gen Go.Proofs.Bdd Go.Proofs.Bdd.T

/-- The union of the first k cubes. -/
def orK (l : List Cub) (k : Nat) : F := fun c => (l.take k).any fun x => cuF x c

theorem orK_zero (l : List Cub) (c : Nat → Bool) : false = orK l 0 c := rfl
theorem orK_succ {l : List Cub} {k : Nat} {x : Cub} (h : l[k]? = some x) (c : Nat → Bool) : (orK l k c || cuF x c) = orK l (k + 1) c := by
  unfold orK
  rw [List.take_add_one, h]
  simp [List.any_append]
theorem orK_all {f : F} {l : List Cub} (h : CovOk f l) (c : Nat → Bool) : orK l l.length c = f c := by
  unfold orK
  rw [List.take_length]
  exact h.cover c

set_option maxRecDepth 100000 in
set_option maxHeartbeats 6400000 in
theorem law_covers {w : World} {v : Value} {l : List SOp} (h : RdOps w v l) : Calls Try.prog 16 #[v] w fun e w' => e = .returned (.bool true) ∧ Near w w' := by
  have h3 := three_calls h
  have H3 := Lib.hid h3
  clear h3
  obtain ⟨ao, cap, rfl, -⟩ := h
  by_cases hok : ThreeOk l
  case neg =>
    have hd : decide (ThreeOk l) = false := decide_eq_false hok
    have HD := Lib.hid hd
    clear hd hok
    go_enter Try.func16, Try.ntmps16
    go_wp2_with (first
      | (go_at_call 31; refine H3.out.mono ?_; rintro e w3 h3; obtain ⟨a1, a2, a3, a4, b1, b2, b3, b4, c1, c2, c3, c4, rfl, ia, ib, ic, n3⟩ := h3.mk; rw [HD.out]; have HN3 := Lib.hid n3; clear ia ib ic n3)
      | (go_at_call 17; refine (wakes_calls _).mono ?_; rintro e w4 ⟨rfl, n4⟩))
    go_ret
    exact ⟨rfl, (((HN3.out.alloc _).alloc _).alloc _).trans n4⟩
  case pos =>
    have hd : decide (ThreeOk l) = true := decide_eq_true hok
    have HD := Lib.hid hd
    clear hd hok
    go_enter Try.func16, Try.ntmps16
    go_upto_region 2 with (go_at_call 31; refine H3.out.mono ?_; rintro e w3 h3; obtain ⟨a1, a2, a3, a4, b1, b2, b3, b4, c1, c2, c3, c4, rfl, ia, ib, ic, n3⟩ := h3.mk; rw [HD.out]; have HIA := Lib.hid ia; have HN3 := Lib.hid n3; clear ia ib ic n3)
    have hW : ∀ W, W = ((w3.alloc (.cells #[.slice a1 a2 a3, .int .i64 a4] 31)).alloc (.cells #[.slice b1 b2 b3, .int .i64 b4] 31)).alloc (.cells #[.slice c1 c2 c3, .int .i64 c4] 31) → Near w3 W ∧ W.heap[w3.heap.size]? = some (.cells #[.slice a1 a2 a3, .int .i64 a4] 31 (0, 0)) := by
      rintro W rfl
      exact ⟨(((Near.refl w3).alloc _).alloc _).alloc _, ((heap_old_at (by simp; omega)).trans (heap_old_at (by simp))).trans (heap_new_at rfl)⟩
    have h5 := hW _ rfl
    generalize ((w3.alloc (.cells #[.slice a1 a2 a3, .int .i64 a4] 31)).alloc (.cells #[.slice b1 b2 b3, .int .i64 b4] 31)).alloc (.cells #[.slice c1 c2 c3, .int .i64 c4] 31) = W at h5 ⊢
    clear hW h3
    obtain ⟨n4, ha⟩ := h5
    have hwlt := (Array.getElem?_eq_some_iff.1 ha).1
    have HA := Lib.hid ha
    have HI := Lib.hid (HIA.out.near n4)
    have HN := Lib.hid (HN3.out.trans n4)
    obtain ⟨c0, c1⟩ : W.cell? ⟨w3.heap.size, 0, none⟩ = some (.slice a1 a2 a3) ∧ W.cell? ⟨w3.heap.size, 1, none⟩ = some (.int .i64 a4) := ⟨cell1 (o := 0) ha rfl, cell1 (o := 1) ha rfl⟩
    clear n4 ha HIA HN3
    generalize tF l 1 = f at HI
    obtain ⟨s, hs24, hs, -⟩ := support_f HI.out
    have HSup := Lib.hid (supp_at HI.out hs)
    have HFe := Lib.hid (fun (w' : World) => features_calls s (by omega) w')
    by_cases h8 : 8 < (feats s).length
    · have h8' : (8 : Int) < ((feats s).length : Int) := by omega
      clear hs
      go_wp2_with (first
        | (go_at_call 44; refine HSup.out.mono ?_; rintro e w5 ⟨rfl, n5⟩; have HN5 := Lib.hid n5; clear n5)
        | (go_at_call 18; refine (HFe.out _).mono ?_; rintro e w6 ⟨v6, rfl, r6, n6⟩; obtain ⟨ao6, cap6, rfl⟩ := owns_form r6; have HN6 := Lib.hid (HN5.out.trans n6); clear r6 n6)
        | (go_at_call 17; refine (wakes_calls _).mono ?_; rintro e w9 ⟨rfl, n9⟩; have HN9 := Lib.hid n9; clear n9))
      go_ret
      exact ⟨rfl, (HN.out.trans HN6.out).trans HN9.out⟩
    · have h8' : ¬ (8 : Int) < ((feats s).length : Int) := by omega
      have HP := Lib.hid (fun (w' : World) (hn : Near W w') => primes_cov (HI.out.near hn) hs24 hs (by omega))
      clear hs
      go_upto_region 7 with (first
        | (go_at_call 44; refine HSup.out.mono ?_; rintro e w5 ⟨rfl, n5⟩; have HN5 := Lib.hid n5; clear n5)
        | (go_at_call 18; refine (HFe.out _).mono ?_; rintro e w6 ⟨v6, rfl, r6, n6⟩; obtain ⟨ao6, cap6, rfl⟩ := owns_form r6; have HN6 := Lib.hid (HN5.out.trans n6); have ha6 := keepN HN6.out HA.out; have d0 := cell1 (o := 0) ha6 rfl; have d1 := cell1 (o := 1) ha6 rfl; clear r6 n6 ha6)
        | (go_at_call 74; refine (HP.out _ HN6.out).mono ?_; rintro e w7 ⟨bo, bcap, L, rfl, hrd, hco, hlen, n7⟩; have HN7 := Lib.hid (HN6.out.trans n7); have HRD := Lib.hid hrd; have HCo := Lib.hid hco; clear n7 hrd hco d0 d1)
        | (go_at_call 75; refine (false_f _).mono ?_; rintro e w8 ⟨v8, rfl, hi8, n8⟩; obtain ⟨u1, u2, u3, u4, rfl⟩ := hi8.form; have HI8 := Lib.hid hi8; have HN8 := Lib.hid n8; clear hi8 n8))
      have hW9 : ∀ W9, W9 = w8.alloc (.cells #[.slice u1 u2 u3, .int .i64 u4] 31) → Near w8 W9 ∧ W9.heap[w8.heap.size]? = some (.cells #[.slice u1 u2 u3, .int .i64 u4] 31 (0, 0)) := by
        rintro W9 rfl
        exact ⟨(Near.refl w8).alloc _, heap_new_at rfl⟩
      have h9 := hW9 _ rfl
      generalize w8.alloc (.cells #[.slice u1 u2 u3, .int .i64 u4] 31) = W9 at h9 ⊢
      obtain ⟨n9, hb9⟩ := h9
      have hi9 : IsF W9 (.agg #[.slice u1 u2 u3, .int .i64 u4]) (orK L 0) := (HI8.out.near n9)
      have hRow : ∀ (k : Nat) x, L[k]? = some x → ∃ g, bo = some ⟨g, 0, none⟩ ∧ ∀ w', Near w8 w' → w'.cell? ⟨g, k * 2, none⟩ = some (.int .u32 x.on) ∧ w'.cell? ⟨g, k * 2 + 1, none⟩ = some (.int .u32 x.off) := fun k x hx => by
        obtain ⟨g, hg, e0, e1⟩ := HRD.out k x hx
        exact ⟨g, hg, fun w' hn => ⟨(HN8.out.trans hn).cell e0, (HN8.out.trans hn).cell e1⟩⟩
      have HRow := Lib.hid hRow
      have HIA := Lib.hid (fun (w' : World) (hn : Near w8 w') => HI.out.near ((HN7.out.trans HN8.out).trans hn))
      have HA8 := Lib.hid (fun (w' : World) (hn : Near w8 w') => keepN ((HN7.out.trans HN8.out).trans hn) HA.out)
      have HN0 := Lib.hid (fun (w' : World) (hn : Near w8 w') => ((HN.out.trans HN7.out).trans HN8.out).trans hn)
      have hw38 : w3.heap.size < w8.heap.size := by
        have h1 := (HN7.out.trans HN8.out).size'
        omega
      obtain ⟨B, hB⟩ : ∃ B, w8.heap.size = B := ⟨_, rfl⟩
      have HB := Lib.hid hB
      rw [hB] at hb9 hw38 ⊢
      have HN9 := Lib.hid n9
      have HB9 := Lib.hid hb9
      have HI9 := Lib.hid hi9
      have hll : ¬ ((L.length : Int) < 0) := by omega
      clear hW9 hRow n9 hb9 hi9 HSup HFe HP HN5 HN6 HRD HI8 hB c0 c1 H3 HD
      go_loopw [10, 11] (fun i x wr => ∃ k : Nat, k ≤ L.length ∧ i = .int .i64 k ∧ Near w8 wr ∧ ∃ (p1 : Option Addr) (p2 p3 : Nat) (p4 : Int), wr.heap[B]? = some (.cells #[.slice p1 p2 p3, .int .i64 p4] 31 (0, 0)) ∧ IsF wr (.agg #[.slice p1 p2 p3, .int .i64 p4]) (orK L k)) (fun i _ _ => L.length - (intOf i).toNat)
      case atStart => exact ⟨0, Nat.zero_le _, rfl, HN9.out, _, _, _, _, HB9.out, HI9.out⟩
      case round =>
        obtain ⟨k, hk, rfl, hnr, p1, p2, p3, p4, hbr, hir⟩ := hrel
        have HNR := Lib.hid hnr
        have HBR := Lib.hid hbr
        have HIR := Lib.hid hir
        have hwB : B < wr.heap.size := (Array.getElem?_eq_some_iff.1 hbr).1
        clear hnr hbr hir
        by_cases hlt : k < L.length
        · have hlt' : (k : Int) < L.length := by omega
          obtain ⟨cx, hx⟩ : ∃ x, L[k]? = some x := ⟨_, List.getElem?_eq_getElem hlt⟩
          obtain ⟨gb, ebo, hcl⟩ := HRow.out k cx hx
          subst ebo
          have HX := Lib.hid hx
          have HCl := Lib.hid (fun (w' : World) (hn : Near wr w') => hcl w' (HNR.out.trans hn))
          have hc0 := (hcl _ HNR.out).1
          clear hx hcl hc0
          go_wp2_with fail
          go_cut [11] (fun x wx => ∃ (bx : Nat) (v1 : Option Addr) (v2 v3 : Nat) (v4 : Int), x = .pointer (some ⟨bx, 0, none⟩) ∧ B < bx ∧ wx.heap[bx]? = some (.cells #[.slice v1 v2 v3, .int .i64 v4] 31 (0, 0)) ∧ IsF wx (.agg #[.slice v1 v2 v3, .int .i64 v4]) (cuF cx) ∧ Near wr wx)
          case first =>
            refine wp_region_noPanic ?_
            refine wp_region_held_drew (S := (fun w' => w'.cell? ⟨gb, k * 2, none⟩ = some (.int .u32 (cx.on : Nat)) ∧ w'.cell? ⟨gb, k * 2 + 1, none⟩ = some (.int .u32 (cx.off : Nat)))) (by kernel_rfl) (HCl.out _ (Near.refl _).drew) (fun hHeld => ?_)
            have hnd := (Near.refl wr).drew
            generalize wr.drew = x0 at hnd hHeld ⊢
            have HW0 := Lib.hid hnd
            clear hnd
            refine takeH0 (v := .slice (some ⟨gb, 0, none⟩) L.length bcap) (by kernel_rfl) (by kernel_rfl) (by kernel_rfl) (fun _ _ _ h => h) (Or.inl ⟨by rfl, fun w' hSw => ?_⟩) hHeld ?_
            · go_simp
            try simp only [Act.put, List.setIfInBounds_toArray, List.set_cons_zero, List.set_cons_succ]
            refine takeH1 (v := .int .i64 k) (by kernel_rfl) (by kernel_rfl) (by kernel_rfl) (fun _ _ _ h => h) (Or.inl ⟨by rfl, fun w' hSw => ?_⟩) hHeld ?_
            · go_simp
            try simp only [Act.put, List.setIfInBounds_toArray, List.set_cons_zero, List.set_cons_succ]
            refine takeH2 (v := .pointer (some ⟨gb, k * 2, none⟩)) (by kernel_rfl) (by kernel_rfl) (by kernel_rfl) (fun _ _ _ h => h) (Or.inl ⟨by rfl, fun w' hSw => ?_⟩) hHeld ?_
            · go_simp
            try simp only [Act.put, List.setIfInBounds_toArray, List.set_cons_zero, List.set_cons_succ]
            refine takeH3 (v := .pointer (some ⟨gb, k * 2, none⟩)) (by kernel_rfl) (by kernel_rfl) (by kernel_rfl) (fun _ _ _ h => h) (Or.inl ⟨by rfl, fun w' hSw => ?_⟩) hHeld ?_
            · go_simp
            try simp only [Act.put, List.setIfInBounds_toArray, List.set_cons_zero, List.set_cons_succ]
            refine takeH4 (v := .int .u32 (cx.on : Nat)) (by kernel_rfl) (by kernel_rfl) (by kernel_rfl) (fun _ _ _ h => h) (Or.inl ⟨by rfl, fun w' hSw => ?_⟩) hHeld ?_
            · go_simp
            try simp only [Act.put, List.setIfInBounds_toArray, List.set_cons_zero, List.set_cons_succ]
            refine takeH5 (v := .slice (some ⟨gb, 0, none⟩) L.length bcap) (by kernel_rfl) (by kernel_rfl) (by kernel_rfl) (fun _ _ _ h => h) (Or.inl ⟨by rfl, fun w' hSw => ?_⟩) hHeld ?_
            · go_simp
            try simp only [Act.put, List.setIfInBounds_toArray, List.set_cons_zero, List.set_cons_succ]
            refine takeH6 (v := .int .i64 k) (by kernel_rfl) (by kernel_rfl) (by kernel_rfl) (fun _ _ _ h => h) (Or.inl ⟨by rfl, fun w' hSw => ?_⟩) hHeld ?_
            · go_simp
            try simp only [Act.put, List.setIfInBounds_toArray, List.set_cons_zero, List.set_cons_succ]
            refine takeH7 (v := .pointer (some ⟨gb, k * 2, none⟩)) (by kernel_rfl) (by kernel_rfl) (by kernel_rfl) (fun _ _ _ h => h) (Or.inl ⟨by rfl, fun w' hSw => ?_⟩) hHeld ?_
            · go_simp
            try simp only [Act.put, List.setIfInBounds_toArray, List.set_cons_zero, List.set_cons_succ]
            refine takeH8 (v := .pointer (some ⟨gb, k * 2 + 1, none⟩)) (by kernel_rfl) (by kernel_rfl) (by kernel_rfl) (fun _ _ _ h => h) (Or.inl ⟨by rfl, fun w' hSw => ?_⟩) hHeld ?_
            · go_simp
            try simp only [Act.put, List.setIfInBounds_toArray, List.set_cons_zero, List.set_cons_succ]
            refine takeH9 (v := .int .u32 (cx.off : Nat)) (by kernel_rfl) (by kernel_rfl) (by kernel_rfl) (fun _ _ _ h => h) (Or.inl ⟨by rfl, fun w' hSw => ?_⟩) hHeld ?_
            · go_simp
            try simp only [Act.put, List.setIfInBounds_toArray, List.set_cons_zero, List.set_cons_succ]
            clear hHeld
            refine wpAnyH_ready (rs := [10, 11]) (by kernel_rfl) (by simp) ?_
            refine AllReadyH.cons (i := 10) rfl (fun K hK => ?_) (AllReadyH.cons (i := 11) rfl (fun K hK => ?_) AllReadyH.nil)
            · skip
              go_simp
              go_at_call 73
              refine (cube_f (on := cx.on) (off := cx.off) (Nat.lt_trans cx.hon (by decide)) (Nat.lt_trans cx.hoff (by decide)) _).mono ?_
              rintro e y1 ⟨v, rfl, dd, nY⟩
              obtain ⟨d1, d2, d3, d4, rfl⟩ := dd.form
              have HD1 := Lib.hid dd
              have HWy1 := Lib.hid (HW0.out.trans nY)
              refine hK.out _ _ (HCl.out _ HWy1.out) (fun hHeld => ?_)
              clear hK K dd nY hHeld
              try simp only [Act.put, List.setIfInBounds_toArray, List.set_cons_zero, List.set_cons_succ]
              refine wpAnyH_ready (rs := [11]) (by kernel_rfl) (by simp) ?_
              refine AllReadyH.cons (i := 11) rfl (fun K hK => ?_) AllReadyH.nil
              go_simp
              obtain ⟨y2, hy⟩ : ∃ y, y = y1.alloc (.cells #[.slice none 0 0, .int .i64 0] 31) := ⟨_, rfl⟩
              have nY : Near y1 y2 := by rw [hy]; exact (Near.refl y1).alloc _
              have HB1 := Lib.hid (show y2.heap[y1.heap.size]? = some (.cells #[.slice none 0 0, .int .i64 0] 31 (0, 0)) by rw [hy]; exact heap_new_at rfl)
              rw [← hy]
              obtain ⟨p5, hp⟩ : ∃ p, p = y1.heap.size := ⟨_, rfl⟩
              rw [← hp] at HB1 ⊢
              have HP1 := Lib.hid (show wr.heap.size ≤ p5 by rw [hp]; exact HWy1.out.size)
              have HWy2 := Lib.hid (HWy1.out.trans nY)
              have HD2 := Lib.hid (HD1.out.near nY)
              clear HD1
              have HD1 := HD2
              refine hK.out _ _ (HCl.out _ HWy2.out) (fun hHeld => ?_)
              clear hK K hy nY hp hHeld
              try simp only [Act.put, List.setIfInBounds_toArray, List.set_cons_zero, List.set_cons_succ]
              have zz0 := cell1 (o := 0) HB1.out rfl
              have zz1 := cell1 (o := 1) HB1.out rfl
              have zzf := free1 HB1.out
              refine wpAnyH_ready (rs := [12]) (by kernel_rfl) (by simp) ?_
              refine AllReadyH.cons (i := 12) rfl (fun K hK => ?_) AllReadyH.nil
              go_simp
              obtain ⟨x9, hy⟩ : ∃ y, y = (y2.setCell ⟨p5, 0, none⟩ (.slice d1 d2 d3)).setCell ⟨p5, 1, none⟩ (.int .i64 d4) := ⟨_, rfl⟩
              have HB9x := Lib.hid (show x9.heap[p5]? = some (.cells #[.slice d1 d2 d3, .int .i64 d4] 31 (0, 0)) by rw [hy]; exact box31 HB1.out _ _)
              have HD9 := Lib.hid (show IsF x9 (.agg #[.slice d1 d2 d3, .int .i64 d4]) (cuF cx) by rw [hy]; exact isF_two HD1.out HB1.out)
              have HW9 := Lib.hid (show Near wr x9 by rw [hy]; exact (HWy2.out.set HP1.out _).set HP1.out _)
              rw [← hy]
              refine hK.out _ _ (HCl.out _ HW9.out) (fun hHeld => ?_)
              clear hK K hy hHeld zz0 zz1 zzf
              try simp only [Act.put, List.setIfInBounds_toArray, List.set_cons_zero, List.set_cons_succ]
              refine wpAnyH_done (by kernel_rfl) ?_ _
              refine NoPanic.normal ?_
              go_wp2_with fail
              go_meet
              exact ⟨p5, d1, d2, d3, d4, rfl, Nat.lt_of_lt_of_le hwB HP1.out, HB9x.out, HD9.out, HW9.out⟩
            · skip
              have HWx0 := HW0
              go_simp
              obtain ⟨y1, hy⟩ : ∃ y, y = x0.alloc (.cells #[.slice none 0 0, .int .i64 0] 31) := ⟨_, rfl⟩
              have nY : Near x0 y1 := by rw [hy]; exact (Near.refl x0).alloc _
              have HB1 := Lib.hid (show y1.heap[x0.heap.size]? = some (.cells #[.slice none 0 0, .int .i64 0] 31 (0, 0)) by rw [hy]; exact heap_new_at rfl)
              rw [← hy]
              obtain ⟨p5, hp⟩ : ∃ p, p = x0.heap.size := ⟨_, rfl⟩
              rw [← hp] at HB1 ⊢
              have HP1 := Lib.hid (show wr.heap.size ≤ p5 by rw [hp]; exact HWx0.out.size)
              have HWy1 := Lib.hid (HWx0.out.trans nY)
              refine hK.out _ _ (HCl.out _ HWy1.out) (fun hHeld => ?_)
              clear hK K hy nY hp hHeld
              try simp only [Act.put, List.setIfInBounds_toArray, List.set_cons_zero, List.set_cons_succ]
              refine wpAnyH_ready (rs := [10]) (by kernel_rfl) (by simp) ?_
              refine AllReadyH.cons (i := 10) rfl (fun K hK => ?_) AllReadyH.nil
              go_simp
              go_at_call 73
              refine (cube_f (on := cx.on) (off := cx.off) (Nat.lt_trans cx.hon (by decide)) (Nat.lt_trans cx.hoff (by decide)) _).mono ?_
              rintro e y2 ⟨v, rfl, dd, nY⟩
              obtain ⟨d1, d2, d3, d4, rfl⟩ := dd.form
              have HD1 := Lib.hid dd
              have HWy2 := Lib.hid (HWy1.out.trans nY)
              have HB2 := Lib.hid (keepN nY HB1.out)
              clear HB1
              have HB1 := HB2
              refine hK.out _ _ (HCl.out _ HWy2.out) (fun hHeld => ?_)
              clear hK K dd nY hHeld
              try simp only [Act.put, List.setIfInBounds_toArray, List.set_cons_zero, List.set_cons_succ]
              have zz0 := cell1 (o := 0) HB1.out rfl
              have zz1 := cell1 (o := 1) HB1.out rfl
              have zzf := free1 HB1.out
              refine wpAnyH_ready (rs := [12]) (by kernel_rfl) (by simp) ?_
              refine AllReadyH.cons (i := 12) rfl (fun K hK => ?_) AllReadyH.nil
              go_simp
              obtain ⟨x9, hy⟩ : ∃ y, y = (y2.setCell ⟨p5, 0, none⟩ (.slice d1 d2 d3)).setCell ⟨p5, 1, none⟩ (.int .i64 d4) := ⟨_, rfl⟩
              have HB9x := Lib.hid (show x9.heap[p5]? = some (.cells #[.slice d1 d2 d3, .int .i64 d4] 31 (0, 0)) by rw [hy]; exact box31 HB1.out _ _)
              have HD9 := Lib.hid (show IsF x9 (.agg #[.slice d1 d2 d3, .int .i64 d4]) (cuF cx) by rw [hy]; exact isF_two HD1.out HB1.out)
              have HW9 := Lib.hid (show Near wr x9 by rw [hy]; exact (HWy2.out.set HP1.out _).set HP1.out _)
              rw [← hy]
              refine hK.out _ _ (HCl.out _ HW9.out) (fun hHeld => ?_)
              clear hK K hy hHeld zz0 zz1 zzf
              try simp only [Act.put, List.setIfInBounds_toArray, List.set_cons_zero, List.set_cons_succ]
              refine wpAnyH_done (by kernel_rfl) ?_ _
              refine NoPanic.normal ?_
              go_wp2_with fail
              go_meet
              exact ⟨p5, d1, d2, d3, d4, rfl, Nat.lt_of_lt_of_le hwB HP1.out, HB9x.out, HD9.out, HW9.out⟩
          case rest =>
            obtain ⟨bx, v1, v2, v3, v4, rfl, hBx, hbx, hix, hnc⟩ := hcut
            have HNC := Lib.hid (HNR.out.trans hnc)
            have HBX := Lib.hid hbx
            have HIX := Lib.hid hix
            have HBB := Lib.hid (keepN hnc HBR.out)
            have HIB := Lib.hid (HIR.out.near hnc)
            have HAc := Lib.hid (HA8.out _ HNC.out)
            have HNo := Lib.hid (HCo.out.held cx (List.mem_of_getElem? HX.out))
            have HWi := Lib.hid (HCo.out.within cx (List.mem_of_getElem? HX.out))
            have q0 := cell1 (o := 0) hbx rfl
            have q1 := cell1 (o := 1) hbx rfl
            clear hnc hbx hix
            go_upto_region 13 with (first
              | (go_at_call 35; refine (empty_isP HIX.out HNo.out).mono ?_; rintro e y1 ⟨rfl, m1⟩; have M1 := Lib.hid m1; have hb1 := keepN m1 HBX.out; have e0 := cell1 (o := 0) hb1 rfl; have e1 := cell1 (o := 1) hb1 rfl; have ha1 := keepN m1 HAc.out; have f0 := cell1 (o := 0) ha1 rfl; have f1 := cell1 (o := 1) ha1 rfl; clear m1 hb1 ha1)
              | (go_at_call 47; refine (within_is (HIX.out.near M1.out) (HIA.out _ (HNC.out.trans M1.out)) HWi.out.symm).mono ?_; rintro e y2 ⟨rfl, m2⟩; have M2 := Lib.hid (M1.out.trans m2); clear m2 e0 e1 f0 f1))
            clear q0 q1
            go_loopw [12] (fun i wx => ∃ j : Nat, j ≤ L.length ∧ i = .int .i64 j ∧ Near y2 wx) (fun i _ => L.length - (intOf i).toNat)
            case atStart => exact ⟨0, Nat.zero_le _, rfl, Near.refl _⟩
            case round =>
              rename World => wx
              obtain ⟨j, hj, rfl, hnx⟩ := hrel
              have HNX := Lib.hid (M2.out.trans hnx)
              have HNY := Lib.hid hnx
              clear hnx
              by_cases hjl : j < L.length
              · have hjl' : (j : Int) < L.length := by omega
                by_cases hjk : j = k
                · have hjkI : ((j : Int) = (k : Int)) := by omega
                  have hjkd : decide ((j : Int) = (k : Int)) = true := decide_eq_true hjkI
                  subst hjk
                  clear hjkI
                  go_wp2_with fail
                  go_quiet (fail)
                  all_goals
                    go_wp2_with fail
                    exact ⟨⟨j + 1, by omega, by go_num, HNY.out.drewN _⟩, by simp [intOf]; omega⟩
                · have hjkI : ¬ ((j : Int) = (k : Int)) := by omega
                  have hjkd : decide ((j : Int) = (k : Int)) = false := decide_eq_false hjkI
                  obtain ⟨cy, hy⟩ : ∃ y, L[j]? = some y := ⟨_, List.getElem?_eq_getElem hjl⟩
                  obtain ⟨gb', ebo, hcl⟩ := HRow.out j cy hy
                  cases ebo
                  have HAp := Lib.hid (HCo.out.apart k j cx cy HX.out hy hjk)
                  have HSY := Lib.hid (show ∀ w', Near wx w' → (w'.cell? ⟨bx, 0, none⟩ = some (.slice v1 v2 v3) ∧ w'.cell? ⟨bx, 1, none⟩ = some (.int .i64 v4)) ∧ w'.cell? ⟨gb, j * 2, none⟩ = some (.int .u32 (cy.on : Nat)) ∧ w'.cell? ⟨gb, j * 2 + 1, none⟩ = some (.int .u32 (cy.off : Nat)) from fun w' hn => ⟨⟨cell1 (o := 0) (keepN (HNX.out.trans hn) HBX.out) rfl, cell1 (o := 1) (keepN (HNX.out.trans hn) HBX.out) rfl⟩, hcl w' (HNC.out.trans (HNX.out.trans hn))⟩)
                  clear hy hcl
                  go_wp2_with fail
                  refine wp_region_noPanic ?_
                  refine wp_region_held_drew (S := (fun w' => (w'.cell? ⟨bx, 0, none⟩ = some (.slice v1 v2 v3) ∧ w'.cell? ⟨bx, 1, none⟩ = some (.int .i64 v4)) ∧ w'.cell? ⟨gb, j * 2, none⟩ = some (.int .u32 (cy.on : Nat)) ∧ w'.cell? ⟨gb, j * 2 + 1, none⟩ = some (.int .u32 (cy.off : Nat)))) (by kernel_rfl) (HSY.out _ (Near.refl _).drew) (fun hHeld => ?_)
                  have hnd := (Near.refl wx).drew
                  generalize wx.drew = x0 at hnd hHeld ⊢
                  have HW0 := Lib.hid hnd
                  clear hnd
                  refine takeH0 (v := .int .i64 j) (by kernel_rfl) (by kernel_rfl) (by kernel_rfl) (fun _ _ _ h => h) (Or.inl ⟨by rfl, fun w' hSw => ?_⟩) hHeld ?_
                  · go_simp
                  try simp only [Act.put, List.setIfInBounds_toArray, List.set_cons_zero, List.set_cons_succ]
                  refine takeH1 (v := .int .i64 k) (by kernel_rfl) (by kernel_rfl) (by kernel_rfl) (fun _ _ _ h => h) (Or.inl ⟨by rfl, fun w' hSw => ?_⟩) hHeld ?_
                  · go_simp
                  try simp only [Act.put, List.setIfInBounds_toArray, List.set_cons_zero, List.set_cons_succ]
                  refine takeH2 (v := .bool true) (by kernel_rfl) (by kernel_rfl) (by kernel_rfl) (fun _ _ _ h => h) (Or.inl ⟨by rfl, fun w' hSw => ?_⟩) hHeld ?_
                  · go_simp
                  try simp only [Act.put, List.setIfInBounds_toArray, List.set_cons_zero, List.set_cons_succ]
                  refine takeH3 (v := .bool true) (by kernel_rfl) (by kernel_rfl) (by kernel_rfl) (fun _ _ _ h => h) (Or.inl ⟨by rfl, fun w' hSw => ?_⟩) hHeld ?_
                  · go_simp
                  try simp only [Act.put, List.setIfInBounds_toArray, List.set_cons_zero, List.set_cons_succ]
                  refine takeH4 (v := .agg #[.slice v1 v2 v3, .int .i64 v4]) (by kernel_rfl) (by kernel_rfl) (by kernel_rfl) (fun _ _ _ h => h) (Or.inl ⟨by rfl, fun w' hSw => ?_⟩) hHeld ?_
                  · go_simp
                  try simp only [Act.put, List.setIfInBounds_toArray, List.set_cons_zero, List.set_cons_succ]
                  refine takeH5 (v := .slice (some ⟨gb, 0, none⟩) L.length bcap) (by kernel_rfl) (by kernel_rfl) (by kernel_rfl) (fun _ _ _ h => h) (Or.inl ⟨by rfl, fun w' hSw => ?_⟩) hHeld ?_
                  · go_simp
                  try simp only [Act.put, List.setIfInBounds_toArray, List.set_cons_zero, List.set_cons_succ]
                  refine takeH6 (v := .int .i64 j) (by kernel_rfl) (by kernel_rfl) (by kernel_rfl) (fun _ _ _ h => h) (Or.inl ⟨by rfl, fun w' hSw => ?_⟩) hHeld ?_
                  · go_simp
                  try simp only [Act.put, List.setIfInBounds_toArray, List.set_cons_zero, List.set_cons_succ]
                  refine takeH7 (v := .pointer (some ⟨gb, j * 2, none⟩)) (by kernel_rfl) (by kernel_rfl) (by kernel_rfl) (fun _ _ _ h => h) (Or.inl ⟨by rfl, fun w' hSw => ?_⟩) hHeld ?_
                  · go_simp
                  try simp only [Act.put, List.setIfInBounds_toArray, List.set_cons_zero, List.set_cons_succ]
                  refine takeH8 (v := .pointer (some ⟨gb, j * 2, none⟩)) (by kernel_rfl) (by kernel_rfl) (by kernel_rfl) (fun _ _ _ h => h) (Or.inl ⟨by rfl, fun w' hSw => ?_⟩) hHeld ?_
                  · go_simp
                  try simp only [Act.put, List.setIfInBounds_toArray, List.set_cons_zero, List.set_cons_succ]
                  refine takeH9 (v := .int .u32 (cy.on : Nat)) (by kernel_rfl) (by kernel_rfl) (by kernel_rfl) (fun _ _ _ h => h) (Or.inl ⟨by rfl, fun w' hSw => ?_⟩) hHeld ?_
                  · go_simp
                  try simp only [Act.put, List.setIfInBounds_toArray, List.set_cons_zero, List.set_cons_succ]
                  refine takeH10 (v := .slice (some ⟨gb, 0, none⟩) L.length bcap) (by kernel_rfl) (by kernel_rfl) (by kernel_rfl) (fun _ _ _ h => h) (Or.inl ⟨by rfl, fun w' hSw => ?_⟩) hHeld ?_
                  · go_simp
                  try simp only [Act.put, List.setIfInBounds_toArray, List.set_cons_zero, List.set_cons_succ]
                  refine takeH11 (v := .int .i64 j) (by kernel_rfl) (by kernel_rfl) (by kernel_rfl) (fun _ _ _ h => h) (Or.inl ⟨by rfl, fun w' hSw => ?_⟩) hHeld ?_
                  · go_simp
                  try simp only [Act.put, List.setIfInBounds_toArray, List.set_cons_zero, List.set_cons_succ]
                  refine takeH12 (v := .pointer (some ⟨gb, j * 2, none⟩)) (by kernel_rfl) (by kernel_rfl) (by kernel_rfl) (fun _ _ _ h => h) (Or.inl ⟨by rfl, fun w' hSw => ?_⟩) hHeld ?_
                  · go_simp
                  try simp only [Act.put, List.setIfInBounds_toArray, List.set_cons_zero, List.set_cons_succ]
                  refine takeH13 (v := .pointer (some ⟨gb, j * 2 + 1, none⟩)) (by kernel_rfl) (by kernel_rfl) (by kernel_rfl) (fun _ _ _ h => h) (Or.inl ⟨by rfl, fun w' hSw => ?_⟩) hHeld ?_
                  · go_simp
                  try simp only [Act.put, List.setIfInBounds_toArray, List.set_cons_zero, List.set_cons_succ]
                  refine takeH14 (v := .int .u32 (cy.off : Nat)) (by kernel_rfl) (by kernel_rfl) (by kernel_rfl) (fun _ _ _ h => h) (Or.inl ⟨by rfl, fun w' hSw => ?_⟩) hHeld ?_
                  · go_simp
                  try simp only [Act.put, List.setIfInBounds_toArray, List.set_cons_zero, List.set_cons_succ]
                  clear hHeld
                  refine wpAnyH_ready (rs := [15]) (by kernel_rfl) (by simp) ?_
                  refine AllReadyH.cons (i := 15) rfl (fun K hK => ?_) AllReadyH.nil
                  go_simp
                  go_at_call 73
                  refine (cube_f (on := cy.on) (off := cy.off) (Nat.lt_trans cy.hon (by decide)) (Nat.lt_trans cy.hoff (by decide)) _).mono ?_
                  rintro e x1 ⟨v, rfl, dd, nY⟩
                  obtain ⟨d1, d2, d3, d4, rfl⟩ := dd.form
                  have HD1 := Lib.hid dd
                  have HW1 := Lib.hid (HW0.out.trans nY)
                  refine hK.out _ _ (HSY.out _ HW1.out) (fun hHeld => ?_)
                  clear hK K dd nY hHeld
                  try simp only [Act.put, List.setIfInBounds_toArray, List.set_cons_zero, List.set_cons_succ]
                  refine wpAnyH_ready (rs := [16]) (by kernel_rfl) (by simp) ?_
                  refine AllReadyH.cons (i := 16) rfl (fun K hK => ?_) AllReadyH.nil
                  go_simp
                  go_at_call 47
                  refine (within_is (HIX.out.near (HNX.out.trans HW1.out)) HD1.out HAp.out.symm).mono ?_
                  rintro e x2 ⟨rfl, nY⟩
                  have HW2 := Lib.hid (HW1.out.trans nY)
                  refine hK.out _ _ (HSY.out _ HW2.out) (fun hHeld => ?_)
                  clear hK K nY
                  try simp only [Act.put, List.setIfInBounds_toArray, List.set_cons_zero, List.set_cons_succ]
                  refine takeH17 (v := .bool false) (by kernel_rfl) (by kernel_rfl) (by kernel_rfl) (fun _ _ _ h => h) (Or.inl ⟨by rfl, fun w' hSw => ?_⟩) hHeld ?_
                  · go_simp
                  try simp only [Act.put, List.setIfInBounds_toArray, List.set_cons_zero, List.set_cons_succ]
                  refine wpAnyH_done (by kernel_rfl) ?_ _
                  refine NoPanic.normal ?_
                  go_wp2_with fail
                  exact ⟨⟨j + 1, by omega, by go_num, HNY.out.trans HW2.out⟩, by simp [intOf]; omega⟩
              · have hjl' : j = L.length := by omega
                subst hjl'
                have hjl'' : ¬ ((L.length : Int) < L.length) := by omega
                have hb2 := keepN HNX.out HBB.out
                have hx2 := keepN HNX.out HBX.out
                have e0 := cell1 (o := 0) hb2 rfl
                have e1 := cell1 (o := 1) hb2 rfl
                have f0 := cell1 (o := 0) hx2 rfl
                have f1 := cell1 (o := 1) hx2 rfl
                clear hb2 hx2
                go_wp2_with (go_at_call 33; refine (or_f (HIB.out.near HNX.out) (HIX.out.near HNX.out)).mono ?_; rintro e x3 ⟨v, rfl, dd, nY⟩; obtain ⟨d1, d2, d3, d4, rfl⟩ := dd.form; have HD1 := Lib.hid dd; have HW3 := Lib.hid (HNX.out.trans nY); have HB3 := Lib.hid (keepN HW3.out HBB.out); have zz0 := cell1 (o := 0) HB3.out rfl; have zz1 := cell1 (o := 1) HB3.out rfl; have zzf := free1 HB3.out; clear dd nY e0 e1 f0 f1)
                exact ⟨⟨k + 1, by omega, by go_num, ((HNC.out.trans HW3.out).set (Nat.le_of_eq HB.out) _).set (Nat.le_of_eq HB.out) _, d1, d2, d3, d4, box31 HB3.out _ _, (isF_two HD1.out HB3.out).fixP fun c => orK_succ HX.out c⟩, by simp [intOf]; omega⟩
        · have hkl : k = L.length := by omega
          subst hkl
          have hlt' : ¬ (L.length : Int) < L.length := by omega
          have ha2 := HA8.out _ HNR.out
          have e0 := cell1 (o := 0) HBR.out rfl
          have e1 := cell1 (o := 1) HBR.out rfl
          have f0 := cell1 (o := 0) ha2 rfl
          have f1 := cell1 (o := 1) ha2 rfl
          clear ha2
          go_wp2_with (first
            | (go_at_call 42; refine (equal_f HIR.out (HIA.out _ HNR.out) (fun c => orK_all HCo.out c)).mono ?_; rintro e y1 ⟨rfl, m1⟩; have M1 := Lib.hid m1; clear m1)
            | (go_at_call 17; refine (wakes_calls _).mono ?_; rintro e y2 ⟨rfl, m2⟩; have M2 := Lib.hid m2; clear m2))
          go_ret
          exact ⟨rfl, (HN0.out _ (HNR.out.trans M1.out)).trans M2.out⟩

end Go.Proofs.Ytefclohjeompkaa
