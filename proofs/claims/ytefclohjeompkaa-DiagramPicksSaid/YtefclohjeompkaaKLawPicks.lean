/- Parts of a proof: PickA, LawPicks. -/
import Derived.Test.YtefclohjeompkaaKBestV
import Derived.Test.YtefclohjeompkaaKListB
import Derived.Test.YtefclohjeompkaaKRefQ
import Derived.Test.YtefclohjeompkaaKSaidA
import Derived.Test.YtefclohjeompkaaKListC
/- What is picked: the plain law. -/
namespace Go.Proofs.Ytefclohjeompkaa
open Go Go.RowKit Go.Proofs.Gen Go.Proofs.Bdd Go.Proofs.Bdd.T

/-- A number with the bits that a function gives. -/
theorem bits_nat (c : Nat → Bool) : ∀ k, ∃ d, d < 2 ^ k ∧ ∀ i, i < k → d.testBit i = c i
  | 0 => ⟨0, by simp, fun i hi => by omega⟩
  | k + 1 => by
    obtain ⟨d, hd, h⟩ := bits_nat c k
    cases hc : c k with
    | false =>
      refine ⟨d, by rw [Nat.pow_succ]; omega, fun i hi => ?_⟩
      by_cases e : i = k
      · rw [e, hc, Nat.testBit_lt_two_pow hd]
      · exact h i (by omega)
    | true =>
      refine ⟨2 ^ k + d, by rw [Nat.pow_succ]; omega, fun i hi => ?_⟩
      rw [testBit_add_pow hd, updI_upd]
      unfold upd
      by_cases e : i = k
      · rw [if_pos e, e, hc]
      · rw [if_neg e]
        exact h i (by omega)

theorem cnt_congr {f : Nat} {c d : Nat → Bool} : ∀ {n k : Nat}, (∀ i, k ≤ i → i < k + n → c i = d i) → cntFrom f c k n = cntFrom f d k n
  | 0, _, _ => rfl
  | n + 1, k, h => by
    unfold cntFrom
    rw [h k (Nat.le_refl _) (by omega), cnt_congr (n := n) (k := k + 1) (fun i h1 h2 => h i (by omega) (by omega))]

theorem all24 {i : Nat} (hi : i < 24) : (16777215 : Nat).testBit i = true := by
  rw [show (16777215 : Nat) = 2 ^ 24 - 1 by decide, Nat.testBit_two_pow_sub_one]
  exact decide_eq_true hi

theorem cnt_feats (d : Nat) : ∀ n k, k + n ≤ 24 → cntFrom 16777215 d.testBit k n + (featsTo d k).length = (featsTo d (k + n)).length
  | 0, _, _ => by simp [cntFrom]
  | n + 1, k, h => by
    have ih := cnt_feats d n (k + 1) (by omega)
    rw [show k + (n + 1) = k + 1 + n from by omega, ← ih, featsTo_succ, List.length_append,
      show cntFrom 16777215 d.testBit k (n + 1) = (if (16777215 : Nat).testBit k && d.testBit k then 1 else 0) + cntFrom 16777215 d.testBit (k + 1) n from rfl, all24 (by omega), Bool.true_and]
    generalize cntFrom 16777215 d.testBit (k + 1) n = x
    cases d.testBit k <;> simp <;> omega

theorem feats_nil {n : Nat} (hn : n < 2 ^ 24) (h : (feats n).length = 0) : n = 0 := by
  refine Nat.eq_of_testBit_eq fun i => ?_
  rw [Nat.zero_testBit]
  by_cases hi : i < 24
  · cases hb : n.testBit i with
    | false => rfl
    | true =>
      have hm : i ∈ feats n := by
        unfold feats featsTo
        exact List.mem_filter.2 ⟨List.mem_range.2 hi, hb⟩
      have := List.length_pos_of_mem hm
      omega
  · exact Nat.testBit_lt_two_pow (Nat.lt_of_lt_of_le hn (Nat.pow_le_pow_right (by omega) (by omega)))

theorem feats_pow {i : Nat} (hi : i < 24) : (feats (2 ^ i)).length = 1 := by
  have h : ∀ i : Fin 24, (feats (2 ^ i.val)).length = 1 := by decide +kernel
  exact h ⟨i, hi⟩

theorem isF_best {w : World} {v : Value} {f : F} (h : IsF w v f) (hn : nowhere f = false) (W : Nat → Bool → Int) : IsBest W f (bestX W f) (bestC W f) := by
  obtain ⟨t, hd, he⟩ := h
  obtain rfl : t.ev = f := funext he
  obtain ⟨h1, h2⟩ := ch_all W hd.1
  have hb := h2 (by rw [h1, hn]; rfl)
  rw [bestC_is hb, bestX_is hb]
  exact hb

section
variable {w : World} {v : Value} {f : F}

theorem pick_small (h : IsF w v f) (hn : nowhere f = false) {n : Nat} (hnn : n = (feats (bestC (wNear 0) f)).length) : nowhere (fun c => f c && betF 16777215 0 ((n : Int) - 1) c) = true := by
  refine nowhere_iff.2 fun c => ?_
  have hb := isF_best h hn (wNear 0)
  cases hc : f c with
  | false => rfl
  | true =>
    obtain ⟨d, hd, hdc⟩ := bits_nat c 24
    have hfd : f d.testBit = true := by rw [h.low _ c (fun i hi => hdc i hi)]; exact hc
    have hl := hb.least d hd hfd
    have e1 : ws (wNear 0) 24 0 d.testBit = ((feats (d ^^^ 0)).length : Int) := ws_far 0 d
    have e2 : ws (wNear 0) 24 0 (bestC (wNear 0) f).testBit = ((feats (bestC (wNear 0) f ^^^ 0)).length : Int) := ws_far 0 _
    rw [hb.cost, e1, e2, Nat.xor_zero, Nat.xor_zero, ← hnn] at hl
    have hcnt := cnt_feats d 24 0 (by omega)
    have hcc : cntFrom 16777215 c 0 24 = cntFrom 16777215 d.testBit 0 24 := cnt_congr fun i _ hi => (hdc i (by omega)).symm
    have hz : (featsTo d 0).length = 0 := rfl
    have hz2 : (featsTo d (0 + 24)).length = (feats d).length := rfl
    unfold lexLt at hl
    show (true && (decide ((0 : Int) ≤ (cntFrom 16777215 c 0 24 : Nat)) && decide (((cntFrom 16777215 c 0 24 : Nat) : Int) ≤ (n : Int) - 1))) = false
    have hge : ¬ (((cntFrom 16777215 c 0 24 : Nat) : Int) ≤ (n : Int) - 1) := by omega
    rw [decide_eq_false hge]
    simp

theorem pick_least (h : IsF w v f) (hn : nowhere f = false) {m : Nat} (hm : m < 2 ^ 24) (hf : f m.testBit = true) : ¬ m < bestC wLeast f := by
  have hb := isF_best h hn wLeast
  have hl := hb.least m hm hf
  rw [hb.cost, ws_least, ws_least] at hl
  unfold lexLt at hl
  omega

theorem pick_near (h : IsF w v f) (hn : nowhere f = false) {m : Nat} (hm : m < 2 ^ 24) (hf : f m.testBit = true) : bestC (wNear m) f = m := by
  have hb := isF_best h hn (wNear m)
  have hl := hb.least m hm hf
  have e1 : ws (wNear m) 24 0 m.testBit = ((feats (m ^^^ m)).length : Int) := ws_far m m
  have e2 : ws (wNear m) 24 0 (bestC (wNear m) f).testBit = ((feats (bestC (wNear m) f ^^^ m)).length : Int) := ws_far m _
  rw [hb.cost, e1, e2, Nat.xor_self, show ((feats 0).length : Int) = 0 from rfl] at hl
  unfold lexLt at hl
  have hx : bestC (wNear m) f ^^^ m = 0 := feats_nil (Nat.xor_lt_two_pow hb.lt hm) (by omega)
  exact Nat.eq_of_testBit_eq fun i => by
    have := congrArg (fun x => Nat.testBit x i) hx
    simp only [Nat.testBit_xor, Nat.zero_testBit] at this
    cases h1 : (bestC (wNear m) f).testBit i <;> cases h2 : m.testBit i <;> simp_all

theorem pick_far (h : IsF w v f) (hn : nowhere f = false) {m : Nat} (hm : m < 2 ^ 24) (h2 : 2 ≤ (feats (bestC (wNear m) f ^^^ m)).length) {i : Nat} (hi : i < 24) : f (m ^^^ 2 ^ i).testBit = false := by
  have hb := isF_best h hn (wNear m)
  refine Bool.eq_false_iff.2 fun hf => ?_
  have hp : (2 : Nat) ^ i < 2 ^ 24 := Nat.pow_lt_pow_right (by omega) hi
  have hl := hb.least (m ^^^ 2 ^ i) (Nat.xor_lt_two_pow hm hp) hf
  have e1 : ws (wNear m) 24 0 (m ^^^ 2 ^ i).testBit = ((feats ((m ^^^ 2 ^ i) ^^^ m)).length : Int) := ws_far m _
  have e2 : ws (wNear m) 24 0 (bestC (wNear m) f).testBit = ((feats (bestC (wNear m) f ^^^ m)).length : Int) := ws_far m _
  have e3 : (m ^^^ 2 ^ i) ^^^ m = 2 ^ i := by rw [Nat.xor_comm m, Nat.xor_assoc, Nat.xor_self, Nat.xor_zero]
  rw [hb.cost, e1, e2, e3, feats_pow hi] at hl
  unfold lexLt at hl
  omega

theorem pick_cheap (h : IsF w v f) (hn : nowhere f = false) {ls : List Int} (hl : ls.length ≤ 24) {m : Nat} (hm : m < 2 ^ 24) (hf : f m.testBit = true) : bestX (wCost ls) f ≤ costSum ls m.testBit ls.length := by
  have hb := isF_best h hn (wCost ls)
  have hle := hb.least m hm hf
  have e1 : ws (wCost ls) 24 0 m.testBit = costSum ls m.testBit ls.length := ws_costs ls hl _
  rw [e1] at hle
  unfold lexLt at hle
  omega
theorem pick_cost (h : IsF w v f) (hn : nowhere f = false) {ls : List Int} (hl : ls.length ≤ 24) : costSum ls (bestC (wCost ls) f).testBit ls.length = bestX (wCost ls) f := by
  have hb := isF_best h hn (wCost ls)
  have e1 : ws (wCost ls) 24 0 (bestC (wCost ls) f).testBit = costSum ls (bestC (wCost ls) f).testBit ls.length := ws_costs ls hl _
  rw [hb.cost, ← e1]
end

theorem has_is {w : World} {v : Value} {f : F} {b : Bool} {c : Nat} (h : IsF w v f) (hb : f c.testBit = b) (hc : c < 4294967296) : Calls Try.prog 70 #[v, .int .u32 c] w fun e w' => e = .returned (.bool b) ∧ Near w w' := by
  obtain ⟨t, hd, he⟩ := h
  rw [← hb, ← he]
  exact has_calls hd hc rfl

end Go.Proofs.Ytefclohjeompkaa

/- The law DiagramPicks: the walk (printed by gen_picks.py). -/
namespace Go.Proofs.Ytefclohjeompkaa
open Go Go.RowKit Go.Shelf Go.Proofs.Gen Go.Proofs.Bdd Go.Proofs.Bdd.T

theorem cheap_no {ls : List Int} {f : F} (hok : CostsOk ls) (hn : nowhere f = true) : cheapC ls f = 0 ∧ cheapX ls f = 0 ∧ cheapE ls f = 8 :=
  ⟨(if_pos hok).trans (best_no hn).1, (if_pos hok).trans (best_no hn).2, (if_pos hok).trans (if_pos hn)⟩
theorem cheap_yes {ls : List Int} {f : F} (hok : CostsOk ls) (hn : nowhere f = false) : cheapC ls f = bestC (wCost ls) f ∧ cheapX ls f = bestX (wCost ls) f ∧ cheapE ls f = 0 :=
  ⟨if_pos hok, if_pos hok, (if_pos hok).trans (if_neg (by rw [hn]; simp))⟩

set_option maxRecDepth 100000 in
set_option maxHeartbeats 64000000 in
theorem law_picks {w : World} {v : Value} {l : List SOp} (h : RdOps w v l) {nn : Nat} (hnn : nn < 4294967296) {cv : Value} {ls : List Int} (hc : RdInts w cv ls) (hnil : ∀ cap, cv = .slice none 0 cap → cap = 0) :
    Calls Try.prog 14 #[v, .int .u32 nn, cv] w fun e w' => e = .returned (.bool true) ∧ Near w w' := by
  have h3 := three_calls h
  have H3 := Lib.hid h3
  clear h3
  have HCV := Lib.hid hc
  obtain ⟨ao2, cap2, rfl, -⟩ := hc
  obtain ⟨ao, cap, rfl, -⟩ := h
  by_cases hok : ThreeOk l
  · have hd : decide (ThreeOk l) = true := decide_eq_true hok
    have HD := Lib.hid hd
    clear hd hok
    by_cases hl24 : 24 < ls.length
    · have hl24' : (24 : Int) < ls.length := by omega
      clear hnil
      go_enter Try.func14, Try.ntmps14
      go_wp2_with (first
        | (go_at_call 31; refine H3.out.mono ?_; rintro e w3 h3; obtain ⟨a1, a2, a3, a4, b1, b2, b3, b4, c1, c2, c3, c4, rfl, ia, ib, ic, n3⟩ := h3.mk; rw [HD.out]; have HN3 := Lib.hid n3; clear ia ib ic n3)
        | (go_at_call 17; refine (wakes_calls _).mono ?_; rintro e w4 ⟨rfl, n4⟩))
      go_ret
      exact ⟨rfl, (((HN3.out.alloc _).alloc _).alloc _).trans n4⟩
    have hl24' : ¬ ((24 : Int) < ls.length) := by omega
    have HL24 := Lib.hid hl24
    by_cases hco : CostsOk ls
    case neg =>
      have hdc : decide (CostsOk ls) = false := decide_eq_false hco
      have HDC := Lib.hid hdc
      clear hdc hco hnil hl24
      go_enter Try.func14, Try.ntmps14
      go_wp2_with (first
        | (go_at_call 31; refine H3.out.mono ?_; rintro e w3 h3; obtain ⟨a1, a2, a3, a4, b1, b2, b3, b4, c1, c2, c3, c4, rfl, ia, ib, ic, n3⟩ := h3.mk; rw [HD.out]; have HN3 := Lib.hid (((n3.alloc (.cells #[.slice a1 a2 a3, .int .i64 a4] 31)).alloc (.cells #[.slice b1 b2 b3, .int .i64 b4] 31)).alloc (.cells #[.slice c1 c2 c3, .int .i64 c4] 31)); clear ia ib ic n3)
        | (go_at_call 69; refine (costs_calls (HCV.out.near HN3.out) (by have := HL24.out; omega)).mono ?_; rintro e w4 ⟨rfl, n4⟩; rw [HDC.out])
        | (go_at_call 17; refine (wakes_calls _).mono ?_; rintro e w5 ⟨rfl, n5⟩))
      go_ret
      exact ⟨rfl, (HN3.out.trans n4).trans n5⟩
    case pos =>
      have hdc : decide (CostsOk ls) = true := decide_eq_true hco
      have HDC := Lib.hid hdc
      have HCO := Lib.hid hco
      have HNil := Lib.hid hnil
      have hmm : ((nn : Int) % 16777216 : Int) = ((nn % 16777216 : Nat) : Int) := rfl
      have hmt : (nn : Int).tmod 16777216 = ((nn % 16777216 : Nat) : Int) := rfl
      have hm24 : nn % 16777216 < 16777216 := Nat.mod_lt _ (by omega)
      have HMM := Lib.hid hmm
      have HMT := Lib.hid hmt
      clear hdc hco hnil hmm hmt
      obtain ⟨f, hfe⟩ : ∃ f, tF l 1 = f := ⟨_, rfl⟩
      have HFE := Lib.hid hfe
      clear hfe
      go_enter Try.func14, Try.ntmps14
      go_upto_region 2 with (go_at_call 31; refine H3.out.mono ?_; rintro e w3 h3; obtain ⟨a1, a2, a3, a4, b1, b2, b3, b4, c1, c2, c3, c4, rfl, ia, ib, ic, n3⟩ := h3.mk; rw [HD.out]; have HIA := Lib.hid (HFE.out ▸ ia); have HN3 := Lib.hid n3; clear ib ic ia n3 h3)
      have hn : Near w3 (((w3.alloc (.cells #[.slice a1 a2 a3, .int .i64 a4] 31)).alloc (.cells #[.slice b1 b2 b3, .int .i64 b4] 31)).alloc (.cells #[.slice c1 c2 c3, .int .i64 c4] 31)) := (((Near.refl w3).alloc _).alloc _).alloc _
      have ha : (((w3.alloc (.cells #[.slice a1 a2 a3, .int .i64 a4] 31)).alloc (.cells #[.slice b1 b2 b3, .int .i64 b4] 31)).alloc (.cells #[.slice c1 c2 c3, .int .i64 c4] 31)).heap[w3.heap.size]? = some (.cells #[.slice a1 a2 a3, .int .i64 a4] 31 (0, 0)) := (heap_old_at (by simp <;> omega)).trans ((heap_old_at (by simp)).trans (heap_new_at rfl))
      generalize ((w3.alloc (.cells #[.slice a1 a2 a3, .int .i64 a4] 31)).alloc (.cells #[.slice b1 b2 b3, .int .i64 b4] 31)).alloc (.cells #[.slice c1 c2 c3, .int .i64 c4] 31) = W at hn ha ⊢
      have HFA := Lib.hid (HIA.out.near hn)
      have HNW := Lib.hid (HN3.out.trans hn)
      have HA := Lib.hid (show ∀ w', Near W w' → w'.cell? ⟨w3.heap.size, 0, none⟩ = some (.slice a1 a2 a3) ∧ w'.cell? ⟨w3.heap.size, 1, none⟩ = some (.int .i64 a4) from fun w' h => ⟨cell1 (o := 0) (keepN h ha) rfl, cell1 (o := 1) (keepN h ha) rfl⟩)
      have HCVW := Lib.hid (HCV.out.near HNW.out)
      clear hn ha HIA
      generalize w3.heap.size = bk at HA ⊢
      obtain ⟨nb, hnb⟩ : ∃ b, nowhere f = b := ⟨_, rfl⟩
      have HEM := Lib.hid (fun (w' : World) (hn : Near W w') => show Calls Try.prog 35 _ w' (fun e w'' => e = .returned (.bool nb) ∧ Near w' w'') from hnb ▸ empty_f (HFA.out.near hn))
      have c1 := fun (w' : World) (hn : Near W w') => hnb ▸ least_f (HFA.out.near hn)
      have c2 := fun (w' : World) (hn : Near W w') => hnb ▸ small_f (HFA.out.near hn)
      have c3 := fun (w' : World) (hn : Near W w') => hnb ▸ near_f (HFA.out.near hn) nn hnn
      have c4 := fun (w' : World) (hn : Near W w') (u : Value) (hu : RdInts w' u ls) => cheap_f (HFA.out.near hn) hu
      generalize nn % 16777216 = m at HMM HMT hm24 c3
      obtain ⟨i0, hi0, hz0, hz1, hz2⟩ := info_parts info2
      obtain ⟨z0, z1⟩ := HA.out _ (Near.refl W)
      cases nb with
      | true =>
        obtain ⟨q1, q2, q3⟩ := cheap_no HCO.out hnb
        simp only [q1, q2, q3] at c4
        simp only [(best_no hnb).1, Bool.not_true] at c1 c2 c3
        have HC1 := Lib.hid c1
        have HC2 := Lib.hid c2
        have HC3 := Lib.hid c3
        have HC4 := Lib.hid c4
        clear c1 c2 c3 c4 q1 q2 q3 hnb
        go_upto_region 7 with (first
          | (go_at_call 65; refine (HC3.out _ M2.out).mono ?_; rintro e v3 ⟨rfl, mx⟩; have M3 := Lib.hid (M2.out.trans mx); obtain ⟨z0, z1⟩ := HA.out _ M3.out; clear mx)
          | (go_at_call 63; refine (HC2.out _ M1.out).mono ?_; rintro e v2 ⟨rfl, mx⟩; have M2 := Lib.hid (M1.out.trans mx); obtain ⟨z0, z1⟩ := HA.out _ M2.out; clear mx)
          | (go_at_call 61; refine (HC1.out _ M0.out).mono ?_; rintro e v1 ⟨rfl, mx⟩; have M1 := Lib.hid (M0.out.trans mx); obtain ⟨z0, z1⟩ := HA.out _ M1.out; clear mx)
          | (go_at_call 69; refine (costs_calls (HCVW.out.near (Near.refl W)) (by have := HL24.out; omega)).mono ?_; rintro e v0 ⟨rfl, mx⟩; have M0 := Lib.hid mx; obtain ⟨z0, z1⟩ := HA.out _ M0.out; clear mx; rw [HDC.out]))
        have HY := Lib.hid (show SrcOf v3.drew 1 ls.length (.slice ao2 ls.length cap2) (ls.map fun x => .int .i64 x) from (HCVW.out.near M3.out.drew).yields HNil.out)
        go_region_held3 (fun w' => w'.cell? ⟨bk, 0, none⟩ = some (.slice a1 a2 a3) ∧ w'.cell? ⟨bk, 1, none⟩ = some (.int .i64 a4)) (first | exact ⟨z0, z1⟩ | exact HA.out _ M5.out | exact HA.out _ M4.out)
          (first
            | (refine step_append_more rfl (.const (.slice none 0 0)) (.tmp 61) 83 rfl 0 2 i0 (.int .i64 0) 1 8 Try.underlying83 hi0 hz0 hz1 hz2 rfl (by decide) (.slice none 0 0) 0 [] rfl (World.ownsRow_nil _ _ _ _) _ ls.length (ls.map fun x => .int .i64 x) rfl HY.out (by simp [Value.oneCell']) (by have := HL24.out; unfold maxLen; omega) (by have := HL24.out; omega) (Nat.zero_le _) ?_; intro ao3 cap3 w4 hown4 hg4; simp only [Nat.zero_add, List.nil_append] at hown4 ⊢; have HO4 := Lib.hid (RdInts.owns hown4); have M4 := Lib.hid (M3.out.trans (show Near v3 w4 from Kept.grown (Near.refl v3).drew hg4 (fun k hk => by cases hk))); clear hown4 hg4)
            | (go_at_call 67; refine (HC4.out _ M4.out _ HO4.out).mono ?_; rintro e v5 ⟨rfl, mx⟩; have M5 := Lib.hid (M4.out.trans mx); obtain ⟨z0, z1⟩ := HA.out _ M5.out; clear mx))
        go_wp2_with (first
          | (go_at_call 17; refine (wakes_calls _).mono ?_; rintro e v7 ⟨rfl, mx⟩; have M7 := Lib.hid (M6.out.trans mx); obtain ⟨z0, z1⟩ := HA.out _ M7.out; clear mx)
          | (go_at_call 35; refine (HEM.out _ M5.out).mono ?_; rintro e v6 ⟨rfl, mx⟩; have M6 := Lib.hid (M5.out.trans mx); obtain ⟨z0, z1⟩ := HA.out _ M6.out; clear mx))
        go_ret
        exact ⟨rfl, HNW.out.trans M7.out⟩
      | false =>
        obtain ⟨q1, q2, q3⟩ := cheap_yes (ls := ls) HCO.out hnb
        simp only [q1, q2, q3] at c4
        simp only [Bool.not_false] at c1 c2 c3
        have b1 := isF_best HFA.out hnb wLeast
        have b2 := isF_best HFA.out hnb (wNear 0)
        have b3 := isF_best HFA.out hnb (wNear m)
        have b4 := isF_best HFA.out hnb (wCost ls)
        have p1 := fun (hf : f m.testBit = true) => pick_least HFA.out hnb (m := m) (by omega) hf
        have p2 := fun (n : Nat) (e : n = (feats (bestC (wNear 0) f)).length) => pick_small HFA.out hnb e
        have p3 := fun (hf : f m.testBit = true) => pick_near HFA.out hnb (m := m) (by omega) hf
        have p4 := fun (h2 : 2 ≤ (feats (bestC (wNear m) f ^^^ m)).length) (i : Nat) (hi : i < 24) => pick_far HFA.out hnb (m := m) (by omega) h2 hi
        have p5 := fun (hf : f m.testBit = true) => pick_cheap HFA.out hnb HCO.out.1 (m := m) (by omega) hf
        have p6 := pick_cost HFA.out hnb HCO.out.1
        have y1 := b1.yes; have y2 := b2.yes; have y3 := b3.yes; have y4 := b4.yes
        have l1 : bestC wLeast f < 16777216 := b1.lt
        have l2 : bestC (wNear 0) f < 16777216 := b2.lt
        have l3 : bestC (wNear m) f < 16777216 := b3.lt
        have l4 : bestC (wCost ls) f < 16777216 := b4.lt
        clear b1 b2 b3 b4 q1 q2 q3 hnb
        generalize bestC wLeast f = g1 at c1 p1 y1 l1
        generalize bestC (wNear 0) f = g2 at c2 p2 y2 l2
        generalize bestC (wNear m) f = g3 at c3 p3 p4 y3 l3
        generalize bestC (wCost ls) f = g4 at c4 p6 y4 l4
        generalize bestX (wCost ls) f = g5 at c4 p5 p6
        have HC1 := Lib.hid c1
        have HC2 := Lib.hid c2
        have HC3 := Lib.hid c3
        have HC4 := Lib.hid c4
        have HP1 := Lib.hid p1
        have HP2 := Lib.hid p2
        have HP3 := Lib.hid p3
        have HP4 := Lib.hid p4
        have HP5 := Lib.hid p5
        have HP6 := Lib.hid p6
        have HH1 := Lib.hid (fun (w' : World) (hn : Near W w') => has_is (HFA.out.near hn) y1 (by omega))
        have HH2 := Lib.hid (fun (w' : World) (hn : Near W w') => has_is (HFA.out.near hn) y2 (by omega))
        have HH3 := Lib.hid (fun (w' : World) (hn : Near W w') => has_is (HFA.out.near hn) y3 (by omega))
        have HH4 := Lib.hid (fun (w' : World) (hn : Near W w') => has_is (HFA.out.near hn) y4 (by omega))
        obtain ⟨hb, hhb⟩ : ∃ b, f m.testBit = b := ⟨_, rfl⟩
        have HHM := Lib.hid (fun (w' : World) (hn : Near W w') => has_is (HFA.out.near hn) hhb (by omega))
        have HHB := Lib.hid hhb
        clear c1 c2 c3 c4 p1 p2 p3 p4 p5 p6 y1 y2 y3 y4 hhb
        go_upto_region 7 with (first
          | (go_at_call 65; refine (HC3.out _ M2.out).mono ?_; rintro e v3 ⟨rfl, mx⟩; have M3 := Lib.hid (M2.out.trans mx); obtain ⟨z0, z1⟩ := HA.out _ M3.out; clear mx)
          | (go_at_call 63; refine (HC2.out _ M1.out).mono ?_; rintro e v2 ⟨rfl, mx⟩; have M2 := Lib.hid (M1.out.trans mx); obtain ⟨z0, z1⟩ := HA.out _ M2.out; clear mx)
          | (go_at_call 61; refine (HC1.out _ M0.out).mono ?_; rintro e v1 ⟨rfl, mx⟩; have M1 := Lib.hid (M0.out.trans mx); obtain ⟨z0, z1⟩ := HA.out _ M1.out; clear mx)
          | (go_at_call 69; refine (costs_calls (HCVW.out.near (Near.refl W)) (by have := HL24.out; omega)).mono ?_; rintro e v0 ⟨rfl, mx⟩; have M0 := Lib.hid mx; obtain ⟨z0, z1⟩ := HA.out _ M0.out; clear mx; rw [HDC.out]))
        have HY := Lib.hid (show SrcOf v3.drew 1 ls.length (.slice ao2 ls.length cap2) (ls.map fun x => .int .i64 x) from (HCVW.out.near M3.out.drew).yields HNil.out)
        go_region_held3 (fun w' => w'.cell? ⟨bk, 0, none⟩ = some (.slice a1 a2 a3) ∧ w'.cell? ⟨bk, 1, none⟩ = some (.int .i64 a4)) (first | exact ⟨z0, z1⟩ | exact HA.out _ M5.out | exact HA.out _ M4.out)
          (first
            | (refine step_append_more rfl (.const (.slice none 0 0)) (.tmp 61) 83 rfl 0 2 i0 (.int .i64 0) 1 8 Try.underlying83 hi0 hz0 hz1 hz2 rfl (by decide) (.slice none 0 0) 0 [] rfl (World.ownsRow_nil _ _ _ _) _ ls.length (ls.map fun x => .int .i64 x) rfl HY.out (by simp [Value.oneCell']) (by have := HL24.out; unfold maxLen; omega) (by have := HL24.out; omega) (Nat.zero_le _) ?_; intro ao3 cap3 w4 hown4 hg4; simp only [Nat.zero_add, List.nil_append] at hown4 ⊢; have HO4 := Lib.hid (RdInts.owns hown4); have M4 := Lib.hid (M3.out.trans (show Near v3 w4 from Kept.grown (Near.refl v3).drew hg4 (fun k hk => by cases hk))); clear hown4 hg4)
            | (go_at_call 67; refine (HC4.out _ M4.out _ HO4.out).mono ?_; rintro e v5 ⟨rfl, mx⟩; have M5 := Lib.hid (M4.out.trans mx); obtain ⟨z0, z1⟩ := HA.out _ M5.out; clear mx))
        have HK4 := Lib.hid (fun (w' : World) (hn : Near W w') => show Calls Try.prog 71 _ w' (fun e w'' => e = .returned (.int .i64 g5) ∧ Near w' w'') from HP6.out ▸ cost_calls (HCVW.out.near hn) HCO.out g4 (by omega))
        have HKM := Lib.hid (fun (w' : World) (hn : Near W w') => cost_calls (HCVW.out.near hn) HCO.out m (by omega))
        cases hb with
        | true =>
          obtain rfl := HP3.out HHB.out
          go_upto_region 10 with (first
            | (go_at_call 35; refine (HEM.out _ M5.out).mono ?_; rintro e v6 ⟨rfl, mx⟩; have M6 := Lib.hid (M5.out.trans mx); obtain ⟨z0, z1⟩ := HA.out _ M6.out; clear mx))
          have hmm := HMM.out
          have hmt := HMT.out
          go_upto_region 11 with fail
          clear hmm hmt
          go_upto_region 13 with (first
            | (go_at_call 71; refine (HK4.out _ M11.out).mono ?_; rintro e v12 ⟨rfl, mx⟩; have M12 := Lib.hid (M11.out.trans mx); obtain ⟨z0, z1⟩ := HA.out _ M12.out; clear mx)
            | (go_at_call 70; refine (HHM.out _ M10.out).mono ?_; rintro e v11 ⟨rfl, mx⟩; have M11 := Lib.hid (M10.out.trans mx); obtain ⟨z0, z1⟩ := HA.out _ M11.out; clear mx)
            | (go_at_call 70; refine (HH4.out _ M9.out).mono ?_; rintro e v10 ⟨rfl, mx⟩; have M10 := Lib.hid (M9.out.trans mx); obtain ⟨z0, z1⟩ := HA.out _ M10.out; clear mx)
            | (go_at_call 70; refine (HH3.out _ M8.out).mono ?_; rintro e v9 ⟨rfl, mx⟩; have M9 := Lib.hid (M8.out.trans mx); obtain ⟨z0, z1⟩ := HA.out _ M9.out; clear mx)
            | (go_at_call 70; refine (HH2.out _ M7.out).mono ?_; rintro e v8 ⟨rfl, mx⟩; have M8 := Lib.hid (M7.out.trans mx); obtain ⟨z0, z1⟩ := HA.out _ M8.out; clear mx)
            | (go_at_call 70; refine (HH1.out _ M6.out).mono ?_; rintro e v7 ⟨rfl, mx⟩; have M7 := Lib.hid (M6.out.trans mx); obtain ⟨z0, z1⟩ := HA.out _ M7.out; clear mx))
          have hxr : bits .xor .u32 (g3 : Int) (g3 : Int) = 0 := by rw [u32_xor_nat g3 g3 (by omega) (by omega), Nat.xor_self]; rfl
          have hxl : 0 < 16777216 := by decide
          have hp40 := HP4.out
          rw [Nat.xor_self] at hp40
          replace HP4 := Lib.hid hp40
          clear hp40
          have HFe2 := Lib.hid (fun (w' : World) => features_calls g2 (by omega) w')
          have HFe3 := Lib.hid (fun (w' : World) => show Calls Try.prog 18 #[.int .u32 0] w' _ from features_calls (0) (by omega) w')
          go_upto_region 14 with (first
            | (go_at_call 18; have hseen := M13; refine (HFe3.out _).mono ?_; rintro e v14 ⟨s14, rfl, r14, mx⟩; obtain ⟨ao14, cap14, rfl⟩ := owns_form r14; have M14 := Lib.hid (M13.out.trans mx); obtain ⟨z0, z1⟩ := HA.out _ M14.out; clear mx r14)
            | (go_at_call 18; refine (HFe2.out _).mono ?_; rintro e v13 ⟨s13, rfl, r13, mx⟩; obtain ⟨ao13, cap13, rfl⟩ := owns_form r13; have M13 := Lib.hid (M12.out.trans mx); obtain ⟨z0, z1⟩ := HA.out _ M13.out; clear mx r13))
          have hp2 := HP2.out _ rfl
          have hp4 := HP4.out
          have hl2 : (feats g2).length ≤ 24 := featsTo_len g2 24
          clear HFe2 HFe3 HP2 HP4 hseen
          generalize (feats g2).length = n1 at hp2 hl2 ⊢
          generalize (feats (0)).length = n2 at hp4 ⊢
          have HP4 := Lib.hid hp4
          have HP2 := Lib.hid hp2
          clear hp2 hp4 hxr hxl
          have hlt := HP1.out HHB.out
          have hlt' : ¬ ((g3 : Int) < g1) := by omega
          have hge := HP5.out HHB.out
          clear hlt
          have hw1 : IntKind.i64.wrap ((n1 : Int) - 1) = (n1 : Int) - 1 := IntWalk.i64_in _ (by omega)
          by_cases hn1 : 0 < n1
          · have hn1' : (0 : Int) < n1 := by omega
            refine wp_region_held_drew (S := (fun w' => w'.cell? ⟨bk, 0, none⟩ = some (.slice a1 a2 a3) ∧ w'.cell? ⟨bk, 1, none⟩ = some (.int .i64 a4))) (by kernel_rfl) (HA.out _ M14.out.drew) (fun hHeld => ?_)
            have N14 := Lib.hid M14.out.drew
            refine takeH0 (v := Value.int .i64 n1) (by kernel_rfl) (by kernel_rfl) (by kernel_rfl) (fun _ _ _ h => h) (Or.inl ⟨by rfl, fun w' hSw => by dsimp only at hSw; obtain ⟨s0, s1⟩ := hSw; go_simp⟩) hHeld ?_
            try simp only [Act.put, List.setIfInBounds_toArray, List.set_cons_zero, List.set_cons_succ]
            refine takeH1 (v := Value.bool true) (by kernel_rfl) (by kernel_rfl) (by kernel_rfl) (fun _ _ _ h => h) (Or.inl ⟨by rfl, fun w' hSw => by dsimp only at hSw; obtain ⟨s0, s1⟩ := hSw; go_simp⟩) hHeld ?_
            try simp only [Act.put, List.setIfInBounds_toArray, List.set_cons_zero, List.set_cons_succ]
            refine takeH2 (v := Value.bool true) (by kernel_rfl) (by kernel_rfl) (by kernel_rfl) (fun _ _ _ h => h) (Or.inl ⟨by rfl, fun w' hSw => by dsimp only at hSw; obtain ⟨s0, s1⟩ := hSw; go_simp⟩) hHeld ?_
            try simp only [Act.put, List.setIfInBounds_toArray, List.set_cons_zero, List.set_cons_succ]
            refine takeH3 (v := Value.agg #[.slice a1 a2 a3, .int .i64 a4]) (by kernel_rfl) (by kernel_rfl) (by kernel_rfl) (fun _ _ _ h => h) (Or.inl ⟨by rfl, fun w' hSw => by dsimp only at hSw; obtain ⟨s0, s1⟩ := hSw; go_simp⟩) hHeld ?_
            try simp only [Act.put, List.setIfInBounds_toArray, List.set_cons_zero, List.set_cons_succ]
            refine takeH4 (v := Value.int .i64 n1) (by kernel_rfl) (by kernel_rfl) (by kernel_rfl) (fun _ _ _ h => h) (Or.inl ⟨by rfl, fun w' hSw => by dsimp only at hSw; obtain ⟨s0, s1⟩ := hSw; go_simp⟩) hHeld ?_
            try simp only [Act.put, List.setIfInBounds_toArray, List.set_cons_zero, List.set_cons_succ]
            refine takeH5 (v := Value.int .i64 ((n1 : Int) - 1)) (by kernel_rfl) (by kernel_rfl) (by kernel_rfl) (fun _ _ _ h => h) (Or.inl ⟨by rfl, fun w' hSw => by dsimp only at hSw; obtain ⟨s0, s1⟩ := hSw; go_simp⟩) hHeld ?_
            try simp only [Act.put, List.setIfInBounds_toArray, List.set_cons_zero, List.set_cons_succ]
            refine wpAnyH_ready (rs := [6]) (by kernel_rfl) (by simp) ?_
            refine consH6 (fun K hK => ?_) AllReadyH.nil
            go_simp
            go_at_call 72
            refine (between_f (f := 16777215) (by decide) 0 ((n1 : Int) - 1) _).mono ?_
            rintro e v15 ⟨vb, rfl, hvb, mx⟩
            have M15 := Lib.hid (N14.out.trans mx)
            obtain ⟨q1, q2, q3, q4, rfl⟩ := hvb.form; have HVB := Lib.hid hvb; clear hvb
            refine hK.out _ _ (HA.out _ M15.out) (fun hHeld => ?_)
            clear hK K hHeld mx
            have hHeld := HA.out _ M15.out
            try simp only [Act.put, List.setIfInBounds_toArray, List.set_cons_zero, List.set_cons_succ]
            refine wpAnyH_ready (rs := [7]) (by kernel_rfl) (by simp) ?_
            refine consH7 (fun K hK => ?_) AllReadyH.nil
            go_simp
            go_at_call 34
            refine (and_f (HFA.out.near M15.out) HVB.out).mono ?_
            rintro e v16 ⟨vc, rfl, hvc, mx⟩
            have M16 := Lib.hid (M15.out.trans mx)
            obtain ⟨t1, t2, t3, t4, rfl⟩ := hvc.form; have HVC := Lib.hid hvc; clear hvc
            refine hK.out _ _ (HA.out _ M16.out) (fun hHeld => ?_)
            clear hK K hHeld mx
            have hHeld := HA.out _ M16.out
            try simp only [Act.put, List.setIfInBounds_toArray, List.set_cons_zero, List.set_cons_succ]
            refine wpAnyH_ready (rs := [8]) (by kernel_rfl) (by simp) ?_
            refine consH8 (fun K hK => ?_) AllReadyH.nil
            go_simp
            go_at_call 35
            refine (empty_is HVC.out HP2.out).mono ?_
            rintro e v17 ⟨rfl, mx⟩
            have M17 := Lib.hid (M16.out.trans mx)
            refine hK.out _ _ (HA.out _ M17.out) (fun hHeld => ?_)
            clear hK K hHeld mx
            have hHeld := HA.out _ M17.out
            try simp only [Act.put, List.setIfInBounds_toArray, List.set_cons_zero, List.set_cons_succ]
            refine takeH9 (v := Value.bool false) (by kernel_rfl) (by kernel_rfl) (by kernel_rfl) (fun _ _ _ h => h) (Or.inl ⟨by rfl, fun w' hSw => by dsimp only at hSw; obtain ⟨s0, s1⟩ := hSw; go_simp⟩) hHeld ?_
            try simp only [Act.put, List.setIfInBounds_toArray, List.set_cons_zero, List.set_cons_succ]
            refine takeH10 (v := Value.bool false) (by kernel_rfl) (by kernel_rfl) (by kernel_rfl) (fun _ _ _ h => h) (Or.inl ⟨by rfl, fun w' hSw => by dsimp only at hSw; obtain ⟨s0, s1⟩ := hSw; go_simp⟩) hHeld ?_
            try simp only [Act.put, List.setIfInBounds_toArray, List.set_cons_zero, List.set_cons_succ]
            refine takeH11 (v := Value.bool false) (by kernel_rfl) (by kernel_rfl) (by kernel_rfl) (fun _ _ _ h => h) (Or.inl ⟨by rfl, fun w' hSw => by dsimp only at hSw; obtain ⟨s0, s1⟩ := hSw; go_simp⟩) hHeld ?_
            try simp only [Act.put, List.setIfInBounds_toArray, List.set_cons_zero, List.set_cons_succ]
            refine takeH12 (v := Value.agg #[.slice a1 a2 a3, .int .i64 a4]) (by kernel_rfl) (by kernel_rfl) (by kernel_rfl) (fun _ _ _ h => h) (Or.inl ⟨by rfl, fun w' hSw => by dsimp only at hSw; obtain ⟨s0, s1⟩ := hSw; go_simp⟩) hHeld ?_
            try simp only [Act.put, List.setIfInBounds_toArray, List.set_cons_zero, List.set_cons_succ]
            refine takeH13 (v := Value.int .u32 g3) (by kernel_rfl) (by kernel_rfl) (by kernel_rfl) (fun _ _ _ h => h) (Or.inl ⟨by rfl, fun w' hSw => by dsimp only at hSw; obtain ⟨s0, s1⟩ := hSw; go_simp⟩) hHeld ?_
            try simp only [Act.put, List.setIfInBounds_toArray, List.set_cons_zero, List.set_cons_succ]
            refine wpAnyH_ready (rs := [14]) (by kernel_rfl) (by simp) ?_
            refine consH14 (fun K hK => ?_) AllReadyH.nil
            go_simp
            go_at_call 70
            refine (HHM.out _ M17.out).mono ?_
            rintro e v18 ⟨rfl, mx⟩
            have M18 := Lib.hid (M17.out.trans mx)
            refine hK.out _ _ (HA.out _ M18.out) (fun hHeld => ?_)
            clear hK K hHeld mx
            have hHeld := HA.out _ M18.out
            try simp only [Act.put, List.setIfInBounds_toArray, List.set_cons_zero, List.set_cons_succ]
            refine takeH15 (v := Value.bool true) (by kernel_rfl) (by kernel_rfl) (by kernel_rfl) (fun _ _ _ h => h) (Or.inl ⟨by rfl, fun w' hSw => by dsimp only at hSw; obtain ⟨s0, s1⟩ := hSw; go_simp⟩) hHeld ?_
            try simp only [Act.put, List.setIfInBounds_toArray, List.set_cons_zero, List.set_cons_succ]
            refine takeH16 (v := Value.int .u32 g3) (by kernel_rfl) (by kernel_rfl) (by kernel_rfl) (fun _ _ _ h => h) (Or.inl ⟨by rfl, fun w' hSw => by dsimp only at hSw; obtain ⟨s0, s1⟩ := hSw; go_simp⟩) hHeld ?_
            try simp only [Act.put, List.setIfInBounds_toArray, List.set_cons_zero, List.set_cons_succ]
            refine takeH17 (v := Value.int .u32 g1) (by kernel_rfl) (by kernel_rfl) (by kernel_rfl) (fun _ _ _ h => h) (Or.inl ⟨by rfl, fun w' hSw => by dsimp only at hSw; obtain ⟨s0, s1⟩ := hSw; go_simp⟩) hHeld ?_
            try simp only [Act.put, List.setIfInBounds_toArray, List.set_cons_zero, List.set_cons_succ]
            refine takeH18 (v := Value.bool false) (by kernel_rfl) (by kernel_rfl) (by kernel_rfl) (fun _ _ _ h => h) (Or.inl ⟨by rfl, fun w' hSw => by dsimp only at hSw; obtain ⟨s0, s1⟩ := hSw; go_simp⟩) hHeld ?_
            try simp only [Act.put, List.setIfInBounds_toArray, List.set_cons_zero, List.set_cons_succ]
            refine takeH19 (v := Value.bool false) (by kernel_rfl) (by kernel_rfl) (by kernel_rfl) (fun _ _ _ h => h) (Or.inl ⟨by rfl, fun w' hSw => by dsimp only at hSw; obtain ⟨s0, s1⟩ := hSw; go_simp⟩) hHeld ?_
            try simp only [Act.put, List.setIfInBounds_toArray, List.set_cons_zero, List.set_cons_succ]
            refine takeH20 (v := Value.bool false) (by kernel_rfl) (by kernel_rfl) (by kernel_rfl) (fun _ _ _ h => h) (Or.inl ⟨by rfl, fun w' hSw => by dsimp only at hSw; obtain ⟨s0, s1⟩ := hSw; go_simp⟩) hHeld ?_
            try simp only [Act.put, List.setIfInBounds_toArray, List.set_cons_zero, List.set_cons_succ]
            refine wpAnyH_done (by kernel_rfl) ?_ _
            generalize costSum ls g3.testBit ls.length = s5 at HKM hge
            go_upto_region 17 with fail
            go_loopw [22] (fun i wr => ∃ k : Nat, k ≤ 24 ∧ i = .int .i64 k ∧ Near v18 wr) (fun i _ => 24 - (intOf i).toNat)
            case atStart => exact ⟨0, Nat.zero_le _, rfl, Near.refl _⟩
            case round =>
              obtain ⟨k, hk, rfl, hn⟩ := hrel
              obtain ⟨z0, z1⟩ := HA.out _ (M18.out.trans hn)
              have HNr := Lib.hid hn
              clear hn
              by_cases hk24 : k < 24
              · have hk24' : (k : Int) < 24 := by omega
                by_cases hn2 : 0 < n2
                · have hn2' : (0 : Int) < n2 := by omega
                  by_cases h2 : 2 ≤ n2
                  · have h2' : (2 : Int) ≤ n2 := by omega
                    have hf := HP4.out h2 k hk24
                    have hpk : 2 ^ k < 16777216 := Nat.lt_of_lt_of_le (Nat.pow_lt_pow_right (a := 2) (by omega) hk24) (by decide)
                    have hcast : ((2 ^ k : Nat) : Int) = (2 : Int) ^ k := by simp
                    have hs1 : (2 : Int) ^ k % 4294967296 = (2 : Int) ^ k := by rw [← hcast]; generalize 2 ^ k = p at hpk; omega
                    have hxk : bits .xor .u32 (g3 : Int) ((2 : Int) ^ k) = ((g3 ^^^ 2 ^ k : Nat) : Int) := by rw [← hcast]; generalize 2 ^ k = p at hpk; exact u32_xor_nat g3 p (by omega) (by omega)
                    have hxl : g3 ^^^ 2 ^ k < 16777216 := Nat.xor_lt_two_pow (n := 24) (by omega) hpk
                    have HHk := Lib.hid (fun (w' : World) (hn : Near W w') => has_is (HFA.out.near hn) hf (by omega))
                    clear hf hpk hcast
                    generalize g3 ^^^ 2 ^ k = mk at hxk hxl HHk
                    go_wp2_with (go_at_call 70; refine (HHk.out _ (M18.out.trans HNr.out)).mono ?_; rintro e vk ⟨rfl, mx⟩; have HNk := Lib.hid (HNr.out.trans mx); clear mx)
                    exact ⟨⟨k + 1, by omega, by go_num, HNk.out⟩, by simp [intOf]; omega⟩
                  · have h2' : ¬ ((2 : Int) ≤ n2) := by omega
                    go_wp2_with fail
                    exact ⟨⟨k + 1, by omega, by go_num, HNr.out⟩, by simp [intOf]; omega⟩
                · obtain rfl : n2 = 0 := by omega
                  go_wp2_with (first
                    | (go_at_call 70; refine (HHM.out _ (M18.out.trans HNr.out)).mono ?_; rintro e u1 ⟨rfl, mx⟩; have U1 := Lib.hid (HNr.out.trans mx); clear mx)
                    | (go_at_call 71; refine (HKM.out _ (M18.out.trans U1.out)).mono ?_; rintro e u2 ⟨rfl, mx⟩; have U2 := Lib.hid (U1.out.trans mx); clear mx)
                    | (go_at_call 17; refine (wakes_calls _).mono ?_; rintro e u3 ⟨rfl, mx⟩; have U3 := Lib.hid (U2.out.trans mx); clear mx))
                  go_ret
                  exact ⟨rfl, (HNW.out.trans M18.out).trans U3.out⟩
              · have hk24' : ¬ ((k : Int) < 24) := by omega
                go_wp2_with (first
                  | (go_at_call 70; refine (HHM.out _ (M18.out.trans HNr.out)).mono ?_; rintro e u1 ⟨rfl, mx⟩; have U1 := Lib.hid (HNr.out.trans mx); clear mx)
                  | (go_at_call 71; refine (HKM.out _ (M18.out.trans U1.out)).mono ?_; rintro e u2 ⟨rfl, mx⟩; have U2 := Lib.hid (U1.out.trans mx); clear mx)
                  | (go_at_call 17; refine (wakes_calls _).mono ?_; rintro e u3 ⟨rfl, mx⟩; have U3 := Lib.hid (U2.out.trans mx); clear mx))
                go_ret
                exact ⟨rfl, (HNW.out.trans M18.out).trans U3.out⟩
          · obtain rfl : n1 = 0 := by omega
            refine wp_region_held_drew (S := (fun w' => w'.cell? ⟨bk, 0, none⟩ = some (.slice a1 a2 a3) ∧ w'.cell? ⟨bk, 1, none⟩ = some (.int .i64 a4))) (by kernel_rfl) (HA.out _ M14.out.drew) (fun hHeld => ?_)
            have N14 := Lib.hid M14.out.drew
            refine takeH0 (v := Value.int .i64 0) (by kernel_rfl) (by kernel_rfl) (by kernel_rfl) (fun _ _ _ h => h) (Or.inl ⟨by rfl, fun w' hSw => by dsimp only at hSw; obtain ⟨s0, s1⟩ := hSw; go_simp⟩) hHeld ?_
            try simp only [Act.put, List.setIfInBounds_toArray, List.set_cons_zero, List.set_cons_succ]
            refine takeH1 (v := Value.bool false) (by kernel_rfl) (by kernel_rfl) (by kernel_rfl) (fun _ _ _ h => h) (Or.inl ⟨by rfl, fun w' hSw => by dsimp only at hSw; obtain ⟨s0, s1⟩ := hSw; go_simp⟩) hHeld ?_
            try simp only [Act.put, List.setIfInBounds_toArray, List.set_cons_zero, List.set_cons_succ]
            refine takeH2 (v := Value.bool false) (by kernel_rfl) (by kernel_rfl) (by kernel_rfl) (fun _ _ _ h => h) (Or.inl ⟨by rfl, fun w' hSw => by dsimp only at hSw; obtain ⟨s0, s1⟩ := hSw; go_simp⟩) hHeld ?_
            try simp only [Act.put, List.setIfInBounds_toArray, List.set_cons_zero, List.set_cons_succ]
            refine takeH3 (v := undef) (by kernel_rfl) (by kernel_rfl) (by kernel_rfl) (fun _ _ _ h => h) (Or.inr ⟨by rfl, rfl⟩) hHeld ?_
            try simp only [Act.put, List.setIfInBounds_toArray, List.set_cons_zero, List.set_cons_succ]
            refine takeH4 (v := undef) (by kernel_rfl) (by kernel_rfl) (by kernel_rfl) (fun _ _ _ h => h) (Or.inr ⟨by rfl, rfl⟩) hHeld ?_
            try simp only [Act.put, List.setIfInBounds_toArray, List.set_cons_zero, List.set_cons_succ]
            refine takeH5 (v := undef) (by kernel_rfl) (by kernel_rfl) (by kernel_rfl) (fun _ _ _ h => h) (Or.inr ⟨by rfl, rfl⟩) hHeld ?_
            try simp only [Act.put, List.setIfInBounds_toArray, List.set_cons_zero, List.set_cons_succ]
            refine takeH6 (v := undef) (by kernel_rfl) (by kernel_rfl) (by kernel_rfl) (fun _ _ _ h => h) (Or.inr ⟨by rfl, rfl⟩) hHeld ?_
            try simp only [Act.put, List.setIfInBounds_toArray, List.set_cons_zero, List.set_cons_succ]
            refine takeH7 (v := undef) (by kernel_rfl) (by kernel_rfl) (by kernel_rfl) (fun _ _ _ h => h) (Or.inr ⟨by rfl, rfl⟩) hHeld ?_
            try simp only [Act.put, List.setIfInBounds_toArray, List.set_cons_zero, List.set_cons_succ]
            refine takeH8 (v := undef) (by kernel_rfl) (by kernel_rfl) (by kernel_rfl) (fun _ _ _ h => h) (Or.inr ⟨by rfl, rfl⟩) hHeld ?_
            try simp only [Act.put, List.setIfInBounds_toArray, List.set_cons_zero, List.set_cons_succ]
            refine takeH9 (v := undef) (by kernel_rfl) (by kernel_rfl) (by kernel_rfl) (fun _ _ _ h => h) (Or.inr ⟨by rfl, rfl⟩) hHeld ?_
            try simp only [Act.put, List.setIfInBounds_toArray, List.set_cons_zero, List.set_cons_succ]
            have M17 := N14
            refine takeH10 (v := Value.bool false) (by kernel_rfl) (by kernel_rfl) (by kernel_rfl) (fun _ _ _ h => h) (Or.inl ⟨by rfl, fun w' hSw => by dsimp only at hSw; obtain ⟨s0, s1⟩ := hSw; go_simp⟩) hHeld ?_
            try simp only [Act.put, List.setIfInBounds_toArray, List.set_cons_zero, List.set_cons_succ]
            refine takeH11 (v := Value.bool false) (by kernel_rfl) (by kernel_rfl) (by kernel_rfl) (fun _ _ _ h => h) (Or.inl ⟨by rfl, fun w' hSw => by dsimp only at hSw; obtain ⟨s0, s1⟩ := hSw; go_simp⟩) hHeld ?_
            try simp only [Act.put, List.setIfInBounds_toArray, List.set_cons_zero, List.set_cons_succ]
            refine takeH12 (v := Value.agg #[.slice a1 a2 a3, .int .i64 a4]) (by kernel_rfl) (by kernel_rfl) (by kernel_rfl) (fun _ _ _ h => h) (Or.inl ⟨by rfl, fun w' hSw => by dsimp only at hSw; obtain ⟨s0, s1⟩ := hSw; go_simp⟩) hHeld ?_
            try simp only [Act.put, List.setIfInBounds_toArray, List.set_cons_zero, List.set_cons_succ]
            refine takeH13 (v := Value.int .u32 g3) (by kernel_rfl) (by kernel_rfl) (by kernel_rfl) (fun _ _ _ h => h) (Or.inl ⟨by rfl, fun w' hSw => by dsimp only at hSw; obtain ⟨s0, s1⟩ := hSw; go_simp⟩) hHeld ?_
            try simp only [Act.put, List.setIfInBounds_toArray, List.set_cons_zero, List.set_cons_succ]
            refine wpAnyH_ready (rs := [14]) (by kernel_rfl) (by simp) ?_
            refine consH14 (fun K hK => ?_) AllReadyH.nil
            go_simp
            go_at_call 70
            refine (HHM.out _ M17.out).mono ?_
            rintro e v18 ⟨rfl, mx⟩
            have M18 := Lib.hid (M17.out.trans mx)
            refine hK.out _ _ (HA.out _ M18.out) (fun hHeld => ?_)
            clear hK K hHeld mx
            have hHeld := HA.out _ M18.out
            try simp only [Act.put, List.setIfInBounds_toArray, List.set_cons_zero, List.set_cons_succ]
            refine takeH15 (v := Value.bool true) (by kernel_rfl) (by kernel_rfl) (by kernel_rfl) (fun _ _ _ h => h) (Or.inl ⟨by rfl, fun w' hSw => by dsimp only at hSw; obtain ⟨s0, s1⟩ := hSw; go_simp⟩) hHeld ?_
            try simp only [Act.put, List.setIfInBounds_toArray, List.set_cons_zero, List.set_cons_succ]
            refine takeH16 (v := Value.int .u32 g3) (by kernel_rfl) (by kernel_rfl) (by kernel_rfl) (fun _ _ _ h => h) (Or.inl ⟨by rfl, fun w' hSw => by dsimp only at hSw; obtain ⟨s0, s1⟩ := hSw; go_simp⟩) hHeld ?_
            try simp only [Act.put, List.setIfInBounds_toArray, List.set_cons_zero, List.set_cons_succ]
            refine takeH17 (v := Value.int .u32 g1) (by kernel_rfl) (by kernel_rfl) (by kernel_rfl) (fun _ _ _ h => h) (Or.inl ⟨by rfl, fun w' hSw => by dsimp only at hSw; obtain ⟨s0, s1⟩ := hSw; go_simp⟩) hHeld ?_
            try simp only [Act.put, List.setIfInBounds_toArray, List.set_cons_zero, List.set_cons_succ]
            refine takeH18 (v := Value.bool false) (by kernel_rfl) (by kernel_rfl) (by kernel_rfl) (fun _ _ _ h => h) (Or.inl ⟨by rfl, fun w' hSw => by dsimp only at hSw; obtain ⟨s0, s1⟩ := hSw; go_simp⟩) hHeld ?_
            try simp only [Act.put, List.setIfInBounds_toArray, List.set_cons_zero, List.set_cons_succ]
            refine takeH19 (v := Value.bool false) (by kernel_rfl) (by kernel_rfl) (by kernel_rfl) (fun _ _ _ h => h) (Or.inl ⟨by rfl, fun w' hSw => by dsimp only at hSw; obtain ⟨s0, s1⟩ := hSw; go_simp⟩) hHeld ?_
            try simp only [Act.put, List.setIfInBounds_toArray, List.set_cons_zero, List.set_cons_succ]
            refine takeH20 (v := Value.bool false) (by kernel_rfl) (by kernel_rfl) (by kernel_rfl) (fun _ _ _ h => h) (Or.inl ⟨by rfl, fun w' hSw => by dsimp only at hSw; obtain ⟨s0, s1⟩ := hSw; go_simp⟩) hHeld ?_
            try simp only [Act.put, List.setIfInBounds_toArray, List.set_cons_zero, List.set_cons_succ]
            refine wpAnyH_done (by kernel_rfl) ?_ _
            generalize costSum ls g3.testBit ls.length = s5 at HKM hge
            go_upto_region 17 with fail
            go_loopw [22] (fun i wr => ∃ k : Nat, k ≤ 24 ∧ i = .int .i64 k ∧ Near v18 wr) (fun i _ => 24 - (intOf i).toNat)
            case atStart => exact ⟨0, Nat.zero_le _, rfl, Near.refl _⟩
            case round =>
              obtain ⟨k, hk, rfl, hn⟩ := hrel
              obtain ⟨z0, z1⟩ := HA.out _ (M18.out.trans hn)
              have HNr := Lib.hid hn
              clear hn
              by_cases hk24 : k < 24
              · have hk24' : (k : Int) < 24 := by omega
                by_cases hn2 : 0 < n2
                · have hn2' : (0 : Int) < n2 := by omega
                  by_cases h2 : 2 ≤ n2
                  · have h2' : (2 : Int) ≤ n2 := by omega
                    have hf := HP4.out h2 k hk24
                    have hpk : 2 ^ k < 16777216 := Nat.lt_of_lt_of_le (Nat.pow_lt_pow_right (a := 2) (by omega) hk24) (by decide)
                    have hcast : ((2 ^ k : Nat) : Int) = (2 : Int) ^ k := by simp
                    have hs1 : (2 : Int) ^ k % 4294967296 = (2 : Int) ^ k := by rw [← hcast]; generalize 2 ^ k = p at hpk; omega
                    have hxk : bits .xor .u32 (g3 : Int) ((2 : Int) ^ k) = ((g3 ^^^ 2 ^ k : Nat) : Int) := by rw [← hcast]; generalize 2 ^ k = p at hpk; exact u32_xor_nat g3 p (by omega) (by omega)
                    have hxl : g3 ^^^ 2 ^ k < 16777216 := Nat.xor_lt_two_pow (n := 24) (by omega) hpk
                    have HHk := Lib.hid (fun (w' : World) (hn : Near W w') => has_is (HFA.out.near hn) hf (by omega))
                    clear hf hpk hcast
                    generalize g3 ^^^ 2 ^ k = mk at hxk hxl HHk
                    go_wp2_with (go_at_call 70; refine (HHk.out _ (M18.out.trans HNr.out)).mono ?_; rintro e vk ⟨rfl, mx⟩; have HNk := Lib.hid (HNr.out.trans mx); clear mx)
                    exact ⟨⟨k + 1, by omega, by go_num, HNk.out⟩, by simp [intOf]; omega⟩
                  · have h2' : ¬ ((2 : Int) ≤ n2) := by omega
                    go_wp2_with fail
                    exact ⟨⟨k + 1, by omega, by go_num, HNr.out⟩, by simp [intOf]; omega⟩
                · obtain rfl : n2 = 0 := by omega
                  go_wp2_with (first
                    | (go_at_call 70; refine (HHM.out _ (M18.out.trans HNr.out)).mono ?_; rintro e u1 ⟨rfl, mx⟩; have U1 := Lib.hid (HNr.out.trans mx); clear mx)
                    | (go_at_call 71; refine (HKM.out _ (M18.out.trans U1.out)).mono ?_; rintro e u2 ⟨rfl, mx⟩; have U2 := Lib.hid (U1.out.trans mx); clear mx)
                    | (go_at_call 17; refine (wakes_calls _).mono ?_; rintro e u3 ⟨rfl, mx⟩; have U3 := Lib.hid (U2.out.trans mx); clear mx))
                  go_ret
                  exact ⟨rfl, (HNW.out.trans M18.out).trans U3.out⟩
              · have hk24' : ¬ ((k : Int) < 24) := by omega
                go_wp2_with (first
                  | (go_at_call 70; refine (HHM.out _ (M18.out.trans HNr.out)).mono ?_; rintro e u1 ⟨rfl, mx⟩; have U1 := Lib.hid (HNr.out.trans mx); clear mx)
                  | (go_at_call 71; refine (HKM.out _ (M18.out.trans U1.out)).mono ?_; rintro e u2 ⟨rfl, mx⟩; have U2 := Lib.hid (U1.out.trans mx); clear mx)
                  | (go_at_call 17; refine (wakes_calls _).mono ?_; rintro e u3 ⟨rfl, mx⟩; have U3 := Lib.hid (U2.out.trans mx); clear mx))
                go_ret
                exact ⟨rfl, (HNW.out.trans M18.out).trans U3.out⟩
        | false =>
          go_upto_region 10 with (first
            | (go_at_call 35; refine (HEM.out _ M5.out).mono ?_; rintro e v6 ⟨rfl, mx⟩; have M6 := Lib.hid (M5.out.trans mx); obtain ⟨z0, z1⟩ := HA.out _ M6.out; clear mx))
          have hmm := HMM.out
          have hmt := HMT.out
          go_upto_region 11 with fail
          clear hmm hmt
          go_upto_region 13 with (first
            | (go_at_call 71; refine (HK4.out _ M11.out).mono ?_; rintro e v12 ⟨rfl, mx⟩; have M12 := Lib.hid (M11.out.trans mx); obtain ⟨z0, z1⟩ := HA.out _ M12.out; clear mx)
            | (go_at_call 70; refine (HHM.out _ M10.out).mono ?_; rintro e v11 ⟨rfl, mx⟩; have M11 := Lib.hid (M10.out.trans mx); obtain ⟨z0, z1⟩ := HA.out _ M11.out; clear mx)
            | (go_at_call 70; refine (HH4.out _ M9.out).mono ?_; rintro e v10 ⟨rfl, mx⟩; have M10 := Lib.hid (M9.out.trans mx); obtain ⟨z0, z1⟩ := HA.out _ M10.out; clear mx)
            | (go_at_call 70; refine (HH3.out _ M8.out).mono ?_; rintro e v9 ⟨rfl, mx⟩; have M9 := Lib.hid (M8.out.trans mx); obtain ⟨z0, z1⟩ := HA.out _ M9.out; clear mx)
            | (go_at_call 70; refine (HH2.out _ M7.out).mono ?_; rintro e v8 ⟨rfl, mx⟩; have M8 := Lib.hid (M7.out.trans mx); obtain ⟨z0, z1⟩ := HA.out _ M8.out; clear mx)
            | (go_at_call 70; refine (HH1.out _ M6.out).mono ?_; rintro e v7 ⟨rfl, mx⟩; have M7 := Lib.hid (M6.out.trans mx); obtain ⟨z0, z1⟩ := HA.out _ M7.out; clear mx))
          have hxr := u32_xor_nat g3 m (by omega) (by omega)
          have hxl : g3 ^^^ m < 16777216 := Nat.xor_lt_two_pow (n := 24) l3 (by omega)
          have HFe2 := Lib.hid (fun (w' : World) => features_calls g2 (by omega) w')
          have HFe3 := Lib.hid (fun (w' : World) => show Calls Try.prog 18 #[.int .u32 ((g3 ^^^ m : Nat) : Int)] w' _ from features_calls (g3 ^^^ m) (by omega) w')
          go_upto_region 14 with (first
            | (go_at_call 18; have hseen := M13; refine (HFe3.out _).mono ?_; rintro e v14 ⟨s14, rfl, r14, mx⟩; obtain ⟨ao14, cap14, rfl⟩ := owns_form r14; have M14 := Lib.hid (M13.out.trans mx); obtain ⟨z0, z1⟩ := HA.out _ M14.out; clear mx r14)
            | (go_at_call 18; refine (HFe2.out _).mono ?_; rintro e v13 ⟨s13, rfl, r13, mx⟩; obtain ⟨ao13, cap13, rfl⟩ := owns_form r13; have M13 := Lib.hid (M12.out.trans mx); obtain ⟨z0, z1⟩ := HA.out _ M13.out; clear mx r13))
          have hp2 := HP2.out _ rfl
          have hp4 := HP4.out
          have hl2 : (feats g2).length ≤ 24 := featsTo_len g2 24
          clear HFe2 HFe3 HP2 HP4 hseen
          generalize (feats g2).length = n1 at hp2 hl2 ⊢
          generalize (feats (g3 ^^^ m)).length = n2 at hp4 ⊢
          have HP4 := Lib.hid hp4
          have HP2 := Lib.hid hp2
          clear hp2 hp4 hxr hxl
          have hw1 : IntKind.i64.wrap ((n1 : Int) - 1) = (n1 : Int) - 1 := IntWalk.i64_in _ (by omega)
          by_cases hn1 : 0 < n1
          · have hn1' : (0 : Int) < n1 := by omega
            refine wp_region_held_drew (S := (fun w' => w'.cell? ⟨bk, 0, none⟩ = some (.slice a1 a2 a3) ∧ w'.cell? ⟨bk, 1, none⟩ = some (.int .i64 a4))) (by kernel_rfl) (HA.out _ M14.out.drew) (fun hHeld => ?_)
            have N14 := Lib.hid M14.out.drew
            refine takeH0 (v := Value.int .i64 n1) (by kernel_rfl) (by kernel_rfl) (by kernel_rfl) (fun _ _ _ h => h) (Or.inl ⟨by rfl, fun w' hSw => by dsimp only at hSw; obtain ⟨s0, s1⟩ := hSw; go_simp⟩) hHeld ?_
            try simp only [Act.put, List.setIfInBounds_toArray, List.set_cons_zero, List.set_cons_succ]
            refine takeH1 (v := Value.bool true) (by kernel_rfl) (by kernel_rfl) (by kernel_rfl) (fun _ _ _ h => h) (Or.inl ⟨by rfl, fun w' hSw => by dsimp only at hSw; obtain ⟨s0, s1⟩ := hSw; go_simp⟩) hHeld ?_
            try simp only [Act.put, List.setIfInBounds_toArray, List.set_cons_zero, List.set_cons_succ]
            refine takeH2 (v := Value.bool true) (by kernel_rfl) (by kernel_rfl) (by kernel_rfl) (fun _ _ _ h => h) (Or.inl ⟨by rfl, fun w' hSw => by dsimp only at hSw; obtain ⟨s0, s1⟩ := hSw; go_simp⟩) hHeld ?_
            try simp only [Act.put, List.setIfInBounds_toArray, List.set_cons_zero, List.set_cons_succ]
            refine takeH3 (v := Value.agg #[.slice a1 a2 a3, .int .i64 a4]) (by kernel_rfl) (by kernel_rfl) (by kernel_rfl) (fun _ _ _ h => h) (Or.inl ⟨by rfl, fun w' hSw => by dsimp only at hSw; obtain ⟨s0, s1⟩ := hSw; go_simp⟩) hHeld ?_
            try simp only [Act.put, List.setIfInBounds_toArray, List.set_cons_zero, List.set_cons_succ]
            refine takeH4 (v := Value.int .i64 n1) (by kernel_rfl) (by kernel_rfl) (by kernel_rfl) (fun _ _ _ h => h) (Or.inl ⟨by rfl, fun w' hSw => by dsimp only at hSw; obtain ⟨s0, s1⟩ := hSw; go_simp⟩) hHeld ?_
            try simp only [Act.put, List.setIfInBounds_toArray, List.set_cons_zero, List.set_cons_succ]
            refine takeH5 (v := Value.int .i64 ((n1 : Int) - 1)) (by kernel_rfl) (by kernel_rfl) (by kernel_rfl) (fun _ _ _ h => h) (Or.inl ⟨by rfl, fun w' hSw => by dsimp only at hSw; obtain ⟨s0, s1⟩ := hSw; go_simp⟩) hHeld ?_
            try simp only [Act.put, List.setIfInBounds_toArray, List.set_cons_zero, List.set_cons_succ]
            refine wpAnyH_ready (rs := [6]) (by kernel_rfl) (by simp) ?_
            refine consH6 (fun K hK => ?_) AllReadyH.nil
            go_simp
            go_at_call 72
            refine (between_f (f := 16777215) (by decide) 0 ((n1 : Int) - 1) _).mono ?_
            rintro e v15 ⟨vb, rfl, hvb, mx⟩
            have M15 := Lib.hid (N14.out.trans mx)
            obtain ⟨q1, q2, q3, q4, rfl⟩ := hvb.form; have HVB := Lib.hid hvb; clear hvb
            refine hK.out _ _ (HA.out _ M15.out) (fun hHeld => ?_)
            clear hK K hHeld mx
            have hHeld := HA.out _ M15.out
            try simp only [Act.put, List.setIfInBounds_toArray, List.set_cons_zero, List.set_cons_succ]
            refine wpAnyH_ready (rs := [7]) (by kernel_rfl) (by simp) ?_
            refine consH7 (fun K hK => ?_) AllReadyH.nil
            go_simp
            go_at_call 34
            refine (and_f (HFA.out.near M15.out) HVB.out).mono ?_
            rintro e v16 ⟨vc, rfl, hvc, mx⟩
            have M16 := Lib.hid (M15.out.trans mx)
            obtain ⟨t1, t2, t3, t4, rfl⟩ := hvc.form; have HVC := Lib.hid hvc; clear hvc
            refine hK.out _ _ (HA.out _ M16.out) (fun hHeld => ?_)
            clear hK K hHeld mx
            have hHeld := HA.out _ M16.out
            try simp only [Act.put, List.setIfInBounds_toArray, List.set_cons_zero, List.set_cons_succ]
            refine wpAnyH_ready (rs := [8]) (by kernel_rfl) (by simp) ?_
            refine consH8 (fun K hK => ?_) AllReadyH.nil
            go_simp
            go_at_call 35
            refine (empty_is HVC.out HP2.out).mono ?_
            rintro e v17 ⟨rfl, mx⟩
            have M17 := Lib.hid (M16.out.trans mx)
            refine hK.out _ _ (HA.out _ M17.out) (fun hHeld => ?_)
            clear hK K hHeld mx
            have hHeld := HA.out _ M17.out
            try simp only [Act.put, List.setIfInBounds_toArray, List.set_cons_zero, List.set_cons_succ]
            refine takeH9 (v := Value.bool false) (by kernel_rfl) (by kernel_rfl) (by kernel_rfl) (fun _ _ _ h => h) (Or.inl ⟨by rfl, fun w' hSw => by dsimp only at hSw; obtain ⟨s0, s1⟩ := hSw; go_simp⟩) hHeld ?_
            try simp only [Act.put, List.setIfInBounds_toArray, List.set_cons_zero, List.set_cons_succ]
            refine takeH10 (v := Value.bool false) (by kernel_rfl) (by kernel_rfl) (by kernel_rfl) (fun _ _ _ h => h) (Or.inl ⟨by rfl, fun w' hSw => by dsimp only at hSw; obtain ⟨s0, s1⟩ := hSw; go_simp⟩) hHeld ?_
            try simp only [Act.put, List.setIfInBounds_toArray, List.set_cons_zero, List.set_cons_succ]
            refine takeH11 (v := Value.bool false) (by kernel_rfl) (by kernel_rfl) (by kernel_rfl) (fun _ _ _ h => h) (Or.inl ⟨by rfl, fun w' hSw => by dsimp only at hSw; obtain ⟨s0, s1⟩ := hSw; go_simp⟩) hHeld ?_
            try simp only [Act.put, List.setIfInBounds_toArray, List.set_cons_zero, List.set_cons_succ]
            refine takeH12 (v := Value.agg #[.slice a1 a2 a3, .int .i64 a4]) (by kernel_rfl) (by kernel_rfl) (by kernel_rfl) (fun _ _ _ h => h) (Or.inl ⟨by rfl, fun w' hSw => by dsimp only at hSw; obtain ⟨s0, s1⟩ := hSw; go_simp⟩) hHeld ?_
            try simp only [Act.put, List.setIfInBounds_toArray, List.set_cons_zero, List.set_cons_succ]
            refine takeH13 (v := Value.int .u32 m) (by kernel_rfl) (by kernel_rfl) (by kernel_rfl) (fun _ _ _ h => h) (Or.inl ⟨by rfl, fun w' hSw => by dsimp only at hSw; obtain ⟨s0, s1⟩ := hSw; go_simp⟩) hHeld ?_
            try simp only [Act.put, List.setIfInBounds_toArray, List.set_cons_zero, List.set_cons_succ]
            refine wpAnyH_ready (rs := [14]) (by kernel_rfl) (by simp) ?_
            refine consH14 (fun K hK => ?_) AllReadyH.nil
            go_simp
            go_at_call 70
            refine (HHM.out _ M17.out).mono ?_
            rintro e v18 ⟨rfl, mx⟩
            have M18 := Lib.hid (M17.out.trans mx)
            refine hK.out _ _ (HA.out _ M18.out) (fun hHeld => ?_)
            clear hK K hHeld mx
            have hHeld := HA.out _ M18.out
            try simp only [Act.put, List.setIfInBounds_toArray, List.set_cons_zero, List.set_cons_succ]
            refine takeH15 (v := Value.bool false) (by kernel_rfl) (by kernel_rfl) (by kernel_rfl) (fun _ _ _ h => h) (Or.inl ⟨by rfl, fun w' hSw => by dsimp only at hSw; obtain ⟨s0, s1⟩ := hSw; go_simp⟩) hHeld ?_
            try simp only [Act.put, List.setIfInBounds_toArray, List.set_cons_zero, List.set_cons_succ]
            refine takeH16 (v := undef) (by kernel_rfl) (by kernel_rfl) (by kernel_rfl) (fun _ _ _ h => h) (Or.inr ⟨by rfl, rfl⟩) hHeld ?_
            try simp only [Act.put, List.setIfInBounds_toArray, List.set_cons_zero, List.set_cons_succ]
            refine takeH17 (v := undef) (by kernel_rfl) (by kernel_rfl) (by kernel_rfl) (fun _ _ _ h => h) (Or.inr ⟨by rfl, rfl⟩) hHeld ?_
            try simp only [Act.put, List.setIfInBounds_toArray, List.set_cons_zero, List.set_cons_succ]
            refine takeH18 (v := undef) (by kernel_rfl) (by kernel_rfl) (by kernel_rfl) (fun _ _ _ h => h) (Or.inr ⟨by rfl, rfl⟩) hHeld ?_
            try simp only [Act.put, List.setIfInBounds_toArray, List.set_cons_zero, List.set_cons_succ]
            refine takeH19 (v := Value.bool false) (by kernel_rfl) (by kernel_rfl) (by kernel_rfl) (fun _ _ _ h => h) (Or.inl ⟨by rfl, fun w' hSw => by dsimp only at hSw; obtain ⟨s0, s1⟩ := hSw; go_simp⟩) hHeld ?_
            try simp only [Act.put, List.setIfInBounds_toArray, List.set_cons_zero, List.set_cons_succ]
            refine takeH20 (v := Value.bool false) (by kernel_rfl) (by kernel_rfl) (by kernel_rfl) (fun _ _ _ h => h) (Or.inl ⟨by rfl, fun w' hSw => by dsimp only at hSw; obtain ⟨s0, s1⟩ := hSw; go_simp⟩) hHeld ?_
            try simp only [Act.put, List.setIfInBounds_toArray, List.set_cons_zero, List.set_cons_succ]
            refine wpAnyH_done (by kernel_rfl) ?_ _
            go_upto_region 17 with fail
            go_loopw [22] (fun i wr => ∃ k : Nat, k ≤ 24 ∧ i = .int .i64 k ∧ Near v18 wr) (fun i _ => 24 - (intOf i).toNat)
            case atStart => exact ⟨0, Nat.zero_le _, rfl, Near.refl _⟩
            case round =>
              obtain ⟨k, hk, rfl, hn⟩ := hrel
              obtain ⟨z0, z1⟩ := HA.out _ (M18.out.trans hn)
              have HNr := Lib.hid hn
              clear hn
              by_cases hk24 : k < 24
              · have hk24' : (k : Int) < 24 := by omega
                by_cases hn2 : 0 < n2
                · have hn2' : (0 : Int) < n2 := by omega
                  by_cases h2 : 2 ≤ n2
                  · have h2' : (2 : Int) ≤ n2 := by omega
                    have hf := HP4.out h2 k hk24
                    have hpk : 2 ^ k < 16777216 := Nat.lt_of_lt_of_le (Nat.pow_lt_pow_right (a := 2) (by omega) hk24) (by decide)
                    have hcast : ((2 ^ k : Nat) : Int) = (2 : Int) ^ k := by simp
                    have hs1 : (2 : Int) ^ k % 4294967296 = (2 : Int) ^ k := by rw [← hcast]; generalize 2 ^ k = p at hpk; omega
                    have hxk : bits .xor .u32 (m : Int) ((2 : Int) ^ k) = ((m ^^^ 2 ^ k : Nat) : Int) := by rw [← hcast]; generalize 2 ^ k = p at hpk; exact u32_xor_nat m p (by omega) (by omega)
                    have hxl : m ^^^ 2 ^ k < 16777216 := Nat.xor_lt_two_pow (n := 24) (by omega) hpk
                    have HHk := Lib.hid (fun (w' : World) (hn : Near W w') => has_is (HFA.out.near hn) hf (by omega))
                    clear hf hpk hcast
                    generalize m ^^^ 2 ^ k = mk at hxk hxl HHk
                    go_wp2_with (go_at_call 70; refine (HHk.out _ (M18.out.trans HNr.out)).mono ?_; rintro e vk ⟨rfl, mx⟩; have HNk := Lib.hid (HNr.out.trans mx); clear mx)
                    exact ⟨⟨k + 1, by omega, by go_num, HNk.out⟩, by simp [intOf]; omega⟩
                  · have h2' : ¬ ((2 : Int) ≤ n2) := by omega
                    go_wp2_with fail
                    exact ⟨⟨k + 1, by omega, by go_num, HNr.out⟩, by simp [intOf]; omega⟩
                · obtain rfl : n2 = 0 := by omega
                  go_wp2_with (first
                    | (go_at_call 70; refine (HHM.out _ (M18.out.trans HNr.out)).mono ?_; rintro e u1 ⟨rfl, mx⟩; have U1 := Lib.hid (HNr.out.trans mx); clear mx)
                    | (go_at_call 17; refine (wakes_calls _).mono ?_; rintro e u3 ⟨rfl, mx⟩; have U3 := Lib.hid (U1.out.trans mx); clear mx))
                  go_ret
                  exact ⟨rfl, (HNW.out.trans M18.out).trans U3.out⟩
              · have hk24' : ¬ ((k : Int) < 24) := by omega
                go_wp2_with (first
                  | (go_at_call 70; refine (HHM.out _ (M18.out.trans HNr.out)).mono ?_; rintro e u1 ⟨rfl, mx⟩; have U1 := Lib.hid (HNr.out.trans mx); clear mx)
                  | (go_at_call 17; refine (wakes_calls _).mono ?_; rintro e u3 ⟨rfl, mx⟩; have U3 := Lib.hid (U1.out.trans mx); clear mx))
                go_ret
                exact ⟨rfl, (HNW.out.trans M18.out).trans U3.out⟩
          · obtain rfl : n1 = 0 := by omega
            refine wp_region_held_drew (S := (fun w' => w'.cell? ⟨bk, 0, none⟩ = some (.slice a1 a2 a3) ∧ w'.cell? ⟨bk, 1, none⟩ = some (.int .i64 a4))) (by kernel_rfl) (HA.out _ M14.out.drew) (fun hHeld => ?_)
            have N14 := Lib.hid M14.out.drew
            refine takeH0 (v := Value.int .i64 0) (by kernel_rfl) (by kernel_rfl) (by kernel_rfl) (fun _ _ _ h => h) (Or.inl ⟨by rfl, fun w' hSw => by dsimp only at hSw; obtain ⟨s0, s1⟩ := hSw; go_simp⟩) hHeld ?_
            try simp only [Act.put, List.setIfInBounds_toArray, List.set_cons_zero, List.set_cons_succ]
            refine takeH1 (v := Value.bool false) (by kernel_rfl) (by kernel_rfl) (by kernel_rfl) (fun _ _ _ h => h) (Or.inl ⟨by rfl, fun w' hSw => by dsimp only at hSw; obtain ⟨s0, s1⟩ := hSw; go_simp⟩) hHeld ?_
            try simp only [Act.put, List.setIfInBounds_toArray, List.set_cons_zero, List.set_cons_succ]
            refine takeH2 (v := Value.bool false) (by kernel_rfl) (by kernel_rfl) (by kernel_rfl) (fun _ _ _ h => h) (Or.inl ⟨by rfl, fun w' hSw => by dsimp only at hSw; obtain ⟨s0, s1⟩ := hSw; go_simp⟩) hHeld ?_
            try simp only [Act.put, List.setIfInBounds_toArray, List.set_cons_zero, List.set_cons_succ]
            refine takeH3 (v := undef) (by kernel_rfl) (by kernel_rfl) (by kernel_rfl) (fun _ _ _ h => h) (Or.inr ⟨by rfl, rfl⟩) hHeld ?_
            try simp only [Act.put, List.setIfInBounds_toArray, List.set_cons_zero, List.set_cons_succ]
            refine takeH4 (v := undef) (by kernel_rfl) (by kernel_rfl) (by kernel_rfl) (fun _ _ _ h => h) (Or.inr ⟨by rfl, rfl⟩) hHeld ?_
            try simp only [Act.put, List.setIfInBounds_toArray, List.set_cons_zero, List.set_cons_succ]
            refine takeH5 (v := undef) (by kernel_rfl) (by kernel_rfl) (by kernel_rfl) (fun _ _ _ h => h) (Or.inr ⟨by rfl, rfl⟩) hHeld ?_
            try simp only [Act.put, List.setIfInBounds_toArray, List.set_cons_zero, List.set_cons_succ]
            refine takeH6 (v := undef) (by kernel_rfl) (by kernel_rfl) (by kernel_rfl) (fun _ _ _ h => h) (Or.inr ⟨by rfl, rfl⟩) hHeld ?_
            try simp only [Act.put, List.setIfInBounds_toArray, List.set_cons_zero, List.set_cons_succ]
            refine takeH7 (v := undef) (by kernel_rfl) (by kernel_rfl) (by kernel_rfl) (fun _ _ _ h => h) (Or.inr ⟨by rfl, rfl⟩) hHeld ?_
            try simp only [Act.put, List.setIfInBounds_toArray, List.set_cons_zero, List.set_cons_succ]
            refine takeH8 (v := undef) (by kernel_rfl) (by kernel_rfl) (by kernel_rfl) (fun _ _ _ h => h) (Or.inr ⟨by rfl, rfl⟩) hHeld ?_
            try simp only [Act.put, List.setIfInBounds_toArray, List.set_cons_zero, List.set_cons_succ]
            refine takeH9 (v := undef) (by kernel_rfl) (by kernel_rfl) (by kernel_rfl) (fun _ _ _ h => h) (Or.inr ⟨by rfl, rfl⟩) hHeld ?_
            try simp only [Act.put, List.setIfInBounds_toArray, List.set_cons_zero, List.set_cons_succ]
            have M17 := N14
            refine takeH10 (v := Value.bool false) (by kernel_rfl) (by kernel_rfl) (by kernel_rfl) (fun _ _ _ h => h) (Or.inl ⟨by rfl, fun w' hSw => by dsimp only at hSw; obtain ⟨s0, s1⟩ := hSw; go_simp⟩) hHeld ?_
            try simp only [Act.put, List.setIfInBounds_toArray, List.set_cons_zero, List.set_cons_succ]
            refine takeH11 (v := Value.bool false) (by kernel_rfl) (by kernel_rfl) (by kernel_rfl) (fun _ _ _ h => h) (Or.inl ⟨by rfl, fun w' hSw => by dsimp only at hSw; obtain ⟨s0, s1⟩ := hSw; go_simp⟩) hHeld ?_
            try simp only [Act.put, List.setIfInBounds_toArray, List.set_cons_zero, List.set_cons_succ]
            refine takeH12 (v := Value.agg #[.slice a1 a2 a3, .int .i64 a4]) (by kernel_rfl) (by kernel_rfl) (by kernel_rfl) (fun _ _ _ h => h) (Or.inl ⟨by rfl, fun w' hSw => by dsimp only at hSw; obtain ⟨s0, s1⟩ := hSw; go_simp⟩) hHeld ?_
            try simp only [Act.put, List.setIfInBounds_toArray, List.set_cons_zero, List.set_cons_succ]
            refine takeH13 (v := Value.int .u32 m) (by kernel_rfl) (by kernel_rfl) (by kernel_rfl) (fun _ _ _ h => h) (Or.inl ⟨by rfl, fun w' hSw => by dsimp only at hSw; obtain ⟨s0, s1⟩ := hSw; go_simp⟩) hHeld ?_
            try simp only [Act.put, List.setIfInBounds_toArray, List.set_cons_zero, List.set_cons_succ]
            refine wpAnyH_ready (rs := [14]) (by kernel_rfl) (by simp) ?_
            refine consH14 (fun K hK => ?_) AllReadyH.nil
            go_simp
            go_at_call 70
            refine (HHM.out _ M17.out).mono ?_
            rintro e v18 ⟨rfl, mx⟩
            have M18 := Lib.hid (M17.out.trans mx)
            refine hK.out _ _ (HA.out _ M18.out) (fun hHeld => ?_)
            clear hK K hHeld mx
            have hHeld := HA.out _ M18.out
            try simp only [Act.put, List.setIfInBounds_toArray, List.set_cons_zero, List.set_cons_succ]
            refine takeH15 (v := Value.bool false) (by kernel_rfl) (by kernel_rfl) (by kernel_rfl) (fun _ _ _ h => h) (Or.inl ⟨by rfl, fun w' hSw => by dsimp only at hSw; obtain ⟨s0, s1⟩ := hSw; go_simp⟩) hHeld ?_
            try simp only [Act.put, List.setIfInBounds_toArray, List.set_cons_zero, List.set_cons_succ]
            refine takeH16 (v := undef) (by kernel_rfl) (by kernel_rfl) (by kernel_rfl) (fun _ _ _ h => h) (Or.inr ⟨by rfl, rfl⟩) hHeld ?_
            try simp only [Act.put, List.setIfInBounds_toArray, List.set_cons_zero, List.set_cons_succ]
            refine takeH17 (v := undef) (by kernel_rfl) (by kernel_rfl) (by kernel_rfl) (fun _ _ _ h => h) (Or.inr ⟨by rfl, rfl⟩) hHeld ?_
            try simp only [Act.put, List.setIfInBounds_toArray, List.set_cons_zero, List.set_cons_succ]
            refine takeH18 (v := undef) (by kernel_rfl) (by kernel_rfl) (by kernel_rfl) (fun _ _ _ h => h) (Or.inr ⟨by rfl, rfl⟩) hHeld ?_
            try simp only [Act.put, List.setIfInBounds_toArray, List.set_cons_zero, List.set_cons_succ]
            refine takeH19 (v := Value.bool false) (by kernel_rfl) (by kernel_rfl) (by kernel_rfl) (fun _ _ _ h => h) (Or.inl ⟨by rfl, fun w' hSw => by dsimp only at hSw; obtain ⟨s0, s1⟩ := hSw; go_simp⟩) hHeld ?_
            try simp only [Act.put, List.setIfInBounds_toArray, List.set_cons_zero, List.set_cons_succ]
            refine takeH20 (v := Value.bool false) (by kernel_rfl) (by kernel_rfl) (by kernel_rfl) (fun _ _ _ h => h) (Or.inl ⟨by rfl, fun w' hSw => by dsimp only at hSw; obtain ⟨s0, s1⟩ := hSw; go_simp⟩) hHeld ?_
            try simp only [Act.put, List.setIfInBounds_toArray, List.set_cons_zero, List.set_cons_succ]
            refine wpAnyH_done (by kernel_rfl) ?_ _
            go_upto_region 17 with fail
            go_loopw [22] (fun i wr => ∃ k : Nat, k ≤ 24 ∧ i = .int .i64 k ∧ Near v18 wr) (fun i _ => 24 - (intOf i).toNat)
            case atStart => exact ⟨0, Nat.zero_le _, rfl, Near.refl _⟩
            case round =>
              obtain ⟨k, hk, rfl, hn⟩ := hrel
              obtain ⟨z0, z1⟩ := HA.out _ (M18.out.trans hn)
              have HNr := Lib.hid hn
              clear hn
              by_cases hk24 : k < 24
              · have hk24' : (k : Int) < 24 := by omega
                by_cases hn2 : 0 < n2
                · have hn2' : (0 : Int) < n2 := by omega
                  by_cases h2 : 2 ≤ n2
                  · have h2' : (2 : Int) ≤ n2 := by omega
                    have hf := HP4.out h2 k hk24
                    have hpk : 2 ^ k < 16777216 := Nat.lt_of_lt_of_le (Nat.pow_lt_pow_right (a := 2) (by omega) hk24) (by decide)
                    have hcast : ((2 ^ k : Nat) : Int) = (2 : Int) ^ k := by simp
                    have hs1 : (2 : Int) ^ k % 4294967296 = (2 : Int) ^ k := by rw [← hcast]; generalize 2 ^ k = p at hpk; omega
                    have hxk : bits .xor .u32 (m : Int) ((2 : Int) ^ k) = ((m ^^^ 2 ^ k : Nat) : Int) := by rw [← hcast]; generalize 2 ^ k = p at hpk; exact u32_xor_nat m p (by omega) (by omega)
                    have hxl : m ^^^ 2 ^ k < 16777216 := Nat.xor_lt_two_pow (n := 24) (by omega) hpk
                    have HHk := Lib.hid (fun (w' : World) (hn : Near W w') => has_is (HFA.out.near hn) hf (by omega))
                    clear hf hpk hcast
                    generalize m ^^^ 2 ^ k = mk at hxk hxl HHk
                    go_wp2_with (go_at_call 70; refine (HHk.out _ (M18.out.trans HNr.out)).mono ?_; rintro e vk ⟨rfl, mx⟩; have HNk := Lib.hid (HNr.out.trans mx); clear mx)
                    exact ⟨⟨k + 1, by omega, by go_num, HNk.out⟩, by simp [intOf]; omega⟩
                  · have h2' : ¬ ((2 : Int) ≤ n2) := by omega
                    go_wp2_with fail
                    exact ⟨⟨k + 1, by omega, by go_num, HNr.out⟩, by simp [intOf]; omega⟩
                · obtain rfl : n2 = 0 := by omega
                  go_wp2_with (first
                    | (go_at_call 70; refine (HHM.out _ (M18.out.trans HNr.out)).mono ?_; rintro e u1 ⟨rfl, mx⟩; have U1 := Lib.hid (HNr.out.trans mx); clear mx)
                    | (go_at_call 17; refine (wakes_calls _).mono ?_; rintro e u3 ⟨rfl, mx⟩; have U3 := Lib.hid (U1.out.trans mx); clear mx))
                  go_ret
                  exact ⟨rfl, (HNW.out.trans M18.out).trans U3.out⟩
              · have hk24' : ¬ ((k : Int) < 24) := by omega
                go_wp2_with (first
                  | (go_at_call 70; refine (HHM.out _ (M18.out.trans HNr.out)).mono ?_; rintro e u1 ⟨rfl, mx⟩; have U1 := Lib.hid (HNr.out.trans mx); clear mx)
                  | (go_at_call 17; refine (wakes_calls _).mono ?_; rintro e u3 ⟨rfl, mx⟩; have U3 := Lib.hid (U1.out.trans mx); clear mx))
                go_ret
                exact ⟨rfl, (HNW.out.trans M18.out).trans U3.out⟩
  · have hd : decide (ThreeOk l) = false := decide_eq_false hok
    have HD := Lib.hid hd
    clear hd hok hnil
    go_enter Try.func14, Try.ntmps14
    go_wp2_with (first
      | (go_at_call 31; refine H3.out.mono ?_; rintro e w3 h3; obtain ⟨a1, a2, a3, a4, b1, b2, b3, b4, c1, c2, c3, c4, rfl, ia, ib, ic, n3⟩ := h3.mk; rw [HD.out]; have HN3 := Lib.hid n3; clear ia ib ic n3)
      | (go_at_call 17; refine (wakes_calls _).mono ?_; rintro e w4 ⟨rfl, n4⟩))
    go_ret
    exact ⟨rfl, (((HN3.out.alloc _).alloc _).alloc _).trans n4⟩

end Go.Proofs.Ytefclohjeompkaa
