/- Parts of a proof: BestR, BestS, BestT, BestU, BestV. -/
import Derived.Laws.BitsAllLaws
import Derived.Test.YtefclohjeompkaaKDownW
import Derived.Test.YtefclohjeompkaaKRefT
import Derived.Test.YtefclohjeompkaaKBestH
import Derived.Test.YtefclohjeompkaaKSaidA
/- The best row of a table is the best configuration: the plain law. -/
namespace Go.Proofs.Ytefclohjeompkaa
open Go Go.RowKit Go.Proofs.Gen Go.Proofs.Bdd Go.Proofs.Bdd.T

/-- The configuration of an index; the other features are as rest says. -/
def cand (V : List Nat) (rest k : Nat) : Nat := cfg V k ||| (rest ^^^ (rest &&& numb V))

theorem cand_bit {V : List Nat} (hV : Rising 0 V) (rest k i : Nat) : (cand V rest k).testBit i = if i ∈ V then bitOf V k i else rest.testBit i := by
  unfold cand
  rw [Nat.testBit_or, Nat.testBit_xor, Nat.testBit_and, numb_bit, cfg_bit hV]
  by_cases h : i ∈ V
  · simp [h]
  · simp [h, bitOf_not h]

theorem lt_of_bits {n m : Nat} (h : ∀ i, m ≤ i → n.testBit i = false) : n < 2 ^ m := Nat.lt_pow_two_of_testBit n h

theorem cand_lt {V : List Nat} (hV : Rising 0 V) {rest : Nat} (hr : rest < 2 ^ 24) (k : Nat) : cand V rest k < 2 ^ 24 := by
  refine lt_of_bits fun i hi => ?_
  rw [cand_bit hV]
  split
  · rename_i h
    have := (hV.all i h).2
    omega
  · exact Nat.testBit_lt_two_pow (Nat.lt_of_lt_of_le hr (Nat.pow_le_pow_right (by omega) hi))

/-- The best one among the marked ones of the first k. -/
def BestTo (p : Nat → Int) (q : Nat → Nat) (T : List Bool) (k : Nat) (x : Int) (c : Nat) (is : Bool) : Prop :=
  (is = false → x = 0 ∧ c = 0 ∧ ∀ m, m < k → T.getD m false = false) ∧
  (is = true → (∃ m, m < k ∧ T.getD m false = true ∧ x = p m ∧ c = q m) ∧ ∀ m, m < k → T.getD m false = true → ¬ lexLt (p m) (q m) x c)

theorem BestTo.zero (p : Nat → Int) (q : Nat → Nat) (T : List Bool) : BestTo p q T 0 0 0 false := ⟨fun _ => ⟨rfl, rfl, fun m h => by omega⟩, fun h => by cases h⟩

theorem BestTo.skip {p : Nat → Int} {q : Nat → Nat} {T : List Bool} {k : Nat} {x : Int} {c : Nat} {is : Bool} (h : BestTo p q T k x c is) (hk : T.getD k false = false) : BestTo p q T (k + 1) x c is := by
  refine ⟨fun hi => ?_, fun hi => ?_⟩
  · obtain ⟨h1, h2, h3⟩ := h.1 hi
    refine ⟨h1, h2, fun m hm => ?_⟩
    by_cases e : m = k
    · subst e; exact hk
    · exact h3 m (by omega)
  · obtain ⟨⟨m, h1, h2⟩, h3⟩ := h.2 hi
    refine ⟨⟨m, by omega, h2⟩, fun m' hm ht => ?_⟩
    by_cases e : m' = k
    · subst e; rw [hk] at ht; cases ht
    · exact h3 m' (by omega) ht

theorem BestTo.take {p : Nat → Int} {q : Nat → Nat} {T : List Bool} {k : Nat} {x : Int} {c : Nat} {is : Bool} (h : BestTo p q T k x c is) (hk : T.getD k false = true) (hb : is = false ∨ lexLt (p k) (q k) x c) : BestTo p q T (k + 1) (p k) (q k) true := by
  refine ⟨fun hi => (by cases hi), fun _ => ⟨⟨k, by omega, hk, rfl, rfl⟩, fun m hm ht => ?_⟩⟩
  by_cases e : m = k
  · subst e; unfold lexLt; omega
  · cases his : is with
    | false =>
      have := (h.1 his).2.2 m (by omega)
      rw [ht] at this
      cases this
    | true =>
      rw [his] at hb
      have h1 := (h.2 his).2 m (by omega) ht
      have h2 : lexLt (p k) (q k) x c := by
        rcases hb with hb | hb
        · cases hb
        · exact hb
      unfold lexLt at *
      omega

theorem BestTo.stay {p : Nat → Int} {q : Nat → Nat} {T : List Bool} {k : Nat} {x : Int} {c : Nat} {is : Bool} (h : BestTo p q T k x c is) (hi : is = true) (hb : ¬ lexLt (p k) (q k) x c) : BestTo p q T (k + 1) x c is := by
  refine ⟨fun hi' => (by rw [hi] at hi'; cases hi'), fun _ => ?_⟩
  obtain ⟨⟨m, h1, h2⟩, h3⟩ := h.2 hi
  refine ⟨⟨m, by omega, h2⟩, fun m' hm ht => ?_⟩
  by_cases e : m' = k
  · subst e; exact hb
  · exact h3 m' (by omega) ht

theorem le_of_bits : ∀ (n : Nat) {a b : Nat}, a < 2 ^ n → (∀ i, a.testBit i = true → b.testBit i = true) → a ≤ b
  | 0, a, b, ha, _ => by
    rw [Nat.pow_zero] at ha
    omega
  | n + 1, a, b, ha, h => by
    have ih := le_of_bits n (a := a / 2) (b := b / 2) (by rw [Nat.pow_succ] at ha; omega) (fun i hi => by
      rw [Nat.testBit_div_two] at hi ⊢
      exact h _ hi)
    have h0 := h 0
    simp only [Nat.testBit_zero, decide_eq_true_eq] at h0
    omega

/-- Where weights prefer rest, nothing is better than rest. -/
theorem ws_le {w : Nat → Bool → Int} : ∀ {k lo : Nat} {c d : Nat → Bool}, (∀ i, lo ≤ i → i < lo + k → c i = d i ∨ c i = decide (w i true < w i false)) →
    ws w k lo c ≤ ws w k lo d ∧ (ws w k lo c = ws w k lo d → ∀ i, lo ≤ i → i < lo + k → c i = true → d i = true)
  | 0, lo, c, d, _ => ⟨Int.le_refl _, fun _ i h1 h2 => by omega⟩
  | k + 1, lo, c, d, h => by
    have ih := ws_le (w := w) (k := k) (lo := lo + 1) (c := c) (d := d) (fun i h1 h2 => h i (by omega) (by omega))
    have hl : w lo (c lo) ≤ w lo (d lo) ∧ (w lo (c lo) = w lo (d lo) → c lo = true → d lo = true) := by
      rcases h lo (Nat.le_refl _) (by omega) with e | e
      · rw [e]
        exact ⟨Int.le_refl _, fun _ h => h⟩
      · by_cases hw : w lo true < w lo false
        · rw [e]
          simp only [hw, decide_true]
          cases hd : d lo
          · exact ⟨by omega, fun e => by omega⟩
          · exact ⟨by omega, fun _ _ => rfl⟩
        · rw [e]
          simp only [hw, decide_false]
          cases hd : d lo
          · exact ⟨by omega, fun _ h => by cases h⟩
          · exact ⟨by omega, fun _ h => by cases h⟩
    simp only [ws]
    refine ⟨by omega, fun e i h1 h2 hc => ?_⟩
    by_cases hi : i = lo
    · subst hi
      exact hl.2 (by omega) hc
    · exact ih.2 (by omega) i (by omega) (by omega) hc

/-- THE BEST ROW IS THE BEST CONFIGURATION. -/
theorem best_table {w : Nat → Bool → Int} {V : List Nat} {T : List Bool} {f : F} {rest : Nat} {x : Int} {c : Nat} {is : Bool} (hV : Rising 0 V) (hT : T.length = 2 ^ V.length) (hf : ∀ c, rf V T c = f c) (hr : rest < 2 ^ 24)
    (hrest : ∀ i, i < 24 → i ∉ V → rest.testBit i = decide (w i true < w i false)) (h : BestTo (fun k => ws w 24 0 (cand V rest k).testBit) (cand V rest) T T.length x c is) :
    is = !nowhere f ∧ (is = false → x = 0 ∧ c = 0) ∧ (is = true → IsBest w f x c) := by
  have tab : ∀ k, k < 2 ^ V.length → T.getD k false = f (cand V rest k).testBit := fun k hk => by
    rw [← hf, rf]
    congr 1
    rw [idx_congr (c' := bitOf V k) (fun i hi => by rw [cand_bit hV, if_pos hi]), idx_bitOf hV k hk]
  -- every configuration of the set has a row that is no worse
  have row : ∀ d : Nat, f d.testBit = true → ∃ k, k < 2 ^ V.length ∧ T.getD k false = true ∧ (d < 2 ^ 24 → ¬ lexLt (ws w 24 0 d.testBit) d (ws w 24 0 (cand V rest k).testBit) (cand V rest k)) := by
    intro d hd
    have hk := idx_lt d.testBit V
    have hb : ∀ i, (cand V rest (idx V d.testBit)).testBit i = if i ∈ V then d.testBit i else rest.testBit i := fun i => by
      rw [cand_bit hV, bitOf_idx]
      by_cases hi : i ∈ V
      · simp [hi]
      · simp [hi]
    refine ⟨_, hk, ?_, fun h24 => ?_⟩
    · rw [tab _ hk, ← hd, ← hf, ← hf]
      exact rf_congr fun i hi => by rw [hb, if_pos hi]
    · have hw := ws_le (w := w) (k := 24) (lo := 0) (c := (cand V rest (idx V d.testBit)).testBit) (d := d.testBit) (fun i _ hi => by
        rw [hb]
        by_cases hiV : i ∈ V
        · rw [if_pos hiV]; exact .inl rfl
        · rw [if_neg hiV]; exact .inr (hrest i (by omega) hiV))
      unfold lexLt
      rintro (h1 | ⟨h1, h2⟩)
      · omega
      · have := le_of_bits 24 (a := cand V rest (idx V d.testBit)) (b := d) (cand_lt hV hr _) (fun i hi => by
          by_cases hi24 : i < 24
          · exact hw.2 h1.symm i (Nat.zero_le _) (by omega) hi
          · rw [Nat.testBit_lt_two_pow (Nat.lt_of_lt_of_le (cand_lt hV hr _) (Nat.pow_le_pow_right (by omega) (by omega)))] at hi
            cases hi)
        omega
  rw [hT] at h
  refine ⟨?_, fun hi => ⟨(h.1 hi).1, (h.1 hi).2.1⟩, fun hi => ?_⟩
  · cases hi : is with
    | false =>
      rw [nowhere_iff.2]
      · rfl
      · intro c
        refine Classical.byContradiction fun hc => ?_
        have hc' : f c = true := by simpa using hc
        -- the configuration of its index
        have h1 := (h.1 hi).2.2 (idx V c) (idx_lt c V)
        have h2 := hf c
        rw [rf] at h2
        rw [h2, hc'] at h1
        cases h1
    | true =>
      cases hn : nowhere f with
      | false => rfl
      | true =>
        obtain ⟨⟨m, h1, h2, -⟩, -⟩ := h.2 hi
        rw [tab m h1, nowhere_iff.1 hn] at h2
        cases h2
  · obtain ⟨⟨m, h1, h2, h3, h4⟩, h5⟩ := h.2 hi
    refine ⟨by rw [h4]; exact cand_lt hV hr m, by rw [h4, ← tab m h1]; exact h2, by rw [h3, h4], fun d h24 hd => ?_⟩
    obtain ⟨k, hk, hkt, hle⟩ := row d hd
    have a := hle h24
    have b := h5 k hk hkt
    unfold lexLt at *
    simp only at *
    omega

/-- What costs come to. -/
theorem ws_costs (l : List Int) (hl : l.length ≤ 24) (c : Nat → Bool) : ws (fun i b => if b then costOf l i else 0) 24 0 c = costSum l c l.length := by
  have key : ∀ k lo, ws (fun i b => if b then costOf l i else 0) k lo c + costSum l c lo = costSum l c (lo + k) := by
    intro k
    induction k with
    | zero => intro lo; simp [ws]
    | succ k ih =>
      intro lo
      simp only [ws]
      have := ih (lo + 1)
      rw [show lo + (k + 1) = lo + 1 + k from by omega, ← this]
      simp only [costSum]
      omega
  have h := key 24 0
  rw [show costSum l c 0 = 0 from rfl, Int.add_zero, Nat.zero_add] at h
  rw [h]
  have tail : ∀ k, costSum l c (l.length + k) = costSum l c l.length := by
    intro k
    induction k with
    | zero => rfl
    | succ k ih =>
      rw [show l.length + (k + 1) = (l.length + k) + 1 from by omega]
      simp only [costSum]
      rw [ih]
      have : costOf l (l.length + k) = 0 := by
        unfold costOf
        rw [List.getD_eq_getElem?_getD, List.getElem?_eq_none (by omega)]
        rfl
      rw [this]
      split <;> omega
  rw [show (24 : Nat) = l.length + (24 - l.length) from by omega, tail]

/-- How many features part two configurations. -/
theorem ws_far (near c : Nat) : ws (fun i b => if b = near.testBit i then 0 else 1) 24 0 c.testBit = ((feats (c ^^^ near)).length : Int) := by
  have key : ∀ k lo, ws (fun i b => if b = near.testBit i then (0 : Int) else 1) k lo c.testBit + ((featsTo (c ^^^ near) lo).length : Int) = ((featsTo (c ^^^ near) (lo + k)).length : Int) := by
    intro k
    induction k with
    | zero => intro lo; simp [ws]
    | succ k ih =>
      intro lo
      simp only [ws]
      have := ih (lo + 1)
      rw [show lo + (k + 1) = lo + 1 + k from by omega, ← this, featsTo_succ, List.length_append, Nat.testBit_xor]
      cases c.testBit lo <;> cases near.testBit lo <;> simp <;> omega
  have h := key 24 0
  simpa [feats, featsTo] using h

end Go.Proofs.Ytefclohjeompkaa

/- The reference's Best (printed by gen_bests.py). -/
namespace Go.Proofs.Ytefclohjeompkaa
open Go Go.RowKit Go.Proofs.Gen Go.Proofs.Bdd Go.Proofs.Bdd.T

theorem cand_u32 {V : List Nat} (hV : Rising 0 V) {rest : Nat} (hr : rest < 16777216) (k : Nat) : bits .or .u32 ((cfg V k : Nat) : Int) (bits .andNot .u32 (rest : Int) ((numb V : Nat) : Int)) = ((cand V rest k : Nat) : Int) := by
  have hn := numb_lt fun i hi => (hV.all i hi).2
  have hc := cfg_lt hV k
  have e : rest &&& (4294967295 - numb V) = rest ^^^ (rest &&& numb V) := by
    apply Nat.eq_of_testBit_eq
    intro i
    rw [Nat.testBit_and, Nat.testBit_xor, Nat.testBit_and]
    have hb := Nat.testBit_two_pow_sub_succ (x := numb V) (n := 32) (by omega) i
    rw [show 2 ^ 32 - (numb V + 1) = 4294967295 - numb V by omega] at hb
    rw [hb]
    by_cases hi : i < 32
    · simp only [hi, decide_true, Bool.true_and]
      cases rest.testBit i <;> cases (numb V).testBit i <;> rfl
    · have h0 : rest.testBit i = false := Nat.testBit_lt_two_pow (Nat.lt_of_lt_of_le hr (by rw [show (16777216 : Nat) = 2 ^ 24 by decide]; exact Nat.pow_le_pow_right (by omega) (by omega)))
      rw [h0]
      rfl
  rw [u32_andNot_nat _ _ (by omega) (by omega), e]
  have hx : rest ^^^ (rest &&& numb V) < 2 ^ 24 := Nat.xor_lt_two_pow (by omega) (Nat.lt_of_le_of_lt Nat.and_le_left (by omega))
  rw [u32_or_nat _ _ (by omega) (by omega)]
  rfl

theorem isG_best {W : Nat → Bool → Int} {V : List Nat} {T : List Bool} {f : F} {rest : Nat} {x : Int} {c : Nat} {is : Bool} (hV : Rising 0 V) (hT : T.length = 2 ^ V.length) (hf : ∀ c, rf V T c = f c) (hr : rest < 16777216)
    (hrest : ∀ i, i < 24 → rest.testBit i = decide (W i true < W i false)) (h : BestTo (fun k => ws W 24 0 (cand V rest k).testBit) (cand V rest) T T.length x c is) : c = bestC W f ∧ is = (!nowhere f) ∧ (nowhere f = false → ∃ x, IsBest W f x (bestC W f)) := by
  obtain ⟨h1, h2, h3⟩ := best_table hV hT hf (by omega) (fun i hi _ => hrest i hi) h
  refine ⟨?_, h1, ?_⟩
  · cases hi : is with
    | true => exact (bestC_is (h3 hi)).symm
    | false =>
      have hn : nowhere f = true := by rw [h1] at hi; simpa using hi
      rw [(best_no hn).1]
      exact (h2 hi).2
  · intro hn
    have hi : is = true := by rw [h1, hn]; rfl
    have hb := h3 hi
    rw [bestC_is hb]
    exact ⟨x, hb⟩

set_option maxRecDepth 100000 in
set_option maxHeartbeats 6400000 in
theorem rbest_cost {w : World} {va : Value} {f : F} (h : IsG w va f) {rest : Nat} (hr : rest < 16777216) {near : Int} {cv : Value} {ls : List Int} (hcv : RdInts w cv ls) (hok : CostsOk ls) {W : Nat → Bool → Int} (hp : ∀ c : Nat, c < 16777216 → costSum ls c.testBit ls.length = ws W 24 0 c.testBit)
    (hrest : ∀ i, i < 24 → rest.testBit i = decide (W i true < W i false)) :
    Calls Try.prog 109 #[va, .int .u32 rest, cv, .int .u32 near, .bool false] w fun e w' => e = .returned (.tuple #[.int .u32 (bestC W f : Nat), .bool (!nowhere f)]) ∧ (nowhere f = false → ∃ x, IsBest W f x (bestC W f)) ∧ Near w w' := by
  obtain ⟨V, T, ⟨hV, hT, sv, st, rfl, r1, r2⟩, hf⟩ := h
  obtain ⟨ao, cap, rfl⟩ := owns_form r1
  obtain ⟨bo, cbp, rfl⟩ := owns_form r2
  have HR1 := Lib.hid r1
  have HR2 := Lib.hid r2
  have HV := Lib.hid hV
  have HTL := Lib.hid hT
  have HF := Lib.hid hf
  have HP := Lib.hid hp
  have HRest := Lib.hid hrest
  have lV := hV.len
  have hTb : T.length ≤ 16777216 := by
    have hp : (2 : Nat) ^ V.length ≤ 2 ^ 24 := Nat.pow_le_pow_right (by omega) (by omega)
    have e24 : (2 : Nat) ^ 24 = 16777216 := by decide
    omega
  have hN : Near w (w.alloc (.cells #[.slice ao V.length cap, .slice bo T.length cbp] 37)) := (Near.refl w).alloc _
  have hE : (w.alloc (.cells #[.slice ao V.length cap, .slice bo T.length cbp] 37)).heap[w.heap.size]? = some (.cells #[.slice ao V.length cap, .slice bo T.length cbp] 37 (0, 0)) := heap_new_at rfl
  clear r1 r2 hT hf hp hrest
  go_enter Try.func109, Try.ntmps109
  go_wp2_with fail
  generalize (w.alloc (.cells #[.slice ao V.length cap, .slice bo T.length cbp] 37)) = W1 at hN hE ⊢
  have HN := Lib.hid hN
  have HE := Lib.hid hE
  clear hN hE
  go_loopw [12, 13, 14, 15] (fun p q r i wr => ∃ (k c : Nat) (x : Int) (is : Bool), k ≤ T.length ∧ i = .int .i64 k ∧ p = .int .u32 c ∧ q = .int .i64 x ∧ r = .bool is ∧ BestTo (fun k => ws W 24 0 (cand V rest k).testBit) (cand V rest) T k x c is ∧ Near W1 wr) (fun _ _ _ i _ => T.length - (intOf i).toNat)
  case atStart => exact ⟨0, 0, 0, false, Nat.zero_le _, rfl, rfl, rfl, rfl, BestTo.zero _ _ _, Near.refl _⟩
  case round =>
    obtain ⟨k, c, x, is, hk, rfl, rfl, rfl, rfl, hb, hn⟩ := hrel
    have HB := Lib.hid hb
    have HK := Lib.hid hn
    have c0 := cell1 (o := 0) (keepN hn HE.out) rfl
    have c1 := cell1 (o := 1) (keepN hn HE.out) rfl
    clear hb hn
    by_cases hlt : k < T.length
    · have hlt' : (k : Int) < T.length := by omega
      obtain ⟨tq, htq⟩ : ∃ b, T[k] = b := ⟨_, rfl⟩
      have htd : T.getD k false = tq := by rw [List.getD_eq_getElem?_getD, List.getElem?_eq_getElem hlt, htq]; rfl
      obtain ⟨gT, cT, eT, y0, -⟩ := row1 HR2.out (k := k) (u := .bool tq) (by simp [hlt, htq]) hlt
      simp only [Value.slice.injEq, true_and] at eT
      obtain ⟨rfl, rfl⟩ := eT
      have ct := HK.out.cell (HN.out.cell y0)
      have HTD := Lib.hid htd
      clear y0 htd htq
      cases tq with
      | false =>
        go_wp2_with fail
        exact ⟨⟨k + 1, c, x, is, by omega, by go_num, rfl, rfl, rfl, HB.out.skip HTD.out, HK.out⟩, by simp [intOf]; omega⟩
      | true =>
        have hcd := cand_u32 HV.out hr k
        have hcl : cand V rest k < 16777216 := by have := cand_lt HV.out (rest := rest) (by omega) k; omega
        have hpk := HP.out _ hcl
        generalize hcc : cand V rest k = cd at hcd hcl hpk
        generalize hww : ws W 24 0 cd.testBit = pk at hpk
        have HCC := Lib.hid hcc
        have HWW := Lib.hid (show (fun k => ws W 24 0 (cand V rest k).testBit) k = pk by show ws W 24 0 (cand V rest k).testBit = pk; rw [hcc, hww])
        have HConf := Lib.hid (fun (w' : World) (h' : Near wr w') => config_calls HV.out (by omega) (owns_kept HR1.out (HN.out.trans (HK.out.trans h')).kept (R := fun _ => False) (fun _ _ x => x)) k (by omega))
        have HNum := Lib.hid (fun (w' : World) (h' : Near wr w') => number_calls (V := V) (fun i hi => (HV.out.all i hi).2) (by omega) (owns_kept HR1.out (HN.out.trans (HK.out.trans h')).kept (R := fun _ => False) (fun _ _ x => x)))
        have HS0 := Lib.hid (fun (w' : World) (h' : Near wr w') => cell1 (o := 0) (keepN (HK.out.trans h') HE.out) (show (#[Value.slice ao V.length cap, Value.slice (some ⟨gT, 0, none⟩) T.length cbp] : Array Value)[0]? = some (Value.slice ao V.length cap) from rfl))
        clear hcc hww
        go_wp2_with fail
        go_region_held3 (fun w' => w'.cell? ⟨w.heap.size, 0, none⟩ = some (.slice ao V.length cap))
          ((refine HS0.out _ ?_; first | exact HM2.out | exact HM1.out | exact (Near.refl _).drew))
          (first
            | (go_at_call 83; refine (HConf.out _ (Near.refl _).drew).mono ?_; rintro e v1 ⟨rfl, m1⟩; have HM1 := Lib.hid ((Near.refl wr).drew.trans m1); clear m1)
            | (go_at_call 107; refine (HNum.out _ HM1.out).mono ?_; rintro e v2 ⟨rfl, m2⟩; have HM2 := Lib.hid (HM1.out.trans m2); clear m2))
        go_upto_region 8 with fail
        have HPK := Lib.hid hpk
        have HCo := Lib.hid (cost_calls (hcv.near (HN.out.trans (HK.out.trans HM2.out))) hok cd (by omega))
        clear hpk
        cases is with
        | false =>
          go_wp2_with (go_at_call 71; refine HCo.out.mono ?_; rintro e v3 ⟨rfl, m3⟩; rw [HPK.out]; have HM3 := Lib.hid (HM2.out.trans m3); clear m3)
          exact ⟨⟨k + 1, cd, pk, true, by omega, by go_num, rfl, rfl, rfl, by rw [← HCC.out, ← HWW.out]; exact HB.out.take HTD.out (.inl rfl), HK.out.trans HM3.out⟩, by simp [intOf]; omega⟩
        | true =>
          by_cases h1 : pk < x
          · go_wp2_with (go_at_call 71; refine HCo.out.mono ?_; rintro e v3 ⟨rfl, m3⟩; rw [HPK.out]; have HM3 := Lib.hid (HM2.out.trans m3); clear m3)
            exact ⟨⟨k + 1, cd, pk, true, by omega, by go_num, rfl, rfl, rfl, by rw [← HCC.out, ← HWW.out]; exact HB.out.take HTD.out (.inr (by rw [HWW.out, HCC.out]; unfold lexLt; omega)), HK.out.trans HM3.out⟩, by simp [intOf]; omega⟩
          · by_cases h2 : pk = x
            · have h2' : (pk == x) = true := by simpa using h2
              by_cases h3 : c > cd
              · have h3' : (cd : Int) < c := by omega
                go_wp2_with (go_at_call 71; refine HCo.out.mono ?_; rintro e v3 ⟨rfl, m3⟩; rw [HPK.out]; have HM3 := Lib.hid (HM2.out.trans m3); clear m3)
                exact ⟨⟨k + 1, cd, pk, true, by omega, by go_num, rfl, by rw [h2], rfl, by rw [← HCC.out, ← HWW.out]; exact HB.out.take HTD.out (.inr (by rw [HWW.out, HCC.out]; unfold lexLt; omega)), HK.out.trans HM3.out⟩, by simp [intOf]; omega⟩
              · have h3' : ¬ (cd : Int) < c := by omega
                go_wp2_with (go_at_call 71; refine HCo.out.mono ?_; rintro e v3 ⟨rfl, m3⟩; rw [HPK.out]; have HM3 := Lib.hid (HM2.out.trans m3); clear m3)
                exact ⟨⟨k + 1, c, x, true, by omega, by go_num, rfl, rfl, rfl, HB.out.stay rfl (by rw [HWW.out, HCC.out]; unfold lexLt; omega), HK.out.trans HM3.out⟩, by simp [intOf]; omega⟩
            · have h2' : (pk == x) = false := by simpa using h2
              go_wp2_with (go_at_call 71; refine HCo.out.mono ?_; rintro e v3 ⟨rfl, m3⟩; rw [HPK.out]; have HM3 := Lib.hid (HM2.out.trans m3); clear m3)
              exact ⟨⟨k + 1, c, x, true, by omega, by go_num, rfl, rfl, rfl, HB.out.stay rfl (by rw [HWW.out, HCC.out]; unfold lexLt; omega), HK.out.trans HM3.out⟩, by simp [intOf]; omega⟩
    · have hkl : k = T.length := by omega
      subst hkl
      obtain ⟨e1, e2, e3⟩ := isG_best HV.out HTL.out HF.out hr HRest.out HB.out
      have E1 := Lib.hid e1
      have E2 := Lib.hid e2
      have E3 := Lib.hid e3
      clear e1 e2 e3
      go_wp2_with fail
      exact bodyPost_ret (v := .tuple #[.int .u32 (c : Nat), .bool is]) (by simp [results, Try.results109, go_sem]) rfl ⟨by rw [E1.out, E2.out], E3.out, HN.out.trans HK.out⟩

set_option maxRecDepth 100000 in
set_option maxHeartbeats 6400000 in
theorem rbest_far {w : World} {va : Value} {f : F} (h : IsG w va f) {rest near : Nat} (hr : rest < 16777216) (hnear : near < 16777216) {cv : Value} {W : Nat → Bool → Int} (hp : ∀ c : Nat, c < 16777216 → ((feats (c ^^^ near)).length : Int) = ws W 24 0 c.testBit)
    (hrest : ∀ i, i < 24 → rest.testBit i = decide (W i true < W i false)) :
    Calls Try.prog 109 #[va, .int .u32 rest, cv, .int .u32 near, .bool true] w fun e w' => e = .returned (.tuple #[.int .u32 (bestC W f : Nat), .bool (!nowhere f)]) ∧ (nowhere f = false → ∃ x, IsBest W f x (bestC W f)) ∧ Near w w' := by
  obtain ⟨V, T, ⟨hV, hT, sv, st, rfl, r1, r2⟩, hf⟩ := h
  obtain ⟨ao, cap, rfl⟩ := owns_form r1
  obtain ⟨bo, cbp, rfl⟩ := owns_form r2
  have HR1 := Lib.hid r1
  have HR2 := Lib.hid r2
  have HV := Lib.hid hV
  have HTL := Lib.hid hT
  have HF := Lib.hid hf
  have HP := Lib.hid hp
  have HRest := Lib.hid hrest
  have lV := hV.len
  have hTb : T.length ≤ 16777216 := by
    have hp : (2 : Nat) ^ V.length ≤ 2 ^ 24 := Nat.pow_le_pow_right (by omega) (by omega)
    have e24 : (2 : Nat) ^ 24 = 16777216 := by decide
    omega
  have hN : Near w (w.alloc (.cells #[.slice ao V.length cap, .slice bo T.length cbp] 37)) := (Near.refl w).alloc _
  have hE : (w.alloc (.cells #[.slice ao V.length cap, .slice bo T.length cbp] 37)).heap[w.heap.size]? = some (.cells #[.slice ao V.length cap, .slice bo T.length cbp] 37 (0, 0)) := heap_new_at rfl
  clear r1 r2 hT hf hp hrest
  go_enter Try.func109, Try.ntmps109
  go_wp2_with fail
  generalize (w.alloc (.cells #[.slice ao V.length cap, .slice bo T.length cbp] 37)) = W1 at hN hE ⊢
  have HN := Lib.hid hN
  have HE := Lib.hid hE
  clear hN hE
  go_loopw [12, 13, 14, 15] (fun p q r i wr => ∃ (k c : Nat) (x : Int) (is : Bool), k ≤ T.length ∧ i = .int .i64 k ∧ p = .int .u32 c ∧ q = .int .i64 x ∧ r = .bool is ∧ BestTo (fun k => ws W 24 0 (cand V rest k).testBit) (cand V rest) T k x c is ∧ Near W1 wr) (fun _ _ _ i _ => T.length - (intOf i).toNat)
  case atStart => exact ⟨0, 0, 0, false, Nat.zero_le _, rfl, rfl, rfl, rfl, BestTo.zero _ _ _, Near.refl _⟩
  case round =>
    obtain ⟨k, c, x, is, hk, rfl, rfl, rfl, rfl, hb, hn⟩ := hrel
    have HB := Lib.hid hb
    have HK := Lib.hid hn
    have c0 := cell1 (o := 0) (keepN hn HE.out) rfl
    have c1 := cell1 (o := 1) (keepN hn HE.out) rfl
    clear hb hn
    by_cases hlt : k < T.length
    · have hlt' : (k : Int) < T.length := by omega
      obtain ⟨tq, htq⟩ : ∃ b, T[k] = b := ⟨_, rfl⟩
      have htd : T.getD k false = tq := by rw [List.getD_eq_getElem?_getD, List.getElem?_eq_getElem hlt, htq]; rfl
      obtain ⟨gT, cT, eT, y0, -⟩ := row1 HR2.out (k := k) (u := .bool tq) (by simp [hlt, htq]) hlt
      simp only [Value.slice.injEq, true_and] at eT
      obtain ⟨rfl, rfl⟩ := eT
      have ct := HK.out.cell (HN.out.cell y0)
      have HTD := Lib.hid htd
      clear y0 htd htq
      cases tq with
      | false =>
        go_wp2_with fail
        exact ⟨⟨k + 1, c, x, is, by omega, by go_num, rfl, rfl, rfl, HB.out.skip HTD.out, HK.out⟩, by simp [intOf]; omega⟩
      | true =>
        have hcd := cand_u32 HV.out hr k
        have hcl : cand V rest k < 16777216 := by have := cand_lt HV.out (rest := rest) (by omega) k; omega
        have hpk := HP.out _ hcl
        generalize hcc : cand V rest k = cd at hcd hcl hpk
        generalize hww : ws W 24 0 cd.testBit = pk at hpk
        have HCC := Lib.hid hcc
        have HWW := Lib.hid (show (fun k => ws W 24 0 (cand V rest k).testBit) k = pk by show ws W 24 0 (cand V rest k).testBit = pk; rw [hcc, hww])
        have HConf := Lib.hid (fun (w' : World) (h' : Near wr w') => config_calls HV.out (by omega) (owns_kept HR1.out (HN.out.trans (HK.out.trans h')).kept (R := fun _ => False) (fun _ _ x => x)) k (by omega))
        have HNum := Lib.hid (fun (w' : World) (h' : Near wr w') => number_calls (V := V) (fun i hi => (HV.out.all i hi).2) (by omega) (owns_kept HR1.out (HN.out.trans (HK.out.trans h')).kept (R := fun _ => False) (fun _ _ x => x)))
        have HS0 := Lib.hid (fun (w' : World) (h' : Near wr w') => cell1 (o := 0) (keepN (HK.out.trans h') HE.out) (show (#[Value.slice ao V.length cap, Value.slice (some ⟨gT, 0, none⟩) T.length cbp] : Array Value)[0]? = some (Value.slice ao V.length cap) from rfl))
        clear hcc hww
        go_wp2_with fail
        go_region_held3 (fun w' => w'.cell? ⟨w.heap.size, 0, none⟩ = some (.slice ao V.length cap))
          ((refine HS0.out _ ?_; first | exact HM2.out | exact HM1.out | exact (Near.refl _).drew))
          (first
            | (go_at_call 83; refine (HConf.out _ (Near.refl _).drew).mono ?_; rintro e v1 ⟨rfl, m1⟩; have HM1 := Lib.hid ((Near.refl wr).drew.trans m1); clear m1)
            | (go_at_call 107; refine (HNum.out _ HM1.out).mono ?_; rintro e v2 ⟨rfl, m2⟩; have HM2 := Lib.hid (HM1.out.trans m2); clear m2))
        go_upto_region 8 with fail
        have hxr := u32_xor_nat cd near (by omega) (by omega)
        have hxl : cd ^^^ near < 2 ^ 24 := Nat.xor_lt_two_pow (by omega) (by omega)
        cases is with
        | false =>
          go_wp2_with (go_at_call 18; refine (features_calls (cd ^^^ near) (by omega) _).mono ?_; rintro e v3 ⟨u3, rfl, r3, m3⟩; obtain ⟨ao3, cap3, rfl⟩ := owns_form r3; have HM3 := Lib.hid (HM2.out.trans m3); clear m3 r3)
          exact ⟨⟨k + 1, cd, pk, true, by omega, by go_num, rfl, rfl, rfl, by rw [← HCC.out, ← HWW.out]; exact HB.out.take HTD.out (.inl rfl), HK.out.trans HM3.out⟩, by simp [intOf]; omega⟩
        | true =>
          by_cases h1 : pk < x
          · go_wp2_with (go_at_call 18; refine (features_calls (cd ^^^ near) (by omega) _).mono ?_; rintro e v3 ⟨u3, rfl, r3, m3⟩; obtain ⟨ao3, cap3, rfl⟩ := owns_form r3; have HM3 := Lib.hid (HM2.out.trans m3); clear m3 r3)
            exact ⟨⟨k + 1, cd, pk, true, by omega, by go_num, rfl, rfl, rfl, by rw [← HCC.out, ← HWW.out]; exact HB.out.take HTD.out (.inr (by rw [HWW.out, HCC.out]; unfold lexLt; omega)), HK.out.trans HM3.out⟩, by simp [intOf]; omega⟩
          · by_cases h2 : pk = x
            · have h2' : (pk == x) = true := by simpa using h2
              by_cases h3 : c > cd
              · have h3' : (cd : Int) < c := by omega
                go_wp2_with (go_at_call 18; refine (features_calls (cd ^^^ near) (by omega) _).mono ?_; rintro e v3 ⟨u3, rfl, r3, m3⟩; obtain ⟨ao3, cap3, rfl⟩ := owns_form r3; have HM3 := Lib.hid (HM2.out.trans m3); clear m3 r3)
                exact ⟨⟨k + 1, cd, pk, true, by omega, by go_num, rfl, by rw [h2], rfl, by rw [← HCC.out, ← HWW.out]; exact HB.out.take HTD.out (.inr (by rw [HWW.out, HCC.out]; unfold lexLt; omega)), HK.out.trans HM3.out⟩, by simp [intOf]; omega⟩
              · have h3' : ¬ (cd : Int) < c := by omega
                go_wp2_with (go_at_call 18; refine (features_calls (cd ^^^ near) (by omega) _).mono ?_; rintro e v3 ⟨u3, rfl, r3, m3⟩; obtain ⟨ao3, cap3, rfl⟩ := owns_form r3; have HM3 := Lib.hid (HM2.out.trans m3); clear m3 r3)
                exact ⟨⟨k + 1, c, x, true, by omega, by go_num, rfl, rfl, rfl, HB.out.stay rfl (by rw [HWW.out, HCC.out]; unfold lexLt; omega), HK.out.trans HM3.out⟩, by simp [intOf]; omega⟩
            · have h2' : (pk == x) = false := by simpa using h2
              go_wp2_with (go_at_call 18; refine (features_calls (cd ^^^ near) (by omega) _).mono ?_; rintro e v3 ⟨u3, rfl, r3, m3⟩; obtain ⟨ao3, cap3, rfl⟩ := owns_form r3; have HM3 := Lib.hid (HM2.out.trans m3); clear m3 r3)
              exact ⟨⟨k + 1, c, x, true, by omega, by go_num, rfl, rfl, rfl, HB.out.stay rfl (by rw [HWW.out, HCC.out]; unfold lexLt; omega), HK.out.trans HM3.out⟩, by simp [intOf]; omega⟩
    · have hkl : k = T.length := by omega
      subst hkl
      obtain ⟨e1, e2, e3⟩ := isG_best HV.out HTL.out HF.out hr HRest.out HB.out
      have E1 := Lib.hid e1
      have E2 := Lib.hid e2
      have E3 := Lib.hid e3
      clear e1 e2 e3
      go_wp2_with fail
      exact bodyPost_ret (v := .tuple #[.int .u32 (c : Nat), .bool is]) (by simp [results, Try.results109, go_sem]) rfl ⟨by rw [E1.out, E2.out], E3.out, HN.out.trans HK.out⟩

end Go.Proofs.Ytefclohjeompkaa

/- The reference's Least, Smallest, Nearest, Cheapest. -/
namespace Go.Proofs.Ytefclohjeompkaa
open Go Go.RowKit Go.Proofs.Gen Go.Proofs.Bdd Go.Proofs.Bdd.T

/-- What configurations cost: nothing; how far they are from one; by a list. -/
def wLeast : Nat → Bool → Int := fun _ _ => 0
def wNear (n : Nat) : Nat → Bool → Int := fun i b => if b = n.testBit i then 0 else 1
def wCost (l : List Int) : Nat → Bool → Int := fun i b => if b then costOf l i else 0

theorem ws_least (c : Nat → Bool) : ∀ k lo, ws wLeast k lo c = 0
  | 0, _ => rfl
  | k + 1, lo => by
    simp only [ws, ws_least c k (lo + 1)]
    rfl

theorem near_pref (n i : Nat) : n.testBit i = decide (wNear n i true < wNear n i false) := by
  unfold wNear
  cases n.testBit i <;> simp

/-- The features that cost less than nothing. -/
def negs (l : List Int) : Nat → Nat
  | 0 => 0
  | k + 1 => if costOf l k < 0 then negs l k + 2 ^ k else negs l k
theorem negs_lt (l : List Int) : ∀ k, negs l k < 2 ^ k
  | 0 => by simp [negs]
  | k + 1 => by
    have ih := negs_lt l k
    rw [Nat.pow_succ]
    unfold negs
    split <;> omega
theorem negs_bit (l : List Int) (i : Nat) : ∀ k, (negs l k).testBit i = (decide (i < k) && decide (costOf l i < 0))
  | 0 => by simp [negs]
  | k + 1 => by
    have ih := negs_bit l i k
    have hlt := negs_lt l k
    unfold negs
    by_cases hc : costOf l k < 0
    · rw [if_pos hc]
      have h1 := Nat.two_pow_add_eq_or_of_lt hlt 1
      rw [Nat.mul_one] at h1
      rw [Nat.add_comm, h1, Nat.testBit_or, Nat.testBit_two_pow, ih]
      by_cases e : k = i
      · subst e
        simp [hc]
      · have : (i < k + 1) = (i < k) := by rw [eq_iff_iff]; omega
        simp [e, this]
    · rw [if_neg hc, ih]
      by_cases e : k = i
      · subst e
        simp [hc]
      · have : (i < k + 1) = (i < k) := by rw [eq_iff_iff]; omega
        simp [this]
theorem negs_pref (l : List Int) (i : Nat) : (negs l l.length).testBit i = decide (wCost l i true < wCost l i false) := by
  rw [negs_bit]
  show _ = decide ((if true = true then costOf l i else 0) < (if false = true then costOf l i else 0))
  by_cases h : i < l.length
  · simp [h]
  · have : costOf l i = 0 := by
      unfold costOf
      rw [List.getD_eq_getElem?_getD, List.getElem?_eq_none (by omega)]
      rfl
    simp [h, this]

open Classical in
/-- What the cheapest one is. -/
noncomputable def cheapC (l : List Int) (f : F) : Nat := if CostsOk l then bestC (wCost l) f else 0
open Classical in
noncomputable def cheapX (l : List Int) (f : F) : Int := if CostsOk l then bestX (wCost l) f else 0
noncomputable def cheapE (l : List Int) (f : F) : Int := if CostsOk l then (if nowhere f = true then 8 else 0) else 2

set_option maxRecDepth 100000 in
set_option maxHeartbeats 1600000 in
theorem rleast_g {w : World} {v : Value} {f : F} (h : IsG w v f) : Calls Try.prog 62 #[v] w fun e w' => e = .returned (.tuple #[.int .u32 (bestC wLeast f : Nat), .bool (!nowhere f)]) ∧ Near w w' := by
  have HA := Lib.hid h
  obtain ⟨a1, a2, a3, a4, a5, a6, rfl⟩ := h.form
  have hN : Near w (w.alloc (.cells #[.slice a1 a2 a3, .slice a4 a5 a6] 37)) := (Near.refl w).alloc _
  have HC := Lib.hid (rbest_cost (HA.out.near hN) (rest := 0) (by omega) (near := 0) (cv := .slice none 0 0) (ls := []) ⟨none, 0, rfl, fun k x h => by simp at h⟩ ⟨by simp, fun x h => by simp at h⟩ (W := wLeast) (fun c _ => by rw [ws_least]; rfl) (fun i _ => by simp [wLeast]))
  have HN := Lib.hid hN
  generalize bestC wLeast f = c at HC ⊢
  generalize nowhere f = b at HC ⊢
  clear h hN
  go_enter Try.func62, Try.ntmps62
  go_wp2_with (go_at_call 109; refine HC.out.mono ?_; rintro e w1 ⟨rfl, -, n1⟩)
  exact bodyPost_ret (v := .tuple #[.int .u32 (c : Nat), .bool (!b)]) (by simp [results, Try.results62, go_sem]) rfl ⟨rfl, HN.out.trans n1⟩

set_option maxRecDepth 100000 in
set_option maxHeartbeats 1600000 in
theorem rsmall_g {w : World} {v : Value} {f : F} (h : IsG w v f) : Calls Try.prog 64 #[v] w fun e w' => e = .returned (.tuple #[.int .u32 (bestC (wNear 0) f : Nat), .bool (!nowhere f)]) ∧ Near w w' := by
  have HA := Lib.hid h
  obtain ⟨a1, a2, a3, a4, a5, a6, rfl⟩ := h.form
  have hN : Near w (w.alloc (.cells #[.slice a1 a2 a3, .slice a4 a5 a6] 37)) := (Near.refl w).alloc _
  have HC := Lib.hid (rbest_far (HA.out.near hN) (rest := 0) (by omega) (near := 0) (by omega) (cv := .slice none 0 0) (W := wNear 0) (fun c _ => (ws_far 0 c).symm) (fun i _ => near_pref 0 i))
  have HN := Lib.hid hN
  generalize bestC (wNear 0) f = c at HC ⊢
  generalize nowhere f = b at HC ⊢
  clear h hN
  go_enter Try.func64, Try.ntmps64
  go_wp2_with (go_at_call 109; refine HC.out.mono ?_; rintro e w1 ⟨rfl, -, n1⟩)
  exact bodyPost_ret (v := .tuple #[.int .u32 (c : Nat), .bool (!b)]) (by simp [results, Try.results64, go_sem]) rfl ⟨rfl, HN.out.trans n1⟩

set_option maxRecDepth 100000 in
set_option maxHeartbeats 1600000 in
theorem rnear_g {w : World} {v : Value} {f : F} (h : IsG w v f) (n : Nat) : Calls Try.prog 66 #[v, .int .u32 n] w fun e w' => e = .returned (.tuple #[.int .u32 (bestC (wNear (n % 16777216)) f : Nat), .bool (!nowhere f)]) ∧ Near w w' := by
  have HA := Lib.hid h
  obtain ⟨a1, a2, a3, a4, a5, a6, rfl⟩ := h.form
  have hN : Near w (w.alloc (.cells #[.slice a1 a2 a3, .slice a4 a5 a6] 37)) := (Near.refl w).alloc _
  have hm : n % 16777216 < 16777216 := Nat.mod_lt _ (by omega)
  have hmod : (n : Int).tmod 16777216 = ((n % 16777216 : Nat) : Int) := rfl
  have HC := Lib.hid (rbest_far (HA.out.near hN) hm hm (cv := .slice none 0 0) (W := wNear (n % 16777216)) (fun c _ => (ws_far _ c).symm) (fun i _ => near_pref _ i))
  have HN := Lib.hid hN
  generalize n % 16777216 = m at HC hmod ⊢
  generalize bestC (wNear m) f = c at HC ⊢
  generalize nowhere f = b at HC ⊢
  clear h hN hm
  go_enter Try.func66, Try.ntmps66
  go_wp2_with (go_at_call 109; refine HC.out.mono ?_; rintro e w1 ⟨rfl, -, n1⟩)
  exact bodyPost_ret (v := .tuple #[.int .u32 (c : Nat), .bool (!b)]) (by simp [results, Try.results66, go_sem]) rfl ⟨rfl, HN.out.trans n1⟩

end Go.Proofs.Ytefclohjeompkaa

/- The reference's Cheapest. -/
namespace Go.Proofs.Ytefclohjeompkaa
open Go Go.RowKit Go.Proofs.Gen Go.Proofs.Bdd Go.Proofs.Bdd.T

theorem costOf_at {l : List Int} {k : Nat} {d : Int} (h : l[k]? = some d) : costOf l k = d := by
  unfold costOf
  rw [List.getD_eq_getElem?_getD, h]
  rfl

set_option maxRecDepth 100000 in
set_option maxHeartbeats 3200000 in
theorem rcheap_g {w : World} {v : Value} {f : F} (h : IsG w v f) {cv : Value} {ls : List Int} (hc : RdInts w cv ls) (hl : ls.length ≤ 1000) :
    Calls Try.prog 68 #[v, cv] w fun e w' => e = .returned (.tuple #[.int .u32 (cheapC ls f : Nat), .int .i64 (cheapX ls f), .int .i64 (cheapE ls f)]) ∧ Near w w' := by
  have HA := Lib.hid h
  have HCV := Lib.hid hc
  obtain ⟨a1, a2, a3, a4, a5, a6, rfl⟩ := h.form
  obtain ⟨ao, cap, rfl, hcl⟩ := hc
  have HCL := Lib.hid hcl
  have hN : Near w (w.alloc (.cells #[.slice a1 a2 a3, .slice a4 a5 a6] 37)) := (Near.refl w).alloc _
  have hE : (w.alloc (.cells #[.slice a1 a2 a3, .slice a4 a5 a6] 37)).heap[w.heap.size]? = some (.cells #[.slice a1 a2 a3, .slice a4 a5 a6] 37 (0, 0)) := heap_new_at rfl
  have HN := Lib.hid hN
  have HE := Lib.hid hE
  have HCo := Lib.hid (costs_calls (HCV.out.near hN) hl)
  clear h hN hE hcl
  by_cases hok : CostsOk ls
  · have z1 : cheapC ls f = bestC (wCost ls) f := if_pos hok
    have z2 : cheapX ls f = bestX (wCost ls) f := if_pos hok
    have z3 : cheapE ls f = if nowhere f = true then 8 else 0 := if_pos hok
    have hl24 := hok.1
    have hnl : negs ls ls.length < 16777216 := by
      have h1 := negs_lt ls ls.length
      have h2 : (2 : Nat) ^ ls.length ≤ 2 ^ 24 := Nat.pow_le_pow_right (by omega) hl24
      have e24 : (2 : Nat) ^ 24 = 16777216 := by decide
      omega
    have HB := Lib.hid (fun (w' : World) (h' : Near w w') => rbest_cost (HA.out.near h') hnl (near := 0) (HCV.out.near h') hok (W := wCost ls) (fun c _ => (ws_costs ls hl24 c.testBit).symm) (fun i _ => negs_pref ls i))
    have HCs := Lib.hid (fun (w' : World) (h' : Near w w') (c : Nat) (hc : c < 4294967296) => cost_calls (HCV.out.near h') hok c hc)
    have HOk := Lib.hid hok
    have hd : decide (CostsOk ls) = true := decide_eq_true hok
    have HD := Lib.hid hd
    have hbx : nowhere f = false → (∃ x, IsBest (wCost ls) f x (bestC (wCost ls) f)) → bestC (wCost ls) f < 16777216 ∧ costSum ls (bestC (wCost ls) f).testBit ls.length = bestX (wCost ls) f := by
      rintro - ⟨x, hb⟩
      have h1 := hb.lt
      have h2 := hb.cost
      rw [bestX_is hb, h2]
      exact ⟨by omega, (ws_costs ls hl24 _).symm⟩
    have hno : nowhere f = true → bestC (wCost ls) f = 0 ∧ bestX (wCost ls) f = 0 := best_no
    rw [z1, z2, z3]
    clear z1 z2 z3 hok hd
    have HBX := Lib.hid hbx
    have HNo := Lib.hid hno
    clear hbx hno
    generalize bestC (wCost ls) f = bc at HB HBX HNo ⊢
    generalize bestX (wCost ls) f = bx at HBX HNo ⊢
    generalize hnw : nowhere f = nb at HB HBX HNo ⊢
    clear hnw
    cases nb with
    | true =>
      obtain ⟨rfl, rfl⟩ := HNo.out rfl
      rw [if_pos rfl]
      go_enter Try.func68, Try.ntmps68
      go_upto_region 5 with (go_at_call 69; refine HCo.out.mono ?_; rintro e w1 ⟨rfl, n1⟩; rw [HD.out]; have HN1 := Lib.hid n1; clear n1)
      generalize (w.alloc (.cells #[.slice a1 a2 a3, .slice a4 a5 a6] 37)) = W1 at *
      go_loopw [7, 8] (fun x i wr => ∃ k : Nat, k ≤ ls.length ∧ i = .int .i64 k ∧ x = .int .u32 (negs ls k : Nat) ∧ Near W1 wr) (fun _ i _ => ls.length - (intOf i).toNat)
      case atStart => exact ⟨0, Nat.zero_le _, rfl, rfl, HN1.out⟩
      case round =>
        obtain ⟨k, hk, rfl, rfl, hn⟩ := hrel
        have HK := Lib.hid hn
        have c0 := cell1 (o := 0) (keepN hn HE.out) rfl
        have c1 := cell1 (o := 1) (keepN hn HE.out) rfl
        clear hn
        by_cases hlt : k < ls.length
        · have hlt' : (k : Int) < ls.length := by omega
          obtain ⟨g, off, rfl, p0⟩ := HCL.out k _ (List.getElem?_eq_getElem hlt)
          have hco := costOf_at (List.getElem?_eq_getElem hlt)
          have p1 := HK.out.cell (HN.out.cell p0)
          have hs : negs ls (k + 1) = if costOf ls k < 0 then negs ls k + 2 ^ k else negs ls k := rfl
          rw [hco] at hs
          have hnk : negs ls k < 16777216 := by
            have h1 := negs_lt ls k
            have h2 : (2 : Nat) ^ k ≤ 2 ^ 24 := Nat.pow_le_pow_right (by omega) (by omega)
            have e24 : (2 : Nat) ^ 24 = 16777216 := by decide
            omega
          have HS := Lib.hid hs
          clear hs hco p0
          generalize ls[k] = d at p1 HS
          generalize negs ls k = y at HS hnk ⊢
          have ha := add_bit y k hnk (by omega)
          have hk64 : (k : Int) < 64 := by omega
          by_cases hneg : d < 0
          · have hs2 := HS.out
            rw [if_pos hneg] at hs2
            have HS2 := Lib.hid hs2
            clear hs2
            go_wp2_with fail
            exact ⟨⟨k + 1, by omega, by go_num, by rw [HS2.out, ha], HK.out⟩, by simp [intOf]; omega⟩
          · have hs2 := HS.out
            rw [if_neg hneg] at hs2
            have HS2 := Lib.hid hs2
            clear hs2
            go_wp2_with fail
            exact ⟨⟨k + 1, by omega, by go_num, by rw [HS2.out], HK.out⟩, by simp [intOf]; omega⟩
        have hkl : k = ls.length := by omega
        subst hkl
        go_wp2_with (go_at_call 109; refine (HB.out _ (HN.out.trans HK.out)).mono ?_; rintro e w2 ⟨rfl, -, n2⟩; have HN2 := Lib.hid (HK.out.trans n2); clear n2)
        exact bodyPost_ret (v := .tuple #[.int .u32 0, .int .i64 0, .int .i64 8]) (by simp [results, Try.results68, go_sem]) rfl ⟨rfl, HN.out.trans HN2.out⟩
    | false =>
      rw [if_neg (by simp)]
      go_enter Try.func68, Try.ntmps68
      go_upto_region 5 with (go_at_call 69; refine HCo.out.mono ?_; rintro e w1 ⟨rfl, n1⟩; rw [HD.out]; have HN1 := Lib.hid n1; clear n1)
      generalize (w.alloc (.cells #[.slice a1 a2 a3, .slice a4 a5 a6] 37)) = W1 at *
      go_loopw [7, 8] (fun x i wr => ∃ k : Nat, k ≤ ls.length ∧ i = .int .i64 k ∧ x = .int .u32 (negs ls k : Nat) ∧ Near W1 wr) (fun _ i _ => ls.length - (intOf i).toNat)
      case atStart => exact ⟨0, Nat.zero_le _, rfl, rfl, HN1.out⟩
      case round =>
        obtain ⟨k, hk, rfl, rfl, hn⟩ := hrel
        have HK := Lib.hid hn
        have c0 := cell1 (o := 0) (keepN hn HE.out) rfl
        have c1 := cell1 (o := 1) (keepN hn HE.out) rfl
        clear hn
        by_cases hlt : k < ls.length
        · have hlt' : (k : Int) < ls.length := by omega
          obtain ⟨g, off, rfl, p0⟩ := HCL.out k _ (List.getElem?_eq_getElem hlt)
          have hco := costOf_at (List.getElem?_eq_getElem hlt)
          have p1 := HK.out.cell (HN.out.cell p0)
          have hs : negs ls (k + 1) = if costOf ls k < 0 then negs ls k + 2 ^ k else negs ls k := rfl
          rw [hco] at hs
          have hnk : negs ls k < 16777216 := by
            have h1 := negs_lt ls k
            have h2 : (2 : Nat) ^ k ≤ 2 ^ 24 := Nat.pow_le_pow_right (by omega) (by omega)
            have e24 : (2 : Nat) ^ 24 = 16777216 := by decide
            omega
          have HS := Lib.hid hs
          clear hs hco p0
          generalize ls[k] = d at p1 HS
          generalize negs ls k = y at HS hnk ⊢
          have ha := add_bit y k hnk (by omega)
          have hk64 : (k : Int) < 64 := by omega
          by_cases hneg : d < 0
          · have hs2 := HS.out
            rw [if_pos hneg] at hs2
            have HS2 := Lib.hid hs2
            clear hs2
            go_wp2_with fail
            exact ⟨⟨k + 1, by omega, by go_num, by rw [HS2.out, ha], HK.out⟩, by simp [intOf]; omega⟩
          · have hs2 := HS.out
            rw [if_neg hneg] at hs2
            have HS2 := Lib.hid hs2
            clear hs2
            go_wp2_with fail
            exact ⟨⟨k + 1, by omega, by go_num, by rw [HS2.out], HK.out⟩, by simp [intOf]; omega⟩
        have hkl : k = ls.length := by omega
        subst hkl
        go_wp2_with (first
          | (go_at_call 109; refine (HB.out _ (HN.out.trans HK.out)).mono ?_; rintro e w2 ⟨rfl, hbb, n2⟩; have HN2 := Lib.hid (HK.out.trans n2); obtain ⟨hb1, hb2⟩ := HBX.out (by first | rfl | trivial) (hbb (by first | rfl | trivial)); have HB2 := Lib.hid hb2; clear n2 hbb hb2)
          | (go_at_call 71; refine (HCs.out _ (HN.out.trans HN2.out) bc (by omega)).mono ?_; rintro e w3 ⟨rfl, n3⟩; rw [HB2.out]; have HN3 := Lib.hid (HN2.out.trans n3); clear n3))
        exact bodyPost_ret (v := .tuple #[.int .u32 (bc : Nat), .int .i64 bx, .int .i64 0]) (by simp [results, Try.results68, go_sem]) rfl ⟨rfl, HN.out.trans HN3.out⟩
  · have z1 : cheapC ls f = 0 := if_neg hok
    have z2 : cheapX ls f = 0 := if_neg hok
    have z3 : cheapE ls f = 2 := if_neg hok
    have hd : decide (CostsOk ls) = false := decide_eq_false hok
    have HD := Lib.hid hd
    rw [z1, z2, z3]
    clear z1 z2 z3 hok hd
    go_enter Try.func68, Try.ntmps68
    go_wp2_with (go_at_call 69; refine HCo.out.mono ?_; rintro e w1 ⟨rfl, n1⟩; rw [HD.out])
    exact bodyPost_ret (v := .tuple #[.int .u32 0, .int .i64 0, .int .i64 2]) (by simp [results, Try.results68, go_sem]) rfl ⟨rfl, HN.out.trans n1⟩

end Go.Proofs.Ytefclohjeompkaa

/- The program's Least, Smallest, Nearest, Cheapest. -/
namespace Go.Proofs.Ytefclohjeompkaa
open Go Go.RowKit Go.Proofs.Gen Go.Proofs.Bdd Go.Proofs.Bdd.T

theorem wtOk_least : WtOk wLeast := fun _ _ => ⟨by unfold wLeast; omega, by unfold wLeast; omega⟩
theorem wtOk_near (n : Nat) : WtOk (wNear n) := fun i b => by
  unfold wNear
  split <;> omega
theorem wtOk_cost {l : List Int} (h : CostsOk l) : WtOk (wCost l) := fun i b => by
  unfold wCost
  cases b with
  | false => exact ⟨by simp, by simp⟩
  | true =>
    rw [if_pos rfl]
    unfold costOf
    rw [List.getD_eq_getElem?_getD]
    cases hx : l[i]? with
    | none => exact ⟨by simp, by simp⟩
    | some x =>
      have := h.2 x (List.mem_of_getElem? hx)
      simpa using this

/-- Weights of the features below k. -/
def wTo (W : Nat → Bool → Int) (k : Nat) : Nat → Bool → Int := fun i b => if i < k then W i b else 0

theorem IsWt.congr {w : World} {wb : Nat} {W W' : Nat → Bool → Int} (h : IsWt w wb W) (e : ∀ i b, i < 24 → W i b = W' i b) : IsWt w wb W' := by
  obtain ⟨cs, h1, h2⟩ := h
  exact ⟨cs, h1, fun i hi => by rw [← e i false hi, ← e i true hi]; exact h2 i hi⟩

theorem IsWt.store {w : World} {wb : Nat} {W : Nat → Bool → Int} (h : IsWt w wb W) {k : Nat} (hk : k < 24) (b : Bool) (x : Int) :
    IsWt (w.setCell ⟨wb, k * 2 + b.toNat, none⟩ (.int .i64 x)) wb (fun i c => if i = k ∧ c = b then x else W i c) := by
  obtain ⟨cs, h1, h2⟩ := h
  have hlen : k * 2 + 1 < cs.size := (Array.getElem?_eq_some_iff.1 (h2 k hk).2).1
  have hbt : b.toNat ≤ 1 := by cases b <;> simp
  refine ⟨_, setCell_heap h1 _ _, fun i hi => ?_⟩
  have go : ∀ c : Bool, (cs.setIfInBounds (k * 2 + b.toNat) (.int .i64 x))[i * 2 + c.toNat]? = some (.int .i64 (if i = k ∧ c = b then x else W i c)) := by
    intro c
    have hct : c.toNat ≤ 1 := by cases c <;> simp
    rw [Array.getElem?_setIfInBounds]
    by_cases e : i = k ∧ c = b
    · obtain ⟨rfl, rfl⟩ := e
      rw [if_pos rfl, if_pos (by omega), if_pos ⟨rfl, rfl⟩]
    · have hne : k * 2 + b.toNat ≠ i * 2 + c.toNat := by
        intro h
        apply e
        have h1 : i = k := by omega
        refine ⟨h1, ?_⟩
        cases c <;> cases b <;> simp at h ⊢ <;> omega
      rw [if_neg hne, if_neg e]
      cases c with
      | false => exact (h2 i hi).1
      | true => exact (h2 i hi).2
  exact ⟨go false, go true⟩

theorem u32_bitN (n i : Nat) (hn : n < 4294967296) (hi : i < 32) : bits .and .u32 ((n : Int) / 2 ^ i) 1 = if n.testBit i = true then 1 else 0 := by
  have h := u32_bit' n i hn hi
  have hd : n / 2 ^ i < 4294967296 := Nat.lt_of_le_of_lt (Nat.div_le_self _ _) hn
  have h2 : bits .and .u32 ((n : Int) / 2 ^ i) 1 = ((n / 2 ^ i % 2 : Nat) : Int) := by
    rw [show ((n : Int) / 2 ^ i) = ((n / 2 ^ i : Nat) : Int) from by simp]
    have := Go.Proofs.Gen.u32_and (n / 2 ^ i) 1 hd (by decide)
    rw [Nat.and_one_is_mod] at this
    exact this
  rw [h2] at h ⊢
  rw [← h]
  rcases Nat.mod_two_eq_zero_or_one (n / 2 ^ i) with e | e <;> rw [e] <;> rfl

theorem wt_zero {w : World} {wb : Nat} (h : w.heap[wb]? = some (.cells #[.int .i64 0, .int .i64 0, .int .i64 0, .int .i64 0, .int .i64 0, .int .i64 0, .int .i64 0, .int .i64 0, .int .i64 0, .int .i64 0, .int .i64 0, .int .i64 0, .int .i64 0, .int .i64 0, .int .i64 0, .int .i64 0, .int .i64 0, .int .i64 0, .int .i64 0, .int .i64 0, .int .i64 0, .int .i64 0, .int .i64 0, .int .i64 0, .int .i64 0, .int .i64 0, .int .i64 0, .int .i64 0, .int .i64 0, .int .i64 0, .int .i64 0, .int .i64 0, .int .i64 0, .int .i64 0, .int .i64 0, .int .i64 0, .int .i64 0, .int .i64 0, .int .i64 0, .int .i64 0, .int .i64 0, .int .i64 0, .int .i64 0, .int .i64 0, .int .i64 0, .int .i64 0, .int .i64 0, .int .i64 0] 135 (0, 0))) : IsWt w wb wLeast := by
  refine ⟨_, h, fun i hi => ?_⟩
  have e : (#[.int .i64 0, .int .i64 0, .int .i64 0, .int .i64 0, .int .i64 0, .int .i64 0, .int .i64 0, .int .i64 0, .int .i64 0, .int .i64 0, .int .i64 0, .int .i64 0, .int .i64 0, .int .i64 0, .int .i64 0, .int .i64 0, .int .i64 0, .int .i64 0, .int .i64 0, .int .i64 0, .int .i64 0, .int .i64 0, .int .i64 0, .int .i64 0, .int .i64 0, .int .i64 0, .int .i64 0, .int .i64 0, .int .i64 0, .int .i64 0, .int .i64 0, .int .i64 0, .int .i64 0, .int .i64 0, .int .i64 0, .int .i64 0, .int .i64 0, .int .i64 0, .int .i64 0, .int .i64 0, .int .i64 0, .int .i64 0, .int .i64 0, .int .i64 0, .int .i64 0, .int .i64 0, .int .i64 0, .int .i64 0] : Array Value) = (List.replicate 48 (Value.int .i64 0)).toArray := rfl
  rw [e]
  constructor
  · rw [List.getElem?_toArray, List.getElem?_replicate, if_pos (by omega)]
    rfl
  · rw [List.getElem?_toArray, List.getElem?_replicate, if_pos (by omega)]
    rfl

set_option maxRecDepth 100000 in
set_option maxHeartbeats 1600000 in
theorem least_f {w : World} {v : Value} {f : F} (h : IsF w v f) : Calls Try.prog 61 #[v] w fun e w' => e = .returned (.tuple #[.int .u32 (bestC wLeast f : Nat), .bool (!nowhere f)]) ∧ Near w w' := by
  obtain ⟨a1, a2, a3, a4, rfl⟩ := h.form
  have hN : Near w ((w.alloc (.cells #[.slice a1 a2 a3, .int .i64 a4] 31)).alloc (.cells #[.int .i64 0, .int .i64 0, .int .i64 0, .int .i64 0, .int .i64 0, .int .i64 0, .int .i64 0, .int .i64 0, .int .i64 0, .int .i64 0, .int .i64 0, .int .i64 0, .int .i64 0, .int .i64 0, .int .i64 0, .int .i64 0, .int .i64 0, .int .i64 0, .int .i64 0, .int .i64 0, .int .i64 0, .int .i64 0, .int .i64 0, .int .i64 0, .int .i64 0, .int .i64 0, .int .i64 0, .int .i64 0, .int .i64 0, .int .i64 0, .int .i64 0, .int .i64 0, .int .i64 0, .int .i64 0, .int .i64 0, .int .i64 0, .int .i64 0, .int .i64 0, .int .i64 0, .int .i64 0, .int .i64 0, .int .i64 0, .int .i64 0, .int .i64 0, .int .i64 0, .int .i64 0, .int .i64 0, .int .i64 0] 135)) := ((Near.refl w).alloc _).alloc _
  have hZ : ((w.alloc (.cells #[.slice a1 a2 a3, .int .i64 a4] 31)).alloc (.cells #[.int .i64 0, .int .i64 0, .int .i64 0, .int .i64 0, .int .i64 0, .int .i64 0, .int .i64 0, .int .i64 0, .int .i64 0, .int .i64 0, .int .i64 0, .int .i64 0, .int .i64 0, .int .i64 0, .int .i64 0, .int .i64 0, .int .i64 0, .int .i64 0, .int .i64 0, .int .i64 0, .int .i64 0, .int .i64 0, .int .i64 0, .int .i64 0, .int .i64 0, .int .i64 0, .int .i64 0, .int .i64 0, .int .i64 0, .int .i64 0, .int .i64 0, .int .i64 0, .int .i64 0, .int .i64 0, .int .i64 0, .int .i64 0, .int .i64 0, .int .i64 0, .int .i64 0, .int .i64 0, .int .i64 0, .int .i64 0, .int .i64 0, .int .i64 0, .int .i64 0, .int .i64 0, .int .i64 0, .int .i64 0] 135)).heap[w.heap.size + 1]? = some (.cells #[.int .i64 0, .int .i64 0, .int .i64 0, .int .i64 0, .int .i64 0, .int .i64 0, .int .i64 0, .int .i64 0, .int .i64 0, .int .i64 0, .int .i64 0, .int .i64 0, .int .i64 0, .int .i64 0, .int .i64 0, .int .i64 0, .int .i64 0, .int .i64 0, .int .i64 0, .int .i64 0, .int .i64 0, .int .i64 0, .int .i64 0, .int .i64 0, .int .i64 0, .int .i64 0, .int .i64 0, .int .i64 0, .int .i64 0, .int .i64 0, .int .i64 0, .int .i64 0, .int .i64 0, .int .i64 0, .int .i64 0, .int .i64 0, .int .i64 0, .int .i64 0, .int .i64 0, .int .i64 0, .int .i64 0, .int .i64 0, .int .i64 0, .int .i64 0, .int .i64 0, .int .i64 0, .int .i64 0, .int .i64 0] 135 (0, 0)) := heap_new_at (by simp)
  obtain ⟨lev, hb⟩ := best_f (h.near hN) (wt_zero hZ) wtOk_least
  have HB := Lib.hid hb
  have HN := Lib.hid hN
  generalize bestC wLeast f = c at HB ⊢
  generalize bestX wLeast f = x at HB
  generalize nowhere f = b at HB ⊢
  clear hb hN hZ h
  go_enter Try.func61, Try.ntmps61
  go_upto_region 2 with (go_at_call 108; refine HB.out.mono ?_; rintro e w1 ⟨rfl, n1⟩)
  have hN2 : Near w (w1.alloc (.cells #[.int .i64 lev, .int .i64 x, .int .u32 c, .bool (!b)] 130)) := (HN.out.trans n1).alloc _
  have hX : (w1.alloc (.cells #[.int .i64 lev, .int .i64 x, .int .u32 c, .bool (!b)] 130)).heap[w1.heap.size]? = some (.cells #[.int .i64 lev, .int .i64 x, .int .u32 c, .bool (!b)] 130 (0, 0)) := heap_new_at rfl
  generalize w1.alloc (.cells #[.int .i64 lev, .int .i64 x, .int .u32 c, .bool (!b)] 130) = W2 at hN2 hX ⊢
  have x1 := cell1 (o := 1) hX rfl
  have x2 := cell1 (o := 2) hX rfl
  have x3 := cell1 (o := 3) hX rfl
  have HN2 := Lib.hid hN2
  clear hN2 hX n1
  go_quiet (fail)
  go_wp2_with fail
  exact bodyPost_ret (v := .tuple #[.int .u32 (c : Nat), .bool (!b)]) (by simp [results, Try.results61, go_sem]) rfl ⟨rfl, HN2.out.drewN _⟩

set_option maxRecDepth 100000 in
set_option maxHeartbeats 3200000 in
theorem small_f {w : World} {v : Value} {f : F} (h : IsF w v f) : Calls Try.prog 63 #[v] w fun e w' => e = .returned (.tuple #[.int .u32 (bestC (wNear 0) f : Nat), .bool (!nowhere f)]) ∧ Near w w' := by
  obtain ⟨a1, a2, a3, a4, rfl⟩ := h.form
  have hN : Near w ((w.alloc (.cells #[.slice a1 a2 a3, .int .i64 a4] 31)).alloc (.cells #[.int .i64 0, .int .i64 0, .int .i64 0, .int .i64 0, .int .i64 0, .int .i64 0, .int .i64 0, .int .i64 0, .int .i64 0, .int .i64 0, .int .i64 0, .int .i64 0, .int .i64 0, .int .i64 0, .int .i64 0, .int .i64 0, .int .i64 0, .int .i64 0, .int .i64 0, .int .i64 0, .int .i64 0, .int .i64 0, .int .i64 0, .int .i64 0, .int .i64 0, .int .i64 0, .int .i64 0, .int .i64 0, .int .i64 0, .int .i64 0, .int .i64 0, .int .i64 0, .int .i64 0, .int .i64 0, .int .i64 0, .int .i64 0, .int .i64 0, .int .i64 0, .int .i64 0, .int .i64 0, .int .i64 0, .int .i64 0, .int .i64 0, .int .i64 0, .int .i64 0, .int .i64 0, .int .i64 0, .int .i64 0] 135)) := ((Near.refl w).alloc _).alloc _
  have hA : ((w.alloc (.cells #[.slice a1 a2 a3, .int .i64 a4] 31)).alloc (.cells #[.int .i64 0, .int .i64 0, .int .i64 0, .int .i64 0, .int .i64 0, .int .i64 0, .int .i64 0, .int .i64 0, .int .i64 0, .int .i64 0, .int .i64 0, .int .i64 0, .int .i64 0, .int .i64 0, .int .i64 0, .int .i64 0, .int .i64 0, .int .i64 0, .int .i64 0, .int .i64 0, .int .i64 0, .int .i64 0, .int .i64 0, .int .i64 0, .int .i64 0, .int .i64 0, .int .i64 0, .int .i64 0, .int .i64 0, .int .i64 0, .int .i64 0, .int .i64 0, .int .i64 0, .int .i64 0, .int .i64 0, .int .i64 0, .int .i64 0, .int .i64 0, .int .i64 0, .int .i64 0, .int .i64 0, .int .i64 0, .int .i64 0, .int .i64 0, .int .i64 0, .int .i64 0, .int .i64 0, .int .i64 0] 135)).heap[w.heap.size]? = some (.cells #[.slice a1 a2 a3, .int .i64 a4] 31 (0, 0)) := (heap_old_at (by simp)).trans (heap_new_at rfl)
  have hZ : ((w.alloc (.cells #[.slice a1 a2 a3, .int .i64 a4] 31)).alloc (.cells #[.int .i64 0, .int .i64 0, .int .i64 0, .int .i64 0, .int .i64 0, .int .i64 0, .int .i64 0, .int .i64 0, .int .i64 0, .int .i64 0, .int .i64 0, .int .i64 0, .int .i64 0, .int .i64 0, .int .i64 0, .int .i64 0, .int .i64 0, .int .i64 0, .int .i64 0, .int .i64 0, .int .i64 0, .int .i64 0, .int .i64 0, .int .i64 0, .int .i64 0, .int .i64 0, .int .i64 0, .int .i64 0, .int .i64 0, .int .i64 0, .int .i64 0, .int .i64 0, .int .i64 0, .int .i64 0, .int .i64 0, .int .i64 0, .int .i64 0, .int .i64 0, .int .i64 0, .int .i64 0, .int .i64 0, .int .i64 0, .int .i64 0, .int .i64 0, .int .i64 0, .int .i64 0, .int .i64 0, .int .i64 0] 135)).heap[w.heap.size + 1]? = some (.cells #[.int .i64 0, .int .i64 0, .int .i64 0, .int .i64 0, .int .i64 0, .int .i64 0, .int .i64 0, .int .i64 0, .int .i64 0, .int .i64 0, .int .i64 0, .int .i64 0, .int .i64 0, .int .i64 0, .int .i64 0, .int .i64 0, .int .i64 0, .int .i64 0, .int .i64 0, .int .i64 0, .int .i64 0, .int .i64 0, .int .i64 0, .int .i64 0, .int .i64 0, .int .i64 0, .int .i64 0, .int .i64 0, .int .i64 0, .int .i64 0, .int .i64 0, .int .i64 0, .int .i64 0, .int .i64 0, .int .i64 0, .int .i64 0, .int .i64 0, .int .i64 0, .int .i64 0, .int .i64 0, .int .i64 0, .int .i64 0, .int .i64 0, .int .i64 0, .int .i64 0, .int .i64 0, .int .i64 0, .int .i64 0] 135 (0, 0)) := heap_new_at (by simp)
  have hW := wt_zero hZ
  have HF := Lib.hid h
  clear h hZ
  go_enter Try.func63, Try.ntmps63
  go_upto_region 2 with fail
  generalize ((w.alloc (.cells #[.slice a1 a2 a3, .int .i64 a4] 31)).alloc (.cells #[.int .i64 0, .int .i64 0, .int .i64 0, .int .i64 0, .int .i64 0, .int .i64 0, .int .i64 0, .int .i64 0, .int .i64 0, .int .i64 0, .int .i64 0, .int .i64 0, .int .i64 0, .int .i64 0, .int .i64 0, .int .i64 0, .int .i64 0, .int .i64 0, .int .i64 0, .int .i64 0, .int .i64 0, .int .i64 0, .int .i64 0, .int .i64 0, .int .i64 0, .int .i64 0, .int .i64 0, .int .i64 0, .int .i64 0, .int .i64 0, .int .i64 0, .int .i64 0, .int .i64 0, .int .i64 0, .int .i64 0, .int .i64 0, .int .i64 0, .int .i64 0, .int .i64 0, .int .i64 0, .int .i64 0, .int .i64 0, .int .i64 0, .int .i64 0, .int .i64 0, .int .i64 0, .int .i64 0, .int .i64 0] 135)) = W1 at hN hA hW ⊢
  have HN := Lib.hid hN
  have HA := Lib.hid hA
  have HW := Lib.hid hW
  clear hN hA hW
  go_wp2_with fail
  go_loopw [7] (fun i wr => ∃ k : Nat, k ≤ 24 ∧ i = .int .i64 k ∧ IsWt wr (w.heap.size + 1) (wTo (wNear 0) k) ∧ Kept (fun b => b = w.heap.size + 1) W1 wr) (fun i _ => 24 - (intOf i).toNat)
  case atStart => exact ⟨0, Nat.zero_le _, rfl, HW.out.congr fun i b hi => by unfold wTo wLeast; simp, Kept.refl _ _⟩
  case round =>
    obtain ⟨k, hk, rfl, hw, hkp⟩ := hrel
    have HWk := Lib.hid hw
    have HK := Lib.hid hkp
    clear hw hkp
    by_cases hlt : k < 24
    · have hlt' : (k : Int) < 24 := by omega
      have hk24 : k < 24 := by omega
      have hk24' : (k : Int) < 24 := by omega
      obtain ⟨d0, d1⟩ := HWk.out.cells hk24
      obtain ⟨cs, hcs, -⟩ := HWk.out
      have zf := free1 hcs
      clear hcs
      have hst := HWk.out.store hk24 true 1
      have HS := Lib.hid hst
      clear hst
      go_wp2_with fail
      refine ⟨⟨k + 1, by omega, by go_num, HS.out.congr fun i b hi => ?_, HK.out.setCell (fun _ => rfl) _⟩, by simp [intOf]; omega⟩
      unfold wTo wNear
      by_cases e : i = k
      · subst e
        cases b <;> simp
      · by_cases e2 : i < k
        · have e3 : i < k + 1 := by omega
          simp [e, e2, e3]
        · have e3 : ¬ i < k + 1 := by omega
          simp [e, e2, e3]
    · have hkl : k = 24 := by omega
      subst hkl
      have hNW : Near w wr := Kept.mono (HN.out.kept.trans HK.out) (fun b hb e => by omega)
      have hwt : IsWt wr (w.heap.size + 1) (wNear 0) := HWk.out.congr fun i b hi => by unfold wTo; rw [if_pos hi]
      obtain ⟨lev, hb⟩ := best_f (HF.out.near hNW) hwt (wtOk_near 0)
      have HB := Lib.hid hb
      have HNW := Lib.hid hNW
      have hAr := (HK.out.block w.heap.size (Array.getElem?_eq_some_iff.1 HA.out).1 (by omega)).trans HA.out
      have r0 := cell1 (o := 0) hAr rfl
      have r1 := cell1 (o := 1) hAr rfl
      generalize hcc : bestC (wNear 0) f = c at HB ⊢
      generalize bestX (wNear 0) f = x at HB
      generalize hnn : nowhere f = b at HB ⊢
      have HCC := Lib.hid hcc
      have HNN := Lib.hid hnn
      clear hcc hnn
      clear hb hwt hNW hAr
      go_upto_region 8 with (go_at_call 108; refine HB.out.mono ?_; rintro e w2 ⟨rfl, n2⟩)
      have hN2 : Near w (w2.alloc (.cells #[.int .i64 lev, .int .i64 x, .int .u32 c, .bool (!b)] 130)) := (HNW.out.trans n2).alloc _
      have hX : (w2.alloc (.cells #[.int .i64 lev, .int .i64 x, .int .u32 c, .bool (!b)] 130)).heap[w2.heap.size]? = some (.cells #[.int .i64 lev, .int .i64 x, .int .u32 c, .bool (!b)] 130 (0, 0)) := heap_new_at rfl
      generalize w2.alloc (.cells #[.int .i64 lev, .int .i64 x, .int .u32 c, .bool (!b)] 130) = W3 at hN2 hX ⊢
      have x1 := cell1 (o := 1) hX rfl
      have x2 := cell1 (o := 2) hX rfl
      have x3 := cell1 (o := 3) hX rfl
      have HN3 := Lib.hid hN2
      clear hN2 hX n2
      go_quiet (fail)
      go_wp2_with fail
      exact bodyPost_ret (v := .tuple #[.int .u32 (c : Nat), .bool (!b)]) (by simp [results, Try.results63, go_sem]) rfl ⟨by rw [HCC.out, HNN.out], HN3.out.drewN _⟩

set_option maxRecDepth 100000 in
set_option maxHeartbeats 3200000 in
theorem near_f {w : World} {v : Value} {f : F} (h : IsF w v f) (n : Nat) (hn : n < 4294967296) : Calls Try.prog 65 #[v, .int .u32 n] w fun e w' => e = .returned (.tuple #[.int .u32 (bestC (wNear (n % 16777216)) f : Nat), .bool (!nowhere f)]) ∧ Near w w' := by
  obtain ⟨a1, a2, a3, a4, rfl⟩ := h.form
  have hN : Near w ((w.alloc (.cells #[.slice a1 a2 a3, .int .i64 a4] 31)).alloc (.cells #[.int .i64 0, .int .i64 0, .int .i64 0, .int .i64 0, .int .i64 0, .int .i64 0, .int .i64 0, .int .i64 0, .int .i64 0, .int .i64 0, .int .i64 0, .int .i64 0, .int .i64 0, .int .i64 0, .int .i64 0, .int .i64 0, .int .i64 0, .int .i64 0, .int .i64 0, .int .i64 0, .int .i64 0, .int .i64 0, .int .i64 0, .int .i64 0, .int .i64 0, .int .i64 0, .int .i64 0, .int .i64 0, .int .i64 0, .int .i64 0, .int .i64 0, .int .i64 0, .int .i64 0, .int .i64 0, .int .i64 0, .int .i64 0, .int .i64 0, .int .i64 0, .int .i64 0, .int .i64 0, .int .i64 0, .int .i64 0, .int .i64 0, .int .i64 0, .int .i64 0, .int .i64 0, .int .i64 0, .int .i64 0] 135)) := ((Near.refl w).alloc _).alloc _
  have hA : ((w.alloc (.cells #[.slice a1 a2 a3, .int .i64 a4] 31)).alloc (.cells #[.int .i64 0, .int .i64 0, .int .i64 0, .int .i64 0, .int .i64 0, .int .i64 0, .int .i64 0, .int .i64 0, .int .i64 0, .int .i64 0, .int .i64 0, .int .i64 0, .int .i64 0, .int .i64 0, .int .i64 0, .int .i64 0, .int .i64 0, .int .i64 0, .int .i64 0, .int .i64 0, .int .i64 0, .int .i64 0, .int .i64 0, .int .i64 0, .int .i64 0, .int .i64 0, .int .i64 0, .int .i64 0, .int .i64 0, .int .i64 0, .int .i64 0, .int .i64 0, .int .i64 0, .int .i64 0, .int .i64 0, .int .i64 0, .int .i64 0, .int .i64 0, .int .i64 0, .int .i64 0, .int .i64 0, .int .i64 0, .int .i64 0, .int .i64 0, .int .i64 0, .int .i64 0, .int .i64 0, .int .i64 0] 135)).heap[w.heap.size]? = some (.cells #[.slice a1 a2 a3, .int .i64 a4] 31 (0, 0)) := (heap_old_at (by simp)).trans (heap_new_at rfl)
  have hZ : ((w.alloc (.cells #[.slice a1 a2 a3, .int .i64 a4] 31)).alloc (.cells #[.int .i64 0, .int .i64 0, .int .i64 0, .int .i64 0, .int .i64 0, .int .i64 0, .int .i64 0, .int .i64 0, .int .i64 0, .int .i64 0, .int .i64 0, .int .i64 0, .int .i64 0, .int .i64 0, .int .i64 0, .int .i64 0, .int .i64 0, .int .i64 0, .int .i64 0, .int .i64 0, .int .i64 0, .int .i64 0, .int .i64 0, .int .i64 0, .int .i64 0, .int .i64 0, .int .i64 0, .int .i64 0, .int .i64 0, .int .i64 0, .int .i64 0, .int .i64 0, .int .i64 0, .int .i64 0, .int .i64 0, .int .i64 0, .int .i64 0, .int .i64 0, .int .i64 0, .int .i64 0, .int .i64 0, .int .i64 0, .int .i64 0, .int .i64 0, .int .i64 0, .int .i64 0, .int .i64 0, .int .i64 0] 135)).heap[w.heap.size + 1]? = some (.cells #[.int .i64 0, .int .i64 0, .int .i64 0, .int .i64 0, .int .i64 0, .int .i64 0, .int .i64 0, .int .i64 0, .int .i64 0, .int .i64 0, .int .i64 0, .int .i64 0, .int .i64 0, .int .i64 0, .int .i64 0, .int .i64 0, .int .i64 0, .int .i64 0, .int .i64 0, .int .i64 0, .int .i64 0, .int .i64 0, .int .i64 0, .int .i64 0, .int .i64 0, .int .i64 0, .int .i64 0, .int .i64 0, .int .i64 0, .int .i64 0, .int .i64 0, .int .i64 0, .int .i64 0, .int .i64 0, .int .i64 0, .int .i64 0, .int .i64 0, .int .i64 0, .int .i64 0, .int .i64 0, .int .i64 0, .int .i64 0, .int .i64 0, .int .i64 0, .int .i64 0, .int .i64 0, .int .i64 0, .int .i64 0] 135 (0, 0)) := heap_new_at (by simp)
  have hW := wt_zero hZ
  have HF := Lib.hid h
  clear h hZ
  go_enter Try.func65, Try.ntmps65
  go_upto_region 2 with fail
  generalize ((w.alloc (.cells #[.slice a1 a2 a3, .int .i64 a4] 31)).alloc (.cells #[.int .i64 0, .int .i64 0, .int .i64 0, .int .i64 0, .int .i64 0, .int .i64 0, .int .i64 0, .int .i64 0, .int .i64 0, .int .i64 0, .int .i64 0, .int .i64 0, .int .i64 0, .int .i64 0, .int .i64 0, .int .i64 0, .int .i64 0, .int .i64 0, .int .i64 0, .int .i64 0, .int .i64 0, .int .i64 0, .int .i64 0, .int .i64 0, .int .i64 0, .int .i64 0, .int .i64 0, .int .i64 0, .int .i64 0, .int .i64 0, .int .i64 0, .int .i64 0, .int .i64 0, .int .i64 0, .int .i64 0, .int .i64 0, .int .i64 0, .int .i64 0, .int .i64 0, .int .i64 0, .int .i64 0, .int .i64 0, .int .i64 0, .int .i64 0, .int .i64 0, .int .i64 0, .int .i64 0, .int .i64 0] 135)) = W1 at hN hA hW ⊢
  have HN := Lib.hid hN
  have HA := Lib.hid hA
  have HW := Lib.hid hW
  clear hN hA hW
  go_wp2_with fail
  go_loopw [9] (fun i wr => ∃ k : Nat, k ≤ 24 ∧ i = .int .i64 k ∧ IsWt wr (w.heap.size + 1) (wTo (wNear (n % 16777216)) k) ∧ Kept (fun b => b = w.heap.size + 1) W1 wr) (fun i _ => 24 - (intOf i).toNat)
  case atStart => exact ⟨0, Nat.zero_le _, rfl, HW.out.congr fun i b hi => by unfold wTo wLeast; simp, Kept.refl _ _⟩
  case round =>
    obtain ⟨k, hk, rfl, hw, hkp⟩ := hrel
    have HWk := Lib.hid hw
    have HK := Lib.hid hkp
    clear hw hkp
    by_cases hlt : k < 24
    · have hlt' : (k : Int) < 24 := by omega
      have hk24 : k < 24 := by omega
      have hk24' : (k : Int) < 24 := by omega
      obtain ⟨d0, d1⟩ := HWk.out.cells hk24
      obtain ⟨cs, hcs, -⟩ := HWk.out
      have zf := free1 hcs
      clear hcs
      have hbit := u32_bitN n k hn (by omega)
      have hw1 : IntKind.u32.wrap 1 = 1 := rfl
      have hw0 : IntKind.u32.wrap 0 = 0 := rfl
      have hk64 : (k : Int) < 64 := by omega
      have hst := HWk.out.store hk24 (!n.testBit k) 1
      have hmod : (n % 16777216).testBit k = n.testBit k := by
        rw [show (16777216 : Nat) = 2 ^ 24 by decide, Nat.testBit_mod_two_pow]
        simp [hk24]
      have HM := Lib.hid hmod
      have HS := Lib.hid hst
      clear hst hmod
      have hfin : ∀ t : Bool, n.testBit k = t → ∀ i b, i < 24 → (if i = k ∧ b = (!t) then (1 : Int) else wTo (wNear (n % 16777216)) k i b) = wTo (wNear (n % 16777216)) (k + 1) i b := by
        intro t ht i b hi
        unfold wTo wNear
        by_cases e : i = k
        · subst e
          rw [HM.out, ht]
          cases b <;> cases t <;> simp
        · by_cases e2 : i < k
          · have e3 : i < k + 1 := by omega
            simp [e, e2, e3]
          · have e3 : ¬ i < k + 1 := by omega
            simp [e, e2, e3]
      have HFin := Lib.hid hfin
      clear hfin
      cases hb : n.testBit k
      all_goals
        rw [hb] at hbit HS
        simp only [if_true, Bool.false_eq_true, if_false] at hbit
        have HFk := Lib.hid (HFin.out _ hb)
        clear hb
        simp only [Bool.not_true, Bool.not_false, Bool.toNat_true, Bool.toNat_false, Nat.add_zero] at HS HFk
        go_upto_region 5 with fail
        go_still_tail 8, (by kernel_rfl)
        change wpList _ _ _ _ _ wr.drew
        go_wp2_with fail
        refine ⟨⟨k + 1, by omega, by go_num, ?_, ?_⟩, by simp [intOf]; omega⟩
        · obtain ⟨cs', p1, p2⟩ := HS.out.congr HFk.out
          exact ⟨cs', p1, p2⟩
        · exact (HK.out.setCell (p := ⟨w.heap.size + 1, _, none⟩) (fun _ => rfl) _).drew
    · have hkl : k = 24 := by omega
      subst hkl
      have hNW : Near w wr := Kept.mono (HN.out.kept.trans HK.out) (fun b hb e => by omega)
      have hwt : IsWt wr (w.heap.size + 1) (wNear (n % 16777216)) := HWk.out.congr fun i b hi => by unfold wTo; rw [if_pos hi]
      obtain ⟨lev, hb⟩ := best_f (HF.out.near hNW) hwt (wtOk_near _)
      have HB := Lib.hid hb
      have HNW := Lib.hid hNW
      have hAr := (HK.out.block w.heap.size (Array.getElem?_eq_some_iff.1 HA.out).1 (by omega)).trans HA.out
      have r0 := cell1 (o := 0) hAr rfl
      have r1 := cell1 (o := 1) hAr rfl
      generalize hcc : bestC (wNear (n % 16777216)) f = c at HB ⊢
      generalize bestX (wNear (n % 16777216)) f = x at HB
      generalize hnn : nowhere f = b at HB ⊢
      have HCC := Lib.hid hcc
      have HNN := Lib.hid hnn
      clear hcc hnn
      clear hb hwt hNW hAr
      go_upto_region 8 with (go_at_call 108; refine HB.out.mono ?_; rintro e w2 ⟨rfl, n2⟩)
      have hN2 : Near w (w2.alloc (.cells #[.int .i64 lev, .int .i64 x, .int .u32 c, .bool (!b)] 130)) := (HNW.out.trans n2).alloc _
      have hX : (w2.alloc (.cells #[.int .i64 lev, .int .i64 x, .int .u32 c, .bool (!b)] 130)).heap[w2.heap.size]? = some (.cells #[.int .i64 lev, .int .i64 x, .int .u32 c, .bool (!b)] 130 (0, 0)) := heap_new_at rfl
      generalize w2.alloc (.cells #[.int .i64 lev, .int .i64 x, .int .u32 c, .bool (!b)] 130) = W3 at hN2 hX ⊢
      have x1 := cell1 (o := 1) hX rfl
      have x2 := cell1 (o := 2) hX rfl
      have x3 := cell1 (o := 3) hX rfl
      have HN3 := Lib.hid hN2
      clear hN2 hX n2
      go_quiet (fail)
      go_wp2_with fail
      exact bodyPost_ret (v := .tuple #[.int .u32 (c : Nat), .bool (!b)]) (by simp [results, Try.results65, go_sem]) rfl ⟨by rw [HCC.out, HNN.out], HN3.out.drewN _⟩

theorem wCost_to {l : List Int} {k : Nat} (hk : k < l.length) {d : Int} (hd : l[k]? = some d) (i : Nat) (b : Bool) : (if i = k ∧ b = true then d else wTo (wCost l) k i b) = wTo (wCost l) (k + 1) i b := by
  unfold wTo wCost
  by_cases e : i = k
  · subst e
    cases b with
    | true => simp [costOf_at hd]
    | false => simp
  · by_cases e2 : i < k
    · have e3 : i < k + 1 := by omega
      simp [e, e2, e3]
    · have e3 : ¬ i < k + 1 := by omega
      simp [e, e2, e3]

theorem wCost_all {l : List Int} (i : Nat) (b : Bool) : wTo (wCost l) l.length i b = wCost l i b := by
  unfold wTo
  by_cases e : i < l.length
  · rw [if_pos e]
  · rw [if_neg e]
    unfold wCost costOf
    cases b with
    | false => rfl
    | true =>
      rw [if_pos rfl, List.getD_eq_getElem?_getD, List.getElem?_eq_none (by omega)]
      rfl

set_option maxRecDepth 100000 in
set_option maxHeartbeats 3200000 in
theorem cheap_f {w : World} {v : Value} {f : F} (h : IsF w v f) {cv : Value} {ls : List Int} (hc : RdInts w cv ls) :
    Calls Try.prog 67 #[v, cv] w fun e w' => e = .returned (.tuple #[.int .u32 (cheapC ls f : Nat), .int .i64 (cheapX ls f), .int .i64 (cheapE ls f)]) ∧ Near w w' := by
  have HF := Lib.hid h
  obtain ⟨a1, a2, a3, a4, rfl⟩ := h.form
  have hN : Near w (w.alloc (.cells #[.slice a1 a2 a3, .int .i64 a4] 31)) := (Near.refl w).alloc _
  have hA : (w.alloc (.cells #[.slice a1 a2 a3, .int .i64 a4] 31)).heap[w.heap.size]? = some (.cells #[.slice a1 a2 a3, .int .i64 a4] 31 (0, 0)) := heap_new_at rfl
  have HN := Lib.hid hN
  have HA := Lib.hid hA
  have HV := Lib.hid (valid_calls (hc.near hN))
  have HE := Lib.hid (fun (w' : World) (h' : Near w w') => empty_f (HF.out.near h'))
  have HC := Lib.hid hc
  obtain ⟨ao, cap, rfl, hcl⟩ := hc
  have HCL := Lib.hid hcl
  clear h hN hA hcl
  by_cases hok : CostsOk ls
  · have z1 : cheapC ls f = bestC (wCost ls) f := if_pos hok
    have z2 : cheapX ls f = bestX (wCost ls) f := if_pos hok
    have z3 : cheapE ls f = if nowhere f = true then 8 else 0 := if_pos hok
    have hl24 := hok.1
    have hd : decide (CostsOk ls) = true := decide_eq_true hok
    have HD := Lib.hid hd
    have hno : nowhere f = true → bestC (wCost ls) f = 0 ∧ bestX (wCost ls) f = 0 := best_no
    have HWO := Lib.hid (wtOk_cost hok)
    obtain ⟨nn, hnn⟩ : ∃ b, (!nowhere f) = b := ⟨_, rfl⟩
    have HB := Lib.hid (fun (w' : World) (h' : Near w w') (wb : Nat) (hw : IsWt w' wb (wCost ls)) => hnn ▸ best_f (HF.out.near h') hw HWO.out)
    clear hnn
    rw [z1, z2, z3]
    clear z1 z2 z3 hok hd
    have HNo := Lib.hid hno
    clear hno
    generalize bestC (wCost ls) f = bc at HB HNo ⊢
    generalize bestX (wCost ls) f = bx at HB HNo ⊢
    generalize hnw : nowhere f = nb at HB HNo HE ⊢
    clear hnw
    cases nb with
    | true =>
      obtain ⟨rfl, rfl⟩ := HNo.out rfl
      rw [if_pos rfl]
      go_enter Try.func67, Try.ntmps67
      go_wp2_with (first
        | (go_at_call 110; refine HV.out.mono ?_; rintro e w1 ⟨rfl, n1⟩; rw [HD.out]; have HN1 := Lib.hid (HN.out.trans n1); have r0 := cell1 (o := 0) (keepN n1 HA.out) rfl; have r1 := cell1 (o := 1) (keepN n1 HA.out) rfl; clear n1)
        | (go_at_call 35; refine (HE.out _ HN1.out).mono ?_; rintro e w2 ⟨rfl, n2⟩; have HN2 := Lib.hid (HN1.out.trans n2); clear n2))
      exact bodyPost_ret (v := .tuple #[.int .u32 0, .int .i64 0, .int .i64 8]) (by simp [results, Try.results67, go_sem]) rfl ⟨rfl, HN2.out⟩
    | false =>
      rw [if_neg (by simp)]
      go_enter Try.func67, Try.ntmps67
      go_upto_region 6 with (first
        | (go_at_call 110; refine HV.out.mono ?_; rintro e w1 ⟨rfl, n1⟩; rw [HD.out]; have HN1 := Lib.hid (HN.out.trans n1); have HA1 := Lib.hid (keepN n1 HA.out); have r0 := cell1 (o := 0) HA1.out rfl; have r1 := cell1 (o := 1) HA1.out rfl; clear n1)
        | (go_at_call 35; refine (HE.out _ HN1.out).mono ?_; rintro e w2 ⟨rfl, n2⟩; have HN2 := Lib.hid (HN1.out.trans n2); have HA2 := Lib.hid (keepN n2 HA1.out); clear n2))
      have hN3 : Near w (w2.alloc (.cells #[.int .i64 0, .int .i64 0, .int .i64 0, .int .i64 0, .int .i64 0, .int .i64 0, .int .i64 0, .int .i64 0, .int .i64 0, .int .i64 0, .int .i64 0, .int .i64 0, .int .i64 0, .int .i64 0, .int .i64 0, .int .i64 0, .int .i64 0, .int .i64 0, .int .i64 0, .int .i64 0, .int .i64 0, .int .i64 0, .int .i64 0, .int .i64 0, .int .i64 0, .int .i64 0, .int .i64 0, .int .i64 0, .int .i64 0, .int .i64 0, .int .i64 0, .int .i64 0, .int .i64 0, .int .i64 0, .int .i64 0, .int .i64 0, .int .i64 0, .int .i64 0, .int .i64 0, .int .i64 0, .int .i64 0, .int .i64 0, .int .i64 0, .int .i64 0, .int .i64 0, .int .i64 0, .int .i64 0, .int .i64 0] 135)) := HN2.out.alloc _
      have hA3 : (w2.alloc (.cells #[.int .i64 0, .int .i64 0, .int .i64 0, .int .i64 0, .int .i64 0, .int .i64 0, .int .i64 0, .int .i64 0, .int .i64 0, .int .i64 0, .int .i64 0, .int .i64 0, .int .i64 0, .int .i64 0, .int .i64 0, .int .i64 0, .int .i64 0, .int .i64 0, .int .i64 0, .int .i64 0, .int .i64 0, .int .i64 0, .int .i64 0, .int .i64 0, .int .i64 0, .int .i64 0, .int .i64 0, .int .i64 0, .int .i64 0, .int .i64 0, .int .i64 0, .int .i64 0, .int .i64 0, .int .i64 0, .int .i64 0, .int .i64 0, .int .i64 0, .int .i64 0, .int .i64 0, .int .i64 0, .int .i64 0, .int .i64 0, .int .i64 0, .int .i64 0, .int .i64 0, .int .i64 0, .int .i64 0, .int .i64 0] 135)).heap[w.heap.size]? = some (.cells #[.slice a1 a2 a3, .int .i64 a4] 31 (0, 0)) := keepN ((Near.refl w2).alloc _) HA2.out
      have hW3 : IsWt (w2.alloc (.cells #[.int .i64 0, .int .i64 0, .int .i64 0, .int .i64 0, .int .i64 0, .int .i64 0, .int .i64 0, .int .i64 0, .int .i64 0, .int .i64 0, .int .i64 0, .int .i64 0, .int .i64 0, .int .i64 0, .int .i64 0, .int .i64 0, .int .i64 0, .int .i64 0, .int .i64 0, .int .i64 0, .int .i64 0, .int .i64 0, .int .i64 0, .int .i64 0, .int .i64 0, .int .i64 0, .int .i64 0, .int .i64 0, .int .i64 0, .int .i64 0, .int .i64 0, .int .i64 0, .int .i64 0, .int .i64 0, .int .i64 0, .int .i64 0, .int .i64 0, .int .i64 0, .int .i64 0, .int .i64 0, .int .i64 0, .int .i64 0, .int .i64 0, .int .i64 0, .int .i64 0, .int .i64 0, .int .i64 0, .int .i64 0] 135)) w2.heap.size wLeast := wt_zero (heap_new_at rfl)
      have hlt3 : w.heap.size < w2.heap.size := (Array.getElem?_eq_some_iff.1 HA2.out).1
      generalize (w2.alloc (.cells #[.int .i64 0, .int .i64 0, .int .i64 0, .int .i64 0, .int .i64 0, .int .i64 0, .int .i64 0, .int .i64 0, .int .i64 0, .int .i64 0, .int .i64 0, .int .i64 0, .int .i64 0, .int .i64 0, .int .i64 0, .int .i64 0, .int .i64 0, .int .i64 0, .int .i64 0, .int .i64 0, .int .i64 0, .int .i64 0, .int .i64 0, .int .i64 0, .int .i64 0, .int .i64 0, .int .i64 0, .int .i64 0, .int .i64 0, .int .i64 0, .int .i64 0, .int .i64 0, .int .i64 0, .int .i64 0, .int .i64 0, .int .i64 0, .int .i64 0, .int .i64 0, .int .i64 0, .int .i64 0, .int .i64 0, .int .i64 0, .int .i64 0, .int .i64 0, .int .i64 0, .int .i64 0, .int .i64 0, .int .i64 0] 135)) = W3 at hN3 hA3 hW3 ⊢
      generalize w2.heap.size = wb at hW3 hlt3 ⊢
      have hwbs : wb < W3.heap.size := by obtain ⟨cs, h1, -⟩ := hW3; exact (Array.getElem?_eq_some_iff.1 h1).1
      have HN3 := Lib.hid hN3
      have HA3 := Lib.hid hA3
      have HW3 := Lib.hid hW3
      clear hN3 hA3 hW3 r0 r1
      go_wp2_with fail
      go_loopw [8, 9, 20] (fun x y i wr => ∃ k : Nat, k ≤ ls.length ∧ i = .int .i64 k ∧ IsWt wr wb (wTo (wCost ls) k) ∧ Kept (fun b => b = wb) W3 wr) (fun _ _ i _ => ls.length - (intOf i).toNat)
      case atStart => exact ⟨0, Nat.zero_le _, rfl, HW3.out.congr fun i b hi => by unfold wTo wLeast; simp, Kept.refl _ _⟩
      case round =>
        obtain ⟨k, hk, rfl, hw, hkp⟩ := hrel
        have HWk := Lib.hid hw
        have HK := Lib.hid hkp
        clear hw hkp
        by_cases hlt : k < ls.length
        · have hlt' : (k : Int) < ls.length := by omega
          have hk24 : k < 24 := by omega
          have hk24' : (k : Int) < 24 := by omega
          obtain ⟨g, off, rfl, p0⟩ := HCL.out k _ (List.getElem?_eq_getElem hlt)
          have hg : g < w.heap.size := World.block_lt_of_cell? w _ p0
          have p1 := HK.out.cell (HN3.out.cell p0) (by show ¬ g = wb; omega)
          have hco := Lib.hid (wCost_to hlt (List.getElem?_eq_getElem hlt))
          obtain ⟨d0, d1⟩ := HWk.out.cells hk24
          obtain ⟨cs, hcs, -⟩ := HWk.out
          have zf := free1 hcs
          clear hcs p0
          generalize ls[k] = d at p1 hco
          have hst := HWk.out.store hk24 true d
          have HS := Lib.hid hst
          clear hst
          go_wp2_with fail
          exact ⟨⟨k + 1, by omega, by go_num, HS.out.congr fun i b hi => hco.out i b, HK.out.setCell (fun _ => rfl) _⟩, by simp [intOf]; omega⟩
        · have hkl : k = ls.length := by omega
          subst hkl
          have hNW : Near w wr := Kept.mono (HN3.out.kept.trans HK.out) (fun b hb e => by omega)
          have hwt : IsWt wr wb (wCost ls) := HWk.out.congr fun i b hi => wCost_all i b
          obtain ⟨lev, hb⟩ := HB.out wr hNW wb hwt
          have HB2 := Lib.hid hb
          have HNW := Lib.hid hNW
          have hAr := (HK.out.block w.heap.size (Array.getElem?_eq_some_iff.1 HA3.out).1 (by omega)).trans HA3.out
          have r0 := cell1 (o := 0) hAr rfl
          have r1 := cell1 (o := 1) hAr rfl
          clear hb hwt hNW hAr
          go_upto_region 12 with (go_at_call 108; refine HB2.out.mono ?_; rintro e w4 ⟨rfl, n4⟩)
          have hN2 : Near w (w4.alloc (.cells #[.int .i64 lev, .int .i64 bx, .int .u32 bc, .bool nn] 130)) := (HNW.out.trans n4).alloc _
          have hX : (w4.alloc (.cells #[.int .i64 lev, .int .i64 bx, .int .u32 bc, .bool nn] 130)).heap[w4.heap.size]? = some (.cells #[.int .i64 lev, .int .i64 bx, .int .u32 bc, .bool nn] 130 (0, 0)) := heap_new_at rfl
          generalize w4.alloc (.cells #[.int .i64 lev, .int .i64 bx, .int .u32 bc, .bool nn] 130) = W5 at hN2 hX ⊢
          have x1 := cell1 (o := 1) hX rfl
          have x2 := cell1 (o := 2) hX rfl
          have HN5 := Lib.hid hN2
          clear hN2 hX n4
          go_quiet (fail)
          go_wp2_with fail
          exact bodyPost_ret (v := .tuple #[.int .u32 (bc : Nat), .int .i64 bx, .int .i64 0]) (by simp [results, Try.results67, go_sem]) rfl ⟨rfl, HN5.out.drewN _⟩
  · have z1 : cheapC ls f = 0 := if_neg hok
    have z2 : cheapX ls f = 0 := if_neg hok
    have z3 : cheapE ls f = 2 := if_neg hok
    have hd : decide (CostsOk ls) = false := decide_eq_false hok
    have HD := Lib.hid hd
    rw [z1, z2, z3]
    clear z1 z2 z3 hok hd
    go_enter Try.func67, Try.ntmps67
    go_wp2_with (go_at_call 110; refine HV.out.mono ?_; rintro e w1 ⟨rfl, n1⟩; rw [HD.out])
    exact bodyPost_ret (v := .tuple #[.int .u32 0, .int .i64 0, .int .i64 2]) (by simp [results, Try.results67, go_sem]) rfl ⟨rfl, HN.out.trans n1⟩

end Go.Proofs.Ytefclohjeompkaa
