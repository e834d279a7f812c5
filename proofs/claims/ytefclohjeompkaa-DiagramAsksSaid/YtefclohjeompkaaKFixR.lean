/- Parts of a proof: FixP, FixQ, FixR. -/
import Derived.Test.YtefclohjeompkaaKSaidA
import Derived.Test.YtefclohjeompkaaKThruA
/- Which features all configurations have, and which none has: the plain law. -/
namespace Go.Proofs.Ytefclohjeompkaa
open Go Go.RowKit Go.Proofs.Gen Go.Proofs.Bdd Go.Proofs.Bdd.T

/-- Is nothing left of a set if a feature is fixed? -/
noncomputable def gone (f : F) (on : Bool) (i : Nat) : Bool := nowhere (fun c => f (updI c i on))
/-- The features of a list with which nothing is left. -/
noncomputable def goneIn (f : F) (on : Bool) (V : List Nat) : Nat := numb (V.filter (gone f on))

theorem goneIn_snoc (f : F) (on : Bool) (V : List Nat) (i : Nat) : goneIn f on (V ++ [i]) = if gone f on i = true then goneIn f on V ||| 2 ^ i else goneIn f on V := by
  unfold goneIn
  rw [List.filter_append]
  by_cases h : gone f on i = true
  · rw [if_pos h, List.filter_cons_of_pos h, List.filter_nil, numb_snoc]
  · rw [if_neg h, List.filter_cons_of_neg h, List.filter_nil, List.append_nil]

theorem goneIn_lt {f : F} {on : Bool} {V : List Nat} (h : ∀ i ∈ V, i < 24) : goneIn f on V < 16777216 := numb_lt fun i hi => h i (List.mem_filter.1 hi).1

theorem gone_dep {f : F} {on : Bool} {i : Nat} (hn : nowhere f = false) (h : gone f on i = true) : dep f i = true := by
  refine Classical.byContradiction fun hd => ?_
  have hd' : dep f i = false := by simpa using hd
  have h1 := nowhere_iff.1 h
  have h2 : nowhere f = true := nowhere_iff.2 fun c => by rw [← dep_false hd' c on]; exact h1 c
  rw [hn] at h2
  cases h2

/-- Only the features on which it depends count. -/
theorem goneIn_all {f : F} {on : Bool} {V : List Nat} (hn : nowhere f = false) (hd : ∀ i, dep f i = true → i ∈ V) (h24 : ∀ i ∈ V, i < 24) : goneIn f on V = goneIn f on (List.range 24) := by
  apply Nat.eq_of_testBit_eq
  intro i
  unfold goneIn
  rw [numb_bit, numb_bit, Bool.eq_iff_iff]
  simp only [List.contains_iff_mem, List.mem_filter, List.mem_range]
  exact ⟨fun h => ⟨h24 i h.1, h.2⟩, fun h => ⟨hd i (gone_dep hn h.2), h.2⟩⟩

/-- Do all marked numbers below k meet a condition? -/
def keeps (T : List Bool) (p : Nat → Bool) (k : Nat) : Bool := (List.range k).all fun m => !(T.getD m false) || p m
theorem keeps_succ (T : List Bool) (p : Nat → Bool) (k : Nat) : keeps T p (k + 1) = (keeps T p k && (!(T.getD k false) || p k)) := by
  unfold keeps
  rw [List.range_succ, List.all_append]
  simp

theorem keeps_gone {V : List Nat} {T : List Bool} {f : F} (hV : Rising 0 V) (hT : T.length = 2 ^ V.length) (hf : ∀ c, rf V T c = f c) {i : Nat} (hi : i ∈ V) (on : Bool) :
    keeps T (fun k => (cfg V k).testBit i != on) T.length = gone f on i := by
  rw [Bool.eq_iff_iff]
  unfold gone keeps
  rw [nowhere_iff, List.all_eq_true]
  simp only [List.mem_range]
  constructor
  · intro h c
    rw [updI_upd]
    have hx := idx_lt (upd c i on) V
    have h1 := h (idx V (upd c i on)) (by omega)
    have h2 := cfg_idx hV (upd c i on) hi
    rw [upd_same] at h2
    rw [h2] at h1
    have h3 := hf (upd c i on)
    rw [← h3, rf]
    simpa using h1
  · intro h k hk
    by_cases e : (cfg V k).testBit i = on
    · have h1 := h (cfg V k).testBit
      rw [updI_upd] at h1
      have h2 : upd (cfg V k).testBit i on = (cfg V k).testBit := by
        funext j
        unfold upd
        by_cases ej : j = i
        · rw [if_pos ej, ej, e]
        · rw [if_neg ej]
      rw [h2, ← hf, rf, idx_cfg hV (by omega)] at h1
      rw [h1]
      rfl
    · simp [e]

end Go.Proofs.Ytefclohjeompkaa

/- The contract of Fixed. -/
namespace Go.Proofs.Ytefclohjeompkaa
open Go Go.RowKit Go.Proofs.Gen Go.Proofs.Bdd Go.Proofs.Bdd.T

/-- What Fixed says: on = false: what all have; on = true: what none has. -/
noncomputable def fixN (f : F) (on : Bool) : Nat := if nowhere f = true then 0 else goneIn f on (List.range 24)

theorem empty_b {w : World} {va : Value} {f : F} {b : Bool} (ha : IsF w va f) (hb : nowhere f = b) : Calls Try.prog 35 #[va] w fun e w' => e = .returned (.bool b) ∧ Near w w' := hb ▸ empty_f ha

theorem goneIn_range (f : F) (on : Bool) (k : Nat) : goneIn f on (List.range (k + 1)) = if gone f on k = true then goneIn f on (List.range k) ||| 2 ^ k else goneIn f on (List.range k) := by
  rw [List.range_succ]
  exact goneIn_snoc f on _ k

set_option maxRecDepth 100000 in
set_option maxHeartbeats 1600000 in
theorem fixed_f {w : World} {v : Value} {f : F} (h : IsF w v f) : Calls Try.prog 54 #[v] w fun e w' => e = .returned (.tuple #[.int .u32 (fixN f false : Nat), .int .u32 (fixN f true : Nat)]) ∧ Near w w' := by
  have HA := Lib.hid h
  obtain ⟨a1, a2, a3, a4, rfl⟩ := h.form
  cases hb : nowhere f with
  | true =>
    have z1 : fixN f false = 0 := if_pos hb
    have z2 : fixN f true = 0 := if_pos hb
    rw [z1, z2]
    have HB := Lib.hid hb
    clear hb z1 z2
    have hN : Near w (w.alloc (.cells #[.slice a1 a2 a3, .int .i64 a4] 31)) := (Near.refl w).alloc _
    have hE : (w.alloc (.cells #[.slice a1 a2 a3, .int .i64 a4] 31)).heap[w.heap.size]? = some (.cells #[.slice a1 a2 a3, .int .i64 a4] 31 (0, 0)) := heap_new_at rfl
    go_enter Try.func54, Try.ntmps54
    go_upto_region 1 with fail
    generalize (w.alloc (.cells #[.slice a1 a2 a3, .int .i64 a4] 31)) = W at hN hE ⊢
    have HN := Lib.hid hN
    have HE := Lib.hid hE
    have e0 := cell1 (o := 0) hE rfl
    have e1 := cell1 (o := 1) hE rfl
    clear hN hE h
    go_wp2_with (go_at_call 35; refine (empty_b (HA.out.near HN.out) HB.out).mono ?_; rintro e w1 ⟨rfl, n1⟩)
    exact bodyPost_ret (v := .tuple #[.int .u32 0, .int .u32 0]) (by simp [results, Try.results54, go_sem]) rfl ⟨rfl, HN.out.trans n1⟩
  | false =>
    have hnt : ¬ nowhere f = true := by rw [hb]; simp
    have z1 : fixN f false = goneIn f false (List.range 24) := if_neg hnt
    have z2 : fixN f true = goneIn f true (List.range 24) := if_neg hnt
    rw [z1, z2]
    have HB := Lib.hid hb
    clear hb z1 z2 hnt
    have hN : Near w (w.alloc (.cells #[.slice a1 a2 a3, .int .i64 a4] 31)) := (Near.refl w).alloc _
    have hE : (w.alloc (.cells #[.slice a1 a2 a3, .int .i64 a4] 31)).heap[w.heap.size]? = some (.cells #[.slice a1 a2 a3, .int .i64 a4] 31 (0, 0)) := heap_new_at rfl
    go_enter Try.func54, Try.ntmps54
    go_upto_region 1 with fail
    generalize (w.alloc (.cells #[.slice a1 a2 a3, .int .i64 a4] 31)) = W at hN hE ⊢
    have HN := Lib.hid hN
    have HE := Lib.hid hE
    have e0 := cell1 (o := 0) hE rfl
    have e1 := cell1 (o := 1) hE rfl
    clear hN hE h
    go_wp2_with (go_at_call 35; refine (empty_b (HA.out.near HN.out) HB.out).mono ?_; rintro e w1 ⟨rfl, n1⟩)
    go_loopw [2, 3, 7] (fun x y i wr => ∃ k : Nat, k ≤ 24 ∧ i = .int .i64 k ∧ x = .int .u32 (goneIn f false (List.range k) : Nat) ∧ y = .int .u32 (goneIn f true (List.range k) : Nat) ∧ Near W wr) (fun _ _ i _ => 24 - (intOf i).toNat)
    case atStart => exact ⟨0, Nat.zero_le _, rfl, rfl, rfl, n1⟩
    case round =>
      obtain ⟨k, hk, rfl, rfl, rfl, hn⟩ := hrel
      have HK := Lib.hid hn
      have c0 := cell1 (o := 0) (keepN hn HE.out) rfl
      have c1 := cell1 (o := 1) (keepN hn HE.out) rfl
      clear hn e0 e1
      by_cases hlt : k < 24
      · have hlt' : (k : Int) < 24 := by omega
        have hk64 : (k : Int) < 64 := by omega
        have s1 := Lib.hid (goneIn_range f false k)
        have s2 := Lib.hid (goneIn_range f true k)
        have l1 := goneIn_lt (f := f) (on := false) (V := List.range k) (fun i hi => by have := List.mem_range.1 hi; omega)
        have l2 := goneIn_lt (f := f) (on := true) (V := List.range k) (fun i hi => by have := List.mem_range.1 hi; omega)
        generalize hx1 : goneIn f false (List.range k) = x1 at s1 l1 ⊢
        generalize hx2 : goneIn f true (List.range k) = x2 at s2 l2 ⊢
        have o1 := Lib.hid (u32_or_bit x1 k (by omega) (by omega))
        have o2 := Lib.hid (u32_or_bit x2 k (by omega) (by omega))
        clear hx1 hx2
        obtain ⟨b1, hb1⟩ : ∃ b, gone f false k = b := ⟨_, rfl⟩
        obtain ⟨b2, hb2⟩ : ∃ b, gone f true k = b := ⟨_, rfl⟩
        have B1 := Lib.hid hb1
        have B2 := Lib.hid hb2
        have y1 := Lib.hid (show goneIn f false (List.range (k + 1)) = if b1 = true then x1 ||| 2 ^ k else x1 by rw [s1.out, hb1])
        have y2 := Lib.hid (show goneIn f true (List.range (k + 1)) = if b2 = true then x2 ||| 2 ^ k else x2 by rw [s2.out, hb2])
        clear s1 s2 hb1 hb2
        cases b1 <;> cases b2
        all_goals
          go_wp2_with (first
            | (go_at_call_of 41 (Value.bool false); refine (with_f (HA.out.near (HN.out.trans HK.out)) _ _).mono ?_; rintro e w3 ⟨v3, rfl, d3, n3⟩; obtain ⟨p1, p2, p3, p4, rfl⟩ := d3.form; have c0 := n3.cell c0; have c1 := n3.cell c1)
            | (go_at_call_of 41 (Value.bool true); refine (with_f (HA.out.near ((HN.out.trans HK.out).trans (n3.trans n4))) _ _).mono ?_; rintro e w5 ⟨v5, rfl, d5, n5⟩; obtain ⟨p1, p2, p3, p4, rfl⟩ := d5.form)
            | (go_at_call 35; refine (empty_b d5 B2.out).mono ?_; rintro e w6 ⟨rfl, n6⟩)
            | (go_at_call 35; refine (empty_b d3 B1.out).mono ?_; rintro e w4 ⟨rfl, n4⟩; have c0 := n4.cell c0; have c1 := n4.cell c1))
          exact ⟨⟨k + 1, by omega, by go_num, by rw [y1.out]; first | rfl | (rw [o1.out]; rfl), by rw [y2.out]; first | rfl | (rw [o2.out]; rfl), (((HK.out.trans n3).trans n4).trans n5).trans n6⟩, by simp [intOf]; omega⟩
      · have hk24 : k = 24 := by omega
        subst hk24
        generalize hx1 : goneIn f false (List.range 24) = x1
        generalize hx2 : goneIn f true (List.range 24) = x2
        have HX1 := Lib.hid hx1
        have HX2 := Lib.hid hx2
        clear hx1 hx2
        go_wp2_with fail
        exact bodyPost_ret (v := .tuple #[.int .u32 (x1 : Nat), .int .u32 (x2 : Nat)]) (by simp [results, Try.results54, go_sem]) rfl ⟨by rw [HX1.out, HX2.out], HN.out.trans HK.out⟩

end Go.Proofs.Ytefclohjeompkaa

/- The reference's Fixed. -/
namespace Go.Proofs.Ytefclohjeompkaa
open Go Go.RowKit Go.Proofs.Gen Go.Proofs.Bdd Go.Proofs.Bdd.T

theorem rising_take_lt : ∀ {V : List Nat} {m k i : Nat}, Rising m V → V[k]? = some i → ∀ j ∈ V.take k, j < i
  | [], _, k, i, _, hk, j, hj => by simp at hk
  | i' :: V, m, 0, i, _, _, j, hj => by simp at hj
  | i' :: V, m, k + 1, i, h, hk, j, hj => by
    have hk' : V[k]? = some i := by simpa using hk
    rw [List.take_succ_cons] at hj
    rcases List.mem_cons.1 hj with rfl | hj
    · have := h.2.all i (List.mem_of_getElem? hk')
      omega
    · exact rising_take_lt h.2 hk' j hj

theorem numb_lt_pow {V : List Nat} {n : Nat} (h : ∀ i ∈ V, i < n) : numb V < 2 ^ n := by
  refine Nat.lt_pow_two_of_testBit _ fun i hi => ?_
  rw [numb_bit]
  have : i ∉ V := fun hm => by have := h i hm; omega
  simpa using this
theorem or_two_pow {x i : Nat} (h : x < 2 ^ i) : x ||| 2 ^ i = x + 2 ^ i := by
  have h1 := Nat.two_pow_add_eq_or_of_lt h 1
  rw [Nat.mul_one] at h1
  rw [Nat.or_comm, ← h1, Nat.add_comm]

theorem goneIn_step {f : F} {V : List Nat} (hV : Rising 0 V) {k i : Nat} (hk : V[k]? = some i) (on : Bool) :
    goneIn f on (V.take (k + 1)) = if gone f on i = true then goneIn f on (V.take k) + 2 ^ i else goneIn f on (V.take k) := by
  have hlt : k < V.length := (List.getElem?_eq_some_iff.1 hk).1
  have hi : V[k] = i := (List.getElem?_eq_some_iff.1 hk).2
  rw [List.take_succ_eq_append_getElem hlt, goneIn_snoc, hi]
  have hlow : goneIn f on (V.take k) < 2 ^ i := numb_lt_pow fun j hj => rising_take_lt hV hk j (List.mem_filter.1 hj).1
  rw [or_two_pow hlow]

theorem goneIn_of {f : F} {V : List Nat} {T : List Bool} (hV : Rising 0 V) (hf : ∀ c, rf V T c = f c) (hn : nowhere f = false) (on : Bool) : goneIn f on V = goneIn f on (List.range 24) := by
  refine goneIn_all hn (fun i hi => ?_) fun i hi => (hV.all i hi).2
  refine Classical.byContradiction fun hm => ?_
  obtain ⟨c, hc⟩ := dep_true.1 hi
  refine hc ?_
  rw [← hf, ← hf]
  exact rf_congr fun j hj => by
    have : j ≠ i := fun e => hm (e ▸ hj)
    rw [upd_other _ _ this, upd_other _ _ this]

set_option maxRecDepth 100000 in
set_option maxHeartbeats 6400000 in
theorem rfixed_g {w : World} {v : Value} {f : F} (h : IsG w v f) : Calls Try.prog 55 #[v] w fun e w' => e = .returned (.tuple #[.int .u32 (fixN f false : Nat), .int .u32 (fixN f true : Nat)]) ∧ Near w w' := by
  have HA := Lib.hid h
  obtain ⟨V, T, ⟨hV, hT, sv, st, rfl, r1, r2⟩, hf⟩ := h
  obtain ⟨ao, cap, rfl⟩ := owns_form r1
  obtain ⟨bo, cbp, rfl⟩ := owns_form r2
  have HR1 := Lib.hid r1
  have HR2 := Lib.hid r2
  have HV := Lib.hid hV
  have HTL := Lib.hid hT
  have HF := Lib.hid hf
  have lV := hV.len
  have hTb : T.length ≤ 16777216 := by
    have hp : (2 : Nat) ^ V.length ≤ 2 ^ 24 := Nat.pow_le_pow_right (by omega) (by omega)
    have e24 : (2 : Nat) ^ 24 = 16777216 := by decide
    omega
  have hN : Near w (w.alloc (.cells #[.slice ao V.length cap, .slice bo T.length cbp] 37)) := (Near.refl w).alloc _
  have hE : (w.alloc (.cells #[.slice ao V.length cap, .slice bo T.length cbp] 37)).heap[w.heap.size]? = some (.cells #[.slice ao V.length cap, .slice bo T.length cbp] 37 (0, 0)) := heap_new_at rfl
  clear r1 r2 hV hT
  cases hb : nowhere f with
  | true =>
    have z1 : fixN f false = 0 := if_pos hb
    have z2 : fixN f true = 0 := if_pos hb
    rw [z1, z2]
    have HB := Lib.hid hb
    clear hb z1 z2 hf
    go_enter Try.func55, Try.ntmps55
    go_wp2_with fail
    generalize (w.alloc (.cells #[.slice ao V.length cap, .slice bo T.length cbp] 37)) = W at hN hE ⊢
    have HN := Lib.hid hN
    have HE := Lib.hid hE
    clear hN hE
    go_loopw [4, 5, 6] (fun x y i wr => x = .int .u32 0 ∧ y = .int .u32 0 ∧ i = .int .i64 0 ∧ wr = W) (fun _ _ _ _ => 0)
    case atStart => exact ⟨rfl, rfl, rfl, rfl⟩
    case round =>
      obtain ⟨rfl, rfl, rfl, rfl⟩ := hrel
      have c0 := cell1 (o := 0) HE.out rfl
      have c1 := cell1 (o := 1) HE.out rfl
      by_cases h0 : (0 : Int) < V.length
      · go_wp2_with (first
          | (go_at_call 57; refine (rempty_g (HA.out.near HN.out) HB.out).mono ?_; rintro e w1 ⟨rfl, n1⟩))
        exact bodyPost_ret (v := .tuple #[.int .u32 0, .int .u32 0]) (by simp [results, Try.results55, go_sem]) rfl ⟨rfl, HN.out.trans n1⟩
      · go_wp2_with fail
        exact bodyPost_ret (v := .tuple #[.int .u32 0, .int .u32 0]) (by simp [results, Try.results55, go_sem]) rfl ⟨rfl, HN.out⟩
  | false =>
    have hnt : ¬ nowhere f = true := by rw [hb]; simp
    have z1 : fixN f false = goneIn f false V := (if_neg hnt).trans (goneIn_of HV.out hf hb false).symm
    have z2 : fixN f true = goneIn f true V := (if_neg hnt).trans (goneIn_of HV.out hf hb true).symm
    rw [z1, z2]
    have HB := Lib.hid hb
    clear hb z1 z2 hf hnt
    go_enter Try.func55, Try.ntmps55
    go_wp2_with fail
    generalize (w.alloc (.cells #[.slice ao V.length cap, .slice bo T.length cbp] 37)) = W at hN hE ⊢
    have HN := Lib.hid hN
    have HE := Lib.hid hE
    clear hN hE
    go_loopw [4, 5, 6] (fun x y i wr => ∃ k : Nat, k ≤ V.length ∧ i = .int .i64 k ∧ x = .int .u32 (goneIn f false (V.take k) : Nat) ∧ y = .int .u32 (goneIn f true (V.take k) : Nat) ∧ Near W wr) (fun _ _ i _ => V.length - (intOf i).toNat)
    case atStart => exact ⟨0, Nat.zero_le _, rfl, rfl, rfl, Near.refl _⟩
    case round =>
      obtain ⟨k, hk, rfl, rfl, rfl, hn⟩ := hrel
      have HK := Lib.hid hn
      have c0 := cell1 (o := 0) (keepN hn HE.out) rfl
      have c1 := cell1 (o := 1) (keepN hn HE.out) rfl
      by_cases hlt : k < V.length
      · have hlt' : (k : Int) < V.length := by omega
        obtain ⟨g, cap', hv, x0, hg⟩ := row1 HR1.out (k := k) (u := iv V[k]) (by simp [hlt]) hlt
        simp only [Value.slice.injEq, true_and] at hv
        obtain ⟨rfl, rfl⟩ := hv
        obtain ⟨i, hi⟩ : ∃ i, V[k]? = some i := ⟨_, List.getElem?_eq_getElem hlt⟩
        have hii : V[k] = i := by rw [List.getElem?_eq_getElem hlt] at hi; simpa using hi
        rw [hii] at x0
        simp only [iv] at x0
        have hi24 : i < 24 := (HV.out.all i (List.mem_of_getElem? hi)).2
        have s1 := Lib.hid (goneIn_step (f := f) HV.out hi false)
        have s2 := Lib.hid (goneIn_step (f := f) HV.out hi true)
        have g1 := Lib.hid (keeps_gone HV.out HTL.out HF.out (List.mem_of_getElem? hi) false)
        have g2 := Lib.hid (keeps_gone HV.out HTL.out HF.out (List.mem_of_getElem? hi) true)
        have l1 : goneIn f false (V.take k) < 16777216 := goneIn_lt fun j hj => (HV.out.all j (List.mem_of_mem_take hj)).2
        have l2 : goneIn f true (V.take k) < 16777216 := goneIn_lt fun j hj => (HV.out.all j (List.mem_of_mem_take hj)).2
        generalize hx1 : goneIn f false (V.take k) = a1 at s1 l1 ⊢
        generalize hx2 : goneIn f true (V.take k) = a2 at s2 l2 ⊢
        have o1 := Lib.hid (add_bit a1 i (by omega) hi24)
        have o2 := Lib.hid (add_bit a2 i (by omega) hi24)
        have HX0 := Lib.hid (fun w' (h' : Near W w') => h'.cell (HN.out.cell x0))
        clear hx1 hx2 x0 hi hii
        go_wp2_with (first
          | (go_at_call 57; refine (rempty_g (HA.out.near (HN.out.trans HK.out)) HB.out).mono ?_; rintro e w1 ⟨rfl, n1⟩))
        have HK1 := Lib.hid (HK.out.trans n1)
        clear hn n1 c0 c1
        go_loopw [7, 8, 9] (fun p q j wi => ∃ m : Nat, m ≤ T.length ∧ j = .int .i64 m ∧ p = .bool (keeps T (fun m => (cfg V m).testBit i != false) m) ∧ q = .bool (keeps T (fun m => (cfg V m).testBit i != true) m) ∧ Near W wi) (fun _ _ j _ => T.length - (intOf j).toNat)
        case atStart => exact ⟨0, Nat.zero_le _, rfl, rfl, rfl, HK1.out⟩
        case round =>
          obtain ⟨q, hq, rfl, rfl, rfl, hni⟩ := hrel
          have HI := Lib.hid hni
          have c0 := cell1 (o := 0) (keepN hni HE.out) rfl
          have c1 := cell1 (o := 1) (keepN hni HE.out) rfl
          have cv := HX0.out _ hni
          by_cases hqn : q < T.length
          · have hqn' : (q : Int) < T.length := by omega
            obtain ⟨tq, htq⟩ : ∃ b, T[q] = b := ⟨_, rfl⟩
            have htd : T.getD q false = tq := by rw [List.getD_eq_getElem?_getD, List.getElem?_eq_getElem hqn, htq]; rfl
            obtain ⟨gT, cT, eT, y0, -⟩ := row1 HR2.out (k := q) (u := .bool tq) (by simp [hqn, htq]) hqn
            simp only [Value.slice.injEq, true_and] at eT
            obtain ⟨rfl, rfl⟩ := eT
            have ct := hni.cell (HN.out.cell y0)
            have S1 := Lib.hid (keeps_succ T (fun m => (cfg V m).testBit i != false) q)
            have S2 := Lib.hid (keeps_succ T (fun m => (cfg V m).testBit i != true) q)
            rw [htd] at S1 S2
            generalize hk1 : keeps T (fun m => (cfg V m).testBit i != false) q = p1 at S1 ⊢
            generalize hk2 : keeps T (fun m => (cfg V m).testBit i != true) q = p2 at S2 ⊢
            generalize hbt : (cfg V q).testBit i = bt at S1 S2
            have HBT := Lib.hid hbt
            have hcl := cfg_lt HV.out q
            have HT0 := Lib.hid (fun (w' : World) (h' : Near W w') => h'.cell (HN.out.cell y0))
            clear hk1 hk2 hbt htq htd y0 hni
            cases tq with
            | false =>
              go_wp2_with fail
              go_quiet (fail)
              all_goals go_wp2_with fail
              go_quiet (fail)
              go_wp2_with fail
              exact ⟨⟨q + 1, by omega, by go_num, by rw [S1.out]; simp, by rw [S2.out]; simp, HI.out.drewN _⟩, by simp [intOf]; omega⟩
            | true =>
              have hConf := Lib.hid (fun (w' : World) (h' : Near wr w') => config_calls HV.out (by omega) (owns_kept HR1.out (HN.out.trans (HI.out.trans h')).kept (R := fun _ => False) (fun _ _ x => x)) q (by omega))
              have hSel := Lib.hid (fun (w' : World) => selected_calls (cfg V q) i (by omega) hi24 w')
              have HS0 := Lib.hid (fun (w' : World) (h' : Near W w') => (⟨cell1 (o := 0) (keepN h' HE.out) rfl, cell1 (o := 1) (keepN h' HE.out) rfl, HX0.out w' h', HT0.out w' h'⟩ : w'.cell? ⟨w.heap.size, 0, none⟩ = some (.slice (some ⟨g, 0, none⟩) V.length cap) ∧ w'.cell? ⟨w.heap.size, 1, none⟩ = some (.slice (some ⟨gT, 0, none⟩) T.length cbp) ∧ w'.cell? ⟨g, k, none⟩ = some (.int .i64 i) ∧ w'.cell? ⟨gT, q, none⟩ = some (.bool true)))
              cases bt
              all_goals
                go_wp2_with fail
                go_region_held3 (fun w' => w'.cell? ⟨w.heap.size, 0, none⟩ = some (.slice (some ⟨g, 0, none⟩) V.length cap) ∧ w'.cell? ⟨w.heap.size, 1, none⟩ = some (.slice (some ⟨gT, 0, none⟩) T.length cbp) ∧ w'.cell? ⟨g, k, none⟩ = some (.int .i64 i) ∧ w'.cell? ⟨gT, q, none⟩ = some (.bool true))
                  ((refine HS0.out _ ?_; first | exact HI.out.drew | exact HM1.out))
                  (first
                    | (go_at_call 83; refine (hConf.out _ (Near.refl _).drew).mono ?_; rintro e v1 ⟨rfl, n1⟩; have HM1 := Lib.hid (HI.out.drew.trans n1); have HM0 := Lib.hid ((Near.refl wr).drew.trans n1); clear n1)
                    | (go_at_call 102; refine (hSel.out _).mono ?_; rintro e v2 ⟨rfl, rfl⟩; rw [HBT.out]))
                obtain ⟨d0, d1, d2, d3⟩ := HS0.out _ HM1.out
                go_wp2_with fail
                go_region_held3 (fun w' => w'.cell? ⟨w.heap.size, 0, none⟩ = some (.slice (some ⟨g, 0, none⟩) V.length cap) ∧ w'.cell? ⟨w.heap.size, 1, none⟩ = some (.slice (some ⟨gT, 0, none⟩) T.length cbp) ∧ w'.cell? ⟨g, k, none⟩ = some (.int .i64 i) ∧ w'.cell? ⟨gT, q, none⟩ = some (.bool true))
                  ((refine HS0.out _ ?_; first | exact HM1.out.drew | exact HM2.out))
                  (first
                    | (go_at_call 83; refine (hConf.out _ HM0.out.drew).mono ?_; rintro e v3 ⟨rfl, n3⟩; have HM2 := Lib.hid (HM1.out.drew.trans n3); clear n3)
                    | (go_at_call 102; refine (hSel.out _).mono ?_; rintro e v4 ⟨rfl, rfl⟩; rw [HBT.out]))
                go_wp2_with fail
                exact ⟨⟨q + 1, by omega, by go_num, by rw [S1.out]; simp, by rw [S2.out]; simp, HM2.out⟩, by simp [intOf]; omega⟩
          · have hqe : q = T.length := by omega
            subst hqe
            rw [g1.out, g2.out]
            clear hni
            obtain ⟨b1, hb1⟩ : ∃ b, gone f false i = b := ⟨_, rfl⟩
            obtain ⟨b2, hb2⟩ : ∃ b, gone f true i = b := ⟨_, rfl⟩
            have y1 := Lib.hid (show goneIn f false (V.take (k + 1)) = if b1 = true then a1 + 2 ^ i else a1 by rw [s1.out, hb1])
            have y2 := Lib.hid (show goneIn f true (V.take (k + 1)) = if b2 = true then a2 + 2 ^ i else a2 by rw [s2.out, hb2])
            rw [hb1, hb2]
            clear s1 s2 hb1 hb2 g1 g2
            have hi64 : (i : Int) < 64 := by omega
            cases b1 <;> cases b2
            all_goals
              go_wp2_with fail
              exact ⟨⟨k + 1, by omega, by go_num, by rw [y1.out]; first | rfl | (rw [o1.out]; rfl), by rw [y2.out]; first | rfl | (rw [o2.out]; rfl), HI.out⟩, by simp [intOf]; omega⟩
      · have hke : k = V.length := by omega
        subst hke
        rw [List.take_length]
        generalize hx1 : goneIn f false V = x1
        generalize hx2 : goneIn f true V = x2
        have HX1 := Lib.hid hx1
        have HX2 := Lib.hid hx2
        clear hn hx1 hx2
        go_wp2_with fail
        exact bodyPost_ret (v := .tuple #[.int .u32 (x1 : Nat), .int .u32 (x2 : Nat)]) (by simp [results, Try.results55, go_sem]) rfl ⟨by rw [HX1.out, HX2.out], HN.out.trans HK.out⟩

end Go.Proofs.Ytefclohjeompkaa
