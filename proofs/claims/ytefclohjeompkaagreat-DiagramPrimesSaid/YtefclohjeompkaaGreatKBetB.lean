/- BetB: what is needed of it. -/
import Derived.Maps.OwnSet
import Derived.WalkKit
import Derived.Deep.QuietTactic
import Derived.Test.YtefclohjeompkaaGreatProg
import Derived.KernelRfl
import Derived.DeepKeys4
import Derived.Deep.RegionLaw
import Derived.StillTailTactics
import Derived.Maps.AppendAt
import Derived.WalkSpells
import Derived.WalkLawsBesides
import Derived.BigQuiet
import Derived.Lib.Hide
import Derived.Deep.DeepCutAuto
import Derived.Laws.EntriesVeiled
import Derived.Deep.RegionHeld3
import Derived.Laws.OwnMore
import Derived.Deep.Slices
import Derived.Lib.BitFns
import Derived.IntWalk
import Derived.Test.YtefclohjeompkaaGreatKTreeC
import Derived.Test.YtefclohjeompkaaGreatKRep
import Derived.Test.YtefclohjeompkaaGreatKJoinD
import Derived.Test.YtefclohjeompkaaGreatKCmpA
import Derived.Test.YtefclohjeompkaaGreatKRefH
import Derived.Test.YtefclohjeompkaaGreatKOfB
import Derived.Test.YtefclohjeompkaaGreatKAlike
import Derived.Test.YtefclohjeompkaaGreatKBetA
namespace Go.Proofs.YtefclohjeompkaaGreat
open Go Go.RowKit Go.Proofs.Gen Go.Proofs.Bdd Go.Proofs.Bdd.T
/-- A new slice of n ints, all 0. -/
theorem make_ints (w : World) (n : Nat) (hn : n ≤ 1000) : ∃ w', (Instr.makeSlice 36 (.int .i64 (n : Int)) (.int .i64 (n : Int))).run Tryz.prog w = .ok (.slice (some ⟨w.heap.size, 0, none⟩) n n) w' ∧
    w'.ownsRow w.heap.size 3 1 (.slice (some ⟨w.heap.size, 0, none⟩) n n) n (List.replicate n (.int .i64 0)) ∧ w.grownBy w' none := by
  obtain ⟨i0, hi0, hz0, hz1, hz2⟩ := info_parts info3
  obtain ⟨w1, h1, h2, h3⟩ := run_make_full (P := Tryz.prog) w w.heap.size 36 3 i0 (.int .i64 0) 1 Tryz.underlying36 hi0 hz0 hz1 .i64 .i64 n (by rw [hz2]; omega) (by unfold maxLen; omega) (Nat.le_refl _)
  refine ⟨w1, h1, ?_, h3⟩
  have hc : (madeCells (Value.int .i64 0).cells (n * 1)).toList = List.replicate n (.int .i64 0) := by
    rw [Nat.mul_one]
    have e : (Value.int .i64 0).cells = #[Value.int .i64 0] := by simp [Value.cells]
    rw [e, toList_madeCells_one]
  rw [hc] at h2
  exact h2

theorem u32_bit0 (c i : Nat) (hc : c < 4294967296) (hi : i < 32) : (bits .and .u32 ((c : Int) / 2 ^ i) 1 == 0) = !c.testBit i := by
  have h := u32_bit' c i hc hi
  have hd : c / 2 ^ i < 4294967296 := Nat.lt_of_le_of_lt (Nat.div_le_self _ _) hc
  have h' := Go.Proofs.Gen.u32_and (c / 2 ^ i) 1 hd (by decide)
  rw [Nat.and_one_is_mod] at h'
  have e : ((c : Int) / 2 ^ i) = ((c / 2 ^ i : Nat) : Int) := by simp
  rw [e] at h ⊢
  rw [show ((1 : Int)) = ((1 : Nat) : Int) from rfl] at h ⊢
  rw [h'] at h ⊢
  rw [← h]
  have : c / 2 ^ i % 2 = 0 ∨ c / 2 ^ i % 2 = 1 := by omega
  rcases this with e | e <;> rw [e] <;> rfl

/-- The numbers of a row that is made. -/
def valsN (M : List T) (k : Nat) (ts : List T) (m j : Nat) : List Value := (List.range m).map fun q => iv (if q < j then pl M (nextT k ts q) else 0)

theorem valsN_zero (M : List T) (k : Nat) (ts : List T) (m : Nat) : valsN M k ts m 0 = List.replicate m (.int .i64 0) := by
  apply List.ext_getElem (by simp [valsN])
  intro i h1 h2
  simp [valsN, iv]

theorem valsN_succ (M : List T) (k : Nat) (ts : List T) (m j : Nat) : valsN M k ts m (j + 1) = (valsN M k ts m j).set j (iv (pl M (nextT k ts j))) := by
  apply List.ext_getElem (by simp [valsN])
  intro i h1 h2
  rw [List.getElem_set]
  simp only [valsN, List.getElem_map, List.getElem_range]
  by_cases e : j = i
  · subst e
    rw [if_pos rfl, if_pos (by omega)]
  · rw [if_neg e]
    have : (i < j + 1) ↔ (i < j) := by omega
    simp only [this]

theorem valsN_add {M : List T} {k : Nat} {ts : List T} {m j : Nat} (hi : ∀ q, q < j → In M (nextT k ts q)) (i : Nat) (l h : T) : valsN (add M i l h) k ts m j = valsN M k ts m j := by
  refine List.map_congr_left fun q _ => ?_
  by_cases e : q < j
  · rw [if_pos e, if_pos e]
    obtain ⟨N, hN⟩ := add_prefix M i l h
    rw [hN, pl_append (hi q e)]
  · rw [if_neg e, if_neg e]

theorem valsN_end (M : List T) (k : Nat) (ts : List T) (m : Nat) : valsN M k ts m m = ((List.range m).map (nextT k ts)).map fun t => iv (pl M t) := by
  unfold valsN
  rw [List.map_map]
  refine List.map_congr_left fun q hq => ?_
  rw [if_pos (by simpa using hq)]
  rfl

theorem map_add {M : List T} {ts : List T} (hi : ∀ t ∈ ts, In M t) (i : Nat) (l h : T) : (ts.map fun t => iv (pl (add M i l h) t)) = ts.map fun t => iv (pl M t) := by
  refine List.map_congr_left fun t ht => ?_
  obtain ⟨N, hN⟩ := add_prefix M i l h
  rw [hN, pl_append (hi t ht)]

set_option maxRecDepth 100000 in
set_option maxHeartbeats 3200000 in
theorem between_f {f : Nat} (hf : f < 4294967296) (low high : Int) (w : World) : Calls Tryz.prog 56 #[.int .u32 f, .int .i64 low, .int .i64 high] w (FPost w (betF f low high)) := by
  have a1 : bits .and .u32 (f : Int) 16777215 = ((f &&& 16777215 : Nat) : Int) := Go.Proofs.Gen.u32_and f 16777215 hf (by decide)
  have l1 := and24_lt f
  have hfl := feats_low f
  have hlen := featsTo_len f 24
  obtain ⟨n, hn⟩ : ∃ n, n = (featsTo f 24).length := ⟨_, rfl⟩
  rw [← hn] at hlen
  have ho := fun w => ones_calls (x := f &&& 16777215) l1 w
  rw [hfl, ← hn] at ho
  have HO := Lib.hid ho
  have HNn := Lib.hid hn
  clear ho hfl hn
  go_enter Tryz.func56, Tryz.ntmps56
  go_upto_region 3 with (first
    | (go_at_call 82; refine (maker_new _).mono ?_; rintro e w1 ⟨rfl, rfl⟩)
    | (go_at_call 24; refine (HO.out _).mono ?_; rintro e w1 ⟨rfl, n1⟩))
  clear a1
  have facts : ∀ W, W = (((w.alloc (Obj.cells #[Value.slice none 0 0, Value.int IntKind.i64 0] 34)).alloc (Obj.map #[] 0)).alloc (Obj.cells #[Value.slice none 0 0, Value.map (some (w.heap.size + 1))] 149)) →
      Near w W ∧ W.heap[w.heap.size]? = some (.cells #[.slice none 0 0, .int .i64 0] 34 (0, 0)) ∧ W.heap.size = w.heap.size + 3 ∧ IsMaker W (w.heap.size + 1 + 1) (fun b => w.heap.size + 1 ≤ b ∧ b < w.heap.size + 3) [] := by
    rintro W rfl
    refine ⟨(((Near.refl w).alloc _).alloc _).alloc _, ?_, by simp, maker_empty ?_ (kb := w.heap.size + 1) ?_ (by omega) (by omega)⟩
    all_goals
      repeat (first | exact heap_new_at (by simp; done) | refine (heap_old_at (by simp <;> omega)).trans ?_)
  obtain ⟨k1, k2, k3, k4⟩ := facts _ rfl
  have HN := Lib.hid (k1.trans n1)
  have HR := Lib.hid (keepN n1 k2)
  have HM := Lib.hid (k4.near n1)
  have hsz : w.heap.size + 3 ≤ w1.heap.size := by
    have := n1.size'
    rw [k3] at this
    exact this
  clear facts k1 k2 k3 k4 n1
  obtain ⟨w2, hmk, hrow, hgr⟩ := make_ints w1 (n + 1) (by omega)
  have e1 : (((n + 1 : Nat) : Int)) = (n : Int) + 1 := by omega
  rw [e1] at hmk
  have HRow := Lib.hid hrow
  have N2 : Near w1 w2 := Kept.grown (Near.refl w1) hgr (by intro k e; cases e)
  have HN2 := Lib.hid (HN.out.trans N2)
  have HR2 := Lib.hid (keepN N2 HR.out)
  have HM2 := Lib.hid (HM.out.near N2)
  have hl2 : w1.heap.size < w2.heap.size := (hrow.lt _ rfl).2
  clear hrow hgr N2 e1
  go_wp2_with fail
  go_loopw [10, 23] (fun x i wr => ∃ k : Nat, k ≤ n + 1 ∧ i = .int .i64 k ∧ wr.ownsRow w1.heap.size 3 1 (.slice (some ⟨w1.heap.size, 0, none⟩) (n + 1) (n + 1)) (n + 1) (vals0 low high (n + 1) k) ∧ Kept (fun b => b = w1.heap.size) w2 wr) (fun _ i _ => n + 1 - (intOf i).toNat)
  case atStart =>
    refine ⟨0, Nat.zero_le _, rfl, ?_, Kept.refl _ _⟩
    rw [vals0_zero]
    exact HRow.out
  case round =>
    obtain ⟨k, hk, rfl, hrow, hkp⟩ := hrel
    have HRw := Lib.hid hrow
    have HK := Lib.hid hkp
    clear hrow hkp
    by_cases hlt : k < n + 1
    · have hlt' : (k : Int) < (n : Int) + 1 := by omega
      by_cases hlo : low ≤ k
      · by_cases hhi : (k : Int) ≤ high
        · have hbt : bet low high k = true := by simp [bet, hlo, hhi]
          have hv := vals0_yes (n := n + 1) hbt
          have HV := Lib.hid hv
          obtain ⟨g, c, cur, e, hg, hcu, -⟩ := row1' HRw.out (k := k) (u := (vals0 low high (n + 1) k)[k]'(by rw [vals0_len]; exact hlt)) (List.getElem?_eq_getElem (by rw [vals0_len]; exact hlt)) hlt
          cases e
          have c0 := cell1 (o := k) hg hcu
          have f0 := free1 hg k
          clear hv hbt hg hcu
          go_wp2_with fail
          refine ⟨⟨k + 1, by omega, by go_num, ?_, HK.out.setCell (fun _ => rfl) _⟩, by simp [intOf]; omega⟩
          rw [HV.out]
          exact (HRw.out.stored k _).1
        · have hbt : bet low high k = false := by simp [bet, hhi]
          have HV := Lib.hid (vals0_no (n := n + 1) hbt)
          clear hbt
          go_wp2_with fail
          refine ⟨⟨k + 1, by omega, by go_num, ?_, HK.out⟩, by simp [intOf]; omega⟩
          rw [HV.out]
          exact HRw.out
      · have hbt : bet low high k = false := by simp [bet, hlo]
        have HV := Lib.hid (vals0_no (n := n + 1) hbt)
        clear hbt
        go_wp2_with fail
        refine ⟨⟨k + 1, by omega, by go_num, ?_, HK.out⟩, by simp [intOf]; omega⟩
        rw [HV.out]
        exact HRw.out
    · have hkl : k = n + 1 := by omega
      rw [hkl] at HRw
      have hkn : ¬ (k : Int) < (n : Int) + 1 := by omega
      clear hkl
      have hpl : Places (w.heap.size + 1) wr (w.heap.size + 1 + 1) (.slice (some ⟨w1.heap.size, 0, none⟩) (n + 1) (n + 1)) (row0 low high (n + 1)) [] := by
        refine ⟨.nil, (HM2.out.of_kept HK.out (fun b hb h e => by omega)).mono (fun b h => ⟨h.1, ?_⟩), ?_, ?_⟩
        · simp only [Value.ownBlock, ne_eq, Option.some.injEq]
          omega
        · have := HRw.out
          rw [vals0_end low high (n + 1) []] at this
          have hl : (row0 low high (n + 1)).length = n + 1 := by simp [row0]
          rw [hl]
          exact ownsRow_low (base := w1.heap.size) this (by omega)
        · intro t ht
          obtain ⟨j, _, rfl⟩ := List.mem_map.1 ht
          trivial
      have HP := Lib.hid hpl
      have HNr := Lib.hid (show Near w wr from Kept.mono (HN2.out.kept.trans HK.out) (fun b hb h => by omega))
      have HRr := Lib.hid ((HK.out.block _ (by omega) (by omega)).trans HR2.out)
      have HB0 := Lib.hid (HNn.out ▸ row0_is f low high)
      have hzr : w.heap.size + 3 ≤ wr.heap.size := by
        have := HK.out.size
        omega
      clear hpl HRw HK HN HR HM HN2 HR2 HM2 HRow
      go_wp2_with fail
      go_loopw [9, 11] (fun x i wr => ∃ (k : Nat) (ts M : List T), k ≤ 24 ∧ i = .int .i64 ((k : Int) - 1) ∧ BRow f low high k ts ∧ Places (w.heap.size + 1) wr (w.heap.size + 1 + 1) x ts M ∧ M.length ≤ 25 * (24 - k) ∧ Near w wr ∧ wr.heap[w.heap.size]? = some (.cells #[.slice none 0 0, .int .i64 0] 34 (0, 0)) ∧ w.heap.size + 3 ≤ wr.heap.size) (fun _ i _ => (intOf i + 1).toNat)
      case atStart =>
        exact ⟨24, _, [], Nat.le_refl _, rfl, HB0.out, HP.out, Nat.zero_le _, HNr.out, HRr.out, hzr⟩
      case round =>
        clear HB0 HP HNr HRr hzr
        obtain ⟨k, ts, M, hk, rfl, hbr, hpl, hML, hn, hres, hzq⟩ := hrel
        have HBr := Lib.hid hbr
        have HPl := Lib.hid hpl
        have HNq := Lib.hid hn
        have HRq := Lib.hid hres
        clear hbr hpl hn hres
        cases k with
        | zero =>
          have e0 : ((0 : Nat) : Int) - 1 = -1 := rfl
          rw [e0]
          have hn1 : ¬ (0 : Int) ≤ -1 := by omega
          have hl1 : ts.length = 1 := by rw [HBr.out.len]; rfl
          have ht0 : ts[0]? = some (ts[0]'(by omega)) := List.getElem?_eq_getElem (by omega)
          obtain ⟨t, ht⟩ : ∃ t, t = ts[0]'(by omega) := ⟨_, rfl⟩
          rw [← ht] at ht0
          obtain ⟨ok, -, hev⟩ := HBr.out.is 0 t ht0
          have hin := HPl.out.inn _ (List.mem_of_getElem? ht0)
          have hrow := HPl.out.row
          rw [hl1] at hrow
          obtain ⟨g, xc, hx9, z0, -⟩ := row1 hrow (k := 0) (u := iv (pl M t)) (by rw [List.getElem?_map, ht0]; rfl) (by omega)
          subst hx9
          simp only [iv] at z0
          have HEv := Lib.hid hev
          clear hrow hl1 ht0 ht hev e0
          go_wp2_with (first
            | (go_at_call 83; refine (done_calls HPl.out.good (by omega) hin ok HPl.out.maker rfl).mono ?_; rintro e w3 ⟨v3, rfl, hd, hb⟩; obtain ⟨bo, bn, bc, rfl, -⟩ := hd.form; have HD3 := Lib.hid hd; have HB3 := Lib.hid hb; have HE := Lib.hid (keepE hb HRq.out); have q0 := cell1 (o := 0) HE.out rfl; have q1 := cell1 (o := 1) HE.out rfl; have f0 := free1 HE.out 0; have f1 := free1 HE.out 1; clear hd hb))
          refine bodyPost_ret (v := .agg #[.slice bo bn bc, .int .i64 (pl (nodes t) t : Nat)]) (by simp [results, Tryz.results56, go_sem, q0, q1]) rfl
            ⟨_, rfl, ⟨t, isD_store HD3.out HE.out, fun c => ?_⟩, ((HNq.out.trans (Near.of_below HB3.out)).set (by show w.heap.size ≤ w.heap.size; omega) _).set (by show w.heap.size ≤ w.heap.size; omega) _⟩
          rw [HEv.out, Nat.zero_add]
          rfl
        | succ p =>
          have e0 : ((p + 1 : Nat) : Int) - 1 = (p : Int) := by omega
          rw [e0]
          have hb0 := u32_bit0 f p hf (by omega)
          have HB := Lib.hid hb0
          clear hb0 e0
          have hp24 : p < 24 := by omega
          have hp64 : (p : Int) < 64 := by omega
          cases hbit : f.testBit p with
          | false =>
            have hbf : (bits BinOp.and IntKind.u32 ((f : Int) / 2 ^ p) 1 == 0) = true := by rw [HB.out, hbit]; rfl
            have HBt := Lib.hid hbit
            clear hbit
            go_wp2_with fail
            exact ⟨⟨p, ts, M, by omega, rfl, brow_skip HBr.out hp24 HBt.out, HPl.out, by omega, HNq.out, HRq.out, hzq⟩, by simp [intOf]⟩
          | true =>
            have hbf : (bits BinOp.and IntKind.u32 ((f : Int) / 2 ^ p) 1 == 0) = false := by rw [HB.out, hbit]; rfl
            have HBt := Lib.hid hbit
            clear hbit
            have hlen := HBr.out.len
            obtain ⟨m, hm⟩ : ∃ m, m = (featsTo f (p + 1)).length := ⟨_, rfl⟩
            rw [← hm] at hlen
            have hmle : m ≤ p + 1 := by rw [hm]; exact featsTo_len f (p + 1)
            have hrow := HPl.out.row
            rw [hlen] at hrow
            obtain ⟨g, xc, hx9, -, hgl⟩ := row1 hrow (k := 0) (u := iv (pl M (ts[0]'(by omega)))) (by rw [List.getElem?_map, List.getElem?_eq_getElem (by omega)]; rfl) (by omega)
            subst hx9
            obtain ⟨w5, hmk, hrow5, hgr5⟩ := make_ints wr m (by omega)
            have N5 : Near wr w5 := Kept.grown (Near.refl wr) hgr5 (by intro k e; cases e)
            have hl5 : wr.heap.size < w5.heap.size := (hrow5.lt _ rfl).2
            have HRow5 := Lib.hid hrow5
            have HRowX := Lib.hid hrow
            have HN5 := Lib.hid N5
            have HMm := Lib.hid hm
            have HLen := Lib.hid hlen
            have hgb := (hrow.lt g rfl).1
            clear hrow hrow5 hgr5 N5 hm hlen
            go_wp2_with fail
            obtain ⟨wo, rfl⟩ : ∃ wo : World, wo = wr := ⟨_, rfl⟩
            go_loopw [13, 53] (fun x i wr => ∃ (j : Nat) (N : List T), j ≤ m ∧ i = .int .i64 (j : Nat) ∧ T.Good N ∧ IsMaker wr (w.heap.size + 1 + 1) (fun b => (w.heap.size + 1 ≤ b ∧ b ≠ g) ∧ b ≠ wo.heap.size) N ∧ N.length ≤ M.length + j ∧
                wr.ownsRow (w.heap.size + 1) 3 1 (.slice (some ⟨g, 0, none⟩) (m + 1) xc) (m + 1) (ts.map fun t => iv (pl N t)) ∧ wr.ownsRow wo.heap.size 3 1 (.slice (some ⟨wo.heap.size, 0, none⟩) m m) m (valsN N p ts m j) ∧
                (∀ t ∈ ts, In N t) ∧ (∀ q, q < j → In N (nextT p ts q)) ∧ Kept (fun b => (w.heap.size + 1 ≤ b ∧ b ≠ g)) w5 wr) (fun _ i _ => m - (intOf i).toNat)
            case atStart =>
              refine ⟨0, M, Nat.zero_le _, rfl, HPl.out.good, ?_, by omega, ?_, ?_, HPl.out.inn, fun q hq => absurd hq (Nat.not_lt_zero _), Kept.refl _ _⟩
              · refine (HPl.out.maker.mono_lt (R := fun b => (w.heap.size + 1 ≤ b ∧ b ≠ g) ∧ b ≠ wo.heap.size) (fun b hb h => ⟨⟨h.1, fun e => h.2 (by rw [e]; rfl)⟩, by omega⟩)).near HN5.out
              · exact owns_kept HRowX.out HN5.out.kept (R := fun _ => False) (fun _ _ x => x)
              · rw [valsN_zero]
                exact HRow5.out
            case round =>
              obtain ⟨j, N, hj, rfl, gN, hm, hNL, hrx, hry, hix, hiy, hkp⟩ := hrel
              have HMk := Lib.hid hm
              have HX := Lib.hid hrx
              have HY := Lib.hid hry
              have HIX := Lib.hid hix
              have HIY := Lib.hid hiy
              have HK := Lib.hid hkp
              have hzk := hkp.size
              clear hm hrx hry hix hiy hkp
              by_cases hlt : j < m
              · have hlt' : (j : Int) < m := by omega
                have hlen := HLen.out
                have t1 : ts[j]? = some (ts[j]'(by omega)) := List.getElem?_eq_getElem (by omega)
                have t2 : ts[j + 1]? = some (ts[j + 1]'(by omega)) := List.getElem?_eq_getElem (by omega)
                obtain ⟨tl, htl⟩ : ∃ t, t = ts[j]'(by omega) := ⟨_, rfl⟩
                obtain ⟨th, hth⟩ : ∃ t, t = ts[j + 1]'(by omega) := ⟨_, rfl⟩
                rw [← htl] at t1
                rw [← hth] at t2
                obtain ⟨ol, vl, -⟩ := HBr.out.is _ _ t1
                obtain ⟨oh, vh, -⟩ := HBr.out.is _ _ t2
                have hnt : nextT p ts j = T.mk p tl th := by
                  unfold nextT
                  rw [List.getD_eq_getElem?_getD, List.getD_eq_getElem?_getD, t1, t2]
                  rfl
                obtain ⟨g1, c1, e1, z1, -⟩ := row1 HX.out (k := j) (u := iv (pl N tl)) (by rw [List.getElem?_map, t1]; rfl) (by omega)
                obtain ⟨g2, c2, e2, z2, -⟩ := row1 HX.out (k := j + 1) (u := iv (pl N th)) (by rw [List.getElem?_map, t2]; rfl) (by omega)
                cases e1
                cases e2
                have il := HIX.out _ (List.mem_of_getElem? t1)
                have ih := HIX.out _ (List.mem_of_getElem? t2)
                simp only [iv] at z1 z2
                have HNT := Lib.hid hnt
                have hj1 : (j : Int) + 1 < (m : Int) + 1 := by omega
                have hj2 : (j : Int) < (m : Int) + 1 := by omega
                have hjb : 0 ≤ (j : Int) + 1 := by omega
                clear hnt t1 t2 htl hth hlen
                have hsk : ∀ w', Kept (fun b => (w.heap.size + 1 ≤ b ∧ b ≠ g)) wr w' → w'.cell? ⟨g, j, none⟩ = some (.int .i64 (pl N tl : Nat)) ∧ w'.cell? ⟨g, j + 1, none⟩ = some (.int .i64 (pl N th : Nat)) :=
                  fun w' h => ⟨h.cell z1 (fun e => e.2 rfl), h.cell z2 (fun e => e.2 rfl)⟩
                have HSK := Lib.hid hsk
                clear hsk
                have hwo : w.heap.size + 1 ≤ wo.heap.size ∧ wo.heap.size ≠ g := ⟨by omega, by omega⟩
                have hzz : w.heap.size + 3 ≤ wo.heap.size := hzq
                have hw1 : IntKind.i64.wrap ((j : Int) + 1) = (j : Int) + 1 := IntWalk.i64_in _ (by omega)
                have hw2 : ((j : Int) + 1).toNat = j + 1 := by omega
                go_wp2_with fail
                go_region_held3 (fun w' => w'.cell? ⟨g, j, none⟩ = some (.int .i64 (pl N tl : Nat)) ∧ w'.cell? ⟨g, j + 1, none⟩ = some (.int .i64 (pl N th : Nat)))
                  (first
                    | exact HSK.out _ (HK3.out.setCell (fun _ => hwo) _)
                    | exact HSK.out _ HK3.out
                    | exact HSK.out _ (Kept.refl _ _).drew)
                  (first
                    | (go_at_call 85; refine (node_calls gN il ih hp24 (by omega) (S := fun b => (w.heap.size + 1 ≤ b ∧ b ≠ g) ∧ b ≠ wo.heap.size) (fun b hb => by have hb' : wr.heap.size ≤ b := hb; exact ⟨⟨by omega, by omega⟩, by omega⟩) (HMk.out.near (Near.refl _).drew) rfl rfl rfl).mono ?_; rintro e w3 ⟨rfl, hm3, hk3⟩; have HM3 := Lib.hid hm3; have HKn := Lib.hid hk3; have HK3 := Lib.hid ((Kept.refl (fun b => (w.heap.size + 1 ≤ b ∧ b ≠ g)) wr).drew.trans (Kept.mono hk3 (fun _ _ h => h.1))); have hy3 := owns_kept HY.out.drew hk3 (fun b hb h => h.2 (by cases hb; rfl)); have HY3 := Lib.hid hy3; obtain ⟨gy, cy, cury, ey, hgy, hcy, -⟩ := row1' hy3 (k := j) (u := (valsN N p ts m j)[j]'(by simp [valsN]; omega)) (List.getElem?_eq_getElem (by simp [valsN]; omega)) hlt; cases ey; have y0 := cell1 (o := j) hgy hcy; have yf := free1 hgy j; clear hm3 hk3 hy3 hgy hcy))
                all_goals
                  have hrx3 := owns_kept HX.out.drew HKn.out (fun b hb h => h.1.2 (by cases hb; rfl))
                  have hfin : (w3.setCell ⟨wo.heap.size, j, none⟩ (.int .i64 (pl (add N p tl th) (T.mk p tl th) : Nat))).ownsRow wo.heap.size 3 1 (.slice (some ⟨wo.heap.size, 0, none⟩) m m) m (valsN (add N p tl th) p ts m (j + 1)) := by
                    rw [valsN_succ, valsN_add HIY.out, HNT.out]
                    exact (HY3.out.stored j _).1
                  have hrx4 : (w3.setCell ⟨wo.heap.size, j, none⟩ (.int .i64 (pl (add N p tl th) (T.mk p tl th) : Nat))).ownsRow (w.heap.size + 1) 3 1 (.slice (some ⟨g, 0, none⟩) (m + 1) xc) (m + 1) (ts.map fun t => iv (pl (add N p tl th) t)) := by
                    rw [map_add HIX.out]
                    exact ownsRow_setCell_other hrx3 (by simp only [Value.ownBlock, ne_eq, Option.some.injEq]; omega) _
                  have HFin := Lib.hid hfin
                  have HRX4 := Lib.hid hrx4
                  clear hfin hrx3 hrx4 hw1 hw2
                  go_wp2_with fail
                  have HKe := Lib.hid (HK.out.trans (Kept.setCell (p := ⟨wo.heap.size, j, none⟩) HK3.out (fun _ => hwo) (.int .i64 (pl (add N p tl th) (T.mk p tl th) : Nat))))
                  go_roundw
                  case measure => simp [intOf]; omega
                  case rel =>
                  refine ⟨j + 1, add N p tl th, by omega, by go_num, add_good gN il ih hp24 (by omega) (by omega) ol oh, ?_, ?_, HRX4.out, HFin.out, ?_, ?_, HKe.out⟩
                  · exact HM3.out.of_kept (R := fun b => b = wo.heap.size) (Kept.setCell (S := fun b => b = wo.heap.size) (p := ⟨wo.heap.size, j, none⟩) (Kept.refl _ w3) (fun _ => rfl) _) (fun b _ h => h.2)
                  · have := add_len N p tl th
                    omega
                  · intro t ht
                    obtain ⟨N', hN'⟩ := add_prefix N p tl th
                    rw [hN']
                    exact (HIX.out t ht).mono N'
                  · intro q hq
                    by_cases e : q = j
                    · subst e
                      rw [HNT.out]
                      exact add_in il
                    · obtain ⟨N', hN'⟩ := add_prefix N p tl th
                      rw [hN']
                      exact (HIY.out q (by omega)).mono N'
              · have hjm : j = m := by omega
                subst hjm
                have hbn : BRow f low high p ((List.range j).map (nextT p ts)) := by
                  have := brow_next HBr.out hp24 HBt.out
                  rw [← HMm.out] at this
                  exact this
                have hpl : Places (w.heap.size + 1) wr (w.heap.size + 1 + 1) (.slice (some ⟨wo.heap.size, 0, none⟩) j j) ((List.range j).map (nextT p ts)) N := by
                  refine ⟨gN, HMk.out.mono (fun b h => ⟨h.1.1, ?_⟩), ?_, ?_⟩
                  · have := h.2
                    simp only [Value.ownBlock, ne_eq, Option.some.injEq]
                    omega
                  · have := HY.out
                    rw [valsN_end] at this
                    have hl : ((List.range j).map (nextT p ts)).length = j := by simp
                    rw [hl]
                    exact ownsRow_low this (by omega)
                  · intro t ht
                    obtain ⟨q, hq, rfl⟩ := List.mem_map.1 ht
                    exact HIY.out q (by simpa using hq)
                have HPl2 := Lib.hid hpl
                have HBn := Lib.hid hbn
                have hnw : Near w wr := Kept.mono ((HNq.out.trans HN5.out).kept.trans HK.out) (fun b hb h => by omega)
                have HNw := Lib.hid hnw
                have HRw := Lib.hid ((HK.out.block w.heap.size (by omega) (by omega)).trans (keepN HN5.out HRq.out))
                clear hpl hbn hnw
                go_wp2_with fail
                exact ⟨⟨p, _, N, by omega, rfl, HBn.out, HPl2.out, by omega, HNw.out, HRw.out, by omega⟩, by simp [intOf]⟩

end Go.Proofs.YtefclohjeompkaaGreat
