/- Parts of a proof: RefX, RefY, SaidA, ThruA, PrimA, PrimB. -/
import Derived.Maps.OwnSet
import Derived.WalkKit
import Derived.Deep.QuietTactic
import Derived.Test.YtefclohjeompkaaGreatProg
import Derived.KernelRfl
import Derived.DeepKeys4
import Derived.Deep.RegionLaw
import Derived.StillTailTactics
import Derived.Maps.AppendAt
import Derived.WalkSpells
import Derived.WalkLawsBesides
import Derived.BigQuiet
import Derived.Lib.Hide
import Derived.Deep.DeepCutAuto
import Derived.Laws.EntriesVeiled
import Derived.Deep.RegionHeld3
import Derived.Laws.OwnMore
import Derived.Deep.Slices
import Derived.Lib.BitFns
import Derived.IntWalk
import Derived.RangeFuncNested
import Derived.RangeFuncBound
import Derived.RangeFuncCalls
import Derived.RangeFuncLeaves
import Derived.Shelf.Abstract
import Derived.Shelf.RegionOpen
import Derived.OwnWalkIn
import Derived.TacticsInMore
import Derived.LoopNIn
import Derived.LoopIn
import Derived.Laws.CopyOwn
import Derived.Laws.BitsAllLaws
import Derived.RangeFuncWrites
import Derived.Deep.Onto
import Derived.Test.YtefclohjeompkaaGreatKTreeC
import Derived.Test.YtefclohjeompkaaGreatKRep
import Derived.Test.YtefclohjeompkaaGreatKJoinD
import Derived.Test.YtefclohjeompkaaGreatKCmpA
import Derived.Test.YtefclohjeompkaaGreatKRefH
import Derived.Test.YtefclohjeompkaaGreatKOfB
import Derived.Test.YtefclohjeompkaaGreatKAlike
import Derived.Test.YtefclohjeompkaaGreatKBetA
import Derived.Test.YtefclohjeompkaaGreatKBetB
import Derived.Test.YtefclohjeompkaaGreatKLinF
import Derived.Test.YtefclohjeompkaaGreatKLinH
import Derived.Test.YtefclohjeompkaaGreatKLinJ
import Derived.Test.YtefclohjeompkaaGreatKSteps3
import Derived.Test.YtefclohjeompkaaGreatKFAll
import Derived.Test.YtefclohjeompkaaGreatKOpenA
import Derived.Test.YtefclohjeompkaaGreatKColl
import Derived.Test.YtefclohjeompkaaGreatKRefW
/- RefX: what is needed of it. -/
namespace Go.Proofs.YtefclohjeompkaaGreat
open Go Go.RowKit Go.Proofs.Gen Go.Proofs.Bdd Go.Proofs.Bdd.T
/-- Do the configurations of two indices agree off the features m? -/
def agr (V : List Nat) (m k j : Nat) : Bool := (cfg V k &&& (4294967295 - m)) == (cfg V j &&& (4294967295 - m))

theorem agr_iff {V : List Nat} (hV : Rising 0 V) {m : Nat} (hm : m < 4294967296) (k j : Nat) : agr V m k j = true ↔ ∀ i, i < 24 → m.testBit i = false → (cfg V k).testBit i = (cfg V j).testBit i := by
  have hb : ∀ i, (4294967295 - m).testBit i = (decide (i < 32) && !m.testBit i) := fun i => by
    have := Nat.testBit_two_pow_sub_succ (x := m) (n := 32) (by simpa using hm) i
    rwa [show 2 ^ 32 - (m + 1) = 4294967295 - m by omega] at this
  unfold agr
  rw [beq_iff_eq]
  constructor
  · intro h i hi h0
    have : (cfg V k &&& (4294967295 - m)).testBit i = (cfg V j &&& (4294967295 - m)).testBit i := by rw [h]
    rw [Nat.testBit_and, Nat.testBit_and, hb, h0] at this
    simpa [show i < 32 by omega] using this
  · intro h
    apply Nat.eq_of_testBit_eq
    intro i
    rw [Nat.testBit_and, Nat.testBit_and, hb]
    by_cases hi : i < 24
    · cases h0 : m.testBit i
      · rw [h i hi h0]
      · simp
    · have high : ∀ j, (cfg V j).testBit i = false := fun j => Nat.testBit_lt_two_pow (Nat.lt_of_lt_of_le (cfg_lt hV j) (by rw [show (16777216 : Nat) = 2 ^ 24 by decide]; exact Nat.pow_le_pow_right (by omega) (by omega)))
      rw [high, high]

set_option maxRecDepth 100000 in
set_option maxHeartbeats 1600000 in
theorem changed_table {w : World} {va : Value} {V : List Nat} {T0 : List Bool} (h : IsR w va V T0) (m : Nat) (hm : m < 4294967296) (every : Bool) :
    Calls Tryz.prog 67 #[va, .int .u32 m, .bool every] w fun e w' => ∃ v, e = .returned v ∧ IsR w' v V (tabTo (2 ^ V.length) (fun k => chg every (agr V m k) (fun j => T0.getD j false) (2 ^ V.length)) (2 ^ V.length)) ∧ Below w.heap.size w w' := by
  obtain ⟨T, hTT⟩ : ∃ T, T = T0 := ⟨_, rfl⟩
  rw [← hTT] at h ⊢
  clear hTT
  obtain ⟨hV, hT, sv, st, rfl, r1, r2⟩ := h
  obtain ⟨ao, cap, rfl⟩ := owns_form r1
  obtain ⟨co, ccp, rfl⟩ := owns_form r2
  have R1 := Lib.hid r1
  have R2 := Lib.hid r2
  have HV := Lib.hid hV
  have HTL := Lib.hid hT
  clear r1 r2 hV hT
  have N3 : Near w ((w.alloc (.cells #[.slice ao V.length cap, .slice co T.length ccp] 39)).alloc (.cells #[.slice none 0 0, .slice none 0 0] 39)) := ((Near.refl w).alloc _).alloc _
  have HN3 := Lib.hid N3
  have EA : ((w.alloc (.cells #[.slice ao V.length cap, .slice co T.length ccp] 39)).alloc (.cells #[.slice none 0 0, .slice none 0 0] 39)).heap[w.heap.size]? = some (.cells #[.slice ao V.length cap, .slice co T.length ccp] 39 (0, 0)) := by
    rw [heap_old_at (by simp), heap_new_at rfl]
  have EC : ((w.alloc (.cells #[.slice ao V.length cap, .slice co T.length ccp] 39)).alloc (.cells #[.slice none 0 0, .slice none 0 0] 39)).heap[w.heap.size + 1]? = some (.cells #[.slice none 0 0, .slice none 0 0] 39 (0, 0)) := heap_new_at (by simp)
  have hs3 : ((w.alloc (.cells #[.slice ao V.length cap, .slice co T.length ccp] 39)).alloc (.cells #[.slice none 0 0, .slice none 0 0] 39)).heap.size = w.heap.size + 1 + 1 := by simp
  have HEA := Lib.hid EA
  have HEC := Lib.hid EC
  have HS3 := Lib.hid hs3
  clear N3 EA EC hs3
  go_enter Tryz.func67, Tryz.ntmps67
  go_wp2_with (first
    | (go_at_call 79; refine (blank_calls HV.out (owns_kept R1.out HN3.out.kept (fun _ _ x => x))).mono ?_; rintro e w5 ⟨sn, rfl, rn, n5⟩; have RN := Lib.hid rn; clear rn; obtain ⟨no, ncp, rfl⟩ := owns_form RN.out))
  obtain ⟨tb, tcp, tcur, htv, htg, -, htb⟩ := row1' RN.out (k := 0) (u := .bool false) (by simp [Nat.two_pow_pos]) (Nat.two_pow_pos _)
  simp only [Value.slice.injEq, true_and] at htv
  obtain ⟨rfl, rfl⟩ := htv
  have htl : tb < w5.heap.size := (Array.getElem?_eq_some_iff.1 htg).1
  rw [HS3.out] at htb
  have W45 : Near w (w5.alloc (.cells #[.slice ao V.length cap, .slice (some ⟨tb, 0, none⟩) (2 ^ V.length) ncp] 39)) := (HN3.out.trans n5).alloc _
  have HWW := Lib.hid W45
  have EA4 := Lib.hid (heap_old_at (o := .cells #[.slice ao V.length cap, .slice (some ⟨tb, 0, none⟩) (2 ^ V.length) ncp] 39) (Array.getElem?_eq_some_iff.1 (keepN n5 HEA.out)).1 |>.trans (keepN n5 HEA.out))
  have EC4 := Lib.hid (heap_old_at (o := .cells #[.slice ao V.length cap, .slice (some ⟨tb, 0, none⟩) (2 ^ V.length) ncp] 39) (Array.getElem?_eq_some_iff.1 (keepN n5 HEC.out)).1 |>.trans (keepN n5 HEC.out))
  have EO : (w5.alloc (.cells #[.slice ao V.length cap, .slice (some ⟨tb, 0, none⟩) (2 ^ V.length) ncp] 39)).heap[w5.heap.size]? = some (.cells #[.slice ao V.length cap, .slice (some ⟨tb, 0, none⟩) (2 ^ V.length) ncp] 39 (0, 0)) := heap_new_at rfl
  have HEO := Lib.hid EO
  have RNW := Lib.hid (ownsRow_low (RN.out.alloc (.cells #[.slice ao V.length cap, .slice (some ⟨tb, 0, none⟩) (2 ^ V.length) ncp] 39)) (Nat.zero_le _))
  have hWs : w5.heap.size < (w5.alloc (.cells #[.slice ao V.length cap, .slice (some ⟨tb, 0, none⟩) (2 ^ V.length) ncp] 39)).heap.size := by simp
  have lV := HV.out.len
  have hw5 := n5.size'
  rw [HS3.out] at hw5
  clear W45 EO RN HEA HEC n5 htg HN3 HS3
  obtain ⟨N, hN⟩ : ∃ N, N = 2 ^ V.length := ⟨_, rfl⟩
  have hNb : N ≤ 16777216 := by
    have hp : (2 : Nat) ^ V.length ≤ 2 ^ 24 := Nat.pow_le_pow_right (by omega) (by omega)
    have e24 : (2 : Nat) ^ 24 = 16777216 := by decide
    omega
  have hTN : T.length = N := by rw [HTL.out, hN]
  rw [← hN] at hWs HWW HEO RNW EA4 EC4 ⊢
  have HNN := Lib.hid hN
  clear hN
  generalize (w5.alloc (.cells #[.slice ao V.length cap, .slice (some ⟨tb, 0, none⟩) N ncp] 39)) = W at hWs HWW HEO RNW EA4 EC4 ⊢
  rw [hTN] at R2 EA4 ⊢
  have HTN := Lib.hid hTN
  clear hTN
  have HG : ∃ g : Nat → Bool, g = fun k => chg every (agr V m k) (fun j => T.getD j false) N := ⟨_, rfl⟩
  obtain ⟨g, hg⟩ := HG
  have HG := Lib.hid hg
  clear hg
  go_loopw [8] (fun i wr => ∃ k : Nat, k ≤ N ∧ i = .int .i64 k ∧ wr.ownsRow 0 4 1 (.slice (some ⟨tb, 0, none⟩) N ncp) N ((tabTo N g k).map Value.bool) ∧ Kept (fun b => b = tb) W wr) (fun i _ => N - (intOf i).toNat)
  case atStart =>
    refine ⟨0, Nat.zero_le _, rfl, ?_, Kept.refl _ _⟩
    rw [tabTo_zero]
    exact RNW.out
  case round =>
    obtain ⟨k, hk, rfl, hown, hkp⟩ := hrel
    have z0 : Near w wr := Kept.mono ((HWW.out.kept (S := fun b => b = tb)).trans hkp) (fun b hb e => by omega)
    have xo' : wr.heap[w5.heap.size]? = some (.cells #[.slice ao V.length cap, .slice (some ⟨tb, 0, none⟩) N ncp] 39 (0, 0)) := (hkp.block _ hWs (by omega)).trans HEO.out
    have xa' : wr.heap[w.heap.size]? = some (.cells #[.slice ao V.length cap, .slice co N ccp] 39 (0, 0)) := (hkp.block _ (by omega) (by omega)).trans EA4.out
    have o0 := cell1 (o := 0) xo' rfl
    have o1 := cell1 (o := 1) xo' rfl
    have a0 := cell1 (o := 0) xa' rfl
    have a1 := cell1 (o := 1) xa' rfl
    have HOwn := Lib.hid hown
    have HXO := Lib.hid xo'
    have HXA := Lib.hid xa'
    clear xo' xa' hown
    by_cases hlt : k < N
    · have hlt' : (k : Int) < N := by omega
      obtain ⟨tcur', htk, u0, hu0⟩ : ∃ cur, wr.heap[tb]? = some (.cells cur 4 (0, 0)) ∧ ∃ u, cur[k]? = some u := by
        obtain ⟨g', c', cur, e, hg', hc', _⟩ := row1' HOwn.out (k := k) (u := .bool ((tabTo N g k)[k]'(by rw [tabTo_len]; exact hlt))) (by rw [List.getElem?_map, List.getElem?_eq_getElem (by rw [tabTo_len]; exact hlt)]; rfl) hlt
        cases e
        exact ⟨cur, hg', _, hc'⟩
      have t0 := cell1 htk hu0
      have tf := free1 htk k
      have hts : ((tabTo N g (k + 1)).map Value.bool) = ((tabTo N g k).map Value.bool).set k (.bool (g k)) := by rw [tabTo_succ, List.map_set]
      have HTS := Lib.hid hts
      have HTK := Lib.hid htk
      have HU0 := Lib.hid hu0
      clear hts htk hu0 t0 tf
      go_wp2_with (first
        | (go_at_call 37; refine (config_calls HV.out (by omega) (owns_kept R1.out z0.kept (fun _ _ x => x)) k (by omega)).mono ?_; rintro e w6 ⟨rfl, n6⟩; have HN6 := Lib.hid n6; clear n6))
      have Z6 := Lib.hid (z0.trans HN6.out)
      have HKP := Lib.hid hkp
      clear o0 o1 a0 a1 z0 hkp
      go_loopw [10, 11] (fun p j wi => ∃ q : Nat, q ≤ N ∧ j = .int .i64 q ∧ p = .bool (chg every (agr V m k) (fun j => T.getD j false) q) ∧ Near w6 wi) (fun _ j _ => N - (intOf j).toNat)
      case atStart => exact ⟨0, Nat.zero_le _, rfl, rfl, Near.refl _⟩
      case round =>
        obtain ⟨q, hq, rfl, rfl, hni⟩ := hrel
        have HNi := Lib.hid (HN6.out.trans hni)
        have HWi := Lib.hid (Z6.out.trans hni)
        have HNs := Lib.hid hni
        clear hni
        have a0 := cell1 (o := 0) (keepN HNi.out HXA.out) rfl
        have a1 := cell1 (o := 1) (keepN HNi.out HXA.out) rfl
        by_cases hqn : q < N
        · have hqn' : (q : Int) < N := by omega
          obtain ⟨tq, htq⟩ : ∃ b, b = T.getD q false := ⟨_, rfl⟩
          obtain ⟨gT, cT, curT, eT, hgT, hcT, _⟩ := row1' R2.out (k := q) (u := .bool tq) (by
            have hl : q < T.length := by rw [HTN.out]; exact hqn
            rw [List.getElem?_map, List.getElem?_eq_getElem hl, htq, List.getD_eq_getElem?_getD, List.getElem?_eq_getElem hl]
            rfl) hqn
          simp only [Value.slice.injEq, true_and] at eT
          obtain ⟨rfl, rfl⟩ := eT
          have HCT := Lib.hid (cell1 hgT hcT)
          obtain ⟨p, hp⟩ : ∃ b, b = chg every (agr V m k) (fun j => T.getD j false) q := ⟨_, rfl⟩
          obtain ⟨ag, hag⟩ : ∃ b, b = agr V m k q := ⟨_, rfl⟩
          have hnext : chg every (agr V m k) (fun j => T.getD j false) (q + 1) = if ag = true then (if every = true then p && tq else p || tq) else p := by rw [hp, hag, htq]; rfl
          have hne : (bits .andNot .u32 ((cfg V k : Nat) : Int) (m : Int) != bits .andNot .u32 ((cfg V q : Nat) : Int) (m : Int)) = !ag := by
            rw [u32_andNot_nat _ _ (by have := cfg_lt HV.out k; omega) hm, u32_andNot_nat _ _ (by have := cfg_lt HV.out q; omega) hm, hag]
            unfold agr
            rw [Bool.eq_iff_iff]
            simp only [bne_iff_ne, Bool.not_eq_true', beq_eq_false_iff_ne, ne_eq]
            omega
          rw [← hp]
          have HNext := Lib.hid hnext
          have HM := Lib.hid hm
          clear hnext hp hag htq hgT hcT hm
          cases ag <;> cases every <;> cases p <;> cases tq
          all_goals
            go_wp2_with (first
              | (go_at_call 37; refine (config_calls HV.out (by omega) (owns_kept R1.out HWi.out.kept (fun _ _ x => x)) q (by omega)).mono ?_; rintro e w8 ⟨rfl, n8⟩; have b0 := cell1 (o := 0) (keepN n8 (keepN HNi.out HXA.out)) rfl; have b1 := cell1 (o := 1) (keepN n8 (keepN HNi.out HXA.out)) rfl; have ct := (HWi.out.trans n8).cell HCT.out))
            exact ⟨⟨q + 1, hqn, by go_num, by rw [HNext.out]; rfl, HNs.out.trans n8⟩, by simp [intOf]; omega⟩
        · have hqN : q = N := by omega
          subst hqN
          have hgk : g k = chg every (agr V m k) (fun j => T.getD j false) q := by rw [HG.out]
          have p1 := cell1 (o := 1) (keepN HNi.out HXO.out) rfl
          have t0 := cell1 (keepN HNi.out HTK.out) HU0.out
          have tf := free1 (keepN HNi.out HTK.out) k
          have hend : ((fun wz : World => wz.ownsRow 0 4 1 (.slice (some ⟨tb, 0, none⟩) q ncp) q ((tabTo q g (k + 1)).map Value.bool) ∧ Kept (fun b => b = tb) W wz) (World.setCell wr ⟨tb, k, none⟩ (.bool (chg every (agr V m k) (fun j => T.getD j false) q)))) := by
            rw [← hgk, HTS.out]
            exact ⟨((owns_kept HOwn.out HNi.out.kept (fun _ _ x => x)).stored k _).1, (HKP.out.trans HNi.out.kept).setCell (fun _ => rfl) _⟩
          have HEnd := Lib.hid hend
          clear hend hgk
          go_wp2_with fail
          exact ⟨⟨k + 1, by omega, by go_num, HEnd.out.1, HEnd.out.2⟩, by simp [intOf]; omega⟩
    · have hkN : k = N := by omega
      subst hkN
      have rc := (hkp.block _ (by omega) (by omega)).trans EC4.out
      have c0 := cell1 (o := 0) rc rfl
      have c1 := cell1 (o := 1) rc rfl
      have f0 := free1 rc 0
      have f1 := free1 rc 1
      have R1r := owns_kept (R := fun _ => False) R1.out z0.kept (fun _ _ x => x)
      have ne1 := owns_ne R1r rc (by decide : (3 : Nat) ≠ 39)
      have ne2 := owns_ne HOwn.out rc (by decide : (4 : Nat) ≠ 39)
      have RX3 := Lib.hid R1r
      clear R1r
      go_wp2_with fail
      have e1 := HNN.out
      have e2 := HG.out
      refine bodyPost_ret (v := .agg #[.slice ao V.length cap, .slice (some ⟨tb, 0, none⟩) k ncp]) (by simp [results, Tryz.results67, go_sem, c0, c1]) rfl ⟨_, rfl, ?_, (((z0.below).setCell (by show w.heap.size ≤ w.heap.size + 1; omega) _).setCell (by show w.heap.size ≤ w.heap.size + 1; omega) _)⟩
      refine ⟨HV.out, by rw [tabTo_len], _, _, rfl, ownsRow_setCell_other (ownsRow_setCell_other RX3.out ne1 _) ne1 _, ?_⟩
      rw [tabTo_len, ← e1, ← e2]
      exact ownsRow_setCell_other (ownsRow_setCell_other HOwn.out ne2 _) ne2 _

end Go.Proofs.YtefclohjeompkaaGreat

/- RefY: what is needed of it. -/
namespace Go.Proofs.YtefclohjeompkaaGreat
open Go Go.RowKit Go.Proofs.Gen Go.Proofs.Bdd Go.Proofs.Bdd.T
theorem chg_congr {every : Bool} {a g g' : Nat → Bool} : ∀ n, (∀ j, j < n → g j = g' j) → chg every a g n = chg every a g' n
  | 0, _ => rfl
  | n + 1, h => by
    have ih := chg_congr (every := every) (a := a) n fun j hj => h j (by omega)
    unfold chg
    rw [ih, h n (by omega)]

theorem rchanged_f {w : World} {va : Value} {V : List Nat} {f : F} (h : IsS w va V f) {m : Nat} (hm : m < 4294967296) (every : Bool) :
    Calls Tryz.prog 67 #[va, .int .u32 m, .bool every] w (SPost w V (if every = true then faF (feats m) f else exF (feats m) f)) := by
  obtain ⟨T, hr, hf⟩ := h
  have hV := hr.rise
  have hc : ∀ c d : Nat → Bool, (∀ i ∈ V, c i = d i) → f c = f d := fun c d h => by
    rw [← hf, ← hf]
    exact rf_congr h
  refine (changed_table hr m hm every).mono ?_
  rintro e w' ⟨v, rfl, hv, hb⟩
  refine ⟨v, rfl, ⟨_, hv, fun c => ?_⟩, hb⟩
  rw [tabTo_rf, chg_congr (g' := fun j => f (cfg V j).testBit) (2 ^ V.length) fun j hj => by
    rw [← hf]
    unfold rf
    rw [idx_cfg hV hj]]
  have hag : ∀ i ∈ V, (cfg V (idx V c)).testBit i = c i := fun i hi => cfg_idx hV c hi
  cases every with
  | false =>
    rw [changed_ex hV hc m (idx V c) (agr_iff hV hm _), if_neg (by decide)]
    exact exF_V hc _ hag
  | true =>
    rw [changed_fa hV hc m (idx V c) (agr_iff hV hm _), if_pos rfl, faF_not, faF_not, exF_V (f := fun c => !f c) (fun c d h => by rw [hc c d h]) _ hag]

end Go.Proofs.YtefclohjeompkaaGreat

/- SaidA: what is needed of it. -/
namespace Go.Proofs.YtefclohjeompkaaGreat
open Go Go.RowKit Go.Proofs.Gen Go.Proofs.Bdd Go.Proofs.Bdd.T
def GPost (w : World) (f : F) (e : Ending) (w' : World) : Prop := ∃ v, e = .returned v ∧ IsG w' v f ∧ Near w w'

theorem SPost.g {w w' : World} {V : List Nat} {f g : F} {e : Ending} (h : SPost w V f e w') (hg : ∀ c, f c = g c) : GPost w g e w' := by
  obtain ⟨v, he, hs, hb⟩ := h
  have e : f = g := funext hg
  exact ⟨v, he, ⟨V, e ▸ hs⟩, Near.of_below hb⟩

theorem const_g (b : Bool) (w : World) : Calls Tryz.prog 20 #[.bool b] w (GPost w (fun _ => b)) := (const_calls b w).mono fun _ _ h => h.g fun _ => rfl

theorem cube_g {w : World} {on off : Nat} (h1 : on < 4294967296) (h2 : off < 4294967296) : Calls Tryz.prog 61 #[.int .u32 on, .int .u32 off] w (GPost w (cubeF on off)) := (rcube_f h1 h2).mono fun _ _ h => h.g fun _ => rfl

theorem not_g {w : World} {va : Value} {f : F} (ha : IsG w va f) : Calls Tryz.prog 62 #[va] w (GPost w (fun c => !f c)) := let ⟨_, h⟩ := ha; (rnot_calls h).mono fun _ _ h => h.g fun _ => rfl

theorem and_g {w : World} {va vb : Value} {f g : F} (ha : IsG w va f) (hb : IsG w vb g) : Calls Tryz.prog 63 #[va, vb] w (GPost w (fun c => f c && g c)) := let ⟨_, h⟩ := ha; let ⟨_, k⟩ := hb; (rand_calls h k).mono fun _ _ h => h.g fun _ => rfl

theorem or_g {w : World} {va vb : Value} {f g : F} (ha : IsG w va f) (hb : IsG w vb g) : Calls Tryz.prog 64 #[va, vb] w (GPost w (fun c => f c || g c)) := let ⟨_, h⟩ := ha; let ⟨_, k⟩ := hb; (ror_calls h k).mono fun _ _ h => h.g fun _ => rfl

theorem xor_g {w : World} {va vb : Value} {f g : F} (ha : IsG w va f) (hb : IsG w vb g) : Calls Tryz.prog 65 #[va, vb] w (GPost w (fun c => f c != g c)) := let ⟨_, h⟩ := ha; let ⟨_, k⟩ := hb; (rxor_calls h k).mono fun _ _ h => h.g fun _ => rfl

theorem with_g {w : World} {va : Value} {f : F} (ha : IsG w va f) (i : Int) (on : Bool) : Calls Tryz.prog 41 #[va, .int .i64 i, .bool on] w (GPost w (fun c => f (updI c i on))) := let ⟨_, h⟩ := ha; (rwith_f h i on).mono fun _ _ h => h.g fun _ => rfl

theorem exists_g {w : World} {va : Value} {f : F} (ha : IsG w va f) {m : Nat} (hm : m < 4294967296) : Calls Tryz.prog 67 #[va, .int .u32 m, .bool false] w (GPost w (exF (feats m) f)) := let ⟨_, h⟩ := ha; (rchanged_f h hm false).mono fun _ _ h => h.g fun _ => rfl

theorem forall_g {w : World} {va : Value} {f : F} (ha : IsG w va f) {m : Nat} (hm : m < 4294967296) : Calls Tryz.prog 67 #[va, .int .u32 m, .bool true] w (GPost w (faF (feats m) f)) := let ⟨_, h⟩ := ha; (rchanged_f h hm true).mono fun _ _ h => h.g fun _ => rfl

theorem between_g {f : Nat} (hf : f < 4294967296) (low high : Int) (w : World) : Calls Tryz.prog 68 #[.int .u32 f, .int .i64 low, .int .i64 high] w (GPost w (betF f low high)) := (rbet_f hf low high).mono fun _ _ h => h.g fun _ => rfl

theorem ite_g {w : World} {va vb vc : Value} {f g k : F} (ha : IsG w va f) (hb : IsG w vb g) (hc : IsG w vc k) : Calls Tryz.prog 66 #[va, vb, vc] w (GPost w (fun c => if f c then g c else k c)) := let ⟨_, h1⟩ := ha; let ⟨_, h2⟩ := hb; let ⟨_, h3⟩ := hc; (rite_calls h1 h2 h3).mono fun _ _ h => h.g fun _ => rfl

theorem linear_g {w : World} {v : Value} {l : List Int} {rel : Nat} {bound : Int} (h : RdInts w v l) (hl : l.length ≤ 1000) : Calls Tryz.prog 69 #[v, .int .u8 rel, .int .i64 bound] w fun e w' =>
    ∃ u, e = .returned (.tuple #[u, .int .i64 (if LinOk l rel then 0 else 2)]) ∧ IsG w' u (if LinOk l rel then linF l rel bound else fun _ => false) ∧ Near w w' :=
  (rlinear_f h hl).mono fun _ _ ⟨u, h1, h2, h3⟩ => ⟨u, h1, ⟨_, h2⟩, h3⟩

end Go.Proofs.YtefclohjeompkaaGreat

/- ThruA: what is needed of it. -/
namespace Go.Proofs.YtefclohjeompkaaGreat
open Go Go.RowKit Go.Proofs.Gen Go.Proofs.Bdd Go.Proofs.Bdd.T
open Classical in
/-- Does a function hold everywhere? -/
noncomputable def everyF (f : F) : Bool := decide (∀ c, f c = true)

theorem rempty_g {w : World} {v : Value} {f : F} {b : Bool} (h : IsG w v f) (hb : nowhere f = b) : Calls Tryz.prog 77 #[v] w fun e w' => e = .returned (.bool b) ∧ Near w w' := by
  subst hb
  obtain ⟨V, h⟩ := h
  exact rempty_calls h

end Go.Proofs.YtefclohjeompkaaGreat

/- PrimA: what is needed of it. -/
namespace Go.Proofs.YtefclohjeompkaaGreat
open Go Go.RowKit Go.Proofs.Gen Go.Proofs.Bdd Go.Proofs.Bdd.T
/-- A digit of a number in base 3. -/
def dig (k j : Nat) : Nat := k / 3 ^ j % 3

/-- What a cube's highest digit makes of a set. -/
def digF (f : F) (i d : Nat) : F := if d = 0 then fun c => f (updI c i false) && f (updI c i true) else if d = 1 then fun c => f (updI c i false) else fun c => f (updI c i true)

/-- Does the cube with a number lie in a set? Of the first m features. -/
noncomputable def inK (V : List Nat) : Nat → F → Nat → Bool
  | 0, f, _ => everyF f
  | m + 1, f, k => inK V m (digF f (V.getD m 0) (k / 3 ^ m)) (k % 3 ^ m)

/-- The answers for all cubes. -/
noncomputable def inL (V : List Nat) (m : Nat) (f : F) : List Bool := (List.range (3 ^ m)).map (inK V m f)

theorem inL_len (V : List Nat) (m : Nat) (f : F) : (inL V m f).length = 3 ^ m := by simp [inL]

theorem inL_succ (V : List Nat) (m : Nat) (f : F) : inL V (m + 1) f = inL V m (digF f (V.getD m 0) 0) ++ inL V m (digF f (V.getD m 0) 1) ++ inL V m (digF f (V.getD m 0) 2) := by
  have hp : 0 < 3 ^ m := Nat.pow_pos (by omega)
  have e : 3 ^ (m + 1) = 3 ^ m + 3 ^ m + 3 ^ m := by rw [Nat.pow_succ]; omega
  unfold inL
  rw [e, List.range_add, List.range_add, List.map_append, List.map_append, List.map_map, List.map_map]
  congr 1
  · congr 1
    · refine List.map_congr_left fun k hk => ?_
      have hlt := List.mem_range.1 hk
      show inK V m (digF f (V.getD m 0) (k / 3 ^ m)) (k % 3 ^ m) = _
      rw [Nat.div_eq_of_lt hlt, Nat.mod_eq_of_lt hlt]
    · refine List.map_congr_left fun k hk => ?_
      have hlt := List.mem_range.1 hk
      show inK V m (digF f (V.getD m 0) ((3 ^ m + k) / 3 ^ m)) ((3 ^ m + k) % 3 ^ m) = _
      rw [Nat.add_div_left _ hp, Nat.div_eq_of_lt hlt, Nat.add_mod_left, Nat.mod_eq_of_lt hlt]
  · refine List.map_congr_left fun k hk => ?_
    have hlt := List.mem_range.1 hk
    show inK V m (digF f (V.getD m 0) ((3 ^ m + 3 ^ m + k) / 3 ^ m)) ((3 ^ m + 3 ^ m + k) % 3 ^ m) = _
    rw [Nat.add_assoc, Nat.add_div_left _ hp, Nat.add_div_left _ hp, Nat.div_eq_of_lt hlt, Nat.add_mod_left, Nat.add_mod_left, Nat.mod_eq_of_lt hlt]

open Classical in
theorem everyF_iff {f : F} : everyF f = true ↔ ∀ c, f c = true := by
  unfold everyF
  exact decide_eq_true_iff

theorem digF_const {f : F} {b : Bool} (h : ∀ c, f c = b) (i d : Nat) : ∀ c, digF f i d c = b := by
  intro c
  unfold digF
  split
  · show (f _ && f _) = b
    rw [h, h, Bool.and_self]
  · split
    · exact h _
    · exact h _

theorem inK_const (V : List Nat) {b : Bool} : ∀ (m : Nat) {f : F} (_ : ∀ c, f c = b) (k : Nat), inK V m f k = b
  | 0, f, h, k => by
    show everyF f = b
    cases b with
    | true => exact everyF_iff.2 h
    | false =>
      refine Bool.eq_false_iff.2 fun he => ?_
      have := everyF_iff.1 he fun _ => false
      rw [h] at this
      cases this
  | m + 1, f, h, k => inK_const V m (digF_const h _ _) _

theorem inL_const (V : List Nat) {b : Bool} (m : Nat) {f : F} (h : ∀ c, f c = b) : inL V m f = List.replicate (3 ^ m) b := by
  unfold inL
  refine List.eq_replicate_iff.2 ⟨by simp, fun x hx => ?_⟩
  obtain ⟨k, _, rfl⟩ := List.mem_map.1 hx
  exact inK_const V m h k

/-- A function of the first m features of a list alone. -/
def OnV (V : List Nat) (m : Nat) (f : F) : Prop := ∀ c d : Nat → Bool, (∀ j, j < m → c (V.getD j 0) = d (V.getD j 0)) → f c = f d

theorem OnV.zero {V : List Nat} {f : F} (h : OnV V 0 f) : ∃ b, ∀ c, f c = b := ⟨f fun _ => false, fun c => h c _ fun j hj => by omega⟩

theorem OnV.fix {V : List Nat} {m : Nat} {f : F} (h : OnV V (m + 1) f) (b : Bool) : OnV V m (fun c => f (updI c (V.getD m 0) b)) := fun c d hcd => by
  refine h _ _ fun j hj => ?_
  rw [updI_upd, updI_upd]
  unfold upd
  by_cases e : V.getD j 0 = V.getD m 0
  · rw [if_pos e, if_pos e]
  · rw [if_neg e, if_neg e]
    exact hcd j (by
      rcases Nat.lt_or_ge j m with hl | hl
      · exact hl
      · exact absurd (congrArg (fun q => V.getD q 0) (show j = m by omega)) e)

theorem OnV.dig {V : List Nat} {m : Nat} {f : F} (h : OnV V (m + 1) f) (d : Nat) : OnV V m (digF f (V.getD m 0) d) := by
  unfold digF
  split
  · intro c e hce
    show (f _ && f _) = (f _ && f _)
    have h1 := h.fix false c e hce
    have h2 := h.fix true c e hce
    simp only at h1 h2
    rw [h1, h2]
  · split
    · exact h.fix false
    · exact h.fix true

/-- A configuration that a cube holds. -/
def mtK (V : List Nat) (m k : Nat) (c : Nat → Bool) : Prop := ∀ j, j < m → (dig k j = 1 → c (V.getD j 0) = false) ∧ (dig k j = 2 → c (V.getD j 0) = true)

theorem dig_low {k m j : Nat} (hj : j < m) : dig (k % 3 ^ m) j = dig k j := by
  unfold dig
  have e : m = j + 1 + (m - (j + 1)) := by omega
  rw [e, Nat.pow_add, Nat.pow_succ, Nat.mul_assoc, Nat.mod_mul_right_div_self, Nat.mod_mul_right_mod]

theorem dig_top {k m : Nat} (hk : k < 3 ^ (m + 1)) : dig k m = k / 3 ^ m := by
  unfold dig
  refine Nat.mod_eq_of_lt ?_
  rw [Nat.pow_succ] at hk
  exact Nat.div_lt_of_lt_mul hk

theorem inK_iff {V : List Nat} (hd : ∀ i j, i < V.length → j < V.length → V.getD i 0 = V.getD j 0 → i = j) : ∀ (m : Nat), m ≤ V.length → ∀ (f : F) (k : Nat), k < 3 ^ m → (inK V m f k = true ↔ ∀ c, mtK V m k c → f c = true)
  | 0, _, f, k, _ => by
    show everyF f = true ↔ _
    rw [everyF_iff]
    exact ⟨fun h c _ => h c, fun h c => h c fun j hj => by omega⟩
  | m + 1, hm, f, k, hk => by
    have hp : 0 < 3 ^ m := Nat.pow_pos (by omega)
    have ih := inK_iff hd m (by omega) (digF f (V.getD m 0) (k / 3 ^ m)) (k % 3 ^ m) (Nat.mod_lt _ hp)
    show inK V m (digF f (V.getD m 0) (k / 3 ^ m)) (k % 3 ^ m) = true ↔ _
    rw [ih]
    have htop := dig_top hk
    have hlow : ∀ c, mtK V m (k % 3 ^ m) c ↔ mtK V m k c := fun c => by
      unfold mtK
      refine forall_congr' fun j => forall_congr' fun hj => ?_
      rw [dig_low hj]
    have hup : ∀ c b, mtK V m k (updI c (V.getD m 0) b) ↔ mtK V m k c := fun c b => by
      unfold mtK
      refine forall_congr' fun j => forall_congr' fun hj => ?_
      have hne : V.getD j 0 ≠ V.getD m 0 := fun e => by
        have := hd j m (by omega) (by omega) e
        omega
      rw [updI_upd, upd, if_neg hne]
    have hself : ∀ c : Nat → Bool, updI c (V.getD m 0) (c (V.getD m 0)) = c := fun c => by
      rw [updI_upd]
      funext i
      unfold upd
      split
      · rename_i e; rw [e]
      · rfl
    have hat : ∀ (c : Nat → Bool) b, updI c (V.getD m 0) b (V.getD m 0) = b := fun c b => by rw [updI_upd, upd, if_pos rfl]
    have h3 : k / 3 ^ m < 3 := by rw [Nat.pow_succ] at hk; exact Nat.div_lt_of_lt_mul hk
    have hsplit : ∀ c, mtK V (m + 1) k c ↔ mtK V m k c ∧ (dig k m = 1 → c (V.getD m 0) = false) ∧ (dig k m = 2 → c (V.getD m 0) = true) := fun c =>
      ⟨fun h => ⟨fun j hj => h j (by omega), h m (by omega)⟩, fun h j hj => by
        rcases Nat.lt_or_ge j m with hl | hl
        · exact h.1 j hl
        · rw [show j = m by omega]; exact h.2⟩
    constructor
    · intro h c hc
      obtain ⟨h1, h2, h4⟩ := (hsplit c).1 hc
      have hh := h c ((hlow c).2 h1)
      rw [htop] at h2 h4
      unfold digF at hh
      by_cases e0 : k / 3 ^ m = 0
      · rw [if_pos e0, Bool.and_eq_true] at hh
        rw [← hself c]
        cases c (V.getD m 0)
        · exact hh.1
        · exact hh.2
      · by_cases e1 : k / 3 ^ m = 1
        · rw [if_neg e0, if_pos e1] at hh
          rw [← hself c, h2 e1]
          exact hh
        · rw [if_neg e0, if_neg e1] at hh
          rw [← hself c, h4 (by omega)]
          exact hh
    · intro h c hc
      have hc' := (hlow c).1 hc
      have go : ∀ b, (dig k m = 1 → b = false) → (dig k m = 2 → b = true) → f (updI c (V.getD m 0) b) = true := fun b b1 b2 =>
        h _ ((hsplit _).2 ⟨(hup c b).2 hc', fun e => by rw [hat]; exact b1 e, fun e => by rw [hat]; exact b2 e⟩)
      rw [htop] at go
      unfold digF
      by_cases e0 : k / 3 ^ m = 0
      · rw [if_pos e0, Bool.and_eq_true]
        exact ⟨go false (fun _ => rfl) (fun e => by omega), go true (fun e => by omega) (fun _ => rfl)⟩
      · by_cases e1 : k / 3 ^ m = 1
        · rw [if_neg e0, if_pos e1]
          exact go false (fun _ => rfl) (fun e => by omega)
        · rw [if_neg e0, if_neg e1]
          exact go true (fun e => absurd e e1) (fun _ => rfl)

end Go.Proofs.YtefclohjeompkaaGreat

/- PrimB: what is needed of it. -/
namespace Go.Proofs.YtefclohjeompkaaGreat
open Go Go.RowKit Go.Proofs.Gen Go.Proofs.Bdd Go.Proofs.Bdd.T
def bv (b : Bool) : Value := .bool b

/-- The answers so far: the box B, and a row of one's own from the block 'base' on. -/
def BI (B base : Nat) (L : List Bool) (w : World) : Prop :=
  ∃ ao cap, w.heap[B]? = some (.cells #[.slice ao L.length cap] 37 (0, 0)) ∧ w.ownsRow base 4 1 (.slice ao L.length cap) L.length (L.map bv)

/-- What telling may change: the box, and rows of answers from 'base' on. -/
def KB (B base : Nat) (w w' : World) : Prop := Kept (fun b => b = B ∨ (base ≤ b ∧ ∃ cur fr, w.heap[b]? = some (.cells cur 4 fr))) w w'

theorem BI.lt {B base : Nat} {L : List Bool} {w : World} (h : BI B base L w) : B < w.heap.size := by
  obtain ⟨ao, cap, h1, -⟩ := h
  exact (Array.getElem?_eq_some_iff.1 h1).1

theorem Near.kb {B base : Nat} {w w' : World} (h : Near w w') : KB B base w w' := h.kept

theorem KB.trans {B base : Nat} {a b c : World} (h : KB B base a b) (k : KB B base b c) : KB B base a c := by
  refine ⟨k.os.trans h.os, k.tape.trans h.tape, k.output.trans h.output, Nat.le_trans h.size k.size, fun x hx hs => ?_⟩
  have h1 := h.block x hx hs
  refine (k.block x (Nat.lt_of_lt_of_le hx h.size) fun hs' => hs ?_).trans h1
  rcases hs' with e | ⟨h2, cur, fr, h3⟩
  · exact .inl e
  · exact .inr ⟨h2, cur, fr, h1.symm.trans h3⟩

theorem KB.block' {B base : Nat} {w w' : World} (h : KB B base w w') {b : Nat} {o : Obj} (hb : w.heap[b]? = some o) (hne : b ≠ B) (ho : ∀ cur fr, o ≠ .cells cur 4 fr) : w'.heap[b]? = some o := by
  refine (h.block b (Array.getElem?_eq_some_iff.1 hb).1 ?_).trans hb
  rintro (e | ⟨_, cur, fr, h3⟩)
  · exact hne e
  · rw [hb] at h3
    cases h3
    exact ho _ _ rfl

theorem KB.near {B base : Nat} {w0 w w' : World} (h : KB B base w w') (hn : Near w0 w) (hB : w0.heap.size ≤ B) (hb : w0.heap.size ≤ base) : Near w0 w' :=
  Kept.mono (hn.kept.trans (Kept.mono h fun b _ hs => (show B ≤ b ∨ base ≤ b from by rcases hs with e | ⟨h2, _⟩ <;> omega))) fun b hlt hs => by rcases hs with e | e <;> omega

theorem BI.near {B base : Nat} {L : List Bool} {w w' : World} (h : BI B base L w) (hn : Near w w') : BI B base L w' := by
  obtain ⟨ao, cap, h1, h2⟩ := h
  exact ⟨ao, cap, keepN hn h1, owns_kept h2 hn (R := fun _ => False) (fun _ _ x => x)⟩

theorem IsF.kb {B base : Nat} {w w' : World} {v : Value} {f : F} {L : List Bool} (h : IsF w v f) (hB : BI B base L w) (hk : KB B base w w') : IsF w' v f := by
  obtain ⟨t, ⟨ok, sv, rfl, hrow⟩, he⟩ := h
  refine ⟨t, ⟨ok, sv, rfl, owns_kept (R := fun b => b = B ∨ (base ≤ b ∧ ∃ cur fr, w.heap[b]? = some (.cells cur 4 fr))) hrow hk (fun k hk' hrk => ?_)⟩, he⟩
  obtain ⟨_, cur, fr, hc⟩ := own_blockP hrow hk'
  obtain ⟨ao, cap, h1, -⟩ := hB
  rcases hrk with e | ⟨_, cur', fr', h3⟩
  · rw [e, h1] at hc
    cases hc
  · rw [hc] at h3
    cases h3

/-- A row of features, as it is read. -/
def RdV (w : World) (fo : Option Addr) (V : List Nat) : Prop := ∀ j, j < V.length → ∃ g, fo = some ⟨g, 0, none⟩ ∧ w.cell? ⟨g, j, none⟩ = some (.int .i64 (V.getD j 0 : Nat)) ∧ ∃ cur fr, w.heap[g]? = some (.cells cur 3 fr)

theorem RdV.near {w w' : World} {fo : Option Addr} {V : List Nat} (h : RdV w fo V) (hn : Near w w') : RdV w' fo V := fun j hj => by
  obtain ⟨g, h1, h2, cur, fr, h3⟩ := h j hj
  refine ⟨g, h1, hn.cell h2, cur, fr, ?_⟩
  exact (hn.block g (Array.getElem?_eq_some_iff.1 h3).1 id).trans h3

theorem RdV.kb {B base : Nat} {L : List Bool} {w w' : World} {fo : Option Addr} {V : List Nat} (h : RdV w fo V) (hB : BI B base L w) (hk : KB B base w w') : RdV w' fo V := fun j hj => by
  obtain ⟨g, h1, h2, cur, fr, h3⟩ := h j hj
  have hgB : g ≠ B := by
    rintro rfl
    obtain ⟨ao, cap', h4, -⟩ := hB
    rw [h4] at h3
    cases h3
  have h3' := hk.block' h3 hgB (fun c r e => by cases e)
  exact ⟨g, h1, (World.cell?_of_block (h3'.trans h3.symm)).trans h2, cur, fr, h3'⟩

set_option maxRecDepth 100000 in
set_option maxHeartbeats 1600000 in
/-- The closure that is told: one answer more. -/
theorem tell_calls {B base : Nat} {L : List Bool} {w : World} (h : BI B base L w) (hbs : base ≤ w.heap.size) (hl : L.length < 1099511627776) (b : Bool) :
    Calls Tryz.prog 28 #[.bool b, .pointer (some ⟨B, 0, none⟩)] w fun e w' => e = .returned (.tuple #[]) ∧ BI B base (L ++ [b]) w' ∧ KB B base w w' := by
  obtain ⟨i0, hi0, hz0, hz1, hz2⟩ := info_parts info4
  obtain ⟨ao, cap, h1, h2⟩ := h
  have H1 := Lib.hid h1
  have H2 := Lib.hid h2
  have c0 : w.cell? ⟨B, 0, none⟩ = some (.slice ao L.length cap) := cell1 (o := 0) h1 rfl
  have hlt := (Array.getElem?_eq_some_iff.1 h1).1
  clear h1 h2
  have hne : ∀ k, (Value.slice ao L.length cap).ownBlock = some k → k ≠ B := fun k hk e => by
    obtain ⟨_, cur, fr, hc⟩ := own_blockP H2.out hk
    rw [e, H1.out] at hc
    cases hc
  have HNe := Lib.hid hne
  clear hne
  go_enter Tryz.func28, Tryz.ntmps28
  go_wp2_with (at_builtin; refine wpList_append_in rfl (.tmp 3) (.tmp 5) 37 rfl base 4 i0 (.bool false) 1 1 Tryz.underlying37 hi0 hz0 hz1 hz2 rfl (by decide) _ _ _ rfl (by exact H2.out.alloc _) ⟨w.heap.size, 0, none⟩ 1 1 [.bool b] rfl rfl (by exact cell_one_at rfl _ _) (by simp [Value.oneCell']) (by unfold maxLen; omega) (by omega) (by simp <;> omega) ?_; intro ao3 cap3 w3 hown3 hg3 hl3; have HB3 := Lib.hid (show w3.heap[B]? = some (.cells #[.slice ao L.length cap] 37 (0, 0)) from (hg3.block B (by simp; omega) (fun e => HNe.out B e.symm rfl)).trans ((heap_old_at hlt).trans H1.out)); have d0 := cell1 (o := 0) HB3.out rfl; have df := free1 HB3.out)
  go_end0
  refine ⟨rfl, ⟨ao3, cap3, ?_, ?_⟩, ?_⟩
  · have := setCell_heap HB3.out 0 (.slice ao3 (L.length + 1) cap3)
    simpa using this
  · rw [List.length_append, List.map_append]
    refine owns_kept hown3 (Kept.setCell (S := fun b => b = B) (Kept.refl _ w3) (p := ⟨B, 0, none⟩) (fun _ => rfl) _) (R := fun b => b = B) (fun k hk hrk => ?_)
    obtain ⟨_, cur, fr, hc⟩ := own_blockP hown3 hk
    rw [show k = B from hrk, HB3.out] at hc
    cases hc
  · refine Kept.setCell ((((Kept.refl _ w).alloc _)).grown hg3 (fun k hk _ => ?_)) (p := ⟨B, 0, none⟩) (fun _ => .inl rfl) _
    obtain ⟨h3, cur, fr, hc⟩ := own_blockP H2.out hk
    exact .inr ⟨h3, cur, fr, hc⟩

end Go.Proofs.YtefclohjeompkaaGreat
