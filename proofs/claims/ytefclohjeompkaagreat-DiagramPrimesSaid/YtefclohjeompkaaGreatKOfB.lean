/- Parts of a proof: RefI, RefJ, RefK, RefL, RefM, RefN, Below, RefO, OfA, OfB. -/
import Derived.Maps.OwnSet
import Derived.WalkKit
import Derived.Deep.QuietTactic
import Derived.Test.YtefclohjeompkaaGreatProg
import Derived.KernelRfl
import Derived.DeepKeys4
import Derived.Deep.RegionLaw
import Derived.StillTailTactics
import Derived.Maps.AppendAt
import Derived.WalkSpells
import Derived.WalkLawsBesides
import Derived.BigQuiet
import Derived.Lib.Hide
import Derived.Deep.DeepCutAuto
import Derived.Laws.EntriesVeiled
import Derived.Deep.RegionHeld3
import Derived.Laws.OwnMore
import Derived.Deep.Slices
import Derived.Test.YtefclohjeompkaaGreatKTreeC
import Derived.Test.YtefclohjeompkaaGreatKRep
import Derived.Test.YtefclohjeompkaaGreatKJoinD
import Derived.Test.YtefclohjeompkaaGreatKCmpA
import Derived.Test.YtefclohjeompkaaGreatKRefH
/- RefI: what is needed of it. -/
namespace Go.Proofs.YtefclohjeompkaaGreat
open Go Go.RowKit Go.Proofs.Gen Go.Proofs.Bdd Go.Proofs.Bdd.T
set_option maxRecDepth 100000 in
set_option maxHeartbeats 800000 in
theorem const_calls (b : Bool) (w : World) : Calls Tryz.prog 20 #[.bool b] w (SPost w [] (fun _ => b)) := by
  go_enter Tryz.func20, Tryz.ntmps20
  go_wp2_with fail
  refine bodyPost_ret (v := .agg #[.slice none 0 0, .slice (some ⟨w.heap.size + 1, 0, none⟩) 1 1]) (by simp [results, Tryz.results20, go_sem]) rfl ⟨_, rfl, ⟨[b], ⟨Nat.zero_le _, rfl, _, _, rfl, World.ownsRow_nil _ _ _ _, ?_⟩, fun c => rfl⟩, (((Near.refl w).alloc _).alloc _).below⟩
  exact ⟨rfl, .inr ⟨w.heap.size + 1, 1, #[.bool b], rfl, Nat.zero_le _, heap_new_at (by simp), Nat.le_refl _, by unfold maxLen; omega, rfl, rfl⟩⟩

/-- How many cells of a table are true. -/
def trues (T : List Bool) : Nat := T.countP id

set_option maxRecDepth 100000 in
set_option maxHeartbeats 800000 in
theorem many_calls {w : World} {v : Value} {V : List Nat} {T : List Bool} (h : IsR w v V T) : Calls Tryz.prog 104 #[v] w fun e w' => e = .returned (.int .i64 (trues T)) ∧ Near w w' := by
  obtain ⟨hV, hT, sv, st, rfl, r1, r2⟩ := h
  obtain ⟨ao, cap, rfl⟩ := owns_form r1
  obtain ⟨bo, cbp, rfl⟩ := owns_form r2
  have HT := Lib.hid r2
  have hl := hV.len
  have hp : (2 : Nat) ^ V.length ≤ 2 ^ 24 := Nat.pow_le_pow_right (by omega) (by omega)
  have e24 : (2 : Nat) ^ 24 = 16777216 := by decide
  rw [e24] at hp
  have hTb : T.length ≤ 16777216 := by omega
  clear hT e24 hp r1 r2
  obtain ⟨n, hn⟩ : ∃ n, n = V.length := ⟨_, rfl⟩
  rw [← hn]
  clear hn
  have a1 : (w.alloc (.cells #[.slice ao n cap, .slice bo T.length cbp] 39)).cell? ⟨w.heap.size, 1, none⟩ = some (.slice bo T.length cbp) := by simp
  have hN : Near w (w.alloc (.cells #[.slice ao n cap, .slice bo T.length cbp] 39)) := (Near.refl w).alloc _
  go_enter Tryz.func104, Tryz.ntmps104
  go_wp2_with fail
  generalize (w.alloc (.cells #[.slice ao n cap, .slice bo T.length cbp] 39)) = W at a1 hN ⊢
  have A1 := Lib.hid a1
  clear a1
  go_loopw [3, 4] (fun m i wr => ∃ k : Nat, k ≤ T.length ∧ i = .int .i64 k ∧ m = .int .i64 (trues (T.take k)) ∧ Near W wr) (fun _ i _ => T.length - (intOf i).toNat)
  case atStart => exact ⟨0, Nat.zero_le _, rfl, rfl, Near.refl _⟩
  case round =>
    obtain ⟨k, hk, rfl, rfl, hw⟩ := hrel
    have b1 := hw.cell A1.out
    have hx : trues (T.take k) ≤ k := Nat.le_trans List.countP_le_length (by simp; omega)
    by_cases hlt : k < T.length
    · have hlt' : (k : Int) < T.length := by omega
      obtain ⟨g, cap', hv, x0, hg⟩ := row1 HT.out (k := k) (u := .bool T[k]) (by simp [hlt]) hlt
      simp only [Value.slice.injEq, true_and] at hv
      obtain ⟨rfl, rfl⟩ := hv
      have y0 := hw.cell (hN.cell x0)
      have hs : trues (T.take (k + 1)) = trues (T.take k) + if T[k] = true then 1 else 0 := by
        rw [List.take_succ_eq_append_getElem hlt, trues, trues, List.countP_append]
        simp [List.countP_cons]
      obtain ⟨z, hz⟩ : ∃ z, z = trues (T.take k) := ⟨_, rfl⟩
      obtain ⟨y, hy⟩ : ∃ y, y = T[k] := ⟨_, rfl⟩
      rw [← hz, ← hy] at hs
      rw [← hz] at hx ⊢
      rw [← hy] at y0
      have HS := Lib.hid hs
      clear x0 hs hz hy
      cases y
      all_goals
        go_wp2_with fail
        exact ⟨⟨k + 1, by omega, by go_num, by rw [HS.out]; simp, hw⟩, by simp [intOf]; omega⟩
    · have hkl : k = T.length := by omega
      subst hkl
      rw [List.take_length]
      go_wp2_with fail
      exact bodyPost_ret (v := .int .i64 (trues T)) (by simp [results, Tryz.results104, go_sem]) rfl ⟨rfl, hN.trans hw⟩

theorem trues_zero {V : List Nat} {T : List Bool} (hV : Rising 0 V) (hT : T.length = 2 ^ V.length) : trues T = 0 ↔ ∀ c, rf V T c = false := by
  rw [trues, List.countP_eq_zero]
  constructor
  · intro h c
    have hx := idx_lt c V
    rw [rf, List.getD_eq_getElem?_getD, List.getElem?_eq_getElem (by omega)]
    simpa using h _ (List.getElem_mem (by omega))
  · intro h b hb
    obtain ⟨k, hk, rfl⟩ := List.getElem_of_mem hb
    have := h (cfg V k).testBit
    rw [rf, idx_cfg hV (by omega), List.getD_eq_getElem?_getD, List.getElem?_eq_getElem hk] at this
    simpa using this

open Classical in
/-- Does a function hold nowhere? -/
noncomputable def nowhere (f : (Nat → Bool) → Bool) : Bool := decide (∀ c, f c = false)

set_option maxRecDepth 100000 in
set_option maxHeartbeats 800000 in
theorem rempty_calls {w : World} {v : Value} {V : List Nat} {f : (Nat → Bool) → Bool} (h : IsS w v V f) : Calls Tryz.prog 77 #[v] w fun e w' => e = .returned (.bool (nowhere f)) ∧ Near w w' := by
  obtain ⟨ao, n, cap, bo, m, cbp, rfl⟩ := h.form
  obtain ⟨T, hT, hf⟩ := h
  have ht := trues_zero hT.rise hT.len
  have hq : (((trues T : Nat) : Int) == 0) = nowhere f := by
    rw [nowhere, Bool.eq_iff_iff]
    simp only [beq_iff_eq, decide_eq_true_eq, ← hf, ← ht]
    omega
  have HQ := Lib.hid hq
  have HT := Lib.hid hT
  have hN : Near w (w.alloc (.cells #[.slice ao n cap, .slice bo m cbp] 39)) := (Near.refl w).alloc _
  clear hq ht hf hT
  go_enter Tryz.func77, Tryz.ntmps77
  go_wp2_with (first
    | (go_at_call 104; refine (many_calls (HT.out.near hN)).mono ?_; rintro e w1 ⟨rfl, n1⟩))
  rw [HQ.out]
  exact bodyPost_ret (v := .bool (nowhere f)) (by simp [results, Tryz.results77, go_sem]) rfl ⟨rfl, hN.trans n1⟩

open Classical in
/-- Are two functions the same? -/
noncomputable def sameF (f g : (Nat → Bool) → Bool) : Bool := decide (∀ c, f c = g c)

set_option maxRecDepth 100000 in
set_option maxHeartbeats 800000 in
theorem rsame_calls {w : World} {va vb : Value} {V V' : List Nat} {f f' : (Nat → Bool) → Bool} (ha : IsS w va V f) (hb : IsS w vb V' f') : Calls Tryz.prog 40 #[va, vb] w fun e w' => e = .returned (.bool (sameF f f')) ∧ Near w w' := by
  obtain ⟨ao, n, cap, bo, m, cbp, rfl⟩ := ha.form
  obtain ⟨ao', n', cap', bo', m', cbp', rfl⟩ := hb.form
  have hq : nowhere (fun c => jop 2 (f c) (f' c)) = sameF f f' := by
    rw [nowhere, sameF, decide_eq_decide]
    refine ⟨fun h c => ?_, fun h c => ?_⟩
    · have := h c
      simpa [jop] using this
    · rw [h c]; simp [jop]
  have HQ := Lib.hid hq
  have HA := Lib.hid ha
  have HB := Lib.hid hb
  have hN : Near w ((w.alloc (.cells #[.slice ao n cap, .slice bo m cbp] 39)).alloc (.cells #[.slice ao' n' cap', .slice bo' m' cbp'] 39)) := ((Near.refl w).alloc _).alloc _
  clear hq ha hb
  go_enter Tryz.func40, Tryz.ntmps40
  go_wp2_with (first
    | (go_at_call 65; refine (rxor_calls (HA.out.near hN) (HB.out.near hN)).mono ?_; rintro e w1 ⟨v, rfl, h1, b1⟩)
    | (go_at_call 77; refine (rempty_calls h1).mono ?_; rintro e w2 ⟨rfl, n2⟩))
  rw [HQ.out]
  exact bodyPost_ret (v := .bool (sameF f f')) (by simp [results, Tryz.results40, go_sem]) rfl ⟨rfl, (hN.trans (Near.of_below b1)).trans n2⟩

end Go.Proofs.YtefclohjeompkaaGreat

/- RefJ: what is needed of it. -/
namespace Go.Proofs.YtefclohjeompkaaGreat
open Go Go.RowKit Go.Proofs.Gen Go.Proofs.Bdd Go.Proofs.Bdd.T
set_option maxRecDepth 100000 in
set_option maxHeartbeats 1600000 in
theorem rnot_calls {w : World} {va : Value} {V : List Nat} {f : (Nat → Bool) → Bool} (h : IsS w va V f) :
    Calls Tryz.prog 62 #[va] w (SPost w V (fun c => !(f c))) := by
  obtain ⟨T, ⟨hV, hT, sv, st, rfl, r1, r2⟩, hf⟩ := h
  obtain ⟨ao, cap, rfl⟩ := owns_form r1
  obtain ⟨co, ccp, rfl⟩ := owns_form r2
  have R1 := Lib.hid r1
  have R2 := Lib.hid r2
  have HV := Lib.hid hV
  have HF := Lib.hid hf
  have HTL := Lib.hid hT
  clear r1 r2 hV hf hT
  have N3 : Near w ((w.alloc (.cells #[.slice ao V.length cap, .slice co T.length ccp] 39)).alloc (.cells #[.slice none 0 0, .slice none 0 0] 39)) := ((Near.refl w).alloc _).alloc _
  have HN3 := Lib.hid N3
  have EA : ((w.alloc (.cells #[.slice ao V.length cap, .slice co T.length ccp] 39)).alloc (.cells #[.slice none 0 0, .slice none 0 0] 39)).heap[w.heap.size]? = some (.cells #[.slice ao V.length cap, .slice co T.length ccp] 39 (0, 0)) := by
    rw [heap_old_at (by simp), heap_new_at rfl]
  have EC : ((w.alloc (.cells #[.slice ao V.length cap, .slice co T.length ccp] 39)).alloc (.cells #[.slice none 0 0, .slice none 0 0] 39)).heap[w.heap.size + 1]? = some (.cells #[.slice none 0 0, .slice none 0 0] 39 (0, 0)) := heap_new_at (by simp)
  have hs3 : ((w.alloc (.cells #[.slice ao V.length cap, .slice co T.length ccp] 39)).alloc (.cells #[.slice none 0 0, .slice none 0 0] 39)).heap.size = w.heap.size + 1 + 1 := by simp
  have HEA := Lib.hid EA
  have HEC := Lib.hid EC
  have HS3 := Lib.hid hs3
  clear N3 EA EC hs3
  go_enter Tryz.func62, Tryz.ntmps62
  go_wp2_with (first
    | (go_at_call 79; refine (blank_calls HV.out (owns_kept R1.out HN3.out.kept (fun _ _ x => x))).mono ?_; rintro e w5 ⟨sn, rfl, rn, n5⟩; have RN := Lib.hid rn; clear rn; obtain ⟨no, ncp, rfl⟩ := owns_form RN.out))
  obtain ⟨tb, tcp, tcur, htv, htg, -, htb⟩ := row1' RN.out (k := 0) (u := .bool false) (by simp [Nat.two_pow_pos]) (Nat.two_pow_pos _)
  simp only [Value.slice.injEq, true_and] at htv
  obtain ⟨rfl, rfl⟩ := htv
  have htl : tb < w5.heap.size := (Array.getElem?_eq_some_iff.1 htg).1
  rw [HS3.out] at htb
  have W45 : Near w (w5.alloc (.cells #[.slice ao V.length cap, .slice (some ⟨tb, 0, none⟩) (2 ^ V.length) ncp] 39)) := (HN3.out.trans n5).alloc _
  have HWW := Lib.hid W45
  have EA4 := Lib.hid (heap_old_at (o := .cells #[.slice ao V.length cap, .slice (some ⟨tb, 0, none⟩) (2 ^ V.length) ncp] 39) (Array.getElem?_eq_some_iff.1 (keepN n5 HEA.out)).1 |>.trans (keepN n5 HEA.out))
  have EC4 := Lib.hid (heap_old_at (o := .cells #[.slice ao V.length cap, .slice (some ⟨tb, 0, none⟩) (2 ^ V.length) ncp] 39) (Array.getElem?_eq_some_iff.1 (keepN n5 HEC.out)).1 |>.trans (keepN n5 HEC.out))
  have EO : (w5.alloc (.cells #[.slice ao V.length cap, .slice (some ⟨tb, 0, none⟩) (2 ^ V.length) ncp] 39)).heap[w5.heap.size]? = some (.cells #[.slice ao V.length cap, .slice (some ⟨tb, 0, none⟩) (2 ^ V.length) ncp] 39 (0, 0)) := heap_new_at rfl
  have HEO := Lib.hid EO
  have RNW := Lib.hid (ownsRow_low (RN.out.alloc (.cells #[.slice ao V.length cap, .slice (some ⟨tb, 0, none⟩) (2 ^ V.length) ncp] 39)) (Nat.zero_le _))
  have hWs : w5.heap.size < (w5.alloc (.cells #[.slice ao V.length cap, .slice (some ⟨tb, 0, none⟩) (2 ^ V.length) ncp] 39)).heap.size := by simp
  have lV := HV.out.len
  have hw5 := n5.size'
  rw [HS3.out] at hw5
  clear W45 EO RN HEA HEC n5 htg HN3 HS3
  obtain ⟨N, hN⟩ : ∃ N, N = 2 ^ V.length := ⟨_, rfl⟩
  have hNb : N ≤ 16777216 := by
    have hp : (2 : Nat) ^ V.length ≤ 2 ^ 24 := Nat.pow_le_pow_right (by omega) (by omega)
    have e24 : (2 : Nat) ^ 24 = 16777216 := by decide
    omega
  have hTN : T.length = N := by rw [HTL.out, hN]
  rw [← hN] at hWs HWW HEO RNW EA4 EC4 ⊢
  have HNN := Lib.hid hN
  clear hN
  generalize (w5.alloc (.cells #[.slice ao V.length cap, .slice (some ⟨tb, 0, none⟩) N ncp] 39)) = W at hWs HWW HEO RNW EA4 EC4 ⊢
  rw [hTN] at R2 EA4 ⊢
  have HTN := Lib.hid hTN
  clear hTN
  have HG : ∃ g : Nat → Bool, g = fun k => !(T.getD k false) := ⟨_, rfl⟩
  obtain ⟨g, hg⟩ := HG
  have HG := Lib.hid hg
  clear hg
  go_loopw [4] (fun i wr => ∃ k : Nat, k ≤ N ∧ i = .int .i64 k ∧ wr.ownsRow 0 4 1 (.slice (some ⟨tb, 0, none⟩) N ncp) N ((tabTo N g k).map Value.bool) ∧ Kept (fun b => b = tb) W wr) (fun i _ => N - (intOf i).toNat)
  case atStart =>
    refine ⟨0, Nat.zero_le _, rfl, ?_, Kept.refl _ _⟩
    rw [tabTo_zero]
    exact RNW.out
  case round =>
    obtain ⟨k, hk, rfl, hown, hkp⟩ := hrel
    have z0 : Near w wr := Kept.mono ((HWW.out.kept (S := fun b => b = tb)).trans hkp) (fun b hb e => by omega)
    have xo' : wr.heap[w5.heap.size]? = some (.cells #[.slice ao V.length cap, .slice (some ⟨tb, 0, none⟩) N ncp] 39 (0, 0)) := (hkp.block _ hWs (by omega)).trans HEO.out
    have xa' : wr.heap[w.heap.size]? = some (.cells #[.slice ao V.length cap, .slice co N ccp] 39 (0, 0)) := (hkp.block _ (by omega) (by omega)).trans EA4.out
    have o0 := cell1 (o := 0) xo' rfl
    have o1 := cell1 (o := 1) xo' rfl
    have a0 := cell1 (o := 0) xa' rfl
    have a1 := cell1 (o := 1) xa' rfl
    have HOwn := Lib.hid hown
    clear xo' xa' hown
    by_cases hlt : k < N
    · have hlt' : (k : Int) < N := by omega
      obtain ⟨y, hy⟩ : ∃ y, y = T[k]'(by rw [HTN.out]; exact hlt) := ⟨_, rfl⟩
      obtain ⟨gb, cap', hv, x0, hgb⟩ := row1 R2.out (k := k) (u := .bool y) (by rw [List.getElem?_map, List.getElem?_eq_getElem (by rw [HTN.out]; exact hlt), hy]; rfl) hlt
      simp only [Value.slice.injEq, true_and] at hv
      obtain ⟨rfl, rfl⟩ := hv
      have y0 := z0.cell x0
      obtain ⟨tcur', htk, u0, hu0⟩ : ∃ cur, wr.heap[tb]? = some (.cells cur 4 (0, 0)) ∧ ∃ u, cur[k]? = some u := by
        obtain ⟨g', c', cur, e, hg', hc', _⟩ := row1' HOwn.out (k := k) (u := .bool ((tabTo N g k)[k]'(by rw [tabTo_len]; exact hlt))) (by rw [List.getElem?_map, List.getElem?_eq_getElem (by rw [tabTo_len]; exact hlt)]; rfl) hlt
        cases e
        exact ⟨cur, hg', _, hc'⟩
      have t0 := cell1 htk hu0
      have tf := free1 htk k
      have hgk : g k = !y := by rw [HG.out, hy]; simp [List.getD_eq_getElem?_getD, List.getElem?_eq_getElem (show k < T.length by rw [HTN.out]; exact hlt)]
      have hts : ((tabTo N g (k + 1)).map Value.bool) = ((tabTo N g k).map Value.bool).set k (.bool (g k)) := by rw [tabTo_succ, List.map_set]
      have HGK := Lib.hid hgk
      have HTS := Lib.hid hts
      clear hgk hts x0 hy
      have hend : ((wr.setCell ⟨tb, k, none⟩ (.bool (!y))).drew).ownsRow 0 4 1 (.slice (some ⟨tb, 0, none⟩) N ncp) N ((tabTo N g (k + 1)).map Value.bool) := by
        rw [HTS.out, HGK.out]
        exact (HOwn.out.stored k _).1.drew
      have hend2 : Kept (fun b => b = tb) W (wr.setCell ⟨tb, k, none⟩ (.bool (!y))).drew := (hkp.setCell (fun _ => rfl) _).drew
      go_upto_region 5 with fail
      go_still_tail 10, (by kernel_rfl)
      change wpList _ _ _ _ _ wr.drew
      go_wp2_with fail
      exact ⟨⟨k + 1, by omega, by go_num, hend, hend2⟩, by simp [intOf]; omega⟩
    · have hkN : k = N := by omega
      subst hkN
      have rc := (hkp.block _ (by omega) (by omega)).trans EC4.out
      have c0 := cell1 (o := 0) rc rfl
      have c1 := cell1 (o := 1) rc rfl
      have f0 := free1 rc 0
      have f1 := free1 rc 1
      have R1r := owns_kept (R := fun _ => False) R1.out z0.kept (fun _ _ x => x)
      have ne1 := owns_ne R1r rc (by decide : (3 : Nat) ≠ 39)
      have ne2 := owns_ne HOwn.out rc (by decide : (4 : Nat) ≠ 39)
      have RX2 := Lib.hid R1r
      clear R1r
      go_wp2_with fail
      have e1 := HNN.out
      refine bodyPost_ret (v := .agg #[.slice ao V.length cap, .slice (some ⟨tb, 0, none⟩) k ncp]) (by simp [results, Tryz.results62, go_sem, c0, c1]) rfl ⟨_, rfl, ⟨tabTo k g k, ?_, fun c => ?_⟩, (((z0.below).setCell (by show w.heap.size ≤ w.heap.size + 1; omega) _).setCell (by show w.heap.size ≤ w.heap.size + 1; omega) _)⟩
      · refine ⟨HV.out, by rw [tabTo_len, e1], _, _, rfl, ownsRow_setCell_other (ownsRow_setCell_other RX2.out ne1 _) ne1 _, ?_⟩
        rw [tabTo_len]
        exact ownsRow_setCell_other (ownsRow_setCell_other HOwn.out ne2 _) ne2 _
      · rw [e1, tabTo_rf, HG.out]
        show (!(T.getD (idx V c) false)) = !(f c)
        rw [← HF.out c]
        rfl

end Go.Proofs.YtefclohjeompkaaGreat

/- RefK: what is needed of it. -/
namespace Go.Proofs.YtefclohjeompkaaGreat
open Go Go.RowKit Go.Proofs.Gen Go.Proofs.Bdd Go.Proofs.Bdd.T
theorem or_upd (x i : Nat) : (x ||| 2 ^ i).testBit = upd x.testBit i true := by
  funext j
  rw [Nat.testBit_or, Nat.testBit_two_pow, upd]
  by_cases h : j = i
  · subst h; simp
  · simp [h, Ne.symm h]

theorem sub_upd {x i : Nat} (h : x.testBit i = true) : 2 ^ i ≤ x ∧ (x - 2 ^ i).testBit = upd x.testBit i false := by
  have hp := Nat.two_pow_pos i
  have hq : x / 2 ^ i % 2 = 1 := by
    rw [Nat.testBit_eq_decide_div_mod_eq] at h
    simpa using h
  have hx : 2 ^ i * (x / 2 ^ i) + x % 2 ^ i = x := Nat.div_add_mod x (2 ^ i)
  have hb : x % 2 ^ i < 2 ^ i := Nat.mod_lt _ hp
  obtain ⟨q, hqq⟩ : ∃ q, q = x / 2 ^ i := ⟨_, rfl⟩
  obtain ⟨b, hbb⟩ : ∃ b, b = x % 2 ^ i := ⟨_, rfl⟩
  rw [← hqq] at hq hx
  rw [← hbb] at hb hx
  obtain ⟨r, rfl⟩ : ∃ r, q = 2 * r + 1 := ⟨q / 2, by omega⟩
  have e : x = 2 ^ i * (2 * r) + b + 2 ^ i := by
    rw [← hx, Nat.mul_add, Nat.mul_one]
    omega
  refine ⟨by omega, ?_⟩
  funext j
  have e2 : x - 2 ^ i = 2 ^ i * (2 * r) + b := by omega
  rw [e2, upd]
  by_cases hj : j = i
  · rw [if_pos hj, hj, Nat.testBit_two_pow_mul_add _ hb]
    simp
  · rw [if_neg hj, ← hx, Nat.testBit_two_pow_mul_add _ hb, Nat.testBit_two_pow_mul_add _ hb]
    split
    · rfl
    · obtain ⟨m, hm⟩ : ∃ m, j - i = m + 1 := ⟨j - i - 1, by omega⟩
      rw [hm, Nat.testBit_succ, Nat.testBit_succ]
      congr 1
      omega

theorem sub_val {x i : Nat} (hx : x < 16777216) (_hi : i < 24) (h : 2 ^ i ≤ x) : ((x : Int) - 2 ^ i % 4294967296) % 4294967296 = ((x - 2 ^ i : Nat) : Int) := by
  rw [show ((2 : Int) ^ i) = ((2 ^ i : Nat) : Int) from by simp]
  generalize (2 : Nat) ^ i = p at *
  omega

theorem rsays {w : World} {v : Value} {V : List Nat} {f : (Nat → Bool) → Bool} (h : IsS w v V f) (c : Nat) (hc : c < 4294967296) {g : Bool} (hg : f c.testBit = g) : Calls Tryz.prog 81 #[v, .int .u32 c] w fun e w' => e = .returned (.bool g) ∧ Near w w' := by
  obtain ⟨T, hT, hf⟩ := h
  have := rhas_calls hT c hc
  rw [hf, hg] at this
  exact this

set_option maxRecDepth 100000 in
set_option maxHeartbeats 1600000 in
theorem rwith_calls {w : World} {va : Value} {V : List Nat} {f : (Nat → Bool) → Bool} (h : IsS w va V f) (i : Nat) (hi : i < 24) (on : Bool) :
    Calls Tryz.prog 41 #[va, .int .i64 i, .bool on] w (SPost w V (fun c => f (upd c i on))) := by
  have hi0 : ¬ (i : Int) < 0 := by omega
  have hi1 : ¬ (23 : Int) < (i : Int) := by omega
  have hi64 : (i : Int) < 64 := by omega
  have HA := Lib.hid h
  obtain ⟨T, ⟨hV, hT, sv, st, rfl, r1, r2⟩, hf⟩ := h
  obtain ⟨ao, cap, rfl⟩ := owns_form r1
  obtain ⟨co, ccp, rfl⟩ := owns_form r2
  have R1 := Lib.hid r1
  have R2 := Lib.hid r2
  have HV := Lib.hid hV
  have HF := Lib.hid hf
  have HTL := Lib.hid hT
  clear r1 r2 hV hf hT
  have N3 : Near w ((w.alloc (.cells #[.slice ao V.length cap, .slice co T.length ccp] 39)).alloc (.cells #[.slice none 0 0, .slice none 0 0] 39)) := ((Near.refl w).alloc _).alloc _
  have HN3 := Lib.hid N3
  have EA : ((w.alloc (.cells #[.slice ao V.length cap, .slice co T.length ccp] 39)).alloc (.cells #[.slice none 0 0, .slice none 0 0] 39)).heap[w.heap.size]? = some (.cells #[.slice ao V.length cap, .slice co T.length ccp] 39 (0, 0)) := by
    rw [heap_old_at (by simp), heap_new_at rfl]
  have EC : ((w.alloc (.cells #[.slice ao V.length cap, .slice co T.length ccp] 39)).alloc (.cells #[.slice none 0 0, .slice none 0 0] 39)).heap[w.heap.size + 1]? = some (.cells #[.slice none 0 0, .slice none 0 0] 39 (0, 0)) := heap_new_at (by simp)
  have hs3 : ((w.alloc (.cells #[.slice ao V.length cap, .slice co T.length ccp] 39)).alloc (.cells #[.slice none 0 0, .slice none 0 0] 39)).heap.size = w.heap.size + 1 + 1 := by simp
  have HEA := Lib.hid EA
  have HEC := Lib.hid EC
  have HS3 := Lib.hid hs3
  clear N3 EA EC hs3
  go_enter Tryz.func41, Tryz.ntmps41
  go_wp2_with (first
    | (go_at_call 79; refine (blank_calls HV.out (owns_kept R1.out HN3.out.kept (fun _ _ x => x))).mono ?_; rintro e w5 ⟨sn, rfl, rn, n5⟩; have RN := Lib.hid rn; clear rn; obtain ⟨no, ncp, rfl⟩ := owns_form RN.out))
  obtain ⟨tb, tcp, tcur, htv, htg, -, htb⟩ := row1' RN.out (k := 0) (u := .bool false) (by simp [Nat.two_pow_pos]) (Nat.two_pow_pos _)
  simp only [Value.slice.injEq, true_and] at htv
  obtain ⟨rfl, rfl⟩ := htv
  have htl : tb < w5.heap.size := (Array.getElem?_eq_some_iff.1 htg).1
  rw [HS3.out] at htb
  have W45 : Near w (w5.alloc (.cells #[.slice ao V.length cap, .slice (some ⟨tb, 0, none⟩) (2 ^ V.length) ncp] 39)) := (HN3.out.trans n5).alloc _
  have HWW := Lib.hid W45
  have EA4 := Lib.hid (heap_old_at (o := .cells #[.slice ao V.length cap, .slice (some ⟨tb, 0, none⟩) (2 ^ V.length) ncp] 39) (Array.getElem?_eq_some_iff.1 (keepN n5 HEA.out)).1 |>.trans (keepN n5 HEA.out))
  have EC4 := Lib.hid (heap_old_at (o := .cells #[.slice ao V.length cap, .slice (some ⟨tb, 0, none⟩) (2 ^ V.length) ncp] 39) (Array.getElem?_eq_some_iff.1 (keepN n5 HEC.out)).1 |>.trans (keepN n5 HEC.out))
  have EO : (w5.alloc (.cells #[.slice ao V.length cap, .slice (some ⟨tb, 0, none⟩) (2 ^ V.length) ncp] 39)).heap[w5.heap.size]? = some (.cells #[.slice ao V.length cap, .slice (some ⟨tb, 0, none⟩) (2 ^ V.length) ncp] 39 (0, 0)) := heap_new_at rfl
  have HEO := Lib.hid EO
  have RNW := Lib.hid (ownsRow_low (RN.out.alloc (.cells #[.slice ao V.length cap, .slice (some ⟨tb, 0, none⟩) (2 ^ V.length) ncp] 39)) (Nat.zero_le _))
  have hWs : w5.heap.size < (w5.alloc (.cells #[.slice ao V.length cap, .slice (some ⟨tb, 0, none⟩) (2 ^ V.length) ncp] 39)).heap.size := by simp
  have lV := HV.out.len
  have hw5 := n5.size'
  rw [HS3.out] at hw5
  clear W45 EO RN HEA HEC n5 htg HN3 HS3
  obtain ⟨N, hN⟩ : ∃ N, N = 2 ^ V.length := ⟨_, rfl⟩
  have hNb : N ≤ 16777216 := by
    have hp : (2 : Nat) ^ V.length ≤ 2 ^ 24 := Nat.pow_le_pow_right (by omega) (by omega)
    have e24 : (2 : Nat) ^ 24 = 16777216 := by decide
    omega
  have hTN : T.length = N := by rw [HTL.out, hN]
  rw [← hN] at hWs HWW HEO RNW EA4 EC4 ⊢
  have HNN := Lib.hid hN
  clear hN
  generalize (w5.alloc (.cells #[.slice ao V.length cap, .slice (some ⟨tb, 0, none⟩) N ncp] 39)) = W at hWs HWW HEO RNW EA4 EC4 ⊢
  rw [hTN] at R2 EA4 HA ⊢
  have HTN := Lib.hid hTN
  clear hTN
  have HG : ∃ g : Nat → Bool, g = fun k => f (upd (cfg V k).testBit i on) := ⟨_, rfl⟩
  obtain ⟨g, hg⟩ := HG
  have HG := Lib.hid hg
  clear hg
  go_loopw [8] (fun i wr => ∃ k : Nat, k ≤ N ∧ i = .int .i64 k ∧ wr.ownsRow 0 4 1 (.slice (some ⟨tb, 0, none⟩) N ncp) N ((tabTo N g k).map Value.bool) ∧ Kept (fun b => b = tb) W wr) (fun i _ => N - (intOf i).toNat)
  case atStart =>
    refine ⟨0, Nat.zero_le _, rfl, ?_, Kept.refl _ _⟩
    rw [tabTo_zero]
    exact RNW.out
  case round =>
    obtain ⟨k, hk, rfl, hown, hkp⟩ := hrel
    have z0 : Near w wr := Kept.mono ((HWW.out.kept (S := fun b => b = tb)).trans hkp) (fun b hb e => by omega)
    have xo' : wr.heap[w5.heap.size]? = some (.cells #[.slice ao V.length cap, .slice (some ⟨tb, 0, none⟩) N ncp] 39 (0, 0)) := (hkp.block _ hWs (by omega)).trans HEO.out
    have xa' : wr.heap[w.heap.size]? = some (.cells #[.slice ao V.length cap, .slice co N ccp] 39 (0, 0)) := (hkp.block _ (by omega) (by omega)).trans EA4.out
    have o0 := cell1 (o := 0) xo' rfl
    have o1 := cell1 (o := 1) xo' rfl
    have a0 := cell1 (o := 0) xa' rfl
    have a1 := cell1 (o := 1) xa' rfl
    have HOwn := Lib.hid hown
    have HXO := Lib.hid xo'
    have HXA := Lib.hid xa'
    clear xo' xa' hown
    by_cases hlt : k < N
    · have hlt' : (k : Int) < N := by omega
      obtain ⟨tcur', htk, u0, hu0⟩ : ∃ cur, wr.heap[tb]? = some (.cells cur 4 (0, 0)) ∧ ∃ u, cur[k]? = some u := by
        obtain ⟨g', c', cur, e, hg', hc', _⟩ := row1' HOwn.out (k := k) (u := .bool ((tabTo N g k)[k]'(by rw [tabTo_len]; exact hlt))) (by rw [List.getElem?_map, List.getElem?_eq_getElem (by rw [tabTo_len]; exact hlt)]; rfl) hlt
        cases e
        exact ⟨cur, hg', _, hc'⟩
      have t0 := cell1 htk hu0
      have tf := free1 htk k
      have hgk : g k = f (upd (cfg V k).testBit i on) := by rw [HG.out]
      have hts : ((tabTo N g (k + 1)).map Value.bool) = ((tabTo N g k).map Value.bool).set k (.bool (g k)) := by rw [tabTo_succ, List.map_set]
      have HGK := Lib.hid hgk
      have HTS := Lib.hid hts
      have HTK := Lib.hid htk
      have HU0 := Lib.hid hu0
      have hc6 := cfg_lt HV.out k
      have hor := u32_or_bit (cfg V k) i (by omega) (by omega)
      have HOR := Lib.hid hor
      clear hgk hts htk hu0 hor
      have hi' : i < 24 := hi
      have hp24 : (2 : Nat) ^ i < 16777216 := by
        have h1 : (2 : Nat) ^ i < 2 ^ 24 := Nat.pow_lt_pow_right (by omega) hi
        have e24 : (2 : Nat) ^ 24 = 16777216 := by decide
        omega
      have hor24 : cfg V k ||| 2 ^ i < 4294967296 := by
        have h1 : cfg V k ||| 2 ^ i < 2 ^ 24 := Nat.or_lt_two_pow (n := 24) (by simpa using hc6) (by simpa using hp24)
        have e24 : (2 : Nat) ^ 24 = 16777216 := by decide
        omega
      have HO24 := Lib.hid hor24
      clear hor24 hp24
      cases on
      · by_cases hbit : (cfg V k).testBit i = true
        · have hsu := sub_upd hbit
          have HSV := Lib.hid (sub_val hc6 hi hsu.1)
          have HSU := Lib.hid hsu.2
          clear hsu
          go_wp2_with (first
            | (go_at_call 37; refine (config_calls HV.out (by omega) (owns_kept R1.out z0.kept (fun _ _ x => x)) k (by omega)).mono ?_; rintro e w6 ⟨rfl, n6⟩; have p1 := cell1 (o := 1) (keepN n6 HXO.out) rfl; have p2 := cell1 (o := 0) (keepN n6 HXA.out) rfl; have p3 := cell1 (o := 1) (keepN n6 HXA.out) rfl)
            | (go_at_call 80; refine (selected_calls _ i (by omega) hi' _).mono ?_; rintro e w7 ⟨rfl, rfl⟩))
          rw [HSV.out]
          have HN6 := Lib.hid n6
          have HZ0 := Lib.hid z0
          clear n6 z0 t0 tf o0 o1 a0 a1
          have hg' : f (cfg V k - 2 ^ i).testBit = g k := by rw [HGK.out, HSU.out]
          have hcb : cfg V k - 2 ^ i < 4294967296 := Nat.lt_of_le_of_lt (Nat.sub_le _ _) (Nat.lt_of_lt_of_le hc6 (by decide))
          generalize cfg V k - 2 ^ i = cc at hg' hcb ⊢
          have HGC := Lib.hid hg'
          clear hg'
          have sOf : ∀ w', Kept (fun b => b = tb) w7 w' → w'.cell? ⟨w5.heap.size, 1, none⟩ = some (.slice (some ⟨tb, 0, none⟩) N ncp) ∧ w'.cell? ⟨w.heap.size, 0, none⟩ = some (.slice ao V.length cap) ∧ w'.cell? ⟨w.heap.size, 1, none⟩ = some (.slice co N ccp) :=
            fun w' h => ⟨h.cell p1 (by omega), h.cell p2 (by omega), h.cell p3 (by omega)⟩
          go_region_held3 (fun w' => w'.cell? ⟨w5.heap.size, 1, none⟩ = some (.slice (some ⟨tb, 0, none⟩) N ncp) ∧ w'.cell? ⟨w.heap.size, 0, none⟩ = some (.slice ao V.length cap) ∧ w'.cell? ⟨w.heap.size, 1, none⟩ = some (.slice co N ccp))
            ((refine sOf _ ?_; first | exact (Kept.refl _ _).drew | exact n8 | exact n8.setCell (fun _ => rfl) _))
            (first
              | (go_at_call 81; refine (rsays (HA.out.near ((HZ0.out.trans HN6.out).drew)) cc hcb HGC.out).mono ?_; rintro e w8 ⟨rfl, m8⟩; have n8 : Kept (fun b => b = tb) w7 w8 := (Kept.refl _ _).drew.trans m8.kept; have M8 := Lib.hid (HN6.out.trans ((Near.refl _).drew.trans m8)); have t8 := cell1 (keepN M8.out HTK.out) HU0.out; have tf8 := free1 (keepN M8.out HTK.out) k))
          all_goals
            go_wp2_with fail
            refine ⟨⟨k + 1, by omega, by go_num, ?_, ?_⟩, by simp [intOf]; omega⟩
            · rw [HTS.out]
              exact ((owns_kept HOwn.out M8.out.kept (fun _ _ x => x)).stored k _).1
            · exact (hkp.trans M8.out.kept).setCell (fun _ => rfl) _
        · have hbit' : (cfg V k).testBit i = false := by simpa using hbit
          have hsm : (cfg V k).testBit = upd (cfg V k).testBit i false := by
            funext j
            unfold upd
            split
            · rename_i e; rw [e, hbit']
            · rfl
          have HSM := Lib.hid hsm
          clear hsm hbit
          go_wp2_with (first
            | (go_at_call 37; refine (config_calls HV.out (by omega) (owns_kept R1.out z0.kept (fun _ _ x => x)) k (by omega)).mono ?_; rintro e w6 ⟨rfl, n6⟩; have p1 := cell1 (o := 1) (keepN n6 HXO.out) rfl; have p2 := cell1 (o := 0) (keepN n6 HXA.out) rfl; have p3 := cell1 (o := 1) (keepN n6 HXA.out) rfl)
            | (go_at_call 80; refine (selected_calls _ i (by omega) hi' _).mono ?_; rintro e w7 ⟨rfl, rfl⟩))
          have HN6 := Lib.hid n6
          have HZ0 := Lib.hid z0
          clear n6 z0 t0 tf o0 o1 a0 a1
          have hg' : f (cfg V k).testBit = g k := by rw [HGK.out, ← HSM.out]
          have hcb : cfg V k < 4294967296 := by omega
          generalize cfg V k = cc at hg' hcb ⊢
          have HGC := Lib.hid hg'
          clear hg'
          have sOf : ∀ w', Kept (fun b => b = tb) w7 w' → w'.cell? ⟨w5.heap.size, 1, none⟩ = some (.slice (some ⟨tb, 0, none⟩) N ncp) ∧ w'.cell? ⟨w.heap.size, 0, none⟩ = some (.slice ao V.length cap) ∧ w'.cell? ⟨w.heap.size, 1, none⟩ = some (.slice co N ccp) :=
            fun w' h => ⟨h.cell p1 (by omega), h.cell p2 (by omega), h.cell p3 (by omega)⟩
          go_region_held3 (fun w' => w'.cell? ⟨w5.heap.size, 1, none⟩ = some (.slice (some ⟨tb, 0, none⟩) N ncp) ∧ w'.cell? ⟨w.heap.size, 0, none⟩ = some (.slice ao V.length cap) ∧ w'.cell? ⟨w.heap.size, 1, none⟩ = some (.slice co N ccp))
            ((refine sOf _ ?_; first | exact (Kept.refl _ _).drew | exact n8 | exact n8.setCell (fun _ => rfl) _))
            (first
              | (go_at_call 81; refine (rsays (HA.out.near ((HZ0.out.trans HN6.out).drew)) cc hcb HGC.out).mono ?_; rintro e w8 ⟨rfl, m8⟩; have n8 : Kept (fun b => b = tb) w7 w8 := (Kept.refl _ _).drew.trans m8.kept; have M8 := Lib.hid (HN6.out.trans ((Near.refl _).drew.trans m8)); have t8 := cell1 (keepN M8.out HTK.out) HU0.out; have tf8 := free1 (keepN M8.out HTK.out) k))
          all_goals
            go_wp2_with fail
            refine ⟨⟨k + 1, by omega, by go_num, ?_, ?_⟩, by simp [intOf]; omega⟩
            · rw [HTS.out]
              exact ((owns_kept HOwn.out M8.out.kept (fun _ _ x => x)).stored k _).1
            · exact (hkp.trans M8.out.kept).setCell (fun _ => rfl) _
      · go_wp2_with (first
            | (go_at_call 37; refine (config_calls HV.out (by omega) (owns_kept R1.out z0.kept (fun _ _ x => x)) k (by omega)).mono ?_; rintro e w6 ⟨rfl, n6⟩; have p1 := cell1 (o := 1) (keepN n6 HXO.out) rfl; have p2 := cell1 (o := 0) (keepN n6 HXA.out) rfl; have p3 := cell1 (o := 1) (keepN n6 HXA.out) rfl))
        rw [HOR.out]
        have HN6 := Lib.hid n6
        have HZ0 := Lib.hid z0
        clear n6 z0 t0 tf o0 o1 a0 a1
        have hg' : f (cfg V k ||| 2 ^ i).testBit = g k := by rw [HGK.out, or_upd]
        have hcb : cfg V k ||| 2 ^ i < 4294967296 := by exact HO24.out
        generalize cfg V k ||| 2 ^ i = cc at hg' hcb ⊢
        have HGC := Lib.hid hg'
        clear hg'
        have sOf : ∀ w', Kept (fun b => b = tb) w6 w' → w'.cell? ⟨w5.heap.size, 1, none⟩ = some (.slice (some ⟨tb, 0, none⟩) N ncp) ∧ w'.cell? ⟨w.heap.size, 0, none⟩ = some (.slice ao V.length cap) ∧ w'.cell? ⟨w.heap.size, 1, none⟩ = some (.slice co N ccp) :=
          fun w' h => ⟨h.cell p1 (by omega), h.cell p2 (by omega), h.cell p3 (by omega)⟩
        go_region_held3 (fun w' => w'.cell? ⟨w5.heap.size, 1, none⟩ = some (.slice (some ⟨tb, 0, none⟩) N ncp) ∧ w'.cell? ⟨w.heap.size, 0, none⟩ = some (.slice ao V.length cap) ∧ w'.cell? ⟨w.heap.size, 1, none⟩ = some (.slice co N ccp))
          ((refine sOf _ ?_; first | exact (Kept.refl _ _).drew | exact n8 | exact n8.setCell (fun _ => rfl) _))
          (first
            | (go_at_call 81; refine (rsays (HA.out.near ((HZ0.out.trans HN6.out).drew)) cc hcb HGC.out).mono ?_; rintro e w8 ⟨rfl, m8⟩; have n8 : Kept (fun b => b = tb) w6 w8 := (Kept.refl _ _).drew.trans m8.kept; have M8 := Lib.hid (HN6.out.trans ((Near.refl _).drew.trans m8)); have t8 := cell1 (keepN M8.out HTK.out) HU0.out; have tf8 := free1 (keepN M8.out HTK.out) k))
        all_goals
          go_wp2_with fail
          refine ⟨⟨k + 1, by omega, by go_num, ?_, ?_⟩, by simp [intOf]; omega⟩
          · rw [HTS.out]
            exact ((owns_kept HOwn.out M8.out.kept (fun _ _ x => x)).stored k _).1
          · exact (hkp.trans M8.out.kept).setCell (fun _ => rfl) _
    · have hkN : k = N := by omega
      subst hkN
      have rc := (hkp.block _ (by omega) (by omega)).trans EC4.out
      have c0 := cell1 (o := 0) rc rfl
      have c1 := cell1 (o := 1) rc rfl
      have f0 := free1 rc 0
      have f1 := free1 rc 1
      have R1r := owns_kept (R := fun _ => False) R1.out z0.kept (fun _ _ x => x)
      have ne1 := owns_ne R1r rc (by decide : (3 : Nat) ≠ 39)
      have ne2 := owns_ne HOwn.out rc (by decide : (4 : Nat) ≠ 39)
      have RX2 := Lib.hid R1r
      clear R1r
      go_wp2_with fail
      have e1 := HNN.out
      refine bodyPost_ret (v := .agg #[.slice ao V.length cap, .slice (some ⟨tb, 0, none⟩) k ncp]) (by simp [results, Tryz.results41, go_sem, c0, c1]) rfl ⟨_, rfl, ⟨tabTo k g k, ?_, fun c => ?_⟩, (((z0.below).setCell (by show w.heap.size ≤ w.heap.size + 1; omega) _).setCell (by show w.heap.size ≤ w.heap.size + 1; omega) _)⟩
      · refine ⟨HV.out, by rw [tabTo_len, e1], _, _, rfl, ownsRow_setCell_other (ownsRow_setCell_other RX2.out ne1 _) ne1 _, ?_⟩
        rw [tabTo_len]
        exact ownsRow_setCell_other (ownsRow_setCell_other HOwn.out ne2 _) ne2 _
      · rw [e1, tabTo_rf, HG.out]
        show f (upd (cfg V (idx V c)).testBit i on) = f (upd c i on)
        rw [← HF.out, ← HF.out]
        refine rf_congr fun j hj => ?_
        unfold upd
        rw [cfg_idx HV.out c hj]

end Go.Proofs.YtefclohjeompkaaGreat

/- RefL: what is needed of it. -/
namespace Go.Proofs.YtefclohjeompkaaGreat
open Go Go.RowKit Go.Proofs.Gen Go.Proofs.Bdd Go.Proofs.Bdd.T
/-- What a cell of a cube's table says. -/
def cubeN (on off c : Nat) : Bool := (c &&& on == on % 16777216) && (c &&& off == 0)

set_option maxRecDepth 100000 in
set_option maxHeartbeats 1600000 in
theorem cube_table {w : World} (on off : Nat) (hon : on < 4294967296) (hoff : off < 4294967296) :
    Calls Tryz.prog 61 #[.int .u32 on, .int .u32 off] w fun e w' => ∃ v, e = .returned v ∧ IsR w' v (feats (on ||| off)) (tabTo (2 ^ (feats (on ||| off)).length) (fun k => cubeN on off (cfg (feats (on ||| off)) k)) (2 ^ (feats (on ||| off)).length)) ∧ Below w.heap.size w w' := by
  have hV := feats_rising (on ||| off)
  obtain ⟨V, hVV⟩ : ∃ V, V = feats (on ||| off) := ⟨_, rfl⟩
  rw [← hVV] at hV ⊢
  have HV := Lib.hid hV
  have HU := Lib.hid hVV
  have hor : on ||| off < 4294967296 := by
    have e32 : (2 : Nat) ^ 32 = 4294967296 := by decide
    have : on ||| off < 2 ^ 32 := Nat.or_lt_two_pow (n := 32) (by omega) (by omega)
    omega
  have hob : bits .or .u32 (on : Nat) (off : Nat) = ((on ||| off : Nat) : Int) := Go.Proofs.Gen.u32_or on off hon hoff
  have HOB := Lib.hid hob
  have HOR := Lib.hid hor
  clear hV hVV hob hor
  have HN3 := Lib.hid ((Near.refl w).alloc (.cells #[.slice none 0 0, .slice none 0 0] 39))
  have HEC := Lib.hid (heap_new_at (w := w) (o := .cells #[.slice none 0 0, .slice none 0 0] 39) rfl)
  go_enter Tryz.func61, Tryz.ntmps61
  go_wp2_with (first
    | (go_at_call 10; rw [HOB.out]; refine (features_calls _ HOR.out _).mono ?_; rw [← HU.out]; rintro e w4 ⟨x, rfl, rx, n4⟩; have RX := Lib.hid rx; clear rx)
    | (go_at_call 79; refine (blank_calls HV.out (ownsRow_low RX.out (Nat.zero_le _))).mono ?_; rintro e w5 ⟨sn, rfl, rn, n5⟩; have RN := Lib.hid rn; clear rn; obtain ⟨ao, cap, rfl⟩ := owns_form RX.out; obtain ⟨no, ncp, rfl⟩ := owns_form RN.out))
  obtain ⟨tb, tcp, tcur, htv, htg, -, htb⟩ := row1' RN.out (k := 0) (u := .bool false) (by simp [Nat.two_pow_pos]) (Nat.two_pow_pos _)
  simp only [Value.slice.injEq, true_and] at htv
  obtain ⟨rfl, rfl⟩ := htv
  have htl : tb < w5.heap.size := (Array.getElem?_eq_some_iff.1 htg).1
  have W45 : Near w (w5.alloc (.cells #[.slice ao V.length cap, .slice (some ⟨tb, 0, none⟩) (2 ^ V.length) ncp] 39)) := ((HN3.out.trans n4).trans n5).alloc _
  have HWW := Lib.hid W45
  have EC4 := Lib.hid (heap_old_at (o := .cells #[.slice ao V.length cap, .slice (some ⟨tb, 0, none⟩) (2 ^ V.length) ncp] 39) (Array.getElem?_eq_some_iff.1 (keepN n5 (keepN n4 HEC.out))).1 |>.trans (keepN n5 (keepN n4 HEC.out)))
  have EO : (w5.alloc (.cells #[.slice ao V.length cap, .slice (some ⟨tb, 0, none⟩) (2 ^ V.length) ncp] 39)).heap[w5.heap.size]? = some (.cells #[.slice ao V.length cap, .slice (some ⟨tb, 0, none⟩) (2 ^ V.length) ncp] 39 (0, 0)) := heap_new_at rfl
  have HEO := Lib.hid EO
  have RNW := Lib.hid (ownsRow_low (RN.out.alloc (.cells #[.slice ao V.length cap, .slice (some ⟨tb, 0, none⟩) (2 ^ V.length) ncp] 39)) (Nat.zero_le _))
  have hWs : w5.heap.size < (w5.alloc (.cells #[.slice ao V.length cap, .slice (some ⟨tb, 0, none⟩) (2 ^ V.length) ncp] 39)).heap.size := by simp
  have lV := HV.out.len
  have hw4 : w.heap.size + 1 ≤ w4.heap.size := by simpa using n4.size'
  have W44 := Lib.hid (n5.alloc (.cells #[.slice ao V.length cap, .slice (some ⟨tb, 0, none⟩) (2 ^ V.length) ncp] 39))
  have RX2 := Lib.hid (ownsRow_low RX.out (Nat.zero_le _))
  clear W45 EO RN RX HEC n4 n5 htg HN3
  obtain ⟨N, hN⟩ : ∃ N, N = 2 ^ V.length := ⟨_, rfl⟩
  have hNb : N ≤ 16777216 := by
    have hp : (2 : Nat) ^ V.length ≤ 2 ^ 24 := Nat.pow_le_pow_right (by omega) (by omega)
    have e24 : (2 : Nat) ^ 24 = 16777216 := by decide
    omega
  rw [← hN] at hWs HWW HEO RNW W44 EC4 ⊢
  have HNN := Lib.hid hN
  clear hN
  generalize (w5.alloc (.cells #[.slice ao V.length cap, .slice (some ⟨tb, 0, none⟩) N ncp] 39)) = W at hWs HWW HEO RNW W44 EC4 ⊢
  have HG : ∃ g : Nat → Bool, g = fun k => cubeN on off (cfg V k) := ⟨_, rfl⟩
  obtain ⟨g, hg⟩ := HG
  have HG := Lib.hid hg
  clear hg
  go_loopw [6] (fun i wr => ∃ k : Nat, k ≤ N ∧ i = .int .i64 k ∧ wr.ownsRow 0 4 1 (.slice (some ⟨tb, 0, none⟩) N ncp) N ((tabTo N g k).map Value.bool) ∧ Kept (fun b => b = tb) W wr) (fun i _ => N - (intOf i).toNat)
  case atStart =>
    refine ⟨0, Nat.zero_le _, rfl, ?_, Kept.refl _ _⟩
    rw [tabTo_zero]
    exact RNW.out
  case round =>
    obtain ⟨k, hk, rfl, hown, hkp⟩ := hrel
    have z0 : Near w wr := Kept.mono ((HWW.out.kept (S := fun b => b = tb)).trans hkp) (fun b hb e => by omega)
    have xo' : wr.heap[w5.heap.size]? = some (.cells #[.slice ao V.length cap, .slice (some ⟨tb, 0, none⟩) N ncp] 39 (0, 0)) := (hkp.block _ hWs (by omega)).trans HEO.out
    have z4 : Near w4 wr := Kept.mono ((W44.out.kept (S := fun b => b = tb)).trans hkp) (fun b hb e => by omega)
    have o0 := cell1 (o := 0) xo' rfl
    have o1 := cell1 (o := 1) xo' rfl
    have HOwn := Lib.hid hown
    have HXO := Lib.hid xo'
    clear xo' hown
    by_cases hlt : k < N
    · have hlt' : (k : Int) < N := by omega
      obtain ⟨tcur', htk, u0, hu0⟩ : ∃ cur, wr.heap[tb]? = some (.cells cur 4 (0, 0)) ∧ ∃ u, cur[k]? = some u := by
        obtain ⟨g', c', cur, e, hg', hc', _⟩ := row1' HOwn.out (k := k) (u := .bool ((tabTo N g k)[k]'(by rw [tabTo_len]; exact hlt))) (by rw [List.getElem?_map, List.getElem?_eq_getElem (by rw [tabTo_len]; exact hlt)]; rfl) hlt
        cases e
        exact ⟨cur, hg', _, hc'⟩
      have t0 := cell1 htk hu0
      have tf := free1 htk k
      have hgk : g k = cubeN on off (cfg V k) := by rw [HG.out]
      have hts : ((tabTo N g (k + 1)).map Value.bool) = ((tabTo N g k).map Value.bool).set k (.bool (g k)) := by rw [tabTo_succ, List.map_set]
      have HGK := Lib.hid hgk
      have HTS := Lib.hid hts
      have HTK := Lib.hid htk
      have HU0 := Lib.hid hu0
      clear hgk hts htk hu0 t0 tf
      have hc6 := cfg_lt HV.out k
      have and1 : bits .and .u32 (cfg V k : Nat) (on : Nat) = ((cfg V k &&& on : Nat) : Int) := Go.Proofs.Gen.u32_and _ _ (by omega) hon
      have and2 : bits .and .u32 (cfg V k : Nat) (off : Nat) = ((cfg V k &&& off : Nat) : Int) := Go.Proofs.Gen.u32_and _ _ (by omega) hoff
      obtain ⟨b1, hb1⟩ : ∃ b, b = (cfg V k &&& on == on % 16777216) := ⟨_, rfl⟩
      obtain ⟨b2, hb2⟩ : ∃ b, b = (cfg V k &&& off == 0) := ⟨_, rfl⟩
      have hz : g k = (b1 && b2) := by rw [HGK.out, cubeN, hb1, hb2]
      have h1 : (bits .and .u32 (cfg V k : Nat) (on : Nat) == (on : Int) % 16777216) = b1 := by
        rw [and1, hb1, Bool.eq_iff_iff]
        simp only [beq_iff_eq]
        omega
      have h2 : (bits .and .u32 (cfg V k : Nat) (off : Nat) == 0) = b2 := by
        rw [and2, hb2, Bool.eq_iff_iff]
        simp only [beq_iff_eq]
        omega
      have HZ := Lib.hid hz
      clear and1 and2 hb1 hb2 hz hc6
      have hend : ∀ w6, Near wr w6 → ∀ z, z = g k → ∀ wz, wz = w6.setCell ⟨tb, k, none⟩ (.bool z) → wz.ownsRow 0 4 1 (.slice (some ⟨tb, 0, none⟩) N ncp) N ((tabTo N g (k + 1)).map Value.bool) ∧ Kept (fun b => b = tb) W wz := by
        rintro w6 n6 z rfl wz rfl
        rw [HTS.out]
        exact ⟨((owns_kept HOwn.out n6.kept (fun _ _ x => x)).stored k _).1, (hkp.trans n6.kept).setCell (fun _ => rfl) _⟩
      cases b1 <;> cases b2
      all_goals
        go_wp2_with (first
          | (go_at_call 37; refine (config_calls HV.out (by omega) (owns_kept RX2.out z4.kept (fun _ _ x => x)) k (by omega)).mono ?_; rintro e w6 ⟨rfl, n6⟩; have p1 := cell1 (o := 1) (keepN n6 HXO.out) rfl; have t0 := cell1 (keepN n6 HTK.out) HU0.out; have tf := free1 (keepN n6 HTK.out) k))
        exact ⟨⟨k + 1, by omega, by go_num, (hend _ n6 _ (by rw [HZ.out]; rfl) _ rfl).1, (hend _ n6 _ (by rw [HZ.out]; rfl) _ rfl).2⟩, by simp [intOf]; omega⟩
    · have hkN : k = N := by omega
      subst hkN
      have rc := (hkp.block _ (by omega) (by omega)).trans EC4.out
      have c0 := cell1 (o := 0) rc rfl
      have c1 := cell1 (o := 1) rc rfl
      have f0 := free1 rc 0
      have f1 := free1 rc 1
      have R1r := owns_kept (R := fun _ => False) RX2.out z4.kept (fun _ _ x => x)
      have ne1 := owns_ne R1r rc (by decide : (3 : Nat) ≠ 39)
      have ne2 := owns_ne HOwn.out rc (by decide : (4 : Nat) ≠ 39)
      have RX3 := Lib.hid R1r
      clear R1r
      go_wp2_with fail
      have e1 := HNN.out
      have e2 := HG.out
      refine bodyPost_ret (v := .agg #[.slice ao V.length cap, .slice (some ⟨tb, 0, none⟩) k ncp]) (by simp [results, Tryz.results61, go_sem, c0, c1]) rfl ⟨_, rfl, ?_, (((z0.below).setCell (by show w.heap.size ≤ w.heap.size; omega) _).setCell (by show w.heap.size ≤ w.heap.size; omega) _)⟩
      refine ⟨HV.out, by rw [tabTo_len], _, _, rfl, ownsRow_setCell_other (ownsRow_setCell_other RX3.out ne1 _) ne1 _, ?_⟩
      rw [tabTo_len, ← e1, ← e2]
      exact ownsRow_setCell_other (ownsRow_setCell_other HOwn.out ne2 _) ne2 _

end Go.Proofs.YtefclohjeompkaaGreat

/- RefM: what is needed of it. -/
namespace Go.Proofs.YtefclohjeompkaaGreat
open Go Go.RowKit Go.Proofs.Gen Go.Proofs.Bdd Go.Proofs.Bdd.T
set_option maxRecDepth 100000 in
set_option maxHeartbeats 1600000 in
theorem rite_calls {w : World} {va vb vc : Value} {A B C : List Nat} {f g h : (Nat → Bool) → Bool} (ha : IsS w va A f) (hb : IsS w vb B g) (hc : IsS w vc C h) :
    Calls Tryz.prog 66 #[va, vb, vc] w fun e w' => SPost w (feats (numb (feats (numb A ||| numb B)) ||| numb (feats (numb A ||| numb C)))) (fun c => if f c then g c else h c) e w' := by
  obtain ⟨a1, a2, a3, a4, a5, a6, rfl⟩ := ha.form
  obtain ⟨b1, b2, b3, b4, b5, b6, rfl⟩ := hb.form
  obtain ⟨c1, c2, c3, c4, c5, c6, rfl⟩ := hc.form
  have hN : Near w ((((w.alloc (.cells #[.slice a1 a2 a3, .slice a4 a5 a6] 39)).alloc (.cells #[.slice b1 b2 b3, .slice b4 b5 b6] 39)).alloc (.cells #[.slice c1 c2 c3, .slice c4 c5 c6] 39)).alloc (.cells #[.slice none 0 0, .slice none 0 0] 39)) := ((((Near.refl w).alloc _).alloc _).alloc _).alloc _
  have EA : ((((w.alloc (.cells #[.slice a1 a2 a3, .slice a4 a5 a6] 39)).alloc (.cells #[.slice b1 b2 b3, .slice b4 b5 b6] 39)).alloc (.cells #[.slice c1 c2 c3, .slice c4 c5 c6] 39)).alloc (.cells #[.slice none 0 0, .slice none 0 0] 39)).heap[w.heap.size]? = some (.cells #[.slice a1 a2 a3, .slice a4 a5 a6] 39 (0, 0)) := by
    rw [heap_old_at (by simp <;> omega), heap_old_at (by simp <;> omega), heap_old_at (by simp), heap_new_at rfl]
  have EB : ((((w.alloc (.cells #[.slice a1 a2 a3, .slice a4 a5 a6] 39)).alloc (.cells #[.slice b1 b2 b3, .slice b4 b5 b6] 39)).alloc (.cells #[.slice c1 c2 c3, .slice c4 c5 c6] 39)).alloc (.cells #[.slice none 0 0, .slice none 0 0] 39)).heap[w.heap.size + 1]? = some (.cells #[.slice b1 b2 b3, .slice b4 b5 b6] 39 (0, 0)) := by
    rw [heap_old_at (by simp <;> omega), heap_old_at (by simp), heap_new_at (by simp)]
  have EC : ((((w.alloc (.cells #[.slice a1 a2 a3, .slice a4 a5 a6] 39)).alloc (.cells #[.slice b1 b2 b3, .slice b4 b5 b6] 39)).alloc (.cells #[.slice c1 c2 c3, .slice c4 c5 c6] 39)).alloc (.cells #[.slice none 0 0, .slice none 0 0] 39)).heap[w.heap.size + 1 + 1]? = some (.cells #[.slice c1 c2 c3, .slice c4 c5 c6] 39 (0, 0)) := by
    rw [heap_old_at (by simp), heap_new_at (by simp)]
  have ER : ((((w.alloc (.cells #[.slice a1 a2 a3, .slice a4 a5 a6] 39)).alloc (.cells #[.slice b1 b2 b3, .slice b4 b5 b6] 39)).alloc (.cells #[.slice c1 c2 c3, .slice c4 c5 c6] 39)).alloc (.cells #[.slice none 0 0, .slice none 0 0] 39)).heap[w.heap.size + 1 + 1 + 1]? = some (.cells #[.slice none 0 0, .slice none 0 0] 39 (0, 0)) := heap_new_at (by simp)
  have HA := Lib.hid (ha.near hN)
  have HB := Lib.hid (hb.near hN)
  have HC := Lib.hid (hc.near hN)
  have HEA := Lib.hid EA
  have HEB := Lib.hid EB
  have HEC := Lib.hid EC
  have HER := Lib.hid ER
  have HN := Lib.hid hN
  clear EA EB EC ER ha hb hc hN
  go_enter Tryz.func66, Tryz.ntmps66
  go_upto_region 1 with fail
  generalize ((((w.alloc (.cells #[.slice a1 a2 a3, .slice a4 a5 a6] 39)).alloc (.cells #[.slice b1 b2 b3, .slice b4 b5 b6] 39)).alloc (.cells #[.slice c1 c2 c3, .slice c4 c5 c6] 39)).alloc (.cells #[.slice none 0 0, .slice none 0 0] 39)) = W at *
  have sOf : ∀ w', Near W w' → w'.cell? ⟨w.heap.size, 0, none⟩ = some (.slice a1 a2 a3) ∧ w'.cell? ⟨w.heap.size, 1, none⟩ = some (.slice a4 a5 a6) ∧ w'.cell? ⟨w.heap.size + 1, 0, none⟩ = some (.slice b1 b2 b3) ∧ w'.cell? ⟨w.heap.size + 1, 1, none⟩ = some (.slice b4 b5 b6) ∧ w'.cell? ⟨w.heap.size + 1 + 1, 0, none⟩ = some (.slice c1 c2 c3) ∧ w'.cell? ⟨w.heap.size + 1 + 1, 1, none⟩ = some (.slice c4 c5 c6) :=
    fun w' h => ⟨cell1 (keepN h HEA.out) rfl, cell1 (keepN h HEA.out) rfl, cell1 (keepN h HEB.out) rfl, cell1 (keepN h HEB.out) rfl, cell1 (keepN h HEC.out) rfl, cell1 (keepN h HEC.out) rfl⟩
  have sSt : ∀ wa x y, Near W wa → (fun w' => w'.cell? ⟨w.heap.size, 0, none⟩ = some (.slice a1 a2 a3) ∧ w'.cell? ⟨w.heap.size, 1, none⟩ = some (.slice a4 a5 a6) ∧ w'.cell? ⟨w.heap.size + 1, 0, none⟩ = some (.slice b1 b2 b3) ∧ w'.cell? ⟨w.heap.size + 1, 1, none⟩ = some (.slice b4 b5 b6) ∧ w'.cell? ⟨w.heap.size + 1 + 1, 0, none⟩ = some (.slice c1 c2 c3) ∧ w'.cell? ⟨w.heap.size + 1 + 1, 1, none⟩ = some (.slice c4 c5 c6)) ((wa.setCell ⟨w.heap.size + 1 + 1 + 1, 0, none⟩ x).setCell ⟨w.heap.size + 1 + 1 + 1, 1, none⟩ y) := fun wa x y s => by
    have e : ∀ k o, k ≠ w.heap.size + 1 + 1 + 1 → ((wa.setCell ⟨w.heap.size + 1 + 1 + 1, 0, none⟩ x).setCell ⟨w.heap.size + 1 + 1 + 1, 1, none⟩ y).cell? ⟨k, o, none⟩ = wa.cell? ⟨k, o, none⟩ := fun k o hk =>
      World.cell?_of_block (w := wa) ((Below.heap_setCell _ _ _ _ hk).trans (Below.heap_setCell _ _ _ _ hk))
    have t := sOf wa s
    exact ⟨(e _ _ (by omega)).trans t.1, (e _ _ (by omega)).trans t.2.1, (e _ _ (by omega)).trans t.2.2.1, (e _ _ (by omega)).trans t.2.2.2.1, (e _ _ (by omega)).trans t.2.2.2.2.1, (e _ _ (by omega)).trans t.2.2.2.2.2⟩
  go_region_held3 (fun w' => w'.cell? ⟨w.heap.size, 0, none⟩ = some (.slice a1 a2 a3) ∧ w'.cell? ⟨w.heap.size, 1, none⟩ = some (.slice a4 a5 a6) ∧ w'.cell? ⟨w.heap.size + 1, 0, none⟩ = some (.slice b1 b2 b3) ∧ w'.cell? ⟨w.heap.size + 1, 1, none⟩ = some (.slice b4 b5 b6) ∧ w'.cell? ⟨w.heap.size + 1 + 1, 0, none⟩ = some (.slice c1 c2 c3) ∧ w'.cell? ⟨w.heap.size + 1 + 1, 1, none⟩ = some (.slice c4 c5 c6))
    (first
      | (refine sOf _ ?_; first | exact z4 | exact z3 | exact z2 | exact z1 | exact (Near.refl _).drew)
      | exact sSt _ _ _ z4)
    (first
      | (go_at_call_of 63 (Value.slice b1 b2 b3); refine (rand_calls (HA.out.near (Near.refl _).drew) (HB.out.near (Near.refl _).drew)).mono ?_; rintro e v1 ⟨x1, rfl, s1, m1⟩; have S1 := Lib.hid s1; obtain ⟨x11, x12, x13, x14, x15, x16, rfl⟩ := s1.form; clear s1; have z1 : Near W v1 := (Near.refl _).drew.trans (Near.of_below m1))
      | (go_at_call 62; refine (rnot_calls (HA.out.near z1)).mono ?_; rintro e v2 ⟨x2, rfl, s2, m2⟩; have S2 := Lib.hid s2; obtain ⟨x21, x22, x23, x24, x25, x26, rfl⟩ := s2.form; clear s2; have z2 : Near W v2 := z1.trans (Near.of_below m2))
      | (go_at_call 63; refine (rand_calls S2.out (HC.out.near z2)).mono ?_; rintro e v3 ⟨x3, rfl, s3, m3⟩; have S3 := Lib.hid s3; obtain ⟨x31, x32, x33, x34, x35, x36, rfl⟩ := s3.form; clear s3; have z3 : Near W v3 := z2.trans (Near.of_below m3))
      | (go_at_call 64; refine (ror_calls (S1.out.near ((Near.of_below m2).trans (Near.of_below m3))) S3.out).mono ?_; rintro e v4 ⟨x4, rfl, s4, m4⟩; have S4 := Lib.hid s4; obtain ⟨x41, x42, x43, x44, x45, x46, rfl⟩ := s4.form; clear s4; have z4 : Near W v4 := z3.trans (Near.of_below m4); have q0 := cell1 (o := 0) (keepN z4 HER.out) rfl; have q1 := cell1 (o := 1) (keepN z4 HER.out) rfl; have f0 := free1 (keepN z4 HER.out) 0; have f1 := free1 (keepN z4 HER.out) 1))
  all_goals
    go_wp2_with fail
    refine bodyPost_ret (v := .agg #[.slice x41 x42 x43, .slice x44 x45 x46]) (by simp [results, Tryz.results66, go_sem, q0, q1]) rfl ⟨_, rfl, ?_, (((HN.out.trans z4).below.setCell (by show w.heap.size ≤ w.heap.size + 1 + 1 + 1; omega) _).setCell (by show w.heap.size ≤ w.heap.size + 1 + 1 + 1; omega) _)⟩
    · have st := isS_store S4.out (keepN z4 HER.out)
      have e : (fun c => jop 1 (jop 0 (f c) (g c)) (jop 0 (!(f c)) (h c))) = fun c => if f c then g c else h c := by
        funext c
        cases f c <;> cases g c <;> cases h c <;> rfl
      rw [← e]
      exact st

end Go.Proofs.YtefclohjeompkaaGreat

/- RefN: what is needed of it. -/
namespace Go.Proofs.YtefclohjeompkaaGreat
open Go Go.RowKit Go.Proofs.Gen Go.Proofs.Bdd Go.Proofs.Bdd.T
theorem cubeN_one {i x : Nat} (hi : i < 24) : cubeN (2 ^ i) 0 x = x.testBit i := by
  have hp : (2 : Nat) ^ i < 16777216 := by
    have h1 : (2 : Nat) ^ i < 2 ^ 24 := Nat.pow_lt_pow_right (by omega) hi
    have e24 : (2 : Nat) ^ 24 = 16777216 := by decide
    omega
  have h0 := Nat.two_pow_pos i
  have ha : x &&& 2 ^ i = if x.testBit i = true then 2 ^ i else 0 := by
    apply Nat.eq_of_testBit_eq
    intro j
    rw [Nat.testBit_and, Nat.testBit_two_pow]
    by_cases h : i = j
    · subst h
      cases hx : x.testBit i <;> simp
    · split <;> simp [h]
  rw [cubeN, Nat.mod_eq_of_lt hp, ha, Nat.and_zero]
  cases x.testBit i
  · have : ((0 : Nat) == 2 ^ i) = false := by
      simp only [beq_eq_false_iff_ne, ne_eq]
      omega
    simp [this]
  · simp

theorem cube_one {w : World} {i : Nat} (hi : i < 24) : Calls Tryz.prog 61 #[.int .u32 ((2 ^ i : Nat) : Int), .int .u32 0] w (SPost w (feats (2 ^ i ||| 0)) (fun c => c i)) := by
  have hp : (2 : Nat) ^ i < 4294967296 := by
    have h1 : (2 : Nat) ^ i < 2 ^ 24 := Nat.pow_lt_pow_right (by omega) hi
    have e24 : (2 : Nat) ^ 24 = 16777216 := by decide
    omega
  refine (cube_table (2 ^ i) 0 hp (by decide)).mono ?_
  rintro e w' ⟨v, rfl, hv, hb⟩
  refine ⟨v, rfl, ⟨_, hv, fun c => ?_⟩, hb⟩
  rw [tabTo_rf, cubeN_one hi]
  exact cfg_idx (feats_rising _) c (feats_mem.2 ⟨hi, by rw [Nat.or_zero, Nat.testBit_two_pow]; simp⟩)

end Go.Proofs.YtefclohjeompkaaGreat

/- Below: what is needed of it. -/
namespace Go.Proofs.YtefclohjeompkaaGreat
open Go Go.RowKit Go.Proofs.Gen Go.Proofs.Bdd Go.Proofs.Bdd.T
/-- A decision as a caller gives it: any numbers. -/
structure Dec where
  v : Int
  lo : Int
  hi : Int

def decC (x : Dec) : List Value := [.int .i64 x.v, .int .i64 x.lo, .int .i64 x.hi]

def decs (l : List Dec) : List Value := l.flatMap decC

theorem dec_cells {w : World} {base : Nat} {v : Value} {l : List Dec} (h : w.ownsRow base 84 3 v l.length (decs l)) {k : Nat} {x : Dec} (hk : l[k]? = some x) :
    ∃ g cap, v = .slice (some ⟨g, 0, none⟩) l.length cap ∧ w.cell? ⟨g, k * 3, none⟩ = some (.int .i64 x.v) ∧ w.cell? ⟨g, k * 3 + 1, none⟩ = some (.int .i64 x.lo) ∧ w.cell? ⟨g, k * 3 + 2, none⟩ = some (.int .i64 x.hi) := by
  have hlt : k < l.length := (List.getElem?_eq_some_iff.1 hk).1
  rcases h.2 with ⟨_, h0⟩ | ⟨g, cap, cur, rfl, _, hg, _, _, hs, ht⟩
  · omega
  · refine ⟨g, cap, rfl, ?_⟩
    have at' : ∀ (l : List Dec) (k : Nat) (x : Dec), l[k]? = some x → ∀ j, j < 3 → (decs l)[k * 3 + j]? = (decC x)[j]? := by
      intro l
      induction l with
      | nil => intro k x h; simp at h
      | cons y r ih =>
        intro k x hk j hj
        have e : decs (y :: r) = decC y ++ decs r := rfl
        have ly : (decC y).length = 3 := rfl
        rw [e]
        cases k with
        | zero =>
          simp at hk
          subst hk
          rw [List.getElem?_append_left (by omega), Nat.zero_mul, Nat.zero_add]
        | succ k =>
          rw [List.getElem?_append_right (by omega), ly, show (k + 1) * 3 + j - 3 = k * 3 + j from by omega]
          exact ih k x (by simpa using hk) j hj
    have look : ∀ j, j < 3 → w.cell? ⟨g, k * 3 + j, none⟩ = (decC x)[j]? := by
      intro j hj
      have a := at' l k x hk j hj
      rw [← ht, List.getElem?_take, if_pos (by omega)] at a
      simp only [World.cell?, hg]
      simpa using a
    exact ⟨look 0 (by omega), look 1 (by omega), look 2 (by omega)⟩

end Go.Proofs.YtefclohjeompkaaGreat

/- RefO: what is needed of it. -/
namespace Go.Proofs.YtefclohjeompkaaGreat
open Go Go.RowKit Go.Proofs.Gen Go.Proofs.Bdd Go.Proofs.Bdd.T
theorem sameF_dep (f : (Nat → Bool) → Bool) (i : Nat) : (!sameF (fun c => f (upd c i true)) (fun c => f (upd c i false))) = dep f i := by
  unfold sameF dep
  rw [Bool.eq_iff_iff]
  simp

/-- The features of a list on which a function depends. -/
noncomputable def deps (f : (Nat → Bool) → Bool) (V : List Nat) : List Nat := V.filter (dep f)

theorem deps_len (f : (Nat → Bool) → Bool) (V : List Nat) : (deps f V).length ≤ V.length := List.length_filter_le _ _

theorem deps_snoc (f : (Nat → Bool) → Bool) (V : List Nat) (i : Nat) : deps f (V ++ [i]) = deps f V ++ if dep f i = true then [i] else [] := by
  unfold deps
  rw [List.filter_append]
  simp only [List.filter_cons, List.filter_nil]

theorem rsame_dep {w : World} {va vb : Value} {V : List Nat} {f : (Nat → Bool) → Bool} {i : Nat} {b : Bool} (hb : dep f i = !b) (ha : IsS w va V (fun c => f (upd c i true))) (hb' : IsS w vb V (fun c => f (upd c i false))) :
    Calls Tryz.prog 40 #[va, vb] w fun e w' => e = .returned (.bool b) ∧ Near w w' := by
  have := rsame_calls ha hb'
  rw [← sameF_dep] at hb
  have e : sameF (fun c => f (upd c i true)) (fun c => f (upd c i false)) = b := by
    cases b <;> simpa using hb
  rw [e] at this
  exact this

set_option maxRecDepth 100000 in
set_option maxHeartbeats 1600000 in
theorem rsupport_calls {w : World} {v : Value} {V : List Nat} {f : (Nat → Bool) → Bool} (h : IsS w v V f) :
    Calls Tryz.prog 11 #[v] w fun e w' => e = .returned (.int .u32 (numb (deps f V))) ∧ Near w w' := by
  obtain ⟨i0, hi0, hz0, hz1, hz2⟩ := info_parts info3
  have HA := Lib.hid h
  have hV := h.rise
  obtain ⟨T, ⟨_, hT, sv, st, rfl, r1, r2⟩, hf⟩ := h
  obtain ⟨ao, cap, rfl⟩ := owns_form r1
  obtain ⟨bo, cbp, rfl⟩ := owns_form r2
  have HR := Lib.hid r1
  have HV := Lib.hid hV
  have hl := hV.len
  have hN : Near w (w.alloc (.cells #[.slice ao V.length cap, .slice bo T.length cbp] 39)) := (Near.refl w).alloc _
  have hE : (w.alloc (.cells #[.slice ao V.length cap, .slice bo T.length cbp] 39)).heap[w.heap.size]? = some (.cells #[.slice ao V.length cap, .slice bo T.length cbp] 39 (0, 0)) := heap_new_at rfl
  have HE := Lib.hid hE
  clear r1 r2 hT hf hV hE
  go_enter Tryz.func11, Tryz.ntmps11
  go_wp2_with fail
  generalize (w.alloc (.cells #[.slice ao V.length cap, .slice bo T.length cbp] 39)) = W at hN HE ⊢
  have HN := Lib.hid hN
  clear hN
  go_loopw [3, 4] (fun x i wr => ∃ k : Nat, k ≤ V.length ∧ i = .int .i64 k ∧ wr.ownsRow W.heap.size 3 1 x (deps f (V.take k)).length ((deps f (V.take k)).map iv) ∧ Near W wr) (fun _ i _ => V.length - (intOf i).toNat)
  case atStart => exact ⟨0, Nat.zero_le _, rfl, World.ownsRow_nil _ _ _ _, Near.refl _⟩
  case round =>
    obtain ⟨k, hk, rfl, hown, hkp⟩ := hrel
    have E := Lib.hid (keepN hkp HE.out)
    have c0 := cell1 (o := 0) E.out rfl
    have c1 := cell1 (o := 1) E.out rfl
    have hdl := deps_len f (V.take k)
    rw [List.length_take, Nat.min_eq_left hk] at hdl
    have HO := Lib.hid hown
    clear hown
    by_cases hlt : k < V.length
    · have hlt' : (k : Int) < V.length := by omega
      obtain ⟨g, cap', hv, x0, hg⟩ := row1 HR.out (k := k) (u := iv V[k]) (by simp [hlt]) hlt
      simp only [Value.slice.injEq, true_and] at hv
      obtain ⟨rfl, rfl⟩ := hv
      have y0 := hkp.cell (HN.out.cell x0)
      have hi := (HV.out.all _ (List.getElem_mem hlt)).2
      have hs : deps f (V.take (k + 1)) = deps f (V.take k) ++ if dep f V[k] = true then [V[k]] else [] := by rw [List.take_succ_eq_append_getElem hlt, deps_snoc]
      obtain ⟨i, hii⟩ : ∃ i, i = V[k] := ⟨_, rfl⟩
      rw [← hii] at hs y0 hi
      simp only [iv] at y0
      obtain ⟨D, hD⟩ : ∃ D, D = deps f (V.take k) := ⟨_, rfl⟩
      rw [← hD] at hs hdl HO
      have HS := Lib.hid hs
      have Y0 := Lib.hid y0
      clear hs hD hii x0 y0
      obtain ⟨xo, xc, rfl⟩ := owns_form HO.out
      have hAw := Lib.hid (HA.out.near (HN.out.trans hkp))
      have sOf : ∀ w', Near wr w' → w'.cell? ⟨w.heap.size, 0, none⟩ = some (.slice (some ⟨g, 0, none⟩) V.length cap) ∧ w'.cell? ⟨w.heap.size, 1, none⟩ = some (.slice bo T.length cbp) ∧ w'.cell? ⟨g, k, none⟩ = some (.int .i64 i) :=
        fun w' h => ⟨cell1 (keepN h E.out) rfl, cell1 (keepN h E.out) rfl, h.cell Y0.out⟩
      cases hd : dep f i with
      | true =>
        have HD := Lib.hid hd
        clear hd
        go_wp2_with fail
        go_region_held3 (fun w' => w'.cell? ⟨w.heap.size, 0, none⟩ = some (.slice (some ⟨g, 0, none⟩) V.length cap) ∧ w'.cell? ⟨w.heap.size, 1, none⟩ = some (.slice bo T.length cbp) ∧ w'.cell? ⟨g, k, none⟩ = some (.int .i64 i))
          ((refine sOf _ ?_; first | exact z3 | exact z2 | exact z1 | exact (Near.refl _).drew))
          (first
            | (go_at_call_of 41 (Value.bool true); refine (rwith_calls (hAw.out.near (Near.refl _).drew) i hi true).mono ?_; rintro e v1 ⟨u1, rfl, s1, m1⟩; have z1 : Near wr v1 := (Near.refl _).drew.trans (Near.of_below m1))
            | (go_at_call_of 41 (Value.bool false); refine (rwith_calls (hAw.out.near z1) i hi false).mono ?_; rintro e v2 ⟨u2, rfl, s2, m2⟩; have z2 : Near wr v2 := z1.trans (Near.of_below m2))
            | (go_at_call 40; refine (rsame_dep (b := false) HD.out (s1.near (Near.of_below m2)) s2).mono ?_; rintro e v3 ⟨rfl, n3⟩; have z3 : Near wr v3 := z2.trans n3))
        all_goals
          obtain ⟨p0, p1, p2⟩ := sOf _ z3
          have HO3 := Lib.hid (owns_kept HO.out z3.kept (fun _ _ x => x))
          have HK3 := Lib.hid (hkp.trans z3)
          clear s1 s2 m1 m2 z1 z2 n3 z3 sOf
          clear hkp
          go_wp2_with (first | (at_builtin; refine wpList_append_in rfl (.tmp 28) (.tmp 34) 36 rfl W.heap.size 3 i0 (.int .i64 0) 1 8 Tryz.underlying36 hi0 hz0 hz1 hz2 rfl (by decide) _ _ _ rfl (by exact HO3.out.alloc _) ⟨v3.heap.size, 0, none⟩ 1 1 [.int .i64 i] rfl rfl (by exact cell_one_at rfl _ _) (by simp [Value.oneCell']) (by unfold maxLen; omega) (by omega) (by have := HK3.out.size'; simp; omega) ?_; intro ao' cap' w3 hown3 hg3 hl3))
          have hs' : deps f (V.take (k + 1)) = D ++ [i] := by rw [HS.out, if_pos HD.out]
          refine ⟨⟨k + 1, by omega, by go_num, ?_, (HK3.out.alloc _).grown hg3 (fun j hj hlt => absurd (ownsRow_base HO3.out (m := W.heap.size) j hj hlt) (by omega))⟩, by simp [intOf]; omega⟩
          rw [hs', List.length_append, List.map_append]
          exact hown3
      | false =>
        have HD := Lib.hid hd
        clear hd
        go_wp2_with fail
        go_region_held3 (fun w' => w'.cell? ⟨w.heap.size, 0, none⟩ = some (.slice (some ⟨g, 0, none⟩) V.length cap) ∧ w'.cell? ⟨w.heap.size, 1, none⟩ = some (.slice bo T.length cbp) ∧ w'.cell? ⟨g, k, none⟩ = some (.int .i64 i))
          ((refine sOf _ ?_; first | exact z3 | exact z2 | exact z1 | exact (Near.refl _).drew))
          (first
            | (go_at_call_of 41 (Value.bool true); refine (rwith_calls (hAw.out.near (Near.refl _).drew) i hi true).mono ?_; rintro e v1 ⟨u1, rfl, s1, m1⟩; have z1 : Near wr v1 := (Near.refl _).drew.trans (Near.of_below m1))
            | (go_at_call_of 41 (Value.bool false); refine (rwith_calls (hAw.out.near z1) i hi false).mono ?_; rintro e v2 ⟨u2, rfl, s2, m2⟩; have z2 : Near wr v2 := z1.trans (Near.of_below m2))
            | (go_at_call 40; refine (rsame_dep (b := true) HD.out (s1.near (Near.of_below m2)) s2).mono ?_; rintro e v3 ⟨rfl, n3⟩; have z3 : Near wr v3 := z2.trans n3))
        all_goals
          have HO3 := Lib.hid (owns_kept HO.out z3.kept (fun _ _ x => x))
          have HK3 := Lib.hid (hkp.trans z3)
          clear s1 s2 m1 m2 z1 z2 n3 z3 sOf
          clear hkp
          go_wp2_with fail
          have hs' : deps f (V.take (k + 1)) = D := by rw [HS.out, HD.out]; simp
          refine ⟨⟨k + 1, by omega, by go_num, ?_, HK3.out⟩, by simp [intOf]; omega⟩
          rw [hs']
          exact HO3.out
    · have hkl : k = V.length := by omega
      subst hkl
      rw [List.take_length] at HO
      have hd24 : ∀ i ∈ deps f V, i < 24 := fun i hi => (HV.out.all i (List.mem_filter.1 hi).1).2
      have HD24 := Lib.hid hd24
      have hdl := deps_len f V
      obtain ⟨xo, xc, rfl⟩ := owns_form HO.out
      clear hd24
      go_wp2_with (first
        | (go_at_call 42; refine (number_calls HD24.out (by omega) (ownsRow_low HO.out (Nat.zero_le _))).mono ?_; rintro e v1 ⟨rfl, n1⟩))
      exact bodyPost_ret (v := .int .u32 (numb (deps f V))) (by simp [results, Tryz.results11, go_sem]) rfl ⟨rfl, (HN.out.trans hkp).trans n1⟩

end Go.Proofs.YtefclohjeompkaaGreat

/- OfA: what is needed of it. -/
namespace Go.Proofs.YtefclohjeompkaaGreat
open Go Go.RowKit Go.Proofs.Gen Go.Proofs.Bdd Go.Proofs.Bdd.T
/-- A list of decisions as it is read. -/
def RdDec (w : World) (v : Value) (l : List Dec) : Prop :=
  ∃ ao cap, v = .slice ao l.length cap ∧ ∀ k x, l[k]? = some x → ∃ b off, ao = some ⟨b, off, none⟩ ∧ w.cell? ⟨b, off + k * 3, none⟩ = some (.int .i64 x.v) ∧ w.cell? ⟨b, off + k * 3 + 1, none⟩ = some (.int .i64 x.lo) ∧ w.cell? ⟨b, off + k * 3 + 2, none⟩ = some (.int .i64 x.hi)

theorem RdDec.near {w w' : World} {v : Value} {l : List Dec} (h : RdDec w v l) (hn : Near w w') : RdDec w' v l := by
  obtain ⟨ao, cap, rfl, hc⟩ := h
  refine ⟨ao, cap, rfl, fun k x hk => ?_⟩
  obtain ⟨b, off, e, h0, h1, h2⟩ := hc k x hk
  exact ⟨b, off, e, hn.cell h0, hn.cell h1, hn.cell h2⟩

theorem RdDec.owns {w : World} {base : Nat} {v : Value} {l : List Dec} (h : w.ownsRow base 84 3 v l.length (decs l)) : RdDec w v l := by
  obtain ⟨ao, cap, rfl⟩ := owns_form h
  refine ⟨ao, cap, rfl, fun k x hk => ?_⟩
  obtain ⟨g, c, he, h0, h1, h2⟩ := dec_cells h hk
  cases he
  exact ⟨g, 0, rfl, by simpa using h0, by simpa using h1, by simpa using h2⟩

end Go.Proofs.YtefclohjeompkaaGreat

/- OfB: what is needed of it. -/
namespace Go.Proofs.YtefclohjeompkaaGreat
open Go Go.RowKit Go.Proofs.Gen Go.Proofs.Bdd Go.Proofs.Bdd.T
def mine (b : Nat) (x : Value) : Nat → Prop := fun k => b ≤ k ∧ x.ownBlock ≠ some k

/-- A maker, and beside it places of trees. -/
structure Places (b : Nat) (w : World) (mb : Nat) (x : Value) (ts : List T) (L : List T) : Prop where
  good : T.Good L
  maker : IsMaker w mb (mine b x) L
  row : w.ownsRow b 3 1 x ts.length (ts.map fun t => iv (pl L t))
  inn : ∀ t ∈ ts, In L t

theorem Places.node {b : Nat} {w w1 : World} {mb : Nat} {x : Value} {ts L : List T} {i : Nat} {l h : T} (P : Places b w mb x ts L) (il : In L l) (ih : In L h) (hi : i < 24) (hl : i < l.lv) (hh : i < h.lv) (ol : l.Ok) (oh : h.Ok)
    (hm : IsMaker w1 mb (mine b x) (add L i l h)) (hk : Kept (mine b x) w w1) : Places b w1 mb x ts (add L i l h) := by
  refine ⟨add_good P.good il ih hi hl hh ol oh, hm, ?_, fun t ht => ?_⟩
  · have e : (ts.map fun t => iv (pl (add L i l h) t)) = ts.map fun t => iv (pl L t) := by
      refine List.map_congr_left fun t ht => ?_
      obtain ⟨M, hM⟩ := add_prefix L i l h
      rw [hM, pl_append (P.inn t ht)]
    rw [e]
    exact owns_kept P.row hk (fun k hk => fun hm => hm.2 hk)
  · obtain ⟨M, hM⟩ := add_prefix L i l h
    rw [hM]
    exact (P.inn t ht).mono M

theorem Places.same {b : Nat} {w : World} {mb : Nat} {x : Value} {ts L : List T} (P : Places b w mb x ts L) (i : Nat) (l h : T) : (ts.map fun t => iv (pl L t)) = ts.map fun t => iv (pl (add L i l h) t) := by
  refine List.map_congr_left fun t ht => ?_
  obtain ⟨M, hM⟩ := add_prefix L i l h
  rw [hM, pl_append (P.inn t ht)]

theorem Places.near {b : Nat} {w w1 : World} {mb : Nat} {x : Value} {ts L : List T} (P : Places b w mb x ts L) (hn : Near w w1) : Places b w1 mb x ts L :=
  ⟨P.good, P.maker.near hn, owns_kept P.row hn.kept (fun _ _ x => x), P.inn⟩

theorem Places.push {b : Nat} {w w1 : World} {mb : Nat} {x x1 : Value} {ts L : List T} {t : T} {o : Obj} (P : Places b w mb x ts L) (hin : In L t)
    (hr : w1.ownsRow b 3 1 x1 (ts.length + 1) ((ts.map fun t => iv (pl L t)) ++ [iv (pl L t)])) (hg : (w.alloc o).grownBy w1 x.ownBlock)
    (hb : x1.ownBlock = x.ownBlock ∨ x1.ownBlock = some (w.alloc o).heap.size) : Places b w1 mb x1 (ts ++ [t]) L := by
  refine ⟨P.good, ?_, by rw [List.length_append, List.map_append]; exact hr, fun s hs => ?_⟩
  · have h1 : IsMaker w mb (fun k => b ≤ k ∧ k < w.heap.size ∧ x.ownBlock ≠ some k) L := P.maker.mono_lt fun k hk h => ⟨h.1, hk, h.2⟩
    have h2 : Kept (fun k => x.ownBlock = some k) w w1 := Kept.grown ((Kept.refl _ _).alloc o) hg (fun k hk _ => hk)
    have h3 := h1.of_kept h2 (fun k _ hk => hk.2.2)
    refine h3.mono fun k hk => ⟨hk.1, ?_⟩
    rcases hb with hb | hb
    · rw [hb]
      exact hk.2.2
    · rw [hb]
      intro e
      have := hk.2.1
      simp at e
      omega
  · rcases List.mem_append.1 hs with hs | hs
    · exact P.inn s hs
    · simp at hs
      subst hs
      exact hin

end Go.Proofs.YtefclohjeompkaaGreat
