/- Parts of a proof: RefP, RefQ, RefS, RefT, RefU, RefV, RefW. -/
import Derived.Maps.OwnSet
import Derived.WalkKit
import Derived.Deep.QuietTactic
import Derived.Test.YtefclohjeompkaaGreatProg
import Derived.KernelRfl
import Derived.DeepKeys4
import Derived.Deep.RegionLaw
import Derived.StillTailTactics
import Derived.Maps.AppendAt
import Derived.WalkSpells
import Derived.WalkLawsBesides
import Derived.BigQuiet
import Derived.Lib.Hide
import Derived.Deep.DeepCutAuto
import Derived.Laws.EntriesVeiled
import Derived.Deep.RegionHeld3
import Derived.Laws.OwnMore
import Derived.Deep.Slices
import Derived.Lib.BitFns
import Derived.IntWalk
import Derived.RangeFuncNested
import Derived.RangeFuncBound
import Derived.RangeFuncCalls
import Derived.RangeFuncLeaves
import Derived.Shelf.Abstract
import Derived.Shelf.RegionOpen
import Derived.OwnWalkIn
import Derived.TacticsInMore
import Derived.LoopNIn
import Derived.LoopIn
import Derived.Laws.CopyOwn
import Derived.Test.YtefclohjeompkaaGreatKTreeC
import Derived.Test.YtefclohjeompkaaGreatKRep
import Derived.Test.YtefclohjeompkaaGreatKJoinD
import Derived.Test.YtefclohjeompkaaGreatKCmpA
import Derived.Test.YtefclohjeompkaaGreatKRefH
import Derived.Test.YtefclohjeompkaaGreatKOfB
import Derived.Test.YtefclohjeompkaaGreatKAlike
import Derived.Test.YtefclohjeompkaaGreatKBetA
import Derived.Test.YtefclohjeompkaaGreatKBetB
import Derived.Test.YtefclohjeompkaaGreatKLinF
import Derived.Test.YtefclohjeompkaaGreatKLinH
import Derived.Test.YtefclohjeompkaaGreatKLinJ
import Derived.Test.YtefclohjeompkaaGreatKSteps3
import Derived.Test.YtefclohjeompkaaGreatKFAll
import Derived.Test.YtefclohjeompkaaGreatKOpenA
import Derived.Test.YtefclohjeompkaaGreatKColl
/- RefP: what is needed of it. -/
namespace Go.Proofs.YtefclohjeompkaaGreat
open Go Go.RowKit Go.Proofs.Gen Go.Proofs.Bdd Go.Proofs.Bdd.T
theorem cubeN_cubeF {on off : Nat} (c : Nat → Bool) : cubeN on off (cfg (feats (on ||| off)) (idx (feats (on ||| off)) c)) = cubeF on off c := by
  have hr := feats_rising (on ||| off)
  obtain ⟨x, hx⟩ : ∃ x, x = cfg (feats (on ||| off)) (idx (feats (on ||| off)) c) := ⟨_, rfl⟩
  have hb : ∀ i, x.testBit i = (decide (i < 24) && (on.testBit i || off.testBit i) && c i) := fun i => by
    rw [hx, cfg_bit hr, bitOf_idx]
    congr 1
    rw [Bool.eq_iff_iff]
    simp [feats_mem]
  rw [← hx, cubeN, Bool.eq_iff_iff, cubeF_iff, Bool.and_eq_true, beq_iff_eq, beq_iff_eq]
  have e24 : (16777216 : Nat) = 2 ^ 24 := by decide
  constructor
  · rintro ⟨h1, h2⟩ i hi
    have b1 : (x &&& on).testBit i = (on % 16777216).testBit i := by rw [h1]
    have b2 : (x &&& off).testBit i = false := by rw [h2]; simp
    rw [Nat.testBit_and, hb, e24, Nat.testBit_mod_two_pow] at b1
    rw [Nat.testBit_and, hb] at b2
    unfold lit
    cases ho : on.testBit i <;> cases hf : off.testBit i <;> cases hc : c i <;> simp [ho, hf, hc, hi] at b1 b2 ⊢
  · intro h
    constructor
    · apply Nat.eq_of_testBit_eq
      intro i
      rw [Nat.testBit_and, hb, e24, Nat.testBit_mod_two_pow]
      by_cases hi : i < 24
      · have := h i hi
        unfold lit at this
        cases ho : on.testBit i <;> cases hf : off.testBit i <;> cases hc : c i <;> simp [ho, hf, hc, hi] at this ⊢
      · simp [hi]
    · apply Nat.eq_of_testBit_eq
      intro i
      rw [Nat.testBit_and, hb, Nat.zero_testBit]
      by_cases hi : i < 24
      · have := h i hi
        unfold lit at this
        cases ho : on.testBit i <;> cases hf : off.testBit i <;> cases hc : c i <;> simp [ho, hf, hc, hi] at this ⊢
      · simp [hi]

theorem rcube_f {w : World} {on off : Nat} (h1 : on < 4294967296) (h2 : off < 4294967296) : Calls Tryz.prog 61 #[.int .u32 on, .int .u32 off] w (SPost w (feats (on ||| off)) (cubeF on off)) := by
  refine (cube_table on off h1 h2).mono ?_
  rintro e w' ⟨v, rfl, hv, hb⟩
  refine ⟨v, rfl, ⟨_, hv, fun c => ?_⟩, hb⟩
  rw [tabTo_rf, cubeN_cubeF]

theorem updI_nat (c : Nat → Bool) (i : Nat) (b : Bool) : updI c (i : Int) b = upd c i b := by
  funext j
  unfold updI upd
  by_cases h : j = i
  · rw [if_pos (by omega), if_pos h]
  · rw [if_neg (by omega), if_neg h]

theorem rising_in : ∀ {V : List Nat} {m : Nat}, Rising m V → ∀ {i : Nat}, i ∈ V → i < 24
  | [], _, _, _, hi => by cases hi
  | j :: V, m, h, i, hi => by
    rcases List.mem_cons.1 hi with rfl | hi
    · have := h.2.le
      omega
    · exact rising_in h.2 hi

/-- A set of the reference does not look beyond its features. -/
theorem IsS.high {w : World} {v : Value} {V : List Nat} {f : F} (h : IsS w v V f) {c d : Nat → Bool} (hcd : ∀ i, i < 24 → c i = d i) : f c = f d := by
  obtain ⟨T, hr, hf⟩ := h
  rw [← hf, ← hf]
  exact rf_congr fun i hi => hcd i (rising_in hr.1 hi)

set_option maxRecDepth 100000 in
set_option maxHeartbeats 800000 in
theorem rwith_out {w : World} {va : Value} {V : List Nat} {f : F} (h : IsS w va V f) (i : Int) (hi : i < 0 ∨ 23 < i) (on : Bool) : Calls Tryz.prog 41 #[va, .int .i64 i, .bool on] w (SPost w V (fun c => f (updI c i on))) := by
  have hs : ∀ c, f (updI c i on) = f c := fun c => h.high fun j hj => by
    unfold updI
    rw [if_neg (by omega)]
  have hn : IsS w va V (fun c => f (updI c i on)) := by
    obtain ⟨T, hr, hf⟩ := h
    exact ⟨T, hr, fun c => (hf c).trans (hs c).symm⟩
  have HN := Lib.hid hn
  obtain ⟨ao, n, cap, bo, m, cbp, rfl⟩ := h.form
  clear hn hs h
  rcases hi with hi | hi
  · go_enter Tryz.func41, Tryz.ntmps41
    go_wp2_with fail
    have hn1 := ((Near.refl w).alloc (.cells #[.slice ao n cap, .slice bo m cbp] 39)).alloc (.cells #[.slice ao n cap, .slice bo m cbp] 39)
    have hb : ((w.alloc (.cells #[.slice ao n cap, .slice bo m cbp] 39)).alloc (.cells #[.slice ao n cap, .slice bo m cbp] 39)).heap[w.heap.size + 1]? = some (.cells #[.slice ao n cap, .slice bo m cbp] 39 (0, 0)) := heap_new_at (by simp)
    have q0 := cell1 (o := 0) hb rfl
    have q1 := cell1 (o := 1) hb rfl
    exact bodyPost_ret (v := .agg #[.slice ao n cap, .slice bo m cbp]) (by simp [results, Tryz.results41, go_sem, q0, q1]) rfl ⟨_, rfl, HN.out.near hn1, hn1.below⟩
  · have hi0 : ¬ i < 0 := by omega
    go_enter Tryz.func41, Tryz.ntmps41
    go_wp2_with fail
    have hn1 := ((Near.refl w).alloc (.cells #[.slice ao n cap, .slice bo m cbp] 39)).alloc (.cells #[.slice ao n cap, .slice bo m cbp] 39)
    have hb : ((w.alloc (.cells #[.slice ao n cap, .slice bo m cbp] 39)).alloc (.cells #[.slice ao n cap, .slice bo m cbp] 39)).heap[w.heap.size + 1]? = some (.cells #[.slice ao n cap, .slice bo m cbp] 39 (0, 0)) := heap_new_at (by simp)
    have q0 := cell1 (o := 0) hb rfl
    have q1 := cell1 (o := 1) hb rfl
    exact bodyPost_ret (v := .agg #[.slice ao n cap, .slice bo m cbp]) (by simp [results, Tryz.results41, go_sem, q0, q1]) rfl ⟨_, rfl, HN.out.near hn1, hn1.below⟩

theorem rwith_f {w : World} {va : Value} {V : List Nat} {f : F} (h : IsS w va V f) (i : Int) (on : Bool) : Calls Tryz.prog 41 #[va, .int .i64 i, .bool on] w (SPost w V (fun c => f (updI c i on))) := by
  by_cases hi : 0 ≤ i ∧ i < 24
  · obtain ⟨k, rfl⟩ : ∃ k : Nat, i = k := ⟨i.toNat, by omega⟩
    have e : (fun c => f (updI c (k : Int) on)) = fun c => f (upd c k on) := funext fun c => by rw [updI_nat]
    rw [e]
    exact rwith_calls h k (by omega) on
  · exact rwith_out h i (by omega) on

end Go.Proofs.YtefclohjeompkaaGreat

/- RefQ: what is needed of it. -/
namespace Go.Proofs.YtefclohjeompkaaGreat
open Go Go.RowKit Go.Proofs.Gen Go.Proofs.Bdd Go.Proofs.Bdd.T
def betN (low high : Int) (c : Nat) : Bool := decide (low ≤ ((feats c).length : Int)) && decide (((feats c).length : Int) ≤ high)

set_option maxRecDepth 100000 in
set_option maxHeartbeats 1600000 in
theorem bet_table {w : World} (f : Nat) (low high : Int) (hf : f < 4294967296) :
    Calls Tryz.prog 68 #[.int .u32 f, .int .i64 low, .int .i64 high] w fun e w' => ∃ v, e = .returned v ∧ IsR w' v (feats f) (tabTo (2 ^ (feats f).length) (fun k => betN low high (cfg (feats f) k)) (2 ^ (feats f).length)) ∧ Below w.heap.size w w' := by
  have hV := feats_rising f
  obtain ⟨V, hVV⟩ : ∃ V, V = feats f := ⟨_, rfl⟩
  rw [← hVV] at hV ⊢
  have HV := Lib.hid hV
  have HU := Lib.hid hVV
  have HOR := Lib.hid hf
  clear hV hVV hf
  have HN3 := Lib.hid ((Near.refl w).alloc (.cells #[.slice none 0 0, .slice none 0 0] 39))
  have HEC := Lib.hid (heap_new_at (w := w) (o := .cells #[.slice none 0 0, .slice none 0 0] 39) rfl)
  go_enter Tryz.func68, Tryz.ntmps68
  go_wp2_with (first
    | (go_at_call 10; refine (features_calls _ HOR.out _).mono ?_; rw [← HU.out]; rintro e w4 ⟨x, rfl, rx, n4⟩; have RX := Lib.hid rx; clear rx)
    | (go_at_call 79; refine (blank_calls HV.out (ownsRow_low RX.out (Nat.zero_le _))).mono ?_; rintro e w5 ⟨sn, rfl, rn, n5⟩; have RN := Lib.hid rn; clear rn; obtain ⟨ao, cap, rfl⟩ := owns_form RX.out; obtain ⟨no, ncp, rfl⟩ := owns_form RN.out))
  obtain ⟨tb, tcp, tcur, htv, htg, -, htb⟩ := row1' RN.out (k := 0) (u := .bool false) (by simp [Nat.two_pow_pos]) (Nat.two_pow_pos _)
  simp only [Value.slice.injEq, true_and] at htv
  obtain ⟨rfl, rfl⟩ := htv
  have htl : tb < w5.heap.size := (Array.getElem?_eq_some_iff.1 htg).1
  have W45 : Near w (w5.alloc (.cells #[.slice ao V.length cap, .slice (some ⟨tb, 0, none⟩) (2 ^ V.length) ncp] 39)) := ((HN3.out.trans n4).trans n5).alloc _
  have HWW := Lib.hid W45
  have EC4 := Lib.hid (heap_old_at (o := .cells #[.slice ao V.length cap, .slice (some ⟨tb, 0, none⟩) (2 ^ V.length) ncp] 39) (Array.getElem?_eq_some_iff.1 (keepN n5 (keepN n4 HEC.out))).1 |>.trans (keepN n5 (keepN n4 HEC.out)))
  have EO : (w5.alloc (.cells #[.slice ao V.length cap, .slice (some ⟨tb, 0, none⟩) (2 ^ V.length) ncp] 39)).heap[w5.heap.size]? = some (.cells #[.slice ao V.length cap, .slice (some ⟨tb, 0, none⟩) (2 ^ V.length) ncp] 39 (0, 0)) := heap_new_at rfl
  have HEO := Lib.hid EO
  have RNW := Lib.hid (ownsRow_low (RN.out.alloc (.cells #[.slice ao V.length cap, .slice (some ⟨tb, 0, none⟩) (2 ^ V.length) ncp] 39)) (Nat.zero_le _))
  have hWs : w5.heap.size < (w5.alloc (.cells #[.slice ao V.length cap, .slice (some ⟨tb, 0, none⟩) (2 ^ V.length) ncp] 39)).heap.size := by simp
  have lV := HV.out.len
  have hw4 : w.heap.size + 1 ≤ w4.heap.size := by simpa using n4.size'
  have W44 := Lib.hid (n5.alloc (.cells #[.slice ao V.length cap, .slice (some ⟨tb, 0, none⟩) (2 ^ V.length) ncp] 39))
  have RX2 := Lib.hid (ownsRow_low RX.out (Nat.zero_le _))
  clear W45 EO RN RX HEC n4 n5 htg HN3
  obtain ⟨N, hN⟩ : ∃ N, N = 2 ^ V.length := ⟨_, rfl⟩
  have hNb : N ≤ 16777216 := by
    have hp : (2 : Nat) ^ V.length ≤ 2 ^ 24 := Nat.pow_le_pow_right (by omega) (by omega)
    have e24 : (2 : Nat) ^ 24 = 16777216 := by decide
    omega
  rw [← hN] at hWs HWW HEO RNW W44 EC4 ⊢
  have HNN := Lib.hid hN
  clear hN
  generalize (w5.alloc (.cells #[.slice ao V.length cap, .slice (some ⟨tb, 0, none⟩) N ncp] 39)) = W at hWs HWW HEO RNW W44 EC4 ⊢
  have HG : ∃ g : Nat → Bool, g = fun k => betN low high (cfg V k) := ⟨_, rfl⟩
  obtain ⟨g, hg⟩ := HG
  have HG := Lib.hid hg
  clear hg
  go_loopw [8] (fun i wr => ∃ k : Nat, k ≤ N ∧ i = .int .i64 k ∧ wr.ownsRow 0 4 1 (.slice (some ⟨tb, 0, none⟩) N ncp) N ((tabTo N g k).map Value.bool) ∧ Kept (fun b => b = tb) W wr) (fun i _ => N - (intOf i).toNat)
  case atStart =>
    refine ⟨0, Nat.zero_le _, rfl, ?_, Kept.refl _ _⟩
    rw [tabTo_zero]
    exact RNW.out
  case round =>
    obtain ⟨k, hk, rfl, hown, hkp⟩ := hrel
    have z0 : Near w wr := Kept.mono ((HWW.out.kept (S := fun b => b = tb)).trans hkp) (fun b hb e => by omega)
    have xo' : wr.heap[w5.heap.size]? = some (.cells #[.slice ao V.length cap, .slice (some ⟨tb, 0, none⟩) N ncp] 39 (0, 0)) := (hkp.block _ hWs (by omega)).trans HEO.out
    have z4 : Near w4 wr := Kept.mono ((W44.out.kept (S := fun b => b = tb)).trans hkp) (fun b hb e => by omega)
    have o0 := cell1 (o := 0) xo' rfl
    have o1 := cell1 (o := 1) xo' rfl
    have HOwn := Lib.hid hown
    have HXO := Lib.hid xo'
    clear xo' hown
    by_cases hlt : k < N
    · have hlt' : (k : Int) < N := by omega
      obtain ⟨tcur', htk, u0, hu0⟩ : ∃ cur, wr.heap[tb]? = some (.cells cur 4 (0, 0)) ∧ ∃ u, cur[k]? = some u := by
        obtain ⟨g', c', cur, e, hg', hc', _⟩ := row1' HOwn.out (k := k) (u := .bool ((tabTo N g k)[k]'(by rw [tabTo_len]; exact hlt))) (by rw [List.getElem?_map, List.getElem?_eq_getElem (by rw [tabTo_len]; exact hlt)]; rfl) hlt
        cases e
        exact ⟨cur, hg', _, hc'⟩
      have t0 := cell1 htk hu0
      have tf := free1 htk k
      have hgk : g k = betN low high (cfg V k) := by rw [HG.out]
      have hts : ((tabTo N g (k + 1)).map Value.bool) = ((tabTo N g k).map Value.bool).set k (.bool (g k)) := by rw [tabTo_succ, List.map_set]
      have HGK := Lib.hid hgk
      have HTS := Lib.hid hts
      have HTK := Lib.hid htk
      have HU0 := Lib.hid hu0
      clear hgk hts htk hu0 t0 tf
      have HC6 := Lib.hid (show cfg V k < 4294967296 by have := cfg_lt HV.out k; omega)
      obtain ⟨n, hn⟩ : ∃ n, n = (feats (cfg V k)).length := ⟨_, rfl⟩
      have hz : g k = (decide (low ≤ (n : Int)) && decide ((n : Int) ≤ high)) := by rw [HGK.out, betN, hn]
      have HZ := Lib.hid hz
      have HNn := Lib.hid hn
      clear hz hn
      have hend : ∀ w6, Near wr w6 → ∀ z, z = g k → ∀ wz, wz = w6.setCell ⟨tb, k, none⟩ (.bool z) → wz.ownsRow 0 4 1 (.slice (some ⟨tb, 0, none⟩) N ncp) N ((tabTo N g (k + 1)).map Value.bool) ∧ Kept (fun b => b = tb) W wz := by
        rintro w6 n6 z rfl wz rfl
        rw [HTS.out]
        exact ⟨((owns_kept HOwn.out n6.kept (fun _ _ x => x)).stored k _).1, (hkp.trans n6.kept).setCell (fun _ => rfl) _⟩
      have fin : ∀ w6, Near wr w6 → ∀ z, z = g k → (∃ q : Nat, q ≤ N ∧ (Value.int .i64 ((k : Int) + 1)) = .int .i64 q ∧ (w6.setCell ⟨tb, k, none⟩ (.bool z)).ownsRow 0 4 1 (.slice (some ⟨tb, 0, none⟩) N ncp) N ((tabTo N g q).map Value.bool) ∧ Kept (fun b => b = tb) W (w6.setCell ⟨tb, k, none⟩ (.bool z))) := fun w6 n6 z hz =>
        ⟨k + 1, by omega, by simp, (hend _ n6 _ hz _ rfl).1, (hend _ n6 _ hz _ rfl).2⟩
      have HFin := Lib.hid fin
      clear fin hend
      by_cases hb1 : low ≤ (n : Int)
      · by_cases hb2 : (n : Int) ≤ high
        · have hz : g k = true := by rw [HZ.out]; simp [hb1, hb2]
          have HZ2 := Lib.hid hz
          clear hz
          go_wp2_with (first
            | (go_at_call 37; refine (config_calls HV.out (by omega) (owns_kept RX2.out z4.kept (fun _ _ x => x)) k (by omega)).mono ?_; rintro e w6 ⟨rfl, n6⟩; have HN6 := Lib.hid n6; clear n6)
            | (go_at_call 10; refine (features_calls _ HC6.out _).mono ?_; rw [← HNn.out]; rintro e w7 ⟨x, rfl, rx, n7⟩; have HN7 := Lib.hid (HN6.out.trans n7); obtain ⟨xo, xc, rfl⟩ := owns_form rx; clear rx n7; have p1 := cell1 (o := 1) (keepN HN7.out HXO.out) rfl; have t0 := cell1 (keepN HN7.out HTK.out) HU0.out; have tf := free1 (keepN HN7.out HTK.out) k))
          exact ⟨HFin.out _ HN7.out _ (by rw [HZ2.out]), by simp [intOf]; omega⟩
        · have hb2' : high < (n : Int) := by omega
          have hz : g k = false := by rw [HZ.out]; simp [hb2]
          have HZ2 := Lib.hid hz
          clear hz
          go_wp2_with (first
            | (go_at_call 37; refine (config_calls HV.out (by omega) (owns_kept RX2.out z4.kept (fun _ _ x => x)) k (by omega)).mono ?_; rintro e w6 ⟨rfl, n6⟩; have HN6 := Lib.hid n6; clear n6)
            | (go_at_call 10; refine (features_calls _ HC6.out _).mono ?_; rw [← HNn.out]; rintro e w7 ⟨x, rfl, rx, n7⟩; have HN7 := Lib.hid (HN6.out.trans n7); obtain ⟨xo, xc, rfl⟩ := owns_form rx; clear rx n7; have p1 := cell1 (o := 1) (keepN HN7.out HXO.out) rfl; have t0 := cell1 (keepN HN7.out HTK.out) HU0.out; have tf := free1 (keepN HN7.out HTK.out) k))
          exact ⟨HFin.out _ HN7.out _ (by rw [HZ2.out]; exact decide_eq_false (by omega)), by simp [intOf]; omega⟩
      · have hb1' : (n : Int) < low := by omega
        have hz : g k = false := by rw [HZ.out]; simp [hb1]
        have HZ2 := Lib.hid hz
        clear hz
        go_wp2_with (first
          | (go_at_call 37; refine (config_calls HV.out (by omega) (owns_kept RX2.out z4.kept (fun _ _ x => x)) k (by omega)).mono ?_; rintro e w6 ⟨rfl, n6⟩; have HN6 := Lib.hid n6; clear n6)
          | (go_at_call 10; refine (features_calls _ HC6.out _).mono ?_; rw [← HNn.out]; rintro e w7 ⟨x, rfl, rx, n7⟩; have HN7 := Lib.hid (HN6.out.trans n7); obtain ⟨xo, xc, rfl⟩ := owns_form rx; clear rx n7; have p1 := cell1 (o := 1) (keepN HN7.out HXO.out) rfl; have t0 := cell1 (keepN HN7.out HTK.out) HU0.out; have tf := free1 (keepN HN7.out HTK.out) k))
        exact ⟨HFin.out _ HN7.out _ (by rw [HZ2.out]), by simp [intOf]; omega⟩
    · have hkN : k = N := by omega
      subst hkN
      have rc := (hkp.block _ (by omega) (by omega)).trans EC4.out
      have c0 := cell1 (o := 0) rc rfl
      have c1 := cell1 (o := 1) rc rfl
      have f0 := free1 rc 0
      have f1 := free1 rc 1
      have R1r := owns_kept (R := fun _ => False) RX2.out z4.kept (fun _ _ x => x)
      have ne1 := owns_ne R1r rc (by decide : (3 : Nat) ≠ 39)
      have ne2 := owns_ne HOwn.out rc (by decide : (4 : Nat) ≠ 39)
      have RX3 := Lib.hid R1r
      clear R1r
      go_wp2_with fail
      have e1 := HNN.out
      have e2 := HG.out
      refine bodyPost_ret (v := .agg #[.slice ao V.length cap, .slice (some ⟨tb, 0, none⟩) k ncp]) (by simp [results, Tryz.results68, go_sem, c0, c1]) rfl ⟨_, rfl, ?_, (((z0.below).setCell (by show w.heap.size ≤ w.heap.size; omega) _).setCell (by show w.heap.size ≤ w.heap.size; omega) _)⟩
      refine ⟨HV.out, by rw [tabTo_len], _, _, rfl, ownsRow_setCell_other (ownsRow_setCell_other RX3.out ne1 _) ne1 _, ?_⟩
      rw [tabTo_len, ← e1, ← e2]
      exact ownsRow_setCell_other (ownsRow_setCell_other HOwn.out ne2 _) ne2 _

theorem cntFrom_len (f : Nat) (c : Nat → Bool) : ∀ n k, cntFrom f c k n = ((List.range' k n).filter fun i => f.testBit i && c i).length
  | 0, _ => rfl
  | n + 1, k => by
    rw [cntFrom, cntFrom_len f c n (k + 1), List.range'_succ, List.filter_cons]
    split
    · rw [List.length_cons]; omega
    · omega

theorem betN_betF (f : Nat) (low high : Int) (c : Nat → Bool) : betN low high (cfg (feats f) (idx (feats f) c)) = betF f low high c := by
  have hr := feats_rising f
  have hl : (feats (cfg (feats f) (idx (feats f) c))).length = cntFrom f c 0 24 := by
    rw [cntFrom_len]
    unfold feats featsTo
    rw [List.range_eq_range']
    congr 1
    refine List.filter_congr fun i hi => ?_
    have hi24 : i < 24 := by simpa using hi
    have hb := cfg_bit hr (idx (feats f) c) i
    rw [bitOf_idx] at hb
    unfold feats featsTo at hb
    rw [List.range_eq_range'] at hb
    rw [hb]
    congr 1
    rw [Bool.eq_iff_iff]
    simp [hi24]
  unfold betN betF bet
  rw [hl]

theorem rbet_f {w : World} {f : Nat} (hf : f < 4294967296) (low high : Int) : Calls Tryz.prog 68 #[.int .u32 f, .int .i64 low, .int .i64 high] w (SPost w (feats f) (betF f low high)) := by
  refine (bet_table f low high hf).mono ?_
  rintro e w' ⟨v, rfl, hv, hb⟩
  refine ⟨v, rfl, ⟨_, hv, fun c => ?_⟩, hb⟩
  rw [tabTo_rf, betN_betF]

end Go.Proofs.YtefclohjeompkaaGreat

/- RefS: what is needed of it. -/
namespace Go.Proofs.YtefclohjeompkaaGreat
open Go Go.RowKit Go.Proofs.Gen Go.Proofs.Bdd Go.Proofs.Bdd.T
set_option maxRecDepth 100000 in
set_option maxHeartbeats 800000 in
theorem costs_calls {w : World} {v : Value} {l : List Int} (h : RdInts w v l) (hl : l.length ≤ 1000) : Calls Tryz.prog 92 #[v] w fun e w' => e = .returned (.bool (decide (CostsOk l))) ∧ Near w w' := by
  obtain ⟨ao, cap, rfl, hc⟩ := h
  have HC := Lib.hid hc
  clear hc
  go_enter Tryz.func92, Tryz.ntmps92
  go_wp2_with fail
  go_loopw [3] (fun i wr => ∃ k : Nat, k ≤ l.length ∧ i = .int .i64 k ∧ (∀ y ∈ l.take k, -2147483648 ≤ y ∧ y ≤ 2147483648) ∧ wr = w) (fun i _ => l.length - (intOf i).toNat)
  case atStart => exact ⟨0, Nat.zero_le _, rfl, by simp, rfl⟩
  case round =>
    obtain ⟨k, hk, rfl, htk, rfl⟩ := hrel
    have HTK := Lib.hid htk
    clear htk
    by_cases hlt : k < l.length
    · have hlt' : (k : Int) < l.length := by omega
      obtain ⟨g, off, rfl, p0⟩ := HC.out k _ (List.getElem?_eq_getElem hlt)
      have hs : l.take (k + 1) = l.take k ++ [l[k]] := List.take_succ_eq_append_getElem hlt
      have hm : l[k] ∈ l := List.getElem_mem hlt
      have HS := Lib.hid hs
      have HM := Lib.hid hm
      clear hs hm
      generalize l[k] = d at p0 HS HM
      have HBad := Lib.hid (show ¬ (-2147483648 ≤ d ∧ d ≤ 2147483648) → decide (CostsOk l) = false from fun h => decide_eq_false fun hc => h (hc.2 d HM.out))
      by_cases h1 : d < -2147483648
      · go_wp2_with fail
        refine bodyPost_ret (v := .bool false) (by simp [results, Tryz.results92, go_sem]) rfl ⟨?_, Near.refl _⟩
        rw [HBad.out (by omega)]
      · by_cases h2 : 2147483648 < d
        · go_wp2_with fail
          refine bodyPost_ret (v := .bool false) (by simp [results, Tryz.results92, go_sem]) rfl ⟨?_, Near.refl _⟩
          rw [HBad.out (by omega)]
        · go_wp2_with fail
          refine ⟨⟨k + 1, hlt, by go_num, fun y hy => ?_, trivial⟩, by simp [intOf]; omega⟩
          rw [HS.out] at hy
          rcases List.mem_append.1 hy with hy | hy
          · exact HTK.out y hy
          · rw [List.mem_singleton.1 hy]
            omega
    · have hlt' : ¬ (k : Int) < l.length := by omega
      have hall : decide (CostsOk l) = decide ((l.length : Int) ≤ 24) := by
        have h := HTK.out
        rw [List.take_of_length_le (by omega)] at h
        exact decide_eq_decide.2 ⟨fun h => by have := h.1; omega, fun h' => ⟨by omega, h⟩⟩
      have HAll := Lib.hid hall
      clear hall
      go_wp2_with fail
      refine bodyPost_ret (v := .bool (decide ((l.length : Int) ≤ 24))) (by simp [results, Tryz.results92, go_sem]) rfl ⟨?_, Near.refl _⟩
      rw [HAll.out]

/-- The cost of the first k features that a configuration has. -/
def costSum (l : List Int) (c : Nat → Bool) : Nat → Int
  | 0 => 0
  | k + 1 => costSum l c k + if c k then costOf l k else 0

theorem costSum_le {l : List Int} (h : CostsOk l) (c : Nat → Bool) : ∀ k : Nat, -(2147483648 * (k : Int)) ≤ costSum l c k ∧ costSum l c k ≤ 2147483648 * (k : Int)
  | 0 => by simp [costSum]
  | k + 1 => by
    have ih := costSum_le h c k
    have h1 := costOf_le h k
    unfold costSum
    split <;> omega

set_option maxRecDepth 100000 in
set_option maxHeartbeats 800000 in
theorem cost_calls {w : World} {v : Value} {l : List Int} (h : RdInts w v l) (hok : CostsOk l) (c : Nat) (hc : c < 4294967296) : Calls Tryz.prog 93 #[v, .int .u32 c] w fun e w' => e = .returned (.int .i64 (costSum l c.testBit l.length)) ∧ Near w w' := by
  have hl := hok.1
  have HOK := Lib.hid hok
  obtain ⟨ao, cap, rfl, hcl⟩ := h
  have HC := Lib.hid hcl
  clear hcl hok
  go_enter Tryz.func93, Tryz.ntmps93
  go_wp2_with fail
  go_loopw [5, 6] (fun s i wr => ∃ k : Nat, k ≤ l.length ∧ i = .int .i64 k ∧ s = .int .i64 (costSum l c.testBit k) ∧ wr = w) (fun _ i _ => l.length - (intOf i).toNat)
  case atStart => exact ⟨0, Nat.zero_le _, rfl, rfl, rfl⟩
  case round =>
    obtain ⟨k, hk, rfl, rfl, rfl⟩ := hrel
    by_cases hlt : k < l.length
    · have hlt' : (k : Int) < l.length := by omega
      have hk24 : (k : Int) < 24 := by omega
      obtain ⟨g, off, rfl, p0⟩ := HC.out k _ (List.getElem?_eq_getElem hlt)
      have hd : l[k] = costOf l k := by
        unfold costOf
        rw [List.getD_eq_getElem?_getD, List.getElem?_eq_getElem hlt]
        rfl
      rw [hd] at p0
      clear hd
      have b1 := costSum_le HOK.out c.testBit k
      have b2 := costOf_le HOK.out k
      obtain ⟨s, hs⟩ : ∃ s, s = costSum l c.testBit k := ⟨_, rfl⟩
      obtain ⟨d, hd⟩ : ∃ d, d = costOf l k := ⟨_, rfl⟩
      obtain ⟨b, hb⟩ : ∃ b, b = c.testBit k := ⟨_, rfl⟩
      have hn : costSum l c.testBit (k + 1) = s + if b = true then d else 0 := by rw [hs, hd, hb]; rfl
      have HNx := Lib.hid hn
      have HB := Lib.hid hb
      rw [← hs] at b1 ⊢
      rw [← hd] at b2 p0
      clear hn hs hd hb
      have hsel := selected_calls c k hc (by omega)
      rw [← HB.out] at hsel
      have HSel := Lib.hid hsel
      clear hsel
      cases b
      · go_wp2_with (go_at_call 80; refine (HSel.out _).mono ?_; rintro e w5 ⟨rfl, rfl⟩)
        exact ⟨⟨k + 1, hlt, by go_num, by rw [HNx.out]; simp, trivial⟩, by simp [intOf]; omega⟩
      · go_wp2_with (go_at_call 80; refine (HSel.out _).mono ?_; rintro e w5 ⟨rfl, rfl⟩)
        exact ⟨⟨k + 1, hlt, by go_num, by rw [HNx.out]; simp, trivial⟩, by simp [intOf]; omega⟩
    · have hke : k = l.length := by omega
      have hlt' : ¬ (k : Int) < l.length := by omega
      go_wp2_with fail
      exact bodyPost_ret (v := .int .i64 (costSum l c.testBit l.length)) (by simp [results, Tryz.results93, go_sem]) rfl ⟨rfl, Near.refl _⟩

end Go.Proofs.YtefclohjeompkaaGreat

/- RefT: what is needed of it. -/
namespace Go.Proofs.YtefclohjeompkaaGreat
open Go Go.RowKit Go.Proofs.Gen Go.Proofs.Bdd Go.Proofs.Bdd.T
/-- The features below k whose cost is not 0. -/
def nz (l : List Int) (k : Nat) : List Nat := (List.range k).filter fun i => costOf l i != 0

theorem nz_succ (l : List Int) (k : Nat) : nz l (k + 1) = nz l k ++ if costOf l k = 0 then [] else [k] := by
  unfold nz
  rw [List.range_succ, List.filter_append]
  congr 1
  by_cases h : costOf l k = 0
  · rw [if_pos h]
    simp [h]
  · rw [if_neg h]
    simp [h]

theorem nz_mem {l : List Int} {k i : Nat} : i ∈ nz l k ↔ i < k ∧ costOf l i ≠ 0 := by
  unfold nz
  simp

theorem nz_rising (l : List Int) : ∀ k, k ≤ 24 → Rising 0 (nz l k)
  | 0, _ => by show (0 : Nat) ≤ 24; omega
  | k + 1, h => by
    have ih := nz_rising l k (by omega)
    rw [nz_succ]
    split
    · rw [List.append_nil]
      exact ih
    · exact ih.snoc (Nat.zero_le _) (fun j hj => (nz_mem.1 hj).1) (by omega)

theorem nz_len (l : List Int) (k : Nat) : (nz l k).length ≤ k := Nat.le_trans (List.length_filter_le _ _) (by simp)

theorem costSum_congr {l : List Int} {c d : Nat → Bool} : ∀ k, (∀ i, i < k → costOf l i ≠ 0 → c i = d i) → costSum l c k = costSum l d k
  | 0, _ => rfl
  | k + 1, h => by
    have ih := costSum_congr k fun i hi => h i (by omega)
    unfold costSum
    rw [ih]
    by_cases h0 : costOf l k = 0
    · rw [h0]
      simp
    · rw [h k (by omega) h0]

theorem costSum_from (l : List Int) (c : Nat → Bool) : ∀ k, k ≤ 24 → costSum l c k + sumFrom (costOf l) c (24 - k) = sumFrom (costOf l) c 24
  | 0, _ => by simp [costSum]
  | k + 1, h => by
    have ih := costSum_from l c k (by omega)
    have e : 24 - k = (24 - (k + 1)) + 1 := by omega
    have e2 : 24 - (24 - (k + 1) + 1) = k := by omega
    rw [e, show sumFrom (costOf l) c (24 - (k + 1) + 1) = (if c (24 - (24 - (k + 1) + 1)) then costOf l (24 - (24 - (k + 1) + 1)) else 0) + sumFrom (costOf l) c (24 - (k + 1)) from rfl, e2] at ih
    rw [show costSum l c (k + 1) = costSum l c k + if c k then costOf l k else 0 from rfl]
    omega

theorem costOf_past {l : List Int} {i : Nat} (h : l.length ≤ i) : costOf l i = 0 := by
  unfold costOf
  rw [List.getD_eq_getElem?_getD, List.getElem?_eq_none h]
  rfl

theorem costSum_past {l : List Int} (c : Nat → Bool) : ∀ d, costSum l c (l.length + d) = costSum l c l.length
  | 0 => rfl
  | d + 1 => by
    rw [show l.length + (d + 1) = (l.length + d) + 1 by omega, show costSum l c (l.length + d + 1) = costSum l c (l.length + d) + if c (l.length + d) then costOf l (l.length + d) else 0 from rfl, costSum_past c d, costOf_past (by omega)]
    simp

theorem costSum_all {l : List Int} (h : l.length ≤ 24) (c : Nat → Bool) : costSum l c l.length = sumFrom (costOf l) c 24 := by
  have h1 := costSum_from l c 24 (Nat.le_refl _)
  have h2 := costSum_past (l := l) c (24 - l.length)
  rw [show l.length + (24 - l.length) = 24 by omega] at h2
  rw [Nat.sub_self, show sumFrom (costOf l) c 0 = 0 from rfl, Int.add_zero] at h1
  rw [← h2]
  exact h1

/-- What the table says of an index. -/
def linN (l : List Int) (rel : Nat) (bound : Int) (V : List Nat) (k : Nat) : Bool := relB rel (costSum l (cfg V k).testBit l.length) bound

theorem linN_linF {l : List Int} (hl : l.length ≤ 24) (rel : Nat) (bound : Int) (c : Nat → Bool) : linN l rel bound (nz l l.length) (idx (nz l l.length) c) = linF l rel bound c := by
  unfold linN linF
  rw [← costSum_all hl c]
  congr 1
  exact costSum_congr l.length fun i hi h0 => cfg_idx (nz_rising l l.length hl) c (nz_mem.2 ⟨hi, h0⟩)

end Go.Proofs.YtefclohjeompkaaGreat

/- RefU: what is needed of it. -/
namespace Go.Proofs.YtefclohjeompkaaGreat
open Go Go.RowKit Go.Proofs.Gen Go.Proofs.Bdd Go.Proofs.Bdd.T
def RLinPost (w : World) (l : List Int) (rel : Nat) (bound : Int) (e : Ending) (w' : World) : Prop :=
  ∃ v, e = .returned (.tuple #[v, .int .i64 (if LinOk l rel then 0 else 2)]) ∧ IsS w' v (if LinOk l rel then nz l l.length else []) (if LinOk l rel then linF l rel bound else fun _ => false) ∧ Near w w'

set_option maxRecDepth 100000 in
set_option maxHeartbeats 1600000 in
theorem rlinear_bad {w : World} {v : Value} {l : List Int} {rel : Nat} {bound : Int} (h : RdInts w v l) (hl : l.length ≤ 1000) (hbad : ¬ LinOk l rel) : Calls Tryz.prog 69 #[v, .int .u8 rel, .int .i64 bound] w (RLinPost w l rel bound) := by
  have HB := Lib.hid hbad
  have hor : ¬ CostsOk l ∨ (CostsOk l ∧ (rel = 0 ∨ 4 ≤ rel)) := by
    by_cases hc : CostsOk l
    · exact .inr ⟨hc, by have h2 : ¬ (1 ≤ rel ∧ rel ≤ 3) := fun h => hbad ⟨hc, h⟩; omega⟩
    · exact .inl hc
  clear hbad
  have hv := fun w' (n : Near w w') => costs_calls (h.near n) hl
  have HV := Lib.hid hv
  clear hv h
  have go : ∀ b : Bool, decide (CostsOk l) = b → (b = false ∨ rel = 0 ∨ 4 ≤ rel) → Calls Tryz.prog 69 #[v, .int .u8 rel, .int .i64 bound] w (RLinPost w l rel bound) := by
    intro b hb hr
    rw [hb] at HV
    clear hb hor
    have fin : ∀ w1 b1 b2 b3 c1 c2 c3, Near w w1 → IsS w1 (.agg #[.slice b1 b2 b3, .slice c1 c2 c3]) [] (fun _ => false) → w1.heap[w.heap.size]? = some (.cells #[.slice none 0 0, .slice none 0 0] 39 (0, 0)) →
        (((w1.setCell ⟨w.heap.size, 0, none⟩ (.slice b1 b2 b3)).setCell ⟨w.heap.size, 1, none⟩ (.slice c1 c2 c3)).cell? ⟨w.heap.size, 0, none⟩ = some (.slice b1 b2 b3) ∧ ((w1.setCell ⟨w.heap.size, 0, none⟩ (.slice b1 b2 b3)).setCell ⟨w.heap.size, 1, none⟩ (.slice c1 c2 c3)).cell? ⟨w.heap.size, 1, none⟩ = some (.slice c1 c2 c3)) ∧
        RLinPost w l rel bound (.returned (.tuple #[.agg #[.slice b1 b2 b3, .slice c1 c2 c3], .int .i64 2])) ((w1.setCell ⟨w.heap.size, 0, none⟩ (.slice b1 b2 b3)).setCell ⟨w.heap.size, 1, none⟩ (.slice c1 c2 c3)) := by
      intro w1 b1 b2 b3 c1 c2 c3 hn hs hr
      have hz := setCell_heap (setCell_heap hr 0 (.slice b1 b2 b3)) 1 (.slice c1 c2 c3)
      refine ⟨⟨cell1 (o := 0) hz rfl, cell1 (o := 1) hz rfl⟩, _, by rw [if_neg HB.out], ?_, (hn.set (Nat.le_refl _) _).set (Nat.le_refl _) _⟩
      rw [if_neg HB.out, if_neg HB.out]
      exact isS_store hs hr
    have HFin := Lib.hid fin
    clear fin
    cases b
    · go_enter Tryz.func69, Tryz.ntmps69
      go_wp2_with (first
        | (go_at_call 92; refine (HV.out _ ((Near.refl w).alloc _)).mono ?_; rintro e w1 ⟨rfl, n1⟩)
        | (go_at_call 20; refine (const_calls false _).mono ?_; rintro e w2 ⟨v2, rfl, s2, b2⟩; obtain ⟨x1, x2, x3, y1, y2, y3, rfl⟩ := s2.form; have hn2 := ((Near.refl w).alloc _).trans (n1.trans (Near.of_below b2)); have hr2 := keepN (Near.of_below b2) (keepN n1 (heap_new_at rfl)); have z0 := cell1 (o := 0) hr2 rfl; have z1 := cell1 (o := 1) hr2 rfl; have zf := free1 hr2; have HS2 := Lib.hid s2; have HR2 := Lib.hid hr2; have HN2 := Lib.hid hn2; clear s2 hr2 hn2))
      obtain ⟨⟨q0, q1⟩, hp⟩ := HFin.out _ x1 x2 x3 y1 y2 y3 HN2.out HS2.out HR2.out
      exact bodyPost_ret (v := .tuple #[.agg #[.slice x1 x2 x3, .slice y1 y2 y3], .int .i64 2]) (by simp [results, Tryz.results69, go_sem, q0, q1]) rfl hp
    · have hr' : rel = 0 ∨ 4 ≤ rel := hr.resolve_left (by decide)
      clear hr
      rcases hr' with rfl | hr'
      · go_enter Tryz.func69, Tryz.ntmps69
        go_wp2_with (first
          | (go_at_call 92; refine (HV.out _ ((Near.refl w).alloc _)).mono ?_; rintro e w1 ⟨rfl, n1⟩)
          | (go_at_call 20; refine (const_calls false _).mono ?_; rintro e w2 ⟨v2, rfl, s2, b2⟩; obtain ⟨x1, x2, x3, y1, y2, y3, rfl⟩ := s2.form; have hn2 := ((Near.refl w).alloc _).trans (n1.trans (Near.of_below b2)); have hr2 := keepN (Near.of_below b2) (keepN n1 (heap_new_at rfl)); have z0 := cell1 (o := 0) hr2 rfl; have z1 := cell1 (o := 1) hr2 rfl; have zf := free1 hr2; have HS2 := Lib.hid s2; have HR2 := Lib.hid hr2; have HN2 := Lib.hid hn2; clear s2 hr2 hn2))
        obtain ⟨⟨q0, q1⟩, hp⟩ := HFin.out _ x1 x2 x3 y1 y2 y3 HN2.out HS2.out HR2.out
        exact bodyPost_ret (v := .tuple #[.agg #[.slice x1 x2 x3, .slice y1 y2 y3], .int .i64 2]) (by simp [results, Tryz.results69, go_sem, q0, q1]) rfl hp
      · have h1 : ¬ (rel : Int) < 1 := by omega
        have h2 : (3 : Int) < rel := by omega
        clear hr'
        go_enter Tryz.func69, Tryz.ntmps69
        go_wp2_with (first
          | (go_at_call 92; refine (HV.out _ ((Near.refl w).alloc _)).mono ?_; rintro e w1 ⟨rfl, n1⟩)
          | (go_at_call 20; refine (const_calls false _).mono ?_; rintro e w2 ⟨v2, rfl, s2, b2⟩; obtain ⟨x1, x2, x3, y1, y2, y3, rfl⟩ := s2.form; have hn2 := ((Near.refl w).alloc _).trans (n1.trans (Near.of_below b2)); have hr2 := keepN (Near.of_below b2) (keepN n1 (heap_new_at rfl)); have z0 := cell1 (o := 0) hr2 rfl; have z1 := cell1 (o := 1) hr2 rfl; have zf := free1 hr2; have HS2 := Lib.hid s2; have HR2 := Lib.hid hr2; have HN2 := Lib.hid hn2; clear s2 hr2 hn2))
        obtain ⟨⟨q0, q1⟩, hp⟩ := HFin.out _ x1 x2 x3 y1 y2 y3 HN2.out HS2.out HR2.out
        exact bodyPost_ret (v := .tuple #[.agg #[.slice x1 x2 x3, .slice y1 y2 y3], .int .i64 2]) (by simp [results, Tryz.results69, go_sem, q0, q1]) rfl hp
  rcases hor with hc | ⟨hc, hr⟩
  · exact go false (decide_eq_false hc) (.inl rfl)
  · exact go true (decide_eq_true hc) (.inr hr)

end Go.Proofs.YtefclohjeompkaaGreat

/- RefV: what is needed of it. -/
namespace Go.Proofs.YtefclohjeompkaaGreat
open Go Go.RowKit Go.Proofs.Gen Go.Proofs.Bdd Go.Proofs.Bdd.T
set_option maxRecDepth 100000 in
set_option maxHeartbeats 3200000 in
theorem rlinear_good1 {w : World} {v : Value} {l : List Int} {bound : Int} (h : RdInts w v l) (hlin : LinOk l 1) : Calls Tryz.prog 69 #[v, .int .u8 1, .int .i64 bound] w (RLinPost w l 1 bound) := by
  obtain ⟨i0, hi0, hz0, hz1, hz2⟩ := info_parts info3
  have hlen := hlin.1.1
  have HLin := Lib.hid hlin
  have HOK := Lib.hid hlin.1
  have hv := fun w' (n : Near w w') => costs_calls (h.near n) (by omega)
  rw [decide_eq_true hlin.1] at hv
  have HVd := Lib.hid hv
  have HRd := Lib.hid h
  obtain ⟨ao0, cap0, rfl, hc0⟩ := h
  have HC := Lib.hid hc0
  clear hv hlin hc0
  go_enter Tryz.func69, Tryz.ntmps69
  go_wp2_with (first
    | (go_at_call 92; refine (HVd.out _ ((Near.refl w).alloc _)).mono ?_; rintro e w1 ⟨rfl, n1⟩; have HN1 := Lib.hid (((Near.refl w).alloc (.cells #[.slice none 0 0, .slice none 0 0] 39)).trans n1); have HEC1 := Lib.hid (keepN n1 (heap_new_at (w := w) (o := .cells #[.slice none 0 0, .slice none 0 0] 39) rfl)); have HLT1 := Lib.hid (show w.heap.size + 1 ≤ w1.heap.size by simpa using n1.size'); clear n1))
  go_loopw [8, 9] (fun s i wr => ∃ k : Nat, k ≤ l.length ∧ i = .int .i64 k ∧ wr.ownsRow w1.heap.size 3 1 s (nz l k).length ((nz l k).map iv) ∧ Near w1 wr) (fun _ i _ => l.length - (intOf i).toNat)
  case atStart => exact ⟨0, Nat.zero_le _, rfl, World.ownsRow_nil _ _ _ _, Near.refl _⟩
  case round =>
    obtain ⟨k, hk, rfl, hown, hn1⟩ := hrel
    have hnl := nz_len l k
    have HO := Lib.hid hown
    obtain ⟨so, sc, rfl⟩ := owns_form hown
    clear hown
    by_cases hlt : k < l.length
    · have hlt' : (k : Int) < l.length := by omega
      obtain ⟨g, off, rfl, p0⟩ := HC.out k _ (List.getElem?_eq_getElem hlt)
      have hd : l[k] = costOf l k := by
        unfold costOf
        rw [List.getD_eq_getElem?_getD, List.getElem?_eq_getElem hlt]
        rfl
      rw [hd] at p0
      replace p0 := (HN1.out.trans hn1).cell p0
      have hs := nz_succ l k
      have HS := Lib.hid hs
      have HNr := Lib.hid hn1
      clear hd hs hn1
      obtain ⟨d, hd⟩ : ∃ d, d = costOf l k := ⟨_, rfl⟩
      rw [← hd] at p0
      have HDd := Lib.hid hd
      clear hd
      obtain ⟨m, hm⟩ : ∃ m, m = (nz l k).length := ⟨_, rfl⟩
      rw [← hm] at hnl ⊢
      have HM := Lib.hid hm
      clear hm
      by_cases hz : d = 0
      · subst hz
        go_wp2_with fail
        have e : nz l (k + 1) = nz l k := by rw [HS.out, if_pos HDd.out.symm, List.append_nil]
        exact ⟨⟨k + 1, hlt, by go_num, by rw [e, HM.out]; exact HO.out, HNr.out⟩, by simp [intOf]; omega⟩
      · have hz' : (d != 0) = true := bne_iff_ne.2 hz
        have HOm := Lib.hid (show wr.ownsRow w1.heap.size 3 1 (.slice so m sc) m ((nz l k).map iv) by rw [HM.out]; exact HO.out)
        have HZd := Lib.hid hz
        clear hz
        go_wp2_with (first
          | (at_builtin; refine wpList_append_more rfl (.tmp 36) (.tmp 38) 36 rfl w1.heap.size 3 i0 (.int .i64 0) 1 8 Tryz.underlying36 hi0 hz0 hz1 hz2 rfl (by decide) (.slice so m sc) m ((nz l k).map iv) rfl (owns_kept HOm.out ((Near.refl wr).alloc _) (fun _ _ x => x)) _ 1 [.int .i64 k] rfl ⟨rfl, .inr ⟨_, 1, rfl, cell_one_at (by simp) _ _⟩⟩ (by simp [Value.oneCell']) (by unfold maxLen; omega) (by omega) (by have := HNr.out.size'; simp; omega) ?_; intro bo bcp w4 hown4 hg4; have HO4 := Lib.hid hown4; have HG4 := Lib.hid hg4; clear hown4 hg4))
        have e : nz l (k + 1) = nz l k ++ [k] := by rw [HS.out, if_neg (fun h => HZd.out (HDd.out.trans h))]
        refine ⟨⟨k + 1, hlt, by go_num, ?_, Kept.grown (HNr.out.alloc _) HG4.out (fun kk hk hlt => absurd (HOm.out.lt kk hk).1 (by omega))⟩, by simp [intOf]; omega⟩
        rw [e, List.length_append, List.map_append, ← HM.out]
        exact HO4.out
    · have hke : k = l.length := by omega
      have hlt' : ¬ (k : Int) < l.length := by omega
      obtain ⟨V, hVV⟩ : ∃ V, V = nz l l.length := ⟨_, rfl⟩
      have hV : Rising 0 V := by rw [hVV]; exact nz_rising l _ hlen
      have HV := Lib.hid hV
      have HU := Lib.hid hVV
      have hrow : wr.ownsRow w1.heap.size 3 1 (.slice so V.length sc) V.length (V.map iv) := by
        have := HO.out
        rw [hke, ← hVV] at this
        exact this
      rw [show nz l k = V by rw [hke, hVV]] at ⊢
      have RX := Lib.hid hrow
      have HN3 := Lib.hid (HN1.out.trans hn1)
      have HEC := Lib.hid (keepN hn1 HEC1.out)
      have HLT4 := Lib.hid (Nat.le_trans HLT1.out hn1.size')
      clear hV hVV hrow hke hn1 HO HN1 HEC1 hnl hk hlt
      rename World => w4
      go_wp2_with (first
        | (go_at_call 79; refine (blank_calls HV.out (ownsRow_low RX.out (Nat.zero_le _))).mono ?_; rintro e w5 ⟨sn, rfl, rn, n5⟩; have RN := Lib.hid rn; clear rn; obtain ⟨ao, cap, hx⟩ := owns_form RX.out; obtain ⟨no, ncp, rfl⟩ := owns_form RN.out; cases hx))
      obtain ⟨tb, tcp, tcur, htv, htg, -, htb⟩ := row1' RN.out (k := 0) (u := .bool false) (by simp [Nat.two_pow_pos]) (Nat.two_pow_pos _)
      simp only [Value.slice.injEq, true_and] at htv
      obtain ⟨rfl, rfl⟩ := htv
      have htl : tb < w5.heap.size := (Array.getElem?_eq_some_iff.1 htg).1
      have W45 : Near w (w5.alloc (.cells #[.slice so V.length sc, .slice (some ⟨tb, 0, none⟩) (2 ^ V.length) ncp] 39)) := (HN3.out.trans n5).alloc _
      have HWW := Lib.hid W45
      have EC4 := Lib.hid (heap_old_at (o := .cells #[.slice so V.length sc, .slice (some ⟨tb, 0, none⟩) (2 ^ V.length) ncp] 39) (Array.getElem?_eq_some_iff.1 (keepN n5 HEC.out)).1 |>.trans (keepN n5 HEC.out))
      have EO : (w5.alloc (.cells #[.slice so V.length sc, .slice (some ⟨tb, 0, none⟩) (2 ^ V.length) ncp] 39)).heap[w5.heap.size]? = some (.cells #[.slice so V.length sc, .slice (some ⟨tb, 0, none⟩) (2 ^ V.length) ncp] 39 (0, 0)) := heap_new_at rfl
      have HEO := Lib.hid EO
      have RNW := Lib.hid (ownsRow_low (RN.out.alloc (.cells #[.slice so V.length sc, .slice (some ⟨tb, 0, none⟩) (2 ^ V.length) ncp] 39)) (Nat.zero_le _))
      have hWs : w5.heap.size < (w5.alloc (.cells #[.slice so V.length sc, .slice (some ⟨tb, 0, none⟩) (2 ^ V.length) ncp] 39)).heap.size := by simp
      have lV := HV.out.len
      have hw4 : w.heap.size + 1 ≤ w4.heap.size := HLT4.out
      have W44 := Lib.hid (n5.alloc (.cells #[.slice so V.length sc, .slice (some ⟨tb, 0, none⟩) (2 ^ V.length) ncp] 39))
      have RX2 := Lib.hid (ownsRow_low RX.out (Nat.zero_le _))
      clear W45 EO RN RX HEC n5 htg HN3
      obtain ⟨N, hN⟩ : ∃ N, N = 2 ^ V.length := ⟨_, rfl⟩
      have hNb : N ≤ 16777216 := by
        have hp : (2 : Nat) ^ V.length ≤ 2 ^ 24 := Nat.pow_le_pow_right (by omega) (by omega)
        have e24 : (2 : Nat) ^ 24 = 16777216 := by decide
        omega
      rw [← hN] at hWs HWW HEO RNW W44 EC4 ⊢
      have HNN := Lib.hid hN
      clear hN
      generalize (w5.alloc (.cells #[.slice so V.length sc, .slice (some ⟨tb, 0, none⟩) N ncp] 39)) = W at hWs HWW HEO RNW W44 EC4 ⊢
      have HG : ∃ g : Nat → Bool, g = fun k => linN l 1 bound V k := ⟨_, rfl⟩
      obtain ⟨g, hg⟩ := HG
      have HG := Lib.hid hg
      clear hg
      go_loopw [11] (fun i wr => ∃ k : Nat, k ≤ N ∧ i = .int .i64 k ∧ wr.ownsRow 0 4 1 (.slice (some ⟨tb, 0, none⟩) N ncp) N ((tabTo N g k).map Value.bool) ∧ Kept (fun b => b = tb) W wr) (fun i _ => N - (intOf i).toNat)
      case atStart =>
        refine ⟨0, Nat.zero_le _, rfl, ?_, Kept.refl _ _⟩
        rw [tabTo_zero]
        exact RNW.out
      case round =>
        obtain ⟨k, hk, rfl, hown, hkp⟩ := hrel
        have z0 : Near w wr := Kept.mono ((HWW.out.kept (S := fun b => b = tb)).trans hkp) (fun b hb e => by omega)
        have xo' : wr.heap[w5.heap.size]? = some (.cells #[.slice so V.length sc, .slice (some ⟨tb, 0, none⟩) N ncp] 39 (0, 0)) := (hkp.block _ hWs (by omega)).trans HEO.out
        have z4 : Near w4 wr := Kept.mono ((W44.out.kept (S := fun b => b = tb)).trans hkp) (fun b hb e => by omega)
        have o0 := cell1 (o := 0) xo' rfl
        have o1 := cell1 (o := 1) xo' rfl
        have HOwn := Lib.hid hown
        have HXO := Lib.hid xo'
        clear xo' hown
        by_cases hlt : k < N
        · have hlt' : (k : Int) < N := by omega
          obtain ⟨tcur', htk, u0, hu0⟩ : ∃ cur, wr.heap[tb]? = some (.cells cur 4 (0, 0)) ∧ ∃ u, cur[k]? = some u := by
            obtain ⟨g', c', cur, e, hg', hc', _⟩ := row1' HOwn.out (k := k) (u := .bool ((tabTo N g k)[k]'(by rw [tabTo_len]; exact hlt))) (by rw [List.getElem?_map, List.getElem?_eq_getElem (by rw [tabTo_len]; exact hlt)]; rfl) hlt
            cases e
            exact ⟨cur, hg', _, hc'⟩
          have t0 := cell1 htk hu0
          have tf := free1 htk k
          have hgk : g k = relB 1 (costSum l (cfg V k).testBit l.length) bound := by rw [HG.out]; rfl
          have hts : ((tabTo N g (k + 1)).map Value.bool) = ((tabTo N g k).map Value.bool).set k (.bool (g k)) := by rw [tabTo_succ, List.map_set]
          have HGK := Lib.hid hgk
          have HTS := Lib.hid hts
          have HTK := Lib.hid htk
          have HU0 := Lib.hid hu0
          clear hgk hts htk hu0 t0 tf
          have HC6 := Lib.hid (show cfg V k < 4294967296 by have := cfg_lt HV.out k; omega)
          obtain ⟨n, hn⟩ : ∃ n, n = costSum l (cfg V k).testBit l.length := ⟨_, rfl⟩
          have hz : g k = relB 1 n bound := by rw [HGK.out, hn]
          have HZ := Lib.hid hz
          have HNn := Lib.hid hn
          clear hz hn
          have hend : ∀ w6, Near wr w6 → ∀ z, z = g k → ∀ wz, wz = w6.setCell ⟨tb, k, none⟩ (.bool z) → wz.ownsRow 0 4 1 (.slice (some ⟨tb, 0, none⟩) N ncp) N ((tabTo N g (k + 1)).map Value.bool) ∧ Kept (fun b => b = tb) W wz := by
            rintro w6 n6 z rfl wz rfl
            rw [HTS.out]
            exact ⟨((owns_kept HOwn.out n6.kept (fun _ _ x => x)).stored k _).1, (hkp.trans n6.kept).setCell (fun _ => rfl) _⟩
          have fin : ∀ w6, Near wr w6 → ∀ z, z = g k → (∃ q : Nat, q ≤ N ∧ (Value.int .i64 ((k : Int) + 1)) = .int .i64 q ∧ (w6.setCell ⟨tb, k, none⟩ (.bool z)).ownsRow 0 4 1 (.slice (some ⟨tb, 0, none⟩) N ncp) N ((tabTo N g q).map Value.bool) ∧ Kept (fun b => b = tb) W (w6.setCell ⟨tb, k, none⟩ (.bool z))) := fun w6 n6 z hz =>
            ⟨k + 1, by omega, by simp, (hend _ n6 _ hz _ rfl).1, (hend _ n6 _ hz _ rfl).2⟩
          have HFin := Lib.hid fin
          clear fin hend
          by_cases hb1 : n ≤ bound
          · have hz : g k = true := by rw [HZ.out]; simp [relB, hb1]
            have HZ2 := Lib.hid hz
            clear hz
            go_wp2_with (first
              | (go_at_call 37; refine (config_calls HV.out (by omega) (owns_kept RX2.out z4.kept (fun _ _ x => x)) k (by omega)).mono ?_; rintro e w6 ⟨rfl, n6⟩; have HN6 := Lib.hid n6; clear n6)
              | (go_at_call 93; refine (cost_calls (HRd.out.near ((z0.trans HN6.out))) HOK.out _ HC6.out).mono ?_; rw [← HNn.out]; rintro e w7 ⟨rfl, n7⟩; have HN7 := Lib.hid (HN6.out.trans n7); clear n7; have p1 := cell1 (o := 1) (keepN HN7.out HXO.out) rfl; have t0 := cell1 (keepN HN7.out HTK.out) HU0.out; have tf := free1 (keepN HN7.out HTK.out) k))
            exact ⟨HFin.out _ HN7.out _ (by first | (rw [HZ2.out]; done) | (rw [HZ2.out]; exact decide_eq_false (by omega))), by simp [intOf]; omega⟩
          · have hz : g k = false := by rw [HZ.out]; simp [relB, hb1]
            have HZ2 := Lib.hid hz
            clear hz
            have hb1' : bound < n := by omega
            go_wp2_with (first
              | (go_at_call 37; refine (config_calls HV.out (by omega) (owns_kept RX2.out z4.kept (fun _ _ x => x)) k (by omega)).mono ?_; rintro e w6 ⟨rfl, n6⟩; have HN6 := Lib.hid n6; clear n6)
              | (go_at_call 93; refine (cost_calls (HRd.out.near ((z0.trans HN6.out))) HOK.out _ HC6.out).mono ?_; rw [← HNn.out]; rintro e w7 ⟨rfl, n7⟩; have HN7 := Lib.hid (HN6.out.trans n7); clear n7; have p1 := cell1 (o := 1) (keepN HN7.out HXO.out) rfl; have t0 := cell1 (keepN HN7.out HTK.out) HU0.out; have tf := free1 (keepN HN7.out HTK.out) k))
            exact ⟨HFin.out _ HN7.out _ (by first | (rw [HZ2.out]; done) | (rw [HZ2.out]; exact decide_eq_false (by omega))), by simp [intOf]; omega⟩
        · have hkN : k = N := by omega
          subst hkN
          have rc := (hkp.block _ (by omega) (by omega)).trans EC4.out
          have c0 := cell1 (o := 0) rc rfl
          have c1 := cell1 (o := 1) rc rfl
          have f0 := free1 rc 0
          have f1 := free1 rc 1
          have R1r := owns_kept (R := fun _ => False) RX2.out z4.kept (fun _ _ x => x)
          have ne1 := owns_ne R1r rc (by decide : (3 : Nat) ≠ 39)
          have ne2 := owns_ne HOwn.out rc (by decide : (4 : Nat) ≠ 39)
          have RX3 := Lib.hid R1r
          clear R1r
          go_wp2_with fail
          have e1 := HNN.out
          have e2 := HG.out
          have hbox : IsS ((wr.setCell ⟨w.heap.size, 0, none⟩ (.slice so V.length sc)).setCell ⟨w.heap.size, 1, none⟩ (.slice (some ⟨tb, 0, none⟩) k ncp)) (.agg #[.slice so V.length sc, .slice (some ⟨tb, 0, none⟩) k ncp]) V (linF l 1 bound) := ⟨tabTo (2 ^ V.length) (fun k => linN l 1 bound V k) (2 ^ V.length), ⟨HV.out, by rw [tabTo_len], _, _, rfl, ownsRow_setCell_other (ownsRow_setCell_other RX3.out ne1 (.slice so V.length sc)) ne1 (.slice (some ⟨tb, 0, none⟩) k ncp), by
            rw [tabTo_len, ← e1, ← e2]
            exact ownsRow_setCell_other (a := ⟨w.heap.size, 1, none⟩) (ownsRow_setCell_other (a := ⟨w.heap.size, 0, none⟩) HOwn.out ne2 (.slice so V.length sc)) ne2 (.slice (some ⟨tb, 0, none⟩) k ncp)⟩, fun c => by
              rw [tabTo_rf, HU.out]
              exact linN_linF HOK.out.1 1 bound c⟩
          refine bodyPost_ret (v := .tuple #[.agg #[.slice so V.length sc, .slice (some ⟨tb, 0, none⟩) k ncp], .int .i64 0]) (by simp [results, Tryz.results69, go_sem, c0, c1]) rfl ⟨_, by rw [if_pos HLin.out], ?_, (z0.set (Nat.le_refl _) _).set (Nat.le_refl _) _⟩
          rw [if_pos HLin.out, if_pos HLin.out, ← HU.out]
          exact hbox

set_option maxRecDepth 100000 in
set_option maxHeartbeats 3200000 in
theorem rlinear_good2 {w : World} {v : Value} {l : List Int} {bound : Int} (h : RdInts w v l) (hlin : LinOk l 2) : Calls Tryz.prog 69 #[v, .int .u8 2, .int .i64 bound] w (RLinPost w l 2 bound) := by
  obtain ⟨i0, hi0, hz0, hz1, hz2⟩ := info_parts info3
  have hlen := hlin.1.1
  have HLin := Lib.hid hlin
  have HOK := Lib.hid hlin.1
  have hv := fun w' (n : Near w w') => costs_calls (h.near n) (by omega)
  rw [decide_eq_true hlin.1] at hv
  have HVd := Lib.hid hv
  have HRd := Lib.hid h
  obtain ⟨ao0, cap0, rfl, hc0⟩ := h
  have HC := Lib.hid hc0
  clear hv hlin hc0
  go_enter Tryz.func69, Tryz.ntmps69
  go_wp2_with (first
    | (go_at_call 92; refine (HVd.out _ ((Near.refl w).alloc _)).mono ?_; rintro e w1 ⟨rfl, n1⟩; have HN1 := Lib.hid (((Near.refl w).alloc (.cells #[.slice none 0 0, .slice none 0 0] 39)).trans n1); have HEC1 := Lib.hid (keepN n1 (heap_new_at (w := w) (o := .cells #[.slice none 0 0, .slice none 0 0] 39) rfl)); have HLT1 := Lib.hid (show w.heap.size + 1 ≤ w1.heap.size by simpa using n1.size'); clear n1))
  go_loopw [8, 9] (fun s i wr => ∃ k : Nat, k ≤ l.length ∧ i = .int .i64 k ∧ wr.ownsRow w1.heap.size 3 1 s (nz l k).length ((nz l k).map iv) ∧ Near w1 wr) (fun _ i _ => l.length - (intOf i).toNat)
  case atStart => exact ⟨0, Nat.zero_le _, rfl, World.ownsRow_nil _ _ _ _, Near.refl _⟩
  case round =>
    obtain ⟨k, hk, rfl, hown, hn1⟩ := hrel
    have hnl := nz_len l k
    have HO := Lib.hid hown
    obtain ⟨so, sc, rfl⟩ := owns_form hown
    clear hown
    by_cases hlt : k < l.length
    · have hlt' : (k : Int) < l.length := by omega
      obtain ⟨g, off, rfl, p0⟩ := HC.out k _ (List.getElem?_eq_getElem hlt)
      have hd : l[k] = costOf l k := by
        unfold costOf
        rw [List.getD_eq_getElem?_getD, List.getElem?_eq_getElem hlt]
        rfl
      rw [hd] at p0
      replace p0 := (HN1.out.trans hn1).cell p0
      have hs := nz_succ l k
      have HS := Lib.hid hs
      have HNr := Lib.hid hn1
      clear hd hs hn1
      obtain ⟨d, hd⟩ : ∃ d, d = costOf l k := ⟨_, rfl⟩
      rw [← hd] at p0
      have HDd := Lib.hid hd
      clear hd
      obtain ⟨m, hm⟩ : ∃ m, m = (nz l k).length := ⟨_, rfl⟩
      rw [← hm] at hnl ⊢
      have HM := Lib.hid hm
      clear hm
      by_cases hz : d = 0
      · subst hz
        go_wp2_with fail
        have e : nz l (k + 1) = nz l k := by rw [HS.out, if_pos HDd.out.symm, List.append_nil]
        exact ⟨⟨k + 1, hlt, by go_num, by rw [e, HM.out]; exact HO.out, HNr.out⟩, by simp [intOf]; omega⟩
      · have hz' : (d != 0) = true := bne_iff_ne.2 hz
        have HOm := Lib.hid (show wr.ownsRow w1.heap.size 3 1 (.slice so m sc) m ((nz l k).map iv) by rw [HM.out]; exact HO.out)
        have HZd := Lib.hid hz
        clear hz
        go_wp2_with (first
          | (at_builtin; refine wpList_append_more rfl (.tmp 36) (.tmp 38) 36 rfl w1.heap.size 3 i0 (.int .i64 0) 1 8 Tryz.underlying36 hi0 hz0 hz1 hz2 rfl (by decide) (.slice so m sc) m ((nz l k).map iv) rfl (owns_kept HOm.out ((Near.refl wr).alloc _) (fun _ _ x => x)) _ 1 [.int .i64 k] rfl ⟨rfl, .inr ⟨_, 1, rfl, cell_one_at (by simp) _ _⟩⟩ (by simp [Value.oneCell']) (by unfold maxLen; omega) (by omega) (by have := HNr.out.size'; simp; omega) ?_; intro bo bcp w4 hown4 hg4; have HO4 := Lib.hid hown4; have HG4 := Lib.hid hg4; clear hown4 hg4))
        have e : nz l (k + 1) = nz l k ++ [k] := by rw [HS.out, if_neg (fun h => HZd.out (HDd.out.trans h))]
        refine ⟨⟨k + 1, hlt, by go_num, ?_, Kept.grown (HNr.out.alloc _) HG4.out (fun kk hk hlt => absurd (HOm.out.lt kk hk).1 (by omega))⟩, by simp [intOf]; omega⟩
        rw [e, List.length_append, List.map_append, ← HM.out]
        exact HO4.out
    · have hke : k = l.length := by omega
      have hlt' : ¬ (k : Int) < l.length := by omega
      obtain ⟨V, hVV⟩ : ∃ V, V = nz l l.length := ⟨_, rfl⟩
      have hV : Rising 0 V := by rw [hVV]; exact nz_rising l _ hlen
      have HV := Lib.hid hV
      have HU := Lib.hid hVV
      have hrow : wr.ownsRow w1.heap.size 3 1 (.slice so V.length sc) V.length (V.map iv) := by
        have := HO.out
        rw [hke, ← hVV] at this
        exact this
      rw [show nz l k = V by rw [hke, hVV]] at ⊢
      have RX := Lib.hid hrow
      have HN3 := Lib.hid (HN1.out.trans hn1)
      have HEC := Lib.hid (keepN hn1 HEC1.out)
      have HLT4 := Lib.hid (Nat.le_trans HLT1.out hn1.size')
      clear hV hVV hrow hke hn1 HO HN1 HEC1 hnl hk hlt
      rename World => w4
      go_wp2_with (first
        | (go_at_call 79; refine (blank_calls HV.out (ownsRow_low RX.out (Nat.zero_le _))).mono ?_; rintro e w5 ⟨sn, rfl, rn, n5⟩; have RN := Lib.hid rn; clear rn; obtain ⟨ao, cap, hx⟩ := owns_form RX.out; obtain ⟨no, ncp, rfl⟩ := owns_form RN.out; cases hx))
      obtain ⟨tb, tcp, tcur, htv, htg, -, htb⟩ := row1' RN.out (k := 0) (u := .bool false) (by simp [Nat.two_pow_pos]) (Nat.two_pow_pos _)
      simp only [Value.slice.injEq, true_and] at htv
      obtain ⟨rfl, rfl⟩ := htv
      have htl : tb < w5.heap.size := (Array.getElem?_eq_some_iff.1 htg).1
      have W45 : Near w (w5.alloc (.cells #[.slice so V.length sc, .slice (some ⟨tb, 0, none⟩) (2 ^ V.length) ncp] 39)) := (HN3.out.trans n5).alloc _
      have HWW := Lib.hid W45
      have EC4 := Lib.hid (heap_old_at (o := .cells #[.slice so V.length sc, .slice (some ⟨tb, 0, none⟩) (2 ^ V.length) ncp] 39) (Array.getElem?_eq_some_iff.1 (keepN n5 HEC.out)).1 |>.trans (keepN n5 HEC.out))
      have EO : (w5.alloc (.cells #[.slice so V.length sc, .slice (some ⟨tb, 0, none⟩) (2 ^ V.length) ncp] 39)).heap[w5.heap.size]? = some (.cells #[.slice so V.length sc, .slice (some ⟨tb, 0, none⟩) (2 ^ V.length) ncp] 39 (0, 0)) := heap_new_at rfl
      have HEO := Lib.hid EO
      have RNW := Lib.hid (ownsRow_low (RN.out.alloc (.cells #[.slice so V.length sc, .slice (some ⟨tb, 0, none⟩) (2 ^ V.length) ncp] 39)) (Nat.zero_le _))
      have hWs : w5.heap.size < (w5.alloc (.cells #[.slice so V.length sc, .slice (some ⟨tb, 0, none⟩) (2 ^ V.length) ncp] 39)).heap.size := by simp
      have lV := HV.out.len
      have hw4 : w.heap.size + 1 ≤ w4.heap.size := HLT4.out
      have W44 := Lib.hid (n5.alloc (.cells #[.slice so V.length sc, .slice (some ⟨tb, 0, none⟩) (2 ^ V.length) ncp] 39))
      have RX2 := Lib.hid (ownsRow_low RX.out (Nat.zero_le _))
      clear W45 EO RN RX HEC n5 htg HN3
      obtain ⟨N, hN⟩ : ∃ N, N = 2 ^ V.length := ⟨_, rfl⟩
      have hNb : N ≤ 16777216 := by
        have hp : (2 : Nat) ^ V.length ≤ 2 ^ 24 := Nat.pow_le_pow_right (by omega) (by omega)
        have e24 : (2 : Nat) ^ 24 = 16777216 := by decide
        omega
      rw [← hN] at hWs HWW HEO RNW W44 EC4 ⊢
      have HNN := Lib.hid hN
      clear hN
      generalize (w5.alloc (.cells #[.slice so V.length sc, .slice (some ⟨tb, 0, none⟩) N ncp] 39)) = W at hWs HWW HEO RNW W44 EC4 ⊢
      have HG : ∃ g : Nat → Bool, g = fun k => linN l 2 bound V k := ⟨_, rfl⟩
      obtain ⟨g, hg⟩ := HG
      have HG := Lib.hid hg
      clear hg
      go_loopw [11] (fun i wr => ∃ k : Nat, k ≤ N ∧ i = .int .i64 k ∧ wr.ownsRow 0 4 1 (.slice (some ⟨tb, 0, none⟩) N ncp) N ((tabTo N g k).map Value.bool) ∧ Kept (fun b => b = tb) W wr) (fun i _ => N - (intOf i).toNat)
      case atStart =>
        refine ⟨0, Nat.zero_le _, rfl, ?_, Kept.refl _ _⟩
        rw [tabTo_zero]
        exact RNW.out
      case round =>
        obtain ⟨k, hk, rfl, hown, hkp⟩ := hrel
        have z0 : Near w wr := Kept.mono ((HWW.out.kept (S := fun b => b = tb)).trans hkp) (fun b hb e => by omega)
        have xo' : wr.heap[w5.heap.size]? = some (.cells #[.slice so V.length sc, .slice (some ⟨tb, 0, none⟩) N ncp] 39 (0, 0)) := (hkp.block _ hWs (by omega)).trans HEO.out
        have z4 : Near w4 wr := Kept.mono ((W44.out.kept (S := fun b => b = tb)).trans hkp) (fun b hb e => by omega)
        have o0 := cell1 (o := 0) xo' rfl
        have o1 := cell1 (o := 1) xo' rfl
        have HOwn := Lib.hid hown
        have HXO := Lib.hid xo'
        clear xo' hown
        by_cases hlt : k < N
        · have hlt' : (k : Int) < N := by omega
          obtain ⟨tcur', htk, u0, hu0⟩ : ∃ cur, wr.heap[tb]? = some (.cells cur 4 (0, 0)) ∧ ∃ u, cur[k]? = some u := by
            obtain ⟨g', c', cur, e, hg', hc', _⟩ := row1' HOwn.out (k := k) (u := .bool ((tabTo N g k)[k]'(by rw [tabTo_len]; exact hlt))) (by rw [List.getElem?_map, List.getElem?_eq_getElem (by rw [tabTo_len]; exact hlt)]; rfl) hlt
            cases e
            exact ⟨cur, hg', _, hc'⟩
          have t0 := cell1 htk hu0
          have tf := free1 htk k
          have hgk : g k = relB 2 (costSum l (cfg V k).testBit l.length) bound := by rw [HG.out]; rfl
          have hts : ((tabTo N g (k + 1)).map Value.bool) = ((tabTo N g k).map Value.bool).set k (.bool (g k)) := by rw [tabTo_succ, List.map_set]
          have HGK := Lib.hid hgk
          have HTS := Lib.hid hts
          have HTK := Lib.hid htk
          have HU0 := Lib.hid hu0
          clear hgk hts htk hu0 t0 tf
          have HC6 := Lib.hid (show cfg V k < 4294967296 by have := cfg_lt HV.out k; omega)
          obtain ⟨n, hn⟩ : ∃ n, n = costSum l (cfg V k).testBit l.length := ⟨_, rfl⟩
          have hz : g k = relB 2 n bound := by rw [HGK.out, hn]
          have HZ := Lib.hid hz
          have HNn := Lib.hid hn
          clear hz hn
          have hend : ∀ w6, Near wr w6 → ∀ z, z = g k → ∀ wz, wz = w6.setCell ⟨tb, k, none⟩ (.bool z) → wz.ownsRow 0 4 1 (.slice (some ⟨tb, 0, none⟩) N ncp) N ((tabTo N g (k + 1)).map Value.bool) ∧ Kept (fun b => b = tb) W wz := by
            rintro w6 n6 z rfl wz rfl
            rw [HTS.out]
            exact ⟨((owns_kept HOwn.out n6.kept (fun _ _ x => x)).stored k _).1, (hkp.trans n6.kept).setCell (fun _ => rfl) _⟩
          have fin : ∀ w6, Near wr w6 → ∀ z, z = g k → (∃ q : Nat, q ≤ N ∧ (Value.int .i64 ((k : Int) + 1)) = .int .i64 q ∧ (w6.setCell ⟨tb, k, none⟩ (.bool z)).ownsRow 0 4 1 (.slice (some ⟨tb, 0, none⟩) N ncp) N ((tabTo N g q).map Value.bool) ∧ Kept (fun b => b = tb) W (w6.setCell ⟨tb, k, none⟩ (.bool z))) := fun w6 n6 z hz =>
            ⟨k + 1, by omega, by simp, (hend _ n6 _ hz _ rfl).1, (hend _ n6 _ hz _ rfl).2⟩
          have HFin := Lib.hid fin
          clear fin hend
          by_cases hb1 : bound ≤ n
          · have hz : g k = true := by rw [HZ.out]; simp [relB, hb1]
            have HZ2 := Lib.hid hz
            clear hz
            go_wp2_with (first
              | (go_at_call 37; refine (config_calls HV.out (by omega) (owns_kept RX2.out z4.kept (fun _ _ x => x)) k (by omega)).mono ?_; rintro e w6 ⟨rfl, n6⟩; have HN6 := Lib.hid n6; clear n6)
              | (go_at_call 93; refine (cost_calls (HRd.out.near ((z0.trans HN6.out))) HOK.out _ HC6.out).mono ?_; rw [← HNn.out]; rintro e w7 ⟨rfl, n7⟩; have HN7 := Lib.hid (HN6.out.trans n7); clear n7; have p1 := cell1 (o := 1) (keepN HN7.out HXO.out) rfl; have t0 := cell1 (keepN HN7.out HTK.out) HU0.out; have tf := free1 (keepN HN7.out HTK.out) k))
            exact ⟨HFin.out _ HN7.out _ (by first | (rw [HZ2.out]; done) | (rw [HZ2.out]; exact decide_eq_false (by omega))), by simp [intOf]; omega⟩
          · have hz : g k = false := by rw [HZ.out]; simp [relB, hb1]
            have HZ2 := Lib.hid hz
            clear hz
            have hb1' : n < bound := by omega
            go_wp2_with (first
              | (go_at_call 37; refine (config_calls HV.out (by omega) (owns_kept RX2.out z4.kept (fun _ _ x => x)) k (by omega)).mono ?_; rintro e w6 ⟨rfl, n6⟩; have HN6 := Lib.hid n6; clear n6)
              | (go_at_call 93; refine (cost_calls (HRd.out.near ((z0.trans HN6.out))) HOK.out _ HC6.out).mono ?_; rw [← HNn.out]; rintro e w7 ⟨rfl, n7⟩; have HN7 := Lib.hid (HN6.out.trans n7); clear n7; have p1 := cell1 (o := 1) (keepN HN7.out HXO.out) rfl; have t0 := cell1 (keepN HN7.out HTK.out) HU0.out; have tf := free1 (keepN HN7.out HTK.out) k))
            exact ⟨HFin.out _ HN7.out _ (by first | (rw [HZ2.out]; done) | (rw [HZ2.out]; exact decide_eq_false (by omega))), by simp [intOf]; omega⟩
        · have hkN : k = N := by omega
          subst hkN
          have rc := (hkp.block _ (by omega) (by omega)).trans EC4.out
          have c0 := cell1 (o := 0) rc rfl
          have c1 := cell1 (o := 1) rc rfl
          have f0 := free1 rc 0
          have f1 := free1 rc 1
          have R1r := owns_kept (R := fun _ => False) RX2.out z4.kept (fun _ _ x => x)
          have ne1 := owns_ne R1r rc (by decide : (3 : Nat) ≠ 39)
          have ne2 := owns_ne HOwn.out rc (by decide : (4 : Nat) ≠ 39)
          have RX3 := Lib.hid R1r
          clear R1r
          go_wp2_with fail
          have e1 := HNN.out
          have e2 := HG.out
          have hbox : IsS ((wr.setCell ⟨w.heap.size, 0, none⟩ (.slice so V.length sc)).setCell ⟨w.heap.size, 1, none⟩ (.slice (some ⟨tb, 0, none⟩) k ncp)) (.agg #[.slice so V.length sc, .slice (some ⟨tb, 0, none⟩) k ncp]) V (linF l 2 bound) := ⟨tabTo (2 ^ V.length) (fun k => linN l 2 bound V k) (2 ^ V.length), ⟨HV.out, by rw [tabTo_len], _, _, rfl, ownsRow_setCell_other (ownsRow_setCell_other RX3.out ne1 (.slice so V.length sc)) ne1 (.slice (some ⟨tb, 0, none⟩) k ncp), by
            rw [tabTo_len, ← e1, ← e2]
            exact ownsRow_setCell_other (a := ⟨w.heap.size, 1, none⟩) (ownsRow_setCell_other (a := ⟨w.heap.size, 0, none⟩) HOwn.out ne2 (.slice so V.length sc)) ne2 (.slice (some ⟨tb, 0, none⟩) k ncp)⟩, fun c => by
              rw [tabTo_rf, HU.out]
              exact linN_linF HOK.out.1 2 bound c⟩
          refine bodyPost_ret (v := .tuple #[.agg #[.slice so V.length sc, .slice (some ⟨tb, 0, none⟩) k ncp], .int .i64 0]) (by simp [results, Tryz.results69, go_sem, c0, c1]) rfl ⟨_, by rw [if_pos HLin.out], ?_, (z0.set (Nat.le_refl _) _).set (Nat.le_refl _) _⟩
          rw [if_pos HLin.out, if_pos HLin.out, ← HU.out]
          exact hbox

set_option maxRecDepth 100000 in
set_option maxHeartbeats 3200000 in
theorem rlinear_good3 {w : World} {v : Value} {l : List Int} {bound : Int} (h : RdInts w v l) (hlin : LinOk l 3) : Calls Tryz.prog 69 #[v, .int .u8 3, .int .i64 bound] w (RLinPost w l 3 bound) := by
  obtain ⟨i0, hi0, hz0, hz1, hz2⟩ := info_parts info3
  have hlen := hlin.1.1
  have HLin := Lib.hid hlin
  have HOK := Lib.hid hlin.1
  have hv := fun w' (n : Near w w') => costs_calls (h.near n) (by omega)
  rw [decide_eq_true hlin.1] at hv
  have HVd := Lib.hid hv
  have HRd := Lib.hid h
  obtain ⟨ao0, cap0, rfl, hc0⟩ := h
  have HC := Lib.hid hc0
  clear hv hlin hc0
  go_enter Tryz.func69, Tryz.ntmps69
  go_wp2_with (first
    | (go_at_call 92; refine (HVd.out _ ((Near.refl w).alloc _)).mono ?_; rintro e w1 ⟨rfl, n1⟩; have HN1 := Lib.hid (((Near.refl w).alloc (.cells #[.slice none 0 0, .slice none 0 0] 39)).trans n1); have HEC1 := Lib.hid (keepN n1 (heap_new_at (w := w) (o := .cells #[.slice none 0 0, .slice none 0 0] 39) rfl)); have HLT1 := Lib.hid (show w.heap.size + 1 ≤ w1.heap.size by simpa using n1.size'); clear n1))
  go_loopw [8, 9] (fun s i wr => ∃ k : Nat, k ≤ l.length ∧ i = .int .i64 k ∧ wr.ownsRow w1.heap.size 3 1 s (nz l k).length ((nz l k).map iv) ∧ Near w1 wr) (fun _ i _ => l.length - (intOf i).toNat)
  case atStart => exact ⟨0, Nat.zero_le _, rfl, World.ownsRow_nil _ _ _ _, Near.refl _⟩
  case round =>
    obtain ⟨k, hk, rfl, hown, hn1⟩ := hrel
    have hnl := nz_len l k
    have HO := Lib.hid hown
    obtain ⟨so, sc, rfl⟩ := owns_form hown
    clear hown
    by_cases hlt : k < l.length
    · have hlt' : (k : Int) < l.length := by omega
      obtain ⟨g, off, rfl, p0⟩ := HC.out k _ (List.getElem?_eq_getElem hlt)
      have hd : l[k] = costOf l k := by
        unfold costOf
        rw [List.getD_eq_getElem?_getD, List.getElem?_eq_getElem hlt]
        rfl
      rw [hd] at p0
      replace p0 := (HN1.out.trans hn1).cell p0
      have hs := nz_succ l k
      have HS := Lib.hid hs
      have HNr := Lib.hid hn1
      clear hd hs hn1
      obtain ⟨d, hd⟩ : ∃ d, d = costOf l k := ⟨_, rfl⟩
      rw [← hd] at p0
      have HDd := Lib.hid hd
      clear hd
      obtain ⟨m, hm⟩ : ∃ m, m = (nz l k).length := ⟨_, rfl⟩
      rw [← hm] at hnl ⊢
      have HM := Lib.hid hm
      clear hm
      by_cases hz : d = 0
      · subst hz
        go_wp2_with fail
        have e : nz l (k + 1) = nz l k := by rw [HS.out, if_pos HDd.out.symm, List.append_nil]
        exact ⟨⟨k + 1, hlt, by go_num, by rw [e, HM.out]; exact HO.out, HNr.out⟩, by simp [intOf]; omega⟩
      · have hz' : (d != 0) = true := bne_iff_ne.2 hz
        have HOm := Lib.hid (show wr.ownsRow w1.heap.size 3 1 (.slice so m sc) m ((nz l k).map iv) by rw [HM.out]; exact HO.out)
        have HZd := Lib.hid hz
        clear hz
        go_wp2_with (first
          | (at_builtin; refine wpList_append_more rfl (.tmp 36) (.tmp 38) 36 rfl w1.heap.size 3 i0 (.int .i64 0) 1 8 Tryz.underlying36 hi0 hz0 hz1 hz2 rfl (by decide) (.slice so m sc) m ((nz l k).map iv) rfl (owns_kept HOm.out ((Near.refl wr).alloc _) (fun _ _ x => x)) _ 1 [.int .i64 k] rfl ⟨rfl, .inr ⟨_, 1, rfl, cell_one_at (by simp) _ _⟩⟩ (by simp [Value.oneCell']) (by unfold maxLen; omega) (by omega) (by have := HNr.out.size'; simp; omega) ?_; intro bo bcp w4 hown4 hg4; have HO4 := Lib.hid hown4; have HG4 := Lib.hid hg4; clear hown4 hg4))
        have e : nz l (k + 1) = nz l k ++ [k] := by rw [HS.out, if_neg (fun h => HZd.out (HDd.out.trans h))]
        refine ⟨⟨k + 1, hlt, by go_num, ?_, Kept.grown (HNr.out.alloc _) HG4.out (fun kk hk hlt => absurd (HOm.out.lt kk hk).1 (by omega))⟩, by simp [intOf]; omega⟩
        rw [e, List.length_append, List.map_append, ← HM.out]
        exact HO4.out
    · have hke : k = l.length := by omega
      have hlt' : ¬ (k : Int) < l.length := by omega
      obtain ⟨V, hVV⟩ : ∃ V, V = nz l l.length := ⟨_, rfl⟩
      have hV : Rising 0 V := by rw [hVV]; exact nz_rising l _ hlen
      have HV := Lib.hid hV
      have HU := Lib.hid hVV
      have hrow : wr.ownsRow w1.heap.size 3 1 (.slice so V.length sc) V.length (V.map iv) := by
        have := HO.out
        rw [hke, ← hVV] at this
        exact this
      rw [show nz l k = V by rw [hke, hVV]] at ⊢
      have RX := Lib.hid hrow
      have HN3 := Lib.hid (HN1.out.trans hn1)
      have HEC := Lib.hid (keepN hn1 HEC1.out)
      have HLT4 := Lib.hid (Nat.le_trans HLT1.out hn1.size')
      clear hV hVV hrow hke hn1 HO HN1 HEC1 hnl hk hlt
      rename World => w4
      go_wp2_with (first
        | (go_at_call 79; refine (blank_calls HV.out (ownsRow_low RX.out (Nat.zero_le _))).mono ?_; rintro e w5 ⟨sn, rfl, rn, n5⟩; have RN := Lib.hid rn; clear rn; obtain ⟨ao, cap, hx⟩ := owns_form RX.out; obtain ⟨no, ncp, rfl⟩ := owns_form RN.out; cases hx))
      obtain ⟨tb, tcp, tcur, htv, htg, -, htb⟩ := row1' RN.out (k := 0) (u := .bool false) (by simp [Nat.two_pow_pos]) (Nat.two_pow_pos _)
      simp only [Value.slice.injEq, true_and] at htv
      obtain ⟨rfl, rfl⟩ := htv
      have htl : tb < w5.heap.size := (Array.getElem?_eq_some_iff.1 htg).1
      have W45 : Near w (w5.alloc (.cells #[.slice so V.length sc, .slice (some ⟨tb, 0, none⟩) (2 ^ V.length) ncp] 39)) := (HN3.out.trans n5).alloc _
      have HWW := Lib.hid W45
      have EC4 := Lib.hid (heap_old_at (o := .cells #[.slice so V.length sc, .slice (some ⟨tb, 0, none⟩) (2 ^ V.length) ncp] 39) (Array.getElem?_eq_some_iff.1 (keepN n5 HEC.out)).1 |>.trans (keepN n5 HEC.out))
      have EO : (w5.alloc (.cells #[.slice so V.length sc, .slice (some ⟨tb, 0, none⟩) (2 ^ V.length) ncp] 39)).heap[w5.heap.size]? = some (.cells #[.slice so V.length sc, .slice (some ⟨tb, 0, none⟩) (2 ^ V.length) ncp] 39 (0, 0)) := heap_new_at rfl
      have HEO := Lib.hid EO
      have RNW := Lib.hid (ownsRow_low (RN.out.alloc (.cells #[.slice so V.length sc, .slice (some ⟨tb, 0, none⟩) (2 ^ V.length) ncp] 39)) (Nat.zero_le _))
      have hWs : w5.heap.size < (w5.alloc (.cells #[.slice so V.length sc, .slice (some ⟨tb, 0, none⟩) (2 ^ V.length) ncp] 39)).heap.size := by simp
      have lV := HV.out.len
      have hw4 : w.heap.size + 1 ≤ w4.heap.size := HLT4.out
      have W44 := Lib.hid (n5.alloc (.cells #[.slice so V.length sc, .slice (some ⟨tb, 0, none⟩) (2 ^ V.length) ncp] 39))
      have RX2 := Lib.hid (ownsRow_low RX.out (Nat.zero_le _))
      clear W45 EO RN RX HEC n5 htg HN3
      obtain ⟨N, hN⟩ : ∃ N, N = 2 ^ V.length := ⟨_, rfl⟩
      have hNb : N ≤ 16777216 := by
        have hp : (2 : Nat) ^ V.length ≤ 2 ^ 24 := Nat.pow_le_pow_right (by omega) (by omega)
        have e24 : (2 : Nat) ^ 24 = 16777216 := by decide
        omega
      rw [← hN] at hWs HWW HEO RNW W44 EC4 ⊢
      have HNN := Lib.hid hN
      clear hN
      generalize (w5.alloc (.cells #[.slice so V.length sc, .slice (some ⟨tb, 0, none⟩) N ncp] 39)) = W at hWs HWW HEO RNW W44 EC4 ⊢
      have HG : ∃ g : Nat → Bool, g = fun k => linN l 3 bound V k := ⟨_, rfl⟩
      obtain ⟨g, hg⟩ := HG
      have HG := Lib.hid hg
      clear hg
      go_loopw [11] (fun i wr => ∃ k : Nat, k ≤ N ∧ i = .int .i64 k ∧ wr.ownsRow 0 4 1 (.slice (some ⟨tb, 0, none⟩) N ncp) N ((tabTo N g k).map Value.bool) ∧ Kept (fun b => b = tb) W wr) (fun i _ => N - (intOf i).toNat)
      case atStart =>
        refine ⟨0, Nat.zero_le _, rfl, ?_, Kept.refl _ _⟩
        rw [tabTo_zero]
        exact RNW.out
      case round =>
        obtain ⟨k, hk, rfl, hown, hkp⟩ := hrel
        have z0 : Near w wr := Kept.mono ((HWW.out.kept (S := fun b => b = tb)).trans hkp) (fun b hb e => by omega)
        have xo' : wr.heap[w5.heap.size]? = some (.cells #[.slice so V.length sc, .slice (some ⟨tb, 0, none⟩) N ncp] 39 (0, 0)) := (hkp.block _ hWs (by omega)).trans HEO.out
        have z4 : Near w4 wr := Kept.mono ((W44.out.kept (S := fun b => b = tb)).trans hkp) (fun b hb e => by omega)
        have o0 := cell1 (o := 0) xo' rfl
        have o1 := cell1 (o := 1) xo' rfl
        have HOwn := Lib.hid hown
        have HXO := Lib.hid xo'
        clear xo' hown
        by_cases hlt : k < N
        · have hlt' : (k : Int) < N := by omega
          obtain ⟨tcur', htk, u0, hu0⟩ : ∃ cur, wr.heap[tb]? = some (.cells cur 4 (0, 0)) ∧ ∃ u, cur[k]? = some u := by
            obtain ⟨g', c', cur, e, hg', hc', _⟩ := row1' HOwn.out (k := k) (u := .bool ((tabTo N g k)[k]'(by rw [tabTo_len]; exact hlt))) (by rw [List.getElem?_map, List.getElem?_eq_getElem (by rw [tabTo_len]; exact hlt)]; rfl) hlt
            cases e
            exact ⟨cur, hg', _, hc'⟩
          have t0 := cell1 htk hu0
          have tf := free1 htk k
          have hgk : g k = relB 3 (costSum l (cfg V k).testBit l.length) bound := by rw [HG.out]; rfl
          have hts : ((tabTo N g (k + 1)).map Value.bool) = ((tabTo N g k).map Value.bool).set k (.bool (g k)) := by rw [tabTo_succ, List.map_set]
          have HGK := Lib.hid hgk
          have HTS := Lib.hid hts
          have HTK := Lib.hid htk
          have HU0 := Lib.hid hu0
          clear hgk hts htk hu0 t0 tf
          have HC6 := Lib.hid (show cfg V k < 4294967296 by have := cfg_lt HV.out k; omega)
          obtain ⟨n, hn⟩ : ∃ n, n = costSum l (cfg V k).testBit l.length := ⟨_, rfl⟩
          have hz : g k = relB 3 n bound := by rw [HGK.out, hn]
          have HZ := Lib.hid hz
          have HNn := Lib.hid hn
          clear hz hn
          have hend : ∀ w6, Near wr w6 → ∀ z, z = g k → ∀ wz, wz = w6.setCell ⟨tb, k, none⟩ (.bool z) → wz.ownsRow 0 4 1 (.slice (some ⟨tb, 0, none⟩) N ncp) N ((tabTo N g (k + 1)).map Value.bool) ∧ Kept (fun b => b = tb) W wz := by
            rintro w6 n6 z rfl wz rfl
            rw [HTS.out]
            exact ⟨((owns_kept HOwn.out n6.kept (fun _ _ x => x)).stored k _).1, (hkp.trans n6.kept).setCell (fun _ => rfl) _⟩
          have fin : ∀ w6, Near wr w6 → ∀ z, z = g k → (∃ q : Nat, q ≤ N ∧ (Value.int .i64 ((k : Int) + 1)) = .int .i64 q ∧ (w6.setCell ⟨tb, k, none⟩ (.bool z)).ownsRow 0 4 1 (.slice (some ⟨tb, 0, none⟩) N ncp) N ((tabTo N g q).map Value.bool) ∧ Kept (fun b => b = tb) W (w6.setCell ⟨tb, k, none⟩ (.bool z))) := fun w6 n6 z hz =>
            ⟨k + 1, by omega, by simp, (hend _ n6 _ hz _ rfl).1, (hend _ n6 _ hz _ rfl).2⟩
          have HFin := Lib.hid fin
          clear fin hend
          by_cases hb1 : n = bound
          · have hz : g k = true := by rw [HZ.out]; simp [relB, hb1]
            have HZ2 := Lib.hid hz
            clear hz
            go_wp2_with (first
              | (go_at_call 37; refine (config_calls HV.out (by omega) (owns_kept RX2.out z4.kept (fun _ _ x => x)) k (by omega)).mono ?_; rintro e w6 ⟨rfl, n6⟩; have HN6 := Lib.hid n6; clear n6)
              | (go_at_call 93; refine (cost_calls (HRd.out.near ((z0.trans HN6.out))) HOK.out _ HC6.out).mono ?_; rw [← HNn.out]; rintro e w7 ⟨rfl, n7⟩; have HN7 := Lib.hid (HN6.out.trans n7); clear n7; have p1 := cell1 (o := 1) (keepN HN7.out HXO.out) rfl; have t0 := cell1 (keepN HN7.out HTK.out) HU0.out; have tf := free1 (keepN HN7.out HTK.out) k))
            exact ⟨HFin.out _ HN7.out _ (by first | (rw [HZ2.out]; done) | (rw [HZ2.out]; exact decide_eq_false (by omega))), by simp [intOf]; omega⟩
          · have hz : g k = false := by rw [HZ.out]; simp [relB, hb1]
            have HZ2 := Lib.hid hz
            clear hz
            have hb1' : (n == bound) = false := beq_eq_false_iff_ne.2 hb1
            go_wp2_with (first
              | (go_at_call 37; refine (config_calls HV.out (by omega) (owns_kept RX2.out z4.kept (fun _ _ x => x)) k (by omega)).mono ?_; rintro e w6 ⟨rfl, n6⟩; have HN6 := Lib.hid n6; clear n6)
              | (go_at_call 93; refine (cost_calls (HRd.out.near ((z0.trans HN6.out))) HOK.out _ HC6.out).mono ?_; rw [← HNn.out]; rintro e w7 ⟨rfl, n7⟩; have HN7 := Lib.hid (HN6.out.trans n7); clear n7; have p1 := cell1 (o := 1) (keepN HN7.out HXO.out) rfl; have t0 := cell1 (keepN HN7.out HTK.out) HU0.out; have tf := free1 (keepN HN7.out HTK.out) k))
            exact ⟨HFin.out _ HN7.out _ (by first | (rw [HZ2.out]; done) | (rw [HZ2.out]; exact decide_eq_false (by omega))), by simp [intOf]; omega⟩
        · have hkN : k = N := by omega
          subst hkN
          have rc := (hkp.block _ (by omega) (by omega)).trans EC4.out
          have c0 := cell1 (o := 0) rc rfl
          have c1 := cell1 (o := 1) rc rfl
          have f0 := free1 rc 0
          have f1 := free1 rc 1
          have R1r := owns_kept (R := fun _ => False) RX2.out z4.kept (fun _ _ x => x)
          have ne1 := owns_ne R1r rc (by decide : (3 : Nat) ≠ 39)
          have ne2 := owns_ne HOwn.out rc (by decide : (4 : Nat) ≠ 39)
          have RX3 := Lib.hid R1r
          clear R1r
          go_wp2_with fail
          have e1 := HNN.out
          have e2 := HG.out
          have hbox : IsS ((wr.setCell ⟨w.heap.size, 0, none⟩ (.slice so V.length sc)).setCell ⟨w.heap.size, 1, none⟩ (.slice (some ⟨tb, 0, none⟩) k ncp)) (.agg #[.slice so V.length sc, .slice (some ⟨tb, 0, none⟩) k ncp]) V (linF l 3 bound) := ⟨tabTo (2 ^ V.length) (fun k => linN l 3 bound V k) (2 ^ V.length), ⟨HV.out, by rw [tabTo_len], _, _, rfl, ownsRow_setCell_other (ownsRow_setCell_other RX3.out ne1 (.slice so V.length sc)) ne1 (.slice (some ⟨tb, 0, none⟩) k ncp), by
            rw [tabTo_len, ← e1, ← e2]
            exact ownsRow_setCell_other (a := ⟨w.heap.size, 1, none⟩) (ownsRow_setCell_other (a := ⟨w.heap.size, 0, none⟩) HOwn.out ne2 (.slice so V.length sc)) ne2 (.slice (some ⟨tb, 0, none⟩) k ncp)⟩, fun c => by
              rw [tabTo_rf, HU.out]
              exact linN_linF HOK.out.1 3 bound c⟩
          refine bodyPost_ret (v := .tuple #[.agg #[.slice so V.length sc, .slice (some ⟨tb, 0, none⟩) k ncp], .int .i64 0]) (by simp [results, Tryz.results69, go_sem, c0, c1]) rfl ⟨_, by rw [if_pos HLin.out], ?_, (z0.set (Nat.le_refl _) _).set (Nat.le_refl _) _⟩
          rw [if_pos HLin.out, if_pos HLin.out, ← HU.out]
          exact hbox

theorem rlinear_f {w : World} {v : Value} {l : List Int} {rel : Nat} {bound : Int} (h : RdInts w v l) (hl : l.length ≤ 1000) : Calls Tryz.prog 69 #[v, .int .u8 rel, .int .i64 bound] w (RLinPost w l rel bound) := by
  by_cases hok : LinOk l rel
  · rcases (show rel = 1 ∨ rel = 2 ∨ rel = 3 by obtain ⟨_, h1, h2⟩ := hok; omega) with rfl | rfl | rfl
    · exact rlinear_good1 h hok
    · exact rlinear_good2 h hok
    · exact rlinear_good3 h hok
  · exact rlinear_bad h hl hok

end Go.Proofs.YtefclohjeompkaaGreat

/- RefW: what is needed of it. -/
namespace Go.Proofs.YtefclohjeompkaaGreat
open Go Go.RowKit Go.Proofs.Gen Go.Proofs.Bdd Go.Proofs.Bdd.T
/-- What the inner loop keeps, behind j indices: a says which indices are looked at, g what the table says there. -/
def chg (every : Bool) (a g : Nat → Bool) : Nat → Bool
  | 0 => every
  | j + 1 => if a j then (if every then chg every a g j && g j else chg every a g j || g j) else chg every a g j

theorem chg_false (a g : Nat → Bool) : ∀ n, chg false a g n = true ↔ ∃ j, j < n ∧ a j = true ∧ g j = true
  | 0 => by simp [chg]
  | n + 1 => by
    have ih := chg_false a g n
    unfold chg
    constructor
    · intro h
      by_cases ha : a n = true
      · simp only [ha, if_true, Bool.false_eq_true, if_false, Bool.or_eq_true] at h
        rcases h with h | h
        · obtain ⟨j, h1, h2⟩ := ih.1 h
          exact ⟨j, by omega, h2⟩
        · exact ⟨n, by omega, ha, h⟩
      · simp only [ha, Bool.false_eq_true, if_false] at h
        obtain ⟨j, h1, h2⟩ := ih.1 h
        exact ⟨j, by omega, h2⟩
    · rintro ⟨j, h1, h2, h3⟩
      by_cases e : j = n
      · subst e
        simp [h2, h3]
      · have := ih.2 ⟨j, by omega, h2, h3⟩
        simp [this]

theorem chg_true (a g : Nat → Bool) : ∀ n, chg true a g n = !chg false a (fun j => !g j) n
  | 0 => rfl
  | n + 1 => by
    have ih := chg_true a g n
    unfold chg
    rw [ih]
    cases a n <;> cases chg false a (fun j => !g j) n <;> cases g n <;> rfl

theorem exF_V {V : List Nat} {f : F} (hf : ∀ c d : Nat → Bool, (∀ i ∈ V, c i = d i) → f c = f d) (xs : List Nat) {c c' : Nat → Bool} (h : ∀ i ∈ V, c i = c' i) : exF xs f c = exF xs f c' := by
  have one : ∀ c c' : Nat → Bool, (∀ i ∈ V, c i = c' i) → exF xs f c = true → exF xs f c' = true := fun c c' h he => by
    obtain ⟨d, hd, hfd⟩ := (exF_iff xs f c).1 he
    refine (exF_iff xs f c').2 ⟨fun i => if i ∈ V then d i else c' i, fun i hi => ?_, ?_⟩
    · simp only
      split
      · rename_i hv
        rw [hd i hi, h i hv]
      · rfl
    · rw [← hfd]
      exact hf _ _ fun i hi => by simp [hi]
  rw [Bool.eq_iff_iff]
  exact ⟨one c c' h, one c' c fun i hi => (h i hi).symm⟩

theorem changed_ex {V : List Nat} (hV : Rising 0 V) {f : F} (hf : ∀ c d : Nat → Bool, (∀ i ∈ V, c i = d i) → f c = f d) (m k : Nat) {a : Nat → Bool}
    (ha : ∀ j, a j = true ↔ ∀ i, i < 24 → m.testBit i = false → (cfg V k).testBit i = (cfg V j).testBit i) : chg false a (fun j => f (cfg V j).testBit) (2 ^ V.length) = exF (feats m) f (cfg V k).testBit := by
  rw [Bool.eq_iff_iff, chg_false, exF_iff]
  have high : ∀ j i, 24 ≤ i → (cfg V j).testBit i = false := fun j i hi => Nat.testBit_lt_two_pow (Nat.lt_of_lt_of_le (cfg_lt hV j) (by rw [show (16777216 : Nat) = 2 ^ 24 by decide]; exact Nat.pow_le_pow_right (by omega) hi))
  constructor
  · rintro ⟨j, -, h1, h2⟩
    refine ⟨(cfg V j).testBit, fun i hi => ?_, h2⟩
    by_cases h24 : i < 24
    · refine ((ha j).1 h1 i h24 ?_).symm
      cases hb : m.testBit i
      · rfl
      · exact (hi (feats_mem.2 ⟨h24, hb⟩)).elim
    · rw [high j i (by omega), high k i (by omega)]
  · rintro ⟨d, hd, h⟩
    have hb : ∀ i, (cfg V (idx V d)).testBit i = (V.contains i && d i) := fun i => by rw [cfg_bit hV, bitOf_idx]
    have hbk : ∀ i, i ∉ V → (cfg V k).testBit i = false := fun i hi => by rw [cfg_bit hV]; exact bitOf_not hi
    refine ⟨idx V d, idx_lt d V, (ha _).2 fun i hi hm => ?_, ?_⟩
    · rw [hb]
      have hnot : i ∉ feats m := fun h => by
        have := (feats_mem.1 h).2
        rw [hm] at this
        cases this
      by_cases hv : i ∈ V
      · rw [show V.contains i = true from List.contains_iff_mem.2 hv, Bool.true_and, hd i hnot]
      · rw [hbk i hv]
        have : V.contains i = false := by
          rw [Bool.eq_false_iff]
          exact fun h => hv (List.contains_iff_mem.1 h)
        rw [this]
        rfl
    · rw [← h]
      exact hf _ _ fun i hi => by rw [hb, List.contains_iff_mem.2 hi]; rfl

theorem changed_fa {V : List Nat} (hV : Rising 0 V) {f : F} (hf : ∀ c d : Nat → Bool, (∀ i ∈ V, c i = d i) → f c = f d) (m k : Nat) {a : Nat → Bool}
    (ha : ∀ j, a j = true ↔ ∀ i, i < 24 → m.testBit i = false → (cfg V k).testBit i = (cfg V j).testBit i) : chg true a (fun j => f (cfg V j).testBit) (2 ^ V.length) = faF (feats m) f (cfg V k).testBit := by
  rw [chg_true, faF_not, changed_ex (f := fun c => !f c) hV (fun c d h => by rw [hf c d h]) m k ha]

end Go.Proofs.YtefclohjeompkaaGreat
