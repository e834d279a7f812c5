/- The reference: the walk of Join2. -/
import Derived.Test.YtefclohjeompkaaRefE
namespace Go.Proofs.Ytefclohjeompkaa
open Go Go.RowKit Go.Proofs.Gen Go.Proofs.Bdd Go.Proofs.Bdd.T

/-- A row's block. -/
theorem row1' {w : World} {base e n : Nat} {v : Value} {xs : List Value} (h : w.ownsRow base e 1 v n xs) {k : Nat} {u : Value} (hk : xs[k]? = some u) (hn : k < n) :
    ∃ g cap cur, v = .slice (some ⟨g, 0, none⟩) n cap ∧ w.heap[g]? = some (.cells cur e (0, 0)) ∧ cur[k]? = some u ∧ base ≤ g := by
  rcases h.2 with ⟨_, h0⟩ | ⟨g, cap, cur, rfl, hb, hg, _, _, hs, ht⟩
  · omega
  · refine ⟨g, cap, cur, rfl, hg, ?_, hb⟩
    rw [← ht, List.getElem?_take, if_pos (by omega)] at hk
    simpa using hk

/-- What one cell of a joined table says. -/
def jcell (how : Nat) (U V V' : List Nat) (T T' : List Bool) (k : Nat) : Bool := jop how (rf V T (cfg U k).testBit) (rf V' T' (cfg U k).testBit)

set_option maxRecDepth 100000 in
set_option maxHeartbeats 1600000 in
theorem join2_calls {w : World} {va vb : Value} {V V' : List Nat} {T T' : List Bool} (ha : IsR w va V T) (hb : IsR w vb V' T') (how : Nat) (hh : how < 3) :
    Calls Try.prog 103 #[va, vb, .int .i64 how] w fun e w' => ∃ v, e = .returned v ∧ IsR w' v (feats (numb V ||| numb V')) (tabTo (2 ^ (feats (numb V ||| numb V')).length) (jcell how (feats (numb V ||| numb V')) V V' T T') (2 ^ (feats (numb V ||| numb V')).length)) ∧ Below w.heap.size w w' := by
  have HA := Lib.hid ha
  have HB := Lib.hid hb
  obtain ⟨hV, hT, sv, st, rfl, r1, r2⟩ := ha
  obtain ⟨hV', hT', sv', st', rfl, r1', r2'⟩ := hb
  have hU := feats_rising (numb V ||| numb V')
  have R1 := Lib.hid r1
  have R1' := Lib.hid r1'
  have HV := Lib.hid hV
  have HV' := Lib.hid hV'
  obtain ⟨U, hUU⟩ : ∃ U, U = feats (numb V ||| numb V') := ⟨_, rfl⟩
  rw [← hUU] at hU ⊢
  have HU := Lib.hid hUU
  have HRU := Lib.hid hU
  obtain ⟨ao, cap, rfl⟩ := owns_form r1
  obtain ⟨bo, cbp, rfl⟩ := owns_form r1'
  obtain ⟨co, ccp, rfl⟩ := owns_form r2
  obtain ⟨d, dcp, rfl⟩ := owns_form r2'
  clear r1 r2 r1' r2' hT hT' hV hV' hU hUU
  have N3 : Near w (((w.alloc (.cells #[.slice ao V.length cap, .slice co T.length ccp] 37)).alloc (.cells #[.slice bo V'.length cbp, .slice d T'.length dcp] 37)).alloc (.cells #[.slice none 0 0, .slice none 0 0] 37)) := (((Near.refl w).alloc _).alloc _).alloc _
  have HN3 := Lib.hid N3
  have EA : (((w.alloc (.cells #[.slice ao V.length cap, .slice co T.length ccp] 37)).alloc (.cells #[.slice bo V'.length cbp, .slice d T'.length dcp] 37)).alloc (.cells #[.slice none 0 0, .slice none 0 0] 37)).heap[w.heap.size]? = some (.cells #[.slice ao V.length cap, .slice co T.length ccp] 37 (0, 0)) := by
    rw [heap_old_at (by simp <;> omega), heap_old_at (by simp), heap_new_at rfl]
  have EB : (((w.alloc (.cells #[.slice ao V.length cap, .slice co T.length ccp] 37)).alloc (.cells #[.slice bo V'.length cbp, .slice d T'.length dcp] 37)).alloc (.cells #[.slice none 0 0, .slice none 0 0] 37)).heap[w.heap.size + 1]? = some (.cells #[.slice bo V'.length cbp, .slice d T'.length dcp] 37 (0, 0)) := by
    rw [heap_old_at (by simp), heap_new_at (by simp)]
  have EC : (((w.alloc (.cells #[.slice ao V.length cap, .slice co T.length ccp] 37)).alloc (.cells #[.slice bo V'.length cbp, .slice d T'.length dcp] 37)).alloc (.cells #[.slice none 0 0, .slice none 0 0] 37)).heap[w.heap.size + 1 + 1]? = some (.cells #[.slice none 0 0, .slice none 0 0] 37 (0, 0)) := heap_new_at (by simp)
  have HEA := Lib.hid EA
  have HEB := Lib.hid EB
  have HEC := Lib.hid EC
  have E37 : w.heap.size < w.heap.size + 1 := Nat.lt_succ_self _
  clear N3 EA EB EC E37
  go_enter Try.func103, Try.ntmps103
  go_wp2_with (first
    | (go_at_call 133; refine (rjoin_calls HV.out HV'.out (owns_kept R1.out HN3.out.kept (fun _ _ x => x)) (owns_kept R1'.out HN3.out.kept (fun _ _ x => x))).mono ?_; rw [← HU.out]; rintro e w4 ⟨x, rfl, rx, n4⟩; have RX := Lib.hid rx; clear rx)
    | (go_at_call 127; refine (blank_calls HRU.out (ownsRow_low RX.out (Nat.zero_le _))).mono ?_; rintro e w5 ⟨sn, rfl, rn, n5⟩; have RN := Lib.hid rn; clear rn; obtain ⟨xo, xcp, rfl⟩ := owns_form RX.out; obtain ⟨no, ncp, rfl⟩ := owns_form RN.out))
  obtain ⟨tb, tcp, tcur, htv, htg, -, htb⟩ := row1' RN.out (k := 0) (u := .bool false) (by simp [Nat.two_pow_pos]) (Nat.two_pow_pos _)
  simp only [Value.slice.injEq, true_and] at htv
  obtain ⟨rfl, rfl⟩ := htv
  have htl : tb < w5.heap.size := (Array.getElem?_eq_some_iff.1 htg).1
  have a3 : w.heap.size + 1 + 1 + 1 ≤ w4.heap.size := by
    have := n4.size'
    simpa using this
  have W45 : Near w4 (w5.alloc (.cells #[.slice xo U.length xcp, .slice (some ⟨tb, 0, none⟩) (2 ^ U.length) ncp] 37)) := n5.alloc _
  have NW : Near w (w5.alloc (.cells #[.slice xo U.length xcp, .slice (some ⟨tb, 0, none⟩) (2 ^ U.length) ncp] 37)) := (HN3.out.trans n4).trans W45
  have HWW := Lib.hid W45
  have HNW := Lib.hid NW
  have EA4 := Lib.hid (keepN n4 HEA.out)
  have EB4 := Lib.hid (keepN n4 HEB.out)
  have EC4 := Lib.hid (keepN n4 HEC.out)
  have EO : (w5.alloc (.cells #[.slice xo U.length xcp, .slice (some ⟨tb, 0, none⟩) (2 ^ U.length) ncp] 37)).heap[w5.heap.size]? = some (.cells #[.slice xo U.length xcp, .slice (some ⟨tb, 0, none⟩) (2 ^ U.length) ncp] 37 (0, 0)) := heap_new_at rfl
  have HEO := Lib.hid EO
  have RNW := Lib.hid (RN.out.alloc (.cells #[.slice xo U.length xcp, .slice (some ⟨tb, 0, none⟩) (2 ^ U.length) ncp] 37))
  have hWs : w5.heap.size < (w5.alloc (.cells #[.slice xo U.length xcp, .slice (some ⟨tb, 0, none⟩) (2 ^ U.length) ncp] 37)).heap.size := by simp
  have RX' := Lib.hid (ownsRow_low RX.out (Nat.zero_le _))
  have lU := HRU.out.len
  clear W45 NW EO RX RN HEA HEB HEC n4 n5 htg HN3
  obtain ⟨N, hN⟩ : ∃ N, N = 2 ^ U.length := ⟨_, rfl⟩
  have hNb : N ≤ 16777216 := by
    have hp : (2 : Nat) ^ U.length ≤ 2 ^ 24 := Nat.pow_le_pow_right (by omega) (by omega)
    have e24 : (2 : Nat) ^ 24 = 16777216 := by decide
    omega
  rw [← hN] at hWs HWW HNW HEO RNW ⊢
  have HNN := Lib.hid hN
  clear hN
  generalize (w5.alloc (.cells #[.slice xo U.length xcp, .slice (some ⟨tb, 0, none⟩) N ncp] 37)) = W at hWs HWW HNW HEO RNW ⊢
  have HG : ∃ g, g = jcell how U V V' T T' := ⟨_, rfl⟩
  obtain ⟨g, hg⟩ := HG
  have HG := Lib.hid hg
  clear hg
  go_loopw [8] (fun i wr => ∃ k : Nat, k ≤ N ∧ i = .int .i64 k ∧ wr.ownsRow w4.heap.size 4 1 (.slice (some ⟨tb, 0, none⟩) N ncp) N ((tabTo N g k).map Value.bool) ∧ Kept (fun b => b = tb) W wr) (fun i _ => N - (intOf i).toNat)
  case atStart =>
    refine ⟨0, Nat.zero_le _, rfl, ?_, Kept.refl _ _⟩
    rw [tabTo_zero]
    exact RNW.out
  case round =>
    obtain ⟨k, hk, rfl, hown, hkp⟩ := hrel
    have z4 : Near w4 wr := Kept.mono ((HWW.out.kept (S := fun b => b = tb)).trans hkp) (fun b hb e => by omega)
    have z0 : Near w wr := Kept.mono ((HNW.out.kept (S := fun b => b = tb)).trans hkp) (fun b hb e => by omega)
    have xo' : wr.heap[w5.heap.size]? = some (.cells #[.slice xo U.length xcp, .slice (some ⟨tb, 0, none⟩) N ncp] 37 (0, 0)) := (hkp.block _ hWs (by omega)).trans HEO.out
    have o0 := cell1 (o := 0) xo' rfl
    have o1 := cell1 (o := 1) xo' rfl
    have HXO := Lib.hid xo'
    have HOwn := Lib.hid hown
    clear xo' hown
    by_cases hlt : k < N
    · have hlt' : (k : Int) < N := by omega
      go_wp2_with (first
        | (go_at_call 83; refine (config_calls HRU.out (by omega) (owns_kept RX'.out z4.kept (fun _ _ x => x)) k (by omega)).mono ?_; rintro e w6 ⟨rfl, n6⟩))
      have zw := z0.trans n6
      have z46 := z4.trans n6
      have hc6 := cfg_lt HRU.out k
      have sOf : ∀ w', Near w6 w' → w'.cell? ⟨w.heap.size, 0, none⟩ = some (.slice ao V.length cap) ∧ w'.cell? ⟨w.heap.size, 1, none⟩ = some (.slice co T.length ccp) ∧ w'.cell? ⟨w.heap.size + 1, 0, none⟩ = some (.slice bo V'.length cbp) ∧ w'.cell? ⟨w.heap.size + 1, 1, none⟩ = some (.slice d T'.length dcp) ∧ Near w6 w' :=
        fun w' h => ⟨cell1 (keepN (z46.trans h) EA4.out) rfl, cell1 (keepN (z46.trans h) EA4.out) rfl, cell1 (keepN (z46.trans h) EB4.out) rfl, cell1 (keepN (z46.trans h) EB4.out) rfl, h⟩
      have hvx : ((if k < N then true else false) = true) := by simp [hlt]
      obtain ⟨tcur', htk, htc⟩ : ∃ cur, wr.heap[tb]? = some (.cells cur 4 (0, 0)) ∧ ∃ u, cur[k]? = some u := by
        obtain ⟨g', c', cur, e, hg', hc', _⟩ := row1' HOwn.out (k := k) (u := .bool ((tabTo N g k)[k]'(by rw [tabTo_len]; exact hlt))) (by rw [List.getElem?_map, List.getElem?_eq_getElem (by rw [tabTo_len]; exact hlt)]; rfl) hlt
        cases e
        exact ⟨cur, hg', _, hc'⟩
      have HTK := Lib.hid htk
      obtain ⟨u0, hu0⟩ := htc
      have HU0 := Lib.hid hu0
      clear htk hu0 hvx o0 o1
      go_region_held3 (fun w' => w'.cell? ⟨w.heap.size, 0, none⟩ = some (.slice ao V.length cap) ∧ w'.cell? ⟨w.heap.size, 1, none⟩ = some (.slice co T.length ccp) ∧ w'.cell? ⟨w.heap.size + 1, 0, none⟩ = some (.slice bo V'.length cbp) ∧ w'.cell? ⟨w.heap.size + 1, 1, none⟩ = some (.slice d T'.length dcp) ∧ Near w6 w')
        ((refine sOf _ ?_; repeat (first | assumption | exact Near.refl _ | refine Near.drew ?_ | refine Near.alloc ?_ _ | refine Near.drewN ?_ _)))
        (first
          | (go_at_call_of 90 (Value.slice co T.length ccp); refine (rhas_calls (HA.out.near (zw.trans (by first | assumption | exact (Near.refl w6).drew))) (cfg U k) (by omega)).mono ?_; rintro e w7 ⟨rfl, m7⟩; have n7 : Near w6 w7 := Near.trans (by first | assumption | exact (Near.refl w6).drew) m7)
          | (go_at_call_of 90 (Value.slice d T'.length dcp); refine (rhas_calls (HB.out.near (zw.trans (by first | assumption | exact (Near.refl w6).drew))) (cfg U k) (by omega)).mono ?_; rintro e w8 ⟨rfl, m8⟩; have n8 : Near w6 w8 := Near.trans (by first | assumption | exact (Near.refl w6).drew) m8))
      have n68 := n6.trans n8
      have p0 := cell1 (o := 0) (keepN n68 HXO.out) rfl
      have p1 := cell1 (o := 1) (keepN n68 HXO.out) rfl
      have t0 := cell1 (keepN n68 HTK.out) HU0.out
      have tf := free1 (keepN n68 HTK.out) k
      have HO8 := Lib.hid (owns_kept HOwn.out n68.kept (fun _ _ x => x))
      have hkp8 := hkp.trans n68.kept
      have hgk : g k = jop how (rf V T (cfg U k).testBit) (rf V' T' (cfg U k).testBit) := by rw [HG.out]; rfl
      have hts : ((tabTo N g (k + 1)).map Value.bool) = ((tabTo N g k).map Value.bool).set k (.bool (g k)) := by rw [tabTo_succ, List.map_set]
      have HGK := Lib.hid hgk
      have HTS := Lib.hid hts
      generalize rf V T (cfg U k).testBit = bx at HGK ⊢
      generalize rf V' T' (cfg U k).testBit = by' at HGK ⊢
      clear hgk hts hc6 sOf n6 m7 n7 m8 n8 zw z46
      have hend : ∀ z, z = g k → ∀ wz, wz = w8.setCell ⟨tb, k, none⟩ (.bool z) → wz.ownsRow w4.heap.size 4 1 (.slice (some ⟨tb, 0, none⟩) N ncp) N ((tabTo N g (k + 1)).map Value.bool) ∧ Kept (fun b => b = tb) W wz := by
        rintro z rfl wz rfl
        rw [HTS.out]
        exact ⟨(HO8.out.stored k _).1, hkp8.setCell (fun _ => rfl) _⟩
      rcases (show how = 0 ∨ how = 1 ∨ how = 2 by omega) with rfl | rfl | rfl <;> cases bx <;> cases by'
      all_goals
        go_wp2_with fail
        exact ⟨⟨k + 1, by omega, by go_num, (hend _ (by rw [HGK.out]; rfl) _ rfl).1, (hend _ (by rw [HGK.out]; rfl) _ rfl).2⟩, by simp [intOf]; omega⟩
    · have hkN : k = N := by omega
      subst hkN
      have rc := keepN z4 EC4.out
      have c0 := cell1 (o := 0) rc rfl
      have c1 := cell1 (o := 1) rc rfl
      have f0 := free1 rc 0
      have f1 := free1 rc 1
      have RXr := owns_kept (R := fun _ => False) RX'.out z4.kept (fun _ _ x => x)
      have ne1 := owns_ne RXr rc (by decide : (3 : Nat) ≠ 37)
      have ne2 := owns_ne HOwn.out rc (by decide : (4 : Nat) ≠ 37)
      have RX2 := Lib.hid RXr
      clear RXr HXO
      go_wp2_with fail
      have e1 := HNN.out
      have e2 := HG.out
      have e3 := HU.out
      refine bodyPost_ret (v := .agg #[.slice xo U.length xcp, .slice (some ⟨tb, 0, none⟩) k ncp]) (by simp [results, Try.results103, go_sem, c0, c1]) rfl ⟨_, rfl, ?_, (((z0.below).setCell (by show w.heap.size ≤ w.heap.size + 1 + 1; omega) _).setCell (by show w.heap.size ≤ w.heap.size + 1 + 1; omega) _)⟩
      refine ⟨HRU.out, by rw [tabTo_len], _, _, rfl, ownsRow_setCell_other (ownsRow_setCell_other RX2.out ne1 _) ne1 _, ?_⟩
      rw [tabTo_len, ← e1, ← e2]
      exact ownsRow_low (ownsRow_setCell_other (ownsRow_setCell_other HOwn.out ne2 _) ne2 _) (Nat.zero_le _)

end Go.Proofs.Ytefclohjeompkaa
