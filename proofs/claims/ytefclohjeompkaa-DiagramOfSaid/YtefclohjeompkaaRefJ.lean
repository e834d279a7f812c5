/- The reference: Not. -/
import Derived.Test.YtefclohjeompkaaRefI
namespace Go.Proofs.Ytefclohjeompkaa
open Go Go.RowKit Go.Proofs.Gen Go.Proofs.Bdd Go.Proofs.Bdd.T

set_option maxRecDepth 100000 in
set_option maxHeartbeats 1600000 in
theorem rnot_calls {w : World} {va : Value} {V : List Nat} {f : (Nat → Bool) → Bool} (h : IsS w va V f) :
    Calls Try.prog 126 #[va] w (SPost w V (fun c => !(f c))) := by
  obtain ⟨T, ⟨hV, hT, sv, st, rfl, r1, r2⟩, hf⟩ := h
  obtain ⟨ao, cap, rfl⟩ := owns_form r1
  obtain ⟨co, ccp, rfl⟩ := owns_form r2
  have R1 := Lib.hid r1
  have R2 := Lib.hid r2
  have HV := Lib.hid hV
  have HF := Lib.hid hf
  have HTL := Lib.hid hT
  clear r1 r2 hV hf hT
  have N3 : Near w ((w.alloc (.cells #[.slice ao V.length cap, .slice co T.length ccp] 37)).alloc (.cells #[.slice none 0 0, .slice none 0 0] 37)) := ((Near.refl w).alloc _).alloc _
  have HN3 := Lib.hid N3
  have EA : ((w.alloc (.cells #[.slice ao V.length cap, .slice co T.length ccp] 37)).alloc (.cells #[.slice none 0 0, .slice none 0 0] 37)).heap[w.heap.size]? = some (.cells #[.slice ao V.length cap, .slice co T.length ccp] 37 (0, 0)) := by
    rw [heap_old_at (by simp), heap_new_at rfl]
  have EC : ((w.alloc (.cells #[.slice ao V.length cap, .slice co T.length ccp] 37)).alloc (.cells #[.slice none 0 0, .slice none 0 0] 37)).heap[w.heap.size + 1]? = some (.cells #[.slice none 0 0, .slice none 0 0] 37 (0, 0)) := heap_new_at (by simp)
  have hs3 : ((w.alloc (.cells #[.slice ao V.length cap, .slice co T.length ccp] 37)).alloc (.cells #[.slice none 0 0, .slice none 0 0] 37)).heap.size = w.heap.size + 1 + 1 := by simp
  have HEA := Lib.hid EA
  have HEC := Lib.hid EC
  have HS3 := Lib.hid hs3
  clear N3 EA EC hs3
  go_enter Try.func126, Try.ntmps126
  go_wp2_with (first
    | (go_at_call 127; refine (blank_calls HV.out (owns_kept R1.out HN3.out.kept (fun _ _ x => x))).mono ?_; rintro e w5 ⟨sn, rfl, rn, n5⟩; have RN := Lib.hid rn; clear rn; obtain ⟨no, ncp, rfl⟩ := owns_form RN.out))
  obtain ⟨tb, tcp, tcur, htv, htg, -, htb⟩ := row1' RN.out (k := 0) (u := .bool false) (by simp [Nat.two_pow_pos]) (Nat.two_pow_pos _)
  simp only [Value.slice.injEq, true_and] at htv
  obtain ⟨rfl, rfl⟩ := htv
  have htl : tb < w5.heap.size := (Array.getElem?_eq_some_iff.1 htg).1
  rw [HS3.out] at htb
  have W45 : Near w (w5.alloc (.cells #[.slice ao V.length cap, .slice (some ⟨tb, 0, none⟩) (2 ^ V.length) ncp] 37)) := (HN3.out.trans n5).alloc _
  have HWW := Lib.hid W45
  have EA4 := Lib.hid (heap_old_at (o := .cells #[.slice ao V.length cap, .slice (some ⟨tb, 0, none⟩) (2 ^ V.length) ncp] 37) (Array.getElem?_eq_some_iff.1 (keepN n5 HEA.out)).1 |>.trans (keepN n5 HEA.out))
  have EC4 := Lib.hid (heap_old_at (o := .cells #[.slice ao V.length cap, .slice (some ⟨tb, 0, none⟩) (2 ^ V.length) ncp] 37) (Array.getElem?_eq_some_iff.1 (keepN n5 HEC.out)).1 |>.trans (keepN n5 HEC.out))
  have EO : (w5.alloc (.cells #[.slice ao V.length cap, .slice (some ⟨tb, 0, none⟩) (2 ^ V.length) ncp] 37)).heap[w5.heap.size]? = some (.cells #[.slice ao V.length cap, .slice (some ⟨tb, 0, none⟩) (2 ^ V.length) ncp] 37 (0, 0)) := heap_new_at rfl
  have HEO := Lib.hid EO
  have RNW := Lib.hid (ownsRow_low (RN.out.alloc (.cells #[.slice ao V.length cap, .slice (some ⟨tb, 0, none⟩) (2 ^ V.length) ncp] 37)) (Nat.zero_le _))
  have hWs : w5.heap.size < (w5.alloc (.cells #[.slice ao V.length cap, .slice (some ⟨tb, 0, none⟩) (2 ^ V.length) ncp] 37)).heap.size := by simp
  have lV := HV.out.len
  have hw5 := n5.size'
  rw [HS3.out] at hw5
  clear W45 EO RN HEA HEC n5 htg HN3 HS3
  obtain ⟨N, hN⟩ : ∃ N, N = 2 ^ V.length := ⟨_, rfl⟩
  have hNb : N ≤ 16777216 := by
    have hp : (2 : Nat) ^ V.length ≤ 2 ^ 24 := Nat.pow_le_pow_right (by omega) (by omega)
    have e24 : (2 : Nat) ^ 24 = 16777216 := by decide
    omega
  have hTN : T.length = N := by rw [HTL.out, hN]
  rw [← hN] at hWs HWW HEO RNW EA4 EC4 ⊢
  have HNN := Lib.hid hN
  clear hN
  generalize (w5.alloc (.cells #[.slice ao V.length cap, .slice (some ⟨tb, 0, none⟩) N ncp] 37)) = W at hWs HWW HEO RNW EA4 EC4 ⊢
  rw [hTN] at R2 EA4 ⊢
  have HTN := Lib.hid hTN
  clear hTN
  have HG : ∃ g : Nat → Bool, g = fun k => !(T.getD k false) := ⟨_, rfl⟩
  obtain ⟨g, hg⟩ := HG
  have HG := Lib.hid hg
  clear hg
  go_loopw [4] (fun i wr => ∃ k : Nat, k ≤ N ∧ i = .int .i64 k ∧ wr.ownsRow 0 4 1 (.slice (some ⟨tb, 0, none⟩) N ncp) N ((tabTo N g k).map Value.bool) ∧ Kept (fun b => b = tb) W wr) (fun i _ => N - (intOf i).toNat)
  case atStart =>
    refine ⟨0, Nat.zero_le _, rfl, ?_, Kept.refl _ _⟩
    rw [tabTo_zero]
    exact RNW.out
  case round =>
    obtain ⟨k, hk, rfl, hown, hkp⟩ := hrel
    have z0 : Near w wr := Kept.mono ((HWW.out.kept (S := fun b => b = tb)).trans hkp) (fun b hb e => by omega)
    have xo' : wr.heap[w5.heap.size]? = some (.cells #[.slice ao V.length cap, .slice (some ⟨tb, 0, none⟩) N ncp] 37 (0, 0)) := (hkp.block _ hWs (by omega)).trans HEO.out
    have xa' : wr.heap[w.heap.size]? = some (.cells #[.slice ao V.length cap, .slice co N ccp] 37 (0, 0)) := (hkp.block _ (by omega) (by omega)).trans EA4.out
    have o0 := cell1 (o := 0) xo' rfl
    have o1 := cell1 (o := 1) xo' rfl
    have a0 := cell1 (o := 0) xa' rfl
    have a1 := cell1 (o := 1) xa' rfl
    have HOwn := Lib.hid hown
    clear xo' xa' hown
    by_cases hlt : k < N
    · have hlt' : (k : Int) < N := by omega
      obtain ⟨y, hy⟩ : ∃ y, y = T[k]'(by rw [HTN.out]; exact hlt) := ⟨_, rfl⟩
      obtain ⟨gb, cap', hv, x0, hgb⟩ := row1 R2.out (k := k) (u := .bool y) (by rw [List.getElem?_map, List.getElem?_eq_getElem (by rw [HTN.out]; exact hlt), hy]; rfl) hlt
      simp only [Value.slice.injEq, true_and] at hv
      obtain ⟨rfl, rfl⟩ := hv
      have y0 := z0.cell x0
      obtain ⟨tcur', htk, u0, hu0⟩ : ∃ cur, wr.heap[tb]? = some (.cells cur 4 (0, 0)) ∧ ∃ u, cur[k]? = some u := by
        obtain ⟨g', c', cur, e, hg', hc', _⟩ := row1' HOwn.out (k := k) (u := .bool ((tabTo N g k)[k]'(by rw [tabTo_len]; exact hlt))) (by rw [List.getElem?_map, List.getElem?_eq_getElem (by rw [tabTo_len]; exact hlt)]; rfl) hlt
        cases e
        exact ⟨cur, hg', _, hc'⟩
      have t0 := cell1 htk hu0
      have tf := free1 htk k
      have hgk : g k = !y := by rw [HG.out, hy]; simp [List.getD_eq_getElem?_getD, List.getElem?_eq_getElem (show k < T.length by rw [HTN.out]; exact hlt)]
      have hts : ((tabTo N g (k + 1)).map Value.bool) = ((tabTo N g k).map Value.bool).set k (.bool (g k)) := by rw [tabTo_succ, List.map_set]
      have HGK := Lib.hid hgk
      have HTS := Lib.hid hts
      clear hgk hts x0 hy
      have hend : ((wr.setCell ⟨tb, k, none⟩ (.bool (!y))).drew).ownsRow 0 4 1 (.slice (some ⟨tb, 0, none⟩) N ncp) N ((tabTo N g (k + 1)).map Value.bool) := by
        rw [HTS.out, HGK.out]
        exact (HOwn.out.stored k _).1.drew
      have hend2 : Kept (fun b => b = tb) W (wr.setCell ⟨tb, k, none⟩ (.bool (!y))).drew := (hkp.setCell (fun _ => rfl) _).drew
      go_upto_region 5 with fail
      go_still_tail 10, (by kernel_rfl)
      change wpList _ _ _ _ _ wr.drew
      go_wp2_with fail
      exact ⟨⟨k + 1, by omega, by go_num, hend, hend2⟩, by simp [intOf]; omega⟩
    · have hkN : k = N := by omega
      subst hkN
      have rc := (hkp.block _ (by omega) (by omega)).trans EC4.out
      have c0 := cell1 (o := 0) rc rfl
      have c1 := cell1 (o := 1) rc rfl
      have f0 := free1 rc 0
      have f1 := free1 rc 1
      have R1r := owns_kept (R := fun _ => False) R1.out z0.kept (fun _ _ x => x)
      have ne1 := owns_ne R1r rc (by decide : (3 : Nat) ≠ 37)
      have ne2 := owns_ne HOwn.out rc (by decide : (4 : Nat) ≠ 37)
      have RX2 := Lib.hid R1r
      clear R1r
      go_wp2_with fail
      have e1 := HNN.out
      refine bodyPost_ret (v := .agg #[.slice ao V.length cap, .slice (some ⟨tb, 0, none⟩) k ncp]) (by simp [results, Try.results126, go_sem, c0, c1]) rfl ⟨_, rfl, ⟨tabTo k g k, ?_, fun c => ?_⟩, (((z0.below).setCell (by show w.heap.size ≤ w.heap.size + 1; omega) _).setCell (by show w.heap.size ≤ w.heap.size + 1; omega) _)⟩
      · refine ⟨HV.out, by rw [tabTo_len, e1], _, _, rfl, ownsRow_setCell_other (ownsRow_setCell_other RX2.out ne1 _) ne1 _, ?_⟩
        rw [tabTo_len]
        exact ownsRow_setCell_other (ownsRow_setCell_other HOwn.out ne2 _) ne2 _
      · rw [e1, tabTo_rf, HG.out]
        show (!(T.getD (idx V c) false)) = !(f c)
        rw [← HF.out c]
        rfl

end Go.Proofs.Ytefclohjeompkaa
