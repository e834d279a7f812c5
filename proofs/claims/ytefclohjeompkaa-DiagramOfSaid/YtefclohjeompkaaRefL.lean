/- The reference: Cube. -/
import Derived.Test.YtefclohjeompkaaRefK
namespace Go.Proofs.Ytefclohjeompkaa
open Go Go.RowKit Go.Proofs.Gen Go.Proofs.Bdd Go.Proofs.Bdd.T

/-- What a cell of a cube's table says. -/
def cubeN (on off c : Nat) : Bool := (c &&& on == on % 16777216) && (c &&& off == 0)

set_option maxRecDepth 100000 in
set_option maxHeartbeats 1600000 in
theorem cube_table {w : World} (on off : Nat) (hon : on < 4294967296) (hoff : off < 4294967296) :
    Calls Try.prog 82 #[.int .u32 on, .int .u32 off] w fun e w' => ∃ v, e = .returned v ∧ IsR w' v (feats (on ||| off)) (tabTo (2 ^ (feats (on ||| off)).length) (fun k => cubeN on off (cfg (feats (on ||| off)) k)) (2 ^ (feats (on ||| off)).length)) ∧ Below w.heap.size w w' := by
  have hV := feats_rising (on ||| off)
  obtain ⟨V, hVV⟩ : ∃ V, V = feats (on ||| off) := ⟨_, rfl⟩
  rw [← hVV] at hV ⊢
  have HV := Lib.hid hV
  have HU := Lib.hid hVV
  have hor : on ||| off < 4294967296 := by
    have e32 : (2 : Nat) ^ 32 = 4294967296 := by decide
    have : on ||| off < 2 ^ 32 := Nat.or_lt_two_pow (n := 32) (by omega) (by omega)
    omega
  have hob : bits .or .u32 (on : Nat) (off : Nat) = ((on ||| off : Nat) : Int) := Go.Proofs.Gen.u32_or on off hon hoff
  have HOB := Lib.hid hob
  have HOR := Lib.hid hor
  clear hV hVV hob hor
  have HN3 := Lib.hid ((Near.refl w).alloc (.cells #[.slice none 0 0, .slice none 0 0] 37))
  have HEC := Lib.hid (heap_new_at (w := w) (o := .cells #[.slice none 0 0, .slice none 0 0] 37) rfl)
  go_enter Try.func82, Try.ntmps82
  go_wp2_with (first
    | (go_at_call 18; rw [HOB.out]; refine (features_calls _ HOR.out _).mono ?_; rw [← HU.out]; rintro e w4 ⟨x, rfl, rx, n4⟩; have RX := Lib.hid rx; clear rx)
    | (go_at_call 127; refine (blank_calls HV.out (ownsRow_low RX.out (Nat.zero_le _))).mono ?_; rintro e w5 ⟨sn, rfl, rn, n5⟩; have RN := Lib.hid rn; clear rn; obtain ⟨ao, cap, rfl⟩ := owns_form RX.out; obtain ⟨no, ncp, rfl⟩ := owns_form RN.out))
  obtain ⟨tb, tcp, tcur, htv, htg, -, htb⟩ := row1' RN.out (k := 0) (u := .bool false) (by simp [Nat.two_pow_pos]) (Nat.two_pow_pos _)
  simp only [Value.slice.injEq, true_and] at htv
  obtain ⟨rfl, rfl⟩ := htv
  have htl : tb < w5.heap.size := (Array.getElem?_eq_some_iff.1 htg).1
  have W45 : Near w (w5.alloc (.cells #[.slice ao V.length cap, .slice (some ⟨tb, 0, none⟩) (2 ^ V.length) ncp] 37)) := ((HN3.out.trans n4).trans n5).alloc _
  have HWW := Lib.hid W45
  have EC4 := Lib.hid (heap_old_at (o := .cells #[.slice ao V.length cap, .slice (some ⟨tb, 0, none⟩) (2 ^ V.length) ncp] 37) (Array.getElem?_eq_some_iff.1 (keepN n5 (keepN n4 HEC.out))).1 |>.trans (keepN n5 (keepN n4 HEC.out)))
  have EO : (w5.alloc (.cells #[.slice ao V.length cap, .slice (some ⟨tb, 0, none⟩) (2 ^ V.length) ncp] 37)).heap[w5.heap.size]? = some (.cells #[.slice ao V.length cap, .slice (some ⟨tb, 0, none⟩) (2 ^ V.length) ncp] 37 (0, 0)) := heap_new_at rfl
  have HEO := Lib.hid EO
  have RNW := Lib.hid (ownsRow_low (RN.out.alloc (.cells #[.slice ao V.length cap, .slice (some ⟨tb, 0, none⟩) (2 ^ V.length) ncp] 37)) (Nat.zero_le _))
  have hWs : w5.heap.size < (w5.alloc (.cells #[.slice ao V.length cap, .slice (some ⟨tb, 0, none⟩) (2 ^ V.length) ncp] 37)).heap.size := by simp
  have lV := HV.out.len
  have hw4 : w.heap.size + 1 ≤ w4.heap.size := by simpa using n4.size'
  have W44 := Lib.hid (n5.alloc (.cells #[.slice ao V.length cap, .slice (some ⟨tb, 0, none⟩) (2 ^ V.length) ncp] 37))
  have RX2 := Lib.hid (ownsRow_low RX.out (Nat.zero_le _))
  clear W45 EO RN RX HEC n4 n5 htg HN3
  obtain ⟨N, hN⟩ : ∃ N, N = 2 ^ V.length := ⟨_, rfl⟩
  have hNb : N ≤ 16777216 := by
    have hp : (2 : Nat) ^ V.length ≤ 2 ^ 24 := Nat.pow_le_pow_right (by omega) (by omega)
    have e24 : (2 : Nat) ^ 24 = 16777216 := by decide
    omega
  rw [← hN] at hWs HWW HEO RNW W44 EC4 ⊢
  have HNN := Lib.hid hN
  clear hN
  generalize (w5.alloc (.cells #[.slice ao V.length cap, .slice (some ⟨tb, 0, none⟩) N ncp] 37)) = W at hWs HWW HEO RNW W44 EC4 ⊢
  have HG : ∃ g : Nat → Bool, g = fun k => cubeN on off (cfg V k) := ⟨_, rfl⟩
  obtain ⟨g, hg⟩ := HG
  have HG := Lib.hid hg
  clear hg
  go_loopw [6] (fun i wr => ∃ k : Nat, k ≤ N ∧ i = .int .i64 k ∧ wr.ownsRow 0 4 1 (.slice (some ⟨tb, 0, none⟩) N ncp) N ((tabTo N g k).map Value.bool) ∧ Kept (fun b => b = tb) W wr) (fun i _ => N - (intOf i).toNat)
  case atStart =>
    refine ⟨0, Nat.zero_le _, rfl, ?_, Kept.refl _ _⟩
    rw [tabTo_zero]
    exact RNW.out
  case round =>
    obtain ⟨k, hk, rfl, hown, hkp⟩ := hrel
    have z0 : Near w wr := Kept.mono ((HWW.out.kept (S := fun b => b = tb)).trans hkp) (fun b hb e => by omega)
    have xo' : wr.heap[w5.heap.size]? = some (.cells #[.slice ao V.length cap, .slice (some ⟨tb, 0, none⟩) N ncp] 37 (0, 0)) := (hkp.block _ hWs (by omega)).trans HEO.out
    have z4 : Near w4 wr := Kept.mono ((W44.out.kept (S := fun b => b = tb)).trans hkp) (fun b hb e => by omega)
    have o0 := cell1 (o := 0) xo' rfl
    have o1 := cell1 (o := 1) xo' rfl
    have HOwn := Lib.hid hown
    have HXO := Lib.hid xo'
    clear xo' hown
    by_cases hlt : k < N
    · have hlt' : (k : Int) < N := by omega
      obtain ⟨tcur', htk, u0, hu0⟩ : ∃ cur, wr.heap[tb]? = some (.cells cur 4 (0, 0)) ∧ ∃ u, cur[k]? = some u := by
        obtain ⟨g', c', cur, e, hg', hc', _⟩ := row1' HOwn.out (k := k) (u := .bool ((tabTo N g k)[k]'(by rw [tabTo_len]; exact hlt))) (by rw [List.getElem?_map, List.getElem?_eq_getElem (by rw [tabTo_len]; exact hlt)]; rfl) hlt
        cases e
        exact ⟨cur, hg', _, hc'⟩
      have t0 := cell1 htk hu0
      have tf := free1 htk k
      have hgk : g k = cubeN on off (cfg V k) := by rw [HG.out]
      have hts : ((tabTo N g (k + 1)).map Value.bool) = ((tabTo N g k).map Value.bool).set k (.bool (g k)) := by rw [tabTo_succ, List.map_set]
      have HGK := Lib.hid hgk
      have HTS := Lib.hid hts
      have HTK := Lib.hid htk
      have HU0 := Lib.hid hu0
      clear hgk hts htk hu0 t0 tf
      have hc6 := cfg_lt HV.out k
      have and1 : bits .and .u32 (cfg V k : Nat) (on : Nat) = ((cfg V k &&& on : Nat) : Int) := Go.Proofs.Gen.u32_and _ _ (by omega) hon
      have and2 : bits .and .u32 (cfg V k : Nat) (off : Nat) = ((cfg V k &&& off : Nat) : Int) := Go.Proofs.Gen.u32_and _ _ (by omega) hoff
      obtain ⟨b1, hb1⟩ : ∃ b, b = (cfg V k &&& on == on % 16777216) := ⟨_, rfl⟩
      obtain ⟨b2, hb2⟩ : ∃ b, b = (cfg V k &&& off == 0) := ⟨_, rfl⟩
      have hz : g k = (b1 && b2) := by rw [HGK.out, cubeN, hb1, hb2]
      have h1 : (bits .and .u32 (cfg V k : Nat) (on : Nat) == (on : Int) % 16777216) = b1 := by
        rw [and1, hb1, Bool.eq_iff_iff]
        simp only [beq_iff_eq]
        omega
      have h2 : (bits .and .u32 (cfg V k : Nat) (off : Nat) == 0) = b2 := by
        rw [and2, hb2, Bool.eq_iff_iff]
        simp only [beq_iff_eq]
        omega
      have HZ := Lib.hid hz
      clear and1 and2 hb1 hb2 hz hc6
      have hend : ∀ w6, Near wr w6 → ∀ z, z = g k → ∀ wz, wz = w6.setCell ⟨tb, k, none⟩ (.bool z) → wz.ownsRow 0 4 1 (.slice (some ⟨tb, 0, none⟩) N ncp) N ((tabTo N g (k + 1)).map Value.bool) ∧ Kept (fun b => b = tb) W wz := by
        rintro w6 n6 z rfl wz rfl
        rw [HTS.out]
        exact ⟨((owns_kept HOwn.out n6.kept (fun _ _ x => x)).stored k _).1, (hkp.trans n6.kept).setCell (fun _ => rfl) _⟩
      cases b1 <;> cases b2
      all_goals
        go_wp2_with (first
          | (go_at_call 83; refine (config_calls HV.out (by omega) (owns_kept RX2.out z4.kept (fun _ _ x => x)) k (by omega)).mono ?_; rintro e w6 ⟨rfl, n6⟩; have p1 := cell1 (o := 1) (keepN n6 HXO.out) rfl; have t0 := cell1 (keepN n6 HTK.out) HU0.out; have tf := free1 (keepN n6 HTK.out) k))
        exact ⟨⟨k + 1, by omega, by go_num, (hend _ n6 _ (by rw [HZ.out]; rfl) _ rfl).1, (hend _ n6 _ (by rw [HZ.out]; rfl) _ rfl).2⟩, by simp [intOf]; omega⟩
    · have hkN : k = N := by omega
      subst hkN
      have rc := (hkp.block _ (by omega) (by omega)).trans EC4.out
      have c0 := cell1 (o := 0) rc rfl
      have c1 := cell1 (o := 1) rc rfl
      have f0 := free1 rc 0
      have f1 := free1 rc 1
      have R1r := owns_kept (R := fun _ => False) RX2.out z4.kept (fun _ _ x => x)
      have ne1 := owns_ne R1r rc (by decide : (3 : Nat) ≠ 37)
      have ne2 := owns_ne HOwn.out rc (by decide : (4 : Nat) ≠ 37)
      have RX3 := Lib.hid R1r
      clear R1r
      go_wp2_with fail
      have e1 := HNN.out
      have e2 := HG.out
      refine bodyPost_ret (v := .agg #[.slice ao V.length cap, .slice (some ⟨tb, 0, none⟩) k ncp]) (by simp [results, Try.results82, go_sem, c0, c1]) rfl ⟨_, rfl, ?_, (((z0.below).setCell (by show w.heap.size ≤ w.heap.size; omega) _).setCell (by show w.heap.size ≤ w.heap.size; omega) _)⟩
      refine ⟨HV.out, by rw [tabTo_len], _, _, rfl, ownsRow_setCell_other (ownsRow_setCell_other RX3.out ne1 _) ne1 _, ?_⟩
      rw [tabTo_len, ← e1, ← e2]
      exact ownsRow_setCell_other (ownsRow_setCell_other HOwn.out ne2 _) ne2 _

end Go.Proofs.Ytefclohjeompkaa
