/- The reference: With. -/
import Derived.Test.YtefclohjeompkaaRefJ
namespace Go.Proofs.Ytefclohjeompkaa
open Go Go.RowKit Go.Proofs.Gen Go.Proofs.Bdd Go.Proofs.Bdd.T

theorem or_upd (x i : Nat) : (x ||| 2 ^ i).testBit = upd x.testBit i true := by
  funext j
  rw [Nat.testBit_or, Nat.testBit_two_pow, upd]
  by_cases h : j = i
  · subst h; simp
  · simp [h, Ne.symm h]

theorem sub_upd {x i : Nat} (h : x.testBit i = true) : 2 ^ i ≤ x ∧ (x - 2 ^ i).testBit = upd x.testBit i false := by
  have hp := Nat.two_pow_pos i
  have hq : x / 2 ^ i % 2 = 1 := by
    rw [Nat.testBit_eq_decide_div_mod_eq] at h
    simpa using h
  have hx : 2 ^ i * (x / 2 ^ i) + x % 2 ^ i = x := Nat.div_add_mod x (2 ^ i)
  have hb : x % 2 ^ i < 2 ^ i := Nat.mod_lt _ hp
  obtain ⟨q, hqq⟩ : ∃ q, q = x / 2 ^ i := ⟨_, rfl⟩
  obtain ⟨b, hbb⟩ : ∃ b, b = x % 2 ^ i := ⟨_, rfl⟩
  rw [← hqq] at hq hx
  rw [← hbb] at hb hx
  obtain ⟨r, rfl⟩ : ∃ r, q = 2 * r + 1 := ⟨q / 2, by omega⟩
  have e : x = 2 ^ i * (2 * r) + b + 2 ^ i := by
    rw [← hx, Nat.mul_add, Nat.mul_one]
    omega
  refine ⟨by omega, ?_⟩
  funext j
  have e2 : x - 2 ^ i = 2 ^ i * (2 * r) + b := by omega
  rw [e2, upd]
  by_cases hj : j = i
  · rw [if_pos hj, hj, Nat.testBit_two_pow_mul_add _ hb]
    simp
  · rw [if_neg hj, ← hx, Nat.testBit_two_pow_mul_add _ hb, Nat.testBit_two_pow_mul_add _ hb]
    split
    · rfl
    · obtain ⟨m, hm⟩ : ∃ m, j - i = m + 1 := ⟨j - i - 1, by omega⟩
      rw [hm, Nat.testBit_succ, Nat.testBit_succ]
      congr 1
      omega

theorem sub_val {x i : Nat} (hx : x < 16777216) (_hi : i < 24) (h : 2 ^ i ≤ x) : ((x : Int) - 2 ^ i % 4294967296) % 4294967296 = ((x - 2 ^ i : Nat) : Int) := by
  rw [show ((2 : Int) ^ i) = ((2 ^ i : Nat) : Int) from by simp]
  generalize (2 : Nat) ^ i = p at *
  omega

theorem rsays {w : World} {v : Value} {V : List Nat} {f : (Nat → Bool) → Bool} (h : IsS w v V f) (c : Nat) (hc : c < 4294967296) {g : Bool} (hg : f c.testBit = g) : Calls Try.prog 90 #[v, .int .u32 c] w fun e w' => e = .returned (.bool g) ∧ Near w w' := by
  obtain ⟨T, hT, hf⟩ := h
  have := rhas_calls hT c hc
  rw [hf, hg] at this
  exact this

set_option maxRecDepth 100000 in
set_option maxHeartbeats 1600000 in
theorem rwith_calls {w : World} {va : Value} {V : List Nat} {f : (Nat → Bool) → Bool} (h : IsS w va V f) (i : Nat) (hi : i < 24) (on : Bool) :
    Calls Try.prog 106 #[va, .int .i64 i, .bool on] w (SPost w V (fun c => f (upd c i on))) := by
  have hi0 : ¬ (i : Int) < 0 := by omega
  have hi1 : ¬ (23 : Int) < (i : Int) := by omega
  have hi64 : (i : Int) < 64 := by omega
  have HA := Lib.hid h
  obtain ⟨T, ⟨hV, hT, sv, st, rfl, r1, r2⟩, hf⟩ := h
  obtain ⟨ao, cap, rfl⟩ := owns_form r1
  obtain ⟨co, ccp, rfl⟩ := owns_form r2
  have R1 := Lib.hid r1
  have R2 := Lib.hid r2
  have HV := Lib.hid hV
  have HF := Lib.hid hf
  have HTL := Lib.hid hT
  clear r1 r2 hV hf hT
  have N3 : Near w ((w.alloc (.cells #[.slice ao V.length cap, .slice co T.length ccp] 37)).alloc (.cells #[.slice none 0 0, .slice none 0 0] 37)) := ((Near.refl w).alloc _).alloc _
  have HN3 := Lib.hid N3
  have EA : ((w.alloc (.cells #[.slice ao V.length cap, .slice co T.length ccp] 37)).alloc (.cells #[.slice none 0 0, .slice none 0 0] 37)).heap[w.heap.size]? = some (.cells #[.slice ao V.length cap, .slice co T.length ccp] 37 (0, 0)) := by
    rw [heap_old_at (by simp), heap_new_at rfl]
  have EC : ((w.alloc (.cells #[.slice ao V.length cap, .slice co T.length ccp] 37)).alloc (.cells #[.slice none 0 0, .slice none 0 0] 37)).heap[w.heap.size + 1]? = some (.cells #[.slice none 0 0, .slice none 0 0] 37 (0, 0)) := heap_new_at (by simp)
  have hs3 : ((w.alloc (.cells #[.slice ao V.length cap, .slice co T.length ccp] 37)).alloc (.cells #[.slice none 0 0, .slice none 0 0] 37)).heap.size = w.heap.size + 1 + 1 := by simp
  have HEA := Lib.hid EA
  have HEC := Lib.hid EC
  have HS3 := Lib.hid hs3
  clear N3 EA EC hs3
  go_enter Try.func106, Try.ntmps106
  go_wp2_with (first
    | (go_at_call 127; refine (blank_calls HV.out (owns_kept R1.out HN3.out.kept (fun _ _ x => x))).mono ?_; rintro e w5 ⟨sn, rfl, rn, n5⟩; have RN := Lib.hid rn; clear rn; obtain ⟨no, ncp, rfl⟩ := owns_form RN.out))
  obtain ⟨tb, tcp, tcur, htv, htg, -, htb⟩ := row1' RN.out (k := 0) (u := .bool false) (by simp [Nat.two_pow_pos]) (Nat.two_pow_pos _)
  simp only [Value.slice.injEq, true_and] at htv
  obtain ⟨rfl, rfl⟩ := htv
  have htl : tb < w5.heap.size := (Array.getElem?_eq_some_iff.1 htg).1
  rw [HS3.out] at htb
  have W45 : Near w (w5.alloc (.cells #[.slice ao V.length cap, .slice (some ⟨tb, 0, none⟩) (2 ^ V.length) ncp] 37)) := (HN3.out.trans n5).alloc _
  have HWW := Lib.hid W45
  have EA4 := Lib.hid (heap_old_at (o := .cells #[.slice ao V.length cap, .slice (some ⟨tb, 0, none⟩) (2 ^ V.length) ncp] 37) (Array.getElem?_eq_some_iff.1 (keepN n5 HEA.out)).1 |>.trans (keepN n5 HEA.out))
  have EC4 := Lib.hid (heap_old_at (o := .cells #[.slice ao V.length cap, .slice (some ⟨tb, 0, none⟩) (2 ^ V.length) ncp] 37) (Array.getElem?_eq_some_iff.1 (keepN n5 HEC.out)).1 |>.trans (keepN n5 HEC.out))
  have EO : (w5.alloc (.cells #[.slice ao V.length cap, .slice (some ⟨tb, 0, none⟩) (2 ^ V.length) ncp] 37)).heap[w5.heap.size]? = some (.cells #[.slice ao V.length cap, .slice (some ⟨tb, 0, none⟩) (2 ^ V.length) ncp] 37 (0, 0)) := heap_new_at rfl
  have HEO := Lib.hid EO
  have RNW := Lib.hid (ownsRow_low (RN.out.alloc (.cells #[.slice ao V.length cap, .slice (some ⟨tb, 0, none⟩) (2 ^ V.length) ncp] 37)) (Nat.zero_le _))
  have hWs : w5.heap.size < (w5.alloc (.cells #[.slice ao V.length cap, .slice (some ⟨tb, 0, none⟩) (2 ^ V.length) ncp] 37)).heap.size := by simp
  have lV := HV.out.len
  have hw5 := n5.size'
  rw [HS3.out] at hw5
  clear W45 EO RN HEA HEC n5 htg HN3 HS3
  obtain ⟨N, hN⟩ : ∃ N, N = 2 ^ V.length := ⟨_, rfl⟩
  have hNb : N ≤ 16777216 := by
    have hp : (2 : Nat) ^ V.length ≤ 2 ^ 24 := Nat.pow_le_pow_right (by omega) (by omega)
    have e24 : (2 : Nat) ^ 24 = 16777216 := by decide
    omega
  have hTN : T.length = N := by rw [HTL.out, hN]
  rw [← hN] at hWs HWW HEO RNW EA4 EC4 ⊢
  have HNN := Lib.hid hN
  clear hN
  generalize (w5.alloc (.cells #[.slice ao V.length cap, .slice (some ⟨tb, 0, none⟩) N ncp] 37)) = W at hWs HWW HEO RNW EA4 EC4 ⊢
  rw [hTN] at R2 EA4 HA ⊢
  have HTN := Lib.hid hTN
  clear hTN
  have HG : ∃ g : Nat → Bool, g = fun k => f (upd (cfg V k).testBit i on) := ⟨_, rfl⟩
  obtain ⟨g, hg⟩ := HG
  have HG := Lib.hid hg
  clear hg
  go_loopw [8] (fun i wr => ∃ k : Nat, k ≤ N ∧ i = .int .i64 k ∧ wr.ownsRow 0 4 1 (.slice (some ⟨tb, 0, none⟩) N ncp) N ((tabTo N g k).map Value.bool) ∧ Kept (fun b => b = tb) W wr) (fun i _ => N - (intOf i).toNat)
  case atStart =>
    refine ⟨0, Nat.zero_le _, rfl, ?_, Kept.refl _ _⟩
    rw [tabTo_zero]
    exact RNW.out
  case round =>
    obtain ⟨k, hk, rfl, hown, hkp⟩ := hrel
    have z0 : Near w wr := Kept.mono ((HWW.out.kept (S := fun b => b = tb)).trans hkp) (fun b hb e => by omega)
    have xo' : wr.heap[w5.heap.size]? = some (.cells #[.slice ao V.length cap, .slice (some ⟨tb, 0, none⟩) N ncp] 37 (0, 0)) := (hkp.block _ hWs (by omega)).trans HEO.out
    have xa' : wr.heap[w.heap.size]? = some (.cells #[.slice ao V.length cap, .slice co N ccp] 37 (0, 0)) := (hkp.block _ (by omega) (by omega)).trans EA4.out
    have o0 := cell1 (o := 0) xo' rfl
    have o1 := cell1 (o := 1) xo' rfl
    have a0 := cell1 (o := 0) xa' rfl
    have a1 := cell1 (o := 1) xa' rfl
    have HOwn := Lib.hid hown
    have HXO := Lib.hid xo'
    have HXA := Lib.hid xa'
    clear xo' xa' hown
    by_cases hlt : k < N
    · have hlt' : (k : Int) < N := by omega
      obtain ⟨tcur', htk, u0, hu0⟩ : ∃ cur, wr.heap[tb]? = some (.cells cur 4 (0, 0)) ∧ ∃ u, cur[k]? = some u := by
        obtain ⟨g', c', cur, e, hg', hc', _⟩ := row1' HOwn.out (k := k) (u := .bool ((tabTo N g k)[k]'(by rw [tabTo_len]; exact hlt))) (by rw [List.getElem?_map, List.getElem?_eq_getElem (by rw [tabTo_len]; exact hlt)]; rfl) hlt
        cases e
        exact ⟨cur, hg', _, hc'⟩
      have t0 := cell1 htk hu0
      have tf := free1 htk k
      have hgk : g k = f (upd (cfg V k).testBit i on) := by rw [HG.out]
      have hts : ((tabTo N g (k + 1)).map Value.bool) = ((tabTo N g k).map Value.bool).set k (.bool (g k)) := by rw [tabTo_succ, List.map_set]
      have HGK := Lib.hid hgk
      have HTS := Lib.hid hts
      have HTK := Lib.hid htk
      have HU0 := Lib.hid hu0
      have hc6 := cfg_lt HV.out k
      have hor := u32_or_bit (cfg V k) i (by omega) (by omega)
      have HOR := Lib.hid hor
      clear hgk hts htk hu0 hor
      have hi' : i < 24 := hi
      have hp24 : (2 : Nat) ^ i < 16777216 := by
        have h1 : (2 : Nat) ^ i < 2 ^ 24 := Nat.pow_lt_pow_right (by omega) hi
        have e24 : (2 : Nat) ^ 24 = 16777216 := by decide
        omega
      have hor24 : cfg V k ||| 2 ^ i < 4294967296 := by
        have h1 : cfg V k ||| 2 ^ i < 2 ^ 24 := Nat.or_lt_two_pow (n := 24) (by simpa using hc6) (by simpa using hp24)
        have e24 : (2 : Nat) ^ 24 = 16777216 := by decide
        omega
      have HO24 := Lib.hid hor24
      clear hor24 hp24
      cases on
      · by_cases hbit : (cfg V k).testBit i = true
        · have hsu := sub_upd hbit
          have HSV := Lib.hid (sub_val hc6 hi hsu.1)
          have HSU := Lib.hid hsu.2
          clear hsu
          go_wp2_with (first
            | (go_at_call 83; refine (config_calls HV.out (by omega) (owns_kept R1.out z0.kept (fun _ _ x => x)) k (by omega)).mono ?_; rintro e w6 ⟨rfl, n6⟩; have p1 := cell1 (o := 1) (keepN n6 HXO.out) rfl; have p2 := cell1 (o := 0) (keepN n6 HXA.out) rfl; have p3 := cell1 (o := 1) (keepN n6 HXA.out) rfl)
            | (go_at_call 102; refine (selected_calls _ i (by omega) hi' _).mono ?_; rintro e w7 ⟨rfl, rfl⟩))
          rw [HSV.out]
          have HN6 := Lib.hid n6
          have HZ0 := Lib.hid z0
          clear n6 z0 t0 tf o0 o1 a0 a1
          have hg' : f (cfg V k - 2 ^ i).testBit = g k := by rw [HGK.out, HSU.out]
          have hcb : cfg V k - 2 ^ i < 4294967296 := Nat.lt_of_le_of_lt (Nat.sub_le _ _) (Nat.lt_of_lt_of_le hc6 (by decide))
          generalize cfg V k - 2 ^ i = cc at hg' hcb ⊢
          have HGC := Lib.hid hg'
          clear hg'
          have sOf : ∀ w', Kept (fun b => b = tb) w7 w' → w'.cell? ⟨w5.heap.size, 1, none⟩ = some (.slice (some ⟨tb, 0, none⟩) N ncp) ∧ w'.cell? ⟨w.heap.size, 0, none⟩ = some (.slice ao V.length cap) ∧ w'.cell? ⟨w.heap.size, 1, none⟩ = some (.slice co N ccp) :=
            fun w' h => ⟨h.cell p1 (by omega), h.cell p2 (by omega), h.cell p3 (by omega)⟩
          go_region_held3 (fun w' => w'.cell? ⟨w5.heap.size, 1, none⟩ = some (.slice (some ⟨tb, 0, none⟩) N ncp) ∧ w'.cell? ⟨w.heap.size, 0, none⟩ = some (.slice ao V.length cap) ∧ w'.cell? ⟨w.heap.size, 1, none⟩ = some (.slice co N ccp))
            ((refine sOf _ ?_; first | exact (Kept.refl _ _).drew | exact n8 | exact n8.setCell (fun _ => rfl) _))
            (first
              | (go_at_call 90; refine (rsays (HA.out.near ((HZ0.out.trans HN6.out).drew)) cc hcb HGC.out).mono ?_; rintro e w8 ⟨rfl, m8⟩; have n8 : Kept (fun b => b = tb) w7 w8 := (Kept.refl _ _).drew.trans m8.kept; have M8 := Lib.hid (HN6.out.trans ((Near.refl _).drew.trans m8)); have t8 := cell1 (keepN M8.out HTK.out) HU0.out; have tf8 := free1 (keepN M8.out HTK.out) k))
          all_goals
            go_wp2_with fail
            refine ⟨⟨k + 1, by omega, by go_num, ?_, ?_⟩, by simp [intOf]; omega⟩
            · rw [HTS.out]
              exact ((owns_kept HOwn.out M8.out.kept (fun _ _ x => x)).stored k _).1
            · exact (hkp.trans M8.out.kept).setCell (fun _ => rfl) _
        · have hbit' : (cfg V k).testBit i = false := by simpa using hbit
          have hsm : (cfg V k).testBit = upd (cfg V k).testBit i false := by
            funext j
            unfold upd
            split
            · rename_i e; rw [e, hbit']
            · rfl
          have HSM := Lib.hid hsm
          clear hsm hbit
          go_wp2_with (first
            | (go_at_call 83; refine (config_calls HV.out (by omega) (owns_kept R1.out z0.kept (fun _ _ x => x)) k (by omega)).mono ?_; rintro e w6 ⟨rfl, n6⟩; have p1 := cell1 (o := 1) (keepN n6 HXO.out) rfl; have p2 := cell1 (o := 0) (keepN n6 HXA.out) rfl; have p3 := cell1 (o := 1) (keepN n6 HXA.out) rfl)
            | (go_at_call 102; refine (selected_calls _ i (by omega) hi' _).mono ?_; rintro e w7 ⟨rfl, rfl⟩))
          have HN6 := Lib.hid n6
          have HZ0 := Lib.hid z0
          clear n6 z0 t0 tf o0 o1 a0 a1
          have hg' : f (cfg V k).testBit = g k := by rw [HGK.out, ← HSM.out]
          have hcb : cfg V k < 4294967296 := by omega
          generalize cfg V k = cc at hg' hcb ⊢
          have HGC := Lib.hid hg'
          clear hg'
          have sOf : ∀ w', Kept (fun b => b = tb) w7 w' → w'.cell? ⟨w5.heap.size, 1, none⟩ = some (.slice (some ⟨tb, 0, none⟩) N ncp) ∧ w'.cell? ⟨w.heap.size, 0, none⟩ = some (.slice ao V.length cap) ∧ w'.cell? ⟨w.heap.size, 1, none⟩ = some (.slice co N ccp) :=
            fun w' h => ⟨h.cell p1 (by omega), h.cell p2 (by omega), h.cell p3 (by omega)⟩
          go_region_held3 (fun w' => w'.cell? ⟨w5.heap.size, 1, none⟩ = some (.slice (some ⟨tb, 0, none⟩) N ncp) ∧ w'.cell? ⟨w.heap.size, 0, none⟩ = some (.slice ao V.length cap) ∧ w'.cell? ⟨w.heap.size, 1, none⟩ = some (.slice co N ccp))
            ((refine sOf _ ?_; first | exact (Kept.refl _ _).drew | exact n8 | exact n8.setCell (fun _ => rfl) _))
            (first
              | (go_at_call 90; refine (rsays (HA.out.near ((HZ0.out.trans HN6.out).drew)) cc hcb HGC.out).mono ?_; rintro e w8 ⟨rfl, m8⟩; have n8 : Kept (fun b => b = tb) w7 w8 := (Kept.refl _ _).drew.trans m8.kept; have M8 := Lib.hid (HN6.out.trans ((Near.refl _).drew.trans m8)); have t8 := cell1 (keepN M8.out HTK.out) HU0.out; have tf8 := free1 (keepN M8.out HTK.out) k))
          all_goals
            go_wp2_with fail
            refine ⟨⟨k + 1, by omega, by go_num, ?_, ?_⟩, by simp [intOf]; omega⟩
            · rw [HTS.out]
              exact ((owns_kept HOwn.out M8.out.kept (fun _ _ x => x)).stored k _).1
            · exact (hkp.trans M8.out.kept).setCell (fun _ => rfl) _
      · go_wp2_with (first
            | (go_at_call 83; refine (config_calls HV.out (by omega) (owns_kept R1.out z0.kept (fun _ _ x => x)) k (by omega)).mono ?_; rintro e w6 ⟨rfl, n6⟩; have p1 := cell1 (o := 1) (keepN n6 HXO.out) rfl; have p2 := cell1 (o := 0) (keepN n6 HXA.out) rfl; have p3 := cell1 (o := 1) (keepN n6 HXA.out) rfl))
        rw [HOR.out]
        have HN6 := Lib.hid n6
        have HZ0 := Lib.hid z0
        clear n6 z0 t0 tf o0 o1 a0 a1
        have hg' : f (cfg V k ||| 2 ^ i).testBit = g k := by rw [HGK.out, or_upd]
        have hcb : cfg V k ||| 2 ^ i < 4294967296 := by exact HO24.out
        generalize cfg V k ||| 2 ^ i = cc at hg' hcb ⊢
        have HGC := Lib.hid hg'
        clear hg'
        have sOf : ∀ w', Kept (fun b => b = tb) w6 w' → w'.cell? ⟨w5.heap.size, 1, none⟩ = some (.slice (some ⟨tb, 0, none⟩) N ncp) ∧ w'.cell? ⟨w.heap.size, 0, none⟩ = some (.slice ao V.length cap) ∧ w'.cell? ⟨w.heap.size, 1, none⟩ = some (.slice co N ccp) :=
          fun w' h => ⟨h.cell p1 (by omega), h.cell p2 (by omega), h.cell p3 (by omega)⟩
        go_region_held3 (fun w' => w'.cell? ⟨w5.heap.size, 1, none⟩ = some (.slice (some ⟨tb, 0, none⟩) N ncp) ∧ w'.cell? ⟨w.heap.size, 0, none⟩ = some (.slice ao V.length cap) ∧ w'.cell? ⟨w.heap.size, 1, none⟩ = some (.slice co N ccp))
          ((refine sOf _ ?_; first | exact (Kept.refl _ _).drew | exact n8 | exact n8.setCell (fun _ => rfl) _))
          (first
            | (go_at_call 90; refine (rsays (HA.out.near ((HZ0.out.trans HN6.out).drew)) cc hcb HGC.out).mono ?_; rintro e w8 ⟨rfl, m8⟩; have n8 : Kept (fun b => b = tb) w6 w8 := (Kept.refl _ _).drew.trans m8.kept; have M8 := Lib.hid (HN6.out.trans ((Near.refl _).drew.trans m8)); have t8 := cell1 (keepN M8.out HTK.out) HU0.out; have tf8 := free1 (keepN M8.out HTK.out) k))
        all_goals
          go_wp2_with fail
          refine ⟨⟨k + 1, by omega, by go_num, ?_, ?_⟩, by simp [intOf]; omega⟩
          · rw [HTS.out]
            exact ((owns_kept HOwn.out M8.out.kept (fun _ _ x => x)).stored k _).1
          · exact (hkp.trans M8.out.kept).setCell (fun _ => rfl) _
    · have hkN : k = N := by omega
      subst hkN
      have rc := (hkp.block _ (by omega) (by omega)).trans EC4.out
      have c0 := cell1 (o := 0) rc rfl
      have c1 := cell1 (o := 1) rc rfl
      have f0 := free1 rc 0
      have f1 := free1 rc 1
      have R1r := owns_kept (R := fun _ => False) R1.out z0.kept (fun _ _ x => x)
      have ne1 := owns_ne R1r rc (by decide : (3 : Nat) ≠ 37)
      have ne2 := owns_ne HOwn.out rc (by decide : (4 : Nat) ≠ 37)
      have RX2 := Lib.hid R1r
      clear R1r
      go_wp2_with fail
      have e1 := HNN.out
      refine bodyPost_ret (v := .agg #[.slice ao V.length cap, .slice (some ⟨tb, 0, none⟩) k ncp]) (by simp [results, Try.results106, go_sem, c0, c1]) rfl ⟨_, rfl, ⟨tabTo k g k, ?_, fun c => ?_⟩, (((z0.below).setCell (by show w.heap.size ≤ w.heap.size + 1; omega) _).setCell (by show w.heap.size ≤ w.heap.size + 1; omega) _)⟩
      · refine ⟨HV.out, by rw [tabTo_len, e1], _, _, rfl, ownsRow_setCell_other (ownsRow_setCell_other RX2.out ne1 _) ne1 _, ?_⟩
        rw [tabTo_len]
        exact ownsRow_setCell_other (ownsRow_setCell_other HOwn.out ne2 _) ne2 _
      · rw [e1, tabTo_rf, HG.out]
        show f (upd (cfg V (idx V c)).testBit i on) = f (upd c i on)
        rw [← HF.out, ← HF.out]
        refine rf_congr fun j hj => ?_
        unfold upd
        rw [cfg_idx HV.out c hj]

end Go.Proofs.Ytefclohjeompkaa
