/- Parts of a proof: FixB. -/
import Derived.Test.YtefclohjeompkaaKFixA
import Derived.Test.YtefclohjeompkaaKTakeM
/- The law DiagramFixes: the walk (printed by gen_fix.py). -/
namespace Go.Proofs.Ytefclohjeompkaa
open Go Go.RowKit Go.Proofs.Gen Go.Proofs.Bdd Go.Proofs.Bdd.T

theorem ite_with (f : F) (n : Nat) (c : Nat → Bool) : (if c n = true then f (updI c n true) else f (updI c n false)) = f c := by
  have h := updI_self c n
  cases hc : c n with
  | true => rw [hc] at h; rw [if_pos rfl, h]
  | false => rw [hc] at h; rw [if_neg (by decide), h]

theorem supp_clear {m sX sY : Nat} {f : F} (hm : m < 4294967296) (x1 : sX < 16777216) (y1 : sY < 16777216) (x2 : ∀ i, sX.testBit i = dep (exF (feats m) f) i) (y2 : ∀ i, sY.testBit i = dep (faF (feats m) f) i) :
    (bits .and .u32 (bits .or .u32 (sX : Int) (sY : Int)) (m : Int) == 0) = true := by
  have hlt : sX ||| sY < 2 ^ 24 := Nat.or_lt_two_pow (by simpa using x1) (by simpa using y1)
  rw [Go.Proofs.Gen.u32_or sX sY (by omega) (by omega), Go.Proofs.Gen.u32_and (sX ||| sY) m (by omega) hm]
  have h0 : (sX ||| sY) &&& m = 0 := by
    apply Nat.eq_of_testBit_eq
    intro i
    rw [Nat.testBit_and, Nat.testBit_or, Nat.zero_testBit]
    by_cases hi : i < 24
    · cases hb : m.testBit i
      · simp
      · have hmem : i ∈ feats m := feats_mem.2 ⟨hi, hb⟩
        rw [x2, y2, ex_dep hmem, fa_dep hmem]
        rfl
    · rw [← Nat.testBit_or, Nat.testBit_lt_two_pow (Nat.lt_of_lt_of_le hlt (Nat.pow_le_pow_right (by omega) (by omega)))]
      rfl
  rw [h0]
  rfl

/-- Two sets in boxes of their own. -/
def TwoSets (W : World) (f g : F) (s t : Value) (w : World) : Prop :=
  ∃ p q a1 a2 a3 a4 b1 b2 b3 b4, s = .pointer (some ⟨p, 0, none⟩) ∧ t = .pointer (some ⟨q, 0, none⟩) ∧ W.heap.size ≤ p ∧ W.heap.size ≤ q ∧ w.heap[p]? = some (.cells #[.slice a1 a2 a3, .int .i64 a4] 31 (0, 0)) ∧ w.heap[q]? = some (.cells #[.slice b1 b2 b3, .int .i64 b4] 31 (0, 0)) ∧
    IsF w (.agg #[.slice a1 a2 a3, .int .i64 a4]) f ∧ IsF w (.agg #[.slice b1 b2 b3, .int .i64 b4]) g ∧ Near W w

set_option maxRecDepth 100000 in
set_option maxHeartbeats 12800000 in
theorem law_fixes {w : World} {v : Value} {l : List SOp} {i m : Nat} (h : RdOps w v l) (_hi : i < 256) (hm : m < 4294967296) : Calls Try.prog 10 #[v, .int .u8 i, .int .u32 m] w fun e w' => e = .returned (.bool true) ∧ Near w w' := by
  have h3 := three_calls h
  have H3 := Lib.hid h3
  clear h3
  obtain ⟨ao, cap, rfl, -⟩ := h
  by_cases hok : ThreeOk l
  · have hd : decide (ThreeOk l) = true := decide_eq_true hok
    have HD := Lib.hid hd
    clear hd hok
    have hn24 : i % 24 < 24 := Nat.mod_lt _ (by omega)
    have e1 : (i : Int).tmod 24 = ((i % 24 : Nat) : Int) := rfl
    generalize i % 24 = n at hn24 e1
    have hn' : (n : Int) < 24 := by omega
    have e2 : IntKind.i64.wrap (n : Int) = n := IntWalk.i64_in _ (by omega)
    go_enter Try.func10, Try.ntmps10
    go_upto_region 6 with (first
      | (go_at_call 31; refine H3.out.mono ?_; rintro e w3 h3; obtain ⟨a1, a2, a3, a4, b1, b2, b3, b4, c1, c2, c3, c4, rfl, ia, ib, ic, n3⟩ := h3.mk; rw [HD.out]; have HIA := Lib.hid ia; have HIB := Lib.hid ib; have HN3 := Lib.hid n3; clear h3 ia ib ic n3)
      | (go_at_call 40; refine (var_in n hn24 _).mono ?_; rintro e w5 ⟨v5, rfl, d, n5⟩; have d5 : IsF w5 v5 (fun s => s n) := ⟨_, d, fun c => by simp [T.ev]⟩; clear d; obtain ⟨r1, r2, r3, r4, rfl⟩ := d5.form; have HD5 := Lib.hid d5; have HN5 := Lib.hid n5; clear d5 n5))
    have hw5 : Near w3 w5 := ((((Near.refl w3).alloc _).alloc _).alloc _).trans HN5.out
    have ha : w5.heap[w3.heap.size]? = some (.cells #[.slice a1 a2 a3, .int .i64 a4] 31 (0, 0)) := keepN HN5.out ((heap_old_at (by simp <;> omega)).trans ((heap_old_at (by simp)).trans (heap_new_at rfl)))
    have hb : w5.heap[w3.heap.size + 1]? = some (.cells #[.slice b1 b2 b3, .int .i64 b4] 31 (0, 0)) := keepN HN5.out ((heap_old_at (by simp)).trans (heap_new_at (by simp)))
    have hv : (w5.alloc (.cells #[.slice r1 r2 r3, .int .i64 r4] 31)).heap[w5.heap.size]? = some (.cells #[.slice r1 r2 r3, .int .i64 r4] 31 (0, 0)) := heap_new_at rfl
    have hn : Near w5 (w5.alloc (.cells #[.slice r1 r2 r3, .int .i64 r4] 31)) := (Near.refl w5).alloc _
    generalize w5.alloc (.cells #[.slice r1 r2 r3, .int .i64 r4] 31) = W at hv hn ⊢
    have HFA := Lib.hid (HIA.out.near (hw5.trans hn))
    have HFB := Lib.hid (HIB.out.near (hw5.trans hn))
    have HFV := Lib.hid (HD5.out.near hn)
    have HNW := Lib.hid (HN3.out.trans (hw5.trans hn))
    have HBA := Lib.hid (keepN hn ha)
    have HBB := Lib.hid (keepN hn hb)
    have HBV := Lib.hid hv
    generalize tF l 1 = fa at *
    generalize tF l 2 = fb at *
    clear hw5 ha hb hv hn HIA HIB HD5 HN5 HN3
    have HSA := Lib.hid (show ∀ w', Near W w' → (fun w' => w'.cell? ⟨w3.heap.size, 0, none⟩ = some (.slice a1 a2 a3) ∧ w'.cell? ⟨w3.heap.size, 1, none⟩ = some (.int .i64 a4)) w' from fun w' h => ⟨h.cell (cell1 (o := 0) HBA.out rfl), h.cell (cell1 (o := 1) HBA.out rfl)⟩)
    go_cut [14, 15] (fun s t wx => TwoSets W (fun c => fa (updI c n true)) (fun c => fa (updI c n false)) s t wx)
    case first =>
      refine wp_region_noPanic ?_
      refine wp_region_held_drew (S := (fun w' => w'.cell? ⟨w3.heap.size, 0, none⟩ = some (.slice a1 a2 a3) ∧ w'.cell? ⟨w3.heap.size, 1, none⟩ = some (.int .i64 a4))) (by kernel_rfl) (HSA.out _ (Near.refl _).drew) (fun hHeld => ?_)
      have hnd := (Near.refl W).drew
      generalize W.drew = x0 at hnd hHeld ⊢
      have HW0 := Lib.hid hnd
      clear hnd
      refine takeH0 (v := Value.agg #[.slice a1 a2 a3, .int .i64 a4]) (by kernel_rfl) (by kernel_rfl) (by kernel_rfl) (fun _ _ _ h => h) (Or.inl ⟨by rfl, fun w' hSw => ?_⟩) hHeld ?_
      · go_simp
      simp only [Act.put, List.setIfInBounds_toArray, List.set_cons_zero, List.set_cons_succ]
      refine takeH1 (v := Value.int .i64 (n : Int)) (by kernel_rfl) (by kernel_rfl) (by kernel_rfl) (fun _ _ _ h => h) (Or.inl ⟨by rfl, fun w' hSw => ?_⟩) hHeld ?_
      · go_simp
      simp only [Act.put, List.setIfInBounds_toArray, List.set_cons_zero, List.set_cons_succ]
      refine takeH3 (v := Value.agg #[.slice a1 a2 a3, .int .i64 a4]) (by kernel_rfl) (by kernel_rfl) (by kernel_rfl) (fun _ _ _ h => h) (Or.inl ⟨by rfl, fun w' hSw => ?_⟩) hHeld ?_
      · go_simp
      simp only [Act.put, List.setIfInBounds_toArray, List.set_cons_zero, List.set_cons_succ]
      refine takeH4 (v := Value.int .i64 (n : Int)) (by kernel_rfl) (by kernel_rfl) (by kernel_rfl) (fun _ _ _ h => h) (Or.inl ⟨by rfl, fun w' hSw => ?_⟩) hHeld ?_
      · go_simp
      simp only [Act.put, List.setIfInBounds_toArray, List.set_cons_zero, List.set_cons_succ]
      clear hHeld
      refine wpAnyH_ready (rs := [2, 6, 7]) (by kernel_rfl) (by simp) ?_
      refine consH2 (fun K hK => ?_) ?_
      · go_simp
        go_at_call 41
        refine (with_f (HFA.out.near HW0.out) (n : Int) true).mono ?_
        rintro e x1 ⟨v, rfl, dd, nY⟩
        obtain ⟨aa1, bb1, cc1, dd1, rfl⟩ := dd.form
        have HF1 := Lib.hid dd
        have HW1 := Lib.hid (HW0.out.trans nY)
        refine hK.out _ _ (HSA.out _ HW1.out) (fun hHeld => ?_)
        clear hK K dd nY hHeld
        try simp only [Act.put, List.setIfInBounds_toArray, List.set_cons_zero, List.set_cons_succ]
        refine wpAnyH_ready (rs := [5, 6, 7]) (by kernel_rfl) (by simp) ?_
        refine consH5 (fun K hK => ?_) ?_
        · go_simp
          go_at_call 41
          refine (with_f (HFA.out.near HW1.out) (n : Int) false).mono ?_
          rintro e x2 ⟨v, rfl, dd, nY⟩
          obtain ⟨aa2, bb2, cc2, dd2, rfl⟩ := dd.form
          have HG2 := Lib.hid dd
          have HF2 := Lib.hid (HF1.out.near nY)
          have HW2 := Lib.hid (HW1.out.trans nY)
          refine hK.out _ _ (HSA.out _ HW2.out) (fun hHeld => ?_)
          clear hK K dd nY hHeld
          try simp only [Act.put, List.setIfInBounds_toArray, List.set_cons_zero, List.set_cons_succ]
          refine wpAnyH_ready (rs := [6, 7]) (by kernel_rfl) (by simp) ?_
          refine consH6 (fun K hK => ?_) ?_
          · go_simp
            obtain ⟨x3, hy⟩ : ∃ y, y = x2.alloc (.cells #[.slice none 0 0, .int .i64 0] 31) := ⟨_, rfl⟩
            have nY : Near x2 x3 := by rw [hy]; exact (Near.refl x2).alloc _
            have HA3 := Lib.hid (show x3.heap[x2.heap.size]? = some (.cells #[.slice none 0 0, .int .i64 0] 31 (0, 0)) by rw [hy]; exact heap_new_at rfl)
            rw [← hy]
            obtain ⟨p3, hp⟩ : ∃ p, p = x2.heap.size := ⟨_, rfl⟩
            rw [← hp] at HA3 ⊢
            have HP3 := Lib.hid (show W.heap.size ≤ p3 by rw [hp]; exact HW2.out.size)
            have HF3 := Lib.hid (HF2.out.near nY)
            have HG3 := Lib.hid (HG2.out.near nY)
            have HW3 := Lib.hid (HW2.out.trans nY)
            refine hK.out _ _ (HSA.out _ HW3.out) (fun hHeld => ?_)
            clear hK K hy nY hp hHeld
            try simp only [Act.put, List.setIfInBounds_toArray, List.set_cons_zero, List.set_cons_succ]
            refine wpAnyH_ready (rs := [7]) (by kernel_rfl) (by simp) ?_
            refine consH7 (fun K hK => ?_) ?_
            · go_simp
              obtain ⟨x4, hy⟩ : ∃ y, y = x3.alloc (.cells #[.slice none 0 0, .int .i64 0] 31) := ⟨_, rfl⟩
              have nY : Near x3 x4 := by rw [hy]; exact (Near.refl x3).alloc _
              have HB4 := Lib.hid (show x4.heap[x3.heap.size]? = some (.cells #[.slice none 0 0, .int .i64 0] 31 (0, 0)) by rw [hy]; exact heap_new_at rfl)
              rw [← hy]
              obtain ⟨p4, hp⟩ : ∃ p, p = x3.heap.size := ⟨_, rfl⟩
              rw [← hp] at HB4 ⊢
              have HP4 := Lib.hid (show W.heap.size ≤ p4 by rw [hp]; exact HW3.out.size)
              have HNE := Lib.hid (show p3 ≠ p4 by rw [hp]; exact Nat.ne_of_lt (Array.getElem?_eq_some_iff.1 HA3.out).1)
              have HF4 := Lib.hid (HF3.out.near nY)
              have HG4 := Lib.hid (HG3.out.near nY)
              have HA4 := Lib.hid (keepN nY HA3.out)
              have HW4 := Lib.hid (HW3.out.trans nY)
              refine hK.out _ _ (HSA.out _ HW4.out) (fun hHeld => ?_)
              clear hK K hy nY hp hHeld
              try simp only [Act.put, List.setIfInBounds_toArray, List.set_cons_zero, List.set_cons_succ]
              have zz0 := cell1 (o := 0) HA4.out rfl
              have zz1 := cell1 (o := 1) HA4.out rfl
              have zzf := free1 HA4.out
              refine wpAnyH_ready (rs := [8]) (by kernel_rfl) (by simp) ?_
              refine consH8 (fun K hK => ?_) ?_
              · go_simp
                obtain ⟨x5, hy⟩ : ∃ y, y = (x4.setCell ⟨p3, 0, none⟩ (.slice aa1 bb1 cc1)).setCell ⟨p3, 1, none⟩ (.int .i64 dd1) := ⟨_, rfl⟩
                have HA5 := Lib.hid (show x5.heap[p3]? = some (.cells #[(.slice aa1 bb1 cc1), (.int .i64 dd1)] 31 (0, 0)) by rw [hy]; exact setCell2_eq HA4.out _ _)
                have HB5 := Lib.hid (show x5.heap[p4]? = _ from (by rw [hy]; exact setCell2_ne (HNE.out.symm) _ _ : x5.heap[p4]? = x4.heap[p4]?).trans HB4.out)
                have HF5 := Lib.hid (show IsF x5 _ _ by rw [hy]; exact HF4.out.keptOf (kept_set2 (S := fun k => k = p3) (Kept.refl _ _) rfl _ _) HA4.out)
                have HG5 := Lib.hid (show IsF x5 _ _ by rw [hy]; exact HG4.out.keptOf (kept_set2 (S := fun k => k = p3) (Kept.refl _ _) rfl _ _) HA4.out)
                have HW5 := Lib.hid (show Near W x5 by rw [hy]; exact (HW4.out.set HP3.out _).set HP3.out _)
                rw [← hy]
                refine hK.out _ _ (HSA.out _ HW5.out) (fun hHeld => ?_)
                clear hK K hy hHeld zz0 zz1 zzf
                try simp only [Act.put, List.setIfInBounds_toArray, List.set_cons_zero, List.set_cons_succ]
                have zz0 := cell1 (o := 0) HB5.out rfl
                have zz1 := cell1 (o := 1) HB5.out rfl
                have zzf := free1 HB5.out
                refine wpAnyH_ready (rs := [9]) (by kernel_rfl) (by simp) ?_
                refine consH9 (fun K hK => ?_) ?_
                · go_simp
                  obtain ⟨x6, hy⟩ : ∃ y, y = (x5.setCell ⟨p4, 0, none⟩ (.slice aa2 bb2 cc2)).setCell ⟨p4, 1, none⟩ (.int .i64 dd2) := ⟨_, rfl⟩
                  have HB6 := Lib.hid (show x6.heap[p4]? = some (.cells #[(.slice aa2 bb2 cc2), (.int .i64 dd2)] 31 (0, 0)) by rw [hy]; exact setCell2_eq HB5.out _ _)
                  have HA6 := Lib.hid (show x6.heap[p3]? = _ from (by rw [hy]; exact setCell2_ne (HNE.out) _ _ : x6.heap[p3]? = x5.heap[p3]?).trans HA5.out)
                  have HF6 := Lib.hid (show IsF x6 _ _ by rw [hy]; exact HF5.out.keptOf (kept_set2 (S := fun k => k = p4) (Kept.refl _ _) rfl _ _) HB5.out)
                  have HG6 := Lib.hid (show IsF x6 _ _ by rw [hy]; exact HG5.out.keptOf (kept_set2 (S := fun k => k = p4) (Kept.refl _ _) rfl _ _) HB5.out)
                  have HW6 := Lib.hid (show Near W x6 by rw [hy]; exact (HW5.out.set HP4.out _).set HP4.out _)
                  rw [← hy]
                  refine hK.out _ _ (HSA.out _ HW6.out) (fun hHeld => ?_)
                  clear hK K hy hHeld zz0 zz1 zzf
                  try simp only [Act.put, List.setIfInBounds_toArray, List.set_cons_zero, List.set_cons_succ]
                  refine wpAnyH_done (by kernel_rfl) ?_ _
                  refine NoPanic.normal ?_
                  go_wp2_with fail
                  go_meet
                  exact ⟨_, _, _, _, _, _, _, _, _, _, rfl, rfl, HP3.out, HP4.out, HA6.out, HB6.out, HF6.out, HG6.out, HW6.out⟩
                exact AllReadyH.nil
              exact AllReadyH.nil
            exact AllReadyH.nil
          refine consH7 (fun K hK => ?_) ?_
          · go_simp
            obtain ⟨x7, hy⟩ : ∃ y, y = x2.alloc (.cells #[.slice none 0 0, .int .i64 0] 31) := ⟨_, rfl⟩
            have nY : Near x2 x7 := by rw [hy]; exact (Near.refl x2).alloc _
            have HB7 := Lib.hid (show x7.heap[x2.heap.size]? = some (.cells #[.slice none 0 0, .int .i64 0] 31 (0, 0)) by rw [hy]; exact heap_new_at rfl)
            rw [← hy]
            obtain ⟨p7, hp⟩ : ∃ p, p = x2.heap.size := ⟨_, rfl⟩
            rw [← hp] at HB7 ⊢
            have HP7 := Lib.hid (show W.heap.size ≤ p7 by rw [hp]; exact HW2.out.size)
            have HF7 := Lib.hid (HF2.out.near nY)
            have HG7 := Lib.hid (HG2.out.near nY)
            have HW7 := Lib.hid (HW2.out.trans nY)
            refine hK.out _ _ (HSA.out _ HW7.out) (fun hHeld => ?_)
            clear hK K hy nY hp hHeld
            try simp only [Act.put, List.setIfInBounds_toArray, List.set_cons_zero, List.set_cons_succ]
            refine wpAnyH_ready (rs := [6]) (by kernel_rfl) (by simp) ?_
            refine consH6 (fun K hK => ?_) ?_
            · go_simp
              obtain ⟨x8, hy⟩ : ∃ y, y = x7.alloc (.cells #[.slice none 0 0, .int .i64 0] 31) := ⟨_, rfl⟩
              have nY : Near x7 x8 := by rw [hy]; exact (Near.refl x7).alloc _
              have HA8 := Lib.hid (show x8.heap[x7.heap.size]? = some (.cells #[.slice none 0 0, .int .i64 0] 31 (0, 0)) by rw [hy]; exact heap_new_at rfl)
              rw [← hy]
              obtain ⟨p8, hp⟩ : ∃ p, p = x7.heap.size := ⟨_, rfl⟩
              rw [← hp] at HA8 ⊢
              have HP8 := Lib.hid (show W.heap.size ≤ p8 by rw [hp]; exact HW7.out.size)
              have HNE := Lib.hid (show p7 ≠ p8 by rw [hp]; exact Nat.ne_of_lt (Array.getElem?_eq_some_iff.1 HB7.out).1)
              have HF8 := Lib.hid (HF7.out.near nY)
              have HG8 := Lib.hid (HG7.out.near nY)
              have HB8 := Lib.hid (keepN nY HB7.out)
              have HW8 := Lib.hid (HW7.out.trans nY)
              refine hK.out _ _ (HSA.out _ HW8.out) (fun hHeld => ?_)
              clear hK K hy nY hp hHeld
              try simp only [Act.put, List.setIfInBounds_toArray, List.set_cons_zero, List.set_cons_succ]
              have zz0 := cell1 (o := 0) HA8.out rfl
              have zz1 := cell1 (o := 1) HA8.out rfl
              have zzf := free1 HA8.out
              refine wpAnyH_ready (rs := [8]) (by kernel_rfl) (by simp) ?_
              refine consH8 (fun K hK => ?_) ?_
              · go_simp
                obtain ⟨x9, hy⟩ : ∃ y, y = (x8.setCell ⟨p8, 0, none⟩ (.slice aa1 bb1 cc1)).setCell ⟨p8, 1, none⟩ (.int .i64 dd1) := ⟨_, rfl⟩
                have HA9 := Lib.hid (show x9.heap[p8]? = some (.cells #[(.slice aa1 bb1 cc1), (.int .i64 dd1)] 31 (0, 0)) by rw [hy]; exact setCell2_eq HA8.out _ _)
                have HB9 := Lib.hid (show x9.heap[p7]? = _ from (by rw [hy]; exact setCell2_ne (HNE.out) _ _ : x9.heap[p7]? = x8.heap[p7]?).trans HB8.out)
                have HF9 := Lib.hid (show IsF x9 _ _ by rw [hy]; exact HF8.out.keptOf (kept_set2 (S := fun k => k = p8) (Kept.refl _ _) rfl _ _) HA8.out)
                have HG9 := Lib.hid (show IsF x9 _ _ by rw [hy]; exact HG8.out.keptOf (kept_set2 (S := fun k => k = p8) (Kept.refl _ _) rfl _ _) HA8.out)
                have HW9 := Lib.hid (show Near W x9 by rw [hy]; exact (HW8.out.set HP8.out _).set HP8.out _)
                rw [← hy]
                refine hK.out _ _ (HSA.out _ HW9.out) (fun hHeld => ?_)
                clear hK K hy hHeld zz0 zz1 zzf
                try simp only [Act.put, List.setIfInBounds_toArray, List.set_cons_zero, List.set_cons_succ]
                have zz0 := cell1 (o := 0) HB9.out rfl
                have zz1 := cell1 (o := 1) HB9.out rfl
                have zzf := free1 HB9.out
                refine wpAnyH_ready (rs := [9]) (by kernel_rfl) (by simp) ?_
                refine consH9 (fun K hK => ?_) ?_
                · go_simp
                  obtain ⟨x10, hy⟩ : ∃ y, y = (x9.setCell ⟨p7, 0, none⟩ (.slice aa2 bb2 cc2)).setCell ⟨p7, 1, none⟩ (.int .i64 dd2) := ⟨_, rfl⟩
                  have HB10 := Lib.hid (show x10.heap[p7]? = some (.cells #[(.slice aa2 bb2 cc2), (.int .i64 dd2)] 31 (0, 0)) by rw [hy]; exact setCell2_eq HB9.out _ _)
                  have HA10 := Lib.hid (show x10.heap[p8]? = _ from (by rw [hy]; exact setCell2_ne (HNE.out.symm) _ _ : x10.heap[p8]? = x9.heap[p8]?).trans HA9.out)
                  have HF10 := Lib.hid (show IsF x10 _ _ by rw [hy]; exact HF9.out.keptOf (kept_set2 (S := fun k => k = p7) (Kept.refl _ _) rfl _ _) HB9.out)
                  have HG10 := Lib.hid (show IsF x10 _ _ by rw [hy]; exact HG9.out.keptOf (kept_set2 (S := fun k => k = p7) (Kept.refl _ _) rfl _ _) HB9.out)
                  have HW10 := Lib.hid (show Near W x10 by rw [hy]; exact (HW9.out.set HP7.out _).set HP7.out _)
                  rw [← hy]
                  refine hK.out _ _ (HSA.out _ HW10.out) (fun hHeld => ?_)
                  clear hK K hy hHeld zz0 zz1 zzf
                  try simp only [Act.put, List.setIfInBounds_toArray, List.set_cons_zero, List.set_cons_succ]
                  refine wpAnyH_done (by kernel_rfl) ?_ _
                  refine NoPanic.normal ?_
                  go_wp2_with fail
                  go_meet
                  exact ⟨_, _, _, _, _, _, _, _, _, _, rfl, rfl, HP8.out, HP7.out, HA10.out, HB10.out, HF10.out, HG10.out, HW10.out⟩
                exact AllReadyH.nil
              exact AllReadyH.nil
            exact AllReadyH.nil
          exact AllReadyH.nil
        refine consH6 (fun K hK => ?_) ?_
        · go_simp
          obtain ⟨x11, hy⟩ : ∃ y, y = x1.alloc (.cells #[.slice none 0 0, .int .i64 0] 31) := ⟨_, rfl⟩
          have nY : Near x1 x11 := by rw [hy]; exact (Near.refl x1).alloc _
          have HA11 := Lib.hid (show x11.heap[x1.heap.size]? = some (.cells #[.slice none 0 0, .int .i64 0] 31 (0, 0)) by rw [hy]; exact heap_new_at rfl)
          rw [← hy]
          obtain ⟨p11, hp⟩ : ∃ p, p = x1.heap.size := ⟨_, rfl⟩
          rw [← hp] at HA11 ⊢
          have HP11 := Lib.hid (show W.heap.size ≤ p11 by rw [hp]; exact HW1.out.size)
          have HF11 := Lib.hid (HF1.out.near nY)
          have HW11 := Lib.hid (HW1.out.trans nY)
          refine hK.out _ _ (HSA.out _ HW11.out) (fun hHeld => ?_)
          clear hK K hy nY hp hHeld
          try simp only [Act.put, List.setIfInBounds_toArray, List.set_cons_zero, List.set_cons_succ]
          refine wpAnyH_ready (rs := [5, 7]) (by kernel_rfl) (by simp) ?_
          refine consH5 (fun K hK => ?_) ?_
          · go_simp
            go_at_call 41
            refine (with_f (HFA.out.near HW11.out) (n : Int) false).mono ?_
            rintro e x12 ⟨v, rfl, dd, nY⟩
            obtain ⟨aa12, bb12, cc12, dd12, rfl⟩ := dd.form
            have HG12 := Lib.hid dd
            have HF12 := Lib.hid (HF11.out.near nY)
            have HA12 := Lib.hid (keepN nY HA11.out)
            have HW12 := Lib.hid (HW11.out.trans nY)
            refine hK.out _ _ (HSA.out _ HW12.out) (fun hHeld => ?_)
            clear hK K dd nY hHeld
            try simp only [Act.put, List.setIfInBounds_toArray, List.set_cons_zero, List.set_cons_succ]
            refine wpAnyH_ready (rs := [7]) (by kernel_rfl) (by simp) ?_
            refine consH7 (fun K hK => ?_) ?_
            · go_simp
              obtain ⟨x13, hy⟩ : ∃ y, y = x12.alloc (.cells #[.slice none 0 0, .int .i64 0] 31) := ⟨_, rfl⟩
              have nY : Near x12 x13 := by rw [hy]; exact (Near.refl x12).alloc _
              have HB13 := Lib.hid (show x13.heap[x12.heap.size]? = some (.cells #[.slice none 0 0, .int .i64 0] 31 (0, 0)) by rw [hy]; exact heap_new_at rfl)
              rw [← hy]
              obtain ⟨p13, hp⟩ : ∃ p, p = x12.heap.size := ⟨_, rfl⟩
              rw [← hp] at HB13 ⊢
              have HP13 := Lib.hid (show W.heap.size ≤ p13 by rw [hp]; exact HW12.out.size)
              have HNE := Lib.hid (show p11 ≠ p13 by rw [hp]; exact Nat.ne_of_lt (Array.getElem?_eq_some_iff.1 HA12.out).1)
              have HF13 := Lib.hid (HF12.out.near nY)
              have HG13 := Lib.hid (HG12.out.near nY)
              have HA13 := Lib.hid (keepN nY HA12.out)
              have HW13 := Lib.hid (HW12.out.trans nY)
              refine hK.out _ _ (HSA.out _ HW13.out) (fun hHeld => ?_)
              clear hK K hy nY hp hHeld
              try simp only [Act.put, List.setIfInBounds_toArray, List.set_cons_zero, List.set_cons_succ]
              have zz0 := cell1 (o := 0) HA13.out rfl
              have zz1 := cell1 (o := 1) HA13.out rfl
              have zzf := free1 HA13.out
              refine wpAnyH_ready (rs := [8]) (by kernel_rfl) (by simp) ?_
              refine consH8 (fun K hK => ?_) ?_
              · go_simp
                obtain ⟨x14, hy⟩ : ∃ y, y = (x13.setCell ⟨p11, 0, none⟩ (.slice aa1 bb1 cc1)).setCell ⟨p11, 1, none⟩ (.int .i64 dd1) := ⟨_, rfl⟩
                have HA14 := Lib.hid (show x14.heap[p11]? = some (.cells #[(.slice aa1 bb1 cc1), (.int .i64 dd1)] 31 (0, 0)) by rw [hy]; exact setCell2_eq HA13.out _ _)
                have HB14 := Lib.hid (show x14.heap[p13]? = _ from (by rw [hy]; exact setCell2_ne (HNE.out.symm) _ _ : x14.heap[p13]? = x13.heap[p13]?).trans HB13.out)
                have HF14 := Lib.hid (show IsF x14 _ _ by rw [hy]; exact HF13.out.keptOf (kept_set2 (S := fun k => k = p11) (Kept.refl _ _) rfl _ _) HA13.out)
                have HG14 := Lib.hid (show IsF x14 _ _ by rw [hy]; exact HG13.out.keptOf (kept_set2 (S := fun k => k = p11) (Kept.refl _ _) rfl _ _) HA13.out)
                have HW14 := Lib.hid (show Near W x14 by rw [hy]; exact (HW13.out.set HP11.out _).set HP11.out _)
                rw [← hy]
                refine hK.out _ _ (HSA.out _ HW14.out) (fun hHeld => ?_)
                clear hK K hy hHeld zz0 zz1 zzf
                try simp only [Act.put, List.setIfInBounds_toArray, List.set_cons_zero, List.set_cons_succ]
                have zz0 := cell1 (o := 0) HB14.out rfl
                have zz1 := cell1 (o := 1) HB14.out rfl
                have zzf := free1 HB14.out
                refine wpAnyH_ready (rs := [9]) (by kernel_rfl) (by simp) ?_
                refine consH9 (fun K hK => ?_) ?_
                · go_simp
                  obtain ⟨x15, hy⟩ : ∃ y, y = (x14.setCell ⟨p13, 0, none⟩ (.slice aa12 bb12 cc12)).setCell ⟨p13, 1, none⟩ (.int .i64 dd12) := ⟨_, rfl⟩
                  have HB15 := Lib.hid (show x15.heap[p13]? = some (.cells #[(.slice aa12 bb12 cc12), (.int .i64 dd12)] 31 (0, 0)) by rw [hy]; exact setCell2_eq HB14.out _ _)
                  have HA15 := Lib.hid (show x15.heap[p11]? = _ from (by rw [hy]; exact setCell2_ne (HNE.out) _ _ : x15.heap[p11]? = x14.heap[p11]?).trans HA14.out)
                  have HF15 := Lib.hid (show IsF x15 _ _ by rw [hy]; exact HF14.out.keptOf (kept_set2 (S := fun k => k = p13) (Kept.refl _ _) rfl _ _) HB14.out)
                  have HG15 := Lib.hid (show IsF x15 _ _ by rw [hy]; exact HG14.out.keptOf (kept_set2 (S := fun k => k = p13) (Kept.refl _ _) rfl _ _) HB14.out)
                  have HW15 := Lib.hid (show Near W x15 by rw [hy]; exact (HW14.out.set HP13.out _).set HP13.out _)
                  rw [← hy]
                  refine hK.out _ _ (HSA.out _ HW15.out) (fun hHeld => ?_)
                  clear hK K hy hHeld zz0 zz1 zzf
                  try simp only [Act.put, List.setIfInBounds_toArray, List.set_cons_zero, List.set_cons_succ]
                  refine wpAnyH_done (by kernel_rfl) ?_ _
                  refine NoPanic.normal ?_
                  go_wp2_with fail
                  go_meet
                  exact ⟨_, _, _, _, _, _, _, _, _, _, rfl, rfl, HP11.out, HP13.out, HA15.out, HB15.out, HF15.out, HG15.out, HW15.out⟩
                exact AllReadyH.nil
              exact AllReadyH.nil
            exact AllReadyH.nil
          refine consH7 (fun K hK => ?_) ?_
          · go_simp
            obtain ⟨x16, hy⟩ : ∃ y, y = x11.alloc (.cells #[.slice none 0 0, .int .i64 0] 31) := ⟨_, rfl⟩
            have nY : Near x11 x16 := by rw [hy]; exact (Near.refl x11).alloc _
            have HB16 := Lib.hid (show x16.heap[x11.heap.size]? = some (.cells #[.slice none 0 0, .int .i64 0] 31 (0, 0)) by rw [hy]; exact heap_new_at rfl)
            rw [← hy]
            obtain ⟨p16, hp⟩ : ∃ p, p = x11.heap.size := ⟨_, rfl⟩
            rw [← hp] at HB16 ⊢
            have HP16 := Lib.hid (show W.heap.size ≤ p16 by rw [hp]; exact HW11.out.size)
            have HNE := Lib.hid (show p11 ≠ p16 by rw [hp]; exact Nat.ne_of_lt (Array.getElem?_eq_some_iff.1 HA11.out).1)
            have HF16 := Lib.hid (HF11.out.near nY)
            have HA16 := Lib.hid (keepN nY HA11.out)
            have HW16 := Lib.hid (HW11.out.trans nY)
            refine hK.out _ _ (HSA.out _ HW16.out) (fun hHeld => ?_)
            clear hK K hy nY hp hHeld
            try simp only [Act.put, List.setIfInBounds_toArray, List.set_cons_zero, List.set_cons_succ]
            refine wpAnyH_ready (rs := [5]) (by kernel_rfl) (by simp) ?_
            refine consH5 (fun K hK => ?_) ?_
            · go_simp
              go_at_call 41
              refine (with_f (HFA.out.near HW16.out) (n : Int) false).mono ?_
              rintro e x17 ⟨v, rfl, dd, nY⟩
              obtain ⟨aa17, bb17, cc17, dd17, rfl⟩ := dd.form
              have HG17 := Lib.hid dd
              have HF17 := Lib.hid (HF16.out.near nY)
              have HA17 := Lib.hid (keepN nY HA16.out)
              have HB17 := Lib.hid (keepN nY HB16.out)
              have HW17 := Lib.hid (HW16.out.trans nY)
              refine hK.out _ _ (HSA.out _ HW17.out) (fun hHeld => ?_)
              clear hK K dd nY hHeld
              try simp only [Act.put, List.setIfInBounds_toArray, List.set_cons_zero, List.set_cons_succ]
              have zz0 := cell1 (o := 0) HA17.out rfl
              have zz1 := cell1 (o := 1) HA17.out rfl
              have zzf := free1 HA17.out
              refine wpAnyH_ready (rs := [8]) (by kernel_rfl) (by simp) ?_
              refine consH8 (fun K hK => ?_) ?_
              · go_simp
                obtain ⟨x18, hy⟩ : ∃ y, y = (x17.setCell ⟨p11, 0, none⟩ (.slice aa1 bb1 cc1)).setCell ⟨p11, 1, none⟩ (.int .i64 dd1) := ⟨_, rfl⟩
                have HA18 := Lib.hid (show x18.heap[p11]? = some (.cells #[(.slice aa1 bb1 cc1), (.int .i64 dd1)] 31 (0, 0)) by rw [hy]; exact setCell2_eq HA17.out _ _)
                have HB18 := Lib.hid (show x18.heap[p16]? = _ from (by rw [hy]; exact setCell2_ne (HNE.out.symm) _ _ : x18.heap[p16]? = x17.heap[p16]?).trans HB17.out)
                have HF18 := Lib.hid (show IsF x18 _ _ by rw [hy]; exact HF17.out.keptOf (kept_set2 (S := fun k => k = p11) (Kept.refl _ _) rfl _ _) HA17.out)
                have HG18 := Lib.hid (show IsF x18 _ _ by rw [hy]; exact HG17.out.keptOf (kept_set2 (S := fun k => k = p11) (Kept.refl _ _) rfl _ _) HA17.out)
                have HW18 := Lib.hid (show Near W x18 by rw [hy]; exact (HW17.out.set HP11.out _).set HP11.out _)
                rw [← hy]
                refine hK.out _ _ (HSA.out _ HW18.out) (fun hHeld => ?_)
                clear hK K hy hHeld zz0 zz1 zzf
                try simp only [Act.put, List.setIfInBounds_toArray, List.set_cons_zero, List.set_cons_succ]
                have zz0 := cell1 (o := 0) HB18.out rfl
                have zz1 := cell1 (o := 1) HB18.out rfl
                have zzf := free1 HB18.out
                refine wpAnyH_ready (rs := [9]) (by kernel_rfl) (by simp) ?_
                refine consH9 (fun K hK => ?_) ?_
                · go_simp
                  obtain ⟨x19, hy⟩ : ∃ y, y = (x18.setCell ⟨p16, 0, none⟩ (.slice aa17 bb17 cc17)).setCell ⟨p16, 1, none⟩ (.int .i64 dd17) := ⟨_, rfl⟩
                  have HB19 := Lib.hid (show x19.heap[p16]? = some (.cells #[(.slice aa17 bb17 cc17), (.int .i64 dd17)] 31 (0, 0)) by rw [hy]; exact setCell2_eq HB18.out _ _)
                  have HA19 := Lib.hid (show x19.heap[p11]? = _ from (by rw [hy]; exact setCell2_ne (HNE.out) _ _ : x19.heap[p11]? = x18.heap[p11]?).trans HA18.out)
                  have HF19 := Lib.hid (show IsF x19 _ _ by rw [hy]; exact HF18.out.keptOf (kept_set2 (S := fun k => k = p16) (Kept.refl _ _) rfl _ _) HB18.out)
                  have HG19 := Lib.hid (show IsF x19 _ _ by rw [hy]; exact HG18.out.keptOf (kept_set2 (S := fun k => k = p16) (Kept.refl _ _) rfl _ _) HB18.out)
                  have HW19 := Lib.hid (show Near W x19 by rw [hy]; exact (HW18.out.set HP16.out _).set HP16.out _)
                  rw [← hy]
                  refine hK.out _ _ (HSA.out _ HW19.out) (fun hHeld => ?_)
                  clear hK K hy hHeld zz0 zz1 zzf
                  try simp only [Act.put, List.setIfInBounds_toArray, List.set_cons_zero, List.set_cons_succ]
                  refine wpAnyH_done (by kernel_rfl) ?_ _
                  refine NoPanic.normal ?_
                  go_wp2_with fail
                  go_meet
                  exact ⟨_, _, _, _, _, _, _, _, _, _, rfl, rfl, HP11.out, HP16.out, HA19.out, HB19.out, HF19.out, HG19.out, HW19.out⟩
                exact AllReadyH.nil
              exact AllReadyH.nil
            exact AllReadyH.nil
          exact AllReadyH.nil
        refine consH7 (fun K hK => ?_) ?_
        · go_simp
          obtain ⟨x20, hy⟩ : ∃ y, y = x1.alloc (.cells #[.slice none 0 0, .int .i64 0] 31) := ⟨_, rfl⟩
          have nY : Near x1 x20 := by rw [hy]; exact (Near.refl x1).alloc _
          have HB20 := Lib.hid (show x20.heap[x1.heap.size]? = some (.cells #[.slice none 0 0, .int .i64 0] 31 (0, 0)) by rw [hy]; exact heap_new_at rfl)
          rw [← hy]
          obtain ⟨p20, hp⟩ : ∃ p, p = x1.heap.size := ⟨_, rfl⟩
          rw [← hp] at HB20 ⊢
          have HP20 := Lib.hid (show W.heap.size ≤ p20 by rw [hp]; exact HW1.out.size)
          have HF20 := Lib.hid (HF1.out.near nY)
          have HW20 := Lib.hid (HW1.out.trans nY)
          refine hK.out _ _ (HSA.out _ HW20.out) (fun hHeld => ?_)
          clear hK K hy nY hp hHeld
          try simp only [Act.put, List.setIfInBounds_toArray, List.set_cons_zero, List.set_cons_succ]
          refine wpAnyH_ready (rs := [5, 6]) (by kernel_rfl) (by simp) ?_
          refine consH5 (fun K hK => ?_) ?_
          · go_simp
            go_at_call 41
            refine (with_f (HFA.out.near HW20.out) (n : Int) false).mono ?_
            rintro e x21 ⟨v, rfl, dd, nY⟩
            obtain ⟨aa21, bb21, cc21, dd21, rfl⟩ := dd.form
            have HG21 := Lib.hid dd
            have HF21 := Lib.hid (HF20.out.near nY)
            have HB21 := Lib.hid (keepN nY HB20.out)
            have HW21 := Lib.hid (HW20.out.trans nY)
            refine hK.out _ _ (HSA.out _ HW21.out) (fun hHeld => ?_)
            clear hK K dd nY hHeld
            try simp only [Act.put, List.setIfInBounds_toArray, List.set_cons_zero, List.set_cons_succ]
            refine wpAnyH_ready (rs := [6]) (by kernel_rfl) (by simp) ?_
            refine consH6 (fun K hK => ?_) ?_
            · go_simp
              obtain ⟨x22, hy⟩ : ∃ y, y = x21.alloc (.cells #[.slice none 0 0, .int .i64 0] 31) := ⟨_, rfl⟩
              have nY : Near x21 x22 := by rw [hy]; exact (Near.refl x21).alloc _
              have HA22 := Lib.hid (show x22.heap[x21.heap.size]? = some (.cells #[.slice none 0 0, .int .i64 0] 31 (0, 0)) by rw [hy]; exact heap_new_at rfl)
              rw [← hy]
              obtain ⟨p22, hp⟩ : ∃ p, p = x21.heap.size := ⟨_, rfl⟩
              rw [← hp] at HA22 ⊢
              have HP22 := Lib.hid (show W.heap.size ≤ p22 by rw [hp]; exact HW21.out.size)
              have HNE := Lib.hid (show p20 ≠ p22 by rw [hp]; exact Nat.ne_of_lt (Array.getElem?_eq_some_iff.1 HB21.out).1)
              have HF22 := Lib.hid (HF21.out.near nY)
              have HG22 := Lib.hid (HG21.out.near nY)
              have HB22 := Lib.hid (keepN nY HB21.out)
              have HW22 := Lib.hid (HW21.out.trans nY)
              refine hK.out _ _ (HSA.out _ HW22.out) (fun hHeld => ?_)
              clear hK K hy nY hp hHeld
              try simp only [Act.put, List.setIfInBounds_toArray, List.set_cons_zero, List.set_cons_succ]
              have zz0 := cell1 (o := 0) HA22.out rfl
              have zz1 := cell1 (o := 1) HA22.out rfl
              have zzf := free1 HA22.out
              refine wpAnyH_ready (rs := [8]) (by kernel_rfl) (by simp) ?_
              refine consH8 (fun K hK => ?_) ?_
              · go_simp
                obtain ⟨x23, hy⟩ : ∃ y, y = (x22.setCell ⟨p22, 0, none⟩ (.slice aa1 bb1 cc1)).setCell ⟨p22, 1, none⟩ (.int .i64 dd1) := ⟨_, rfl⟩
                have HA23 := Lib.hid (show x23.heap[p22]? = some (.cells #[(.slice aa1 bb1 cc1), (.int .i64 dd1)] 31 (0, 0)) by rw [hy]; exact setCell2_eq HA22.out _ _)
                have HB23 := Lib.hid (show x23.heap[p20]? = _ from (by rw [hy]; exact setCell2_ne (HNE.out) _ _ : x23.heap[p20]? = x22.heap[p20]?).trans HB22.out)
                have HF23 := Lib.hid (show IsF x23 _ _ by rw [hy]; exact HF22.out.keptOf (kept_set2 (S := fun k => k = p22) (Kept.refl _ _) rfl _ _) HA22.out)
                have HG23 := Lib.hid (show IsF x23 _ _ by rw [hy]; exact HG22.out.keptOf (kept_set2 (S := fun k => k = p22) (Kept.refl _ _) rfl _ _) HA22.out)
                have HW23 := Lib.hid (show Near W x23 by rw [hy]; exact (HW22.out.set HP22.out _).set HP22.out _)
                rw [← hy]
                refine hK.out _ _ (HSA.out _ HW23.out) (fun hHeld => ?_)
                clear hK K hy hHeld zz0 zz1 zzf
                try simp only [Act.put, List.setIfInBounds_toArray, List.set_cons_zero, List.set_cons_succ]
                have zz0 := cell1 (o := 0) HB23.out rfl
                have zz1 := cell1 (o := 1) HB23.out rfl
                have zzf := free1 HB23.out
                refine wpAnyH_ready (rs := [9]) (by kernel_rfl) (by simp) ?_
                refine consH9 (fun K hK => ?_) ?_
                · go_simp
                  obtain ⟨x24, hy⟩ : ∃ y, y = (x23.setCell ⟨p20, 0, none⟩ (.slice aa21 bb21 cc21)).setCell ⟨p20, 1, none⟩ (.int .i64 dd21) := ⟨_, rfl⟩
                  have HB24 := Lib.hid (show x24.heap[p20]? = some (.cells #[(.slice aa21 bb21 cc21), (.int .i64 dd21)] 31 (0, 0)) by rw [hy]; exact setCell2_eq HB23.out _ _)
                  have HA24 := Lib.hid (show x24.heap[p22]? = _ from (by rw [hy]; exact setCell2_ne (HNE.out.symm) _ _ : x24.heap[p22]? = x23.heap[p22]?).trans HA23.out)
                  have HF24 := Lib.hid (show IsF x24 _ _ by rw [hy]; exact HF23.out.keptOf (kept_set2 (S := fun k => k = p20) (Kept.refl _ _) rfl _ _) HB23.out)
                  have HG24 := Lib.hid (show IsF x24 _ _ by rw [hy]; exact HG23.out.keptOf (kept_set2 (S := fun k => k = p20) (Kept.refl _ _) rfl _ _) HB23.out)
                  have HW24 := Lib.hid (show Near W x24 by rw [hy]; exact (HW23.out.set HP20.out _).set HP20.out _)
                  rw [← hy]
                  refine hK.out _ _ (HSA.out _ HW24.out) (fun hHeld => ?_)
                  clear hK K hy hHeld zz0 zz1 zzf
                  try simp only [Act.put, List.setIfInBounds_toArray, List.set_cons_zero, List.set_cons_succ]
                  refine wpAnyH_done (by kernel_rfl) ?_ _
                  refine NoPanic.normal ?_
                  go_wp2_with fail
                  go_meet
                  exact ⟨_, _, _, _, _, _, _, _, _, _, rfl, rfl, HP22.out, HP20.out, HA24.out, HB24.out, HF24.out, HG24.out, HW24.out⟩
                exact AllReadyH.nil
              exact AllReadyH.nil
            exact AllReadyH.nil
          refine consH6 (fun K hK => ?_) ?_
          · go_simp
            obtain ⟨x25, hy⟩ : ∃ y, y = x20.alloc (.cells #[.slice none 0 0, .int .i64 0] 31) := ⟨_, rfl⟩
            have nY : Near x20 x25 := by rw [hy]; exact (Near.refl x20).alloc _
            have HA25 := Lib.hid (show x25.heap[x20.heap.size]? = some (.cells #[.slice none 0 0, .int .i64 0] 31 (0, 0)) by rw [hy]; exact heap_new_at rfl)
            rw [← hy]
            obtain ⟨p25, hp⟩ : ∃ p, p = x20.heap.size := ⟨_, rfl⟩
            rw [← hp] at HA25 ⊢
            have HP25 := Lib.hid (show W.heap.size ≤ p25 by rw [hp]; exact HW20.out.size)
            have HNE := Lib.hid (show p20 ≠ p25 by rw [hp]; exact Nat.ne_of_lt (Array.getElem?_eq_some_iff.1 HB20.out).1)
            have HF25 := Lib.hid (HF20.out.near nY)
            have HB25 := Lib.hid (keepN nY HB20.out)
            have HW25 := Lib.hid (HW20.out.trans nY)
            refine hK.out _ _ (HSA.out _ HW25.out) (fun hHeld => ?_)
            clear hK K hy nY hp hHeld
            try simp only [Act.put, List.setIfInBounds_toArray, List.set_cons_zero, List.set_cons_succ]
            refine wpAnyH_ready (rs := [5]) (by kernel_rfl) (by simp) ?_
            refine consH5 (fun K hK => ?_) ?_
            · go_simp
              go_at_call 41
              refine (with_f (HFA.out.near HW25.out) (n : Int) false).mono ?_
              rintro e x26 ⟨v, rfl, dd, nY⟩
              obtain ⟨aa26, bb26, cc26, dd26, rfl⟩ := dd.form
              have HG26 := Lib.hid dd
              have HF26 := Lib.hid (HF25.out.near nY)
              have HA26 := Lib.hid (keepN nY HA25.out)
              have HB26 := Lib.hid (keepN nY HB25.out)
              have HW26 := Lib.hid (HW25.out.trans nY)
              refine hK.out _ _ (HSA.out _ HW26.out) (fun hHeld => ?_)
              clear hK K dd nY hHeld
              try simp only [Act.put, List.setIfInBounds_toArray, List.set_cons_zero, List.set_cons_succ]
              have zz0 := cell1 (o := 0) HA26.out rfl
              have zz1 := cell1 (o := 1) HA26.out rfl
              have zzf := free1 HA26.out
              refine wpAnyH_ready (rs := [8]) (by kernel_rfl) (by simp) ?_
              refine consH8 (fun K hK => ?_) ?_
              · go_simp
                obtain ⟨x27, hy⟩ : ∃ y, y = (x26.setCell ⟨p25, 0, none⟩ (.slice aa1 bb1 cc1)).setCell ⟨p25, 1, none⟩ (.int .i64 dd1) := ⟨_, rfl⟩
                have HA27 := Lib.hid (show x27.heap[p25]? = some (.cells #[(.slice aa1 bb1 cc1), (.int .i64 dd1)] 31 (0, 0)) by rw [hy]; exact setCell2_eq HA26.out _ _)
                have HB27 := Lib.hid (show x27.heap[p20]? = _ from (by rw [hy]; exact setCell2_ne (HNE.out) _ _ : x27.heap[p20]? = x26.heap[p20]?).trans HB26.out)
                have HF27 := Lib.hid (show IsF x27 _ _ by rw [hy]; exact HF26.out.keptOf (kept_set2 (S := fun k => k = p25) (Kept.refl _ _) rfl _ _) HA26.out)
                have HG27 := Lib.hid (show IsF x27 _ _ by rw [hy]; exact HG26.out.keptOf (kept_set2 (S := fun k => k = p25) (Kept.refl _ _) rfl _ _) HA26.out)
                have HW27 := Lib.hid (show Near W x27 by rw [hy]; exact (HW26.out.set HP25.out _).set HP25.out _)
                rw [← hy]
                refine hK.out _ _ (HSA.out _ HW27.out) (fun hHeld => ?_)
                clear hK K hy hHeld zz0 zz1 zzf
                try simp only [Act.put, List.setIfInBounds_toArray, List.set_cons_zero, List.set_cons_succ]
                have zz0 := cell1 (o := 0) HB27.out rfl
                have zz1 := cell1 (o := 1) HB27.out rfl
                have zzf := free1 HB27.out
                refine wpAnyH_ready (rs := [9]) (by kernel_rfl) (by simp) ?_
                refine consH9 (fun K hK => ?_) ?_
                · go_simp
                  obtain ⟨x28, hy⟩ : ∃ y, y = (x27.setCell ⟨p20, 0, none⟩ (.slice aa26 bb26 cc26)).setCell ⟨p20, 1, none⟩ (.int .i64 dd26) := ⟨_, rfl⟩
                  have HB28 := Lib.hid (show x28.heap[p20]? = some (.cells #[(.slice aa26 bb26 cc26), (.int .i64 dd26)] 31 (0, 0)) by rw [hy]; exact setCell2_eq HB27.out _ _)
                  have HA28 := Lib.hid (show x28.heap[p25]? = _ from (by rw [hy]; exact setCell2_ne (HNE.out.symm) _ _ : x28.heap[p25]? = x27.heap[p25]?).trans HA27.out)
                  have HF28 := Lib.hid (show IsF x28 _ _ by rw [hy]; exact HF27.out.keptOf (kept_set2 (S := fun k => k = p20) (Kept.refl _ _) rfl _ _) HB27.out)
                  have HG28 := Lib.hid (show IsF x28 _ _ by rw [hy]; exact HG27.out.keptOf (kept_set2 (S := fun k => k = p20) (Kept.refl _ _) rfl _ _) HB27.out)
                  have HW28 := Lib.hid (show Near W x28 by rw [hy]; exact (HW27.out.set HP20.out _).set HP20.out _)
                  rw [← hy]
                  refine hK.out _ _ (HSA.out _ HW28.out) (fun hHeld => ?_)
                  clear hK K hy hHeld zz0 zz1 zzf
                  try simp only [Act.put, List.setIfInBounds_toArray, List.set_cons_zero, List.set_cons_succ]
                  refine wpAnyH_done (by kernel_rfl) ?_ _
                  refine NoPanic.normal ?_
                  go_wp2_with fail
                  go_meet
                  exact ⟨_, _, _, _, _, _, _, _, _, _, rfl, rfl, HP25.out, HP20.out, HA28.out, HB28.out, HF28.out, HG28.out, HW28.out⟩
                exact AllReadyH.nil
              exact AllReadyH.nil
            exact AllReadyH.nil
          exact AllReadyH.nil
        exact AllReadyH.nil
      refine consH6 (fun K hK => ?_) ?_
      · go_simp
        obtain ⟨x29, hy⟩ : ∃ y, y = x0.alloc (.cells #[.slice none 0 0, .int .i64 0] 31) := ⟨_, rfl⟩
        have nY : Near x0 x29 := by rw [hy]; exact (Near.refl x0).alloc _
        have HA29 := Lib.hid (show x29.heap[x0.heap.size]? = some (.cells #[.slice none 0 0, .int .i64 0] 31 (0, 0)) by rw [hy]; exact heap_new_at rfl)
        rw [← hy]
        obtain ⟨p29, hp⟩ : ∃ p, p = x0.heap.size := ⟨_, rfl⟩
        rw [← hp] at HA29 ⊢
        have HP29 := Lib.hid (show W.heap.size ≤ p29 by rw [hp]; exact HW0.out.size)
        have HW29 := Lib.hid (HW0.out.trans nY)
        refine hK.out _ _ (HSA.out _ HW29.out) (fun hHeld => ?_)
        clear hK K hy nY hp hHeld
        try simp only [Act.put, List.setIfInBounds_toArray, List.set_cons_zero, List.set_cons_succ]
        refine wpAnyH_ready (rs := [2, 7]) (by kernel_rfl) (by simp) ?_
        refine consH2 (fun K hK => ?_) ?_
        · go_simp
          go_at_call 41
          refine (with_f (HFA.out.near HW29.out) (n : Int) true).mono ?_
          rintro e x30 ⟨v, rfl, dd, nY⟩
          obtain ⟨aa30, bb30, cc30, dd30, rfl⟩ := dd.form
          have HF30 := Lib.hid dd
          have HA30 := Lib.hid (keepN nY HA29.out)
          have HW30 := Lib.hid (HW29.out.trans nY)
          refine hK.out _ _ (HSA.out _ HW30.out) (fun hHeld => ?_)
          clear hK K dd nY hHeld
          try simp only [Act.put, List.setIfInBounds_toArray, List.set_cons_zero, List.set_cons_succ]
          refine wpAnyH_ready (rs := [5, 7]) (by kernel_rfl) (by simp) ?_
          refine consH5 (fun K hK => ?_) ?_
          · go_simp
            go_at_call 41
            refine (with_f (HFA.out.near HW30.out) (n : Int) false).mono ?_
            rintro e x31 ⟨v, rfl, dd, nY⟩
            obtain ⟨aa31, bb31, cc31, dd31, rfl⟩ := dd.form
            have HG31 := Lib.hid dd
            have HF31 := Lib.hid (HF30.out.near nY)
            have HA31 := Lib.hid (keepN nY HA30.out)
            have HW31 := Lib.hid (HW30.out.trans nY)
            refine hK.out _ _ (HSA.out _ HW31.out) (fun hHeld => ?_)
            clear hK K dd nY hHeld
            try simp only [Act.put, List.setIfInBounds_toArray, List.set_cons_zero, List.set_cons_succ]
            refine wpAnyH_ready (rs := [7]) (by kernel_rfl) (by simp) ?_
            refine consH7 (fun K hK => ?_) ?_
            · go_simp
              obtain ⟨x32, hy⟩ : ∃ y, y = x31.alloc (.cells #[.slice none 0 0, .int .i64 0] 31) := ⟨_, rfl⟩
              have nY : Near x31 x32 := by rw [hy]; exact (Near.refl x31).alloc _
              have HB32 := Lib.hid (show x32.heap[x31.heap.size]? = some (.cells #[.slice none 0 0, .int .i64 0] 31 (0, 0)) by rw [hy]; exact heap_new_at rfl)
              rw [← hy]
              obtain ⟨p32, hp⟩ : ∃ p, p = x31.heap.size := ⟨_, rfl⟩
              rw [← hp] at HB32 ⊢
              have HP32 := Lib.hid (show W.heap.size ≤ p32 by rw [hp]; exact HW31.out.size)
              have HNE := Lib.hid (show p29 ≠ p32 by rw [hp]; exact Nat.ne_of_lt (Array.getElem?_eq_some_iff.1 HA31.out).1)
              have HF32 := Lib.hid (HF31.out.near nY)
              have HG32 := Lib.hid (HG31.out.near nY)
              have HA32 := Lib.hid (keepN nY HA31.out)
              have HW32 := Lib.hid (HW31.out.trans nY)
              refine hK.out _ _ (HSA.out _ HW32.out) (fun hHeld => ?_)
              clear hK K hy nY hp hHeld
              try simp only [Act.put, List.setIfInBounds_toArray, List.set_cons_zero, List.set_cons_succ]
              have zz0 := cell1 (o := 0) HA32.out rfl
              have zz1 := cell1 (o := 1) HA32.out rfl
              have zzf := free1 HA32.out
              refine wpAnyH_ready (rs := [8]) (by kernel_rfl) (by simp) ?_
              refine consH8 (fun K hK => ?_) ?_
              · go_simp
                obtain ⟨x33, hy⟩ : ∃ y, y = (x32.setCell ⟨p29, 0, none⟩ (.slice aa30 bb30 cc30)).setCell ⟨p29, 1, none⟩ (.int .i64 dd30) := ⟨_, rfl⟩
                have HA33 := Lib.hid (show x33.heap[p29]? = some (.cells #[(.slice aa30 bb30 cc30), (.int .i64 dd30)] 31 (0, 0)) by rw [hy]; exact setCell2_eq HA32.out _ _)
                have HB33 := Lib.hid (show x33.heap[p32]? = _ from (by rw [hy]; exact setCell2_ne (HNE.out.symm) _ _ : x33.heap[p32]? = x32.heap[p32]?).trans HB32.out)
                have HF33 := Lib.hid (show IsF x33 _ _ by rw [hy]; exact HF32.out.keptOf (kept_set2 (S := fun k => k = p29) (Kept.refl _ _) rfl _ _) HA32.out)
                have HG33 := Lib.hid (show IsF x33 _ _ by rw [hy]; exact HG32.out.keptOf (kept_set2 (S := fun k => k = p29) (Kept.refl _ _) rfl _ _) HA32.out)
                have HW33 := Lib.hid (show Near W x33 by rw [hy]; exact (HW32.out.set HP29.out _).set HP29.out _)
                rw [← hy]
                refine hK.out _ _ (HSA.out _ HW33.out) (fun hHeld => ?_)
                clear hK K hy hHeld zz0 zz1 zzf
                try simp only [Act.put, List.setIfInBounds_toArray, List.set_cons_zero, List.set_cons_succ]
                have zz0 := cell1 (o := 0) HB33.out rfl
                have zz1 := cell1 (o := 1) HB33.out rfl
                have zzf := free1 HB33.out
                refine wpAnyH_ready (rs := [9]) (by kernel_rfl) (by simp) ?_
                refine consH9 (fun K hK => ?_) ?_
                · go_simp
                  obtain ⟨x34, hy⟩ : ∃ y, y = (x33.setCell ⟨p32, 0, none⟩ (.slice aa31 bb31 cc31)).setCell ⟨p32, 1, none⟩ (.int .i64 dd31) := ⟨_, rfl⟩
                  have HB34 := Lib.hid (show x34.heap[p32]? = some (.cells #[(.slice aa31 bb31 cc31), (.int .i64 dd31)] 31 (0, 0)) by rw [hy]; exact setCell2_eq HB33.out _ _)
                  have HA34 := Lib.hid (show x34.heap[p29]? = _ from (by rw [hy]; exact setCell2_ne (HNE.out) _ _ : x34.heap[p29]? = x33.heap[p29]?).trans HA33.out)
                  have HF34 := Lib.hid (show IsF x34 _ _ by rw [hy]; exact HF33.out.keptOf (kept_set2 (S := fun k => k = p32) (Kept.refl _ _) rfl _ _) HB33.out)
                  have HG34 := Lib.hid (show IsF x34 _ _ by rw [hy]; exact HG33.out.keptOf (kept_set2 (S := fun k => k = p32) (Kept.refl _ _) rfl _ _) HB33.out)
                  have HW34 := Lib.hid (show Near W x34 by rw [hy]; exact (HW33.out.set HP32.out _).set HP32.out _)
                  rw [← hy]
                  refine hK.out _ _ (HSA.out _ HW34.out) (fun hHeld => ?_)
                  clear hK K hy hHeld zz0 zz1 zzf
                  try simp only [Act.put, List.setIfInBounds_toArray, List.set_cons_zero, List.set_cons_succ]
                  refine wpAnyH_done (by kernel_rfl) ?_ _
                  refine NoPanic.normal ?_
                  go_wp2_with fail
                  go_meet
                  exact ⟨_, _, _, _, _, _, _, _, _, _, rfl, rfl, HP29.out, HP32.out, HA34.out, HB34.out, HF34.out, HG34.out, HW34.out⟩
                exact AllReadyH.nil
              exact AllReadyH.nil
            exact AllReadyH.nil
          refine consH7 (fun K hK => ?_) ?_
          · go_simp
            obtain ⟨x35, hy⟩ : ∃ y, y = x30.alloc (.cells #[.slice none 0 0, .int .i64 0] 31) := ⟨_, rfl⟩
            have nY : Near x30 x35 := by rw [hy]; exact (Near.refl x30).alloc _
            have HB35 := Lib.hid (show x35.heap[x30.heap.size]? = some (.cells #[.slice none 0 0, .int .i64 0] 31 (0, 0)) by rw [hy]; exact heap_new_at rfl)
            rw [← hy]
            obtain ⟨p35, hp⟩ : ∃ p, p = x30.heap.size := ⟨_, rfl⟩
            rw [← hp] at HB35 ⊢
            have HP35 := Lib.hid (show W.heap.size ≤ p35 by rw [hp]; exact HW30.out.size)
            have HNE := Lib.hid (show p29 ≠ p35 by rw [hp]; exact Nat.ne_of_lt (Array.getElem?_eq_some_iff.1 HA30.out).1)
            have HF35 := Lib.hid (HF30.out.near nY)
            have HA35 := Lib.hid (keepN nY HA30.out)
            have HW35 := Lib.hid (HW30.out.trans nY)
            refine hK.out _ _ (HSA.out _ HW35.out) (fun hHeld => ?_)
            clear hK K hy nY hp hHeld
            try simp only [Act.put, List.setIfInBounds_toArray, List.set_cons_zero, List.set_cons_succ]
            refine wpAnyH_ready (rs := [5]) (by kernel_rfl) (by simp) ?_
            refine consH5 (fun K hK => ?_) ?_
            · go_simp
              go_at_call 41
              refine (with_f (HFA.out.near HW35.out) (n : Int) false).mono ?_
              rintro e x36 ⟨v, rfl, dd, nY⟩
              obtain ⟨aa36, bb36, cc36, dd36, rfl⟩ := dd.form
              have HG36 := Lib.hid dd
              have HF36 := Lib.hid (HF35.out.near nY)
              have HA36 := Lib.hid (keepN nY HA35.out)
              have HB36 := Lib.hid (keepN nY HB35.out)
              have HW36 := Lib.hid (HW35.out.trans nY)
              refine hK.out _ _ (HSA.out _ HW36.out) (fun hHeld => ?_)
              clear hK K dd nY hHeld
              try simp only [Act.put, List.setIfInBounds_toArray, List.set_cons_zero, List.set_cons_succ]
              have zz0 := cell1 (o := 0) HA36.out rfl
              have zz1 := cell1 (o := 1) HA36.out rfl
              have zzf := free1 HA36.out
              refine wpAnyH_ready (rs := [8]) (by kernel_rfl) (by simp) ?_
              refine consH8 (fun K hK => ?_) ?_
              · go_simp
                obtain ⟨x37, hy⟩ : ∃ y, y = (x36.setCell ⟨p29, 0, none⟩ (.slice aa30 bb30 cc30)).setCell ⟨p29, 1, none⟩ (.int .i64 dd30) := ⟨_, rfl⟩
                have HA37 := Lib.hid (show x37.heap[p29]? = some (.cells #[(.slice aa30 bb30 cc30), (.int .i64 dd30)] 31 (0, 0)) by rw [hy]; exact setCell2_eq HA36.out _ _)
                have HB37 := Lib.hid (show x37.heap[p35]? = _ from (by rw [hy]; exact setCell2_ne (HNE.out.symm) _ _ : x37.heap[p35]? = x36.heap[p35]?).trans HB36.out)
                have HF37 := Lib.hid (show IsF x37 _ _ by rw [hy]; exact HF36.out.keptOf (kept_set2 (S := fun k => k = p29) (Kept.refl _ _) rfl _ _) HA36.out)
                have HG37 := Lib.hid (show IsF x37 _ _ by rw [hy]; exact HG36.out.keptOf (kept_set2 (S := fun k => k = p29) (Kept.refl _ _) rfl _ _) HA36.out)
                have HW37 := Lib.hid (show Near W x37 by rw [hy]; exact (HW36.out.set HP29.out _).set HP29.out _)
                rw [← hy]
                refine hK.out _ _ (HSA.out _ HW37.out) (fun hHeld => ?_)
                clear hK K hy hHeld zz0 zz1 zzf
                try simp only [Act.put, List.setIfInBounds_toArray, List.set_cons_zero, List.set_cons_succ]
                have zz0 := cell1 (o := 0) HB37.out rfl
                have zz1 := cell1 (o := 1) HB37.out rfl
                have zzf := free1 HB37.out
                refine wpAnyH_ready (rs := [9]) (by kernel_rfl) (by simp) ?_
                refine consH9 (fun K hK => ?_) ?_
                · go_simp
                  obtain ⟨x38, hy⟩ : ∃ y, y = (x37.setCell ⟨p35, 0, none⟩ (.slice aa36 bb36 cc36)).setCell ⟨p35, 1, none⟩ (.int .i64 dd36) := ⟨_, rfl⟩
                  have HB38 := Lib.hid (show x38.heap[p35]? = some (.cells #[(.slice aa36 bb36 cc36), (.int .i64 dd36)] 31 (0, 0)) by rw [hy]; exact setCell2_eq HB37.out _ _)
                  have HA38 := Lib.hid (show x38.heap[p29]? = _ from (by rw [hy]; exact setCell2_ne (HNE.out) _ _ : x38.heap[p29]? = x37.heap[p29]?).trans HA37.out)
                  have HF38 := Lib.hid (show IsF x38 _ _ by rw [hy]; exact HF37.out.keptOf (kept_set2 (S := fun k => k = p35) (Kept.refl _ _) rfl _ _) HB37.out)
                  have HG38 := Lib.hid (show IsF x38 _ _ by rw [hy]; exact HG37.out.keptOf (kept_set2 (S := fun k => k = p35) (Kept.refl _ _) rfl _ _) HB37.out)
                  have HW38 := Lib.hid (show Near W x38 by rw [hy]; exact (HW37.out.set HP35.out _).set HP35.out _)
                  rw [← hy]
                  refine hK.out _ _ (HSA.out _ HW38.out) (fun hHeld => ?_)
                  clear hK K hy hHeld zz0 zz1 zzf
                  try simp only [Act.put, List.setIfInBounds_toArray, List.set_cons_zero, List.set_cons_succ]
                  refine wpAnyH_done (by kernel_rfl) ?_ _
                  refine NoPanic.normal ?_
                  go_wp2_with fail
                  go_meet
                  exact ⟨_, _, _, _, _, _, _, _, _, _, rfl, rfl, HP29.out, HP35.out, HA38.out, HB38.out, HF38.out, HG38.out, HW38.out⟩
                exact AllReadyH.nil
              exact AllReadyH.nil
            exact AllReadyH.nil
          exact AllReadyH.nil
        refine consH7 (fun K hK => ?_) ?_
        · go_simp
          obtain ⟨x39, hy⟩ : ∃ y, y = x29.alloc (.cells #[.slice none 0 0, .int .i64 0] 31) := ⟨_, rfl⟩
          have nY : Near x29 x39 := by rw [hy]; exact (Near.refl x29).alloc _
          have HB39 := Lib.hid (show x39.heap[x29.heap.size]? = some (.cells #[.slice none 0 0, .int .i64 0] 31 (0, 0)) by rw [hy]; exact heap_new_at rfl)
          rw [← hy]
          obtain ⟨p39, hp⟩ : ∃ p, p = x29.heap.size := ⟨_, rfl⟩
          rw [← hp] at HB39 ⊢
          have HP39 := Lib.hid (show W.heap.size ≤ p39 by rw [hp]; exact HW29.out.size)
          have HNE := Lib.hid (show p29 ≠ p39 by rw [hp]; exact Nat.ne_of_lt (Array.getElem?_eq_some_iff.1 HA29.out).1)
          have HA39 := Lib.hid (keepN nY HA29.out)
          have HW39 := Lib.hid (HW29.out.trans nY)
          refine hK.out _ _ (HSA.out _ HW39.out) (fun hHeld => ?_)
          clear hK K hy nY hp hHeld
          try simp only [Act.put, List.setIfInBounds_toArray, List.set_cons_zero, List.set_cons_succ]
          refine wpAnyH_ready (rs := [2]) (by kernel_rfl) (by simp) ?_
          refine consH2 (fun K hK => ?_) ?_
          · go_simp
            go_at_call 41
            refine (with_f (HFA.out.near HW39.out) (n : Int) true).mono ?_
            rintro e x40 ⟨v, rfl, dd, nY⟩
            obtain ⟨aa40, bb40, cc40, dd40, rfl⟩ := dd.form
            have HF40 := Lib.hid dd
            have HA40 := Lib.hid (keepN nY HA39.out)
            have HB40 := Lib.hid (keepN nY HB39.out)
            have HW40 := Lib.hid (HW39.out.trans nY)
            refine hK.out _ _ (HSA.out _ HW40.out) (fun hHeld => ?_)
            clear hK K dd nY hHeld
            try simp only [Act.put, List.setIfInBounds_toArray, List.set_cons_zero, List.set_cons_succ]
            refine wpAnyH_ready (rs := [5]) (by kernel_rfl) (by simp) ?_
            refine consH5 (fun K hK => ?_) ?_
            · go_simp
              go_at_call 41
              refine (with_f (HFA.out.near HW40.out) (n : Int) false).mono ?_
              rintro e x41 ⟨v, rfl, dd, nY⟩
              obtain ⟨aa41, bb41, cc41, dd41, rfl⟩ := dd.form
              have HG41 := Lib.hid dd
              have HF41 := Lib.hid (HF40.out.near nY)
              have HA41 := Lib.hid (keepN nY HA40.out)
              have HB41 := Lib.hid (keepN nY HB40.out)
              have HW41 := Lib.hid (HW40.out.trans nY)
              refine hK.out _ _ (HSA.out _ HW41.out) (fun hHeld => ?_)
              clear hK K dd nY hHeld
              try simp only [Act.put, List.setIfInBounds_toArray, List.set_cons_zero, List.set_cons_succ]
              have zz0 := cell1 (o := 0) HA41.out rfl
              have zz1 := cell1 (o := 1) HA41.out rfl
              have zzf := free1 HA41.out
              refine wpAnyH_ready (rs := [8]) (by kernel_rfl) (by simp) ?_
              refine consH8 (fun K hK => ?_) ?_
              · go_simp
                obtain ⟨x42, hy⟩ : ∃ y, y = (x41.setCell ⟨p29, 0, none⟩ (.slice aa40 bb40 cc40)).setCell ⟨p29, 1, none⟩ (.int .i64 dd40) := ⟨_, rfl⟩
                have HA42 := Lib.hid (show x42.heap[p29]? = some (.cells #[(.slice aa40 bb40 cc40), (.int .i64 dd40)] 31 (0, 0)) by rw [hy]; exact setCell2_eq HA41.out _ _)
                have HB42 := Lib.hid (show x42.heap[p39]? = _ from (by rw [hy]; exact setCell2_ne (HNE.out.symm) _ _ : x42.heap[p39]? = x41.heap[p39]?).trans HB41.out)
                have HF42 := Lib.hid (show IsF x42 _ _ by rw [hy]; exact HF41.out.keptOf (kept_set2 (S := fun k => k = p29) (Kept.refl _ _) rfl _ _) HA41.out)
                have HG42 := Lib.hid (show IsF x42 _ _ by rw [hy]; exact HG41.out.keptOf (kept_set2 (S := fun k => k = p29) (Kept.refl _ _) rfl _ _) HA41.out)
                have HW42 := Lib.hid (show Near W x42 by rw [hy]; exact (HW41.out.set HP29.out _).set HP29.out _)
                rw [← hy]
                refine hK.out _ _ (HSA.out _ HW42.out) (fun hHeld => ?_)
                clear hK K hy hHeld zz0 zz1 zzf
                try simp only [Act.put, List.setIfInBounds_toArray, List.set_cons_zero, List.set_cons_succ]
                have zz0 := cell1 (o := 0) HB42.out rfl
                have zz1 := cell1 (o := 1) HB42.out rfl
                have zzf := free1 HB42.out
                refine wpAnyH_ready (rs := [9]) (by kernel_rfl) (by simp) ?_
                refine consH9 (fun K hK => ?_) ?_
                · go_simp
                  obtain ⟨x43, hy⟩ : ∃ y, y = (x42.setCell ⟨p39, 0, none⟩ (.slice aa41 bb41 cc41)).setCell ⟨p39, 1, none⟩ (.int .i64 dd41) := ⟨_, rfl⟩
                  have HB43 := Lib.hid (show x43.heap[p39]? = some (.cells #[(.slice aa41 bb41 cc41), (.int .i64 dd41)] 31 (0, 0)) by rw [hy]; exact setCell2_eq HB42.out _ _)
                  have HA43 := Lib.hid (show x43.heap[p29]? = _ from (by rw [hy]; exact setCell2_ne (HNE.out) _ _ : x43.heap[p29]? = x42.heap[p29]?).trans HA42.out)
                  have HF43 := Lib.hid (show IsF x43 _ _ by rw [hy]; exact HF42.out.keptOf (kept_set2 (S := fun k => k = p39) (Kept.refl _ _) rfl _ _) HB42.out)
                  have HG43 := Lib.hid (show IsF x43 _ _ by rw [hy]; exact HG42.out.keptOf (kept_set2 (S := fun k => k = p39) (Kept.refl _ _) rfl _ _) HB42.out)
                  have HW43 := Lib.hid (show Near W x43 by rw [hy]; exact (HW42.out.set HP39.out _).set HP39.out _)
                  rw [← hy]
                  refine hK.out _ _ (HSA.out _ HW43.out) (fun hHeld => ?_)
                  clear hK K hy hHeld zz0 zz1 zzf
                  try simp only [Act.put, List.setIfInBounds_toArray, List.set_cons_zero, List.set_cons_succ]
                  refine wpAnyH_done (by kernel_rfl) ?_ _
                  refine NoPanic.normal ?_
                  go_wp2_with fail
                  go_meet
                  exact ⟨_, _, _, _, _, _, _, _, _, _, rfl, rfl, HP29.out, HP39.out, HA43.out, HB43.out, HF43.out, HG43.out, HW43.out⟩
                exact AllReadyH.nil
              exact AllReadyH.nil
            exact AllReadyH.nil
          exact AllReadyH.nil
        exact AllReadyH.nil
      refine consH7 (fun K hK => ?_) ?_
      · go_simp
        obtain ⟨x44, hy⟩ : ∃ y, y = x0.alloc (.cells #[.slice none 0 0, .int .i64 0] 31) := ⟨_, rfl⟩
        have nY : Near x0 x44 := by rw [hy]; exact (Near.refl x0).alloc _
        have HB44 := Lib.hid (show x44.heap[x0.heap.size]? = some (.cells #[.slice none 0 0, .int .i64 0] 31 (0, 0)) by rw [hy]; exact heap_new_at rfl)
        rw [← hy]
        obtain ⟨p44, hp⟩ : ∃ p, p = x0.heap.size := ⟨_, rfl⟩
        rw [← hp] at HB44 ⊢
        have HP44 := Lib.hid (show W.heap.size ≤ p44 by rw [hp]; exact HW0.out.size)
        have HW44 := Lib.hid (HW0.out.trans nY)
        refine hK.out _ _ (HSA.out _ HW44.out) (fun hHeld => ?_)
        clear hK K hy nY hp hHeld
        try simp only [Act.put, List.setIfInBounds_toArray, List.set_cons_zero, List.set_cons_succ]
        refine wpAnyH_ready (rs := [2, 6]) (by kernel_rfl) (by simp) ?_
        refine consH2 (fun K hK => ?_) ?_
        · go_simp
          go_at_call 41
          refine (with_f (HFA.out.near HW44.out) (n : Int) true).mono ?_
          rintro e x45 ⟨v, rfl, dd, nY⟩
          obtain ⟨aa45, bb45, cc45, dd45, rfl⟩ := dd.form
          have HF45 := Lib.hid dd
          have HB45 := Lib.hid (keepN nY HB44.out)
          have HW45 := Lib.hid (HW44.out.trans nY)
          refine hK.out _ _ (HSA.out _ HW45.out) (fun hHeld => ?_)
          clear hK K dd nY hHeld
          try simp only [Act.put, List.setIfInBounds_toArray, List.set_cons_zero, List.set_cons_succ]
          refine wpAnyH_ready (rs := [5, 6]) (by kernel_rfl) (by simp) ?_
          refine consH5 (fun K hK => ?_) ?_
          · go_simp
            go_at_call 41
            refine (with_f (HFA.out.near HW45.out) (n : Int) false).mono ?_
            rintro e x46 ⟨v, rfl, dd, nY⟩
            obtain ⟨aa46, bb46, cc46, dd46, rfl⟩ := dd.form
            have HG46 := Lib.hid dd
            have HF46 := Lib.hid (HF45.out.near nY)
            have HB46 := Lib.hid (keepN nY HB45.out)
            have HW46 := Lib.hid (HW45.out.trans nY)
            refine hK.out _ _ (HSA.out _ HW46.out) (fun hHeld => ?_)
            clear hK K dd nY hHeld
            try simp only [Act.put, List.setIfInBounds_toArray, List.set_cons_zero, List.set_cons_succ]
            refine wpAnyH_ready (rs := [6]) (by kernel_rfl) (by simp) ?_
            refine consH6 (fun K hK => ?_) ?_
            · go_simp
              obtain ⟨x47, hy⟩ : ∃ y, y = x46.alloc (.cells #[.slice none 0 0, .int .i64 0] 31) := ⟨_, rfl⟩
              have nY : Near x46 x47 := by rw [hy]; exact (Near.refl x46).alloc _
              have HA47 := Lib.hid (show x47.heap[x46.heap.size]? = some (.cells #[.slice none 0 0, .int .i64 0] 31 (0, 0)) by rw [hy]; exact heap_new_at rfl)
              rw [← hy]
              obtain ⟨p47, hp⟩ : ∃ p, p = x46.heap.size := ⟨_, rfl⟩
              rw [← hp] at HA47 ⊢
              have HP47 := Lib.hid (show W.heap.size ≤ p47 by rw [hp]; exact HW46.out.size)
              have HNE := Lib.hid (show p44 ≠ p47 by rw [hp]; exact Nat.ne_of_lt (Array.getElem?_eq_some_iff.1 HB46.out).1)
              have HF47 := Lib.hid (HF46.out.near nY)
              have HG47 := Lib.hid (HG46.out.near nY)
              have HB47 := Lib.hid (keepN nY HB46.out)
              have HW47 := Lib.hid (HW46.out.trans nY)
              refine hK.out _ _ (HSA.out _ HW47.out) (fun hHeld => ?_)
              clear hK K hy nY hp hHeld
              try simp only [Act.put, List.setIfInBounds_toArray, List.set_cons_zero, List.set_cons_succ]
              have zz0 := cell1 (o := 0) HA47.out rfl
              have zz1 := cell1 (o := 1) HA47.out rfl
              have zzf := free1 HA47.out
              refine wpAnyH_ready (rs := [8]) (by kernel_rfl) (by simp) ?_
              refine consH8 (fun K hK => ?_) ?_
              · go_simp
                obtain ⟨x48, hy⟩ : ∃ y, y = (x47.setCell ⟨p47, 0, none⟩ (.slice aa45 bb45 cc45)).setCell ⟨p47, 1, none⟩ (.int .i64 dd45) := ⟨_, rfl⟩
                have HA48 := Lib.hid (show x48.heap[p47]? = some (.cells #[(.slice aa45 bb45 cc45), (.int .i64 dd45)] 31 (0, 0)) by rw [hy]; exact setCell2_eq HA47.out _ _)
                have HB48 := Lib.hid (show x48.heap[p44]? = _ from (by rw [hy]; exact setCell2_ne (HNE.out) _ _ : x48.heap[p44]? = x47.heap[p44]?).trans HB47.out)
                have HF48 := Lib.hid (show IsF x48 _ _ by rw [hy]; exact HF47.out.keptOf (kept_set2 (S := fun k => k = p47) (Kept.refl _ _) rfl _ _) HA47.out)
                have HG48 := Lib.hid (show IsF x48 _ _ by rw [hy]; exact HG47.out.keptOf (kept_set2 (S := fun k => k = p47) (Kept.refl _ _) rfl _ _) HA47.out)
                have HW48 := Lib.hid (show Near W x48 by rw [hy]; exact (HW47.out.set HP47.out _).set HP47.out _)
                rw [← hy]
                refine hK.out _ _ (HSA.out _ HW48.out) (fun hHeld => ?_)
                clear hK K hy hHeld zz0 zz1 zzf
                try simp only [Act.put, List.setIfInBounds_toArray, List.set_cons_zero, List.set_cons_succ]
                have zz0 := cell1 (o := 0) HB48.out rfl
                have zz1 := cell1 (o := 1) HB48.out rfl
                have zzf := free1 HB48.out
                refine wpAnyH_ready (rs := [9]) (by kernel_rfl) (by simp) ?_
                refine consH9 (fun K hK => ?_) ?_
                · go_simp
                  obtain ⟨x49, hy⟩ : ∃ y, y = (x48.setCell ⟨p44, 0, none⟩ (.slice aa46 bb46 cc46)).setCell ⟨p44, 1, none⟩ (.int .i64 dd46) := ⟨_, rfl⟩
                  have HB49 := Lib.hid (show x49.heap[p44]? = some (.cells #[(.slice aa46 bb46 cc46), (.int .i64 dd46)] 31 (0, 0)) by rw [hy]; exact setCell2_eq HB48.out _ _)
                  have HA49 := Lib.hid (show x49.heap[p47]? = _ from (by rw [hy]; exact setCell2_ne (HNE.out.symm) _ _ : x49.heap[p47]? = x48.heap[p47]?).trans HA48.out)
                  have HF49 := Lib.hid (show IsF x49 _ _ by rw [hy]; exact HF48.out.keptOf (kept_set2 (S := fun k => k = p44) (Kept.refl _ _) rfl _ _) HB48.out)
                  have HG49 := Lib.hid (show IsF x49 _ _ by rw [hy]; exact HG48.out.keptOf (kept_set2 (S := fun k => k = p44) (Kept.refl _ _) rfl _ _) HB48.out)
                  have HW49 := Lib.hid (show Near W x49 by rw [hy]; exact (HW48.out.set HP44.out _).set HP44.out _)
                  rw [← hy]
                  refine hK.out _ _ (HSA.out _ HW49.out) (fun hHeld => ?_)
                  clear hK K hy hHeld zz0 zz1 zzf
                  try simp only [Act.put, List.setIfInBounds_toArray, List.set_cons_zero, List.set_cons_succ]
                  refine wpAnyH_done (by kernel_rfl) ?_ _
                  refine NoPanic.normal ?_
                  go_wp2_with fail
                  go_meet
                  exact ⟨_, _, _, _, _, _, _, _, _, _, rfl, rfl, HP47.out, HP44.out, HA49.out, HB49.out, HF49.out, HG49.out, HW49.out⟩
                exact AllReadyH.nil
              exact AllReadyH.nil
            exact AllReadyH.nil
          refine consH6 (fun K hK => ?_) ?_
          · go_simp
            obtain ⟨x50, hy⟩ : ∃ y, y = x45.alloc (.cells #[.slice none 0 0, .int .i64 0] 31) := ⟨_, rfl⟩
            have nY : Near x45 x50 := by rw [hy]; exact (Near.refl x45).alloc _
            have HA50 := Lib.hid (show x50.heap[x45.heap.size]? = some (.cells #[.slice none 0 0, .int .i64 0] 31 (0, 0)) by rw [hy]; exact heap_new_at rfl)
            rw [← hy]
            obtain ⟨p50, hp⟩ : ∃ p, p = x45.heap.size := ⟨_, rfl⟩
            rw [← hp] at HA50 ⊢
            have HP50 := Lib.hid (show W.heap.size ≤ p50 by rw [hp]; exact HW45.out.size)
            have HNE := Lib.hid (show p44 ≠ p50 by rw [hp]; exact Nat.ne_of_lt (Array.getElem?_eq_some_iff.1 HB45.out).1)
            have HF50 := Lib.hid (HF45.out.near nY)
            have HB50 := Lib.hid (keepN nY HB45.out)
            have HW50 := Lib.hid (HW45.out.trans nY)
            refine hK.out _ _ (HSA.out _ HW50.out) (fun hHeld => ?_)
            clear hK K hy nY hp hHeld
            try simp only [Act.put, List.setIfInBounds_toArray, List.set_cons_zero, List.set_cons_succ]
            refine wpAnyH_ready (rs := [5]) (by kernel_rfl) (by simp) ?_
            refine consH5 (fun K hK => ?_) ?_
            · go_simp
              go_at_call 41
              refine (with_f (HFA.out.near HW50.out) (n : Int) false).mono ?_
              rintro e x51 ⟨v, rfl, dd, nY⟩
              obtain ⟨aa51, bb51, cc51, dd51, rfl⟩ := dd.form
              have HG51 := Lib.hid dd
              have HF51 := Lib.hid (HF50.out.near nY)
              have HA51 := Lib.hid (keepN nY HA50.out)
              have HB51 := Lib.hid (keepN nY HB50.out)
              have HW51 := Lib.hid (HW50.out.trans nY)
              refine hK.out _ _ (HSA.out _ HW51.out) (fun hHeld => ?_)
              clear hK K dd nY hHeld
              try simp only [Act.put, List.setIfInBounds_toArray, List.set_cons_zero, List.set_cons_succ]
              have zz0 := cell1 (o := 0) HA51.out rfl
              have zz1 := cell1 (o := 1) HA51.out rfl
              have zzf := free1 HA51.out
              refine wpAnyH_ready (rs := [8]) (by kernel_rfl) (by simp) ?_
              refine consH8 (fun K hK => ?_) ?_
              · go_simp
                obtain ⟨x52, hy⟩ : ∃ y, y = (x51.setCell ⟨p50, 0, none⟩ (.slice aa45 bb45 cc45)).setCell ⟨p50, 1, none⟩ (.int .i64 dd45) := ⟨_, rfl⟩
                have HA52 := Lib.hid (show x52.heap[p50]? = some (.cells #[(.slice aa45 bb45 cc45), (.int .i64 dd45)] 31 (0, 0)) by rw [hy]; exact setCell2_eq HA51.out _ _)
                have HB52 := Lib.hid (show x52.heap[p44]? = _ from (by rw [hy]; exact setCell2_ne (HNE.out) _ _ : x52.heap[p44]? = x51.heap[p44]?).trans HB51.out)
                have HF52 := Lib.hid (show IsF x52 _ _ by rw [hy]; exact HF51.out.keptOf (kept_set2 (S := fun k => k = p50) (Kept.refl _ _) rfl _ _) HA51.out)
                have HG52 := Lib.hid (show IsF x52 _ _ by rw [hy]; exact HG51.out.keptOf (kept_set2 (S := fun k => k = p50) (Kept.refl _ _) rfl _ _) HA51.out)
                have HW52 := Lib.hid (show Near W x52 by rw [hy]; exact (HW51.out.set HP50.out _).set HP50.out _)
                rw [← hy]
                refine hK.out _ _ (HSA.out _ HW52.out) (fun hHeld => ?_)
                clear hK K hy hHeld zz0 zz1 zzf
                try simp only [Act.put, List.setIfInBounds_toArray, List.set_cons_zero, List.set_cons_succ]
                have zz0 := cell1 (o := 0) HB52.out rfl
                have zz1 := cell1 (o := 1) HB52.out rfl
                have zzf := free1 HB52.out
                refine wpAnyH_ready (rs := [9]) (by kernel_rfl) (by simp) ?_
                refine consH9 (fun K hK => ?_) ?_
                · go_simp
                  obtain ⟨x53, hy⟩ : ∃ y, y = (x52.setCell ⟨p44, 0, none⟩ (.slice aa51 bb51 cc51)).setCell ⟨p44, 1, none⟩ (.int .i64 dd51) := ⟨_, rfl⟩
                  have HB53 := Lib.hid (show x53.heap[p44]? = some (.cells #[(.slice aa51 bb51 cc51), (.int .i64 dd51)] 31 (0, 0)) by rw [hy]; exact setCell2_eq HB52.out _ _)
                  have HA53 := Lib.hid (show x53.heap[p50]? = _ from (by rw [hy]; exact setCell2_ne (HNE.out.symm) _ _ : x53.heap[p50]? = x52.heap[p50]?).trans HA52.out)
                  have HF53 := Lib.hid (show IsF x53 _ _ by rw [hy]; exact HF52.out.keptOf (kept_set2 (S := fun k => k = p44) (Kept.refl _ _) rfl _ _) HB52.out)
                  have HG53 := Lib.hid (show IsF x53 _ _ by rw [hy]; exact HG52.out.keptOf (kept_set2 (S := fun k => k = p44) (Kept.refl _ _) rfl _ _) HB52.out)
                  have HW53 := Lib.hid (show Near W x53 by rw [hy]; exact (HW52.out.set HP44.out _).set HP44.out _)
                  rw [← hy]
                  refine hK.out _ _ (HSA.out _ HW53.out) (fun hHeld => ?_)
                  clear hK K hy hHeld zz0 zz1 zzf
                  try simp only [Act.put, List.setIfInBounds_toArray, List.set_cons_zero, List.set_cons_succ]
                  refine wpAnyH_done (by kernel_rfl) ?_ _
                  refine NoPanic.normal ?_
                  go_wp2_with fail
                  go_meet
                  exact ⟨_, _, _, _, _, _, _, _, _, _, rfl, rfl, HP50.out, HP44.out, HA53.out, HB53.out, HF53.out, HG53.out, HW53.out⟩
                exact AllReadyH.nil
              exact AllReadyH.nil
            exact AllReadyH.nil
          exact AllReadyH.nil
        refine consH6 (fun K hK => ?_) ?_
        · go_simp
          obtain ⟨x54, hy⟩ : ∃ y, y = x44.alloc (.cells #[.slice none 0 0, .int .i64 0] 31) := ⟨_, rfl⟩
          have nY : Near x44 x54 := by rw [hy]; exact (Near.refl x44).alloc _
          have HA54 := Lib.hid (show x54.heap[x44.heap.size]? = some (.cells #[.slice none 0 0, .int .i64 0] 31 (0, 0)) by rw [hy]; exact heap_new_at rfl)
          rw [← hy]
          obtain ⟨p54, hp⟩ : ∃ p, p = x44.heap.size := ⟨_, rfl⟩
          rw [← hp] at HA54 ⊢
          have HP54 := Lib.hid (show W.heap.size ≤ p54 by rw [hp]; exact HW44.out.size)
          have HNE := Lib.hid (show p44 ≠ p54 by rw [hp]; exact Nat.ne_of_lt (Array.getElem?_eq_some_iff.1 HB44.out).1)
          have HB54 := Lib.hid (keepN nY HB44.out)
          have HW54 := Lib.hid (HW44.out.trans nY)
          refine hK.out _ _ (HSA.out _ HW54.out) (fun hHeld => ?_)
          clear hK K hy nY hp hHeld
          try simp only [Act.put, List.setIfInBounds_toArray, List.set_cons_zero, List.set_cons_succ]
          refine wpAnyH_ready (rs := [2]) (by kernel_rfl) (by simp) ?_
          refine consH2 (fun K hK => ?_) ?_
          · go_simp
            go_at_call 41
            refine (with_f (HFA.out.near HW54.out) (n : Int) true).mono ?_
            rintro e x55 ⟨v, rfl, dd, nY⟩
            obtain ⟨aa55, bb55, cc55, dd55, rfl⟩ := dd.form
            have HF55 := Lib.hid dd
            have HA55 := Lib.hid (keepN nY HA54.out)
            have HB55 := Lib.hid (keepN nY HB54.out)
            have HW55 := Lib.hid (HW54.out.trans nY)
            refine hK.out _ _ (HSA.out _ HW55.out) (fun hHeld => ?_)
            clear hK K dd nY hHeld
            try simp only [Act.put, List.setIfInBounds_toArray, List.set_cons_zero, List.set_cons_succ]
            refine wpAnyH_ready (rs := [5]) (by kernel_rfl) (by simp) ?_
            refine consH5 (fun K hK => ?_) ?_
            · go_simp
              go_at_call 41
              refine (with_f (HFA.out.near HW55.out) (n : Int) false).mono ?_
              rintro e x56 ⟨v, rfl, dd, nY⟩
              obtain ⟨aa56, bb56, cc56, dd56, rfl⟩ := dd.form
              have HG56 := Lib.hid dd
              have HF56 := Lib.hid (HF55.out.near nY)
              have HA56 := Lib.hid (keepN nY HA55.out)
              have HB56 := Lib.hid (keepN nY HB55.out)
              have HW56 := Lib.hid (HW55.out.trans nY)
              refine hK.out _ _ (HSA.out _ HW56.out) (fun hHeld => ?_)
              clear hK K dd nY hHeld
              try simp only [Act.put, List.setIfInBounds_toArray, List.set_cons_zero, List.set_cons_succ]
              have zz0 := cell1 (o := 0) HA56.out rfl
              have zz1 := cell1 (o := 1) HA56.out rfl
              have zzf := free1 HA56.out
              refine wpAnyH_ready (rs := [8]) (by kernel_rfl) (by simp) ?_
              refine consH8 (fun K hK => ?_) ?_
              · go_simp
                obtain ⟨x57, hy⟩ : ∃ y, y = (x56.setCell ⟨p54, 0, none⟩ (.slice aa55 bb55 cc55)).setCell ⟨p54, 1, none⟩ (.int .i64 dd55) := ⟨_, rfl⟩
                have HA57 := Lib.hid (show x57.heap[p54]? = some (.cells #[(.slice aa55 bb55 cc55), (.int .i64 dd55)] 31 (0, 0)) by rw [hy]; exact setCell2_eq HA56.out _ _)
                have HB57 := Lib.hid (show x57.heap[p44]? = _ from (by rw [hy]; exact setCell2_ne (HNE.out) _ _ : x57.heap[p44]? = x56.heap[p44]?).trans HB56.out)
                have HF57 := Lib.hid (show IsF x57 _ _ by rw [hy]; exact HF56.out.keptOf (kept_set2 (S := fun k => k = p54) (Kept.refl _ _) rfl _ _) HA56.out)
                have HG57 := Lib.hid (show IsF x57 _ _ by rw [hy]; exact HG56.out.keptOf (kept_set2 (S := fun k => k = p54) (Kept.refl _ _) rfl _ _) HA56.out)
                have HW57 := Lib.hid (show Near W x57 by rw [hy]; exact (HW56.out.set HP54.out _).set HP54.out _)
                rw [← hy]
                refine hK.out _ _ (HSA.out _ HW57.out) (fun hHeld => ?_)
                clear hK K hy hHeld zz0 zz1 zzf
                try simp only [Act.put, List.setIfInBounds_toArray, List.set_cons_zero, List.set_cons_succ]
                have zz0 := cell1 (o := 0) HB57.out rfl
                have zz1 := cell1 (o := 1) HB57.out rfl
                have zzf := free1 HB57.out
                refine wpAnyH_ready (rs := [9]) (by kernel_rfl) (by simp) ?_
                refine consH9 (fun K hK => ?_) ?_
                · go_simp
                  obtain ⟨x58, hy⟩ : ∃ y, y = (x57.setCell ⟨p44, 0, none⟩ (.slice aa56 bb56 cc56)).setCell ⟨p44, 1, none⟩ (.int .i64 dd56) := ⟨_, rfl⟩
                  have HB58 := Lib.hid (show x58.heap[p44]? = some (.cells #[(.slice aa56 bb56 cc56), (.int .i64 dd56)] 31 (0, 0)) by rw [hy]; exact setCell2_eq HB57.out _ _)
                  have HA58 := Lib.hid (show x58.heap[p54]? = _ from (by rw [hy]; exact setCell2_ne (HNE.out.symm) _ _ : x58.heap[p54]? = x57.heap[p54]?).trans HA57.out)
                  have HF58 := Lib.hid (show IsF x58 _ _ by rw [hy]; exact HF57.out.keptOf (kept_set2 (S := fun k => k = p44) (Kept.refl _ _) rfl _ _) HB57.out)
                  have HG58 := Lib.hid (show IsF x58 _ _ by rw [hy]; exact HG57.out.keptOf (kept_set2 (S := fun k => k = p44) (Kept.refl _ _) rfl _ _) HB57.out)
                  have HW58 := Lib.hid (show Near W x58 by rw [hy]; exact (HW57.out.set HP44.out _).set HP44.out _)
                  rw [← hy]
                  refine hK.out _ _ (HSA.out _ HW58.out) (fun hHeld => ?_)
                  clear hK K hy hHeld zz0 zz1 zzf
                  try simp only [Act.put, List.setIfInBounds_toArray, List.set_cons_zero, List.set_cons_succ]
                  refine wpAnyH_done (by kernel_rfl) ?_ _
                  refine NoPanic.normal ?_
                  go_wp2_with fail
                  go_meet
                  exact ⟨_, _, _, _, _, _, _, _, _, _, rfl, rfl, HP54.out, HP44.out, HA58.out, HB58.out, HF58.out, HG58.out, HW58.out⟩
                exact AllReadyH.nil
              exact AllReadyH.nil
            exact AllReadyH.nil
          exact AllReadyH.nil
        exact AllReadyH.nil
      exact AllReadyH.nil
    case rest =>
      rename World => Wb
      obtain ⟨ph, pl, h1, h2, h3', h4, l1, l2, l3, l4, rfl, rfl, -, -, hH, hL, iH, iL, hN⟩ := hcut
      have HH := Lib.hid iH
      have HL := Lib.hid iL
      have HFA1 := Lib.hid (HFA.out.near hN)
      have HFB1 := Lib.hid (HFB.out.near hN)
      have HFV1 := Lib.hid (HFV.out.near hN)
      have HNW1 := Lib.hid (HNW.out.trans hN)
      have HBA1 := Lib.hid (keepN hN HBA.out)
      have HBB1 := Lib.hid (keepN hN HBB.out)
      have HBV1 := Lib.hid (keepN hN HBV.out)
      have HBH := Lib.hid hH
      have HBL := Lib.hid hL
      clear hH hL iH iL hN HFA HFB HFV HNW HBA HBB HBV HSA
      have hshl := shl_form hn24
      have HSH := Lib.hid hshl
      clear hshl
      have HMN := Lib.hid (show min (IntKind.u64.wrap (n : Int)).toNat 32 = n by rw [IntWalk.u64_in _ (by omega)]; omega)
      have h2n : 2 ^ n < 4294967296 := by have := Nat.pow_lt_pow_right (a := 2) (by omega) hn24; omega
      have H2N := Lib.hid h2n
      clear h2n
      go_upto_region 7 with fail
      have HSKa := Lib.hid (show ∀ w', Near Wb w' → (fun w' => w'.cell? ⟨w3.heap.size, 0, none⟩ = some (.slice a1 a2 a3) ∧ w'.cell? ⟨w3.heap.size, 1, none⟩ = some (.int .i64 a4) ∧ w'.cell? ⟨w5.heap.size, 0, none⟩ = some (.slice r1 r2 r3) ∧ w'.cell? ⟨w5.heap.size, 1, none⟩ = some (.int .i64 r4) ∧ w'.cell? ⟨ph, 0, none⟩ = some (.slice h1 h2 h3') ∧ w'.cell? ⟨ph, 1, none⟩ = some (.int .i64 h4) ∧ w'.cell? ⟨pl, 0, none⟩ = some (.slice l1 l2 l3) ∧ w'.cell? ⟨pl, 1, none⟩ = some (.int .i64 l4)) w' from fun w' h => ⟨h.cell (cell1 (o := 0) HBA1.out rfl), h.cell (cell1 (o := 1) HBA1.out rfl), h.cell (cell1 (o := 0) HBV1.out rfl), h.cell (cell1 (o := 1) HBV1.out rfl), h.cell (cell1 (o := 0) HBH.out rfl), h.cell (cell1 (o := 1) HBH.out rfl), h.cell (cell1 (o := 0) HBL.out rfl), h.cell (cell1 (o := 1) HBL.out rfl)⟩)
      refine wp_region_noPanic ?_
      refine startM (S := (fun w' => w'.cell? ⟨w3.heap.size, 0, none⟩ = some (.slice a1 a2 a3) ∧ w'.cell? ⟨w3.heap.size, 1, none⟩ = some (.int .i64 a4) ∧ w'.cell? ⟨w5.heap.size, 0, none⟩ = some (.slice r1 r2 r3) ∧ w'.cell? ⟨w5.heap.size, 1, none⟩ = some (.int .i64 r4) ∧ w'.cell? ⟨ph, 0, none⟩ = some (.slice h1 h2 h3') ∧ w'.cell? ⟨ph, 1, none⟩ = some (.int .i64 h4) ∧ w'.cell? ⟨pl, 0, none⟩ = some (.slice l1 l2 l3) ∧ w'.cell? ⟨pl, 1, none⟩ = some (.int .i64 l4))) (by kernel_rfl) (by kernel_rfl) (HSKa.out _ (Near.refl _).drew) 44 rfl (fun hHeld => ?_)
      have hnd := (Near.refl Wb).drew
      generalize Wb.drew = xa0 at hnd hHeld ⊢
      have HNa0 := Lib.hid hnd
      clear hnd
      refine takeM 0 1 (v := Value.int .i64 (0)) (by kernel_rfl) rfl (by kernel_rfl) (fun _ _ _ h => h) (by rfl) (fun w' hSw => ?_) hHeld ?_
      · go_simp
      try simp only [Act.put, List.setIfInBounds_toArray, List.set_cons_zero, List.set_cons_succ]
      refine takeM 1 3 (v := Value.bool false) (by kernel_rfl) rfl (by kernel_rfl) (fun _ _ _ h => h) (by rfl) (fun w' hSw => ?_) hHeld ?_
      · go_simp
      try simp only [Act.put, List.setIfInBounds_toArray, List.set_cons_zero, List.set_cons_succ]
      refine takeM 2 7 (v := Value.bool false) (by kernel_rfl) rfl (by kernel_rfl) (fun _ _ _ h => h) (by rfl) (fun w' hSw => ?_) hHeld ?_
      · go_simp
      try simp only [Act.put, List.setIfInBounds_toArray, List.set_cons_zero, List.set_cons_succ]
      refine takeM 3 15 (v := Value.agg #[.slice r1 r2 r3, .int .i64 r4]) (by kernel_rfl) rfl (by kernel_rfl) (fun _ _ _ h => h) (by rfl) (fun w' hSw => ?_) hHeld ?_
      · go_simp
      try simp only [Act.put, List.setIfInBounds_toArray, List.set_cons_zero, List.set_cons_succ]
      refine takeM 4 31 (v := Value.agg #[.slice h1 h2 h3', .int .i64 h4]) (by kernel_rfl) rfl (by kernel_rfl) (fun _ _ _ h => h) (by rfl) (fun w' hSw => ?_) hHeld ?_
      · go_simp
      try simp only [Act.put, List.setIfInBounds_toArray, List.set_cons_zero, List.set_cons_succ]
      refine takeM 5 63 (v := Value.agg #[.slice l1 l2 l3, .int .i64 l4]) (by kernel_rfl) rfl (by kernel_rfl) (fun _ _ _ h => h) (by rfl) (fun w' hSw => ?_) hHeld ?_
      · go_simp
      try simp only [Act.put, List.setIfInBounds_toArray, List.set_cons_zero, List.set_cons_succ]
      refine takeM 7 191 (v := Value.agg #[.slice a1 a2 a3, .int .i64 a4]) (by kernel_rfl) rfl (by kernel_rfl) (fun _ _ _ h => h) (by rfl) (fun w' hSw => ?_) hHeld ?_
      · go_simp
      try simp only [Act.put, List.setIfInBounds_toArray, List.set_cons_zero, List.set_cons_succ]
      refine oneM 6 255 (by kernel_rfl) rfl (by kernel_rfl) (by rfl) (fun K hK => ?_)
      go_simp
      go_at_call 43
      refine (ite_f (HFV1.out.near HNa0.out) (HH.out.near HNa0.out) (HL.out.near HNa0.out)).mono ?_
      rintro e xa1 ⟨va1, rfl, d, n'⟩
      obtain ⟨pa1, qa1, ra1, sa1, rfl⟩ := d.form
      have HDa1 := Lib.hid d
      clear d
      have HSa1 := Lib.hid n'
      have HNa1 := Lib.hid (HNa0.out.trans HSa1.out)
      clear n'
      refine hK.out _ _ (HSKa.out _ HNa1.out) (fun hHeld => ?_)
      clear hK K
      try simp only [Act.put, List.setIfInBounds_toArray, List.set_cons_zero, List.set_cons_succ]
      refine oneM 8 511 (by kernel_rfl) rfl (by kernel_rfl) (by rfl) (fun K hK => ?_)
      go_simp
      go_at_call 42
      refine (equal_f HDa1.out (HFA1.out.near HNa1.out) (fun c => ite_with fa n c)).mono ?_
      rintro e xa2 ⟨rfl, n'⟩
      have HSa2 := Lib.hid n'
      have HNa2 := Lib.hid (HNa1.out.trans HSa2.out)
      clear n'
      refine hK.out _ _ (HSKa.out _ HNa2.out) (fun hHeld => ?_)
      clear hK K
      try simp only [Act.put, List.setIfInBounds_toArray, List.set_cons_zero, List.set_cons_succ]
      refine takeM 9 1023 (v := Value.bool false) (by kernel_rfl) rfl (by kernel_rfl) (fun _ _ _ h => h) (by rfl) (fun w' hSw => ?_) hHeld ?_
      · go_simp
      try simp only [Act.put, List.setIfInBounds_toArray, List.set_cons_zero, List.set_cons_succ]
      refine takeM 10 2047 (v := Value.bool false) (by kernel_rfl) rfl (by kernel_rfl) (fun _ _ _ h => h) (by rfl) (fun w' hSw => ?_) hHeld ?_
      · go_simp
      try simp only [Act.put, List.setIfInBounds_toArray, List.set_cons_zero, List.set_cons_succ]
      refine takeM 11 4095 (v := Value.bool false) (by kernel_rfl) rfl (by kernel_rfl) (fun _ _ _ h => h) (by rfl) (fun w' hSw => ?_) hHeld ?_
      · go_simp
      try simp only [Act.put, List.setIfInBounds_toArray, List.set_cons_zero, List.set_cons_succ]
      refine takeM 12 8191 (v := Value.agg #[.slice h1 h2 h3', .int .i64 h4]) (by kernel_rfl) rfl (by kernel_rfl) (fun _ _ _ h => h) (by rfl) (fun w' hSw => ?_) hHeld ?_
      · go_simp
      try simp only [Act.put, List.setIfInBounds_toArray, List.set_cons_zero, List.set_cons_succ]
      refine takeM 14 24575 (v := Value.int .i64 (n : Int)) (by kernel_rfl) rfl (by kernel_rfl) (fun _ _ _ h => h) (by rfl) (fun w' hSw => ?_) hHeld ?_
      · go_simp
      try simp only [Act.put, List.setIfInBounds_toArray, List.set_cons_zero, List.set_cons_succ]
      refine takeM 15 57343 (v := Value.int .u64 (IntKind.u64.wrap (n : Int))) (by kernel_rfl) rfl (by kernel_rfl) (fun _ _ _ h => h) (by rfl) (fun w' hSw => ?_) hHeld ?_
      · go_simp
      try simp only [Act.put, List.setIfInBounds_toArray, List.set_cons_zero, List.set_cons_succ]
      refine oneM 13 65535 (by kernel_rfl) rfl (by kernel_rfl) (by rfl) (fun K hK => ?_)
      go_simp
      go_at_call 44
      obtain ⟨sH, hs1, hs2, hcs⟩ := support_f (HH.out.near HNa2.out)
      refine (hcs).mono ?_
      rintro e xa3 ⟨rfl, n'⟩
      have HSa3 := Lib.hid n'
      have HNa3 := Lib.hid (HNa2.out.trans HSa3.out)
      clear n'
      have hsb : (((sH : Int) / 2 ^ n).tmod 2 == 1) = false := (sel_bit sH n).trans ((hs2 n).trans (with_dep fa n true))
      clear hs2 hcs
      refine hK.out _ _ (HSKa.out _ HNa3.out) (fun hHeld => ?_)
      clear hK K
      try simp only [Act.put, List.setIfInBounds_toArray, List.set_cons_zero, List.set_cons_succ]
      refine takeM 16 131071 (v := Value.int .u32 ((sH : Int) / 2 ^ n)) (by kernel_rfl) rfl (by kernel_rfl) (fun _ _ _ h => h) (by rfl) (fun w' hSw => ?_) hHeld ?_
      · go_simp; rw [HMN.out]
      try simp only [Act.put, List.setIfInBounds_toArray, List.set_cons_zero, List.set_cons_succ]
      refine takeM 17 262143 (v := Value.int .u32 (((sH : Int) / 2 ^ n).tmod 2)) (by kernel_rfl) rfl (by kernel_rfl) (fun _ _ _ h => h) (by rfl) (fun w' hSw => ?_) hHeld ?_
      · go_simp
      try simp only [Act.put, List.setIfInBounds_toArray, List.set_cons_zero, List.set_cons_succ]
      refine takeM 18 524287 (v := Value.bool false) (by kernel_rfl) rfl (by kernel_rfl) (fun _ _ _ h => h) (by rfl) (fun w' hSw => ?_) hHeld ?_
      · go_simp
      try simp only [Act.put, List.setIfInBounds_toArray, List.set_cons_zero, List.set_cons_succ]
      refine takeM 19 1048575 (v := Value.bool false) (by kernel_rfl) rfl (by kernel_rfl) (fun _ _ _ h => h) (by rfl) (fun w' hSw => ?_) hHeld ?_
      · go_simp
      try simp only [Act.put, List.setIfInBounds_toArray, List.set_cons_zero, List.set_cons_succ]
      refine takeM 20 2097151 (v := Value.bool false) (by kernel_rfl) rfl (by kernel_rfl) (fun _ _ _ h => h) (by rfl) (fun w' hSw => ?_) hHeld ?_
      · go_simp
      try simp only [Act.put, List.setIfInBounds_toArray, List.set_cons_zero, List.set_cons_succ]
      refine takeM 21 4194303 (v := Value.agg #[.slice a1 a2 a3, .int .i64 a4]) (by kernel_rfl) rfl (by kernel_rfl) (fun _ _ _ h => h) (by rfl) (fun w' hSw => ?_) hHeld ?_
      · go_simp
      try simp only [Act.put, List.setIfInBounds_toArray, List.set_cons_zero, List.set_cons_succ]
      refine takeM 22 8388607 (v := Value.int .i64 (n : Int)) (by kernel_rfl) rfl (by kernel_rfl) (fun _ _ _ h => h) (by rfl) (fun w' hSw => ?_) hHeld ?_
      · go_simp
      try simp only [Act.put, List.setIfInBounds_toArray, List.set_cons_zero, List.set_cons_succ]
      refine takeM 23 16777215 (v := Value.int .u64 (IntKind.u64.wrap (n : Int))) (by kernel_rfl) rfl (by kernel_rfl) (fun _ _ _ h => h) (by rfl) (fun w' hSw => ?_) hHeld ?_
      · go_simp
      try simp only [Act.put, List.setIfInBounds_toArray, List.set_cons_zero, List.set_cons_succ]
      refine takeM 24 33554431 (v := Value.int .u32 (IntKind.u32.wrap (2 ^ min (IntKind.u64.wrap (n : Int)).toNat 32))) (by kernel_rfl) rfl (by kernel_rfl) (fun _ _ _ h => h) (by rfl) (fun w' hSw => ?_) hHeld ?_
      · go_simp
      try simp only [Act.put, List.setIfInBounds_toArray, List.set_cons_zero, List.set_cons_succ]
      refine takeM 26 100663295 (v := Value.agg #[.slice h1 h2 h3', .int .i64 h4]) (by kernel_rfl) rfl (by kernel_rfl) (fun _ _ _ h => h) (by rfl) (fun w' hSw => ?_) hHeld ?_
      · go_simp
      try simp only [Act.put, List.setIfInBounds_toArray, List.set_cons_zero, List.set_cons_succ]
      refine takeM 27 234881023 (v := Value.agg #[.slice l1 l2 l3, .int .i64 l4]) (by kernel_rfl) rfl (by kernel_rfl) (fun _ _ _ h => h) (by rfl) (fun w' hSw => ?_) hHeld ?_
      · go_simp
      try simp only [Act.put, List.setIfInBounds_toArray, List.set_cons_zero, List.set_cons_succ]
      refine oneM 25 268435455 (by kernel_rfl) rfl (by kernel_rfl) (by rfl) (fun K hK => ?_)
      go_simp
      go_at_call 45
      rw [HSH.out]
      refine (exists_f (HFA1.out.near HNa3.out) H2N.out).mono ?_
      rintro e xa4 ⟨va4, rfl, d, n'⟩
      obtain ⟨pa4, qa4, ra4, sa4, rfl⟩ := d.form
      have HDa4 := Lib.hid d
      clear d
      have HSa4 := Lib.hid n'
      have HNa4 := Lib.hid (HNa3.out.trans HSa4.out)
      clear n'
      refine hK.out _ _ (HSKa.out _ HNa4.out) (fun hHeld => ?_)
      clear hK K
      try simp only [Act.put, List.setIfInBounds_toArray, List.set_cons_zero, List.set_cons_succ]
      refine oneM 28 536870911 (by kernel_rfl) rfl (by kernel_rfl) (by rfl) (fun K hK => ?_)
      go_simp
      go_at_call 33
      refine (or_f (HH.out.near HNa4.out) (HL.out.near HNa4.out)).mono ?_
      rintro e xa5 ⟨va5, rfl, d, n'⟩
      obtain ⟨pa5, qa5, ra5, sa5, rfl⟩ := d.form
      have HDa5 := Lib.hid d
      clear d
      have HSa5 := Lib.hid n'
      have HNa5 := Lib.hid (HNa4.out.trans HSa5.out)
      clear n'
      refine hK.out _ _ (HSKa.out _ HNa5.out) (fun hHeld => ?_)
      clear hK K
      try simp only [Act.put, List.setIfInBounds_toArray, List.set_cons_zero, List.set_cons_succ]
      refine oneM 29 1073741823 (by kernel_rfl) rfl (by kernel_rfl) (by rfl) (fun K hK => ?_)
      go_simp
      go_at_call 42
      refine (equal_f (HDa4.out.near HSa5.out) HDa5.out (fun c => by rw [feats_one hn24]; exact Bool.or_comm _ _)).mono ?_
      rintro e xa6 ⟨rfl, n'⟩
      have HSa6 := Lib.hid n'
      have HNa6 := Lib.hid (HNa5.out.trans HSa6.out)
      clear n'
      refine hK.out _ _ (HSKa.out _ HNa6.out) (fun hHeld => ?_)
      clear hK K
      try simp only [Act.put, List.setIfInBounds_toArray, List.set_cons_zero, List.set_cons_succ]
      refine takeM 30 2147483647 (v := Value.bool false) (by kernel_rfl) rfl (by kernel_rfl) (fun _ _ _ h => h) (by rfl) (fun w' hSw => ?_) hHeld ?_
      · go_simp
      try simp only [Act.put, List.setIfInBounds_toArray, List.set_cons_zero, List.set_cons_succ]
      refine takeM 31 4294967295 (v := Value.bool false) (by kernel_rfl) rfl (by kernel_rfl) (fun _ _ _ h => h) (by rfl) (fun w' hSw => ?_) hHeld ?_
      · go_simp
      try simp only [Act.put, List.setIfInBounds_toArray, List.set_cons_zero, List.set_cons_succ]
      refine takeM 32 8589934591 (v := Value.bool false) (by kernel_rfl) rfl (by kernel_rfl) (fun _ _ _ h => h) (by rfl) (fun w' hSw => ?_) hHeld ?_
      · go_simp
      try simp only [Act.put, List.setIfInBounds_toArray, List.set_cons_zero, List.set_cons_succ]
      refine takeM 33 17179869183 (v := Value.agg #[.slice a1 a2 a3, .int .i64 a4]) (by kernel_rfl) rfl (by kernel_rfl) (fun _ _ _ h => h) (by rfl) (fun w' hSw => ?_) hHeld ?_
      · go_simp
      try simp only [Act.put, List.setIfInBounds_toArray, List.set_cons_zero, List.set_cons_succ]
      refine takeM 34 34359738367 (v := Value.int .i64 (n : Int)) (by kernel_rfl) rfl (by kernel_rfl) (fun _ _ _ h => h) (by rfl) (fun w' hSw => ?_) hHeld ?_
      · go_simp
      try simp only [Act.put, List.setIfInBounds_toArray, List.set_cons_zero, List.set_cons_succ]
      refine takeM 35 68719476735 (v := Value.int .u64 (IntKind.u64.wrap (n : Int))) (by kernel_rfl) rfl (by kernel_rfl) (fun _ _ _ h => h) (by rfl) (fun w' hSw => ?_) hHeld ?_
      · go_simp
      try simp only [Act.put, List.setIfInBounds_toArray, List.set_cons_zero, List.set_cons_succ]
      refine takeM 36 137438953471 (v := Value.int .u32 (IntKind.u32.wrap (2 ^ min (IntKind.u64.wrap (n : Int)).toNat 32))) (by kernel_rfl) rfl (by kernel_rfl) (fun _ _ _ h => h) (by rfl) (fun w' hSw => ?_) hHeld ?_
      · go_simp
      try simp only [Act.put, List.setIfInBounds_toArray, List.set_cons_zero, List.set_cons_succ]
      refine takeM 38 412316860415 (v := Value.agg #[.slice h1 h2 h3', .int .i64 h4]) (by kernel_rfl) rfl (by kernel_rfl) (fun _ _ _ h => h) (by rfl) (fun w' hSw => ?_) hHeld ?_
      · go_simp
      try simp only [Act.put, List.setIfInBounds_toArray, List.set_cons_zero, List.set_cons_succ]
      refine takeM 39 962072674303 (v := Value.agg #[.slice l1 l2 l3, .int .i64 l4]) (by kernel_rfl) rfl (by kernel_rfl) (fun _ _ _ h => h) (by rfl) (fun w' hSw => ?_) hHeld ?_
      · go_simp
      try simp only [Act.put, List.setIfInBounds_toArray, List.set_cons_zero, List.set_cons_succ]
      refine oneM 37 1099511627775 (by kernel_rfl) rfl (by kernel_rfl) (by rfl) (fun K hK => ?_)
      go_simp
      go_at_call 46
      rw [HSH.out]
      refine (forall_f (HFA1.out.near HNa6.out) H2N.out).mono ?_
      rintro e xa7 ⟨va7, rfl, d, n'⟩
      obtain ⟨pa7, qa7, ra7, sa7, rfl⟩ := d.form
      have HDa7 := Lib.hid d
      clear d
      have HSa7 := Lib.hid n'
      have HNa7 := Lib.hid (HNa6.out.trans HSa7.out)
      clear n'
      refine hK.out _ _ (HSKa.out _ HNa7.out) (fun hHeld => ?_)
      clear hK K
      try simp only [Act.put, List.setIfInBounds_toArray, List.set_cons_zero, List.set_cons_succ]
      refine oneM 40 2199023255551 (by kernel_rfl) rfl (by kernel_rfl) (by rfl) (fun K hK => ?_)
      go_simp
      go_at_call 34
      refine (and_f (HH.out.near HNa7.out) (HL.out.near HNa7.out)).mono ?_
      rintro e xa8 ⟨va8, rfl, d, n'⟩
      obtain ⟨pa8, qa8, ra8, sa8, rfl⟩ := d.form
      have HDa8 := Lib.hid d
      clear d
      have HSa8 := Lib.hid n'
      have HNa8 := Lib.hid (HNa7.out.trans HSa8.out)
      clear n'
      refine hK.out _ _ (HSKa.out _ HNa8.out) (fun hHeld => ?_)
      clear hK K
      try simp only [Act.put, List.setIfInBounds_toArray, List.set_cons_zero, List.set_cons_succ]
      refine oneM 41 4398046511103 (by kernel_rfl) rfl (by kernel_rfl) (by rfl) (fun K hK => ?_)
      go_simp
      go_at_call 42
      refine (equal_f (HDa7.out.near HSa8.out) HDa8.out (fun c => by rw [feats_one hn24]; exact Bool.and_comm _ _)).mono ?_
      rintro e xa9 ⟨rfl, n'⟩
      have HSa9 := Lib.hid n'
      have HNa9 := Lib.hid (HNa8.out.trans HSa9.out)
      clear n'
      refine hK.out _ _ (HSKa.out _ HNa9.out) (fun hHeld => ?_)
      clear hK K
      try simp only [Act.put, List.setIfInBounds_toArray, List.set_cons_zero, List.set_cons_succ]
      refine takeM 42 8796093022207 (v := Value.bool false) (by kernel_rfl) rfl (by kernel_rfl) (fun _ _ _ h => h) (by rfl) (fun w' hSw => ?_) hHeld ?_
      · go_simp
      try simp only [Act.put, List.setIfInBounds_toArray, List.set_cons_zero, List.set_cons_succ]
      refine takeM 43 17592186044415 (v := Value.bool false) (by kernel_rfl) rfl (by kernel_rfl) (fun _ _ _ h => h) (by rfl) (fun w' hSw => ?_) hHeld ?_
      · go_simp
      try simp only [Act.put, List.setIfInBounds_toArray, List.set_cons_zero, List.set_cons_succ]
      refine doneM (by kernel_rfl) ?_
      refine NoPanic.normal ?_
      go_upto_region 9 with fail
      have HFA2 := Lib.hid (HFA1.out.near HNa9.out)
      have HFB2 := Lib.hid (HFB1.out.near HNa9.out)
      have HNW2 := Lib.hid (HNW1.out.trans HNa9.out)
      have HBA2 := Lib.hid (keepN HNa9.out HBA1.out)
      have HBB2 := Lib.hid (keepN HNa9.out HBB1.out)
      have HSA2 := Lib.hid (show ∀ w', Near xa9 w' → (fun w' => w'.cell? ⟨w3.heap.size, 0, none⟩ = some (.slice a1 a2 a3) ∧ w'.cell? ⟨w3.heap.size, 1, none⟩ = some (.int .i64 a4)) w' from fun w' h => ⟨h.cell (cell1 (o := 0) HBA2.out rfl), h.cell (cell1 (o := 1) HBA2.out rfl)⟩)
      go_cut [16, 17] (fun s t wx => TwoSets xa9 (exF (feats m) fa) (faF (feats m) fa) s t wx)
      case first =>
        refine wp_region_noPanic ?_
        refine wp_region_held_drew (S := (fun w' => w'.cell? ⟨w3.heap.size, 0, none⟩ = some (.slice a1 a2 a3) ∧ w'.cell? ⟨w3.heap.size, 1, none⟩ = some (.int .i64 a4))) (by kernel_rfl) (HSA2.out _ (Near.refl _).drew) (fun hHeld => ?_)
        have hnd := (Near.refl xa9).drew
        generalize xa9.drew = x0 at hnd hHeld ⊢
        have HW0 := Lib.hid hnd
        clear hnd
        refine takeH0 (v := Value.agg #[.slice a1 a2 a3, .int .i64 a4]) (by kernel_rfl) (by kernel_rfl) (by kernel_rfl) (fun _ _ _ h => h) (Or.inl ⟨by rfl, fun w' hSw => ?_⟩) hHeld ?_
        · go_simp
        simp only [Act.put, List.setIfInBounds_toArray, List.set_cons_zero, List.set_cons_succ]
        refine takeH1 (v := Value.int .u32 (m : Int)) (by kernel_rfl) (by kernel_rfl) (by kernel_rfl) (fun _ _ _ h => h) (Or.inl ⟨by rfl, fun w' hSw => ?_⟩) hHeld ?_
        · go_simp
        simp only [Act.put, List.setIfInBounds_toArray, List.set_cons_zero, List.set_cons_succ]
        refine takeH3 (v := Value.agg #[.slice a1 a2 a3, .int .i64 a4]) (by kernel_rfl) (by kernel_rfl) (by kernel_rfl) (fun _ _ _ h => h) (Or.inl ⟨by rfl, fun w' hSw => ?_⟩) hHeld ?_
        · go_simp
        simp only [Act.put, List.setIfInBounds_toArray, List.set_cons_zero, List.set_cons_succ]
        refine takeH4 (v := Value.int .u32 (m : Int)) (by kernel_rfl) (by kernel_rfl) (by kernel_rfl) (fun _ _ _ h => h) (Or.inl ⟨by rfl, fun w' hSw => ?_⟩) hHeld ?_
        · go_simp
        simp only [Act.put, List.setIfInBounds_toArray, List.set_cons_zero, List.set_cons_succ]
        clear hHeld
        refine wpAnyH_ready (rs := [2, 6, 7]) (by kernel_rfl) (by simp) ?_
        refine consH2 (fun K hK => ?_) ?_
        · go_simp
          go_at_call 45
          refine (exists_f (HFA2.out.near HW0.out) hm).mono ?_
          rintro e x1 ⟨v, rfl, dd, nY⟩
          obtain ⟨aa1, bb1, cc1, dd1, rfl⟩ := dd.form
          have HF1 := Lib.hid dd
          have HW1 := Lib.hid (HW0.out.trans nY)
          refine hK.out _ _ (HSA2.out _ HW1.out) (fun hHeld => ?_)
          clear hK K dd nY hHeld
          try simp only [Act.put, List.setIfInBounds_toArray, List.set_cons_zero, List.set_cons_succ]
          refine wpAnyH_ready (rs := [5, 6, 7]) (by kernel_rfl) (by simp) ?_
          refine consH5 (fun K hK => ?_) ?_
          · go_simp
            go_at_call 46
            refine (forall_f (HFA2.out.near HW1.out) hm).mono ?_
            rintro e x2 ⟨v, rfl, dd, nY⟩
            obtain ⟨aa2, bb2, cc2, dd2, rfl⟩ := dd.form
            have HG2 := Lib.hid dd
            have HF2 := Lib.hid (HF1.out.near nY)
            have HW2 := Lib.hid (HW1.out.trans nY)
            refine hK.out _ _ (HSA2.out _ HW2.out) (fun hHeld => ?_)
            clear hK K dd nY hHeld
            try simp only [Act.put, List.setIfInBounds_toArray, List.set_cons_zero, List.set_cons_succ]
            refine wpAnyH_ready (rs := [6, 7]) (by kernel_rfl) (by simp) ?_
            refine consH6 (fun K hK => ?_) ?_
            · go_simp
              obtain ⟨x3, hy⟩ : ∃ y, y = x2.alloc (.cells #[.slice none 0 0, .int .i64 0] 31) := ⟨_, rfl⟩
              have nY : Near x2 x3 := by rw [hy]; exact (Near.refl x2).alloc _
              have HA3 := Lib.hid (show x3.heap[x2.heap.size]? = some (.cells #[.slice none 0 0, .int .i64 0] 31 (0, 0)) by rw [hy]; exact heap_new_at rfl)
              rw [← hy]
              obtain ⟨p3, hp⟩ : ∃ p, p = x2.heap.size := ⟨_, rfl⟩
              rw [← hp] at HA3 ⊢
              have HP3 := Lib.hid (show xa9.heap.size ≤ p3 by rw [hp]; exact HW2.out.size)
              have HF3 := Lib.hid (HF2.out.near nY)
              have HG3 := Lib.hid (HG2.out.near nY)
              have HW3 := Lib.hid (HW2.out.trans nY)
              refine hK.out _ _ (HSA2.out _ HW3.out) (fun hHeld => ?_)
              clear hK K hy nY hp hHeld
              try simp only [Act.put, List.setIfInBounds_toArray, List.set_cons_zero, List.set_cons_succ]
              refine wpAnyH_ready (rs := [7]) (by kernel_rfl) (by simp) ?_
              refine consH7 (fun K hK => ?_) ?_
              · go_simp
                obtain ⟨x4, hy⟩ : ∃ y, y = x3.alloc (.cells #[.slice none 0 0, .int .i64 0] 31) := ⟨_, rfl⟩
                have nY : Near x3 x4 := by rw [hy]; exact (Near.refl x3).alloc _
                have HB4 := Lib.hid (show x4.heap[x3.heap.size]? = some (.cells #[.slice none 0 0, .int .i64 0] 31 (0, 0)) by rw [hy]; exact heap_new_at rfl)
                rw [← hy]
                obtain ⟨p4, hp⟩ : ∃ p, p = x3.heap.size := ⟨_, rfl⟩
                rw [← hp] at HB4 ⊢
                have HP4 := Lib.hid (show xa9.heap.size ≤ p4 by rw [hp]; exact HW3.out.size)
                have HNE := Lib.hid (show p3 ≠ p4 by rw [hp]; exact Nat.ne_of_lt (Array.getElem?_eq_some_iff.1 HA3.out).1)
                have HF4 := Lib.hid (HF3.out.near nY)
                have HG4 := Lib.hid (HG3.out.near nY)
                have HA4 := Lib.hid (keepN nY HA3.out)
                have HW4 := Lib.hid (HW3.out.trans nY)
                refine hK.out _ _ (HSA2.out _ HW4.out) (fun hHeld => ?_)
                clear hK K hy nY hp hHeld
                try simp only [Act.put, List.setIfInBounds_toArray, List.set_cons_zero, List.set_cons_succ]
                have zz0 := cell1 (o := 0) HA4.out rfl
                have zz1 := cell1 (o := 1) HA4.out rfl
                have zzf := free1 HA4.out
                refine wpAnyH_ready (rs := [8]) (by kernel_rfl) (by simp) ?_
                refine consH8 (fun K hK => ?_) ?_
                · go_simp
                  obtain ⟨x5, hy⟩ : ∃ y, y = (x4.setCell ⟨p3, 0, none⟩ (.slice aa1 bb1 cc1)).setCell ⟨p3, 1, none⟩ (.int .i64 dd1) := ⟨_, rfl⟩
                  have HA5 := Lib.hid (show x5.heap[p3]? = some (.cells #[(.slice aa1 bb1 cc1), (.int .i64 dd1)] 31 (0, 0)) by rw [hy]; exact setCell2_eq HA4.out _ _)
                  have HB5 := Lib.hid (show x5.heap[p4]? = _ from (by rw [hy]; exact setCell2_ne (HNE.out.symm) _ _ : x5.heap[p4]? = x4.heap[p4]?).trans HB4.out)
                  have HF5 := Lib.hid (show IsF x5 _ _ by rw [hy]; exact HF4.out.keptOf (kept_set2 (S := fun k => k = p3) (Kept.refl _ _) rfl _ _) HA4.out)
                  have HG5 := Lib.hid (show IsF x5 _ _ by rw [hy]; exact HG4.out.keptOf (kept_set2 (S := fun k => k = p3) (Kept.refl _ _) rfl _ _) HA4.out)
                  have HW5 := Lib.hid (show Near xa9 x5 by rw [hy]; exact (HW4.out.set HP3.out _).set HP3.out _)
                  rw [← hy]
                  refine hK.out _ _ (HSA2.out _ HW5.out) (fun hHeld => ?_)
                  clear hK K hy hHeld zz0 zz1 zzf
                  try simp only [Act.put, List.setIfInBounds_toArray, List.set_cons_zero, List.set_cons_succ]
                  have zz0 := cell1 (o := 0) HB5.out rfl
                  have zz1 := cell1 (o := 1) HB5.out rfl
                  have zzf := free1 HB5.out
                  refine wpAnyH_ready (rs := [9]) (by kernel_rfl) (by simp) ?_
                  refine consH9 (fun K hK => ?_) ?_
                  · go_simp
                    obtain ⟨x6, hy⟩ : ∃ y, y = (x5.setCell ⟨p4, 0, none⟩ (.slice aa2 bb2 cc2)).setCell ⟨p4, 1, none⟩ (.int .i64 dd2) := ⟨_, rfl⟩
                    have HB6 := Lib.hid (show x6.heap[p4]? = some (.cells #[(.slice aa2 bb2 cc2), (.int .i64 dd2)] 31 (0, 0)) by rw [hy]; exact setCell2_eq HB5.out _ _)
                    have HA6 := Lib.hid (show x6.heap[p3]? = _ from (by rw [hy]; exact setCell2_ne (HNE.out) _ _ : x6.heap[p3]? = x5.heap[p3]?).trans HA5.out)
                    have HF6 := Lib.hid (show IsF x6 _ _ by rw [hy]; exact HF5.out.keptOf (kept_set2 (S := fun k => k = p4) (Kept.refl _ _) rfl _ _) HB5.out)
                    have HG6 := Lib.hid (show IsF x6 _ _ by rw [hy]; exact HG5.out.keptOf (kept_set2 (S := fun k => k = p4) (Kept.refl _ _) rfl _ _) HB5.out)
                    have HW6 := Lib.hid (show Near xa9 x6 by rw [hy]; exact (HW5.out.set HP4.out _).set HP4.out _)
                    rw [← hy]
                    refine hK.out _ _ (HSA2.out _ HW6.out) (fun hHeld => ?_)
                    clear hK K hy hHeld zz0 zz1 zzf
                    try simp only [Act.put, List.setIfInBounds_toArray, List.set_cons_zero, List.set_cons_succ]
                    refine wpAnyH_done (by kernel_rfl) ?_ _
                    refine NoPanic.normal ?_
                    go_wp2_with fail
                    go_meet
                    exact ⟨_, _, _, _, _, _, _, _, _, _, rfl, rfl, HP3.out, HP4.out, HA6.out, HB6.out, HF6.out, HG6.out, HW6.out⟩
                  exact AllReadyH.nil
                exact AllReadyH.nil
              exact AllReadyH.nil
            refine consH7 (fun K hK => ?_) ?_
            · go_simp
              obtain ⟨x7, hy⟩ : ∃ y, y = x2.alloc (.cells #[.slice none 0 0, .int .i64 0] 31) := ⟨_, rfl⟩
              have nY : Near x2 x7 := by rw [hy]; exact (Near.refl x2).alloc _
              have HB7 := Lib.hid (show x7.heap[x2.heap.size]? = some (.cells #[.slice none 0 0, .int .i64 0] 31 (0, 0)) by rw [hy]; exact heap_new_at rfl)
              rw [← hy]
              obtain ⟨p7, hp⟩ : ∃ p, p = x2.heap.size := ⟨_, rfl⟩
              rw [← hp] at HB7 ⊢
              have HP7 := Lib.hid (show xa9.heap.size ≤ p7 by rw [hp]; exact HW2.out.size)
              have HF7 := Lib.hid (HF2.out.near nY)
              have HG7 := Lib.hid (HG2.out.near nY)
              have HW7 := Lib.hid (HW2.out.trans nY)
              refine hK.out _ _ (HSA2.out _ HW7.out) (fun hHeld => ?_)
              clear hK K hy nY hp hHeld
              try simp only [Act.put, List.setIfInBounds_toArray, List.set_cons_zero, List.set_cons_succ]
              refine wpAnyH_ready (rs := [6]) (by kernel_rfl) (by simp) ?_
              refine consH6 (fun K hK => ?_) ?_
              · go_simp
                obtain ⟨x8, hy⟩ : ∃ y, y = x7.alloc (.cells #[.slice none 0 0, .int .i64 0] 31) := ⟨_, rfl⟩
                have nY : Near x7 x8 := by rw [hy]; exact (Near.refl x7).alloc _
                have HA8 := Lib.hid (show x8.heap[x7.heap.size]? = some (.cells #[.slice none 0 0, .int .i64 0] 31 (0, 0)) by rw [hy]; exact heap_new_at rfl)
                rw [← hy]
                obtain ⟨p8, hp⟩ : ∃ p, p = x7.heap.size := ⟨_, rfl⟩
                rw [← hp] at HA8 ⊢
                have HP8 := Lib.hid (show xa9.heap.size ≤ p8 by rw [hp]; exact HW7.out.size)
                have HNE := Lib.hid (show p7 ≠ p8 by rw [hp]; exact Nat.ne_of_lt (Array.getElem?_eq_some_iff.1 HB7.out).1)
                have HF8 := Lib.hid (HF7.out.near nY)
                have HG8 := Lib.hid (HG7.out.near nY)
                have HB8 := Lib.hid (keepN nY HB7.out)
                have HW8 := Lib.hid (HW7.out.trans nY)
                refine hK.out _ _ (HSA2.out _ HW8.out) (fun hHeld => ?_)
                clear hK K hy nY hp hHeld
                try simp only [Act.put, List.setIfInBounds_toArray, List.set_cons_zero, List.set_cons_succ]
                have zz0 := cell1 (o := 0) HA8.out rfl
                have zz1 := cell1 (o := 1) HA8.out rfl
                have zzf := free1 HA8.out
                refine wpAnyH_ready (rs := [8]) (by kernel_rfl) (by simp) ?_
                refine consH8 (fun K hK => ?_) ?_
                · go_simp
                  obtain ⟨x9, hy⟩ : ∃ y, y = (x8.setCell ⟨p8, 0, none⟩ (.slice aa1 bb1 cc1)).setCell ⟨p8, 1, none⟩ (.int .i64 dd1) := ⟨_, rfl⟩
                  have HA9 := Lib.hid (show x9.heap[p8]? = some (.cells #[(.slice aa1 bb1 cc1), (.int .i64 dd1)] 31 (0, 0)) by rw [hy]; exact setCell2_eq HA8.out _ _)
                  have HB9 := Lib.hid (show x9.heap[p7]? = _ from (by rw [hy]; exact setCell2_ne (HNE.out) _ _ : x9.heap[p7]? = x8.heap[p7]?).trans HB8.out)
                  have HF9 := Lib.hid (show IsF x9 _ _ by rw [hy]; exact HF8.out.keptOf (kept_set2 (S := fun k => k = p8) (Kept.refl _ _) rfl _ _) HA8.out)
                  have HG9 := Lib.hid (show IsF x9 _ _ by rw [hy]; exact HG8.out.keptOf (kept_set2 (S := fun k => k = p8) (Kept.refl _ _) rfl _ _) HA8.out)
                  have HW9 := Lib.hid (show Near xa9 x9 by rw [hy]; exact (HW8.out.set HP8.out _).set HP8.out _)
                  rw [← hy]
                  refine hK.out _ _ (HSA2.out _ HW9.out) (fun hHeld => ?_)
                  clear hK K hy hHeld zz0 zz1 zzf
                  try simp only [Act.put, List.setIfInBounds_toArray, List.set_cons_zero, List.set_cons_succ]
                  have zz0 := cell1 (o := 0) HB9.out rfl
                  have zz1 := cell1 (o := 1) HB9.out rfl
                  have zzf := free1 HB9.out
                  refine wpAnyH_ready (rs := [9]) (by kernel_rfl) (by simp) ?_
                  refine consH9 (fun K hK => ?_) ?_
                  · go_simp
                    obtain ⟨x10, hy⟩ : ∃ y, y = (x9.setCell ⟨p7, 0, none⟩ (.slice aa2 bb2 cc2)).setCell ⟨p7, 1, none⟩ (.int .i64 dd2) := ⟨_, rfl⟩
                    have HB10 := Lib.hid (show x10.heap[p7]? = some (.cells #[(.slice aa2 bb2 cc2), (.int .i64 dd2)] 31 (0, 0)) by rw [hy]; exact setCell2_eq HB9.out _ _)
                    have HA10 := Lib.hid (show x10.heap[p8]? = _ from (by rw [hy]; exact setCell2_ne (HNE.out.symm) _ _ : x10.heap[p8]? = x9.heap[p8]?).trans HA9.out)
                    have HF10 := Lib.hid (show IsF x10 _ _ by rw [hy]; exact HF9.out.keptOf (kept_set2 (S := fun k => k = p7) (Kept.refl _ _) rfl _ _) HB9.out)
                    have HG10 := Lib.hid (show IsF x10 _ _ by rw [hy]; exact HG9.out.keptOf (kept_set2 (S := fun k => k = p7) (Kept.refl _ _) rfl _ _) HB9.out)
                    have HW10 := Lib.hid (show Near xa9 x10 by rw [hy]; exact (HW9.out.set HP7.out _).set HP7.out _)
                    rw [← hy]
                    refine hK.out _ _ (HSA2.out _ HW10.out) (fun hHeld => ?_)
                    clear hK K hy hHeld zz0 zz1 zzf
                    try simp only [Act.put, List.setIfInBounds_toArray, List.set_cons_zero, List.set_cons_succ]
                    refine wpAnyH_done (by kernel_rfl) ?_ _
                    refine NoPanic.normal ?_
                    go_wp2_with fail
                    go_meet
                    exact ⟨_, _, _, _, _, _, _, _, _, _, rfl, rfl, HP8.out, HP7.out, HA10.out, HB10.out, HF10.out, HG10.out, HW10.out⟩
                  exact AllReadyH.nil
                exact AllReadyH.nil
              exact AllReadyH.nil
            exact AllReadyH.nil
          refine consH6 (fun K hK => ?_) ?_
          · go_simp
            obtain ⟨x11, hy⟩ : ∃ y, y = x1.alloc (.cells #[.slice none 0 0, .int .i64 0] 31) := ⟨_, rfl⟩
            have nY : Near x1 x11 := by rw [hy]; exact (Near.refl x1).alloc _
            have HA11 := Lib.hid (show x11.heap[x1.heap.size]? = some (.cells #[.slice none 0 0, .int .i64 0] 31 (0, 0)) by rw [hy]; exact heap_new_at rfl)
            rw [← hy]
            obtain ⟨p11, hp⟩ : ∃ p, p = x1.heap.size := ⟨_, rfl⟩
            rw [← hp] at HA11 ⊢
            have HP11 := Lib.hid (show xa9.heap.size ≤ p11 by rw [hp]; exact HW1.out.size)
            have HF11 := Lib.hid (HF1.out.near nY)
            have HW11 := Lib.hid (HW1.out.trans nY)
            refine hK.out _ _ (HSA2.out _ HW11.out) (fun hHeld => ?_)
            clear hK K hy nY hp hHeld
            try simp only [Act.put, List.setIfInBounds_toArray, List.set_cons_zero, List.set_cons_succ]
            refine wpAnyH_ready (rs := [5, 7]) (by kernel_rfl) (by simp) ?_
            refine consH5 (fun K hK => ?_) ?_
            · go_simp
              go_at_call 46
              refine (forall_f (HFA2.out.near HW11.out) hm).mono ?_
              rintro e x12 ⟨v, rfl, dd, nY⟩
              obtain ⟨aa12, bb12, cc12, dd12, rfl⟩ := dd.form
              have HG12 := Lib.hid dd
              have HF12 := Lib.hid (HF11.out.near nY)
              have HA12 := Lib.hid (keepN nY HA11.out)
              have HW12 := Lib.hid (HW11.out.trans nY)
              refine hK.out _ _ (HSA2.out _ HW12.out) (fun hHeld => ?_)
              clear hK K dd nY hHeld
              try simp only [Act.put, List.setIfInBounds_toArray, List.set_cons_zero, List.set_cons_succ]
              refine wpAnyH_ready (rs := [7]) (by kernel_rfl) (by simp) ?_
              refine consH7 (fun K hK => ?_) ?_
              · go_simp
                obtain ⟨x13, hy⟩ : ∃ y, y = x12.alloc (.cells #[.slice none 0 0, .int .i64 0] 31) := ⟨_, rfl⟩
                have nY : Near x12 x13 := by rw [hy]; exact (Near.refl x12).alloc _
                have HB13 := Lib.hid (show x13.heap[x12.heap.size]? = some (.cells #[.slice none 0 0, .int .i64 0] 31 (0, 0)) by rw [hy]; exact heap_new_at rfl)
                rw [← hy]
                obtain ⟨p13, hp⟩ : ∃ p, p = x12.heap.size := ⟨_, rfl⟩
                rw [← hp] at HB13 ⊢
                have HP13 := Lib.hid (show xa9.heap.size ≤ p13 by rw [hp]; exact HW12.out.size)
                have HNE := Lib.hid (show p11 ≠ p13 by rw [hp]; exact Nat.ne_of_lt (Array.getElem?_eq_some_iff.1 HA12.out).1)
                have HF13 := Lib.hid (HF12.out.near nY)
                have HG13 := Lib.hid (HG12.out.near nY)
                have HA13 := Lib.hid (keepN nY HA12.out)
                have HW13 := Lib.hid (HW12.out.trans nY)
                refine hK.out _ _ (HSA2.out _ HW13.out) (fun hHeld => ?_)
                clear hK K hy nY hp hHeld
                try simp only [Act.put, List.setIfInBounds_toArray, List.set_cons_zero, List.set_cons_succ]
                have zz0 := cell1 (o := 0) HA13.out rfl
                have zz1 := cell1 (o := 1) HA13.out rfl
                have zzf := free1 HA13.out
                refine wpAnyH_ready (rs := [8]) (by kernel_rfl) (by simp) ?_
                refine consH8 (fun K hK => ?_) ?_
                · go_simp
                  obtain ⟨x14, hy⟩ : ∃ y, y = (x13.setCell ⟨p11, 0, none⟩ (.slice aa1 bb1 cc1)).setCell ⟨p11, 1, none⟩ (.int .i64 dd1) := ⟨_, rfl⟩
                  have HA14 := Lib.hid (show x14.heap[p11]? = some (.cells #[(.slice aa1 bb1 cc1), (.int .i64 dd1)] 31 (0, 0)) by rw [hy]; exact setCell2_eq HA13.out _ _)
                  have HB14 := Lib.hid (show x14.heap[p13]? = _ from (by rw [hy]; exact setCell2_ne (HNE.out.symm) _ _ : x14.heap[p13]? = x13.heap[p13]?).trans HB13.out)
                  have HF14 := Lib.hid (show IsF x14 _ _ by rw [hy]; exact HF13.out.keptOf (kept_set2 (S := fun k => k = p11) (Kept.refl _ _) rfl _ _) HA13.out)
                  have HG14 := Lib.hid (show IsF x14 _ _ by rw [hy]; exact HG13.out.keptOf (kept_set2 (S := fun k => k = p11) (Kept.refl _ _) rfl _ _) HA13.out)
                  have HW14 := Lib.hid (show Near xa9 x14 by rw [hy]; exact (HW13.out.set HP11.out _).set HP11.out _)
                  rw [← hy]
                  refine hK.out _ _ (HSA2.out _ HW14.out) (fun hHeld => ?_)
                  clear hK K hy hHeld zz0 zz1 zzf
                  try simp only [Act.put, List.setIfInBounds_toArray, List.set_cons_zero, List.set_cons_succ]
                  have zz0 := cell1 (o := 0) HB14.out rfl
                  have zz1 := cell1 (o := 1) HB14.out rfl
                  have zzf := free1 HB14.out
                  refine wpAnyH_ready (rs := [9]) (by kernel_rfl) (by simp) ?_
                  refine consH9 (fun K hK => ?_) ?_
                  · go_simp
                    obtain ⟨x15, hy⟩ : ∃ y, y = (x14.setCell ⟨p13, 0, none⟩ (.slice aa12 bb12 cc12)).setCell ⟨p13, 1, none⟩ (.int .i64 dd12) := ⟨_, rfl⟩
                    have HB15 := Lib.hid (show x15.heap[p13]? = some (.cells #[(.slice aa12 bb12 cc12), (.int .i64 dd12)] 31 (0, 0)) by rw [hy]; exact setCell2_eq HB14.out _ _)
                    have HA15 := Lib.hid (show x15.heap[p11]? = _ from (by rw [hy]; exact setCell2_ne (HNE.out) _ _ : x15.heap[p11]? = x14.heap[p11]?).trans HA14.out)
                    have HF15 := Lib.hid (show IsF x15 _ _ by rw [hy]; exact HF14.out.keptOf (kept_set2 (S := fun k => k = p13) (Kept.refl _ _) rfl _ _) HB14.out)
                    have HG15 := Lib.hid (show IsF x15 _ _ by rw [hy]; exact HG14.out.keptOf (kept_set2 (S := fun k => k = p13) (Kept.refl _ _) rfl _ _) HB14.out)
                    have HW15 := Lib.hid (show Near xa9 x15 by rw [hy]; exact (HW14.out.set HP13.out _).set HP13.out _)
                    rw [← hy]
                    refine hK.out _ _ (HSA2.out _ HW15.out) (fun hHeld => ?_)
                    clear hK K hy hHeld zz0 zz1 zzf
                    try simp only [Act.put, List.setIfInBounds_toArray, List.set_cons_zero, List.set_cons_succ]
                    refine wpAnyH_done (by kernel_rfl) ?_ _
                    refine NoPanic.normal ?_
                    go_wp2_with fail
                    go_meet
                    exact ⟨_, _, _, _, _, _, _, _, _, _, rfl, rfl, HP11.out, HP13.out, HA15.out, HB15.out, HF15.out, HG15.out, HW15.out⟩
                  exact AllReadyH.nil
                exact AllReadyH.nil
              exact AllReadyH.nil
            refine consH7 (fun K hK => ?_) ?_
            · go_simp
              obtain ⟨x16, hy⟩ : ∃ y, y = x11.alloc (.cells #[.slice none 0 0, .int .i64 0] 31) := ⟨_, rfl⟩
              have nY : Near x11 x16 := by rw [hy]; exact (Near.refl x11).alloc _
              have HB16 := Lib.hid (show x16.heap[x11.heap.size]? = some (.cells #[.slice none 0 0, .int .i64 0] 31 (0, 0)) by rw [hy]; exact heap_new_at rfl)
              rw [← hy]
              obtain ⟨p16, hp⟩ : ∃ p, p = x11.heap.size := ⟨_, rfl⟩
              rw [← hp] at HB16 ⊢
              have HP16 := Lib.hid (show xa9.heap.size ≤ p16 by rw [hp]; exact HW11.out.size)
              have HNE := Lib.hid (show p11 ≠ p16 by rw [hp]; exact Nat.ne_of_lt (Array.getElem?_eq_some_iff.1 HA11.out).1)
              have HF16 := Lib.hid (HF11.out.near nY)
              have HA16 := Lib.hid (keepN nY HA11.out)
              have HW16 := Lib.hid (HW11.out.trans nY)
              refine hK.out _ _ (HSA2.out _ HW16.out) (fun hHeld => ?_)
              clear hK K hy nY hp hHeld
              try simp only [Act.put, List.setIfInBounds_toArray, List.set_cons_zero, List.set_cons_succ]
              refine wpAnyH_ready (rs := [5]) (by kernel_rfl) (by simp) ?_
              refine consH5 (fun K hK => ?_) ?_
              · go_simp
                go_at_call 46
                refine (forall_f (HFA2.out.near HW16.out) hm).mono ?_
                rintro e x17 ⟨v, rfl, dd, nY⟩
                obtain ⟨aa17, bb17, cc17, dd17, rfl⟩ := dd.form
                have HG17 := Lib.hid dd
                have HF17 := Lib.hid (HF16.out.near nY)
                have HA17 := Lib.hid (keepN nY HA16.out)
                have HB17 := Lib.hid (keepN nY HB16.out)
                have HW17 := Lib.hid (HW16.out.trans nY)
                refine hK.out _ _ (HSA2.out _ HW17.out) (fun hHeld => ?_)
                clear hK K dd nY hHeld
                try simp only [Act.put, List.setIfInBounds_toArray, List.set_cons_zero, List.set_cons_succ]
                have zz0 := cell1 (o := 0) HA17.out rfl
                have zz1 := cell1 (o := 1) HA17.out rfl
                have zzf := free1 HA17.out
                refine wpAnyH_ready (rs := [8]) (by kernel_rfl) (by simp) ?_
                refine consH8 (fun K hK => ?_) ?_
                · go_simp
                  obtain ⟨x18, hy⟩ : ∃ y, y = (x17.setCell ⟨p11, 0, none⟩ (.slice aa1 bb1 cc1)).setCell ⟨p11, 1, none⟩ (.int .i64 dd1) := ⟨_, rfl⟩
                  have HA18 := Lib.hid (show x18.heap[p11]? = some (.cells #[(.slice aa1 bb1 cc1), (.int .i64 dd1)] 31 (0, 0)) by rw [hy]; exact setCell2_eq HA17.out _ _)
                  have HB18 := Lib.hid (show x18.heap[p16]? = _ from (by rw [hy]; exact setCell2_ne (HNE.out.symm) _ _ : x18.heap[p16]? = x17.heap[p16]?).trans HB17.out)
                  have HF18 := Lib.hid (show IsF x18 _ _ by rw [hy]; exact HF17.out.keptOf (kept_set2 (S := fun k => k = p11) (Kept.refl _ _) rfl _ _) HA17.out)
                  have HG18 := Lib.hid (show IsF x18 _ _ by rw [hy]; exact HG17.out.keptOf (kept_set2 (S := fun k => k = p11) (Kept.refl _ _) rfl _ _) HA17.out)
                  have HW18 := Lib.hid (show Near xa9 x18 by rw [hy]; exact (HW17.out.set HP11.out _).set HP11.out _)
                  rw [← hy]
                  refine hK.out _ _ (HSA2.out _ HW18.out) (fun hHeld => ?_)
                  clear hK K hy hHeld zz0 zz1 zzf
                  try simp only [Act.put, List.setIfInBounds_toArray, List.set_cons_zero, List.set_cons_succ]
                  have zz0 := cell1 (o := 0) HB18.out rfl
                  have zz1 := cell1 (o := 1) HB18.out rfl
                  have zzf := free1 HB18.out
                  refine wpAnyH_ready (rs := [9]) (by kernel_rfl) (by simp) ?_
                  refine consH9 (fun K hK => ?_) ?_
                  · go_simp
                    obtain ⟨x19, hy⟩ : ∃ y, y = (x18.setCell ⟨p16, 0, none⟩ (.slice aa17 bb17 cc17)).setCell ⟨p16, 1, none⟩ (.int .i64 dd17) := ⟨_, rfl⟩
                    have HB19 := Lib.hid (show x19.heap[p16]? = some (.cells #[(.slice aa17 bb17 cc17), (.int .i64 dd17)] 31 (0, 0)) by rw [hy]; exact setCell2_eq HB18.out _ _)
                    have HA19 := Lib.hid (show x19.heap[p11]? = _ from (by rw [hy]; exact setCell2_ne (HNE.out) _ _ : x19.heap[p11]? = x18.heap[p11]?).trans HA18.out)
                    have HF19 := Lib.hid (show IsF x19 _ _ by rw [hy]; exact HF18.out.keptOf (kept_set2 (S := fun k => k = p16) (Kept.refl _ _) rfl _ _) HB18.out)
                    have HG19 := Lib.hid (show IsF x19 _ _ by rw [hy]; exact HG18.out.keptOf (kept_set2 (S := fun k => k = p16) (Kept.refl _ _) rfl _ _) HB18.out)
                    have HW19 := Lib.hid (show Near xa9 x19 by rw [hy]; exact (HW18.out.set HP16.out _).set HP16.out _)
                    rw [← hy]
                    refine hK.out _ _ (HSA2.out _ HW19.out) (fun hHeld => ?_)
                    clear hK K hy hHeld zz0 zz1 zzf
                    try simp only [Act.put, List.setIfInBounds_toArray, List.set_cons_zero, List.set_cons_succ]
                    refine wpAnyH_done (by kernel_rfl) ?_ _
                    refine NoPanic.normal ?_
                    go_wp2_with fail
                    go_meet
                    exact ⟨_, _, _, _, _, _, _, _, _, _, rfl, rfl, HP11.out, HP16.out, HA19.out, HB19.out, HF19.out, HG19.out, HW19.out⟩
                  exact AllReadyH.nil
                exact AllReadyH.nil
              exact AllReadyH.nil
            exact AllReadyH.nil
          refine consH7 (fun K hK => ?_) ?_
          · go_simp
            obtain ⟨x20, hy⟩ : ∃ y, y = x1.alloc (.cells #[.slice none 0 0, .int .i64 0] 31) := ⟨_, rfl⟩
            have nY : Near x1 x20 := by rw [hy]; exact (Near.refl x1).alloc _
            have HB20 := Lib.hid (show x20.heap[x1.heap.size]? = some (.cells #[.slice none 0 0, .int .i64 0] 31 (0, 0)) by rw [hy]; exact heap_new_at rfl)
            rw [← hy]
            obtain ⟨p20, hp⟩ : ∃ p, p = x1.heap.size := ⟨_, rfl⟩
            rw [← hp] at HB20 ⊢
            have HP20 := Lib.hid (show xa9.heap.size ≤ p20 by rw [hp]; exact HW1.out.size)
            have HF20 := Lib.hid (HF1.out.near nY)
            have HW20 := Lib.hid (HW1.out.trans nY)
            refine hK.out _ _ (HSA2.out _ HW20.out) (fun hHeld => ?_)
            clear hK K hy nY hp hHeld
            try simp only [Act.put, List.setIfInBounds_toArray, List.set_cons_zero, List.set_cons_succ]
            refine wpAnyH_ready (rs := [5, 6]) (by kernel_rfl) (by simp) ?_
            refine consH5 (fun K hK => ?_) ?_
            · go_simp
              go_at_call 46
              refine (forall_f (HFA2.out.near HW20.out) hm).mono ?_
              rintro e x21 ⟨v, rfl, dd, nY⟩
              obtain ⟨aa21, bb21, cc21, dd21, rfl⟩ := dd.form
              have HG21 := Lib.hid dd
              have HF21 := Lib.hid (HF20.out.near nY)
              have HB21 := Lib.hid (keepN nY HB20.out)
              have HW21 := Lib.hid (HW20.out.trans nY)
              refine hK.out _ _ (HSA2.out _ HW21.out) (fun hHeld => ?_)
              clear hK K dd nY hHeld
              try simp only [Act.put, List.setIfInBounds_toArray, List.set_cons_zero, List.set_cons_succ]
              refine wpAnyH_ready (rs := [6]) (by kernel_rfl) (by simp) ?_
              refine consH6 (fun K hK => ?_) ?_
              · go_simp
                obtain ⟨x22, hy⟩ : ∃ y, y = x21.alloc (.cells #[.slice none 0 0, .int .i64 0] 31) := ⟨_, rfl⟩
                have nY : Near x21 x22 := by rw [hy]; exact (Near.refl x21).alloc _
                have HA22 := Lib.hid (show x22.heap[x21.heap.size]? = some (.cells #[.slice none 0 0, .int .i64 0] 31 (0, 0)) by rw [hy]; exact heap_new_at rfl)
                rw [← hy]
                obtain ⟨p22, hp⟩ : ∃ p, p = x21.heap.size := ⟨_, rfl⟩
                rw [← hp] at HA22 ⊢
                have HP22 := Lib.hid (show xa9.heap.size ≤ p22 by rw [hp]; exact HW21.out.size)
                have HNE := Lib.hid (show p20 ≠ p22 by rw [hp]; exact Nat.ne_of_lt (Array.getElem?_eq_some_iff.1 HB21.out).1)
                have HF22 := Lib.hid (HF21.out.near nY)
                have HG22 := Lib.hid (HG21.out.near nY)
                have HB22 := Lib.hid (keepN nY HB21.out)
                have HW22 := Lib.hid (HW21.out.trans nY)
                refine hK.out _ _ (HSA2.out _ HW22.out) (fun hHeld => ?_)
                clear hK K hy nY hp hHeld
                try simp only [Act.put, List.setIfInBounds_toArray, List.set_cons_zero, List.set_cons_succ]
                have zz0 := cell1 (o := 0) HA22.out rfl
                have zz1 := cell1 (o := 1) HA22.out rfl
                have zzf := free1 HA22.out
                refine wpAnyH_ready (rs := [8]) (by kernel_rfl) (by simp) ?_
                refine consH8 (fun K hK => ?_) ?_
                · go_simp
                  obtain ⟨x23, hy⟩ : ∃ y, y = (x22.setCell ⟨p22, 0, none⟩ (.slice aa1 bb1 cc1)).setCell ⟨p22, 1, none⟩ (.int .i64 dd1) := ⟨_, rfl⟩
                  have HA23 := Lib.hid (show x23.heap[p22]? = some (.cells #[(.slice aa1 bb1 cc1), (.int .i64 dd1)] 31 (0, 0)) by rw [hy]; exact setCell2_eq HA22.out _ _)
                  have HB23 := Lib.hid (show x23.heap[p20]? = _ from (by rw [hy]; exact setCell2_ne (HNE.out) _ _ : x23.heap[p20]? = x22.heap[p20]?).trans HB22.out)
                  have HF23 := Lib.hid (show IsF x23 _ _ by rw [hy]; exact HF22.out.keptOf (kept_set2 (S := fun k => k = p22) (Kept.refl _ _) rfl _ _) HA22.out)
                  have HG23 := Lib.hid (show IsF x23 _ _ by rw [hy]; exact HG22.out.keptOf (kept_set2 (S := fun k => k = p22) (Kept.refl _ _) rfl _ _) HA22.out)
                  have HW23 := Lib.hid (show Near xa9 x23 by rw [hy]; exact (HW22.out.set HP22.out _).set HP22.out _)
                  rw [← hy]
                  refine hK.out _ _ (HSA2.out _ HW23.out) (fun hHeld => ?_)
                  clear hK K hy hHeld zz0 zz1 zzf
                  try simp only [Act.put, List.setIfInBounds_toArray, List.set_cons_zero, List.set_cons_succ]
                  have zz0 := cell1 (o := 0) HB23.out rfl
                  have zz1 := cell1 (o := 1) HB23.out rfl
                  have zzf := free1 HB23.out
                  refine wpAnyH_ready (rs := [9]) (by kernel_rfl) (by simp) ?_
                  refine consH9 (fun K hK => ?_) ?_
                  · go_simp
                    obtain ⟨x24, hy⟩ : ∃ y, y = (x23.setCell ⟨p20, 0, none⟩ (.slice aa21 bb21 cc21)).setCell ⟨p20, 1, none⟩ (.int .i64 dd21) := ⟨_, rfl⟩
                    have HB24 := Lib.hid (show x24.heap[p20]? = some (.cells #[(.slice aa21 bb21 cc21), (.int .i64 dd21)] 31 (0, 0)) by rw [hy]; exact setCell2_eq HB23.out _ _)
                    have HA24 := Lib.hid (show x24.heap[p22]? = _ from (by rw [hy]; exact setCell2_ne (HNE.out.symm) _ _ : x24.heap[p22]? = x23.heap[p22]?).trans HA23.out)
                    have HF24 := Lib.hid (show IsF x24 _ _ by rw [hy]; exact HF23.out.keptOf (kept_set2 (S := fun k => k = p20) (Kept.refl _ _) rfl _ _) HB23.out)
                    have HG24 := Lib.hid (show IsF x24 _ _ by rw [hy]; exact HG23.out.keptOf (kept_set2 (S := fun k => k = p20) (Kept.refl _ _) rfl _ _) HB23.out)
                    have HW24 := Lib.hid (show Near xa9 x24 by rw [hy]; exact (HW23.out.set HP20.out _).set HP20.out _)
                    rw [← hy]
                    refine hK.out _ _ (HSA2.out _ HW24.out) (fun hHeld => ?_)
                    clear hK K hy hHeld zz0 zz1 zzf
                    try simp only [Act.put, List.setIfInBounds_toArray, List.set_cons_zero, List.set_cons_succ]
                    refine wpAnyH_done (by kernel_rfl) ?_ _
                    refine NoPanic.normal ?_
                    go_wp2_with fail
                    go_meet
                    exact ⟨_, _, _, _, _, _, _, _, _, _, rfl, rfl, HP22.out, HP20.out, HA24.out, HB24.out, HF24.out, HG24.out, HW24.out⟩
                  exact AllReadyH.nil
                exact AllReadyH.nil
              exact AllReadyH.nil
            refine consH6 (fun K hK => ?_) ?_
            · go_simp
              obtain ⟨x25, hy⟩ : ∃ y, y = x20.alloc (.cells #[.slice none 0 0, .int .i64 0] 31) := ⟨_, rfl⟩
              have nY : Near x20 x25 := by rw [hy]; exact (Near.refl x20).alloc _
              have HA25 := Lib.hid (show x25.heap[x20.heap.size]? = some (.cells #[.slice none 0 0, .int .i64 0] 31 (0, 0)) by rw [hy]; exact heap_new_at rfl)
              rw [← hy]
              obtain ⟨p25, hp⟩ : ∃ p, p = x20.heap.size := ⟨_, rfl⟩
              rw [← hp] at HA25 ⊢
              have HP25 := Lib.hid (show xa9.heap.size ≤ p25 by rw [hp]; exact HW20.out.size)
              have HNE := Lib.hid (show p20 ≠ p25 by rw [hp]; exact Nat.ne_of_lt (Array.getElem?_eq_some_iff.1 HB20.out).1)
              have HF25 := Lib.hid (HF20.out.near nY)
              have HB25 := Lib.hid (keepN nY HB20.out)
              have HW25 := Lib.hid (HW20.out.trans nY)
              refine hK.out _ _ (HSA2.out _ HW25.out) (fun hHeld => ?_)
              clear hK K hy nY hp hHeld
              try simp only [Act.put, List.setIfInBounds_toArray, List.set_cons_zero, List.set_cons_succ]
              refine wpAnyH_ready (rs := [5]) (by kernel_rfl) (by simp) ?_
              refine consH5 (fun K hK => ?_) ?_
              · go_simp
                go_at_call 46
                refine (forall_f (HFA2.out.near HW25.out) hm).mono ?_
                rintro e x26 ⟨v, rfl, dd, nY⟩
                obtain ⟨aa26, bb26, cc26, dd26, rfl⟩ := dd.form
                have HG26 := Lib.hid dd
                have HF26 := Lib.hid (HF25.out.near nY)
                have HA26 := Lib.hid (keepN nY HA25.out)
                have HB26 := Lib.hid (keepN nY HB25.out)
                have HW26 := Lib.hid (HW25.out.trans nY)
                refine hK.out _ _ (HSA2.out _ HW26.out) (fun hHeld => ?_)
                clear hK K dd nY hHeld
                try simp only [Act.put, List.setIfInBounds_toArray, List.set_cons_zero, List.set_cons_succ]
                have zz0 := cell1 (o := 0) HA26.out rfl
                have zz1 := cell1 (o := 1) HA26.out rfl
                have zzf := free1 HA26.out
                refine wpAnyH_ready (rs := [8]) (by kernel_rfl) (by simp) ?_
                refine consH8 (fun K hK => ?_) ?_
                · go_simp
                  obtain ⟨x27, hy⟩ : ∃ y, y = (x26.setCell ⟨p25, 0, none⟩ (.slice aa1 bb1 cc1)).setCell ⟨p25, 1, none⟩ (.int .i64 dd1) := ⟨_, rfl⟩
                  have HA27 := Lib.hid (show x27.heap[p25]? = some (.cells #[(.slice aa1 bb1 cc1), (.int .i64 dd1)] 31 (0, 0)) by rw [hy]; exact setCell2_eq HA26.out _ _)
                  have HB27 := Lib.hid (show x27.heap[p20]? = _ from (by rw [hy]; exact setCell2_ne (HNE.out) _ _ : x27.heap[p20]? = x26.heap[p20]?).trans HB26.out)
                  have HF27 := Lib.hid (show IsF x27 _ _ by rw [hy]; exact HF26.out.keptOf (kept_set2 (S := fun k => k = p25) (Kept.refl _ _) rfl _ _) HA26.out)
                  have HG27 := Lib.hid (show IsF x27 _ _ by rw [hy]; exact HG26.out.keptOf (kept_set2 (S := fun k => k = p25) (Kept.refl _ _) rfl _ _) HA26.out)
                  have HW27 := Lib.hid (show Near xa9 x27 by rw [hy]; exact (HW26.out.set HP25.out _).set HP25.out _)
                  rw [← hy]
                  refine hK.out _ _ (HSA2.out _ HW27.out) (fun hHeld => ?_)
                  clear hK K hy hHeld zz0 zz1 zzf
                  try simp only [Act.put, List.setIfInBounds_toArray, List.set_cons_zero, List.set_cons_succ]
                  have zz0 := cell1 (o := 0) HB27.out rfl
                  have zz1 := cell1 (o := 1) HB27.out rfl
                  have zzf := free1 HB27.out
                  refine wpAnyH_ready (rs := [9]) (by kernel_rfl) (by simp) ?_
                  refine consH9 (fun K hK => ?_) ?_
                  · go_simp
                    obtain ⟨x28, hy⟩ : ∃ y, y = (x27.setCell ⟨p20, 0, none⟩ (.slice aa26 bb26 cc26)).setCell ⟨p20, 1, none⟩ (.int .i64 dd26) := ⟨_, rfl⟩
                    have HB28 := Lib.hid (show x28.heap[p20]? = some (.cells #[(.slice aa26 bb26 cc26), (.int .i64 dd26)] 31 (0, 0)) by rw [hy]; exact setCell2_eq HB27.out _ _)
                    have HA28 := Lib.hid (show x28.heap[p25]? = _ from (by rw [hy]; exact setCell2_ne (HNE.out.symm) _ _ : x28.heap[p25]? = x27.heap[p25]?).trans HA27.out)
                    have HF28 := Lib.hid (show IsF x28 _ _ by rw [hy]; exact HF27.out.keptOf (kept_set2 (S := fun k => k = p20) (Kept.refl _ _) rfl _ _) HB27.out)
                    have HG28 := Lib.hid (show IsF x28 _ _ by rw [hy]; exact HG27.out.keptOf (kept_set2 (S := fun k => k = p20) (Kept.refl _ _) rfl _ _) HB27.out)
                    have HW28 := Lib.hid (show Near xa9 x28 by rw [hy]; exact (HW27.out.set HP20.out _).set HP20.out _)
                    rw [← hy]
                    refine hK.out _ _ (HSA2.out _ HW28.out) (fun hHeld => ?_)
                    clear hK K hy hHeld zz0 zz1 zzf
                    try simp only [Act.put, List.setIfInBounds_toArray, List.set_cons_zero, List.set_cons_succ]
                    refine wpAnyH_done (by kernel_rfl) ?_ _
                    refine NoPanic.normal ?_
                    go_wp2_with fail
                    go_meet
                    exact ⟨_, _, _, _, _, _, _, _, _, _, rfl, rfl, HP25.out, HP20.out, HA28.out, HB28.out, HF28.out, HG28.out, HW28.out⟩
                  exact AllReadyH.nil
                exact AllReadyH.nil
              exact AllReadyH.nil
            exact AllReadyH.nil
          exact AllReadyH.nil
        refine consH6 (fun K hK => ?_) ?_
        · go_simp
          obtain ⟨x29, hy⟩ : ∃ y, y = x0.alloc (.cells #[.slice none 0 0, .int .i64 0] 31) := ⟨_, rfl⟩
          have nY : Near x0 x29 := by rw [hy]; exact (Near.refl x0).alloc _
          have HA29 := Lib.hid (show x29.heap[x0.heap.size]? = some (.cells #[.slice none 0 0, .int .i64 0] 31 (0, 0)) by rw [hy]; exact heap_new_at rfl)
          rw [← hy]
          obtain ⟨p29, hp⟩ : ∃ p, p = x0.heap.size := ⟨_, rfl⟩
          rw [← hp] at HA29 ⊢
          have HP29 := Lib.hid (show xa9.heap.size ≤ p29 by rw [hp]; exact HW0.out.size)
          have HW29 := Lib.hid (HW0.out.trans nY)
          refine hK.out _ _ (HSA2.out _ HW29.out) (fun hHeld => ?_)
          clear hK K hy nY hp hHeld
          try simp only [Act.put, List.setIfInBounds_toArray, List.set_cons_zero, List.set_cons_succ]
          refine wpAnyH_ready (rs := [2, 7]) (by kernel_rfl) (by simp) ?_
          refine consH2 (fun K hK => ?_) ?_
          · go_simp
            go_at_call 45
            refine (exists_f (HFA2.out.near HW29.out) hm).mono ?_
            rintro e x30 ⟨v, rfl, dd, nY⟩
            obtain ⟨aa30, bb30, cc30, dd30, rfl⟩ := dd.form
            have HF30 := Lib.hid dd
            have HA30 := Lib.hid (keepN nY HA29.out)
            have HW30 := Lib.hid (HW29.out.trans nY)
            refine hK.out _ _ (HSA2.out _ HW30.out) (fun hHeld => ?_)
            clear hK K dd nY hHeld
            try simp only [Act.put, List.setIfInBounds_toArray, List.set_cons_zero, List.set_cons_succ]
            refine wpAnyH_ready (rs := [5, 7]) (by kernel_rfl) (by simp) ?_
            refine consH5 (fun K hK => ?_) ?_
            · go_simp
              go_at_call 46
              refine (forall_f (HFA2.out.near HW30.out) hm).mono ?_
              rintro e x31 ⟨v, rfl, dd, nY⟩
              obtain ⟨aa31, bb31, cc31, dd31, rfl⟩ := dd.form
              have HG31 := Lib.hid dd
              have HF31 := Lib.hid (HF30.out.near nY)
              have HA31 := Lib.hid (keepN nY HA30.out)
              have HW31 := Lib.hid (HW30.out.trans nY)
              refine hK.out _ _ (HSA2.out _ HW31.out) (fun hHeld => ?_)
              clear hK K dd nY hHeld
              try simp only [Act.put, List.setIfInBounds_toArray, List.set_cons_zero, List.set_cons_succ]
              refine wpAnyH_ready (rs := [7]) (by kernel_rfl) (by simp) ?_
              refine consH7 (fun K hK => ?_) ?_
              · go_simp
                obtain ⟨x32, hy⟩ : ∃ y, y = x31.alloc (.cells #[.slice none 0 0, .int .i64 0] 31) := ⟨_, rfl⟩
                have nY : Near x31 x32 := by rw [hy]; exact (Near.refl x31).alloc _
                have HB32 := Lib.hid (show x32.heap[x31.heap.size]? = some (.cells #[.slice none 0 0, .int .i64 0] 31 (0, 0)) by rw [hy]; exact heap_new_at rfl)
                rw [← hy]
                obtain ⟨p32, hp⟩ : ∃ p, p = x31.heap.size := ⟨_, rfl⟩
                rw [← hp] at HB32 ⊢
                have HP32 := Lib.hid (show xa9.heap.size ≤ p32 by rw [hp]; exact HW31.out.size)
                have HNE := Lib.hid (show p29 ≠ p32 by rw [hp]; exact Nat.ne_of_lt (Array.getElem?_eq_some_iff.1 HA31.out).1)
                have HF32 := Lib.hid (HF31.out.near nY)
                have HG32 := Lib.hid (HG31.out.near nY)
                have HA32 := Lib.hid (keepN nY HA31.out)
                have HW32 := Lib.hid (HW31.out.trans nY)
                refine hK.out _ _ (HSA2.out _ HW32.out) (fun hHeld => ?_)
                clear hK K hy nY hp hHeld
                try simp only [Act.put, List.setIfInBounds_toArray, List.set_cons_zero, List.set_cons_succ]
                have zz0 := cell1 (o := 0) HA32.out rfl
                have zz1 := cell1 (o := 1) HA32.out rfl
                have zzf := free1 HA32.out
                refine wpAnyH_ready (rs := [8]) (by kernel_rfl) (by simp) ?_
                refine consH8 (fun K hK => ?_) ?_
                · go_simp
                  obtain ⟨x33, hy⟩ : ∃ y, y = (x32.setCell ⟨p29, 0, none⟩ (.slice aa30 bb30 cc30)).setCell ⟨p29, 1, none⟩ (.int .i64 dd30) := ⟨_, rfl⟩
                  have HA33 := Lib.hid (show x33.heap[p29]? = some (.cells #[(.slice aa30 bb30 cc30), (.int .i64 dd30)] 31 (0, 0)) by rw [hy]; exact setCell2_eq HA32.out _ _)
                  have HB33 := Lib.hid (show x33.heap[p32]? = _ from (by rw [hy]; exact setCell2_ne (HNE.out.symm) _ _ : x33.heap[p32]? = x32.heap[p32]?).trans HB32.out)
                  have HF33 := Lib.hid (show IsF x33 _ _ by rw [hy]; exact HF32.out.keptOf (kept_set2 (S := fun k => k = p29) (Kept.refl _ _) rfl _ _) HA32.out)
                  have HG33 := Lib.hid (show IsF x33 _ _ by rw [hy]; exact HG32.out.keptOf (kept_set2 (S := fun k => k = p29) (Kept.refl _ _) rfl _ _) HA32.out)
                  have HW33 := Lib.hid (show Near xa9 x33 by rw [hy]; exact (HW32.out.set HP29.out _).set HP29.out _)
                  rw [← hy]
                  refine hK.out _ _ (HSA2.out _ HW33.out) (fun hHeld => ?_)
                  clear hK K hy hHeld zz0 zz1 zzf
                  try simp only [Act.put, List.setIfInBounds_toArray, List.set_cons_zero, List.set_cons_succ]
                  have zz0 := cell1 (o := 0) HB33.out rfl
                  have zz1 := cell1 (o := 1) HB33.out rfl
                  have zzf := free1 HB33.out
                  refine wpAnyH_ready (rs := [9]) (by kernel_rfl) (by simp) ?_
                  refine consH9 (fun K hK => ?_) ?_
                  · go_simp
                    obtain ⟨x34, hy⟩ : ∃ y, y = (x33.setCell ⟨p32, 0, none⟩ (.slice aa31 bb31 cc31)).setCell ⟨p32, 1, none⟩ (.int .i64 dd31) := ⟨_, rfl⟩
                    have HB34 := Lib.hid (show x34.heap[p32]? = some (.cells #[(.slice aa31 bb31 cc31), (.int .i64 dd31)] 31 (0, 0)) by rw [hy]; exact setCell2_eq HB33.out _ _)
                    have HA34 := Lib.hid (show x34.heap[p29]? = _ from (by rw [hy]; exact setCell2_ne (HNE.out) _ _ : x34.heap[p29]? = x33.heap[p29]?).trans HA33.out)
                    have HF34 := Lib.hid (show IsF x34 _ _ by rw [hy]; exact HF33.out.keptOf (kept_set2 (S := fun k => k = p32) (Kept.refl _ _) rfl _ _) HB33.out)
                    have HG34 := Lib.hid (show IsF x34 _ _ by rw [hy]; exact HG33.out.keptOf (kept_set2 (S := fun k => k = p32) (Kept.refl _ _) rfl _ _) HB33.out)
                    have HW34 := Lib.hid (show Near xa9 x34 by rw [hy]; exact (HW33.out.set HP32.out _).set HP32.out _)
                    rw [← hy]
                    refine hK.out _ _ (HSA2.out _ HW34.out) (fun hHeld => ?_)
                    clear hK K hy hHeld zz0 zz1 zzf
                    try simp only [Act.put, List.setIfInBounds_toArray, List.set_cons_zero, List.set_cons_succ]
                    refine wpAnyH_done (by kernel_rfl) ?_ _
                    refine NoPanic.normal ?_
                    go_wp2_with fail
                    go_meet
                    exact ⟨_, _, _, _, _, _, _, _, _, _, rfl, rfl, HP29.out, HP32.out, HA34.out, HB34.out, HF34.out, HG34.out, HW34.out⟩
                  exact AllReadyH.nil
                exact AllReadyH.nil
              exact AllReadyH.nil
            refine consH7 (fun K hK => ?_) ?_
            · go_simp
              obtain ⟨x35, hy⟩ : ∃ y, y = x30.alloc (.cells #[.slice none 0 0, .int .i64 0] 31) := ⟨_, rfl⟩
              have nY : Near x30 x35 := by rw [hy]; exact (Near.refl x30).alloc _
              have HB35 := Lib.hid (show x35.heap[x30.heap.size]? = some (.cells #[.slice none 0 0, .int .i64 0] 31 (0, 0)) by rw [hy]; exact heap_new_at rfl)
              rw [← hy]
              obtain ⟨p35, hp⟩ : ∃ p, p = x30.heap.size := ⟨_, rfl⟩
              rw [← hp] at HB35 ⊢
              have HP35 := Lib.hid (show xa9.heap.size ≤ p35 by rw [hp]; exact HW30.out.size)
              have HNE := Lib.hid (show p29 ≠ p35 by rw [hp]; exact Nat.ne_of_lt (Array.getElem?_eq_some_iff.1 HA30.out).1)
              have HF35 := Lib.hid (HF30.out.near nY)
              have HA35 := Lib.hid (keepN nY HA30.out)
              have HW35 := Lib.hid (HW30.out.trans nY)
              refine hK.out _ _ (HSA2.out _ HW35.out) (fun hHeld => ?_)
              clear hK K hy nY hp hHeld
              try simp only [Act.put, List.setIfInBounds_toArray, List.set_cons_zero, List.set_cons_succ]
              refine wpAnyH_ready (rs := [5]) (by kernel_rfl) (by simp) ?_
              refine consH5 (fun K hK => ?_) ?_
              · go_simp
                go_at_call 46
                refine (forall_f (HFA2.out.near HW35.out) hm).mono ?_
                rintro e x36 ⟨v, rfl, dd, nY⟩
                obtain ⟨aa36, bb36, cc36, dd36, rfl⟩ := dd.form
                have HG36 := Lib.hid dd
                have HF36 := Lib.hid (HF35.out.near nY)
                have HA36 := Lib.hid (keepN nY HA35.out)
                have HB36 := Lib.hid (keepN nY HB35.out)
                have HW36 := Lib.hid (HW35.out.trans nY)
                refine hK.out _ _ (HSA2.out _ HW36.out) (fun hHeld => ?_)
                clear hK K dd nY hHeld
                try simp only [Act.put, List.setIfInBounds_toArray, List.set_cons_zero, List.set_cons_succ]
                have zz0 := cell1 (o := 0) HA36.out rfl
                have zz1 := cell1 (o := 1) HA36.out rfl
                have zzf := free1 HA36.out
                refine wpAnyH_ready (rs := [8]) (by kernel_rfl) (by simp) ?_
                refine consH8 (fun K hK => ?_) ?_
                · go_simp
                  obtain ⟨x37, hy⟩ : ∃ y, y = (x36.setCell ⟨p29, 0, none⟩ (.slice aa30 bb30 cc30)).setCell ⟨p29, 1, none⟩ (.int .i64 dd30) := ⟨_, rfl⟩
                  have HA37 := Lib.hid (show x37.heap[p29]? = some (.cells #[(.slice aa30 bb30 cc30), (.int .i64 dd30)] 31 (0, 0)) by rw [hy]; exact setCell2_eq HA36.out _ _)
                  have HB37 := Lib.hid (show x37.heap[p35]? = _ from (by rw [hy]; exact setCell2_ne (HNE.out.symm) _ _ : x37.heap[p35]? = x36.heap[p35]?).trans HB36.out)
                  have HF37 := Lib.hid (show IsF x37 _ _ by rw [hy]; exact HF36.out.keptOf (kept_set2 (S := fun k => k = p29) (Kept.refl _ _) rfl _ _) HA36.out)
                  have HG37 := Lib.hid (show IsF x37 _ _ by rw [hy]; exact HG36.out.keptOf (kept_set2 (S := fun k => k = p29) (Kept.refl _ _) rfl _ _) HA36.out)
                  have HW37 := Lib.hid (show Near xa9 x37 by rw [hy]; exact (HW36.out.set HP29.out _).set HP29.out _)
                  rw [← hy]
                  refine hK.out _ _ (HSA2.out _ HW37.out) (fun hHeld => ?_)
                  clear hK K hy hHeld zz0 zz1 zzf
                  try simp only [Act.put, List.setIfInBounds_toArray, List.set_cons_zero, List.set_cons_succ]
                  have zz0 := cell1 (o := 0) HB37.out rfl
                  have zz1 := cell1 (o := 1) HB37.out rfl
                  have zzf := free1 HB37.out
                  refine wpAnyH_ready (rs := [9]) (by kernel_rfl) (by simp) ?_
                  refine consH9 (fun K hK => ?_) ?_
                  · go_simp
                    obtain ⟨x38, hy⟩ : ∃ y, y = (x37.setCell ⟨p35, 0, none⟩ (.slice aa36 bb36 cc36)).setCell ⟨p35, 1, none⟩ (.int .i64 dd36) := ⟨_, rfl⟩
                    have HB38 := Lib.hid (show x38.heap[p35]? = some (.cells #[(.slice aa36 bb36 cc36), (.int .i64 dd36)] 31 (0, 0)) by rw [hy]; exact setCell2_eq HB37.out _ _)
                    have HA38 := Lib.hid (show x38.heap[p29]? = _ from (by rw [hy]; exact setCell2_ne (HNE.out) _ _ : x38.heap[p29]? = x37.heap[p29]?).trans HA37.out)
                    have HF38 := Lib.hid (show IsF x38 _ _ by rw [hy]; exact HF37.out.keptOf (kept_set2 (S := fun k => k = p35) (Kept.refl _ _) rfl _ _) HB37.out)
                    have HG38 := Lib.hid (show IsF x38 _ _ by rw [hy]; exact HG37.out.keptOf (kept_set2 (S := fun k => k = p35) (Kept.refl _ _) rfl _ _) HB37.out)
                    have HW38 := Lib.hid (show Near xa9 x38 by rw [hy]; exact (HW37.out.set HP35.out _).set HP35.out _)
                    rw [← hy]
                    refine hK.out _ _ (HSA2.out _ HW38.out) (fun hHeld => ?_)
                    clear hK K hy hHeld zz0 zz1 zzf
                    try simp only [Act.put, List.setIfInBounds_toArray, List.set_cons_zero, List.set_cons_succ]
                    refine wpAnyH_done (by kernel_rfl) ?_ _
                    refine NoPanic.normal ?_
                    go_wp2_with fail
                    go_meet
                    exact ⟨_, _, _, _, _, _, _, _, _, _, rfl, rfl, HP29.out, HP35.out, HA38.out, HB38.out, HF38.out, HG38.out, HW38.out⟩
                  exact AllReadyH.nil
                exact AllReadyH.nil
              exact AllReadyH.nil
            exact AllReadyH.nil
          refine consH7 (fun K hK => ?_) ?_
          · go_simp
            obtain ⟨x39, hy⟩ : ∃ y, y = x29.alloc (.cells #[.slice none 0 0, .int .i64 0] 31) := ⟨_, rfl⟩
            have nY : Near x29 x39 := by rw [hy]; exact (Near.refl x29).alloc _
            have HB39 := Lib.hid (show x39.heap[x29.heap.size]? = some (.cells #[.slice none 0 0, .int .i64 0] 31 (0, 0)) by rw [hy]; exact heap_new_at rfl)
            rw [← hy]
            obtain ⟨p39, hp⟩ : ∃ p, p = x29.heap.size := ⟨_, rfl⟩
            rw [← hp] at HB39 ⊢
            have HP39 := Lib.hid (show xa9.heap.size ≤ p39 by rw [hp]; exact HW29.out.size)
            have HNE := Lib.hid (show p29 ≠ p39 by rw [hp]; exact Nat.ne_of_lt (Array.getElem?_eq_some_iff.1 HA29.out).1)
            have HA39 := Lib.hid (keepN nY HA29.out)
            have HW39 := Lib.hid (HW29.out.trans nY)
            refine hK.out _ _ (HSA2.out _ HW39.out) (fun hHeld => ?_)
            clear hK K hy nY hp hHeld
            try simp only [Act.put, List.setIfInBounds_toArray, List.set_cons_zero, List.set_cons_succ]
            refine wpAnyH_ready (rs := [2]) (by kernel_rfl) (by simp) ?_
            refine consH2 (fun K hK => ?_) ?_
            · go_simp
              go_at_call 45
              refine (exists_f (HFA2.out.near HW39.out) hm).mono ?_
              rintro e x40 ⟨v, rfl, dd, nY⟩
              obtain ⟨aa40, bb40, cc40, dd40, rfl⟩ := dd.form
              have HF40 := Lib.hid dd
              have HA40 := Lib.hid (keepN nY HA39.out)
              have HB40 := Lib.hid (keepN nY HB39.out)
              have HW40 := Lib.hid (HW39.out.trans nY)
              refine hK.out _ _ (HSA2.out _ HW40.out) (fun hHeld => ?_)
              clear hK K dd nY hHeld
              try simp only [Act.put, List.setIfInBounds_toArray, List.set_cons_zero, List.set_cons_succ]
              refine wpAnyH_ready (rs := [5]) (by kernel_rfl) (by simp) ?_
              refine consH5 (fun K hK => ?_) ?_
              · go_simp
                go_at_call 46
                refine (forall_f (HFA2.out.near HW40.out) hm).mono ?_
                rintro e x41 ⟨v, rfl, dd, nY⟩
                obtain ⟨aa41, bb41, cc41, dd41, rfl⟩ := dd.form
                have HG41 := Lib.hid dd
                have HF41 := Lib.hid (HF40.out.near nY)
                have HA41 := Lib.hid (keepN nY HA40.out)
                have HB41 := Lib.hid (keepN nY HB40.out)
                have HW41 := Lib.hid (HW40.out.trans nY)
                refine hK.out _ _ (HSA2.out _ HW41.out) (fun hHeld => ?_)
                clear hK K dd nY hHeld
                try simp only [Act.put, List.setIfInBounds_toArray, List.set_cons_zero, List.set_cons_succ]
                have zz0 := cell1 (o := 0) HA41.out rfl
                have zz1 := cell1 (o := 1) HA41.out rfl
                have zzf := free1 HA41.out
                refine wpAnyH_ready (rs := [8]) (by kernel_rfl) (by simp) ?_
                refine consH8 (fun K hK => ?_) ?_
                · go_simp
                  obtain ⟨x42, hy⟩ : ∃ y, y = (x41.setCell ⟨p29, 0, none⟩ (.slice aa40 bb40 cc40)).setCell ⟨p29, 1, none⟩ (.int .i64 dd40) := ⟨_, rfl⟩
                  have HA42 := Lib.hid (show x42.heap[p29]? = some (.cells #[(.slice aa40 bb40 cc40), (.int .i64 dd40)] 31 (0, 0)) by rw [hy]; exact setCell2_eq HA41.out _ _)
                  have HB42 := Lib.hid (show x42.heap[p39]? = _ from (by rw [hy]; exact setCell2_ne (HNE.out.symm) _ _ : x42.heap[p39]? = x41.heap[p39]?).trans HB41.out)
                  have HF42 := Lib.hid (show IsF x42 _ _ by rw [hy]; exact HF41.out.keptOf (kept_set2 (S := fun k => k = p29) (Kept.refl _ _) rfl _ _) HA41.out)
                  have HG42 := Lib.hid (show IsF x42 _ _ by rw [hy]; exact HG41.out.keptOf (kept_set2 (S := fun k => k = p29) (Kept.refl _ _) rfl _ _) HA41.out)
                  have HW42 := Lib.hid (show Near xa9 x42 by rw [hy]; exact (HW41.out.set HP29.out _).set HP29.out _)
                  rw [← hy]
                  refine hK.out _ _ (HSA2.out _ HW42.out) (fun hHeld => ?_)
                  clear hK K hy hHeld zz0 zz1 zzf
                  try simp only [Act.put, List.setIfInBounds_toArray, List.set_cons_zero, List.set_cons_succ]
                  have zz0 := cell1 (o := 0) HB42.out rfl
                  have zz1 := cell1 (o := 1) HB42.out rfl
                  have zzf := free1 HB42.out
                  refine wpAnyH_ready (rs := [9]) (by kernel_rfl) (by simp) ?_
                  refine consH9 (fun K hK => ?_) ?_
                  · go_simp
                    obtain ⟨x43, hy⟩ : ∃ y, y = (x42.setCell ⟨p39, 0, none⟩ (.slice aa41 bb41 cc41)).setCell ⟨p39, 1, none⟩ (.int .i64 dd41) := ⟨_, rfl⟩
                    have HB43 := Lib.hid (show x43.heap[p39]? = some (.cells #[(.slice aa41 bb41 cc41), (.int .i64 dd41)] 31 (0, 0)) by rw [hy]; exact setCell2_eq HB42.out _ _)
                    have HA43 := Lib.hid (show x43.heap[p29]? = _ from (by rw [hy]; exact setCell2_ne (HNE.out) _ _ : x43.heap[p29]? = x42.heap[p29]?).trans HA42.out)
                    have HF43 := Lib.hid (show IsF x43 _ _ by rw [hy]; exact HF42.out.keptOf (kept_set2 (S := fun k => k = p39) (Kept.refl _ _) rfl _ _) HB42.out)
                    have HG43 := Lib.hid (show IsF x43 _ _ by rw [hy]; exact HG42.out.keptOf (kept_set2 (S := fun k => k = p39) (Kept.refl _ _) rfl _ _) HB42.out)
                    have HW43 := Lib.hid (show Near xa9 x43 by rw [hy]; exact (HW42.out.set HP39.out _).set HP39.out _)
                    rw [← hy]
                    refine hK.out _ _ (HSA2.out _ HW43.out) (fun hHeld => ?_)
                    clear hK K hy hHeld zz0 zz1 zzf
                    try simp only [Act.put, List.setIfInBounds_toArray, List.set_cons_zero, List.set_cons_succ]
                    refine wpAnyH_done (by kernel_rfl) ?_ _
                    refine NoPanic.normal ?_
                    go_wp2_with fail
                    go_meet
                    exact ⟨_, _, _, _, _, _, _, _, _, _, rfl, rfl, HP29.out, HP39.out, HA43.out, HB43.out, HF43.out, HG43.out, HW43.out⟩
                  exact AllReadyH.nil
                exact AllReadyH.nil
              exact AllReadyH.nil
            exact AllReadyH.nil
          exact AllReadyH.nil
        refine consH7 (fun K hK => ?_) ?_
        · go_simp
          obtain ⟨x44, hy⟩ : ∃ y, y = x0.alloc (.cells #[.slice none 0 0, .int .i64 0] 31) := ⟨_, rfl⟩
          have nY : Near x0 x44 := by rw [hy]; exact (Near.refl x0).alloc _
          have HB44 := Lib.hid (show x44.heap[x0.heap.size]? = some (.cells #[.slice none 0 0, .int .i64 0] 31 (0, 0)) by rw [hy]; exact heap_new_at rfl)
          rw [← hy]
          obtain ⟨p44, hp⟩ : ∃ p, p = x0.heap.size := ⟨_, rfl⟩
          rw [← hp] at HB44 ⊢
          have HP44 := Lib.hid (show xa9.heap.size ≤ p44 by rw [hp]; exact HW0.out.size)
          have HW44 := Lib.hid (HW0.out.trans nY)
          refine hK.out _ _ (HSA2.out _ HW44.out) (fun hHeld => ?_)
          clear hK K hy nY hp hHeld
          try simp only [Act.put, List.setIfInBounds_toArray, List.set_cons_zero, List.set_cons_succ]
          refine wpAnyH_ready (rs := [2, 6]) (by kernel_rfl) (by simp) ?_
          refine consH2 (fun K hK => ?_) ?_
          · go_simp
            go_at_call 45
            refine (exists_f (HFA2.out.near HW44.out) hm).mono ?_
            rintro e x45 ⟨v, rfl, dd, nY⟩
            obtain ⟨aa45, bb45, cc45, dd45, rfl⟩ := dd.form
            have HF45 := Lib.hid dd
            have HB45 := Lib.hid (keepN nY HB44.out)
            have HW45 := Lib.hid (HW44.out.trans nY)
            refine hK.out _ _ (HSA2.out _ HW45.out) (fun hHeld => ?_)
            clear hK K dd nY hHeld
            try simp only [Act.put, List.setIfInBounds_toArray, List.set_cons_zero, List.set_cons_succ]
            refine wpAnyH_ready (rs := [5, 6]) (by kernel_rfl) (by simp) ?_
            refine consH5 (fun K hK => ?_) ?_
            · go_simp
              go_at_call 46
              refine (forall_f (HFA2.out.near HW45.out) hm).mono ?_
              rintro e x46 ⟨v, rfl, dd, nY⟩
              obtain ⟨aa46, bb46, cc46, dd46, rfl⟩ := dd.form
              have HG46 := Lib.hid dd
              have HF46 := Lib.hid (HF45.out.near nY)
              have HB46 := Lib.hid (keepN nY HB45.out)
              have HW46 := Lib.hid (HW45.out.trans nY)
              refine hK.out _ _ (HSA2.out _ HW46.out) (fun hHeld => ?_)
              clear hK K dd nY hHeld
              try simp only [Act.put, List.setIfInBounds_toArray, List.set_cons_zero, List.set_cons_succ]
              refine wpAnyH_ready (rs := [6]) (by kernel_rfl) (by simp) ?_
              refine consH6 (fun K hK => ?_) ?_
              · go_simp
                obtain ⟨x47, hy⟩ : ∃ y, y = x46.alloc (.cells #[.slice none 0 0, .int .i64 0] 31) := ⟨_, rfl⟩
                have nY : Near x46 x47 := by rw [hy]; exact (Near.refl x46).alloc _
                have HA47 := Lib.hid (show x47.heap[x46.heap.size]? = some (.cells #[.slice none 0 0, .int .i64 0] 31 (0, 0)) by rw [hy]; exact heap_new_at rfl)
                rw [← hy]
                obtain ⟨p47, hp⟩ : ∃ p, p = x46.heap.size := ⟨_, rfl⟩
                rw [← hp] at HA47 ⊢
                have HP47 := Lib.hid (show xa9.heap.size ≤ p47 by rw [hp]; exact HW46.out.size)
                have HNE := Lib.hid (show p44 ≠ p47 by rw [hp]; exact Nat.ne_of_lt (Array.getElem?_eq_some_iff.1 HB46.out).1)
                have HF47 := Lib.hid (HF46.out.near nY)
                have HG47 := Lib.hid (HG46.out.near nY)
                have HB47 := Lib.hid (keepN nY HB46.out)
                have HW47 := Lib.hid (HW46.out.trans nY)
                refine hK.out _ _ (HSA2.out _ HW47.out) (fun hHeld => ?_)
                clear hK K hy nY hp hHeld
                try simp only [Act.put, List.setIfInBounds_toArray, List.set_cons_zero, List.set_cons_succ]
                have zz0 := cell1 (o := 0) HA47.out rfl
                have zz1 := cell1 (o := 1) HA47.out rfl
                have zzf := free1 HA47.out
                refine wpAnyH_ready (rs := [8]) (by kernel_rfl) (by simp) ?_
                refine consH8 (fun K hK => ?_) ?_
                · go_simp
                  obtain ⟨x48, hy⟩ : ∃ y, y = (x47.setCell ⟨p47, 0, none⟩ (.slice aa45 bb45 cc45)).setCell ⟨p47, 1, none⟩ (.int .i64 dd45) := ⟨_, rfl⟩
                  have HA48 := Lib.hid (show x48.heap[p47]? = some (.cells #[(.slice aa45 bb45 cc45), (.int .i64 dd45)] 31 (0, 0)) by rw [hy]; exact setCell2_eq HA47.out _ _)
                  have HB48 := Lib.hid (show x48.heap[p44]? = _ from (by rw [hy]; exact setCell2_ne (HNE.out) _ _ : x48.heap[p44]? = x47.heap[p44]?).trans HB47.out)
                  have HF48 := Lib.hid (show IsF x48 _ _ by rw [hy]; exact HF47.out.keptOf (kept_set2 (S := fun k => k = p47) (Kept.refl _ _) rfl _ _) HA47.out)
                  have HG48 := Lib.hid (show IsF x48 _ _ by rw [hy]; exact HG47.out.keptOf (kept_set2 (S := fun k => k = p47) (Kept.refl _ _) rfl _ _) HA47.out)
                  have HW48 := Lib.hid (show Near xa9 x48 by rw [hy]; exact (HW47.out.set HP47.out _).set HP47.out _)
                  rw [← hy]
                  refine hK.out _ _ (HSA2.out _ HW48.out) (fun hHeld => ?_)
                  clear hK K hy hHeld zz0 zz1 zzf
                  try simp only [Act.put, List.setIfInBounds_toArray, List.set_cons_zero, List.set_cons_succ]
                  have zz0 := cell1 (o := 0) HB48.out rfl
                  have zz1 := cell1 (o := 1) HB48.out rfl
                  have zzf := free1 HB48.out
                  refine wpAnyH_ready (rs := [9]) (by kernel_rfl) (by simp) ?_
                  refine consH9 (fun K hK => ?_) ?_
                  · go_simp
                    obtain ⟨x49, hy⟩ : ∃ y, y = (x48.setCell ⟨p44, 0, none⟩ (.slice aa46 bb46 cc46)).setCell ⟨p44, 1, none⟩ (.int .i64 dd46) := ⟨_, rfl⟩
                    have HB49 := Lib.hid (show x49.heap[p44]? = some (.cells #[(.slice aa46 bb46 cc46), (.int .i64 dd46)] 31 (0, 0)) by rw [hy]; exact setCell2_eq HB48.out _ _)
                    have HA49 := Lib.hid (show x49.heap[p47]? = _ from (by rw [hy]; exact setCell2_ne (HNE.out.symm) _ _ : x49.heap[p47]? = x48.heap[p47]?).trans HA48.out)
                    have HF49 := Lib.hid (show IsF x49 _ _ by rw [hy]; exact HF48.out.keptOf (kept_set2 (S := fun k => k = p44) (Kept.refl _ _) rfl _ _) HB48.out)
                    have HG49 := Lib.hid (show IsF x49 _ _ by rw [hy]; exact HG48.out.keptOf (kept_set2 (S := fun k => k = p44) (Kept.refl _ _) rfl _ _) HB48.out)
                    have HW49 := Lib.hid (show Near xa9 x49 by rw [hy]; exact (HW48.out.set HP44.out _).set HP44.out _)
                    rw [← hy]
                    refine hK.out _ _ (HSA2.out _ HW49.out) (fun hHeld => ?_)
                    clear hK K hy hHeld zz0 zz1 zzf
                    try simp only [Act.put, List.setIfInBounds_toArray, List.set_cons_zero, List.set_cons_succ]
                    refine wpAnyH_done (by kernel_rfl) ?_ _
                    refine NoPanic.normal ?_
                    go_wp2_with fail
                    go_meet
                    exact ⟨_, _, _, _, _, _, _, _, _, _, rfl, rfl, HP47.out, HP44.out, HA49.out, HB49.out, HF49.out, HG49.out, HW49.out⟩
                  exact AllReadyH.nil
                exact AllReadyH.nil
              exact AllReadyH.nil
            refine consH6 (fun K hK => ?_) ?_
            · go_simp
              obtain ⟨x50, hy⟩ : ∃ y, y = x45.alloc (.cells #[.slice none 0 0, .int .i64 0] 31) := ⟨_, rfl⟩
              have nY : Near x45 x50 := by rw [hy]; exact (Near.refl x45).alloc _
              have HA50 := Lib.hid (show x50.heap[x45.heap.size]? = some (.cells #[.slice none 0 0, .int .i64 0] 31 (0, 0)) by rw [hy]; exact heap_new_at rfl)
              rw [← hy]
              obtain ⟨p50, hp⟩ : ∃ p, p = x45.heap.size := ⟨_, rfl⟩
              rw [← hp] at HA50 ⊢
              have HP50 := Lib.hid (show xa9.heap.size ≤ p50 by rw [hp]; exact HW45.out.size)
              have HNE := Lib.hid (show p44 ≠ p50 by rw [hp]; exact Nat.ne_of_lt (Array.getElem?_eq_some_iff.1 HB45.out).1)
              have HF50 := Lib.hid (HF45.out.near nY)
              have HB50 := Lib.hid (keepN nY HB45.out)
              have HW50 := Lib.hid (HW45.out.trans nY)
              refine hK.out _ _ (HSA2.out _ HW50.out) (fun hHeld => ?_)
              clear hK K hy nY hp hHeld
              try simp only [Act.put, List.setIfInBounds_toArray, List.set_cons_zero, List.set_cons_succ]
              refine wpAnyH_ready (rs := [5]) (by kernel_rfl) (by simp) ?_
              refine consH5 (fun K hK => ?_) ?_
              · go_simp
                go_at_call 46
                refine (forall_f (HFA2.out.near HW50.out) hm).mono ?_
                rintro e x51 ⟨v, rfl, dd, nY⟩
                obtain ⟨aa51, bb51, cc51, dd51, rfl⟩ := dd.form
                have HG51 := Lib.hid dd
                have HF51 := Lib.hid (HF50.out.near nY)
                have HA51 := Lib.hid (keepN nY HA50.out)
                have HB51 := Lib.hid (keepN nY HB50.out)
                have HW51 := Lib.hid (HW50.out.trans nY)
                refine hK.out _ _ (HSA2.out _ HW51.out) (fun hHeld => ?_)
                clear hK K dd nY hHeld
                try simp only [Act.put, List.setIfInBounds_toArray, List.set_cons_zero, List.set_cons_succ]
                have zz0 := cell1 (o := 0) HA51.out rfl
                have zz1 := cell1 (o := 1) HA51.out rfl
                have zzf := free1 HA51.out
                refine wpAnyH_ready (rs := [8]) (by kernel_rfl) (by simp) ?_
                refine consH8 (fun K hK => ?_) ?_
                · go_simp
                  obtain ⟨x52, hy⟩ : ∃ y, y = (x51.setCell ⟨p50, 0, none⟩ (.slice aa45 bb45 cc45)).setCell ⟨p50, 1, none⟩ (.int .i64 dd45) := ⟨_, rfl⟩
                  have HA52 := Lib.hid (show x52.heap[p50]? = some (.cells #[(.slice aa45 bb45 cc45), (.int .i64 dd45)] 31 (0, 0)) by rw [hy]; exact setCell2_eq HA51.out _ _)
                  have HB52 := Lib.hid (show x52.heap[p44]? = _ from (by rw [hy]; exact setCell2_ne (HNE.out) _ _ : x52.heap[p44]? = x51.heap[p44]?).trans HB51.out)
                  have HF52 := Lib.hid (show IsF x52 _ _ by rw [hy]; exact HF51.out.keptOf (kept_set2 (S := fun k => k = p50) (Kept.refl _ _) rfl _ _) HA51.out)
                  have HG52 := Lib.hid (show IsF x52 _ _ by rw [hy]; exact HG51.out.keptOf (kept_set2 (S := fun k => k = p50) (Kept.refl _ _) rfl _ _) HA51.out)
                  have HW52 := Lib.hid (show Near xa9 x52 by rw [hy]; exact (HW51.out.set HP50.out _).set HP50.out _)
                  rw [← hy]
                  refine hK.out _ _ (HSA2.out _ HW52.out) (fun hHeld => ?_)
                  clear hK K hy hHeld zz0 zz1 zzf
                  try simp only [Act.put, List.setIfInBounds_toArray, List.set_cons_zero, List.set_cons_succ]
                  have zz0 := cell1 (o := 0) HB52.out rfl
                  have zz1 := cell1 (o := 1) HB52.out rfl
                  have zzf := free1 HB52.out
                  refine wpAnyH_ready (rs := [9]) (by kernel_rfl) (by simp) ?_
                  refine consH9 (fun K hK => ?_) ?_
                  · go_simp
                    obtain ⟨x53, hy⟩ : ∃ y, y = (x52.setCell ⟨p44, 0, none⟩ (.slice aa51 bb51 cc51)).setCell ⟨p44, 1, none⟩ (.int .i64 dd51) := ⟨_, rfl⟩
                    have HB53 := Lib.hid (show x53.heap[p44]? = some (.cells #[(.slice aa51 bb51 cc51), (.int .i64 dd51)] 31 (0, 0)) by rw [hy]; exact setCell2_eq HB52.out _ _)
                    have HA53 := Lib.hid (show x53.heap[p50]? = _ from (by rw [hy]; exact setCell2_ne (HNE.out.symm) _ _ : x53.heap[p50]? = x52.heap[p50]?).trans HA52.out)
                    have HF53 := Lib.hid (show IsF x53 _ _ by rw [hy]; exact HF52.out.keptOf (kept_set2 (S := fun k => k = p44) (Kept.refl _ _) rfl _ _) HB52.out)
                    have HG53 := Lib.hid (show IsF x53 _ _ by rw [hy]; exact HG52.out.keptOf (kept_set2 (S := fun k => k = p44) (Kept.refl _ _) rfl _ _) HB52.out)
                    have HW53 := Lib.hid (show Near xa9 x53 by rw [hy]; exact (HW52.out.set HP44.out _).set HP44.out _)
                    rw [← hy]
                    refine hK.out _ _ (HSA2.out _ HW53.out) (fun hHeld => ?_)
                    clear hK K hy hHeld zz0 zz1 zzf
                    try simp only [Act.put, List.setIfInBounds_toArray, List.set_cons_zero, List.set_cons_succ]
                    refine wpAnyH_done (by kernel_rfl) ?_ _
                    refine NoPanic.normal ?_
                    go_wp2_with fail
                    go_meet
                    exact ⟨_, _, _, _, _, _, _, _, _, _, rfl, rfl, HP50.out, HP44.out, HA53.out, HB53.out, HF53.out, HG53.out, HW53.out⟩
                  exact AllReadyH.nil
                exact AllReadyH.nil
              exact AllReadyH.nil
            exact AllReadyH.nil
          refine consH6 (fun K hK => ?_) ?_
          · go_simp
            obtain ⟨x54, hy⟩ : ∃ y, y = x44.alloc (.cells #[.slice none 0 0, .int .i64 0] 31) := ⟨_, rfl⟩
            have nY : Near x44 x54 := by rw [hy]; exact (Near.refl x44).alloc _
            have HA54 := Lib.hid (show x54.heap[x44.heap.size]? = some (.cells #[.slice none 0 0, .int .i64 0] 31 (0, 0)) by rw [hy]; exact heap_new_at rfl)
            rw [← hy]
            obtain ⟨p54, hp⟩ : ∃ p, p = x44.heap.size := ⟨_, rfl⟩
            rw [← hp] at HA54 ⊢
            have HP54 := Lib.hid (show xa9.heap.size ≤ p54 by rw [hp]; exact HW44.out.size)
            have HNE := Lib.hid (show p44 ≠ p54 by rw [hp]; exact Nat.ne_of_lt (Array.getElem?_eq_some_iff.1 HB44.out).1)
            have HB54 := Lib.hid (keepN nY HB44.out)
            have HW54 := Lib.hid (HW44.out.trans nY)
            refine hK.out _ _ (HSA2.out _ HW54.out) (fun hHeld => ?_)
            clear hK K hy nY hp hHeld
            try simp only [Act.put, List.setIfInBounds_toArray, List.set_cons_zero, List.set_cons_succ]
            refine wpAnyH_ready (rs := [2]) (by kernel_rfl) (by simp) ?_
            refine consH2 (fun K hK => ?_) ?_
            · go_simp
              go_at_call 45
              refine (exists_f (HFA2.out.near HW54.out) hm).mono ?_
              rintro e x55 ⟨v, rfl, dd, nY⟩
              obtain ⟨aa55, bb55, cc55, dd55, rfl⟩ := dd.form
              have HF55 := Lib.hid dd
              have HA55 := Lib.hid (keepN nY HA54.out)
              have HB55 := Lib.hid (keepN nY HB54.out)
              have HW55 := Lib.hid (HW54.out.trans nY)
              refine hK.out _ _ (HSA2.out _ HW55.out) (fun hHeld => ?_)
              clear hK K dd nY hHeld
              try simp only [Act.put, List.setIfInBounds_toArray, List.set_cons_zero, List.set_cons_succ]
              refine wpAnyH_ready (rs := [5]) (by kernel_rfl) (by simp) ?_
              refine consH5 (fun K hK => ?_) ?_
              · go_simp
                go_at_call 46
                refine (forall_f (HFA2.out.near HW55.out) hm).mono ?_
                rintro e x56 ⟨v, rfl, dd, nY⟩
                obtain ⟨aa56, bb56, cc56, dd56, rfl⟩ := dd.form
                have HG56 := Lib.hid dd
                have HF56 := Lib.hid (HF55.out.near nY)
                have HA56 := Lib.hid (keepN nY HA55.out)
                have HB56 := Lib.hid (keepN nY HB55.out)
                have HW56 := Lib.hid (HW55.out.trans nY)
                refine hK.out _ _ (HSA2.out _ HW56.out) (fun hHeld => ?_)
                clear hK K dd nY hHeld
                try simp only [Act.put, List.setIfInBounds_toArray, List.set_cons_zero, List.set_cons_succ]
                have zz0 := cell1 (o := 0) HA56.out rfl
                have zz1 := cell1 (o := 1) HA56.out rfl
                have zzf := free1 HA56.out
                refine wpAnyH_ready (rs := [8]) (by kernel_rfl) (by simp) ?_
                refine consH8 (fun K hK => ?_) ?_
                · go_simp
                  obtain ⟨x57, hy⟩ : ∃ y, y = (x56.setCell ⟨p54, 0, none⟩ (.slice aa55 bb55 cc55)).setCell ⟨p54, 1, none⟩ (.int .i64 dd55) := ⟨_, rfl⟩
                  have HA57 := Lib.hid (show x57.heap[p54]? = some (.cells #[(.slice aa55 bb55 cc55), (.int .i64 dd55)] 31 (0, 0)) by rw [hy]; exact setCell2_eq HA56.out _ _)
                  have HB57 := Lib.hid (show x57.heap[p44]? = _ from (by rw [hy]; exact setCell2_ne (HNE.out) _ _ : x57.heap[p44]? = x56.heap[p44]?).trans HB56.out)
                  have HF57 := Lib.hid (show IsF x57 _ _ by rw [hy]; exact HF56.out.keptOf (kept_set2 (S := fun k => k = p54) (Kept.refl _ _) rfl _ _) HA56.out)
                  have HG57 := Lib.hid (show IsF x57 _ _ by rw [hy]; exact HG56.out.keptOf (kept_set2 (S := fun k => k = p54) (Kept.refl _ _) rfl _ _) HA56.out)
                  have HW57 := Lib.hid (show Near xa9 x57 by rw [hy]; exact (HW56.out.set HP54.out _).set HP54.out _)
                  rw [← hy]
                  refine hK.out _ _ (HSA2.out _ HW57.out) (fun hHeld => ?_)
                  clear hK K hy hHeld zz0 zz1 zzf
                  try simp only [Act.put, List.setIfInBounds_toArray, List.set_cons_zero, List.set_cons_succ]
                  have zz0 := cell1 (o := 0) HB57.out rfl
                  have zz1 := cell1 (o := 1) HB57.out rfl
                  have zzf := free1 HB57.out
                  refine wpAnyH_ready (rs := [9]) (by kernel_rfl) (by simp) ?_
                  refine consH9 (fun K hK => ?_) ?_
                  · go_simp
                    obtain ⟨x58, hy⟩ : ∃ y, y = (x57.setCell ⟨p44, 0, none⟩ (.slice aa56 bb56 cc56)).setCell ⟨p44, 1, none⟩ (.int .i64 dd56) := ⟨_, rfl⟩
                    have HB58 := Lib.hid (show x58.heap[p44]? = some (.cells #[(.slice aa56 bb56 cc56), (.int .i64 dd56)] 31 (0, 0)) by rw [hy]; exact setCell2_eq HB57.out _ _)
                    have HA58 := Lib.hid (show x58.heap[p54]? = _ from (by rw [hy]; exact setCell2_ne (HNE.out.symm) _ _ : x58.heap[p54]? = x57.heap[p54]?).trans HA57.out)
                    have HF58 := Lib.hid (show IsF x58 _ _ by rw [hy]; exact HF57.out.keptOf (kept_set2 (S := fun k => k = p44) (Kept.refl _ _) rfl _ _) HB57.out)
                    have HG58 := Lib.hid (show IsF x58 _ _ by rw [hy]; exact HG57.out.keptOf (kept_set2 (S := fun k => k = p44) (Kept.refl _ _) rfl _ _) HB57.out)
                    have HW58 := Lib.hid (show Near xa9 x58 by rw [hy]; exact (HW57.out.set HP44.out _).set HP44.out _)
                    rw [← hy]
                    refine hK.out _ _ (HSA2.out _ HW58.out) (fun hHeld => ?_)
                    clear hK K hy hHeld zz0 zz1 zzf
                    try simp only [Act.put, List.setIfInBounds_toArray, List.set_cons_zero, List.set_cons_succ]
                    refine wpAnyH_done (by kernel_rfl) ?_ _
                    refine NoPanic.normal ?_
                    go_wp2_with fail
                    go_meet
                    exact ⟨_, _, _, _, _, _, _, _, _, _, rfl, rfl, HP54.out, HP44.out, HA58.out, HB58.out, HF58.out, HG58.out, HW58.out⟩
                  exact AllReadyH.nil
                exact AllReadyH.nil
              exact AllReadyH.nil
            exact AllReadyH.nil
          exact AllReadyH.nil
        exact AllReadyH.nil
      case rest =>
        rename World => Wc
        obtain ⟨px, py, x1, x2, x3, x4, y1, y2, y3, y4, rfl, rfl, -, -, hX, hY, iX, iY, hN⟩ := hcut
        have HX := Lib.hid iX
        have HY := Lib.hid iY
        have HFA3 := Lib.hid (HFA2.out.near hN)
        have HFB3 := Lib.hid (HFB2.out.near hN)
        have HNW3 := Lib.hid (HNW2.out.trans hN)
        have HBA3 := Lib.hid (keepN hN HBA2.out)
        have HBB3 := Lib.hid (keepN hN HBB2.out)
        have HBX := Lib.hid hX
        have HBY := Lib.hid hY
        clear hX hY iX iY hN
        go_upto_region 10 with fail
        have HSKb := Lib.hid (show ∀ w', Near Wc w' → (fun w' => w'.cell? ⟨w3.heap.size, 0, none⟩ = some (.slice a1 a2 a3) ∧ w'.cell? ⟨w3.heap.size, 1, none⟩ = some (.int .i64 a4) ∧ w'.cell? ⟨w3.heap.size + 1, 0, none⟩ = some (.slice b1 b2 b3) ∧ w'.cell? ⟨w3.heap.size + 1, 1, none⟩ = some (.int .i64 b4) ∧ w'.cell? ⟨px, 0, none⟩ = some (.slice x1 x2 x3) ∧ w'.cell? ⟨px, 1, none⟩ = some (.int .i64 x4) ∧ w'.cell? ⟨py, 0, none⟩ = some (.slice y1 y2 y3) ∧ w'.cell? ⟨py, 1, none⟩ = some (.int .i64 y4)) w' from fun w' h => ⟨h.cell (cell1 (o := 0) HBA3.out rfl), h.cell (cell1 (o := 1) HBA3.out rfl), h.cell (cell1 (o := 0) HBB3.out rfl), h.cell (cell1 (o := 1) HBB3.out rfl), h.cell (cell1 (o := 0) HBX.out rfl), h.cell (cell1 (o := 1) HBX.out rfl), h.cell (cell1 (o := 0) HBY.out rfl), h.cell (cell1 (o := 1) HBY.out rfl)⟩)
        refine wp_region_noPanic ?_
        refine startM (S := (fun w' => w'.cell? ⟨w3.heap.size, 0, none⟩ = some (.slice a1 a2 a3) ∧ w'.cell? ⟨w3.heap.size, 1, none⟩ = some (.int .i64 a4) ∧ w'.cell? ⟨w3.heap.size + 1, 0, none⟩ = some (.slice b1 b2 b3) ∧ w'.cell? ⟨w3.heap.size + 1, 1, none⟩ = some (.int .i64 b4) ∧ w'.cell? ⟨px, 0, none⟩ = some (.slice x1 x2 x3) ∧ w'.cell? ⟨px, 1, none⟩ = some (.int .i64 x4) ∧ w'.cell? ⟨py, 0, none⟩ = some (.slice y1 y2 y3) ∧ w'.cell? ⟨py, 1, none⟩ = some (.int .i64 y4))) (by kernel_rfl) (by kernel_rfl) (HSKb.out _ (Near.refl _).drew) 53 rfl (fun hHeld => ?_)
        have hnd := (Near.refl Wc).drew
        generalize Wc.drew = xb0 at hnd hHeld ⊢
        have HNb0 := Lib.hid hnd
        clear hnd
        refine takeM 0 1 (v := Value.agg #[.slice y1 y2 y3, .int .i64 y4]) (by kernel_rfl) rfl (by kernel_rfl) (fun _ _ _ h => h) (by rfl) (fun w' hSw => ?_) hHeld ?_
        · go_simp
        try simp only [Act.put, List.setIfInBounds_toArray, List.set_cons_zero, List.set_cons_succ]
        refine takeM 1 3 (v := Value.agg #[.slice a1 a2 a3, .int .i64 a4]) (by kernel_rfl) rfl (by kernel_rfl) (fun _ _ _ h => h) (by rfl) (fun w' hSw => ?_) hHeld ?_
        · go_simp
        try simp only [Act.put, List.setIfInBounds_toArray, List.set_cons_zero, List.set_cons_succ]
        refine takeM 3 11 (v := Value.int .u32 (m : Int)) (by kernel_rfl) rfl (by kernel_rfl) (fun _ _ _ h => h) (by rfl) (fun w' hSw => ?_) hHeld ?_
        · go_simp
        try simp only [Act.put, List.setIfInBounds_toArray, List.set_cons_zero, List.set_cons_succ]
        refine oneM 2 15 (by kernel_rfl) rfl (by kernel_rfl) (by rfl) (fun K hK => ?_)
        go_simp
        go_at_call 32
        refine (not_f (HFA3.out.near HNb0.out)).mono ?_
        rintro e xb1 ⟨vb1, rfl, d, n'⟩
        obtain ⟨pb1, qb1, rb1, sb1, rfl⟩ := d.form
        have HDb1 := Lib.hid d
        clear d
        have HSb1 := Lib.hid n'
        have HNb1 := Lib.hid (HNb0.out.trans HSb1.out)
        clear n'
        refine hK.out _ _ (HSKb.out _ HNb1.out) (fun hHeld => ?_)
        clear hK K
        try simp only [Act.put, List.setIfInBounds_toArray, List.set_cons_zero, List.set_cons_succ]
        refine oneM 4 31 (by kernel_rfl) rfl (by kernel_rfl) (by rfl) (fun K hK => ?_)
        go_simp
        go_at_call 45
        refine (exists_f HDb1.out hm).mono ?_
        rintro e xb2 ⟨vb2, rfl, d, n'⟩
        obtain ⟨pb2, qb2, rb2, sb2, rfl⟩ := d.form
        have HDb2 := Lib.hid d
        clear d
        have HSb2 := Lib.hid n'
        have HNb2 := Lib.hid (HNb1.out.trans HSb2.out)
        clear n'
        refine hK.out _ _ (HSKb.out _ HNb2.out) (fun hHeld => ?_)
        clear hK K
        try simp only [Act.put, List.setIfInBounds_toArray, List.set_cons_zero, List.set_cons_succ]
        refine oneM 5 63 (by kernel_rfl) rfl (by kernel_rfl) (by rfl) (fun K hK => ?_)
        go_simp
        go_at_call 32
        refine (not_f HDb2.out).mono ?_
        rintro e xb3 ⟨vb3, rfl, d, n'⟩
        obtain ⟨pb3, qb3, rb3, sb3, rfl⟩ := d.form
        have HDb3 := Lib.hid d
        clear d
        have HSb3 := Lib.hid n'
        have HNb3 := Lib.hid (HNb2.out.trans HSb3.out)
        clear n'
        refine hK.out _ _ (HSKb.out _ HNb3.out) (fun hHeld => ?_)
        clear hK K
        try simp only [Act.put, List.setIfInBounds_toArray, List.set_cons_zero, List.set_cons_succ]
        refine oneM 6 127 (by kernel_rfl) rfl (by kernel_rfl) (by rfl) (fun K hK => ?_)
        go_simp
        go_at_call 42
        refine (equal_f (HY.out.near HNb3.out) HDb3.out (fun c => faF_not (feats m) fa c)).mono ?_
        rintro e xb4 ⟨rfl, n'⟩
        have HSb4 := Lib.hid n'
        have HNb4 := Lib.hid (HNb3.out.trans HSb4.out)
        clear n'
        refine hK.out _ _ (HSKb.out _ HNb4.out) (fun hHeld => ?_)
        clear hK K
        try simp only [Act.put, List.setIfInBounds_toArray, List.set_cons_zero, List.set_cons_succ]
        refine takeM 7 255 (v := Value.bool true) (by kernel_rfl) rfl (by kernel_rfl) (fun _ _ _ h => h) (by rfl) (fun w' hSw => ?_) hHeld ?_
        · go_simp
        try simp only [Act.put, List.setIfInBounds_toArray, List.set_cons_zero, List.set_cons_succ]
        refine takeM 8 511 (v := Value.agg #[.slice a1 a2 a3, .int .i64 a4]) (by kernel_rfl) rfl (by kernel_rfl) (fun _ _ _ h => h) (by rfl) (fun w' hSw => ?_) hHeld ?_
        · go_simp
        try simp only [Act.put, List.setIfInBounds_toArray, List.set_cons_zero, List.set_cons_succ]
        refine takeM 9 1023 (v := Value.agg #[.slice x1 x2 x3, .int .i64 x4]) (by kernel_rfl) rfl (by kernel_rfl) (fun _ _ _ h => h) (by rfl) (fun w' hSw => ?_) hHeld ?_
        · go_simp
        try simp only [Act.put, List.setIfInBounds_toArray, List.set_cons_zero, List.set_cons_succ]
        refine oneM 10 2047 (by kernel_rfl) rfl (by kernel_rfl) (by rfl) (fun K hK => ?_)
        go_simp
        go_at_call 47
        refine (within_is (HFA3.out.near HNb4.out) (HX.out.near HNb4.out) (ex_in (feats m) fa).symm).mono ?_
        rintro e xb5 ⟨rfl, n'⟩
        have HSb5 := Lib.hid n'
        have HNb5 := Lib.hid (HNb4.out.trans HSb5.out)
        clear n'
        refine hK.out _ _ (HSKb.out _ HNb5.out) (fun hHeld => ?_)
        clear hK K
        try simp only [Act.put, List.setIfInBounds_toArray, List.set_cons_zero, List.set_cons_succ]
        refine takeM 11 4095 (v := Value.bool true) (by kernel_rfl) rfl (by kernel_rfl) (fun _ _ _ h => h) (by rfl) (fun w' hSw => ?_) hHeld ?_
        · go_simp
        try simp only [Act.put, List.setIfInBounds_toArray, List.set_cons_zero, List.set_cons_succ]
        refine takeM 12 8191 (v := Value.bool true) (by kernel_rfl) rfl (by kernel_rfl) (fun _ _ _ h => h) (by rfl) (fun w' hSw => ?_) hHeld ?_
        · go_simp
        try simp only [Act.put, List.setIfInBounds_toArray, List.set_cons_zero, List.set_cons_succ]
        refine takeM 13 16383 (v := Value.agg #[.slice y1 y2 y3, .int .i64 y4]) (by kernel_rfl) rfl (by kernel_rfl) (fun _ _ _ h => h) (by rfl) (fun w' hSw => ?_) hHeld ?_
        · go_simp
        try simp only [Act.put, List.setIfInBounds_toArray, List.set_cons_zero, List.set_cons_succ]
        refine takeM 14 32767 (v := Value.agg #[.slice a1 a2 a3, .int .i64 a4]) (by kernel_rfl) rfl (by kernel_rfl) (fun _ _ _ h => h) (by rfl) (fun w' hSw => ?_) hHeld ?_
        · go_simp
        try simp only [Act.put, List.setIfInBounds_toArray, List.set_cons_zero, List.set_cons_succ]
        refine oneM 15 65535 (by kernel_rfl) rfl (by kernel_rfl) (by rfl) (fun K hK => ?_)
        go_simp
        go_at_call 47
        refine (within_is (HY.out.near HNb5.out) (HFA3.out.near HNb5.out) (fa_in (feats m) fa).symm).mono ?_
        rintro e xb6 ⟨rfl, n'⟩
        have HSb6 := Lib.hid n'
        have HNb6 := Lib.hid (HNb5.out.trans HSb6.out)
        clear n'
        refine hK.out _ _ (HSKb.out _ HNb6.out) (fun hHeld => ?_)
        clear hK K
        try simp only [Act.put, List.setIfInBounds_toArray, List.set_cons_zero, List.set_cons_succ]
        refine takeM 16 131071 (v := Value.bool true) (by kernel_rfl) rfl (by kernel_rfl) (fun _ _ _ h => h) (by rfl) (fun w' hSw => ?_) hHeld ?_
        · go_simp
        try simp only [Act.put, List.setIfInBounds_toArray, List.set_cons_zero, List.set_cons_succ]
        refine takeM 17 262143 (v := Value.bool true) (by kernel_rfl) rfl (by kernel_rfl) (fun _ _ _ h => h) (by rfl) (fun w' hSw => ?_) hHeld ?_
        · go_simp
        try simp only [Act.put, List.setIfInBounds_toArray, List.set_cons_zero, List.set_cons_succ]
        refine takeM 18 524287 (v := Value.agg #[.slice x1 x2 x3, .int .i64 x4]) (by kernel_rfl) rfl (by kernel_rfl) (fun _ _ _ h => h) (by rfl) (fun w' hSw => ?_) hHeld ?_
        · go_simp
        try simp only [Act.put, List.setIfInBounds_toArray, List.set_cons_zero, List.set_cons_succ]
        refine takeM 20 1572863 (v := Value.agg #[.slice y1 y2 y3, .int .i64 y4]) (by kernel_rfl) rfl (by kernel_rfl) (fun _ _ _ h => h) (by rfl) (fun w' hSw => ?_) hHeld ?_
        · go_simp
        try simp only [Act.put, List.setIfInBounds_toArray, List.set_cons_zero, List.set_cons_succ]
        refine takeM 23 9961471 (v := Value.int .u32 (m : Int)) (by kernel_rfl) rfl (by kernel_rfl) (fun _ _ _ h => h) (by rfl) (fun w' hSw => ?_) hHeld ?_
        · go_simp
        try simp only [Act.put, List.setIfInBounds_toArray, List.set_cons_zero, List.set_cons_succ]
        refine oneM 19 10485759 (by kernel_rfl) rfl (by kernel_rfl) (by rfl) (fun K hK => ?_)
        go_simp
        go_at_call 44
        obtain ⟨sX, hs1, hs2, hcs⟩ := support_f (HX.out.near HNb6.out)
        refine (hcs).mono ?_
        rintro e xb7 ⟨rfl, n'⟩
        have HSb7 := Lib.hid n'
        have HNb7 := Lib.hid (HNb6.out.trans HSb7.out)
        clear n'
        have hX1 := Lib.hid hs1
        have hX2 := Lib.hid hs2
        clear hs1 hs2 hcs
        refine hK.out _ _ (HSKb.out _ HNb7.out) (fun hHeld => ?_)
        clear hK K
        try simp only [Act.put, List.setIfInBounds_toArray, List.set_cons_zero, List.set_cons_succ]
        refine oneM 21 12582911 (by kernel_rfl) rfl (by kernel_rfl) (by rfl) (fun K hK => ?_)
        go_simp
        go_at_call 44
        obtain ⟨sY, hs1, hs2, hcs⟩ := support_f (HY.out.near HNb7.out)
        refine (hcs).mono ?_
        rintro e xb8 ⟨rfl, n'⟩
        have HSb8 := Lib.hid n'
        have HNb8 := Lib.hid (HNb7.out.trans HSb8.out)
        clear n'
        have hb := supp_clear hm hX1.out hs1 hX2.out hs2
        clear hs1 hs2 hcs
        refine hK.out _ _ (HSKb.out _ HNb8.out) (fun hHeld => ?_)
        clear hK K
        try simp only [Act.put, List.setIfInBounds_toArray, List.set_cons_zero, List.set_cons_succ]
        refine takeM 22 16777215 (v := Value.int .u32 (bits .or .u32 (sX : Int) (sY : Int))) (by kernel_rfl) rfl (by kernel_rfl) (fun _ _ _ h => h) (by rfl) (fun w' hSw => ?_) hHeld ?_
        · go_simp
        try simp only [Act.put, List.setIfInBounds_toArray, List.set_cons_zero, List.set_cons_succ]
        refine takeM 24 33554431 (v := Value.int .u32 (bits .and .u32 (bits .or .u32 (sX : Int) (sY : Int)) (m : Int))) (by kernel_rfl) rfl (by kernel_rfl) (fun _ _ _ h => h) (by rfl) (fun w' hSw => ?_) hHeld ?_
        · go_simp
        try simp only [Act.put, List.setIfInBounds_toArray, List.set_cons_zero, List.set_cons_succ]
        refine takeM 25 67108863 (v := Value.bool true) (by kernel_rfl) rfl (by kernel_rfl) (fun _ _ _ h => h) (by rfl) (fun w' hSw => ?_) hHeld ?_
        · go_simp
        try simp only [Act.put, List.setIfInBounds_toArray, List.set_cons_zero, List.set_cons_succ]
        refine takeM 26 134217727 (v := Value.bool true) (by kernel_rfl) rfl (by kernel_rfl) (fun _ _ _ h => h) (by rfl) (fun w' hSw => ?_) hHeld ?_
        · go_simp
        try simp only [Act.put, List.setIfInBounds_toArray, List.set_cons_zero, List.set_cons_succ]
        refine takeM 27 268435455 (v := Value.bool true) (by kernel_rfl) rfl (by kernel_rfl) (fun _ _ _ h => h) (by rfl) (fun w' hSw => ?_) hHeld ?_
        · go_simp
        try simp only [Act.put, List.setIfInBounds_toArray, List.set_cons_zero, List.set_cons_succ]
        refine takeM 28 536870911 (v := Value.agg #[.slice a1 a2 a3, .int .i64 a4]) (by kernel_rfl) rfl (by kernel_rfl) (fun _ _ _ h => h) (by rfl) (fun w' hSw => ?_) hHeld ?_
        · go_simp
        try simp only [Act.put, List.setIfInBounds_toArray, List.set_cons_zero, List.set_cons_succ]
        refine takeM 29 1073741823 (v := Value.agg #[.slice b1 b2 b3, .int .i64 b4]) (by kernel_rfl) rfl (by kernel_rfl) (fun _ _ _ h => h) (by rfl) (fun w' hSw => ?_) hHeld ?_
        · go_simp
        try simp only [Act.put, List.setIfInBounds_toArray, List.set_cons_zero, List.set_cons_succ]
        refine takeM 31 3221225471 (v := Value.int .u32 (m : Int)) (by kernel_rfl) rfl (by kernel_rfl) (fun _ _ _ h => h) (by rfl) (fun w' hSw => ?_) hHeld ?_
        · go_simp
        try simp only [Act.put, List.setIfInBounds_toArray, List.set_cons_zero, List.set_cons_succ]
        refine takeM 33 11811160063 (v := Value.agg #[.slice x1 x2 x3, .int .i64 x4]) (by kernel_rfl) rfl (by kernel_rfl) (fun _ _ _ h => h) (by rfl) (fun w' hSw => ?_) hHeld ?_
        · go_simp
        try simp only [Act.put, List.setIfInBounds_toArray, List.set_cons_zero, List.set_cons_succ]
        refine takeM 34 28991029247 (v := Value.agg #[.slice b1 b2 b3, .int .i64 b4]) (by kernel_rfl) rfl (by kernel_rfl) (fun _ _ _ h => h) (by rfl) (fun w' hSw => ?_) hHeld ?_
        · go_simp
        try simp only [Act.put, List.setIfInBounds_toArray, List.set_cons_zero, List.set_cons_succ]
        refine takeM 35 63350767615 (v := Value.int .u32 (m : Int)) (by kernel_rfl) rfl (by kernel_rfl) (fun _ _ _ h => h) (by rfl) (fun w' hSw => ?_) hHeld ?_
        · go_simp
        try simp only [Act.put, List.setIfInBounds_toArray, List.set_cons_zero, List.set_cons_succ]
        refine oneM 30 64424509439 (by kernel_rfl) rfl (by kernel_rfl) (by rfl) (fun K hK => ?_)
        go_simp
        go_at_call 33
        refine (or_f (HFA3.out.near HNb8.out) (HFB3.out.near HNb8.out)).mono ?_
        rintro e xb9 ⟨vb9, rfl, d, n'⟩
        obtain ⟨pb9, qb9, rb9, sb9, rfl⟩ := d.form
        have HDb9 := Lib.hid d
        clear d
        have HSb9 := Lib.hid n'
        have HNb9 := Lib.hid (HNb8.out.trans HSb9.out)
        clear n'
        refine hK.out _ _ (HSKb.out _ HNb9.out) (fun hHeld => ?_)
        clear hK K
        try simp only [Act.put, List.setIfInBounds_toArray, List.set_cons_zero, List.set_cons_succ]
        refine oneM 32 68719476735 (by kernel_rfl) rfl (by kernel_rfl) (by rfl) (fun K hK => ?_)
        go_simp
        go_at_call 45
        refine (exists_f HDb9.out hm).mono ?_
        rintro e xb10 ⟨vb10, rfl, d, n'⟩
        obtain ⟨pb10, qb10, rb10, sb10, rfl⟩ := d.form
        have HDb10 := Lib.hid d
        clear d
        have HSb10 := Lib.hid n'
        have HNb10 := Lib.hid (HNb9.out.trans HSb10.out)
        clear n'
        refine hK.out _ _ (HSKb.out _ HNb10.out) (fun hHeld => ?_)
        clear hK K
        try simp only [Act.put, List.setIfInBounds_toArray, List.set_cons_zero, List.set_cons_succ]
        refine oneM 36 137438953471 (by kernel_rfl) rfl (by kernel_rfl) (by rfl) (fun K hK => ?_)
        go_simp
        go_at_call 45
        refine (exists_f (HFB3.out.near HNb10.out) hm).mono ?_
        rintro e xb11 ⟨vb11, rfl, d, n'⟩
        obtain ⟨pb11, qb11, rb11, sb11, rfl⟩ := d.form
        have HDb11 := Lib.hid d
        clear d
        have HSb11 := Lib.hid n'
        have HNb11 := Lib.hid (HNb10.out.trans HSb11.out)
        clear n'
        refine hK.out _ _ (HSKb.out _ HNb11.out) (fun hHeld => ?_)
        clear hK K
        try simp only [Act.put, List.setIfInBounds_toArray, List.set_cons_zero, List.set_cons_succ]
        refine oneM 37 274877906943 (by kernel_rfl) rfl (by kernel_rfl) (by rfl) (fun K hK => ?_)
        go_simp
        go_at_call 33
        refine (or_f (HX.out.near HNb11.out) HDb11.out).mono ?_
        rintro e xb12 ⟨vb12, rfl, d, n'⟩
        obtain ⟨pb12, qb12, rb12, sb12, rfl⟩ := d.form
        have HDb12 := Lib.hid d
        clear d
        have HSb12 := Lib.hid n'
        have HNb12 := Lib.hid (HNb11.out.trans HSb12.out)
        clear n'
        refine hK.out _ _ (HSKb.out _ HNb12.out) (fun hHeld => ?_)
        clear hK K
        try simp only [Act.put, List.setIfInBounds_toArray, List.set_cons_zero, List.set_cons_succ]
        refine oneM 38 549755813887 (by kernel_rfl) rfl (by kernel_rfl) (by rfl) (fun K hK => ?_)
        go_simp
        go_at_call 42
        refine (equal_f (HDb10.out.near (HSb11.out.trans HSb12.out)) HDb12.out (fun c => ex_or (feats m) fa fb c)).mono ?_
        rintro e xb13 ⟨rfl, n'⟩
        have HSb13 := Lib.hid n'
        have HNb13 := Lib.hid (HNb12.out.trans HSb13.out)
        clear n'
        refine hK.out _ _ (HSKb.out _ HNb13.out) (fun hHeld => ?_)
        clear hK K
        try simp only [Act.put, List.setIfInBounds_toArray, List.set_cons_zero, List.set_cons_succ]
        refine takeM 39 1099511627775 (v := Value.bool true) (by kernel_rfl) rfl (by kernel_rfl) (fun _ _ _ h => h) (by rfl) (fun w' hSw => ?_) hHeld ?_
        · go_simp
        try simp only [Act.put, List.setIfInBounds_toArray, List.set_cons_zero, List.set_cons_succ]
        refine takeM 40 2199023255551 (v := Value.bool true) (by kernel_rfl) rfl (by kernel_rfl) (fun _ _ _ h => h) (by rfl) (fun w' hSw => ?_) hHeld ?_
        · go_simp
        try simp only [Act.put, List.setIfInBounds_toArray, List.set_cons_zero, List.set_cons_succ]
        refine takeM 41 4398046511103 (v := Value.agg #[.slice a1 a2 a3, .int .i64 a4]) (by kernel_rfl) rfl (by kernel_rfl) (fun _ _ _ h => h) (by rfl) (fun w' hSw => ?_) hHeld ?_
        · go_simp
        try simp only [Act.put, List.setIfInBounds_toArray, List.set_cons_zero, List.set_cons_succ]
        refine takeM 42 8796093022207 (v := Value.int .u32 (m : Int)) (by kernel_rfl) rfl (by kernel_rfl) (fun _ _ _ h => h) (by rfl) (fun w' hSw => ?_) hHeld ?_
        · go_simp
        try simp only [Act.put, List.setIfInBounds_toArray, List.set_cons_zero, List.set_cons_succ]
        refine takeM 44 26388279066623 (v := Value.int .u32 (m : Int)) (by kernel_rfl) rfl (by kernel_rfl) (fun _ _ _ h => h) (by rfl) (fun w' hSw => ?_) hHeld ?_
        · go_simp
        try simp only [Act.put, List.setIfInBounds_toArray, List.set_cons_zero, List.set_cons_succ]
        refine takeM 46 96757023244287 (v := Value.agg #[.slice x1 x2 x3, .int .i64 x4]) (by kernel_rfl) rfl (by kernel_rfl) (fun _ _ _ h => h) (by rfl) (fun w' hSw => ?_) hHeld ?_
        · go_simp
        try simp only [Act.put, List.setIfInBounds_toArray, List.set_cons_zero, List.set_cons_succ]
        refine oneM 43 105553116266495 (by kernel_rfl) rfl (by kernel_rfl) (by rfl) (fun K hK => ?_)
        go_simp
        go_at_call 45
        refine (exists_f (HFA3.out.near HNb13.out) hm).mono ?_
        rintro e xb14 ⟨vb14, rfl, d, n'⟩
        obtain ⟨pb14, qb14, rb14, sb14, rfl⟩ := d.form
        have HDb14 := Lib.hid d
        clear d
        have HSb14 := Lib.hid n'
        have HNb14 := Lib.hid (HNb13.out.trans HSb14.out)
        clear n'
        refine hK.out _ _ (HSKb.out _ HNb14.out) (fun hHeld => ?_)
        clear hK K
        try simp only [Act.put, List.setIfInBounds_toArray, List.set_cons_zero, List.set_cons_succ]
        refine oneM 45 140737488355327 (by kernel_rfl) rfl (by kernel_rfl) (by rfl) (fun K hK => ?_)
        go_simp
        go_at_call 45
        refine (exists_f HDb14.out hm).mono ?_
        rintro e xb15 ⟨vb15, rfl, d, n'⟩
        obtain ⟨pb15, qb15, rb15, sb15, rfl⟩ := d.form
        have HDb15 := Lib.hid d
        clear d
        have HSb15 := Lib.hid n'
        have HNb15 := Lib.hid (HNb14.out.trans HSb15.out)
        clear n'
        refine hK.out _ _ (HSKb.out _ HNb15.out) (fun hHeld => ?_)
        clear hK K
        try simp only [Act.put, List.setIfInBounds_toArray, List.set_cons_zero, List.set_cons_succ]
        refine oneM 47 281474976710655 (by kernel_rfl) rfl (by kernel_rfl) (by rfl) (fun K hK => ?_)
        go_simp
        go_at_call 42
        refine (equal_f HDb15.out (HX.out.near HNb15.out) (fun c => ex_ex (feats m) fa c)).mono ?_
        rintro e xb16 ⟨rfl, n'⟩
        have HSb16 := Lib.hid n'
        have HNb16 := Lib.hid (HNb15.out.trans HSb16.out)
        clear n'
        refine hK.out _ _ (HSKb.out _ HNb16.out) (fun hHeld => ?_)
        clear hK K
        try simp only [Act.put, List.setIfInBounds_toArray, List.set_cons_zero, List.set_cons_succ]
        refine takeM 48 562949953421311 (v := Value.bool true) (by kernel_rfl) rfl (by kernel_rfl) (fun _ _ _ h => h) (by rfl) (fun w' hSw => ?_) hHeld ?_
        · go_simp
        try simp only [Act.put, List.setIfInBounds_toArray, List.set_cons_zero, List.set_cons_succ]
        refine takeM 49 1125899906842623 (v := Value.bool true) (by kernel_rfl) rfl (by kernel_rfl) (fun _ _ _ h => h) (by rfl) (fun w' hSw => ?_) hHeld ?_
        · go_simp
        try simp only [Act.put, List.setIfInBounds_toArray, List.set_cons_zero, List.set_cons_succ]
        refine oneM 50 2251799813685247 (by kernel_rfl) rfl (by kernel_rfl) (by rfl) (fun K hK => ?_)
        go_simp
        go_at_call 17
        refine (wakes_calls _).mono ?_
        rintro e xb17 ⟨rfl, n'⟩
        have HSb17 := Lib.hid n'
        have HNb17 := Lib.hid (HNb16.out.trans HSb17.out)
        clear n'
        refine hK.out _ _ (HSKb.out _ HNb17.out) (fun hHeld => ?_)
        clear hK K
        try simp only [Act.put, List.setIfInBounds_toArray, List.set_cons_zero, List.set_cons_succ]
        refine takeM 51 4503599627370495 (v := Value.bool true) (by kernel_rfl) rfl (by kernel_rfl) (fun _ _ _ h => h) (by rfl) (fun w' hSw => ?_) hHeld ?_
        · go_simp
        try simp only [Act.put, List.setIfInBounds_toArray, List.set_cons_zero, List.set_cons_succ]
        refine takeM 52 9007199254740991 (v := Value.bool true) (by kernel_rfl) rfl (by kernel_rfl) (fun _ _ _ h => h) (by rfl) (fun w' hSw => ?_) hHeld ?_
        · go_simp
        try simp only [Act.put, List.setIfInBounds_toArray, List.set_cons_zero, List.set_cons_succ]
        refine doneM (by kernel_rfl) ?_
        refine NoPanic.normal ?_
        go_wp2_with fail
        go_ret
        exact ⟨rfl, HNW3.out.trans HNb17.out⟩
  · have hd : decide (ThreeOk l) = false := decide_eq_false hok
    have HD := Lib.hid hd
    clear hd hok
    go_enter Try.func10, Try.ntmps10
    go_wp2_with (first
      | (go_at_call 31; refine H3.out.mono ?_; rintro e w3 h3; obtain ⟨a1, a2, a3, a4, b1, b2, b3, b4, c1, c2, c3, c4, rfl, ia, ib, ic, n3⟩ := h3.mk; rw [HD.out]; have HN3 := Lib.hid n3; clear ia ib ic n3)
      | (go_at_call 17; refine (wakes_calls _).mono ?_; rintro e w4 ⟨rfl, n4⟩))
    go_ret
    exact ⟨rfl, (((HN3.out.alloc _).alloc _).alloc _).trans n4⟩

end Go.Proofs.Ytefclohjeompkaa
