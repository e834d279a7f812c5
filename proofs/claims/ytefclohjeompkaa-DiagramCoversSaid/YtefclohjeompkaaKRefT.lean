/- Parts of a proof: LinG, LinH, RefS, RefT. -/
import Derived.Test.YtefclohjeompkaaKLinF
import Derived.Test.YtefclohjeompkaaKRefP
import Derived.Test.YtefclohjeompkaaKEachB
import Derived.Test.YtefclohjeompkaaKRefQ
/- Linear's 'from': the walk where no span is known. -/
namespace Go.Proofs.Ytefclohjeompkaa
open Go Go.RowKit Go.Proofs.Gen Go.Proofs.Bdd Go.Proofs.Bdd.T

set_option maxRecDepth 100000 in
set_option maxHeartbeats 6400000 in
set_option linter.unusedSimpArgs false in
theorem from_new {w : World} {b mb : Nat} {S : Nat → Prop} {cost : Nat → Int} {g : Int → Bool} {ev : Value} {kv : Nat → Value} {es : List Dec} {L : List T} {ks : Nat → List Dec} {i k : Nat} (hik : i + k = 23) (h : FromPre w b mb S cost g ev kv es L ks (k + 1)) {s : Int}
    (hs : -(2147483648 * (i : Int)) ≤ s ∧ s ≤ 2147483648 * (i : Int)) (hno : ∀ y ∈ ks i, ¬ inSpan s y)
    (ih : ∀ (w : World) (S : Nat → Prop) (L : List T) (kv : Nat → Value) (ks : Nat → List Dec) (s j : Int), FromPre w b mb S cost g ev kv es L ks k → j = (i : Int) + 1 → -(2147483648 * ((i : Int) + 1)) ≤ s ∧ s ≤ 2147483648 * ((i : Int) + 1) →
      Calls Try.prog 145 #[.pointer (some ⟨b, 0, none⟩), .int .i64 j, .int .i64 s] w (FromPost w b mb S cost g ev es L ks k s)) :
    Calls Try.prog 145 #[.pointer (some ⟨b, 0, none⟩), .int .i64 i, .int .i64 s] w (FromPost w b mb S cost g ev es L ks (k + 1) s) := by
  obtain ⟨i0, hi0, jz0, jz1, jz2⟩ := info_parts info188
  have hi : i < 24 := by omega
  have hi' : (i : Int) < 24 := by omega
  have hi1 : IntKind.i64.wrap ((i : Int) + 1) = (i : Int) + 1 := IntWalk.i64_in _ (by omega)
  have A0 := (Near.refl w).alloc (.cells #[.int .i64 0, .int .i64 0, .int .i64 0] 188)
  have g25 : (w.alloc (.cells #[.int .i64 0, .int .i64 0, .int .i64 0] 188)).cell? ⟨b, 25, none⟩ = some ev := A0.cell (cell1 (o := 25) h.box.blk (by rw [List.getElem?_toArray]; exact linCells_ends))
  have g26 : (w.alloc (.cells #[.int .i64 0, .int .i64 0, .int .i64 0] 188)).cell? ⟨b, 26 + i, none⟩ = some (kv i) := A0.cell (cell1 (o := 26 + i) h.box.blk (by rw [List.getElem?_toArray]; exact linCells_known hi))
  obtain ⟨ao, cap, hv, hc⟩ := RdDec.row (h.box.rows i hi)
  rw [hv] at g26
  have HC := Lib.hid hc
  have HV := Lib.hid hv
  have HP := Lib.hid h
  have HNO := Lib.hid hno
  have HIH := Lib.hid ih
  have HS := Lib.hid hs
  have hll : (ks i).length < 67108864 := by have := h.rooms i; have := Nat.one_le_two_pow (n := k + 1); omega
  clear hc hv h hno ih hs
  generalize hl : ks i = l at *
  have HL := Lib.hid hl
  clear hl
  go_enter Try.func145, Try.ntmps145
  go_wp2_with fail
  have hN1 := (Near.refl w).alloc (.cells #[.int .i64 0, .int .i64 0, .int .i64 0] 188)
  have hres : (w.alloc (.cells #[.int .i64 0, .int .i64 0, .int .i64 0] 188)).heap[w.heap.size]? = some (.cells #[.int .i64 0, .int .i64 0, .int .i64 0] 188 (0, 0)) := heap_new_at rfl
  have hsz1 : (w.alloc (.cells #[.int .i64 0, .int .i64 0, .int .i64 0] 188)).heap.size = w.heap.size + 1 := by simp
  clear g25 g26 A0
  generalize w.alloc (.cells #[.int .i64 0, .int .i64 0, .int .i64 0] 188) = W1 at *
  have HN1 := Lib.hid hN1
  have HRES := Lib.hid hres
  have HSZ1 := Lib.hid hsz1
  clear hN1 hres hsz1
  go_loopw [27] (fun i wr => ∃ k : Nat, k ≤ l.length ∧ i = .int .i64 k ∧ Near W1 wr) (fun i _ => l.length - (intOf i).toNat)
  case atStart => exact ⟨0, Nat.zero_le _, rfl, Near.refl _⟩
  case round =>
    obtain ⟨q, hq, rfl, hn⟩ := hrel
    by_cases hlt : q < l.length
    · have hlt' : (q : Int) < l.length := by omega
      obtain ⟨gg, off, rfl, x0, x1, x2⟩ := HC.out q _ (List.getElem?_eq_getElem hlt)
      have p0 := hn.cell (HN1.out.cell x0)
      have p1 := hn.cell (HN1.out.cell x1)
      have p2 := hn.cell (HN1.out.cell x2)
      have hnot := HNO.out _ (List.getElem_mem hlt)
      clear x0 x1 x2
      generalize l[q] = y at p0 p1 p2 hnot
      obtain ⟨yv, yl, yp⟩ := y
      unfold inSpan at hnot
      simp only at p0 p1 p2 hnot
      have A0 := ((Near.refl wr).alloc (.cells #[.int .i64 yv, .int .i64 yl, .int .i64 yp] 188))
      by_cases h1 : yv ≤ s
      · have h2 : ¬ (s ≤ yl) := fun h => hnot ⟨h1, h⟩
        clear hnot
        go_wp2_with fail
        exact ⟨⟨q + 1, by omega, by simp, hn.trans A0⟩, by simp [intOf]; omega⟩
      · clear hnot
        go_wp2_with fail
        exact ⟨⟨q + 1, by omega, by simp, hn.trans A0⟩, by simp [intOf]; omega⟩
    · have hqe : ¬ ((q : Int) < l.length) := by omega
      have hsw := hn.size'
      have hs1 := HSZ1.out
      have hP := HP.out.shrink (HN1.out.trans hn) (z := w.heap.size) (Nat.le_refl _) (by omega)
      have HPw := Lib.hid hP
      have HNr := Lib.hid hn
      clear hP hn
      have hcost := HP.out.costs i
      have hs := HS.out
      have hw2 : IntKind.i64.wrap (s + cost i) = s + cost i := IntWalk.i64_in _ (by omega)
      have hb1 := Lib.hid (show -(2147483648 * ((i : Int) + 1)) ≤ s ∧ s ≤ 2147483648 * ((i : Int) + 1) by omega)
      have hb2 := Lib.hid (show -(2147483648 * ((i : Int) + 1)) ≤ s + cost i ∧ s + cost i ≤ 2147483648 * ((i : Int) + 1) by omega)
      clear hs hcost
      go_wp2_with (first
        | (go_at_call 145; refine (HIH.out _ _ L1 kv1 ks1 (s + cost i) _ (P2.out.shrink ((Near.refl w1).alloc _) (z := w1.heap.size) (Nat.le_refl _) (by simp)) rfl hb2.out).mono ?_; rintro e w2 ⟨⟨xv2, xl2, xp2⟩, L2, kv2, ks2, rfl, hpost2⟩; have HQ2 := Lib.hid hpost2; clear hpost2)
        | (go_at_call 145; refine (HIH.out _ _ L kv ks s _ HPw.out.less rfl hb1.out).mono ?_; rintro e w1 ⟨⟨xv1, xl1, xp1⟩, L1, kv1, ks1, rfl, hpost1⟩; have HQ1 := Lib.hid hpost1; clear hpost1; have P2 := Lib.hid (HPw.out.next (Nat.le_refl k) HQ1.out.1 HQ1.out.2.2.2.1 HQ1.out.2.2.2.2.1 HQ1.out.2.2.2.2.2.1 HQ1.out.2.2.2.2.2.2.2.1 HQ1.out.2.2.2.2.2.2.2.2); have c1 := ((Near.refl w1).alloc (.cells #[.int .i64 xv1, .int .i64 xl1, .int .i64 xp1] 188)).cell (P2.out.cost hi)))
      have hA : (w1.alloc (.cells #[.int .i64 xv1, .int .i64 xl1, .int .i64 xp1] 188)).heap[w1.heap.size]? = some (.cells #[.int .i64 xv1, .int .i64 xl1, .int .i64 xp1] 188 (0, 0)) := heap_new_at rfl
      have hK1 := HQ1.out.2.2.2.2.2.2.2.2
      have hK2 := HQ2.out.2.2.2.2.2.2.2.2
      have hz1 := hK1.size
      have hz2 := hK2.size
      have hzA : (w1.alloc (.cells #[.int .i64 xv1, .int .i64 xl1, .int .i64 xp1] 188)).heap.size = w1.heap.size + 1 := by simp
      have hA2 := (hK2.block w1.heap.size (by omega) (fun h => h.2 rfl)).trans hA
      have hR1 := (hK1.block w.heap.size (by omega) (fun h => h.2 rfl)).trans (keepN HNr.out HRES.out)
      have hR2 := (hK2.block w.heap.size (by omega) (fun h => h.1.2 rfl)).trans (keepN ((Near.refl w1).alloc (.cells #[.int .i64 xv1, .int .i64 xl1, .int .i64 xp1] 188)) hR1)
      have hB3 : (w2.alloc (.cells #[.int .i64 xv2, .int .i64 xl2, .int .i64 xp2] 188)).heap[w2.heap.size]? = some (.cells #[.int .i64 xv2, .int .i64 xl2, .int .i64 xp2] 188 (0, 0)) := heap_new_at rfl
      have N3 := (Near.refl w2).alloc (.cells #[.int .i64 xv2, .int .i64 xl2, .int .i64 xp2] 188)
      have hA3 := keepN N3 hA2
      have hR3 := keepN N3 hR2
      have hI3 := HQ2.out.1.kept N3
      have hz3 : (w2.alloc (.cells #[.int .i64 xv2, .int .i64 xl2, .int .i64 xp2] 188)).heap.size = w2.heap.size + 1 := by simp
      have HN3 := Lib.hid N3
      clear hA hA2 hR1 hR2 c1 N3
      generalize w2.alloc (.cells #[.int .i64 xv2, .int .i64 xl2, .int .i64 xp2] 188) = W3 at *
      obtain ⟨t1, i1, e1, f1, o1, l1, r1⟩ := HQ1.out.2.1
      obtain ⟨t2, i2, e2, f2, o2, l2, r2⟩ := HQ2.out.2.1
      obtain ⟨M2, hM2⟩ := HQ2.out.2.2.2.1
      have i1' : T.In L2 t1 := by rw [hM2]; exact i1.mono M2
      have e1' : xp1 = (pl L2 t1 : Nat) := by rw [hM2, T.pl_append i1]; exact e1
      have hc := HP.out.costs i
      simp only at r1 r2
      have hk24 : (k : Int) ≤ 23 := by omega
      have hv2 : IntKind.i64.wrap (xv2 - cost i) = xv2 - cost i := IntWalk.i64_in _ (by omega)
      have hv3 : IntKind.i64.wrap (xl2 - cost i) = xl2 - cost i := IntWalk.i64_in _ (by omega)
      have hlen2 : L2.length < 1099511627776 := by
        have a1 := HQ2.out.2.2.2.2.1
        have a2 := HQ1.out.2.2.2.2.1
        have a3 := HP.out.room
        have a4 : 2 ^ (k + 1) = 2 ^ k + 2 ^ k := by rw [Nat.pow_succ]; omega
        omega
      have hS3 : ∀ kk, W3.drew.heap.size ≤ kk → (fun kk => ((S kk ∧ kk ≠ w.heap.size) ∧ kk ≠ w1.heap.size) ∧ ¬ Oth W3.drew kk) kk := by
        intro kk hkk
        have hkk' : W3.heap.size ≤ kk := hkk
        refine ⟨⟨⟨HP.out.base kk (by omega), by omega⟩, by omega⟩, ?_⟩
        rintro ⟨cs, t, fr, hb, -⟩
        have := (Array.getElem?_eq_some_iff.1 hb).1
        omega
      have hsk : ∀ w', Kept (fun kk => ((S kk ∧ kk ≠ w.heap.size) ∧ kk ≠ w1.heap.size) ∧ ¬ Oth W3.drew kk) W3.drew w' →
          w'.cell? ⟨w1.heap.size, 0, none⟩ = some (.int .i64 xv1) ∧ w'.cell? ⟨w1.heap.size, 1, none⟩ = some (.int .i64 xl1) ∧ w'.cell? ⟨w1.heap.size, 2, none⟩ = some (.int .i64 xp1) ∧
          w'.cell? ⟨w2.heap.size, 0, none⟩ = some (.int .i64 xv2) ∧ w'.cell? ⟨w2.heap.size, 1, none⟩ = some (.int .i64 xl2) ∧ w'.cell? ⟨w2.heap.size, 2, none⟩ = some (.int .i64 xp2) ∧
          w'.cell? ⟨b, 0, none⟩ = some (.pointer (some ⟨mb, 0, none⟩)) ∧ w'.cell? ⟨b, 1 + i, none⟩ = some (.int .i64 (cost i)) := by
        intro w' hk
        have a1 := (hk.block _ (Array.getElem?_eq_some_iff.1 hA3).1 (fun h => h.2 ⟨_, _, _, hA3, by decide, by decide⟩)).trans hA3
        have a2 := (hk.block _ (Array.getElem?_eq_some_iff.1 hB3).1 (fun h => h.2 ⟨_, _, _, hB3, by decide, by decide⟩)).trans hB3
        have a3 := (hk.block _ (Array.getElem?_eq_some_iff.1 hI3.blk).1 (fun h => h.2 ⟨_, _, _, hI3.blk, by decide, by decide⟩)).trans hI3.blk
        exact ⟨cell1 (o := 0) a1 rfl, cell1 (o := 1) a1 rfl, cell1 (o := 2) a1 rfl, cell1 (o := 0) a2 rfl, cell1 (o := 1) a2 rfl, cell1 (o := 2) a2 rfl, cell1 (o := 0) a3 rfl, cell1 (o := 1 + i) a3 (by rw [List.getElem?_toArray]; exact linCells_cost hi)⟩
      have HSK := Lib.hid hsk
      have HS3 := Lib.hid hS3
      have HA3 := Lib.hid hA3
      have HB3 := Lib.hid hB3
      have HR3 := Lib.hid hR3
      have HI3 := Lib.hid hI3
      have HMk := Lib.hid (hI3.maker.near (Near.refl W3).drew).avoidOth
      have HG := Lib.hid hI3.good
      have HF1 := Lib.hid f1
      have HF2 := Lib.hid f2
      have HE1 := Lib.hid e1'
      have HE2 := Lib.hid e2
      have HR1 := Lib.hid r1
      have HR2 := Lib.hid r2
      clear hsk hS3 hA3 hB3 hR3 hI3 f1 f2 r1 r2 hK1 hK2 e1 e2 e1' hM2 hc
      have HZ3 := Lib.hid hz3
      clear hz3 hzA hs1 hsw
      refine wp_region_noPanic ?_
      refine wp_region_held_drew (S := (fun w' => w'.cell? ⟨w1.heap.size, 0, none⟩ = some (.int .i64 xv1) ∧ w'.cell? ⟨w1.heap.size, 1, none⟩ = some (.int .i64 xl1) ∧ w'.cell? ⟨w1.heap.size, 2, none⟩ = some (.int .i64 xp1) ∧
          w'.cell? ⟨w2.heap.size, 0, none⟩ = some (.int .i64 xv2) ∧ w'.cell? ⟨w2.heap.size, 1, none⟩ = some (.int .i64 xl2) ∧ w'.cell? ⟨w2.heap.size, 2, none⟩ = some (.int .i64 xp2) ∧
          w'.cell? ⟨b, 0, none⟩ = some (.pointer (some ⟨mb, 0, none⟩)) ∧ w'.cell? ⟨b, 1 + i, none⟩ = some (.int .i64 (cost i)))) (by kernel_rfl) (HSK.out _ (Kept.refl _ _)) (fun hHeld => ?_)
      refine takeH0 (v := Value.pointer (some ⟨w1.heap.size, 0, none⟩)) (by kernel_rfl) (by kernel_rfl) (by kernel_rfl) (fun _ _ _ h => h) (Or.inl ⟨by rfl, fun w' hSw => ?_⟩) hHeld ?_
      · go_simp
      simp only [Act.put, List.setIfInBounds_toArray, List.set_cons_zero, List.set_cons_succ]
      refine takeH1 (v := Value.int .i64 (xv1)) (by kernel_rfl) (by kernel_rfl) (by kernel_rfl) (fun _ _ _ h => h) (Or.inl ⟨by rfl, fun w' hSw => ?_⟩) hHeld ?_
      · go_simp
      simp only [Act.put, List.setIfInBounds_toArray, List.set_cons_zero, List.set_cons_succ]
      refine takeH2 (v := Value.pointer (some ⟨w2.heap.size, 0, none⟩)) (by kernel_rfl) (by kernel_rfl) (by kernel_rfl) (fun _ _ _ h => h) (Or.inl ⟨by rfl, fun w' hSw => ?_⟩) hHeld ?_
      · go_simp
      simp only [Act.put, List.setIfInBounds_toArray, List.set_cons_zero, List.set_cons_succ]
      refine takeH3 (v := Value.int .i64 (xv2)) (by kernel_rfl) (by kernel_rfl) (by kernel_rfl) (fun _ _ _ h => h) (Or.inl ⟨by rfl, fun w' hSw => ?_⟩) hHeld ?_
      · go_simp
      simp only [Act.put, List.setIfInBounds_toArray, List.set_cons_zero, List.set_cons_succ]
      refine takeH4 (v := Value.pointer (some ⟨b, 0, none⟩)) (by kernel_rfl) (by kernel_rfl) (by kernel_rfl) (fun _ _ _ h => h) (Or.inl ⟨by rfl, fun w' hSw => ?_⟩) hHeld ?_
      · go_simp
      simp only [Act.put, List.setIfInBounds_toArray, List.set_cons_zero, List.set_cons_succ]
      refine takeH5 (v := Value.int .i64 ((i : Int))) (by kernel_rfl) (by kernel_rfl) (by kernel_rfl) (fun _ _ _ h => h) (Or.inl ⟨by rfl, fun w' hSw => ?_⟩) hHeld ?_
      · go_simp
      simp only [Act.put, List.setIfInBounds_toArray, List.set_cons_zero, List.set_cons_succ]
      refine takeH6 (v := Value.pointer (some ⟨b, 0, none⟩)) (by kernel_rfl) (by kernel_rfl) (by kernel_rfl) (fun _ _ _ h => h) (Or.inl ⟨by rfl, fun w' hSw => ?_⟩) hHeld ?_
      · go_simp
      simp only [Act.put, List.setIfInBounds_toArray, List.set_cons_zero, List.set_cons_succ]
      refine takeH7 (v := Value.pointer (some ⟨b, 1, none⟩)) (by kernel_rfl) (by kernel_rfl) (by kernel_rfl) (fun _ _ _ h => h) (Or.inl ⟨by rfl, fun w' hSw => ?_⟩) hHeld ?_
      · go_simp
      simp only [Act.put, List.setIfInBounds_toArray, List.set_cons_zero, List.set_cons_succ]
      refine takeH8 (v := Value.pointer (some ⟨b, 1 + i, none⟩)) (by kernel_rfl) (by kernel_rfl) (by kernel_rfl) (fun _ _ _ h => h) (Or.inl ⟨by rfl, fun w' hSw => ?_⟩) hHeld ?_
      · go_simp
      simp only [Act.put, List.setIfInBounds_toArray, List.set_cons_zero, List.set_cons_succ]
      refine takeH9 (v := Value.int .i64 (cost i)) (by kernel_rfl) (by kernel_rfl) (by kernel_rfl) (fun _ _ _ h => h) (Or.inl ⟨by rfl, fun w' hSw => ?_⟩) hHeld ?_
      · go_simp
      simp only [Act.put, List.setIfInBounds_toArray, List.set_cons_zero, List.set_cons_succ]
      refine takeH10 (v := Value.int .i64 (xv2 - cost i)) (by kernel_rfl) (by kernel_rfl) (by kernel_rfl) (fun _ _ _ h => h) (Or.inl ⟨by rfl, fun w' hSw => ?_⟩) hHeld ?_
      · go_simp
      simp only [Act.put, List.setIfInBounds_toArray, List.set_cons_zero, List.set_cons_succ]
      refine takeH11 (v := Value.int .i64 (max xv1 (xv2 - cost i))) (by kernel_rfl) (by kernel_rfl) (by kernel_rfl) (fun _ _ _ h => h) (Or.inl ⟨by rfl, fun w' hSw => ?_⟩) hHeld ?_
      · by_cases hm : xv1 < xv2 - cost i
        · rw [show max xv1 (xv2 - cost i) = xv2 - cost i by omega]; go_simp
        · rw [show max xv1 (xv2 - cost i) = xv1 by omega]; go_simp
      simp only [Act.put, List.setIfInBounds_toArray, List.set_cons_zero, List.set_cons_succ]
      refine takeH12 (v := Value.pointer (some ⟨w1.heap.size, 1, none⟩)) (by kernel_rfl) (by kernel_rfl) (by kernel_rfl) (fun _ _ _ h => h) (Or.inl ⟨by rfl, fun w' hSw => ?_⟩) hHeld ?_
      · go_simp
      simp only [Act.put, List.setIfInBounds_toArray, List.set_cons_zero, List.set_cons_succ]
      refine takeH13 (v := Value.int .i64 (xl1)) (by kernel_rfl) (by kernel_rfl) (by kernel_rfl) (fun _ _ _ h => h) (Or.inl ⟨by rfl, fun w' hSw => ?_⟩) hHeld ?_
      · go_simp
      simp only [Act.put, List.setIfInBounds_toArray, List.set_cons_zero, List.set_cons_succ]
      refine takeH14 (v := Value.pointer (some ⟨w2.heap.size, 1, none⟩)) (by kernel_rfl) (by kernel_rfl) (by kernel_rfl) (fun _ _ _ h => h) (Or.inl ⟨by rfl, fun w' hSw => ?_⟩) hHeld ?_
      · go_simp
      simp only [Act.put, List.setIfInBounds_toArray, List.set_cons_zero, List.set_cons_succ]
      refine takeH15 (v := Value.int .i64 (xl2)) (by kernel_rfl) (by kernel_rfl) (by kernel_rfl) (fun _ _ _ h => h) (Or.inl ⟨by rfl, fun w' hSw => ?_⟩) hHeld ?_
      · go_simp
      simp only [Act.put, List.setIfInBounds_toArray, List.set_cons_zero, List.set_cons_succ]
      refine takeH16 (v := Value.pointer (some ⟨b, 0, none⟩)) (by kernel_rfl) (by kernel_rfl) (by kernel_rfl) (fun _ _ _ h => h) (Or.inl ⟨by rfl, fun w' hSw => ?_⟩) hHeld ?_
      · go_simp
      simp only [Act.put, List.setIfInBounds_toArray, List.set_cons_zero, List.set_cons_succ]
      refine takeH17 (v := Value.int .i64 ((i : Int))) (by kernel_rfl) (by kernel_rfl) (by kernel_rfl) (fun _ _ _ h => h) (Or.inl ⟨by rfl, fun w' hSw => ?_⟩) hHeld ?_
      · go_simp
      simp only [Act.put, List.setIfInBounds_toArray, List.set_cons_zero, List.set_cons_succ]
      refine takeH18 (v := Value.pointer (some ⟨b, 0, none⟩)) (by kernel_rfl) (by kernel_rfl) (by kernel_rfl) (fun _ _ _ h => h) (Or.inl ⟨by rfl, fun w' hSw => ?_⟩) hHeld ?_
      · go_simp
      simp only [Act.put, List.setIfInBounds_toArray, List.set_cons_zero, List.set_cons_succ]
      refine takeH19 (v := Value.pointer (some ⟨b, 1, none⟩)) (by kernel_rfl) (by kernel_rfl) (by kernel_rfl) (fun _ _ _ h => h) (Or.inl ⟨by rfl, fun w' hSw => ?_⟩) hHeld ?_
      · go_simp
      simp only [Act.put, List.setIfInBounds_toArray, List.set_cons_zero, List.set_cons_succ]
      refine takeH20 (v := Value.pointer (some ⟨b, 1 + i, none⟩)) (by kernel_rfl) (by kernel_rfl) (by kernel_rfl) (fun _ _ _ h => h) (Or.inl ⟨by rfl, fun w' hSw => ?_⟩) hHeld ?_
      · go_simp
      simp only [Act.put, List.setIfInBounds_toArray, List.set_cons_zero, List.set_cons_succ]
      refine takeH21 (v := Value.int .i64 (cost i)) (by kernel_rfl) (by kernel_rfl) (by kernel_rfl) (fun _ _ _ h => h) (Or.inl ⟨by rfl, fun w' hSw => ?_⟩) hHeld ?_
      · go_simp
      simp only [Act.put, List.setIfInBounds_toArray, List.set_cons_zero, List.set_cons_succ]
      refine takeH22 (v := Value.int .i64 (xl2 - cost i)) (by kernel_rfl) (by kernel_rfl) (by kernel_rfl) (fun _ _ _ h => h) (Or.inl ⟨by rfl, fun w' hSw => ?_⟩) hHeld ?_
      · go_simp
      simp only [Act.put, List.setIfInBounds_toArray, List.set_cons_zero, List.set_cons_succ]
      refine takeH23 (v := Value.int .i64 (min xl1 (xl2 - cost i))) (by kernel_rfl) (by kernel_rfl) (by kernel_rfl) (fun _ _ _ h => h) (Or.inl ⟨by rfl, fun w' hSw => ?_⟩) hHeld ?_
      · by_cases hm : xl2 - cost i < xl1
        · rw [show min xl1 (xl2 - cost i) = xl2 - cost i by omega]; go_simp
        · rw [show min xl1 (xl2 - cost i) = xl1 by omega]; go_simp
      simp only [Act.put, List.setIfInBounds_toArray, List.set_cons_zero, List.set_cons_succ]
      refine takeH24 (v := Value.pointer (some ⟨b, 0, none⟩)) (by kernel_rfl) (by kernel_rfl) (by kernel_rfl) (fun _ _ _ h => h) (Or.inl ⟨by rfl, fun w' hSw => ?_⟩) hHeld ?_
      · go_simp
      simp only [Act.put, List.setIfInBounds_toArray, List.set_cons_zero, List.set_cons_succ]
      refine takeH25 (v := Value.pointer (some ⟨b, 0, none⟩)) (by kernel_rfl) (by kernel_rfl) (by kernel_rfl) (fun _ _ _ h => h) (Or.inl ⟨by rfl, fun w' hSw => ?_⟩) hHeld ?_
      · go_simp
      simp only [Act.put, List.setIfInBounds_toArray, List.set_cons_zero, List.set_cons_succ]
      refine takeH26 (v := Value.pointer (some ⟨b, 0, none⟩)) (by kernel_rfl) (by kernel_rfl) (by kernel_rfl) (fun _ _ _ h => h) (Or.inl ⟨by rfl, fun w' hSw => ?_⟩) hHeld ?_
      · go_simp
      simp only [Act.put, List.setIfInBounds_toArray, List.set_cons_zero, List.set_cons_succ]
      refine takeH27 (v := Value.pointer (some ⟨mb, 0, none⟩)) (by kernel_rfl) (by kernel_rfl) (by kernel_rfl) (fun _ _ _ h => h) (Or.inl ⟨by rfl, fun w' hSw => ?_⟩) hHeld ?_
      · go_simp
      simp only [Act.put, List.setIfInBounds_toArray, List.set_cons_zero, List.set_cons_succ]
      refine takeH28 (v := Value.int .i64 ((i : Int))) (by kernel_rfl) (by kernel_rfl) (by kernel_rfl) (fun _ _ _ h => h) (Or.inl ⟨by rfl, fun w' hSw => ?_⟩) hHeld ?_
      · go_simp
      simp only [Act.put, List.setIfInBounds_toArray, List.set_cons_zero, List.set_cons_succ]
      refine takeH29 (v := Value.pointer (some ⟨w1.heap.size, 2, none⟩)) (by kernel_rfl) (by kernel_rfl) (by kernel_rfl) (fun _ _ _ h => h) (Or.inl ⟨by rfl, fun w' hSw => ?_⟩) hHeld ?_
      · go_simp
      simp only [Act.put, List.setIfInBounds_toArray, List.set_cons_zero, List.set_cons_succ]
      refine takeH30 (v := Value.int .i64 (xp1)) (by kernel_rfl) (by kernel_rfl) (by kernel_rfl) (fun _ _ _ h => h) (Or.inl ⟨by rfl, fun w' hSw => ?_⟩) hHeld ?_
      · go_simp
      simp only [Act.put, List.setIfInBounds_toArray, List.set_cons_zero, List.set_cons_succ]
      refine takeH31 (v := Value.pointer (some ⟨w2.heap.size, 2, none⟩)) (by kernel_rfl) (by kernel_rfl) (by kernel_rfl) (fun _ _ _ h => h) (Or.inl ⟨by rfl, fun w' hSw => ?_⟩) hHeld ?_
      · go_simp
      simp only [Act.put, List.setIfInBounds_toArray, List.set_cons_zero, List.set_cons_succ]
      refine takeH32 (v := Value.int .i64 (xp2)) (by kernel_rfl) (by kernel_rfl) (by kernel_rfl) (fun _ _ _ h => h) (Or.inl ⟨by rfl, fun w' hSw => ?_⟩) hHeld ?_
      · go_simp
      simp only [Act.put, List.setIfInBounds_toArray, List.set_cons_zero, List.set_cons_succ]
      refine wpAnyH_ready (rs := [33, 35]) (by kernel_rfl) (by simp) ?_
      refine consH33 (fun K hK => ?_) ?_
      · go_simp
        go_at_call 78; refine (node_calls (S := fun kk => ((S kk ∧ kk ≠ w.heap.size) ∧ kk ≠ w1.heap.size) ∧ ¬ Oth W3.drew kk) HG.out i1' i2 hi hlen2 HS3.out HMk.out rfl HE1.out HE2.out).mono ?_; rintro e w4 ⟨rfl, hm4, hk4⟩; have HM4 := Lib.hid hm4; have HK4 := Lib.hid hk4; clear hm4 hk4
        refine hK.out _ _ (HSK.out _ HK4.out) (fun hHeld => ?_)
        clear hK K
        try simp only [Act.put, List.setIfInBounds_toArray, List.set_cons_zero, List.set_cons_succ]
        refine takeH34 (v := Value.agg #[Value.int .i64 (max xv1 (xv2 - cost i)), Value.int .i64 (min xl1 (xl2 - cost i)), Value.int .i64 (pl (T.add L2 i t1 t2) (T.mk i t1 t2) : Nat)]) (by kernel_rfl) (by kernel_rfl) (by kernel_rfl) (fun _ _ _ h => h) (Or.inl ⟨by rfl, fun w' hSw => ?_⟩) hHeld ?_
        · go_simp
        simp only [Act.put, List.setIfInBounds_toArray, List.set_cons_zero, List.set_cons_succ]
        refine wpAnyH_ready (rs := [35]) (by kernel_rfl) (by simp) ?_
        refine consH35 (fun K hK => ?_) ?_
        · go_simp
          refine hK.out _ _ (HSK.out _ (HK4.out.alloc _)) (fun hHeld => ?_)
          clear hK K
          try simp only [Act.put, List.setIfInBounds_toArray, List.set_cons_zero, List.set_cons_succ]
          have zb : (w4.alloc (.cells #[.int .i64 0, .int .i64 0, .int .i64 0] 188)).heap[w4.heap.size]? = some (.cells #[.int .i64 0, .int .i64 0, .int .i64 0] 188 (0, 0)) := heap_new_at rfl
          have z0 := cell1 (o := 0) zb rfl
          have z1 := cell1 (o := 1) zb rfl
          have z2 := cell1 (o := 2) zb rfl
          have zf := free1 zb
          refine wpAnyH_ready (rs := [36]) (by kernel_rfl) (by simp) ?_
          refine consH36 (fun K hK => ?_) ?_
          · go_simp
            refine hK.out _ _ (HSK.out _ (HK4.out.alloc _)) (fun hHeld => ?_)
            clear hK K
            try simp only [Act.put, List.setIfInBounds_toArray, List.set_cons_zero, List.set_cons_succ]
            refine wpAnyH_done (by kernel_rfl) ?_ _
            refine NoPanic.normal ?_
            have hT : (w4.alloc (.cells #[Value.int .i64 (max xv1 (xv2 - cost i)), Value.int .i64 (min xl1 (xl2 - cost i)), Value.int .i64 (pl (T.add L2 i t1 t2) (T.mk i t1 t2) : Nat)] 188)).heap[w4.heap.size]? = some (.cells #[Value.int .i64 (max xv1 (xv2 - cost i)), Value.int .i64 (min xl1 (xl2 - cost i)), Value.int .i64 (pl (T.add L2 i t1 t2) (T.mk i t1 t2) : Nat)] 188 (0, 0)) := heap_new_at rfl
            have hm5 : IsMaker (w4.alloc (.cells #[Value.int .i64 (max xv1 (xv2 - cost i)), Value.int .i64 (min xl1 (xl2 - cost i)), Value.int .i64 (pl (T.add L2 i t1 t2) (T.mk i t1 t2) : Nat)] 188)) mb (fun kk => ((S kk ∧ kk ≠ w.heap.size) ∧ kk ≠ w1.heap.size) ∧ ¬ Oth W3.drew kk) (T.add L2 i t1 t2) := HM4.out.near ((Near.refl w4).alloc _)
            have hk5 : Kept (fun kk => ((S kk ∧ kk ≠ w.heap.size) ∧ kk ≠ w1.heap.size) ∧ ¬ Oth W3.drew kk) W3.drew (w4.alloc (.cells #[Value.int .i64 (max xv1 (xv2 - cost i)), Value.int .i64 (min xl1 (xl2 - cost i)), Value.int .i64 (pl (T.add L2 i t1 t2) (T.mk i t1 t2) : Nat)] 188)) := HK4.out.alloc _
            have hp : W3.heap.size ≤ w4.heap.size := HK4.out.size
            clear z0 z1 z2 zf hHeld
            generalize hV : w4.alloc (.cells #[Value.int .i64 (max xv1 (xv2 - cost i)), Value.int .i64 (min xl1 (xl2 - cost i)), Value.int .i64 (pl (T.add L2 i t1 t2) (T.mk i t1 t2) : Nat)] 188) = V at hT hm5 hk5 ⊢
            have HT := Lib.hid hT
            have HM6 := Lib.hid hm5
            have HK5 := Lib.hid hk5
            clear hV hT hm5 hk5
            obtain ⟨pb, epb⟩ : ∃ x, x = w4.heap.size := ⟨_, rfl⟩
            rw [← epb] at HT ⊢
            replace hp : W3.heap.size ≤ pb := by rw [epb]; exact hp
            clear epb
            have HI6 := Lib.hid ((HI3.out.kept (Near.refl W3).drew).node (T.add_good HG.out i1' i2 hi (by omega) (by omega) o1 o2) HM6.out HK5.out)
            have hks : ks2 i = l := ((HQ2.out.2.2.2.2.2.2.1 i (by omega)).trans (HQ1.out.2.2.2.2.2.2.1 i (by omega))).trans HL.out
            have hnl : (ks2 i).length < 67108864 := by rw [hks]; exact hll
            have HNL := Lib.hid hnl
            obtain ⟨ao2, cap2, hkv⟩ := owns_form (HI6.out.rows i hi)
            have gkv := cell1 (o := 26 + i) HI6.out.blk (by rw [List.getElem?_toArray]; exact linCells_known hi)
            have hrow := HI6.out.rows i hi
            have HNB := Lib.hid (row_ne hrow HI6.out.blk (by decide))
            have HNP := Lib.hid (show ∀ kk, (kv2 i).ownBlock = some kk → kk < W3.heap.size from fun kk e => ((HI3.out.rows i hi).lt kk e).2)
            rw [hkv] at gkv hrow
            have HROW := Lib.hid hrow
            have HKV := Lib.hid hkv
            have u0 := cell1 (o := 0) HT.out rfl
            have u1 := cell1 (o := 1) HT.out rfl
            have u2 := cell1 (o := 2) HT.out rfl
            have HBL := Lib.hid (Array.getElem?_eq_some_iff.1 HI3.out.blk).1
            have HPB := Lib.hid hp
            have HSK2 := Lib.hid (show ∀ w', Kept (fun kk => (kv2 i).ownBlock = some kk) V w' → w'.cell? ⟨b, 26 + i, none⟩ = some (Value.slice ao2 (ks2 i).length cap2) ∧ w'.cell? ⟨pb, 0, none⟩ = some (Value.int .i64 (max xv1 (xv2 - cost i))) ∧ w'.cell? ⟨pb, 1, none⟩ = some (Value.int .i64 (min xl1 (xl2 - cost i))) ∧ w'.cell? ⟨pb, 2, none⟩ = some (Value.int .i64 (pl (T.add L2 i t1 t2) (T.mk i t1 t2) : Nat)) from fun w' hk => ⟨hk.cell gkv HNB.out, hk.cell u0 (fun e => Nat.not_le.2 (HNP.out _ e) HPB.out), hk.cell u1 (fun e => Nat.not_le.2 (HNP.out _ e) HPB.out), hk.cell u2 (fun e => Nat.not_le.2 (HNP.out _ e) HPB.out)⟩)
            clear hks hkv gkv hrow u0 u1 u2 hnl hp
            go_wp2_with fail
            refine wp_region_noPanic ?_
            refine wp_region_A (by kernel_rfl) ?_
            refine takeA0 (v := Value.pointer (some ⟨b, 0, none⟩)) (by kernel_rfl) (by kernel_rfl) (by kernel_rfl) (fun _ _ _ h => h) (Or.inl ⟨by rfl, fun w' => ?_⟩) ?_
            · go_simp
            simp only [Act.put, List.setIfInBounds_toArray, List.set_cons_zero, List.set_cons_succ]
            refine takeA1 (v := Value.int .i64 ((i : Int))) (by kernel_rfl) (by kernel_rfl) (by kernel_rfl) (fun _ _ _ h => h) (Or.inl ⟨by rfl, fun w' => ?_⟩) ?_
            · go_simp
            simp only [Act.put, List.setIfInBounds_toArray, List.set_cons_zero, List.set_cons_succ]
            refine takeA2 (v := Value.pointer (some ⟨b, 0, none⟩)) (by kernel_rfl) (by kernel_rfl) (by kernel_rfl) (fun _ _ _ h => h) (Or.inl ⟨by rfl, fun w' => ?_⟩) ?_
            · go_simp
            simp only [Act.put, List.setIfInBounds_toArray, List.set_cons_zero, List.set_cons_succ]
            refine takeA3 (v := Value.int .i64 ((i : Int))) (by kernel_rfl) (by kernel_rfl) (by kernel_rfl) (fun _ _ _ h => h) (Or.inl ⟨by rfl, fun w' => ?_⟩) ?_
            · go_simp
            simp only [Act.put, List.setIfInBounds_toArray, List.set_cons_zero, List.set_cons_succ]
            refine takeA4 (v := Value.pointer (some ⟨b, 0, none⟩)) (by kernel_rfl) (by kernel_rfl) (by kernel_rfl) (fun _ _ _ h => h) (Or.inl ⟨by rfl, fun w' => ?_⟩) ?_
            · go_simp
            simp only [Act.put, List.setIfInBounds_toArray, List.set_cons_zero, List.set_cons_succ]
            refine takeA5 (v := Value.pointer (some ⟨b, 26, none⟩)) (by kernel_rfl) (by kernel_rfl) (by kernel_rfl) (fun _ _ _ h => h) (Or.inl ⟨by rfl, fun w' => ?_⟩) ?_
            · go_simp
            simp only [Act.put, List.setIfInBounds_toArray, List.set_cons_zero, List.set_cons_succ]
            refine takeA6 (v := Value.pointer (some ⟨b, 26 + i, none⟩)) (by kernel_rfl) (by kernel_rfl) (by kernel_rfl) (fun _ _ _ h => h) (Or.inl ⟨by rfl, fun w' => ?_⟩) ?_
            · go_simp
            simp only [Act.put, List.setIfInBounds_toArray, List.set_cons_zero, List.set_cons_succ]
            refine takeA11 (v := Value.pointer (some ⟨b, 0, none⟩)) (by kernel_rfl) (by kernel_rfl) (by kernel_rfl) (fun _ _ _ h => h) (Or.inl ⟨by rfl, fun w' => ?_⟩) ?_
            · go_simp
            simp only [Act.put, List.setIfInBounds_toArray, List.set_cons_zero, List.set_cons_succ]
            refine takeA12 (v := Value.pointer (some ⟨b, 26, none⟩)) (by kernel_rfl) (by kernel_rfl) (by kernel_rfl) (fun _ _ _ h => h) (Or.inl ⟨by rfl, fun w' => ?_⟩) ?_
            · go_simp
            simp only [Act.put, List.setIfInBounds_toArray, List.set_cons_zero, List.set_cons_succ]
            refine wpAny_of_Z (S := (fun w' => w'.cell? ⟨b, 26 + i, none⟩ = some (Value.slice ao2 (ks2 i).length cap2) ∧ w'.cell? ⟨pb, 0, none⟩ = some (Value.int .i64 (max xv1 (xv2 - cost i))) ∧ w'.cell? ⟨pb, 1, none⟩ = some (Value.int .i64 (min xl1 (xl2 - cost i))) ∧ w'.cell? ⟨pb, 2, none⟩ = some (Value.int .i64 (pl (T.add L2 i t1 t2) (T.mk i t1 t2) : Nat)))) (z := 14) _ _ _ _ ?_
            have hHeld := HSK2.out _ (Kept.refl _ V).drew
            refine takeZ7 (v := Value.slice ao2 (ks2 i).length cap2) (by kernel_rfl) (by kernel_rfl) (by kernel_rfl) (by kernel_rfl) (fun _ _ _ h => h) (Or.inl ⟨by rfl, fun w' hSw => ?_⟩) hHeld ?_
            · go_simp
            simp only [Act.put, List.setIfInBounds_toArray, List.set_cons_zero, List.set_cons_succ]
            refine takeZ8 (v := Value.agg #[Value.int .i64 (max xv1 (xv2 - cost i)), Value.int .i64 (min xl1 (xl2 - cost i)), Value.int .i64 (pl (T.add L2 i t1 t2) (T.mk i t1 t2) : Nat)]) (by kernel_rfl) (by kernel_rfl) (by kernel_rfl) (by kernel_rfl) (fun _ _ _ h => h) (Or.inl ⟨by rfl, fun w' hSw => ?_⟩) hHeld ?_
            · go_simp
            simp only [Act.put, List.setIfInBounds_toArray, List.set_cons_zero, List.set_cons_succ]
            refine oneZ9 (by kernel_rfl) (fun K hK => ?_)
            go_simp
            refine hK.out _ _ (.inr (HSK2.out _ ((Kept.refl _ V).drew.alloc _))) ?_
            clear hK K hHeld
            try simp only [Act.put, List.setIfInBounds_toArray, List.set_cons_zero, List.set_cons_succ]
            refine oneZ10 (by kernel_rfl) (fun K hK => ?_)
            refine step_append_keep rfl (.tmp 102) (.tmp 104) 183 rfl 0 188 i0 (.agg #[.int .i64 0, .int .i64 0, .int .i64 0]) 3 24 Try.underlying183 hi0 jz0 jz1 jz2 rfl (by decide) _ _ _ rfl (owns_kept HROW.out (((Near.refl V).drew).alloc _) (fun _ _ h => h)) ⟨V.heap.size, 0, none⟩ 1 1 [Value.int .i64 (max xv1 (xv2 - cost i)), Value.int .i64 (min xl1 (xl2 - cost i)), Value.int .i64 (pl (T.add L2 i t1 t2) (T.mk i t1 t2) : Nat)] rfl rfl (cell_three_at rfl _ _ _ _) (by simp [Value.oneCell']) (by have := HNL.out; unfold maxLen; omega) (by have := HNL.out; omega) (Nat.zero_le _) ?_
            intro ao6 cap6 w6 hown6 hg6 hl6 _
            have HK6 := Lib.hid (Kept.grown ((Kept.refl (fun kk => (kv2 i).ownBlock = some kk) V).drew.alloc _) hg6 (fun kk e _ => by rw [HKV.out]; exact e))
            have HOW6 := Lib.hid hown6
            have HL6 := Lib.hid hl6
            have hh6 := HSK2.out _ HK6.out
            refine hK.out _ _ (.inr hh6) ?_
            clear hK K hown6 hg6 hl6
            try simp only [Act.put, List.setIfInBounds_toArray, List.set_cons_zero, List.set_cons_succ]
            have HPX := Lib.hid hh6
            clear hh6
            refine oneZ13 (by kernel_rfl) (fun K hK => ?_)
            go_simp
            refine hK.out _ _ (.inr HPX.out) ?_
            clear hK K
            try simp only [Act.put, List.setIfInBounds_toArray, List.set_cons_zero, List.set_cons_succ]
            have c6 := HPX.out.1
            have f6 := free1 ((HK6.out.block b (Nat.lt_of_lt_of_le HBL.out HK5.out.size) HNB.out).trans HI6.out.blk)
            refine oneZ14 (by kernel_rfl) (fun K hK => ?_)
            go_simp
            refine hK.out _ _ (.inl rfl) ?_
            clear hK K c6 f6
            try simp only [Act.put, List.setIfInBounds_toArray, List.set_cons_zero, List.set_cons_succ]
            refine wpAnyZ_done (by kernel_rfl) ?_
            refine NoPanic.normal ?_
            have hbl := HBL.out
            have hpb := HPB.out
            have hsz5 := HK5.out.size
            have hb6 := (HK6.out.block b (Nat.lt_of_lt_of_le HBL.out HK5.out.size) HNB.out).trans HI6.out.blk
            obtain ⟨hbox, hk7⟩ := HI6.out.app hi (y := spanOf (cost i) (pl (T.add L2 i t1 t2) (T.mk i t1 t2) : Nat) ⟨xv1, xl1, xp1⟩ ⟨xv2, xl2, xp2⟩) HOW6.out HK6.out (by rw [HKV.out]; exact HL6.out.imp id (fun e => ⟨_, e, by simp⟩)) (fun kk h => (HS3.out kk (Nat.le_trans HK5.out.size h)).1) _ rfl
            have hT7 := (Kept.setCell (S := fun kk => (kv2 i).ownBlock = some kk ∨ kk = b) (Kept.mono HK6.out (fun _ _ h => Or.inl h)) (p := ⟨b, 26 + i, none⟩) (fun _ => Or.inr rfl) (Value.slice ao6 ((ks2 i).length + 1) cap6)).block pb (Array.getElem?_eq_some_iff.1 HT.out).1 (fun h => h.elim (fun e => Nat.not_le.2 (HNP.out _ e) hpb) (fun e => Nat.not_le.2 hbl (e ▸ hpb)))
            replace hT7 := hT7.trans HT.out
            have hr3 := (Array.getElem?_eq_some_iff.1 HR3.out).1
            have hR5 := (HK5.out.block w.heap.size hr3 (fun h => h.1.1.2 rfl)).trans HR3.out
            have hR7 := (hk7.block w.heap.size (Nat.lt_of_lt_of_le hr3 hsz5) (fun h => h.1.2 rfl)).trans hR5
            have HBX := Lib.hid hbox
            have HK7 := Lib.hid hk7
            clear hbox hk7 hR5 hb6 hbl hpb hsz5 hr3
            generalize hW : w6.setCell ⟨b, 26 + i, none⟩ (Value.slice ao6 ((ks2 i).length + 1) cap6) = W7 at HBX HK7 hT7 hR7 ⊢
            clear hW
            have q0 := cell1 (o := 0) hT7 rfl
            have q1 := cell1 (o := 1) hT7 rfl
            have q2 := cell1 (o := 2) hT7 rfl
            have z0 := cell1 (o := 0) hR7 rfl
            have z1 := cell1 (o := 1) hR7 rfl
            have z2 := cell1 (o := 2) hR7 rfl
            have zf := free1 hR7
            have HR7 := Lib.hid hR7
            clear hT7 hR7
            go_wp2_with fail
            have hR8 := setCell_heap (setCell_heap (setCell_heap HR7.out 0 (Value.int .i64 (max xv1 (xv2 - cost i)))) 1 (Value.int .i64 (min xl1 (xl2 - cost i)))) 2 (Value.int .i64 (pl (T.add L2 i t1 t2) (T.mk i t1 t2) : Nat))
            simp only [List.setIfInBounds_toArray, List.set_cons_zero, List.set_cons_succ] at hR8
            have hk8 := Kept.setCell (S := fun kk => kk = w.heap.size) (Kept.setCell (S := fun kk => kk = w.heap.size) (Kept.setCell (S := fun kk => kk = w.heap.size) (Kept.refl (fun kk => kk = w.heap.size) W7) (p := ⟨w.heap.size, 0, none⟩) (fun _ => rfl) (Value.int .i64 (max xv1 (xv2 - cost i)))) (p := ⟨w.heap.size, 1, none⟩) (fun _ => rfl) (Value.int .i64 (min xl1 (xl2 - cost i)))) (p := ⟨w.heap.size, 2, none⟩) (fun _ => rfl) (Value.int .i64 (pl (T.add L2 i t1 t2) (T.mk i t1 t2) : Nat))
            generalize hW8 : ((W7.setCell ⟨w.heap.size, 0, none⟩ (Value.int .i64 (max xv1 (xv2 - cost i)))).setCell ⟨w.heap.size, 1, none⟩ (Value.int .i64 (min xl1 (xl2 - cost i)))).setCell ⟨w.heap.size, 2, none⟩ (Value.int .i64 (pl (T.add L2 i t1 t2) (T.mk i t1 t2) : Nat)) = W8 at hR8 hk8 ⊢
            have y0 := cell1 (o := 0) hR8 rfl
            have y1 := cell1 (o := 1) hR8 rfl
            have y2 := cell1 (o := 2) hR8 rfl
            have hbox8 := (HBX.out.keptOf hk8 (fun kk e h => h.1.2 e) (fun kk e e2 => Nat.lt_irrefl _ (e2 ▸ (HP.out.box.ends.lt kk e).2))).mono_lt (R := S) (fun kk _ h => h.1.1)
            have hk1 : Kept S w (w1.alloc (.cells #[.int .i64 xv1, .int .i64 xl1, .int .i64 xp1] 188)) := ((Kept.mono (HN1.out.trans HNr.out) (fun _ _ f => f.elim)).trans (Kept.mono HQ1.out.2.2.2.2.2.2.2.2 (fun _ _ h => h.1))).alloc _
            have hk3 : Kept S w W3 := (hk1.trans (Kept.mono HQ2.out.2.2.2.2.2.2.2.2 (fun _ _ h => h.1.1))).trans (Kept.mono HN3.out (fun _ _ f => f.elim))
            have hkept : Kept S w W8 := ((hk3.drew.trans (Kept.mono HK5.out (fun _ _ h => h.1.1.1))).trans (Kept.mono HK7.out (fun _ _ h => h.1.1))).trans (Kept.mono hk8 (fun kk _ e => HP.out.base kk (Nat.le_of_eq e.symm)))
            exact bodyPost_ret (v := .agg #[Value.int .i64 (max xv1 (xv2 - cost i)), Value.int .i64 (min xl1 (xl2 - cost i)), Value.int .i64 (pl (T.add L2 i t1 t2) (T.mk i t1 t2) : Nat)]) (by simp [results, Try.results145, go_sem, y0, y1, y2]) rfl (from_join hik rfl (HP.out.costs i) HQ1.out HQ2.out i1' HF1.out o1 l1 HF2.out o2 l2 HR1.out HR2.out hbox8 hkept)
          · exact AllReadyH.nil
        · exact AllReadyH.nil
      refine consH35 (fun K hK => ?_) ?_
      · go_simp
        refine hK.out _ _ (HSK.out _ (Kept.alloc (Kept.refl _ W3.drew) _)) (fun hHeld => ?_)
        clear hK K
        try simp only [Act.put, List.setIfInBounds_toArray, List.set_cons_zero, List.set_cons_succ]
        refine wpAnyH_ready (rs := [33]) (by kernel_rfl) (by simp) ?_
        refine consH33 (fun K hK => ?_) ?_
        · go_simp
          go_at_call 78; refine (node_calls (S := fun kk => (((S kk ∧ kk ≠ w.heap.size) ∧ kk ≠ w1.heap.size) ∧ ¬ Oth W3.drew kk) ∧ kk ≠ W3.drew.heap.size) HG.out i1' i2 hi hlen2 (fun kk hkk => ⟨HS3.out kk (Nat.le_trans (by simp) hkk), fun e => absurd hkk (by rw [e]; simp)⟩) ((HMk.out.mono_lt (fun kk hk hs => ⟨hs, Nat.ne_of_lt hk⟩)).near ((Near.refl W3.drew).alloc _)) rfl HE1.out HE2.out).mono ?_; rintro e w4 ⟨rfl, hm4, hk4⟩; have hb4 := (hk4.block W3.drew.heap.size (by simp) (fun h => h.2 rfl)).trans (heap_new_at rfl); have z0 : w4.cell? ⟨W3.heap.size, 0, none⟩ = some (.int .i64 0) := cell1 (o := 0) hb4 rfl; have z1 : w4.cell? ⟨W3.heap.size, 1, none⟩ = some (.int .i64 0) := cell1 (o := 1) hb4 rfl; have z2 : w4.cell? ⟨W3.heap.size, 2, none⟩ = some (.int .i64 0) := cell1 (o := 2) hb4 rfl; have zf : ∀ o, w4.frozen? ⟨W3.heap.size, o, none⟩ = false := free1 hb4; have HM5 := Lib.hid hm4; have HK4 := Lib.hid ((Kept.alloc (Kept.refl _ W3.drew) _).trans (Kept.mono hk4 (fun _ _ h => h.1))); clear hm4 hk4
          refine hK.out _ _ (HSK.out _ HK4.out) (fun hHeld => ?_)
          clear hK K
          try simp only [Act.put, List.setIfInBounds_toArray, List.set_cons_zero, List.set_cons_succ]
          refine takeH34 (v := Value.agg #[Value.int .i64 (max xv1 (xv2 - cost i)), Value.int .i64 (min xl1 (xl2 - cost i)), Value.int .i64 (pl (T.add L2 i t1 t2) (T.mk i t1 t2) : Nat)]) (by kernel_rfl) (by kernel_rfl) (by kernel_rfl) (fun _ _ _ h => h) (Or.inl ⟨by rfl, fun w' hSw => ?_⟩) hHeld ?_
          · go_simp
          simp only [Act.put, List.setIfInBounds_toArray, List.set_cons_zero, List.set_cons_succ]
          refine wpAnyH_ready (rs := [36]) (by kernel_rfl) (by simp) ?_
          refine consH36 (fun K hK => ?_) ?_
          · go_simp
            refine hK.out _ _ (HSK.out _ (Kept.setCell (Kept.setCell (Kept.setCell HK4.out (fun h => absurd h (Nat.lt_irrefl _)) _) (fun h => absurd h (Nat.lt_irrefl _)) _) (fun h => absurd h (Nat.lt_irrefl _)) _)) (fun hHeld => ?_)
            clear hK K
            try simp only [Act.put, List.setIfInBounds_toArray, List.set_cons_zero, List.set_cons_succ]
            refine wpAnyH_done (by kernel_rfl) ?_ _
            refine NoPanic.normal ?_
            have hb4' : w4.heap[W3.heap.size]? = some (.cells #[Value.int .i64 0, Value.int .i64 0, Value.int .i64 0] 188 (0, 0)) := hb4
            have hT := setCell_heap (setCell_heap (setCell_heap hb4' 0 (Value.int .i64 (max xv1 (xv2 - cost i)))) 1 (Value.int .i64 (min xl1 (xl2 - cost i)))) 2 (Value.int .i64 (pl (T.add L2 i t1 t2) (T.mk i t1 t2) : Nat))
            simp only [List.setIfInBounds_toArray, List.set_cons_zero, List.set_cons_succ] at hT
            have hkB := Kept.setCell (S := fun kk => kk = W3.heap.size) (Kept.setCell (S := fun kk => kk = W3.heap.size) (Kept.setCell (S := fun kk => kk = W3.heap.size) (Kept.refl (fun kk => kk = W3.heap.size) w4) (p := ⟨W3.heap.size, 0, none⟩) (fun _ => rfl) (Value.int .i64 (max xv1 (xv2 - cost i)))) (p := ⟨W3.heap.size, 1, none⟩) (fun _ => rfl) (Value.int .i64 (min xl1 (xl2 - cost i)))) (p := ⟨W3.heap.size, 2, none⟩) (fun _ => rfl) (Value.int .i64 (pl (T.add L2 i t1 t2) (T.mk i t1 t2) : Nat))
            have hm5 : IsMaker (((w4.setCell ⟨W3.heap.size, 0, none⟩ (Value.int .i64 (max xv1 (xv2 - cost i)))).setCell ⟨W3.heap.size, 1, none⟩ (Value.int .i64 (min xl1 (xl2 - cost i)))).setCell ⟨W3.heap.size, 2, none⟩ (Value.int .i64 (pl (T.add L2 i t1 t2) (T.mk i t1 t2) : Nat))) mb (fun kk => ((S kk ∧ kk ≠ w.heap.size) ∧ kk ≠ w1.heap.size) ∧ ¬ Oth W3.drew kk) (T.add L2 i t1 t2) := (HM5.out.of_kept hkB (fun _ _ h e => h.2 e)).mono (fun _ h => h.1)
            have hk5 := Kept.setCell (S := fun kk => ((S kk ∧ kk ≠ w.heap.size) ∧ kk ≠ w1.heap.size) ∧ ¬ Oth W3.drew kk) (Kept.setCell (S := fun kk => ((S kk ∧ kk ≠ w.heap.size) ∧ kk ≠ w1.heap.size) ∧ ¬ Oth W3.drew kk) (Kept.setCell (S := fun kk => ((S kk ∧ kk ≠ w.heap.size) ∧ kk ≠ w1.heap.size) ∧ ¬ Oth W3.drew kk) HK4.out (p := ⟨W3.heap.size, 0, none⟩) (fun h => absurd h (Nat.lt_irrefl _)) (Value.int .i64 (max xv1 (xv2 - cost i)))) (p := ⟨W3.heap.size, 1, none⟩) (fun h => absurd h (Nat.lt_irrefl _)) (Value.int .i64 (min xl1 (xl2 - cost i)))) (p := ⟨W3.heap.size, 2, none⟩) (fun h => absurd h (Nat.lt_irrefl _)) (Value.int .i64 (pl (T.add L2 i t1 t2) (T.mk i t1 t2) : Nat))
            have hp : W3.heap.size ≤ W3.heap.size := Nat.le_refl _
            clear z0 z1 z2 zf hHeld
            generalize hV : ((w4.setCell ⟨W3.heap.size, 0, none⟩ (Value.int .i64 (max xv1 (xv2 - cost i)))).setCell ⟨W3.heap.size, 1, none⟩ (Value.int .i64 (min xl1 (xl2 - cost i)))).setCell ⟨W3.heap.size, 2, none⟩ (Value.int .i64 (pl (T.add L2 i t1 t2) (T.mk i t1 t2) : Nat)) = V at hT hm5 hk5 ⊢
            have HT := Lib.hid hT
            have HM6 := Lib.hid hm5
            have HK5 := Lib.hid hk5
            clear hV hT hm5 hk5 hkB hb4 hb4'
            obtain ⟨pb, epb⟩ : ∃ x, x = W3.heap.size := ⟨_, rfl⟩
            rw [← epb] at HT ⊢
            replace hp : W3.heap.size ≤ pb := by rw [epb]; exact hp
            clear epb
            have HI6 := Lib.hid ((HI3.out.kept (Near.refl W3).drew).node (T.add_good HG.out i1' i2 hi (by omega) (by omega) o1 o2) HM6.out HK5.out)
            have hks : ks2 i = l := ((HQ2.out.2.2.2.2.2.2.1 i (by omega)).trans (HQ1.out.2.2.2.2.2.2.1 i (by omega))).trans HL.out
            have hnl : (ks2 i).length < 67108864 := by rw [hks]; exact hll
            have HNL := Lib.hid hnl
            obtain ⟨ao2, cap2, hkv⟩ := owns_form (HI6.out.rows i hi)
            have gkv := cell1 (o := 26 + i) HI6.out.blk (by rw [List.getElem?_toArray]; exact linCells_known hi)
            have hrow := HI6.out.rows i hi
            have HNB := Lib.hid (row_ne hrow HI6.out.blk (by decide))
            have HNP := Lib.hid (show ∀ kk, (kv2 i).ownBlock = some kk → kk < W3.heap.size from fun kk e => ((HI3.out.rows i hi).lt kk e).2)
            rw [hkv] at gkv hrow
            have HROW := Lib.hid hrow
            have HKV := Lib.hid hkv
            have u0 := cell1 (o := 0) HT.out rfl
            have u1 := cell1 (o := 1) HT.out rfl
            have u2 := cell1 (o := 2) HT.out rfl
            have HBL := Lib.hid (Array.getElem?_eq_some_iff.1 HI3.out.blk).1
            have HPB := Lib.hid hp
            have HSK2 := Lib.hid (show ∀ w', Kept (fun kk => (kv2 i).ownBlock = some kk) V w' → w'.cell? ⟨b, 26 + i, none⟩ = some (Value.slice ao2 (ks2 i).length cap2) ∧ w'.cell? ⟨pb, 0, none⟩ = some (Value.int .i64 (max xv1 (xv2 - cost i))) ∧ w'.cell? ⟨pb, 1, none⟩ = some (Value.int .i64 (min xl1 (xl2 - cost i))) ∧ w'.cell? ⟨pb, 2, none⟩ = some (Value.int .i64 (pl (T.add L2 i t1 t2) (T.mk i t1 t2) : Nat)) from fun w' hk => ⟨hk.cell gkv HNB.out, hk.cell u0 (fun e => Nat.not_le.2 (HNP.out _ e) HPB.out), hk.cell u1 (fun e => Nat.not_le.2 (HNP.out _ e) HPB.out), hk.cell u2 (fun e => Nat.not_le.2 (HNP.out _ e) HPB.out)⟩)
            clear hks hkv gkv hrow u0 u1 u2 hnl hp
            go_wp2_with fail
            refine wp_region_noPanic ?_
            refine wp_region_A (by kernel_rfl) ?_
            refine takeA0 (v := Value.pointer (some ⟨b, 0, none⟩)) (by kernel_rfl) (by kernel_rfl) (by kernel_rfl) (fun _ _ _ h => h) (Or.inl ⟨by rfl, fun w' => ?_⟩) ?_
            · go_simp
            simp only [Act.put, List.setIfInBounds_toArray, List.set_cons_zero, List.set_cons_succ]
            refine takeA1 (v := Value.int .i64 ((i : Int))) (by kernel_rfl) (by kernel_rfl) (by kernel_rfl) (fun _ _ _ h => h) (Or.inl ⟨by rfl, fun w' => ?_⟩) ?_
            · go_simp
            simp only [Act.put, List.setIfInBounds_toArray, List.set_cons_zero, List.set_cons_succ]
            refine takeA2 (v := Value.pointer (some ⟨b, 0, none⟩)) (by kernel_rfl) (by kernel_rfl) (by kernel_rfl) (fun _ _ _ h => h) (Or.inl ⟨by rfl, fun w' => ?_⟩) ?_
            · go_simp
            simp only [Act.put, List.setIfInBounds_toArray, List.set_cons_zero, List.set_cons_succ]
            refine takeA3 (v := Value.int .i64 ((i : Int))) (by kernel_rfl) (by kernel_rfl) (by kernel_rfl) (fun _ _ _ h => h) (Or.inl ⟨by rfl, fun w' => ?_⟩) ?_
            · go_simp
            simp only [Act.put, List.setIfInBounds_toArray, List.set_cons_zero, List.set_cons_succ]
            refine takeA4 (v := Value.pointer (some ⟨b, 0, none⟩)) (by kernel_rfl) (by kernel_rfl) (by kernel_rfl) (fun _ _ _ h => h) (Or.inl ⟨by rfl, fun w' => ?_⟩) ?_
            · go_simp
            simp only [Act.put, List.setIfInBounds_toArray, List.set_cons_zero, List.set_cons_succ]
            refine takeA5 (v := Value.pointer (some ⟨b, 26, none⟩)) (by kernel_rfl) (by kernel_rfl) (by kernel_rfl) (fun _ _ _ h => h) (Or.inl ⟨by rfl, fun w' => ?_⟩) ?_
            · go_simp
            simp only [Act.put, List.setIfInBounds_toArray, List.set_cons_zero, List.set_cons_succ]
            refine takeA6 (v := Value.pointer (some ⟨b, 26 + i, none⟩)) (by kernel_rfl) (by kernel_rfl) (by kernel_rfl) (fun _ _ _ h => h) (Or.inl ⟨by rfl, fun w' => ?_⟩) ?_
            · go_simp
            simp only [Act.put, List.setIfInBounds_toArray, List.set_cons_zero, List.set_cons_succ]
            refine takeA11 (v := Value.pointer (some ⟨b, 0, none⟩)) (by kernel_rfl) (by kernel_rfl) (by kernel_rfl) (fun _ _ _ h => h) (Or.inl ⟨by rfl, fun w' => ?_⟩) ?_
            · go_simp
            simp only [Act.put, List.setIfInBounds_toArray, List.set_cons_zero, List.set_cons_succ]
            refine takeA12 (v := Value.pointer (some ⟨b, 26, none⟩)) (by kernel_rfl) (by kernel_rfl) (by kernel_rfl) (fun _ _ _ h => h) (Or.inl ⟨by rfl, fun w' => ?_⟩) ?_
            · go_simp
            simp only [Act.put, List.setIfInBounds_toArray, List.set_cons_zero, List.set_cons_succ]
            refine wpAny_of_Z (S := (fun w' => w'.cell? ⟨b, 26 + i, none⟩ = some (Value.slice ao2 (ks2 i).length cap2) ∧ w'.cell? ⟨pb, 0, none⟩ = some (Value.int .i64 (max xv1 (xv2 - cost i))) ∧ w'.cell? ⟨pb, 1, none⟩ = some (Value.int .i64 (min xl1 (xl2 - cost i))) ∧ w'.cell? ⟨pb, 2, none⟩ = some (Value.int .i64 (pl (T.add L2 i t1 t2) (T.mk i t1 t2) : Nat)))) (z := 14) _ _ _ _ ?_
            have hHeld := HSK2.out _ (Kept.refl _ V).drew
            refine takeZ7 (v := Value.slice ao2 (ks2 i).length cap2) (by kernel_rfl) (by kernel_rfl) (by kernel_rfl) (by kernel_rfl) (fun _ _ _ h => h) (Or.inl ⟨by rfl, fun w' hSw => ?_⟩) hHeld ?_
            · go_simp
            simp only [Act.put, List.setIfInBounds_toArray, List.set_cons_zero, List.set_cons_succ]
            refine takeZ8 (v := Value.agg #[Value.int .i64 (max xv1 (xv2 - cost i)), Value.int .i64 (min xl1 (xl2 - cost i)), Value.int .i64 (pl (T.add L2 i t1 t2) (T.mk i t1 t2) : Nat)]) (by kernel_rfl) (by kernel_rfl) (by kernel_rfl) (by kernel_rfl) (fun _ _ _ h => h) (Or.inl ⟨by rfl, fun w' hSw => ?_⟩) hHeld ?_
            · go_simp
            simp only [Act.put, List.setIfInBounds_toArray, List.set_cons_zero, List.set_cons_succ]
            refine oneZ9 (by kernel_rfl) (fun K hK => ?_)
            go_simp
            refine hK.out _ _ (.inr (HSK2.out _ ((Kept.refl _ V).drew.alloc _))) ?_
            clear hK K hHeld
            try simp only [Act.put, List.setIfInBounds_toArray, List.set_cons_zero, List.set_cons_succ]
            refine oneZ10 (by kernel_rfl) (fun K hK => ?_)
            refine step_append_keep rfl (.tmp 102) (.tmp 104) 183 rfl 0 188 i0 (.agg #[.int .i64 0, .int .i64 0, .int .i64 0]) 3 24 Try.underlying183 hi0 jz0 jz1 jz2 rfl (by decide) _ _ _ rfl (owns_kept HROW.out (((Near.refl V).drew).alloc _) (fun _ _ h => h)) ⟨V.heap.size, 0, none⟩ 1 1 [Value.int .i64 (max xv1 (xv2 - cost i)), Value.int .i64 (min xl1 (xl2 - cost i)), Value.int .i64 (pl (T.add L2 i t1 t2) (T.mk i t1 t2) : Nat)] rfl rfl (cell_three_at rfl _ _ _ _) (by simp [Value.oneCell']) (by have := HNL.out; unfold maxLen; omega) (by have := HNL.out; omega) (Nat.zero_le _) ?_
            intro ao6 cap6 w6 hown6 hg6 hl6 _
            have HK6 := Lib.hid (Kept.grown ((Kept.refl (fun kk => (kv2 i).ownBlock = some kk) V).drew.alloc _) hg6 (fun kk e _ => by rw [HKV.out]; exact e))
            have HOW6 := Lib.hid hown6
            have HL6 := Lib.hid hl6
            have hh6 := HSK2.out _ HK6.out
            refine hK.out _ _ (.inr hh6) ?_
            clear hK K hown6 hg6 hl6
            try simp only [Act.put, List.setIfInBounds_toArray, List.set_cons_zero, List.set_cons_succ]
            have HPX := Lib.hid hh6
            clear hh6
            refine oneZ13 (by kernel_rfl) (fun K hK => ?_)
            go_simp
            refine hK.out _ _ (.inr HPX.out) ?_
            clear hK K
            try simp only [Act.put, List.setIfInBounds_toArray, List.set_cons_zero, List.set_cons_succ]
            have c6 := HPX.out.1
            have f6 := free1 ((HK6.out.block b (Nat.lt_of_lt_of_le HBL.out HK5.out.size) HNB.out).trans HI6.out.blk)
            refine oneZ14 (by kernel_rfl) (fun K hK => ?_)
            go_simp
            refine hK.out _ _ (.inl rfl) ?_
            clear hK K c6 f6
            try simp only [Act.put, List.setIfInBounds_toArray, List.set_cons_zero, List.set_cons_succ]
            refine wpAnyZ_done (by kernel_rfl) ?_
            refine NoPanic.normal ?_
            have hbl := HBL.out
            have hpb := HPB.out
            have hsz5 := HK5.out.size
            have hb6 := (HK6.out.block b (Nat.lt_of_lt_of_le HBL.out HK5.out.size) HNB.out).trans HI6.out.blk
            obtain ⟨hbox, hk7⟩ := HI6.out.app hi (y := spanOf (cost i) (pl (T.add L2 i t1 t2) (T.mk i t1 t2) : Nat) ⟨xv1, xl1, xp1⟩ ⟨xv2, xl2, xp2⟩) HOW6.out HK6.out (by rw [HKV.out]; exact HL6.out.imp id (fun e => ⟨_, e, by simp⟩)) (fun kk h => (HS3.out kk (Nat.le_trans HK5.out.size h)).1) _ rfl
            have hT7 := (Kept.setCell (S := fun kk => (kv2 i).ownBlock = some kk ∨ kk = b) (Kept.mono HK6.out (fun _ _ h => Or.inl h)) (p := ⟨b, 26 + i, none⟩) (fun _ => Or.inr rfl) (Value.slice ao6 ((ks2 i).length + 1) cap6)).block pb (Array.getElem?_eq_some_iff.1 HT.out).1 (fun h => h.elim (fun e => Nat.not_le.2 (HNP.out _ e) hpb) (fun e => Nat.not_le.2 hbl (e ▸ hpb)))
            replace hT7 := hT7.trans HT.out
            have hr3 := (Array.getElem?_eq_some_iff.1 HR3.out).1
            have hR5 := (HK5.out.block w.heap.size hr3 (fun h => h.1.1.2 rfl)).trans HR3.out
            have hR7 := (hk7.block w.heap.size (Nat.lt_of_lt_of_le hr3 hsz5) (fun h => h.1.2 rfl)).trans hR5
            have HBX := Lib.hid hbox
            have HK7 := Lib.hid hk7
            clear hbox hk7 hR5 hb6 hbl hpb hsz5 hr3
            generalize hW : w6.setCell ⟨b, 26 + i, none⟩ (Value.slice ao6 ((ks2 i).length + 1) cap6) = W7 at HBX HK7 hT7 hR7 ⊢
            clear hW
            have q0 := cell1 (o := 0) hT7 rfl
            have q1 := cell1 (o := 1) hT7 rfl
            have q2 := cell1 (o := 2) hT7 rfl
            have z0 := cell1 (o := 0) hR7 rfl
            have z1 := cell1 (o := 1) hR7 rfl
            have z2 := cell1 (o := 2) hR7 rfl
            have zf := free1 hR7
            have HR7 := Lib.hid hR7
            clear hT7 hR7
            go_wp2_with fail
            have hR8 := setCell_heap (setCell_heap (setCell_heap HR7.out 0 (Value.int .i64 (max xv1 (xv2 - cost i)))) 1 (Value.int .i64 (min xl1 (xl2 - cost i)))) 2 (Value.int .i64 (pl (T.add L2 i t1 t2) (T.mk i t1 t2) : Nat))
            simp only [List.setIfInBounds_toArray, List.set_cons_zero, List.set_cons_succ] at hR8
            have hk8 := Kept.setCell (S := fun kk => kk = w.heap.size) (Kept.setCell (S := fun kk => kk = w.heap.size) (Kept.setCell (S := fun kk => kk = w.heap.size) (Kept.refl (fun kk => kk = w.heap.size) W7) (p := ⟨w.heap.size, 0, none⟩) (fun _ => rfl) (Value.int .i64 (max xv1 (xv2 - cost i)))) (p := ⟨w.heap.size, 1, none⟩) (fun _ => rfl) (Value.int .i64 (min xl1 (xl2 - cost i)))) (p := ⟨w.heap.size, 2, none⟩) (fun _ => rfl) (Value.int .i64 (pl (T.add L2 i t1 t2) (T.mk i t1 t2) : Nat))
            generalize hW8 : ((W7.setCell ⟨w.heap.size, 0, none⟩ (Value.int .i64 (max xv1 (xv2 - cost i)))).setCell ⟨w.heap.size, 1, none⟩ (Value.int .i64 (min xl1 (xl2 - cost i)))).setCell ⟨w.heap.size, 2, none⟩ (Value.int .i64 (pl (T.add L2 i t1 t2) (T.mk i t1 t2) : Nat)) = W8 at hR8 hk8 ⊢
            have y0 := cell1 (o := 0) hR8 rfl
            have y1 := cell1 (o := 1) hR8 rfl
            have y2 := cell1 (o := 2) hR8 rfl
            have hbox8 := (HBX.out.keptOf hk8 (fun kk e h => h.1.2 e) (fun kk e e2 => Nat.lt_irrefl _ (e2 ▸ (HP.out.box.ends.lt kk e).2))).mono_lt (R := S) (fun kk _ h => h.1.1)
            have hk1 : Kept S w (w1.alloc (.cells #[.int .i64 xv1, .int .i64 xl1, .int .i64 xp1] 188)) := ((Kept.mono (HN1.out.trans HNr.out) (fun _ _ f => f.elim)).trans (Kept.mono HQ1.out.2.2.2.2.2.2.2.2 (fun _ _ h => h.1))).alloc _
            have hk3 : Kept S w W3 := (hk1.trans (Kept.mono HQ2.out.2.2.2.2.2.2.2.2 (fun _ _ h => h.1.1))).trans (Kept.mono HN3.out (fun _ _ f => f.elim))
            have hkept : Kept S w W8 := ((hk3.drew.trans (Kept.mono HK5.out (fun _ _ h => h.1.1.1))).trans (Kept.mono HK7.out (fun _ _ h => h.1.1))).trans (Kept.mono hk8 (fun kk _ e => HP.out.base kk (Nat.le_of_eq e.symm)))
            exact bodyPost_ret (v := .agg #[Value.int .i64 (max xv1 (xv2 - cost i)), Value.int .i64 (min xl1 (xl2 - cost i)), Value.int .i64 (pl (T.add L2 i t1 t2) (T.mk i t1 t2) : Nat)]) (by simp [results, Try.results145, go_sem, y0, y1, y2]) rfl (from_join hik rfl (HP.out.costs i) HQ1.out HQ2.out i1' HF1.out o1 l1 HF2.out o2 l2 HR1.out HR2.out hbox8 hkept)
          · exact AllReadyH.nil
        · exact AllReadyH.nil
      · exact AllReadyH.nil

end Go.Proofs.Ytefclohjeompkaa

/- Linear's 'from' for whatever feature; and the plain facts of Linear. -/
namespace Go.Proofs.Ytefclohjeompkaa
open Go Go.RowKit Go.Proofs.Gen Go.Proofs.Bdd Go.Proofs.Bdd.T

theorem from_calls {b mb : Nat} {cost : Nat → Int} {g : Int → Bool} {ev : Value} {es : List Dec} : ∀ (k i : Nat) (w : World) (S : Nat → Prop) (L : List T) (kv : Nat → Value) (ks : Nat → List Dec) (s j : Int), i + k = 24 → FromPre w b mb S cost g ev kv es L ks k → j = (i : Int) →
    -(2147483648 * (i : Int)) ≤ s ∧ s ≤ 2147483648 * (i : Int) → Calls Try.prog 145 #[.pointer (some ⟨b, 0, none⟩), .int .i64 j, .int .i64 s] w (FromPost w b mb S cost g ev es L ks k s)
  | 0, i, w, S, L, kv, ks, s, j, hik, h, hj, hs => by
    obtain rfl : i = 24 := by omega
    subst hj
    exact from_zero h (by omega) (by omega)
  | k + 1, i, w, S, L, kv, ks, s, j, hik, h, hj, hs => by
    subst hj
    rcases first_span s (ks i) with ⟨q, x, hx, hin, hb⟩ | hno
    · have hi : i < 24 := by omega
      refine (from_known hi (cell1 (o := 25) h.box.blk (by rw [List.getElem?_toArray]; exact linCells_ends)) (cell1 (o := 26 + i) h.box.blk (by rw [List.getElem?_toArray]; exact linCells_known hi)) (RdDec.row (h.box.rows i hi))
        (by have := h.rooms i; have := Nat.one_le_two_pow (n := k + 1); omega) hx hin hb).mono ?_
      rintro e w' ⟨rfl, hn⟩
      refine h.same ?_ hin hn
      have := h.known i hi x (List.mem_of_getElem? hx)
      rwa [show 24 - i = k + 1 by omega] at this
    · exact from_new (by omega) h hs hno (fun w S L kv ks s j hp hj hs => from_calls k (i + 1) w S L kv ks s j (by omega) hp (by omega) (by omega))

/-! ### Plain -/

def costOf (l : List Int) (i : Nat) : Int := l.getD i 0

theorem costOf_le {l : List Int} (h : CostsOk l) (i : Nat) : -2147483648 ≤ costOf l i ∧ costOf l i ≤ 2147483648 := by
  unfold costOf
  rw [List.getD_eq_getElem?_getD]
  cases hi : l[i]? with
  | none => simp
  | some x => exact h.2 x (List.mem_of_getElem? hi)

theorem sumFrom_le {cost : Nat → Int} (h : ∀ i, -2147483648 ≤ cost i ∧ cost i ≤ 2147483648) (c : Nat → Bool) : ∀ k : Nat, -(2147483648 * (k : Int)) ≤ sumFrom cost c k ∧ sumFrom cost c k ≤ 2147483648 * (k : Int)
  | 0 => by simp [sumFrom]
  | k + 1 => by
    have ih := sumFrom_le h c k
    have h1 := h (24 - (k + 1))
    rw [show sumFrom cost c (k + 1) = (if c (24 - (k + 1)) then cost (24 - (k + 1)) else 0) + sumFrom cost c k from rfl]
    split <;> omega

/-- A relation, and the places of the sums below, at and above a bound. -/
def relB (rel : Nat) (s b : Int) : Bool := if rel = 1 then decide (s ≤ b) else if rel = 2 then decide (b ≤ s) else decide (s = b)
def linF (l : List Int) (rel : Nat) (bound : Int) : F := fun c => relB rel (sumFrom (costOf l) c 24) bound
def LinOk (l : List Int) (rel : Nat) : Prop := CostsOk l ∧ 1 ≤ rel ∧ rel ≤ 3
instance (l : List Int) (rel : Nat) : Decidable (LinOk l rel) := by unfold LinOk; infer_instance

def clip (b : Int) : Int := min (max b (-17592186044416)) 17592186044416
theorem clip_le (b : Int) : -17592186044416 ≤ clip b ∧ clip b ≤ 17592186044416 := by unfold clip; omega
theorem relB_clip (rel : Nat) {s : Int} (b : Int) (h : -51539607552 ≤ s ∧ s ≤ 51539607552) : relB rel s (clip b) = relB rel s b := by
  unfold relB clip
  split
  · exact decide_eq_decide.2 (by omega)
  · split
    · exact decide_eq_decide.2 (by omega)
    · exact decide_eq_decide.2 (by omega)

/-- The three spans at the end. -/
def endsOf (bd : Int) (p : Bool × Bool × Bool) : List Dec := [⟨-35184372088832, bd - 1, p.1.toNat⟩, ⟨bd, bd, p.2.1.toNat⟩, ⟨bd + 1, 35184372088832, p.2.2.toNat⟩]
def placesOf (rel : Nat) : Bool × Bool × Bool := if rel = 1 then (true, true, false) else if rel = 2 then (false, true, true) else (false, true, false)

theorem relB_low {rel : Nat} {s bd : Int} (h : s < bd) : relB rel s bd = (placesOf rel).1 := by
  unfold relB placesOf
  split
  · simp; omega
  · split <;> simp <;> omega
theorem relB_at {rel : Nat} {bd : Int} : relB rel bd bd = (placesOf rel).2.1 := by
  unfold relB placesOf
  split
  · simp
  · split <;> simp
theorem relB_high {rel : Nat} {s bd : Int} (h : bd < s) : relB rel s bd = (placesOf rel).2.2 := by
  unfold relB placesOf
  split
  · simp; omega
  · split <;> simp <;> omega

theorem ends_ok (cost : Nat → Int) (rel : Nat) {bd : Int} (hb : -17592186044416 ≤ bd ∧ bd ≤ 17592186044416) : ∀ y ∈ endsOf bd (placesOf rel), SpanOk cost (fun s => relB rel s bd) [] 0 y := by
  intro y hy
  simp only [endsOf, List.mem_cons, List.not_mem_nil, or_false] at hy
  rcases hy with rfl | rfl | rfl
  · refine ⟨.leaf (placesOf rel).1, trivial, by cases (placesOf rel).1 <;> rfl, fun s h1 h2 => ?_, trivial, Nat.le_refl _, by simp only []; omega⟩
    show T.leaf (relB rel s bd) = _
    rw [relB_low (by simp only [] at h2; omega)]
  · refine ⟨.leaf (placesOf rel).2.1, trivial, by cases (placesOf rel).2.1 <;> rfl, fun s h1 h2 => ?_, trivial, Nat.le_refl _, by simp only []; omega⟩
    obtain rfl : s = bd := by simp only [] at h1 h2; omega
    show T.leaf (relB rel s s) = _
    rw [relB_at]
  · refine ⟨.leaf (placesOf rel).2.2, trivial, by cases (placesOf rel).2.2 <;> rfl, fun s h1 h2 => ?_, trivial, Nat.le_refl _, by simp only []; omega⟩
    show T.leaf (relB rel s bd) = _
    rw [relB_high (by simp only [] at h1; omega)]

theorem ends_all (rel : Nat) {bd : Int} (s : Int) (h1 : -35184372088832 ≤ s) (h2 : s ≤ 35184372088832) : ∃ y ∈ endsOf bd (placesOf rel), inSpan s y := by
  unfold inSpan
  by_cases h : s < bd
  · exact ⟨_, List.mem_cons_self, by simp only []; omega⟩
  · by_cases e : s = bd
    · exact ⟨_, List.mem_cons_of_mem _ List.mem_cons_self, by simp only []; omega⟩
    · exact ⟨_, List.mem_cons_of_mem _ (List.mem_cons_of_mem _ List.mem_cons_self), by simp only []; omega⟩

end Go.Proofs.Ytefclohjeompkaa

/- The reference's Costs and Cost. -/
namespace Go.Proofs.Ytefclohjeompkaa
open Go Go.RowKit Go.Proofs.Gen Go.Proofs.Bdd Go.Proofs.Bdd.T

set_option maxRecDepth 100000 in
set_option maxHeartbeats 800000 in
theorem costs_calls {w : World} {v : Value} {l : List Int} (h : RdInts w v l) (hl : l.length ≤ 1000) : Calls Try.prog 69 #[v] w fun e w' => e = .returned (.bool (decide (CostsOk l))) ∧ Near w w' := by
  obtain ⟨ao, cap, rfl, hc⟩ := h
  have HC := Lib.hid hc
  clear hc
  go_enter Try.func69, Try.ntmps69
  go_wp2_with fail
  go_loopw [3] (fun i wr => ∃ k : Nat, k ≤ l.length ∧ i = .int .i64 k ∧ (∀ y ∈ l.take k, -2147483648 ≤ y ∧ y ≤ 2147483648) ∧ wr = w) (fun i _ => l.length - (intOf i).toNat)
  case atStart => exact ⟨0, Nat.zero_le _, rfl, by simp, rfl⟩
  case round =>
    obtain ⟨k, hk, rfl, htk, rfl⟩ := hrel
    have HTK := Lib.hid htk
    clear htk
    by_cases hlt : k < l.length
    · have hlt' : (k : Int) < l.length := by omega
      obtain ⟨g, off, rfl, p0⟩ := HC.out k _ (List.getElem?_eq_getElem hlt)
      have hs : l.take (k + 1) = l.take k ++ [l[k]] := List.take_succ_eq_append_getElem hlt
      have hm : l[k] ∈ l := List.getElem_mem hlt
      have HS := Lib.hid hs
      have HM := Lib.hid hm
      clear hs hm
      generalize l[k] = d at p0 HS HM
      have HBad := Lib.hid (show ¬ (-2147483648 ≤ d ∧ d ≤ 2147483648) → decide (CostsOk l) = false from fun h => decide_eq_false fun hc => h (hc.2 d HM.out))
      by_cases h1 : d < -2147483648
      · go_wp2_with fail
        refine bodyPost_ret (v := .bool false) (by simp [results, Try.results69, go_sem]) rfl ⟨?_, Near.refl _⟩
        rw [HBad.out (by omega)]
      · by_cases h2 : 2147483648 < d
        · go_wp2_with fail
          refine bodyPost_ret (v := .bool false) (by simp [results, Try.results69, go_sem]) rfl ⟨?_, Near.refl _⟩
          rw [HBad.out (by omega)]
        · go_wp2_with fail
          refine ⟨⟨k + 1, hlt, by go_num, fun y hy => ?_, trivial⟩, by simp [intOf]; omega⟩
          rw [HS.out] at hy
          rcases List.mem_append.1 hy with hy | hy
          · exact HTK.out y hy
          · rw [List.mem_singleton.1 hy]
            omega
    · have hlt' : ¬ (k : Int) < l.length := by omega
      have hall : decide (CostsOk l) = decide ((l.length : Int) ≤ 24) := by
        have h := HTK.out
        rw [List.take_of_length_le (by omega)] at h
        exact decide_eq_decide.2 ⟨fun h => by have := h.1; omega, fun h' => ⟨by omega, h⟩⟩
      have HAll := Lib.hid hall
      clear hall
      go_wp2_with fail
      refine bodyPost_ret (v := .bool (decide ((l.length : Int) ≤ 24))) (by simp [results, Try.results69, go_sem]) rfl ⟨?_, Near.refl _⟩
      rw [HAll.out]

/-- The cost of the first k features that a configuration has. -/
def costSum (l : List Int) (c : Nat → Bool) : Nat → Int
  | 0 => 0
  | k + 1 => costSum l c k + if c k then costOf l k else 0

theorem costSum_le {l : List Int} (h : CostsOk l) (c : Nat → Bool) : ∀ k : Nat, -(2147483648 * (k : Int)) ≤ costSum l c k ∧ costSum l c k ≤ 2147483648 * (k : Int)
  | 0 => by simp [costSum]
  | k + 1 => by
    have ih := costSum_le h c k
    have h1 := costOf_le h k
    unfold costSum
    split <;> omega

set_option maxRecDepth 100000 in
set_option maxHeartbeats 800000 in
theorem cost_calls {w : World} {v : Value} {l : List Int} (h : RdInts w v l) (hok : CostsOk l) (c : Nat) (hc : c < 4294967296) : Calls Try.prog 71 #[v, .int .u32 c] w fun e w' => e = .returned (.int .i64 (costSum l c.testBit l.length)) ∧ Near w w' := by
  have hl := hok.1
  have HOK := Lib.hid hok
  obtain ⟨ao, cap, rfl, hcl⟩ := h
  have HC := Lib.hid hcl
  clear hcl hok
  go_enter Try.func71, Try.ntmps71
  go_wp2_with fail
  go_loopw [5, 6] (fun s i wr => ∃ k : Nat, k ≤ l.length ∧ i = .int .i64 k ∧ s = .int .i64 (costSum l c.testBit k) ∧ wr = w) (fun _ i _ => l.length - (intOf i).toNat)
  case atStart => exact ⟨0, Nat.zero_le _, rfl, rfl, rfl⟩
  case round =>
    obtain ⟨k, hk, rfl, rfl, rfl⟩ := hrel
    by_cases hlt : k < l.length
    · have hlt' : (k : Int) < l.length := by omega
      have hk24 : (k : Int) < 24 := by omega
      obtain ⟨g, off, rfl, p0⟩ := HC.out k _ (List.getElem?_eq_getElem hlt)
      have hd : l[k] = costOf l k := by
        unfold costOf
        rw [List.getD_eq_getElem?_getD, List.getElem?_eq_getElem hlt]
        rfl
      rw [hd] at p0
      clear hd
      have b1 := costSum_le HOK.out c.testBit k
      have b2 := costOf_le HOK.out k
      obtain ⟨s, hs⟩ : ∃ s, s = costSum l c.testBit k := ⟨_, rfl⟩
      obtain ⟨d, hd⟩ : ∃ d, d = costOf l k := ⟨_, rfl⟩
      obtain ⟨b, hb⟩ : ∃ b, b = c.testBit k := ⟨_, rfl⟩
      have hn : costSum l c.testBit (k + 1) = s + if b = true then d else 0 := by rw [hs, hd, hb]; rfl
      have HNx := Lib.hid hn
      have HB := Lib.hid hb
      rw [← hs] at b1 ⊢
      rw [← hd] at b2 p0
      clear hn hs hd hb
      have hsel := selected_calls c k hc (by omega)
      rw [← HB.out] at hsel
      have HSel := Lib.hid hsel
      clear hsel
      cases b
      · go_wp2_with (go_at_call 102; refine (HSel.out _).mono ?_; rintro e w5 ⟨rfl, rfl⟩)
        exact ⟨⟨k + 1, hlt, by go_num, by rw [HNx.out]; simp, trivial⟩, by simp [intOf]; omega⟩
      · go_wp2_with (go_at_call 102; refine (HSel.out _).mono ?_; rintro e w5 ⟨rfl, rfl⟩)
        exact ⟨⟨k + 1, hlt, by go_num, by rw [HNx.out]; simp, trivial⟩, by simp [intOf]; omega⟩
    · have hke : k = l.length := by omega
      have hlt' : ¬ (k : Int) < l.length := by omega
      go_wp2_with fail
      exact bodyPost_ret (v := .int .i64 (costSum l c.testBit l.length)) (by simp [results, Try.results71, go_sem]) rfl ⟨rfl, Near.refl _⟩

end Go.Proofs.Ytefclohjeompkaa

/- The reference's Linear: the plain facts. -/
namespace Go.Proofs.Ytefclohjeompkaa
open Go Go.RowKit Go.Proofs.Gen Go.Proofs.Bdd Go.Proofs.Bdd.T

/-- The features below k whose cost is not 0. -/
def nz (l : List Int) (k : Nat) : List Nat := (List.range k).filter fun i => costOf l i != 0

theorem nz_succ (l : List Int) (k : Nat) : nz l (k + 1) = nz l k ++ if costOf l k = 0 then [] else [k] := by
  unfold nz
  rw [List.range_succ, List.filter_append]
  congr 1
  by_cases h : costOf l k = 0
  · rw [if_pos h]
    simp [h]
  · rw [if_neg h]
    simp [h]
theorem nz_mem {l : List Int} {k i : Nat} : i ∈ nz l k ↔ i < k ∧ costOf l i ≠ 0 := by
  unfold nz
  simp
theorem nz_rising (l : List Int) : ∀ k, k ≤ 24 → Rising 0 (nz l k)
  | 0, _ => by show (0 : Nat) ≤ 24; omega
  | k + 1, h => by
    have ih := nz_rising l k (by omega)
    rw [nz_succ]
    split
    · rw [List.append_nil]
      exact ih
    · exact ih.snoc (Nat.zero_le _) (fun j hj => (nz_mem.1 hj).1) (by omega)
theorem nz_len (l : List Int) (k : Nat) : (nz l k).length ≤ k := Nat.le_trans (List.length_filter_le _ _) (by simp)

theorem costSum_congr {l : List Int} {c d : Nat → Bool} : ∀ k, (∀ i, i < k → costOf l i ≠ 0 → c i = d i) → costSum l c k = costSum l d k
  | 0, _ => rfl
  | k + 1, h => by
    have ih := costSum_congr k fun i hi => h i (by omega)
    unfold costSum
    rw [ih]
    by_cases h0 : costOf l k = 0
    · rw [h0]
      simp
    · rw [h k (by omega) h0]

theorem costSum_from (l : List Int) (c : Nat → Bool) : ∀ k, k ≤ 24 → costSum l c k + sumFrom (costOf l) c (24 - k) = sumFrom (costOf l) c 24
  | 0, _ => by simp [costSum]
  | k + 1, h => by
    have ih := costSum_from l c k (by omega)
    have e : 24 - k = (24 - (k + 1)) + 1 := by omega
    have e2 : 24 - (24 - (k + 1) + 1) = k := by omega
    rw [e, show sumFrom (costOf l) c (24 - (k + 1) + 1) = (if c (24 - (24 - (k + 1) + 1)) then costOf l (24 - (24 - (k + 1) + 1)) else 0) + sumFrom (costOf l) c (24 - (k + 1)) from rfl, e2] at ih
    rw [show costSum l c (k + 1) = costSum l c k + if c k then costOf l k else 0 from rfl]
    omega

theorem costOf_past {l : List Int} {i : Nat} (h : l.length ≤ i) : costOf l i = 0 := by
  unfold costOf
  rw [List.getD_eq_getElem?_getD, List.getElem?_eq_none h]
  rfl
theorem costSum_past {l : List Int} (c : Nat → Bool) : ∀ d, costSum l c (l.length + d) = costSum l c l.length
  | 0 => rfl
  | d + 1 => by
    rw [show l.length + (d + 1) = (l.length + d) + 1 by omega, show costSum l c (l.length + d + 1) = costSum l c (l.length + d) + if c (l.length + d) then costOf l (l.length + d) else 0 from rfl, costSum_past c d, costOf_past (by omega)]
    simp
theorem costSum_all {l : List Int} (h : l.length ≤ 24) (c : Nat → Bool) : costSum l c l.length = sumFrom (costOf l) c 24 := by
  have h1 := costSum_from l c 24 (Nat.le_refl _)
  have h2 := costSum_past (l := l) c (24 - l.length)
  rw [show l.length + (24 - l.length) = 24 by omega] at h2
  rw [Nat.sub_self, show sumFrom (costOf l) c 0 = 0 from rfl, Int.add_zero] at h1
  rw [← h2]
  exact h1

/-- What the table says of an index. -/
def linN (l : List Int) (rel : Nat) (bound : Int) (V : List Nat) (k : Nat) : Bool := relB rel (costSum l (cfg V k).testBit l.length) bound

theorem linN_linF {l : List Int} (hl : l.length ≤ 24) (rel : Nat) (bound : Int) (c : Nat → Bool) : linN l rel bound (nz l l.length) (idx (nz l l.length) c) = linF l rel bound c := by
  unfold linN linF
  rw [← costSum_all hl c]
  congr 1
  exact costSum_congr l.length fun i hi h0 => cfg_idx (nz_rising l l.length hl) c (nz_mem.2 ⟨hi, h0⟩)

end Go.Proofs.Ytefclohjeompkaa
