/- Parts of a proof: LinG, LinH, LinJ. -/
import Derived.Laws.CopyOwn
import Derived.Test.YtefclohjeompkaaKLinF
import Derived.Test.YtefclohjeompkaaKValid
import Derived.Test.YtefclohjeompkaaKEachB
/- Linear's 'from': the walk where no span is known. -/
namespace Go.Proofs.Ytefclohjeompkaa
open Go Go.RowKit Go.Proofs.Gen Go.Proofs.Bdd Go.Proofs.Bdd.T

set_option maxRecDepth 100000 in
set_option maxHeartbeats 6400000 in
set_option linter.unusedSimpArgs false in
theorem from_new {w : World} {b mb : Nat} {S : Nat → Prop} {cost : Nat → Int} {g : Int → Bool} {ev : Value} {kv : Nat → Value} {es : List Dec} {L : List T} {ks : Nat → List Dec} {i k : Nat} (hik : i + k = 23) (h : FromPre w b mb S cost g ev kv es L ks (k + 1)) {s : Int}
    (hs : -(2147483648 * (i : Int)) ≤ s ∧ s ≤ 2147483648 * (i : Int)) (hno : ∀ y ∈ ks i, ¬ inSpan s y)
    (ih : ∀ (w : World) (S : Nat → Prop) (L : List T) (kv : Nat → Value) (ks : Nat → List Dec) (s j : Int), FromPre w b mb S cost g ev kv es L ks k → j = (i : Int) + 1 → -(2147483648 * ((i : Int) + 1)) ≤ s ∧ s ≤ 2147483648 * ((i : Int) + 1) →
      Calls Try.prog 145 #[.pointer (some ⟨b, 0, none⟩), .int .i64 j, .int .i64 s] w (FromPost w b mb S cost g ev es L ks k s)) :
    Calls Try.prog 145 #[.pointer (some ⟨b, 0, none⟩), .int .i64 i, .int .i64 s] w (FromPost w b mb S cost g ev es L ks (k + 1) s) := by
  obtain ⟨i0, hi0, jz0, jz1, jz2⟩ := info_parts info188
  have hi : i < 24 := by omega
  have hi' : (i : Int) < 24 := by omega
  have hi1 : IntKind.i64.wrap ((i : Int) + 1) = (i : Int) + 1 := IntWalk.i64_in _ (by omega)
  have A0 := (Near.refl w).alloc (.cells #[.int .i64 0, .int .i64 0, .int .i64 0] 188)
  have g25 : (w.alloc (.cells #[.int .i64 0, .int .i64 0, .int .i64 0] 188)).cell? ⟨b, 25, none⟩ = some ev := A0.cell (cell1 (o := 25) h.box.blk (by rw [List.getElem?_toArray]; exact linCells_ends))
  have g26 : (w.alloc (.cells #[.int .i64 0, .int .i64 0, .int .i64 0] 188)).cell? ⟨b, 26 + i, none⟩ = some (kv i) := A0.cell (cell1 (o := 26 + i) h.box.blk (by rw [List.getElem?_toArray]; exact linCells_known hi))
  obtain ⟨ao, cap, hv, hc⟩ := RdDec.row (h.box.rows i hi)
  rw [hv] at g26
  have HC := Lib.hid hc
  have HV := Lib.hid hv
  have HP := Lib.hid h
  have HNO := Lib.hid hno
  have HIH := Lib.hid ih
  have HS := Lib.hid hs
  have hll : (ks i).length < 67108864 := by have := h.rooms i; have := Nat.one_le_two_pow (n := k + 1); omega
  clear hc hv h hno ih hs
  generalize hl : ks i = l at *
  have HL := Lib.hid hl
  clear hl
  go_enter Try.func145, Try.ntmps145
  go_wp2_with fail
  have hN1 := (Near.refl w).alloc (.cells #[.int .i64 0, .int .i64 0, .int .i64 0] 188)
  have hres : (w.alloc (.cells #[.int .i64 0, .int .i64 0, .int .i64 0] 188)).heap[w.heap.size]? = some (.cells #[.int .i64 0, .int .i64 0, .int .i64 0] 188 (0, 0)) := heap_new_at rfl
  have hsz1 : (w.alloc (.cells #[.int .i64 0, .int .i64 0, .int .i64 0] 188)).heap.size = w.heap.size + 1 := by simp
  clear g25 g26 A0
  generalize w.alloc (.cells #[.int .i64 0, .int .i64 0, .int .i64 0] 188) = W1 at *
  have HN1 := Lib.hid hN1
  have HRES := Lib.hid hres
  have HSZ1 := Lib.hid hsz1
  clear hN1 hres hsz1
  go_loopw [27] (fun i wr => ∃ k : Nat, k ≤ l.length ∧ i = .int .i64 k ∧ Near W1 wr) (fun i _ => l.length - (intOf i).toNat)
  case atStart => exact ⟨0, Nat.zero_le _, rfl, Near.refl _⟩
  case round =>
    obtain ⟨q, hq, rfl, hn⟩ := hrel
    by_cases hlt : q < l.length
    · have hlt' : (q : Int) < l.length := by omega
      obtain ⟨gg, off, rfl, x0, x1, x2⟩ := HC.out q _ (List.getElem?_eq_getElem hlt)
      have p0 := hn.cell (HN1.out.cell x0)
      have p1 := hn.cell (HN1.out.cell x1)
      have p2 := hn.cell (HN1.out.cell x2)
      have hnot := HNO.out _ (List.getElem_mem hlt)
      clear x0 x1 x2
      generalize l[q] = y at p0 p1 p2 hnot
      obtain ⟨yv, yl, yp⟩ := y
      unfold inSpan at hnot
      simp only at p0 p1 p2 hnot
      have A0 := ((Near.refl wr).alloc (.cells #[.int .i64 yv, .int .i64 yl, .int .i64 yp] 188))
      by_cases h1 : yv ≤ s
      · have h2 : ¬ (s ≤ yl) := fun h => hnot ⟨h1, h⟩
        clear hnot
        go_wp2_with fail
        exact ⟨⟨q + 1, by omega, by simp, hn.trans A0⟩, by simp [intOf]; omega⟩
      · clear hnot
        go_wp2_with fail
        exact ⟨⟨q + 1, by omega, by simp, hn.trans A0⟩, by simp [intOf]; omega⟩
    · have hqe : ¬ ((q : Int) < l.length) := by omega
      have hsw := hn.size'
      have hs1 := HSZ1.out
      have hP := HP.out.shrink (HN1.out.trans hn) (z := w.heap.size) (Nat.le_refl _) (by omega)
      have HPw := Lib.hid hP
      have HNr := Lib.hid hn
      clear hP hn
      have hcost := HP.out.costs i
      have hs := HS.out
      have hw2 : IntKind.i64.wrap (s + cost i) = s + cost i := IntWalk.i64_in _ (by omega)
      have hb1 := Lib.hid (show -(2147483648 * ((i : Int) + 1)) ≤ s ∧ s ≤ 2147483648 * ((i : Int) + 1) by omega)
      have hb2 := Lib.hid (show -(2147483648 * ((i : Int) + 1)) ≤ s + cost i ∧ s + cost i ≤ 2147483648 * ((i : Int) + 1) by omega)
      clear hs hcost
      go_wp2_with (first
        | (go_at_call 145; refine (HIH.out _ _ L1 kv1 ks1 (s + cost i) _ (P2.out.shrink ((Near.refl w1).alloc _) (z := w1.heap.size) (Nat.le_refl _) (by simp)) rfl hb2.out).mono ?_; rintro e w2 ⟨⟨xv2, xl2, xp2⟩, L2, kv2, ks2, rfl, hpost2⟩; have HQ2 := Lib.hid hpost2; clear hpost2)
        | (go_at_call 145; refine (HIH.out _ _ L kv ks s _ HPw.out.less rfl hb1.out).mono ?_; rintro e w1 ⟨⟨xv1, xl1, xp1⟩, L1, kv1, ks1, rfl, hpost1⟩; have HQ1 := Lib.hid hpost1; clear hpost1; have P2 := Lib.hid (HPw.out.next (Nat.le_refl k) HQ1.out.1 HQ1.out.2.2.2.1 HQ1.out.2.2.2.2.1 HQ1.out.2.2.2.2.2.1 HQ1.out.2.2.2.2.2.2.2.1 HQ1.out.2.2.2.2.2.2.2.2); have c1 := ((Near.refl w1).alloc (.cells #[.int .i64 xv1, .int .i64 xl1, .int .i64 xp1] 188)).cell (P2.out.cost hi)))
      have hA : (w1.alloc (.cells #[.int .i64 xv1, .int .i64 xl1, .int .i64 xp1] 188)).heap[w1.heap.size]? = some (.cells #[.int .i64 xv1, .int .i64 xl1, .int .i64 xp1] 188 (0, 0)) := heap_new_at rfl
      have hK1 := HQ1.out.2.2.2.2.2.2.2.2
      have hK2 := HQ2.out.2.2.2.2.2.2.2.2
      have hz1 := hK1.size
      have hz2 := hK2.size
      have hzA : (w1.alloc (.cells #[.int .i64 xv1, .int .i64 xl1, .int .i64 xp1] 188)).heap.size = w1.heap.size + 1 := by simp
      have hA2 := (hK2.block w1.heap.size (by omega) (fun h => h.2 rfl)).trans hA
      have hR1 := (hK1.block w.heap.size (by omega) (fun h => h.2 rfl)).trans (keepN HNr.out HRES.out)
      have hR2 := (hK2.block w.heap.size (by omega) (fun h => h.1.2 rfl)).trans (keepN ((Near.refl w1).alloc (.cells #[.int .i64 xv1, .int .i64 xl1, .int .i64 xp1] 188)) hR1)
      have hB3 : (w2.alloc (.cells #[.int .i64 xv2, .int .i64 xl2, .int .i64 xp2] 188)).heap[w2.heap.size]? = some (.cells #[.int .i64 xv2, .int .i64 xl2, .int .i64 xp2] 188 (0, 0)) := heap_new_at rfl
      have N3 := (Near.refl w2).alloc (.cells #[.int .i64 xv2, .int .i64 xl2, .int .i64 xp2] 188)
      have hA3 := keepN N3 hA2
      have hR3 := keepN N3 hR2
      have hI3 := HQ2.out.1.kept N3
      have hz3 : (w2.alloc (.cells #[.int .i64 xv2, .int .i64 xl2, .int .i64 xp2] 188)).heap.size = w2.heap.size + 1 := by simp
      have HN3 := Lib.hid N3
      clear hA hA2 hR1 hR2 c1 N3
      generalize w2.alloc (.cells #[.int .i64 xv2, .int .i64 xl2, .int .i64 xp2] 188) = W3 at *
      obtain ⟨t1, i1, e1, f1, o1, l1, r1⟩ := HQ1.out.2.1
      obtain ⟨t2, i2, e2, f2, o2, l2, r2⟩ := HQ2.out.2.1
      obtain ⟨M2, hM2⟩ := HQ2.out.2.2.2.1
      have i1' : T.In L2 t1 := by rw [hM2]; exact i1.mono M2
      have e1' : xp1 = (pl L2 t1 : Nat) := by rw [hM2, T.pl_append i1]; exact e1
      have hc := HP.out.costs i
      simp only at r1 r2
      have hk24 : (k : Int) ≤ 23 := by omega
      have hv2 : IntKind.i64.wrap (xv2 - cost i) = xv2 - cost i := IntWalk.i64_in _ (by omega)
      have hv3 : IntKind.i64.wrap (xl2 - cost i) = xl2 - cost i := IntWalk.i64_in _ (by omega)
      have hlen2 : L2.length < 1099511627776 := by
        have a1 := HQ2.out.2.2.2.2.1
        have a2 := HQ1.out.2.2.2.2.1
        have a3 := HP.out.room
        have a4 : 2 ^ (k + 1) = 2 ^ k + 2 ^ k := by rw [Nat.pow_succ]; omega
        omega
      have hS3 : ∀ kk, W3.drew.heap.size ≤ kk → (fun kk => ((S kk ∧ kk ≠ w.heap.size) ∧ kk ≠ w1.heap.size) ∧ ¬ Oth W3.drew kk) kk := by
        intro kk hkk
        have hkk' : W3.heap.size ≤ kk := hkk
        refine ⟨⟨⟨HP.out.base kk (by omega), by omega⟩, by omega⟩, ?_⟩
        rintro ⟨cs, t, fr, hb, -⟩
        have := (Array.getElem?_eq_some_iff.1 hb).1
        omega
      have hsk : ∀ w', Kept (fun kk => ((S kk ∧ kk ≠ w.heap.size) ∧ kk ≠ w1.heap.size) ∧ ¬ Oth W3.drew kk) W3.drew w' →
          w'.cell? ⟨w1.heap.size, 0, none⟩ = some (.int .i64 xv1) ∧ w'.cell? ⟨w1.heap.size, 1, none⟩ = some (.int .i64 xl1) ∧ w'.cell? ⟨w1.heap.size, 2, none⟩ = some (.int .i64 xp1) ∧
          w'.cell? ⟨w2.heap.size, 0, none⟩ = some (.int .i64 xv2) ∧ w'.cell? ⟨w2.heap.size, 1, none⟩ = some (.int .i64 xl2) ∧ w'.cell? ⟨w2.heap.size, 2, none⟩ = some (.int .i64 xp2) ∧
          w'.cell? ⟨b, 0, none⟩ = some (.pointer (some ⟨mb, 0, none⟩)) ∧ w'.cell? ⟨b, 1 + i, none⟩ = some (.int .i64 (cost i)) := by
        intro w' hk
        have a1 := (hk.block _ (Array.getElem?_eq_some_iff.1 hA3).1 (fun h => h.2 ⟨_, _, _, hA3, by decide, by decide⟩)).trans hA3
        have a2 := (hk.block _ (Array.getElem?_eq_some_iff.1 hB3).1 (fun h => h.2 ⟨_, _, _, hB3, by decide, by decide⟩)).trans hB3
        have a3 := (hk.block _ (Array.getElem?_eq_some_iff.1 hI3.blk).1 (fun h => h.2 ⟨_, _, _, hI3.blk, by decide, by decide⟩)).trans hI3.blk
        exact ⟨cell1 (o := 0) a1 rfl, cell1 (o := 1) a1 rfl, cell1 (o := 2) a1 rfl, cell1 (o := 0) a2 rfl, cell1 (o := 1) a2 rfl, cell1 (o := 2) a2 rfl, cell1 (o := 0) a3 rfl, cell1 (o := 1 + i) a3 (by rw [List.getElem?_toArray]; exact linCells_cost hi)⟩
      have HSK := Lib.hid hsk
      have HS3 := Lib.hid hS3
      have HA3 := Lib.hid hA3
      have HB3 := Lib.hid hB3
      have HR3 := Lib.hid hR3
      have HI3 := Lib.hid hI3
      have HMk := Lib.hid (hI3.maker.near (Near.refl W3).drew).avoidOth
      have HG := Lib.hid hI3.good
      have HF1 := Lib.hid f1
      have HF2 := Lib.hid f2
      have HE1 := Lib.hid e1'
      have HE2 := Lib.hid e2
      have HR1 := Lib.hid r1
      have HR2 := Lib.hid r2
      clear hsk hS3 hA3 hB3 hR3 hI3 f1 f2 r1 r2 hK1 hK2 e1 e2 e1' hM2 hc
      have HZ3 := Lib.hid hz3
      clear hz3 hzA hs1 hsw
      refine wp_region_noPanic ?_
      refine wp_region_held_drew (S := (fun w' => w'.cell? ⟨w1.heap.size, 0, none⟩ = some (.int .i64 xv1) ∧ w'.cell? ⟨w1.heap.size, 1, none⟩ = some (.int .i64 xl1) ∧ w'.cell? ⟨w1.heap.size, 2, none⟩ = some (.int .i64 xp1) ∧
          w'.cell? ⟨w2.heap.size, 0, none⟩ = some (.int .i64 xv2) ∧ w'.cell? ⟨w2.heap.size, 1, none⟩ = some (.int .i64 xl2) ∧ w'.cell? ⟨w2.heap.size, 2, none⟩ = some (.int .i64 xp2) ∧
          w'.cell? ⟨b, 0, none⟩ = some (.pointer (some ⟨mb, 0, none⟩)) ∧ w'.cell? ⟨b, 1 + i, none⟩ = some (.int .i64 (cost i)))) (by kernel_rfl) (HSK.out _ (Kept.refl _ _)) (fun hHeld => ?_)
      refine takeH0 (v := Value.pointer (some ⟨w1.heap.size, 0, none⟩)) (by kernel_rfl) (by kernel_rfl) (by kernel_rfl) (fun _ _ _ h => h) (Or.inl ⟨by rfl, fun w' hSw => ?_⟩) hHeld ?_
      · go_simp
      simp only [Act.put, List.setIfInBounds_toArray, List.set_cons_zero, List.set_cons_succ]
      refine takeH1 (v := Value.int .i64 (xv1)) (by kernel_rfl) (by kernel_rfl) (by kernel_rfl) (fun _ _ _ h => h) (Or.inl ⟨by rfl, fun w' hSw => ?_⟩) hHeld ?_
      · go_simp
      simp only [Act.put, List.setIfInBounds_toArray, List.set_cons_zero, List.set_cons_succ]
      refine takeH2 (v := Value.pointer (some ⟨w2.heap.size, 0, none⟩)) (by kernel_rfl) (by kernel_rfl) (by kernel_rfl) (fun _ _ _ h => h) (Or.inl ⟨by rfl, fun w' hSw => ?_⟩) hHeld ?_
      · go_simp
      simp only [Act.put, List.setIfInBounds_toArray, List.set_cons_zero, List.set_cons_succ]
      refine takeH3 (v := Value.int .i64 (xv2)) (by kernel_rfl) (by kernel_rfl) (by kernel_rfl) (fun _ _ _ h => h) (Or.inl ⟨by rfl, fun w' hSw => ?_⟩) hHeld ?_
      · go_simp
      simp only [Act.put, List.setIfInBounds_toArray, List.set_cons_zero, List.set_cons_succ]
      refine takeH4 (v := Value.pointer (some ⟨b, 0, none⟩)) (by kernel_rfl) (by kernel_rfl) (by kernel_rfl) (fun _ _ _ h => h) (Or.inl ⟨by rfl, fun w' hSw => ?_⟩) hHeld ?_
      · go_simp
      simp only [Act.put, List.setIfInBounds_toArray, List.set_cons_zero, List.set_cons_succ]
      refine takeH5 (v := Value.int .i64 ((i : Int))) (by kernel_rfl) (by kernel_rfl) (by kernel_rfl) (fun _ _ _ h => h) (Or.inl ⟨by rfl, fun w' hSw => ?_⟩) hHeld ?_
      · go_simp
      simp only [Act.put, List.setIfInBounds_toArray, List.set_cons_zero, List.set_cons_succ]
      refine takeH6 (v := Value.pointer (some ⟨b, 0, none⟩)) (by kernel_rfl) (by kernel_rfl) (by kernel_rfl) (fun _ _ _ h => h) (Or.inl ⟨by rfl, fun w' hSw => ?_⟩) hHeld ?_
      · go_simp
      simp only [Act.put, List.setIfInBounds_toArray, List.set_cons_zero, List.set_cons_succ]
      refine takeH7 (v := Value.pointer (some ⟨b, 1, none⟩)) (by kernel_rfl) (by kernel_rfl) (by kernel_rfl) (fun _ _ _ h => h) (Or.inl ⟨by rfl, fun w' hSw => ?_⟩) hHeld ?_
      · go_simp
      simp only [Act.put, List.setIfInBounds_toArray, List.set_cons_zero, List.set_cons_succ]
      refine takeH8 (v := Value.pointer (some ⟨b, 1 + i, none⟩)) (by kernel_rfl) (by kernel_rfl) (by kernel_rfl) (fun _ _ _ h => h) (Or.inl ⟨by rfl, fun w' hSw => ?_⟩) hHeld ?_
      · go_simp
      simp only [Act.put, List.setIfInBounds_toArray, List.set_cons_zero, List.set_cons_succ]
      refine takeH9 (v := Value.int .i64 (cost i)) (by kernel_rfl) (by kernel_rfl) (by kernel_rfl) (fun _ _ _ h => h) (Or.inl ⟨by rfl, fun w' hSw => ?_⟩) hHeld ?_
      · go_simp
      simp only [Act.put, List.setIfInBounds_toArray, List.set_cons_zero, List.set_cons_succ]
      refine takeH10 (v := Value.int .i64 (xv2 - cost i)) (by kernel_rfl) (by kernel_rfl) (by kernel_rfl) (fun _ _ _ h => h) (Or.inl ⟨by rfl, fun w' hSw => ?_⟩) hHeld ?_
      · go_simp
      simp only [Act.put, List.setIfInBounds_toArray, List.set_cons_zero, List.set_cons_succ]
      refine takeH11 (v := Value.int .i64 (max xv1 (xv2 - cost i))) (by kernel_rfl) (by kernel_rfl) (by kernel_rfl) (fun _ _ _ h => h) (Or.inl ⟨by rfl, fun w' hSw => ?_⟩) hHeld ?_
      · by_cases hm : xv1 < xv2 - cost i
        · rw [show max xv1 (xv2 - cost i) = xv2 - cost i by omega]; go_simp
        · rw [show max xv1 (xv2 - cost i) = xv1 by omega]; go_simp
      simp only [Act.put, List.setIfInBounds_toArray, List.set_cons_zero, List.set_cons_succ]
      refine takeH12 (v := Value.pointer (some ⟨w1.heap.size, 1, none⟩)) (by kernel_rfl) (by kernel_rfl) (by kernel_rfl) (fun _ _ _ h => h) (Or.inl ⟨by rfl, fun w' hSw => ?_⟩) hHeld ?_
      · go_simp
      simp only [Act.put, List.setIfInBounds_toArray, List.set_cons_zero, List.set_cons_succ]
      refine takeH13 (v := Value.int .i64 (xl1)) (by kernel_rfl) (by kernel_rfl) (by kernel_rfl) (fun _ _ _ h => h) (Or.inl ⟨by rfl, fun w' hSw => ?_⟩) hHeld ?_
      · go_simp
      simp only [Act.put, List.setIfInBounds_toArray, List.set_cons_zero, List.set_cons_succ]
      refine takeH14 (v := Value.pointer (some ⟨w2.heap.size, 1, none⟩)) (by kernel_rfl) (by kernel_rfl) (by kernel_rfl) (fun _ _ _ h => h) (Or.inl ⟨by rfl, fun w' hSw => ?_⟩) hHeld ?_
      · go_simp
      simp only [Act.put, List.setIfInBounds_toArray, List.set_cons_zero, List.set_cons_succ]
      refine takeH15 (v := Value.int .i64 (xl2)) (by kernel_rfl) (by kernel_rfl) (by kernel_rfl) (fun _ _ _ h => h) (Or.inl ⟨by rfl, fun w' hSw => ?_⟩) hHeld ?_
      · go_simp
      simp only [Act.put, List.setIfInBounds_toArray, List.set_cons_zero, List.set_cons_succ]
      refine takeH16 (v := Value.pointer (some ⟨b, 0, none⟩)) (by kernel_rfl) (by kernel_rfl) (by kernel_rfl) (fun _ _ _ h => h) (Or.inl ⟨by rfl, fun w' hSw => ?_⟩) hHeld ?_
      · go_simp
      simp only [Act.put, List.setIfInBounds_toArray, List.set_cons_zero, List.set_cons_succ]
      refine takeH17 (v := Value.int .i64 ((i : Int))) (by kernel_rfl) (by kernel_rfl) (by kernel_rfl) (fun _ _ _ h => h) (Or.inl ⟨by rfl, fun w' hSw => ?_⟩) hHeld ?_
      · go_simp
      simp only [Act.put, List.setIfInBounds_toArray, List.set_cons_zero, List.set_cons_succ]
      refine takeH18 (v := Value.pointer (some ⟨b, 0, none⟩)) (by kernel_rfl) (by kernel_rfl) (by kernel_rfl) (fun _ _ _ h => h) (Or.inl ⟨by rfl, fun w' hSw => ?_⟩) hHeld ?_
      · go_simp
      simp only [Act.put, List.setIfInBounds_toArray, List.set_cons_zero, List.set_cons_succ]
      refine takeH19 (v := Value.pointer (some ⟨b, 1, none⟩)) (by kernel_rfl) (by kernel_rfl) (by kernel_rfl) (fun _ _ _ h => h) (Or.inl ⟨by rfl, fun w' hSw => ?_⟩) hHeld ?_
      · go_simp
      simp only [Act.put, List.setIfInBounds_toArray, List.set_cons_zero, List.set_cons_succ]
      refine takeH20 (v := Value.pointer (some ⟨b, 1 + i, none⟩)) (by kernel_rfl) (by kernel_rfl) (by kernel_rfl) (fun _ _ _ h => h) (Or.inl ⟨by rfl, fun w' hSw => ?_⟩) hHeld ?_
      · go_simp
      simp only [Act.put, List.setIfInBounds_toArray, List.set_cons_zero, List.set_cons_succ]
      refine takeH21 (v := Value.int .i64 (cost i)) (by kernel_rfl) (by kernel_rfl) (by kernel_rfl) (fun _ _ _ h => h) (Or.inl ⟨by rfl, fun w' hSw => ?_⟩) hHeld ?_
      · go_simp
      simp only [Act.put, List.setIfInBounds_toArray, List.set_cons_zero, List.set_cons_succ]
      refine takeH22 (v := Value.int .i64 (xl2 - cost i)) (by kernel_rfl) (by kernel_rfl) (by kernel_rfl) (fun _ _ _ h => h) (Or.inl ⟨by rfl, fun w' hSw => ?_⟩) hHeld ?_
      · go_simp
      simp only [Act.put, List.setIfInBounds_toArray, List.set_cons_zero, List.set_cons_succ]
      refine takeH23 (v := Value.int .i64 (min xl1 (xl2 - cost i))) (by kernel_rfl) (by kernel_rfl) (by kernel_rfl) (fun _ _ _ h => h) (Or.inl ⟨by rfl, fun w' hSw => ?_⟩) hHeld ?_
      · by_cases hm : xl2 - cost i < xl1
        · rw [show min xl1 (xl2 - cost i) = xl2 - cost i by omega]; go_simp
        · rw [show min xl1 (xl2 - cost i) = xl1 by omega]; go_simp
      simp only [Act.put, List.setIfInBounds_toArray, List.set_cons_zero, List.set_cons_succ]
      refine takeH24 (v := Value.pointer (some ⟨b, 0, none⟩)) (by kernel_rfl) (by kernel_rfl) (by kernel_rfl) (fun _ _ _ h => h) (Or.inl ⟨by rfl, fun w' hSw => ?_⟩) hHeld ?_
      · go_simp
      simp only [Act.put, List.setIfInBounds_toArray, List.set_cons_zero, List.set_cons_succ]
      refine takeH25 (v := Value.pointer (some ⟨b, 0, none⟩)) (by kernel_rfl) (by kernel_rfl) (by kernel_rfl) (fun _ _ _ h => h) (Or.inl ⟨by rfl, fun w' hSw => ?_⟩) hHeld ?_
      · go_simp
      simp only [Act.put, List.setIfInBounds_toArray, List.set_cons_zero, List.set_cons_succ]
      refine takeH26 (v := Value.pointer (some ⟨b, 0, none⟩)) (by kernel_rfl) (by kernel_rfl) (by kernel_rfl) (fun _ _ _ h => h) (Or.inl ⟨by rfl, fun w' hSw => ?_⟩) hHeld ?_
      · go_simp
      simp only [Act.put, List.setIfInBounds_toArray, List.set_cons_zero, List.set_cons_succ]
      refine takeH27 (v := Value.pointer (some ⟨mb, 0, none⟩)) (by kernel_rfl) (by kernel_rfl) (by kernel_rfl) (fun _ _ _ h => h) (Or.inl ⟨by rfl, fun w' hSw => ?_⟩) hHeld ?_
      · go_simp
      simp only [Act.put, List.setIfInBounds_toArray, List.set_cons_zero, List.set_cons_succ]
      refine takeH28 (v := Value.int .i64 ((i : Int))) (by kernel_rfl) (by kernel_rfl) (by kernel_rfl) (fun _ _ _ h => h) (Or.inl ⟨by rfl, fun w' hSw => ?_⟩) hHeld ?_
      · go_simp
      simp only [Act.put, List.setIfInBounds_toArray, List.set_cons_zero, List.set_cons_succ]
      refine takeH29 (v := Value.pointer (some ⟨w1.heap.size, 2, none⟩)) (by kernel_rfl) (by kernel_rfl) (by kernel_rfl) (fun _ _ _ h => h) (Or.inl ⟨by rfl, fun w' hSw => ?_⟩) hHeld ?_
      · go_simp
      simp only [Act.put, List.setIfInBounds_toArray, List.set_cons_zero, List.set_cons_succ]
      refine takeH30 (v := Value.int .i64 (xp1)) (by kernel_rfl) (by kernel_rfl) (by kernel_rfl) (fun _ _ _ h => h) (Or.inl ⟨by rfl, fun w' hSw => ?_⟩) hHeld ?_
      · go_simp
      simp only [Act.put, List.setIfInBounds_toArray, List.set_cons_zero, List.set_cons_succ]
      refine takeH31 (v := Value.pointer (some ⟨w2.heap.size, 2, none⟩)) (by kernel_rfl) (by kernel_rfl) (by kernel_rfl) (fun _ _ _ h => h) (Or.inl ⟨by rfl, fun w' hSw => ?_⟩) hHeld ?_
      · go_simp
      simp only [Act.put, List.setIfInBounds_toArray, List.set_cons_zero, List.set_cons_succ]
      refine takeH32 (v := Value.int .i64 (xp2)) (by kernel_rfl) (by kernel_rfl) (by kernel_rfl) (fun _ _ _ h => h) (Or.inl ⟨by rfl, fun w' hSw => ?_⟩) hHeld ?_
      · go_simp
      simp only [Act.put, List.setIfInBounds_toArray, List.set_cons_zero, List.set_cons_succ]
      refine wpAnyH_ready (rs := [33, 35]) (by kernel_rfl) (by simp) ?_
      refine consH33 (fun K hK => ?_) ?_
      · go_simp
        go_at_call 78; refine (node_calls (S := fun kk => ((S kk ∧ kk ≠ w.heap.size) ∧ kk ≠ w1.heap.size) ∧ ¬ Oth W3.drew kk) HG.out i1' i2 hi hlen2 HS3.out HMk.out rfl HE1.out HE2.out).mono ?_; rintro e w4 ⟨rfl, hm4, hk4⟩; have HM4 := Lib.hid hm4; have HK4 := Lib.hid hk4; clear hm4 hk4
        refine hK.out _ _ (HSK.out _ HK4.out) (fun hHeld => ?_)
        clear hK K
        try simp only [Act.put, List.setIfInBounds_toArray, List.set_cons_zero, List.set_cons_succ]
        refine takeH34 (v := Value.agg #[Value.int .i64 (max xv1 (xv2 - cost i)), Value.int .i64 (min xl1 (xl2 - cost i)), Value.int .i64 (pl (T.add L2 i t1 t2) (T.mk i t1 t2) : Nat)]) (by kernel_rfl) (by kernel_rfl) (by kernel_rfl) (fun _ _ _ h => h) (Or.inl ⟨by rfl, fun w' hSw => ?_⟩) hHeld ?_
        · go_simp
        simp only [Act.put, List.setIfInBounds_toArray, List.set_cons_zero, List.set_cons_succ]
        refine wpAnyH_ready (rs := [35]) (by kernel_rfl) (by simp) ?_
        refine consH35 (fun K hK => ?_) ?_
        · go_simp
          refine hK.out _ _ (HSK.out _ (HK4.out.alloc _)) (fun hHeld => ?_)
          clear hK K
          try simp only [Act.put, List.setIfInBounds_toArray, List.set_cons_zero, List.set_cons_succ]
          have zb : (w4.alloc (.cells #[.int .i64 0, .int .i64 0, .int .i64 0] 188)).heap[w4.heap.size]? = some (.cells #[.int .i64 0, .int .i64 0, .int .i64 0] 188 (0, 0)) := heap_new_at rfl
          have z0 := cell1 (o := 0) zb rfl
          have z1 := cell1 (o := 1) zb rfl
          have z2 := cell1 (o := 2) zb rfl
          have zf := free1 zb
          refine wpAnyH_ready (rs := [36]) (by kernel_rfl) (by simp) ?_
          refine consH36 (fun K hK => ?_) ?_
          · go_simp
            refine hK.out _ _ (HSK.out _ (HK4.out.alloc _)) (fun hHeld => ?_)
            clear hK K
            try simp only [Act.put, List.setIfInBounds_toArray, List.set_cons_zero, List.set_cons_succ]
            refine wpAnyH_done (by kernel_rfl) ?_ _
            refine NoPanic.normal ?_
            have hT : (w4.alloc (.cells #[Value.int .i64 (max xv1 (xv2 - cost i)), Value.int .i64 (min xl1 (xl2 - cost i)), Value.int .i64 (pl (T.add L2 i t1 t2) (T.mk i t1 t2) : Nat)] 188)).heap[w4.heap.size]? = some (.cells #[Value.int .i64 (max xv1 (xv2 - cost i)), Value.int .i64 (min xl1 (xl2 - cost i)), Value.int .i64 (pl (T.add L2 i t1 t2) (T.mk i t1 t2) : Nat)] 188 (0, 0)) := heap_new_at rfl
            have hm5 : IsMaker (w4.alloc (.cells #[Value.int .i64 (max xv1 (xv2 - cost i)), Value.int .i64 (min xl1 (xl2 - cost i)), Value.int .i64 (pl (T.add L2 i t1 t2) (T.mk i t1 t2) : Nat)] 188)) mb (fun kk => ((S kk ∧ kk ≠ w.heap.size) ∧ kk ≠ w1.heap.size) ∧ ¬ Oth W3.drew kk) (T.add L2 i t1 t2) := HM4.out.near ((Near.refl w4).alloc _)
            have hk5 : Kept (fun kk => ((S kk ∧ kk ≠ w.heap.size) ∧ kk ≠ w1.heap.size) ∧ ¬ Oth W3.drew kk) W3.drew (w4.alloc (.cells #[Value.int .i64 (max xv1 (xv2 - cost i)), Value.int .i64 (min xl1 (xl2 - cost i)), Value.int .i64 (pl (T.add L2 i t1 t2) (T.mk i t1 t2) : Nat)] 188)) := HK4.out.alloc _
            have hp : W3.heap.size ≤ w4.heap.size := HK4.out.size
            clear z0 z1 z2 zf hHeld
            generalize hV : w4.alloc (.cells #[Value.int .i64 (max xv1 (xv2 - cost i)), Value.int .i64 (min xl1 (xl2 - cost i)), Value.int .i64 (pl (T.add L2 i t1 t2) (T.mk i t1 t2) : Nat)] 188) = V at hT hm5 hk5 ⊢
            have HT := Lib.hid hT
            have HM6 := Lib.hid hm5
            have HK5 := Lib.hid hk5
            clear hV hT hm5 hk5
            obtain ⟨pb, epb⟩ : ∃ x, x = w4.heap.size := ⟨_, rfl⟩
            rw [← epb] at HT ⊢
            replace hp : W3.heap.size ≤ pb := by rw [epb]; exact hp
            clear epb
            have HI6 := Lib.hid ((HI3.out.kept (Near.refl W3).drew).node (T.add_good HG.out i1' i2 hi (by omega) (by omega) o1 o2) HM6.out HK5.out)
            have hks : ks2 i = l := ((HQ2.out.2.2.2.2.2.2.1 i (by omega)).trans (HQ1.out.2.2.2.2.2.2.1 i (by omega))).trans HL.out
            have hnl : (ks2 i).length < 67108864 := by rw [hks]; exact hll
            have HNL := Lib.hid hnl
            obtain ⟨ao2, cap2, hkv⟩ := owns_form (HI6.out.rows i hi)
            have gkv := cell1 (o := 26 + i) HI6.out.blk (by rw [List.getElem?_toArray]; exact linCells_known hi)
            have hrow := HI6.out.rows i hi
            have HNB := Lib.hid (row_ne hrow HI6.out.blk (by decide))
            have HNP := Lib.hid (show ∀ kk, (kv2 i).ownBlock = some kk → kk < W3.heap.size from fun kk e => ((HI3.out.rows i hi).lt kk e).2)
            rw [hkv] at gkv hrow
            have HROW := Lib.hid hrow
            have HKV := Lib.hid hkv
            have u0 := cell1 (o := 0) HT.out rfl
            have u1 := cell1 (o := 1) HT.out rfl
            have u2 := cell1 (o := 2) HT.out rfl
            have HBL := Lib.hid (Array.getElem?_eq_some_iff.1 HI3.out.blk).1
            have HPB := Lib.hid hp
            have HSK2 := Lib.hid (show ∀ w', Kept (fun kk => (kv2 i).ownBlock = some kk) V w' → w'.cell? ⟨b, 26 + i, none⟩ = some (Value.slice ao2 (ks2 i).length cap2) ∧ w'.cell? ⟨pb, 0, none⟩ = some (Value.int .i64 (max xv1 (xv2 - cost i))) ∧ w'.cell? ⟨pb, 1, none⟩ = some (Value.int .i64 (min xl1 (xl2 - cost i))) ∧ w'.cell? ⟨pb, 2, none⟩ = some (Value.int .i64 (pl (T.add L2 i t1 t2) (T.mk i t1 t2) : Nat)) from fun w' hk => ⟨hk.cell gkv HNB.out, hk.cell u0 (fun e => Nat.not_le.2 (HNP.out _ e) HPB.out), hk.cell u1 (fun e => Nat.not_le.2 (HNP.out _ e) HPB.out), hk.cell u2 (fun e => Nat.not_le.2 (HNP.out _ e) HPB.out)⟩)
            clear hks hkv gkv hrow u0 u1 u2 hnl hp
            go_wp2_with fail
            refine wp_region_noPanic ?_
            refine wp_region_A (by kernel_rfl) ?_
            refine takeA0 (v := Value.pointer (some ⟨b, 0, none⟩)) (by kernel_rfl) (by kernel_rfl) (by kernel_rfl) (fun _ _ _ h => h) (Or.inl ⟨by rfl, fun w' => ?_⟩) ?_
            · go_simp
            simp only [Act.put, List.setIfInBounds_toArray, List.set_cons_zero, List.set_cons_succ]
            refine takeA1 (v := Value.int .i64 ((i : Int))) (by kernel_rfl) (by kernel_rfl) (by kernel_rfl) (fun _ _ _ h => h) (Or.inl ⟨by rfl, fun w' => ?_⟩) ?_
            · go_simp
            simp only [Act.put, List.setIfInBounds_toArray, List.set_cons_zero, List.set_cons_succ]
            refine takeA2 (v := Value.pointer (some ⟨b, 0, none⟩)) (by kernel_rfl) (by kernel_rfl) (by kernel_rfl) (fun _ _ _ h => h) (Or.inl ⟨by rfl, fun w' => ?_⟩) ?_
            · go_simp
            simp only [Act.put, List.setIfInBounds_toArray, List.set_cons_zero, List.set_cons_succ]
            refine takeA3 (v := Value.int .i64 ((i : Int))) (by kernel_rfl) (by kernel_rfl) (by kernel_rfl) (fun _ _ _ h => h) (Or.inl ⟨by rfl, fun w' => ?_⟩) ?_
            · go_simp
            simp only [Act.put, List.setIfInBounds_toArray, List.set_cons_zero, List.set_cons_succ]
            refine takeA4 (v := Value.pointer (some ⟨b, 0, none⟩)) (by kernel_rfl) (by kernel_rfl) (by kernel_rfl) (fun _ _ _ h => h) (Or.inl ⟨by rfl, fun w' => ?_⟩) ?_
            · go_simp
            simp only [Act.put, List.setIfInBounds_toArray, List.set_cons_zero, List.set_cons_succ]
            refine takeA5 (v := Value.pointer (some ⟨b, 26, none⟩)) (by kernel_rfl) (by kernel_rfl) (by kernel_rfl) (fun _ _ _ h => h) (Or.inl ⟨by rfl, fun w' => ?_⟩) ?_
            · go_simp
            simp only [Act.put, List.setIfInBounds_toArray, List.set_cons_zero, List.set_cons_succ]
            refine takeA6 (v := Value.pointer (some ⟨b, 26 + i, none⟩)) (by kernel_rfl) (by kernel_rfl) (by kernel_rfl) (fun _ _ _ h => h) (Or.inl ⟨by rfl, fun w' => ?_⟩) ?_
            · go_simp
            simp only [Act.put, List.setIfInBounds_toArray, List.set_cons_zero, List.set_cons_succ]
            refine takeA11 (v := Value.pointer (some ⟨b, 0, none⟩)) (by kernel_rfl) (by kernel_rfl) (by kernel_rfl) (fun _ _ _ h => h) (Or.inl ⟨by rfl, fun w' => ?_⟩) ?_
            · go_simp
            simp only [Act.put, List.setIfInBounds_toArray, List.set_cons_zero, List.set_cons_succ]
            refine takeA12 (v := Value.pointer (some ⟨b, 26, none⟩)) (by kernel_rfl) (by kernel_rfl) (by kernel_rfl) (fun _ _ _ h => h) (Or.inl ⟨by rfl, fun w' => ?_⟩) ?_
            · go_simp
            simp only [Act.put, List.setIfInBounds_toArray, List.set_cons_zero, List.set_cons_succ]
            refine wpAny_of_Z (S := (fun w' => w'.cell? ⟨b, 26 + i, none⟩ = some (Value.slice ao2 (ks2 i).length cap2) ∧ w'.cell? ⟨pb, 0, none⟩ = some (Value.int .i64 (max xv1 (xv2 - cost i))) ∧ w'.cell? ⟨pb, 1, none⟩ = some (Value.int .i64 (min xl1 (xl2 - cost i))) ∧ w'.cell? ⟨pb, 2, none⟩ = some (Value.int .i64 (pl (T.add L2 i t1 t2) (T.mk i t1 t2) : Nat)))) (z := 14) _ _ _ _ ?_
            have hHeld := HSK2.out _ (Kept.refl _ V).drew
            refine takeZ7 (v := Value.slice ao2 (ks2 i).length cap2) (by kernel_rfl) (by kernel_rfl) (by kernel_rfl) (by kernel_rfl) (fun _ _ _ h => h) (Or.inl ⟨by rfl, fun w' hSw => ?_⟩) hHeld ?_
            · go_simp
            simp only [Act.put, List.setIfInBounds_toArray, List.set_cons_zero, List.set_cons_succ]
            refine takeZ8 (v := Value.agg #[Value.int .i64 (max xv1 (xv2 - cost i)), Value.int .i64 (min xl1 (xl2 - cost i)), Value.int .i64 (pl (T.add L2 i t1 t2) (T.mk i t1 t2) : Nat)]) (by kernel_rfl) (by kernel_rfl) (by kernel_rfl) (by kernel_rfl) (fun _ _ _ h => h) (Or.inl ⟨by rfl, fun w' hSw => ?_⟩) hHeld ?_
            · go_simp
            simp only [Act.put, List.setIfInBounds_toArray, List.set_cons_zero, List.set_cons_succ]
            refine oneZ9 (by kernel_rfl) (fun K hK => ?_)
            go_simp
            refine hK.out _ _ (.inr (HSK2.out _ ((Kept.refl _ V).drew.alloc _))) ?_
            clear hK K hHeld
            try simp only [Act.put, List.setIfInBounds_toArray, List.set_cons_zero, List.set_cons_succ]
            refine oneZ10 (by kernel_rfl) (fun K hK => ?_)
            refine step_append_keep rfl (.tmp 102) (.tmp 104) 183 rfl 0 188 i0 (.agg #[.int .i64 0, .int .i64 0, .int .i64 0]) 3 24 Try.underlying183 hi0 jz0 jz1 jz2 rfl (by decide) _ _ _ rfl (owns_kept HROW.out (((Near.refl V).drew).alloc _) (fun _ _ h => h)) ⟨V.heap.size, 0, none⟩ 1 1 [Value.int .i64 (max xv1 (xv2 - cost i)), Value.int .i64 (min xl1 (xl2 - cost i)), Value.int .i64 (pl (T.add L2 i t1 t2) (T.mk i t1 t2) : Nat)] rfl rfl (cell_three_at rfl _ _ _ _) (by simp [Value.oneCell']) (by have := HNL.out; unfold maxLen; omega) (by have := HNL.out; omega) (Nat.zero_le _) ?_
            intro ao6 cap6 w6 hown6 hg6 hl6 _
            have HK6 := Lib.hid (Kept.grown ((Kept.refl (fun kk => (kv2 i).ownBlock = some kk) V).drew.alloc _) hg6 (fun kk e _ => by rw [HKV.out]; exact e))
            have HOW6 := Lib.hid hown6
            have HL6 := Lib.hid hl6
            have hh6 := HSK2.out _ HK6.out
            refine hK.out _ _ (.inr hh6) ?_
            clear hK K hown6 hg6 hl6
            try simp only [Act.put, List.setIfInBounds_toArray, List.set_cons_zero, List.set_cons_succ]
            have HPX := Lib.hid hh6
            clear hh6
            refine oneZ13 (by kernel_rfl) (fun K hK => ?_)
            go_simp
            refine hK.out _ _ (.inr HPX.out) ?_
            clear hK K
            try simp only [Act.put, List.setIfInBounds_toArray, List.set_cons_zero, List.set_cons_succ]
            have c6 := HPX.out.1
            have f6 := free1 ((HK6.out.block b (Nat.lt_of_lt_of_le HBL.out HK5.out.size) HNB.out).trans HI6.out.blk)
            refine oneZ14 (by kernel_rfl) (fun K hK => ?_)
            go_simp
            refine hK.out _ _ (.inl rfl) ?_
            clear hK K c6 f6
            try simp only [Act.put, List.setIfInBounds_toArray, List.set_cons_zero, List.set_cons_succ]
            refine wpAnyZ_done (by kernel_rfl) ?_
            refine NoPanic.normal ?_
            have hbl := HBL.out
            have hpb := HPB.out
            have hsz5 := HK5.out.size
            have hb6 := (HK6.out.block b (Nat.lt_of_lt_of_le HBL.out HK5.out.size) HNB.out).trans HI6.out.blk
            obtain ⟨hbox, hk7⟩ := HI6.out.app hi (y := spanOf (cost i) (pl (T.add L2 i t1 t2) (T.mk i t1 t2) : Nat) ⟨xv1, xl1, xp1⟩ ⟨xv2, xl2, xp2⟩) HOW6.out HK6.out (by rw [HKV.out]; exact HL6.out.imp id (fun e => ⟨_, e, by simp⟩)) (fun kk h => (HS3.out kk (Nat.le_trans HK5.out.size h)).1) _ rfl
            have hT7 := (Kept.setCell (S := fun kk => (kv2 i).ownBlock = some kk ∨ kk = b) (Kept.mono HK6.out (fun _ _ h => Or.inl h)) (p := ⟨b, 26 + i, none⟩) (fun _ => Or.inr rfl) (Value.slice ao6 ((ks2 i).length + 1) cap6)).block pb (Array.getElem?_eq_some_iff.1 HT.out).1 (fun h => h.elim (fun e => Nat.not_le.2 (HNP.out _ e) hpb) (fun e => Nat.not_le.2 hbl (e ▸ hpb)))
            replace hT7 := hT7.trans HT.out
            have hr3 := (Array.getElem?_eq_some_iff.1 HR3.out).1
            have hR5 := (HK5.out.block w.heap.size hr3 (fun h => h.1.1.2 rfl)).trans HR3.out
            have hR7 := (hk7.block w.heap.size (Nat.lt_of_lt_of_le hr3 hsz5) (fun h => h.1.2 rfl)).trans hR5
            have HBX := Lib.hid hbox
            have HK7 := Lib.hid hk7
            clear hbox hk7 hR5 hb6 hbl hpb hsz5 hr3
            generalize hW : w6.setCell ⟨b, 26 + i, none⟩ (Value.slice ao6 ((ks2 i).length + 1) cap6) = W7 at HBX HK7 hT7 hR7 ⊢
            clear hW
            have q0 := cell1 (o := 0) hT7 rfl
            have q1 := cell1 (o := 1) hT7 rfl
            have q2 := cell1 (o := 2) hT7 rfl
            have z0 := cell1 (o := 0) hR7 rfl
            have z1 := cell1 (o := 1) hR7 rfl
            have z2 := cell1 (o := 2) hR7 rfl
            have zf := free1 hR7
            have HR7 := Lib.hid hR7
            clear hT7 hR7
            go_wp2_with fail
            have hR8 := setCell_heap (setCell_heap (setCell_heap HR7.out 0 (Value.int .i64 (max xv1 (xv2 - cost i)))) 1 (Value.int .i64 (min xl1 (xl2 - cost i)))) 2 (Value.int .i64 (pl (T.add L2 i t1 t2) (T.mk i t1 t2) : Nat))
            simp only [List.setIfInBounds_toArray, List.set_cons_zero, List.set_cons_succ] at hR8
            have hk8 := Kept.setCell (S := fun kk => kk = w.heap.size) (Kept.setCell (S := fun kk => kk = w.heap.size) (Kept.setCell (S := fun kk => kk = w.heap.size) (Kept.refl (fun kk => kk = w.heap.size) W7) (p := ⟨w.heap.size, 0, none⟩) (fun _ => rfl) (Value.int .i64 (max xv1 (xv2 - cost i)))) (p := ⟨w.heap.size, 1, none⟩) (fun _ => rfl) (Value.int .i64 (min xl1 (xl2 - cost i)))) (p := ⟨w.heap.size, 2, none⟩) (fun _ => rfl) (Value.int .i64 (pl (T.add L2 i t1 t2) (T.mk i t1 t2) : Nat))
            generalize hW8 : ((W7.setCell ⟨w.heap.size, 0, none⟩ (Value.int .i64 (max xv1 (xv2 - cost i)))).setCell ⟨w.heap.size, 1, none⟩ (Value.int .i64 (min xl1 (xl2 - cost i)))).setCell ⟨w.heap.size, 2, none⟩ (Value.int .i64 (pl (T.add L2 i t1 t2) (T.mk i t1 t2) : Nat)) = W8 at hR8 hk8 ⊢
            have y0 := cell1 (o := 0) hR8 rfl
            have y1 := cell1 (o := 1) hR8 rfl
            have y2 := cell1 (o := 2) hR8 rfl
            have hbox8 := (HBX.out.keptOf hk8 (fun kk e h => h.1.2 e) (fun kk e e2 => Nat.lt_irrefl _ (e2 ▸ (HP.out.box.ends.lt kk e).2))).mono_lt (R := S) (fun kk _ h => h.1.1)
            have hk1 : Kept S w (w1.alloc (.cells #[.int .i64 xv1, .int .i64 xl1, .int .i64 xp1] 188)) := ((Kept.mono (HN1.out.trans HNr.out) (fun _ _ f => f.elim)).trans (Kept.mono HQ1.out.2.2.2.2.2.2.2.2 (fun _ _ h => h.1))).alloc _
            have hk3 : Kept S w W3 := (hk1.trans (Kept.mono HQ2.out.2.2.2.2.2.2.2.2 (fun _ _ h => h.1.1))).trans (Kept.mono HN3.out (fun _ _ f => f.elim))
            have hkept : Kept S w W8 := ((hk3.drew.trans (Kept.mono HK5.out (fun _ _ h => h.1.1.1))).trans (Kept.mono HK7.out (fun _ _ h => h.1.1))).trans (Kept.mono hk8 (fun kk _ e => HP.out.base kk (Nat.le_of_eq e.symm)))
            exact bodyPost_ret (v := .agg #[Value.int .i64 (max xv1 (xv2 - cost i)), Value.int .i64 (min xl1 (xl2 - cost i)), Value.int .i64 (pl (T.add L2 i t1 t2) (T.mk i t1 t2) : Nat)]) (by simp [results, Try.results145, go_sem, y0, y1, y2]) rfl (from_join hik rfl (HP.out.costs i) HQ1.out HQ2.out i1' HF1.out o1 l1 HF2.out o2 l2 HR1.out HR2.out hbox8 hkept)
          · exact AllReadyH.nil
        · exact AllReadyH.nil
      refine consH35 (fun K hK => ?_) ?_
      · go_simp
        refine hK.out _ _ (HSK.out _ (Kept.alloc (Kept.refl _ W3.drew) _)) (fun hHeld => ?_)
        clear hK K
        try simp only [Act.put, List.setIfInBounds_toArray, List.set_cons_zero, List.set_cons_succ]
        refine wpAnyH_ready (rs := [33]) (by kernel_rfl) (by simp) ?_
        refine consH33 (fun K hK => ?_) ?_
        · go_simp
          go_at_call 78; refine (node_calls (S := fun kk => (((S kk ∧ kk ≠ w.heap.size) ∧ kk ≠ w1.heap.size) ∧ ¬ Oth W3.drew kk) ∧ kk ≠ W3.drew.heap.size) HG.out i1' i2 hi hlen2 (fun kk hkk => ⟨HS3.out kk (Nat.le_trans (by simp) hkk), fun e => absurd hkk (by rw [e]; simp)⟩) ((HMk.out.mono_lt (fun kk hk hs => ⟨hs, Nat.ne_of_lt hk⟩)).near ((Near.refl W3.drew).alloc _)) rfl HE1.out HE2.out).mono ?_; rintro e w4 ⟨rfl, hm4, hk4⟩; have hb4 := (hk4.block W3.drew.heap.size (by simp) (fun h => h.2 rfl)).trans (heap_new_at rfl); have z0 : w4.cell? ⟨W3.heap.size, 0, none⟩ = some (.int .i64 0) := cell1 (o := 0) hb4 rfl; have z1 : w4.cell? ⟨W3.heap.size, 1, none⟩ = some (.int .i64 0) := cell1 (o := 1) hb4 rfl; have z2 : w4.cell? ⟨W3.heap.size, 2, none⟩ = some (.int .i64 0) := cell1 (o := 2) hb4 rfl; have zf : ∀ o, w4.frozen? ⟨W3.heap.size, o, none⟩ = false := free1 hb4; have HM5 := Lib.hid hm4; have HK4 := Lib.hid ((Kept.alloc (Kept.refl _ W3.drew) _).trans (Kept.mono hk4 (fun _ _ h => h.1))); clear hm4 hk4
          refine hK.out _ _ (HSK.out _ HK4.out) (fun hHeld => ?_)
          clear hK K
          try simp only [Act.put, List.setIfInBounds_toArray, List.set_cons_zero, List.set_cons_succ]
          refine takeH34 (v := Value.agg #[Value.int .i64 (max xv1 (xv2 - cost i)), Value.int .i64 (min xl1 (xl2 - cost i)), Value.int .i64 (pl (T.add L2 i t1 t2) (T.mk i t1 t2) : Nat)]) (by kernel_rfl) (by kernel_rfl) (by kernel_rfl) (fun _ _ _ h => h) (Or.inl ⟨by rfl, fun w' hSw => ?_⟩) hHeld ?_
          · go_simp
          simp only [Act.put, List.setIfInBounds_toArray, List.set_cons_zero, List.set_cons_succ]
          refine wpAnyH_ready (rs := [36]) (by kernel_rfl) (by simp) ?_
          refine consH36 (fun K hK => ?_) ?_
          · go_simp
            refine hK.out _ _ (HSK.out _ (Kept.setCell (Kept.setCell (Kept.setCell HK4.out (fun h => absurd h (Nat.lt_irrefl _)) _) (fun h => absurd h (Nat.lt_irrefl _)) _) (fun h => absurd h (Nat.lt_irrefl _)) _)) (fun hHeld => ?_)
            clear hK K
            try simp only [Act.put, List.setIfInBounds_toArray, List.set_cons_zero, List.set_cons_succ]
            refine wpAnyH_done (by kernel_rfl) ?_ _
            refine NoPanic.normal ?_
            have hb4' : w4.heap[W3.heap.size]? = some (.cells #[Value.int .i64 0, Value.int .i64 0, Value.int .i64 0] 188 (0, 0)) := hb4
            have hT := setCell_heap (setCell_heap (setCell_heap hb4' 0 (Value.int .i64 (max xv1 (xv2 - cost i)))) 1 (Value.int .i64 (min xl1 (xl2 - cost i)))) 2 (Value.int .i64 (pl (T.add L2 i t1 t2) (T.mk i t1 t2) : Nat))
            simp only [List.setIfInBounds_toArray, List.set_cons_zero, List.set_cons_succ] at hT
            have hkB := Kept.setCell (S := fun kk => kk = W3.heap.size) (Kept.setCell (S := fun kk => kk = W3.heap.size) (Kept.setCell (S := fun kk => kk = W3.heap.size) (Kept.refl (fun kk => kk = W3.heap.size) w4) (p := ⟨W3.heap.size, 0, none⟩) (fun _ => rfl) (Value.int .i64 (max xv1 (xv2 - cost i)))) (p := ⟨W3.heap.size, 1, none⟩) (fun _ => rfl) (Value.int .i64 (min xl1 (xl2 - cost i)))) (p := ⟨W3.heap.size, 2, none⟩) (fun _ => rfl) (Value.int .i64 (pl (T.add L2 i t1 t2) (T.mk i t1 t2) : Nat))
            have hm5 : IsMaker (((w4.setCell ⟨W3.heap.size, 0, none⟩ (Value.int .i64 (max xv1 (xv2 - cost i)))).setCell ⟨W3.heap.size, 1, none⟩ (Value.int .i64 (min xl1 (xl2 - cost i)))).setCell ⟨W3.heap.size, 2, none⟩ (Value.int .i64 (pl (T.add L2 i t1 t2) (T.mk i t1 t2) : Nat))) mb (fun kk => ((S kk ∧ kk ≠ w.heap.size) ∧ kk ≠ w1.heap.size) ∧ ¬ Oth W3.drew kk) (T.add L2 i t1 t2) := (HM5.out.of_kept hkB (fun _ _ h e => h.2 e)).mono (fun _ h => h.1)
            have hk5 := Kept.setCell (S := fun kk => ((S kk ∧ kk ≠ w.heap.size) ∧ kk ≠ w1.heap.size) ∧ ¬ Oth W3.drew kk) (Kept.setCell (S := fun kk => ((S kk ∧ kk ≠ w.heap.size) ∧ kk ≠ w1.heap.size) ∧ ¬ Oth W3.drew kk) (Kept.setCell (S := fun kk => ((S kk ∧ kk ≠ w.heap.size) ∧ kk ≠ w1.heap.size) ∧ ¬ Oth W3.drew kk) HK4.out (p := ⟨W3.heap.size, 0, none⟩) (fun h => absurd h (Nat.lt_irrefl _)) (Value.int .i64 (max xv1 (xv2 - cost i)))) (p := ⟨W3.heap.size, 1, none⟩) (fun h => absurd h (Nat.lt_irrefl _)) (Value.int .i64 (min xl1 (xl2 - cost i)))) (p := ⟨W3.heap.size, 2, none⟩) (fun h => absurd h (Nat.lt_irrefl _)) (Value.int .i64 (pl (T.add L2 i t1 t2) (T.mk i t1 t2) : Nat))
            have hp : W3.heap.size ≤ W3.heap.size := Nat.le_refl _
            clear z0 z1 z2 zf hHeld
            generalize hV : ((w4.setCell ⟨W3.heap.size, 0, none⟩ (Value.int .i64 (max xv1 (xv2 - cost i)))).setCell ⟨W3.heap.size, 1, none⟩ (Value.int .i64 (min xl1 (xl2 - cost i)))).setCell ⟨W3.heap.size, 2, none⟩ (Value.int .i64 (pl (T.add L2 i t1 t2) (T.mk i t1 t2) : Nat)) = V at hT hm5 hk5 ⊢
            have HT := Lib.hid hT
            have HM6 := Lib.hid hm5
            have HK5 := Lib.hid hk5
            clear hV hT hm5 hk5 hkB hb4 hb4'
            obtain ⟨pb, epb⟩ : ∃ x, x = W3.heap.size := ⟨_, rfl⟩
            rw [← epb] at HT ⊢
            replace hp : W3.heap.size ≤ pb := by rw [epb]; exact hp
            clear epb
            have HI6 := Lib.hid ((HI3.out.kept (Near.refl W3).drew).node (T.add_good HG.out i1' i2 hi (by omega) (by omega) o1 o2) HM6.out HK5.out)
            have hks : ks2 i = l := ((HQ2.out.2.2.2.2.2.2.1 i (by omega)).trans (HQ1.out.2.2.2.2.2.2.1 i (by omega))).trans HL.out
            have hnl : (ks2 i).length < 67108864 := by rw [hks]; exact hll
            have HNL := Lib.hid hnl
            obtain ⟨ao2, cap2, hkv⟩ := owns_form (HI6.out.rows i hi)
            have gkv := cell1 (o := 26 + i) HI6.out.blk (by rw [List.getElem?_toArray]; exact linCells_known hi)
            have hrow := HI6.out.rows i hi
            have HNB := Lib.hid (row_ne hrow HI6.out.blk (by decide))
            have HNP := Lib.hid (show ∀ kk, (kv2 i).ownBlock = some kk → kk < W3.heap.size from fun kk e => ((HI3.out.rows i hi).lt kk e).2)
            rw [hkv] at gkv hrow
            have HROW := Lib.hid hrow
            have HKV := Lib.hid hkv
            have u0 := cell1 (o := 0) HT.out rfl
            have u1 := cell1 (o := 1) HT.out rfl
            have u2 := cell1 (o := 2) HT.out rfl
            have HBL := Lib.hid (Array.getElem?_eq_some_iff.1 HI3.out.blk).1
            have HPB := Lib.hid hp
            have HSK2 := Lib.hid (show ∀ w', Kept (fun kk => (kv2 i).ownBlock = some kk) V w' → w'.cell? ⟨b, 26 + i, none⟩ = some (Value.slice ao2 (ks2 i).length cap2) ∧ w'.cell? ⟨pb, 0, none⟩ = some (Value.int .i64 (max xv1 (xv2 - cost i))) ∧ w'.cell? ⟨pb, 1, none⟩ = some (Value.int .i64 (min xl1 (xl2 - cost i))) ∧ w'.cell? ⟨pb, 2, none⟩ = some (Value.int .i64 (pl (T.add L2 i t1 t2) (T.mk i t1 t2) : Nat)) from fun w' hk => ⟨hk.cell gkv HNB.out, hk.cell u0 (fun e => Nat.not_le.2 (HNP.out _ e) HPB.out), hk.cell u1 (fun e => Nat.not_le.2 (HNP.out _ e) HPB.out), hk.cell u2 (fun e => Nat.not_le.2 (HNP.out _ e) HPB.out)⟩)
            clear hks hkv gkv hrow u0 u1 u2 hnl hp
            go_wp2_with fail
            refine wp_region_noPanic ?_
            refine wp_region_A (by kernel_rfl) ?_
            refine takeA0 (v := Value.pointer (some ⟨b, 0, none⟩)) (by kernel_rfl) (by kernel_rfl) (by kernel_rfl) (fun _ _ _ h => h) (Or.inl ⟨by rfl, fun w' => ?_⟩) ?_
            · go_simp
            simp only [Act.put, List.setIfInBounds_toArray, List.set_cons_zero, List.set_cons_succ]
            refine takeA1 (v := Value.int .i64 ((i : Int))) (by kernel_rfl) (by kernel_rfl) (by kernel_rfl) (fun _ _ _ h => h) (Or.inl ⟨by rfl, fun w' => ?_⟩) ?_
            · go_simp
            simp only [Act.put, List.setIfInBounds_toArray, List.set_cons_zero, List.set_cons_succ]
            refine takeA2 (v := Value.pointer (some ⟨b, 0, none⟩)) (by kernel_rfl) (by kernel_rfl) (by kernel_rfl) (fun _ _ _ h => h) (Or.inl ⟨by rfl, fun w' => ?_⟩) ?_
            · go_simp
            simp only [Act.put, List.setIfInBounds_toArray, List.set_cons_zero, List.set_cons_succ]
            refine takeA3 (v := Value.int .i64 ((i : Int))) (by kernel_rfl) (by kernel_rfl) (by kernel_rfl) (fun _ _ _ h => h) (Or.inl ⟨by rfl, fun w' => ?_⟩) ?_
            · go_simp
            simp only [Act.put, List.setIfInBounds_toArray, List.set_cons_zero, List.set_cons_succ]
            refine takeA4 (v := Value.pointer (some ⟨b, 0, none⟩)) (by kernel_rfl) (by kernel_rfl) (by kernel_rfl) (fun _ _ _ h => h) (Or.inl ⟨by rfl, fun w' => ?_⟩) ?_
            · go_simp
            simp only [Act.put, List.setIfInBounds_toArray, List.set_cons_zero, List.set_cons_succ]
            refine takeA5 (v := Value.pointer (some ⟨b, 26, none⟩)) (by kernel_rfl) (by kernel_rfl) (by kernel_rfl) (fun _ _ _ h => h) (Or.inl ⟨by rfl, fun w' => ?_⟩) ?_
            · go_simp
            simp only [Act.put, List.setIfInBounds_toArray, List.set_cons_zero, List.set_cons_succ]
            refine takeA6 (v := Value.pointer (some ⟨b, 26 + i, none⟩)) (by kernel_rfl) (by kernel_rfl) (by kernel_rfl) (fun _ _ _ h => h) (Or.inl ⟨by rfl, fun w' => ?_⟩) ?_
            · go_simp
            simp only [Act.put, List.setIfInBounds_toArray, List.set_cons_zero, List.set_cons_succ]
            refine takeA11 (v := Value.pointer (some ⟨b, 0, none⟩)) (by kernel_rfl) (by kernel_rfl) (by kernel_rfl) (fun _ _ _ h => h) (Or.inl ⟨by rfl, fun w' => ?_⟩) ?_
            · go_simp
            simp only [Act.put, List.setIfInBounds_toArray, List.set_cons_zero, List.set_cons_succ]
            refine takeA12 (v := Value.pointer (some ⟨b, 26, none⟩)) (by kernel_rfl) (by kernel_rfl) (by kernel_rfl) (fun _ _ _ h => h) (Or.inl ⟨by rfl, fun w' => ?_⟩) ?_
            · go_simp
            simp only [Act.put, List.setIfInBounds_toArray, List.set_cons_zero, List.set_cons_succ]
            refine wpAny_of_Z (S := (fun w' => w'.cell? ⟨b, 26 + i, none⟩ = some (Value.slice ao2 (ks2 i).length cap2) ∧ w'.cell? ⟨pb, 0, none⟩ = some (Value.int .i64 (max xv1 (xv2 - cost i))) ∧ w'.cell? ⟨pb, 1, none⟩ = some (Value.int .i64 (min xl1 (xl2 - cost i))) ∧ w'.cell? ⟨pb, 2, none⟩ = some (Value.int .i64 (pl (T.add L2 i t1 t2) (T.mk i t1 t2) : Nat)))) (z := 14) _ _ _ _ ?_
            have hHeld := HSK2.out _ (Kept.refl _ V).drew
            refine takeZ7 (v := Value.slice ao2 (ks2 i).length cap2) (by kernel_rfl) (by kernel_rfl) (by kernel_rfl) (by kernel_rfl) (fun _ _ _ h => h) (Or.inl ⟨by rfl, fun w' hSw => ?_⟩) hHeld ?_
            · go_simp
            simp only [Act.put, List.setIfInBounds_toArray, List.set_cons_zero, List.set_cons_succ]
            refine takeZ8 (v := Value.agg #[Value.int .i64 (max xv1 (xv2 - cost i)), Value.int .i64 (min xl1 (xl2 - cost i)), Value.int .i64 (pl (T.add L2 i t1 t2) (T.mk i t1 t2) : Nat)]) (by kernel_rfl) (by kernel_rfl) (by kernel_rfl) (by kernel_rfl) (fun _ _ _ h => h) (Or.inl ⟨by rfl, fun w' hSw => ?_⟩) hHeld ?_
            · go_simp
            simp only [Act.put, List.setIfInBounds_toArray, List.set_cons_zero, List.set_cons_succ]
            refine oneZ9 (by kernel_rfl) (fun K hK => ?_)
            go_simp
            refine hK.out _ _ (.inr (HSK2.out _ ((Kept.refl _ V).drew.alloc _))) ?_
            clear hK K hHeld
            try simp only [Act.put, List.setIfInBounds_toArray, List.set_cons_zero, List.set_cons_succ]
            refine oneZ10 (by kernel_rfl) (fun K hK => ?_)
            refine step_append_keep rfl (.tmp 102) (.tmp 104) 183 rfl 0 188 i0 (.agg #[.int .i64 0, .int .i64 0, .int .i64 0]) 3 24 Try.underlying183 hi0 jz0 jz1 jz2 rfl (by decide) _ _ _ rfl (owns_kept HROW.out (((Near.refl V).drew).alloc _) (fun _ _ h => h)) ⟨V.heap.size, 0, none⟩ 1 1 [Value.int .i64 (max xv1 (xv2 - cost i)), Value.int .i64 (min xl1 (xl2 - cost i)), Value.int .i64 (pl (T.add L2 i t1 t2) (T.mk i t1 t2) : Nat)] rfl rfl (cell_three_at rfl _ _ _ _) (by simp [Value.oneCell']) (by have := HNL.out; unfold maxLen; omega) (by have := HNL.out; omega) (Nat.zero_le _) ?_
            intro ao6 cap6 w6 hown6 hg6 hl6 _
            have HK6 := Lib.hid (Kept.grown ((Kept.refl (fun kk => (kv2 i).ownBlock = some kk) V).drew.alloc _) hg6 (fun kk e _ => by rw [HKV.out]; exact e))
            have HOW6 := Lib.hid hown6
            have HL6 := Lib.hid hl6
            have hh6 := HSK2.out _ HK6.out
            refine hK.out _ _ (.inr hh6) ?_
            clear hK K hown6 hg6 hl6
            try simp only [Act.put, List.setIfInBounds_toArray, List.set_cons_zero, List.set_cons_succ]
            have HPX := Lib.hid hh6
            clear hh6
            refine oneZ13 (by kernel_rfl) (fun K hK => ?_)
            go_simp
            refine hK.out _ _ (.inr HPX.out) ?_
            clear hK K
            try simp only [Act.put, List.setIfInBounds_toArray, List.set_cons_zero, List.set_cons_succ]
            have c6 := HPX.out.1
            have f6 := free1 ((HK6.out.block b (Nat.lt_of_lt_of_le HBL.out HK5.out.size) HNB.out).trans HI6.out.blk)
            refine oneZ14 (by kernel_rfl) (fun K hK => ?_)
            go_simp
            refine hK.out _ _ (.inl rfl) ?_
            clear hK K c6 f6
            try simp only [Act.put, List.setIfInBounds_toArray, List.set_cons_zero, List.set_cons_succ]
            refine wpAnyZ_done (by kernel_rfl) ?_
            refine NoPanic.normal ?_
            have hbl := HBL.out
            have hpb := HPB.out
            have hsz5 := HK5.out.size
            have hb6 := (HK6.out.block b (Nat.lt_of_lt_of_le HBL.out HK5.out.size) HNB.out).trans HI6.out.blk
            obtain ⟨hbox, hk7⟩ := HI6.out.app hi (y := spanOf (cost i) (pl (T.add L2 i t1 t2) (T.mk i t1 t2) : Nat) ⟨xv1, xl1, xp1⟩ ⟨xv2, xl2, xp2⟩) HOW6.out HK6.out (by rw [HKV.out]; exact HL6.out.imp id (fun e => ⟨_, e, by simp⟩)) (fun kk h => (HS3.out kk (Nat.le_trans HK5.out.size h)).1) _ rfl
            have hT7 := (Kept.setCell (S := fun kk => (kv2 i).ownBlock = some kk ∨ kk = b) (Kept.mono HK6.out (fun _ _ h => Or.inl h)) (p := ⟨b, 26 + i, none⟩) (fun _ => Or.inr rfl) (Value.slice ao6 ((ks2 i).length + 1) cap6)).block pb (Array.getElem?_eq_some_iff.1 HT.out).1 (fun h => h.elim (fun e => Nat.not_le.2 (HNP.out _ e) hpb) (fun e => Nat.not_le.2 hbl (e ▸ hpb)))
            replace hT7 := hT7.trans HT.out
            have hr3 := (Array.getElem?_eq_some_iff.1 HR3.out).1
            have hR5 := (HK5.out.block w.heap.size hr3 (fun h => h.1.1.2 rfl)).trans HR3.out
            have hR7 := (hk7.block w.heap.size (Nat.lt_of_lt_of_le hr3 hsz5) (fun h => h.1.2 rfl)).trans hR5
            have HBX := Lib.hid hbox
            have HK7 := Lib.hid hk7
            clear hbox hk7 hR5 hb6 hbl hpb hsz5 hr3
            generalize hW : w6.setCell ⟨b, 26 + i, none⟩ (Value.slice ao6 ((ks2 i).length + 1) cap6) = W7 at HBX HK7 hT7 hR7 ⊢
            clear hW
            have q0 := cell1 (o := 0) hT7 rfl
            have q1 := cell1 (o := 1) hT7 rfl
            have q2 := cell1 (o := 2) hT7 rfl
            have z0 := cell1 (o := 0) hR7 rfl
            have z1 := cell1 (o := 1) hR7 rfl
            have z2 := cell1 (o := 2) hR7 rfl
            have zf := free1 hR7
            have HR7 := Lib.hid hR7
            clear hT7 hR7
            go_wp2_with fail
            have hR8 := setCell_heap (setCell_heap (setCell_heap HR7.out 0 (Value.int .i64 (max xv1 (xv2 - cost i)))) 1 (Value.int .i64 (min xl1 (xl2 - cost i)))) 2 (Value.int .i64 (pl (T.add L2 i t1 t2) (T.mk i t1 t2) : Nat))
            simp only [List.setIfInBounds_toArray, List.set_cons_zero, List.set_cons_succ] at hR8
            have hk8 := Kept.setCell (S := fun kk => kk = w.heap.size) (Kept.setCell (S := fun kk => kk = w.heap.size) (Kept.setCell (S := fun kk => kk = w.heap.size) (Kept.refl (fun kk => kk = w.heap.size) W7) (p := ⟨w.heap.size, 0, none⟩) (fun _ => rfl) (Value.int .i64 (max xv1 (xv2 - cost i)))) (p := ⟨w.heap.size, 1, none⟩) (fun _ => rfl) (Value.int .i64 (min xl1 (xl2 - cost i)))) (p := ⟨w.heap.size, 2, none⟩) (fun _ => rfl) (Value.int .i64 (pl (T.add L2 i t1 t2) (T.mk i t1 t2) : Nat))
            generalize hW8 : ((W7.setCell ⟨w.heap.size, 0, none⟩ (Value.int .i64 (max xv1 (xv2 - cost i)))).setCell ⟨w.heap.size, 1, none⟩ (Value.int .i64 (min xl1 (xl2 - cost i)))).setCell ⟨w.heap.size, 2, none⟩ (Value.int .i64 (pl (T.add L2 i t1 t2) (T.mk i t1 t2) : Nat)) = W8 at hR8 hk8 ⊢
            have y0 := cell1 (o := 0) hR8 rfl
            have y1 := cell1 (o := 1) hR8 rfl
            have y2 := cell1 (o := 2) hR8 rfl
            have hbox8 := (HBX.out.keptOf hk8 (fun kk e h => h.1.2 e) (fun kk e e2 => Nat.lt_irrefl _ (e2 ▸ (HP.out.box.ends.lt kk e).2))).mono_lt (R := S) (fun kk _ h => h.1.1)
            have hk1 : Kept S w (w1.alloc (.cells #[.int .i64 xv1, .int .i64 xl1, .int .i64 xp1] 188)) := ((Kept.mono (HN1.out.trans HNr.out) (fun _ _ f => f.elim)).trans (Kept.mono HQ1.out.2.2.2.2.2.2.2.2 (fun _ _ h => h.1))).alloc _
            have hk3 : Kept S w W3 := (hk1.trans (Kept.mono HQ2.out.2.2.2.2.2.2.2.2 (fun _ _ h => h.1.1))).trans (Kept.mono HN3.out (fun _ _ f => f.elim))
            have hkept : Kept S w W8 := ((hk3.drew.trans (Kept.mono HK5.out (fun _ _ h => h.1.1.1))).trans (Kept.mono HK7.out (fun _ _ h => h.1.1))).trans (Kept.mono hk8 (fun kk _ e => HP.out.base kk (Nat.le_of_eq e.symm)))
            exact bodyPost_ret (v := .agg #[Value.int .i64 (max xv1 (xv2 - cost i)), Value.int .i64 (min xl1 (xl2 - cost i)), Value.int .i64 (pl (T.add L2 i t1 t2) (T.mk i t1 t2) : Nat)]) (by simp [results, Try.results145, go_sem, y0, y1, y2]) rfl (from_join hik rfl (HP.out.costs i) HQ1.out HQ2.out i1' HF1.out o1 l1 HF2.out o2 l2 HR1.out HR2.out hbox8 hkept)
          · exact AllReadyH.nil
        · exact AllReadyH.nil
      · exact AllReadyH.nil

end Go.Proofs.Ytefclohjeompkaa

/- Linear's 'from' for whatever feature; and the plain facts of Linear. -/
namespace Go.Proofs.Ytefclohjeompkaa
open Go Go.RowKit Go.Proofs.Gen Go.Proofs.Bdd Go.Proofs.Bdd.T

theorem from_calls {b mb : Nat} {cost : Nat → Int} {g : Int → Bool} {ev : Value} {es : List Dec} : ∀ (k i : Nat) (w : World) (S : Nat → Prop) (L : List T) (kv : Nat → Value) (ks : Nat → List Dec) (s j : Int), i + k = 24 → FromPre w b mb S cost g ev kv es L ks k → j = (i : Int) →
    -(2147483648 * (i : Int)) ≤ s ∧ s ≤ 2147483648 * (i : Int) → Calls Try.prog 145 #[.pointer (some ⟨b, 0, none⟩), .int .i64 j, .int .i64 s] w (FromPost w b mb S cost g ev es L ks k s)
  | 0, i, w, S, L, kv, ks, s, j, hik, h, hj, hs => by
    obtain rfl : i = 24 := by omega
    subst hj
    exact from_zero h (by omega) (by omega)
  | k + 1, i, w, S, L, kv, ks, s, j, hik, h, hj, hs => by
    subst hj
    rcases first_span s (ks i) with ⟨q, x, hx, hin, hb⟩ | hno
    · have hi : i < 24 := by omega
      refine (from_known hi (cell1 (o := 25) h.box.blk (by rw [List.getElem?_toArray]; exact linCells_ends)) (cell1 (o := 26 + i) h.box.blk (by rw [List.getElem?_toArray]; exact linCells_known hi)) (RdDec.row (h.box.rows i hi))
        (by have := h.rooms i; have := Nat.one_le_two_pow (n := k + 1); omega) hx hin hb).mono ?_
      rintro e w' ⟨rfl, hn⟩
      refine h.same ?_ hin hn
      have := h.known i hi x (List.mem_of_getElem? hx)
      rwa [show 24 - i = k + 1 by omega] at this
    · exact from_new (by omega) h hs hno (fun w S L kv ks s j hp hj hs => from_calls k (i + 1) w S L kv ks s j (by omega) hp (by omega) (by omega))

/-! ### Plain -/

def costOf (l : List Int) (i : Nat) : Int := l.getD i 0

theorem costOf_le {l : List Int} (h : CostsOk l) (i : Nat) : -2147483648 ≤ costOf l i ∧ costOf l i ≤ 2147483648 := by
  unfold costOf
  rw [List.getD_eq_getElem?_getD]
  cases hi : l[i]? with
  | none => simp
  | some x => exact h.2 x (List.mem_of_getElem? hi)

theorem sumFrom_le {cost : Nat → Int} (h : ∀ i, -2147483648 ≤ cost i ∧ cost i ≤ 2147483648) (c : Nat → Bool) : ∀ k : Nat, -(2147483648 * (k : Int)) ≤ sumFrom cost c k ∧ sumFrom cost c k ≤ 2147483648 * (k : Int)
  | 0 => by simp [sumFrom]
  | k + 1 => by
    have ih := sumFrom_le h c k
    have h1 := h (24 - (k + 1))
    rw [show sumFrom cost c (k + 1) = (if c (24 - (k + 1)) then cost (24 - (k + 1)) else 0) + sumFrom cost c k from rfl]
    split <;> omega

/-- A relation, and the places of the sums below, at and above a bound. -/
def relB (rel : Nat) (s b : Int) : Bool := if rel = 1 then decide (s ≤ b) else if rel = 2 then decide (b ≤ s) else decide (s = b)
def linF (l : List Int) (rel : Nat) (bound : Int) : F := fun c => relB rel (sumFrom (costOf l) c 24) bound
def LinOk (l : List Int) (rel : Nat) : Prop := CostsOk l ∧ 1 ≤ rel ∧ rel ≤ 3
instance (l : List Int) (rel : Nat) : Decidable (LinOk l rel) := by unfold LinOk; infer_instance

def clip (b : Int) : Int := min (max b (-17592186044416)) 17592186044416
theorem clip_le (b : Int) : -17592186044416 ≤ clip b ∧ clip b ≤ 17592186044416 := by unfold clip; omega
theorem relB_clip (rel : Nat) {s : Int} (b : Int) (h : -51539607552 ≤ s ∧ s ≤ 51539607552) : relB rel s (clip b) = relB rel s b := by
  unfold relB clip
  split
  · exact decide_eq_decide.2 (by omega)
  · split
    · exact decide_eq_decide.2 (by omega)
    · exact decide_eq_decide.2 (by omega)

/-- The three spans at the end. -/
def endsOf (bd : Int) (p : Bool × Bool × Bool) : List Dec := [⟨-35184372088832, bd - 1, p.1.toNat⟩, ⟨bd, bd, p.2.1.toNat⟩, ⟨bd + 1, 35184372088832, p.2.2.toNat⟩]
def placesOf (rel : Nat) : Bool × Bool × Bool := if rel = 1 then (true, true, false) else if rel = 2 then (false, true, true) else (false, true, false)

theorem relB_low {rel : Nat} {s bd : Int} (h : s < bd) : relB rel s bd = (placesOf rel).1 := by
  unfold relB placesOf
  split
  · simp; omega
  · split <;> simp <;> omega
theorem relB_at {rel : Nat} {bd : Int} : relB rel bd bd = (placesOf rel).2.1 := by
  unfold relB placesOf
  split
  · simp
  · split <;> simp
theorem relB_high {rel : Nat} {s bd : Int} (h : bd < s) : relB rel s bd = (placesOf rel).2.2 := by
  unfold relB placesOf
  split
  · simp; omega
  · split <;> simp <;> omega

theorem ends_ok (cost : Nat → Int) (rel : Nat) {bd : Int} (hb : -17592186044416 ≤ bd ∧ bd ≤ 17592186044416) : ∀ y ∈ endsOf bd (placesOf rel), SpanOk cost (fun s => relB rel s bd) [] 0 y := by
  intro y hy
  simp only [endsOf, List.mem_cons, List.not_mem_nil, or_false] at hy
  rcases hy with rfl | rfl | rfl
  · refine ⟨.leaf (placesOf rel).1, trivial, by cases (placesOf rel).1 <;> rfl, fun s h1 h2 => ?_, trivial, Nat.le_refl _, by simp only []; omega⟩
    show T.leaf (relB rel s bd) = _
    rw [relB_low (by simp only [] at h2; omega)]
  · refine ⟨.leaf (placesOf rel).2.1, trivial, by cases (placesOf rel).2.1 <;> rfl, fun s h1 h2 => ?_, trivial, Nat.le_refl _, by simp only []; omega⟩
    obtain rfl : s = bd := by simp only [] at h1 h2; omega
    show T.leaf (relB rel s s) = _
    rw [relB_at]
  · refine ⟨.leaf (placesOf rel).2.2, trivial, by cases (placesOf rel).2.2 <;> rfl, fun s h1 h2 => ?_, trivial, Nat.le_refl _, by simp only []; omega⟩
    show T.leaf (relB rel s bd) = _
    rw [relB_high (by simp only [] at h1; omega)]

theorem ends_all (rel : Nat) {bd : Int} (s : Int) (h1 : -35184372088832 ≤ s) (h2 : s ≤ 35184372088832) : ∃ y ∈ endsOf bd (placesOf rel), inSpan s y := by
  unfold inSpan
  by_cases h : s < bd
  · exact ⟨_, List.mem_cons_self, by simp only []; omega⟩
  · by_cases e : s = bd
    · exact ⟨_, List.mem_cons_of_mem _ List.mem_cons_self, by simp only []; omega⟩
    · exact ⟨_, List.mem_cons_of_mem _ (List.mem_cons_of_mem _ List.mem_cons_self), by simp only []; omega⟩

end Go.Proofs.Ytefclohjeompkaa

/- The contract of Linear. -/
namespace Go.Proofs.Ytefclohjeompkaa
open Go Go.RowKit Go.Proofs.Gen Go.Proofs.Bdd Go.Proofs.Bdd.T

theorem field188 (a b : Value) (c : Int) (w : World) : Sem.run Try.prog (Instr.field 188 (.agg #[a, b, .int .i64 c]) 2) w = .ok (.int .i64 c) w := by
  unfold Instr.field
  simp [run_underlying Try.underlying188, part, asAgg]

theorem RdInts.copyable {w : World} {ao : Option Addr} {n cap : Nat} {l : List Int} (h : RdInts w (.slice ao n cap) l) (hl : 0 < l.length) :
    ∃ ad, ao = some ad ∧ ∀ j u, (l.map (fun x => Value.int .i64 x))[j]? = some u → w.cell? (ad.add j) = some u := by
  obtain ⟨ao', cap', e, hc⟩ := h
  cases e
  obtain ⟨b, off, rfl, -⟩ := hc 0 _ (List.getElem?_eq_getElem hl)
  refine ⟨_, rfl, fun j u hj => ?_⟩
  rw [List.getElem?_map] at hj
  cases hx : l[j]? with
  | none => rw [hx] at hj; cases hj
  | some x =>
    rw [hx] at hj
    cases hj
    obtain ⟨b', off', e, h0⟩ := hc j x hx
    cases e
    have ea : (⟨b, off, none⟩ : Addr).add j = ⟨b, off + j, none⟩ := by
      unfold Addr.add
      by_cases h : j = 0 <;> simp [h]
    rw [ea]
    exact h0

theorem linCells_ext {mb : Nat} {cost : Nat → Int} {ev : Value} {kv : Nat → Value} {xs : List Value} (h0 : xs[0]? = some (.pointer (some ⟨mb, 0, none⟩))) (hl : xs.length = 50) (hc : ∀ i, i < 24 → xs[1 + i]? = some (.int .i64 (cost i))) (he : xs[25]? = some ev)
    (hk : ∀ i, i < 24 → xs[26 + i]? = some (kv i)) : xs = linCells mb cost ev kv := by
  refine List.ext_getElem? fun n => ?_
  by_cases h : n < 50
  · by_cases e0 : n = 0
    · subst e0; exact h0
    · by_cases h1 : n < 25
      · obtain ⟨m, rfl⟩ : ∃ m, n = 1 + m := ⟨n - 1, by omega⟩
        rw [hc m (by omega), linCells_cost (by omega)]
      · by_cases h2 : n = 25
        · subst h2
          rw [he, linCells_ends]
        · obtain ⟨m, rfl⟩ : ∃ m, n = 26 + m := ⟨n - 26, by omega⟩
          rw [hk m (by omega), linCells_known (by omega)]
  · rw [List.getElem?_eq_none (by omega), List.getElem?_eq_none (by rw [linCells_len]; omega)]

theorem linCells_splice {mb : Nat} {ev : Value} {kv : Nat → Value} {l : List Int} (hl : l.length ≤ 24) : splice (linCells mb (fun _ => 0) ev kv) 1 (l.map (fun x => Value.int .i64 x)) = linCells mb (costOf l) ev kv := by
  have ll := linCells_len mb (fun _ => 0) ev kv
  have at0 : ∀ n, (splice (linCells mb (fun _ => 0) ev kv) 1 (l.map (fun x => Value.int .i64 x)))[n]? = if n < 1 then (linCells mb (fun _ => 0) ev kv)[n]? else if n < 1 + l.length then (l[n - 1]?).map (fun x => Value.int .i64 x) else (linCells mb (fun _ => 0) ev kv)[n]? := by
    intro n
    unfold splice
    have lt : ((linCells mb (fun _ => 0) ev kv).take 1).length = 1 := by simp [ll]
    by_cases h1 : n < 1
    · rw [if_pos h1, List.getElem?_append_left (by omega), List.getElem?_take, if_pos h1]
    · rw [if_neg h1, List.getElem?_append_right (by omega), lt]
      by_cases h2 : n < 1 + l.length
      · rw [if_pos h2, List.getElem?_append_left (by rw [List.length_map]; omega), List.getElem?_map]
      · rw [if_neg h2, List.getElem?_append_right (by rw [List.length_map]; omega), List.length_map, List.getElem?_drop]
        congr 1
        omega
  refine linCells_ext ?_ ?_ (fun i hi => ?_) ?_ (fun i hi => ?_)
  · rw [at0, if_pos (by omega)]
    rfl
  · rw [length_splice _ _ _ (by rw [List.length_map, ll]; omega), ll]
  · rw [at0, if_neg (by omega), show 1 + i - 1 = i by omega]
    unfold costOf
    rw [List.getD_eq_getElem?_getD]
    by_cases h : i < l.length
    · rw [if_pos (by omega), List.getElem?_eq_getElem h]
      rfl
    · rw [if_neg (by omega), linCells_cost hi, List.getElem?_eq_none (by omega)]
      rfl
  · rw [at0, if_neg (by omega), if_neg (by omega), linCells_ends]
  · rw [at0, if_neg (by omega), if_neg (by omega), linCells_known hi]

theorem linCells_setEnds {mb : Nat} {cost : Nat → Int} {ev : Value} {kv : Nat → Value} (v : Value) : (linCells mb cost ev kv).set 25 v = linCells mb cost v kv := by
  refine linCells_ext ?_ ?_ (fun i hi => ?_) ?_ (fun i hi => ?_)
  · rw [List.getElem?_set, if_neg (by omega)]
    rfl
  · rw [List.length_set, linCells_len]
  · rw [List.getElem?_set, if_neg (by omega), linCells_cost hi]
  · rw [List.getElem?_set, if_pos rfl, if_pos (by rw [linCells_len]; omega)]
  · rw [List.getElem?_set, if_neg (by omega), linCells_known hi]

/-- Costs are copied into the box. -/
theorem costs_copy {w : World} {b mb cap : Nat} {ao : Option Addr} {l : List Int} (hb : w.heap[b]? = some (.cells (linCells mb (fun _ => 0) (.slice none 0 0) (fun _ => .slice none 0 0)).toArray 186 (0, 0))) (h : RdInts w (.slice ao l.length cap) l) (hl : l.length ≤ 24) :
    ∃ w', Sem.run Try.prog (Builtin.copy_ #[83, 83] 3 #[.slice (some ⟨b, 1, none⟩) 24 24, .slice ao l.length cap]) w = .ok (.int .i64 l.length) w' ∧
      w'.heap[b]? = some (.cells (linCells mb (costOf l) (.slice none 0 0) (fun _ => .slice none 0 0)).toArray 186 (0, 0)) ∧ Kept (fun k => k = b) w w' := by
  rw [← linCells_splice hl]
  rcases Nat.eq_zero_or_pos l.length with h0 | h0
  · obtain rfl : l = [] := List.eq_nil_of_length_eq_zero h0
    refine ⟨w, run_copy_none (P := Try.prog) w 83 83 3 2 _ _ 24 24 0 cap Try.underlying83 (by kernel_rfl) rfl, ?_, Kept.refl _ _⟩
    rw [show splice (linCells mb (fun _ => 0) (.slice none 0 0) (fun _ => .slice none 0 0)) 1 (([] : List Int).map fun x => Value.int .i64 x) = linCells mb (fun _ => 0) (.slice none 0 0) (fun _ => .slice none 0 0) from List.take_append_drop 1 _]
    exact hb
  · obtain ⟨ad, rfl, hs⟩ := h.copyable h0
    refine ⟨_, (run_copy_row (P := Try.prog) w 83 83 3 2 b 1 24 24 ad l.length cap _ 186 (l.map fun x => .int .i64 x) Try.underlying83 (by kernel_rfl) hb (by rw [List.length_map]; exact (Nat.min_eq_left hl).symm) hs (by rw [List.length_map, List.size_toArray, linCells_len]; omega) (by simp [Value.oneCell'])).trans (by rw [List.length_map]; rfl), ?_, ?_⟩
    · have := setRow_heap w b _ ((linCells mb (fun _ => 0) (.slice none 0 0) (fun _ => .slice none 0 0)).toArray.toList.take 1 ++ (l.map fun x => Value.int .i64 x) ++ (linCells mb (fun _ => 0) (.slice none 0 0) (fun _ => .slice none 0 0)).toArray.toList.drop (1 + (l.map fun x => Value.int .i64 x).length)).toArray 186 _ hb
      simpa [splice] using this
    · exact ⟨rfl, rfl, rfl, by simp [World.setRow], fun k hk hs => setRow_other w b k _ (fun e => hs e)⟩

/-- The box as it is made, with its ends laid. -/
theorem from_begin {w : World} {b mb kb sb : Nat} {S : Nat → Prop} {l : List Int} {rel : Nat} {bd : Int} (hc : CostsOk l) (hbd : -17592186044416 ≤ bd ∧ bd ≤ 17592186044416)
    (hbox : w.heap[b]? = some (.cells (linCells mb (costOf l) (.slice (some ⟨sb, 0, none⟩) 3 3) (fun _ => .slice none 0 0)).toArray 186 (0, 0)))
    (hmb : w.heap[mb]? = some (.cells #[.slice none 0 0, .map (some kb)] 154 (0, 0))) (hkb : w.heap[kb]? = some (.map #[] 0)) (hsb : w.heap[sb]? = some (.cells (decs (endsOf bd (placesOf rel))).toArray 188 (0, 0)))
    (s0 : S b) (s1 : S mb) (s2 : S kb) (s3 : ∀ k, w.heap.size ≤ k → S k) :
    FromPre w b mb S (costOf l) (fun s => relB rel s bd) (.slice (some ⟨sb, 0, none⟩) 3 3) (fun _ => .slice none 0 0) (endsOf bd (placesOf rel)) [] (fun _ => []) 24 where
  box := { good := .nil, maker := maker_empty hmb hkb s1 s2, blk := hbox, base := s0
           ends := ⟨by simp [endsOf, decs, decC], .inr ⟨sb, 3, (decs (endsOf bd (placesOf rel))).toArray, rfl, Nat.zero_le _, hsb, Nat.le_refl _, by unfold maxLen; omega, by simp [endsOf, decs, decC], by simp [endsOf, decs, decC]⟩⟩
           rows := fun i hi => World.ownsRow_nil _ _ _ _
           apart := fun _ _ _ _ _ _ h => by simp [Value.ownBlock] at h
           apartE := fun _ _ _ _ h => by simp [Value.ownBlock] at h
           own := fun _ _ _ h => by simp [Value.ownBlock] at h }
  costs := costOf_le hc
  known := fun _ _ _ h => by cases h
  ends := ends_ok _ rel hbd
  all := fun s h1 h2 => ends_all rel s h1 h2
  room := by decide
  rooms := fun _ => by decide
  few := by simp [endsOf]
  base := s3

/-- What the first call yields, the set of the relation. -/
theorem from_end_is {w w' : World} {b mb : Nat} {S : Nat → Prop} {l : List Int} {rel : Nat} {bound : Int} {ev : Value} {es : List Dec} {ks ks' : Nat → List Dec} {x : Dec} {L' : List T} {kv' : Nat → Value} (hc : CostsOk l) {bd : Int} (hb : bd = clip bound)
    (h : FromQ w b mb S (costOf l) (fun s => relB rel s bd) ev es [] ks 24 0 x L' kv' ks' w') : ∃ t, T.In L' t ∧ x.hi = (pl L' t : Nat) ∧ t.Ok ∧ L'.length < 1099511627776 ∧ ∀ c, t.ev c = linF l rel bound c := by
  subst hb
  obtain ⟨-, ⟨t, ht, hx, hall, ok, -, -⟩, hin, -, hlen, -⟩ := h
  refine ⟨t, ht, hx, ok, by simp at hlen; omega, fun c => ?_⟩
  have e := hall 0 hin.1 hin.2
  rw [← e, linT_ev]
  have hs := sumFrom_le (costOf_le hc) c 24
  show relB rel (0 + sumFrom (costOf l) c 24) (clip bound) = relB rel (sumFrom (costOf l) c 24) bound
  rw [relB_clip _ _ (by omega), Int.zero_add]

def LinPost (w : World) (l : List Int) (rel : Nat) (bound : Int) (e : Ending) (w' : World) : Prop :=
  ∃ v, e = .returned (.tuple #[v, .int .i64 (if LinOk l rel then 0 else 2)]) ∧ IsF w' v (if LinOk l rel then linF l rel bound else fun _ => false) ∧ Near w w'

set_option maxRecDepth 100000 in
set_option maxHeartbeats 1600000 in
theorem linear_bad {w : World} {v : Value} {l : List Int} {rel : Nat} {bound : Int} (h : RdInts w v l) (hbad : ¬ LinOk l rel) :
    Calls Try.prog 128 #[v, .int .u8 rel, .int .i64 bound] w (LinPost w l rel bound) := by
  have HB := Lib.hid hbad
  have hor : ¬ CostsOk l ∨ (CostsOk l ∧ (rel = 0 ∨ 4 ≤ rel)) := by
    by_cases hc : CostsOk l
    · exact .inr ⟨hc, by have h2 : ¬ (1 ≤ rel ∧ rel ≤ 3) := fun h => hbad ⟨hc, h⟩; omega⟩
    · exact .inl hc
  clear hbad
  have hv := fun w' (n : Near w w') => valid_calls (h.near n)
  have HV := Lib.hid hv
  clear hv h
  have fin : ∀ w' : World, Near w w' → IsF w' (.agg #[.slice none 0 0, .int .i64 0]) (fun _ => false) := fun w' _ => ⟨.leaf false, ⟨trivial, .slice none 0 0, rfl, World.ownsRow_nil _ _ _ _⟩, fun _ => rfl⟩
  have HFin := Lib.hid fin
  clear fin
  rcases hor with hc | ⟨hc, hr⟩
  · have hd : decide (CostsOk l) = false := decide_eq_false hc
    rw [hd] at HV
    clear hd hc
    go_enter Try.func128, Try.ntmps128
    go_wp2_with (first
      | (go_at_call 110; refine (HV.out _ ((Near.refl w).alloc _)).mono ?_; rintro e w1 ⟨rfl, n1⟩; have hR := keepN n1 (heap_new_at rfl); have z0 := cell1 (o := 0) hR rfl; have z1 := cell1 (o := 1) hR rfl; have zf := free1 hR))
    have hR2 := setCell_heap (setCell_heap hR 0 (.slice none 0 0)) 1 (.int .i64 0)
    simp only [List.setIfInBounds_toArray, List.set_cons_zero, List.set_cons_succ] at hR2
    have y0 := cell1 (o := 0) hR2 rfl
    have y1 := cell1 (o := 1) hR2 rfl
    have hn := (((Near.refl w).alloc (.cells #[.slice none 0 0, .int .i64 0] 31)).trans n1)
    have hn2 : Near w ((w1.setCell ⟨w.heap.size, 0, none⟩ (.slice none 0 0)).setCell ⟨w.heap.size, 1, none⟩ (.int .i64 0)) := Kept.setCell (S := fun _ => False) (Kept.setCell (S := fun _ => False) hn (p := ⟨w.heap.size, 0, none⟩) (fun h => absurd h (Nat.lt_irrefl _)) (.slice none 0 0)) (p := ⟨w.heap.size, 1, none⟩) (fun h => absurd h (Nat.lt_irrefl _)) (.int .i64 0)
    refine bodyPost_ret (v := .tuple #[.agg #[.slice none 0 0, .int .i64 0], .int .i64 2]) (by simp [results, Try.results128, go_sem, y0, y1]) rfl ⟨_, by rw [if_neg HB.out], ?_, hn2⟩
    rw [if_neg HB.out]
    exact HFin.out _ hn2
  · have hd : decide (CostsOk l) = true := decide_eq_true hc
    rw [hd] at HV
    clear hd hc
    have h1 : ((rel : Int) != 1) = true := bne_iff_ne.2 (by omega)
    have h2 : ((rel : Int) != 2) = true := bne_iff_ne.2 (by omega)
    have h3 : ((rel : Int) != 3) = true := bne_iff_ne.2 (by omega)
    clear hr
    go_enter Try.func128, Try.ntmps128
    go_wp2_with (first
      | (go_at_call 110; refine (HV.out _ ((Near.refl w).alloc _)).mono ?_; rintro e w1 ⟨rfl, n1⟩; have hR := keepN n1 (heap_new_at rfl); have z0 := cell1 (o := 0) hR rfl; have z1 := cell1 (o := 1) hR rfl; have zf := free1 hR))
    have hR2 := setCell_heap (setCell_heap hR 0 (.slice none 0 0)) 1 (.int .i64 0)
    simp only [List.setIfInBounds_toArray, List.set_cons_zero, List.set_cons_succ] at hR2
    have y0 := cell1 (o := 0) hR2 rfl
    have y1 := cell1 (o := 1) hR2 rfl
    have hn := (((Near.refl w).alloc (.cells #[.slice none 0 0, .int .i64 0] 31)).trans n1)
    have hn2 : Near w ((w1.setCell ⟨w.heap.size, 0, none⟩ (.slice none 0 0)).setCell ⟨w.heap.size, 1, none⟩ (.int .i64 0)) := Kept.setCell (S := fun _ => False) (Kept.setCell (S := fun _ => False) hn (p := ⟨w.heap.size, 0, none⟩) (fun h => absurd h (Nat.lt_irrefl _)) (.slice none 0 0)) (p := ⟨w.heap.size, 1, none⟩) (fun h => absurd h (Nat.lt_irrefl _)) (.int .i64 0)
    refine bodyPost_ret (v := .tuple #[.agg #[.slice none 0 0, .int .i64 0], .int .i64 2]) (by simp [results, Try.results128, go_sem, y0, y1]) rfl ⟨_, by rw [if_neg HB.out], ?_, hn2⟩
    rw [if_neg HB.out]
    exact HFin.out _ hn2

set_option maxRecDepth 100000 in
set_option maxHeartbeats 3200000 in
theorem linear_good {w : World} {v : Value} {l : List Int} {rel : Nat} {bound : Int} (h : RdInts w v l) (hok : LinOk l rel) (p0 p1 p2 : Nat) (hp : rel = 1 ∧ p0 = 1 ∧ p1 = 1 ∧ p2 = 0 ∨ rel = 2 ∧ p0 = 0 ∧ p1 = 1 ∧ p2 = 1 ∨ rel = 3 ∧ p0 = 0 ∧ p1 = 1 ∧ p2 = 0) :
    Calls Try.prog 128 #[v, .int .u8 rel, .int .i64 bound] w (LinPost w l rel bound) := by
  have HB := Lib.hid hok
  have HP := Lib.hid hp
  have hc : decide (CostsOk l) = true := decide_eq_true hok.1
  have hv := fun w' (n : Near w w') => valid_calls (h.near n)
  rw [hc] at hv
  have HV := Lib.hid hv
  have HRd := Lib.hid h
  obtain ⟨ao, cap, rfl, -⟩ := h
  clear hv hc hok
  rcases hp with ⟨rfl, rfl, rfl, rfl⟩ | ⟨rfl, rfl, rfl, rfl⟩ | ⟨rfl, rfl, rfl, rfl⟩
  · go_enter Try.func128, Try.ntmps128
    go_upto_region 3 with (first
      | (go_at_call 110; refine (HV.out _ ((Near.refl w).alloc _)).mono ?_; rintro e w1 ⟨rfl, n1⟩))
    go_cut [2] (fun s2 wx => s2 = .int .i64 (clip bound) ∧ wx = w1)
    case first =>
      go_wp2_with fail
      all_goals (go_meet; refine ⟨congrArg (Value.int .i64) ?_, rfl⟩; unfold clip; omega)
    case rest =>
      obtain ⟨rfl, rfl⟩ := hcut
      have hbd := clip_le bound
      obtain ⟨bd, hbe⟩ : ∃ b, b = clip bound := ⟨_, rfl⟩
      rw [← hbe] at hbd ⊢
      have HBE := Lib.hid hbe
      clear hbe
      go_upto_region 12 with (first
        | (go_at_call 76; refine (maker_new _).mono ?_; rintro e w2 ⟨rfl, rfl⟩))
      generalize hW : ((((wc.alloc _).alloc _).alloc _).alloc _) = W
      have k1 : Near wc W := by rw [← hW]; exact ((((Near.refl wc).alloc _).alloc _).alloc _).alloc _
      have k2 : W.heap[wc.heap.size]? = some (.cells #[.int .i64 1, .int .i64 1, .int .i64 0] 180 (0, 0)) := by
        rw [← hW]
        repeat (first | exact heap_new_at (by simp; done) | refine (heap_old_at (by simp <;> omega)).trans ?_)
      have k3 : W.heap[wc.heap.size + 1]? = some (.map #[] 0) := by
        rw [← hW]
        repeat (first | exact heap_new_at (by simp; done) | refine (heap_old_at (by simp <;> omega)).trans ?_)
      have k4 : W.heap[wc.heap.size + 1 + 1]? = some (.cells #[.slice none 0 0, .map (some (wc.heap.size + 1))] 154 (0, 0)) := by
        rw [← hW]
        repeat (first | exact heap_new_at (by simp; done) | refine (heap_old_at (by simp <;> omega)).trans ?_)
      have k5 : W.heap[wc.heap.size + 1 + 1 + 1]? = some (.cells (linCells (wc.heap.size + 1 + 1) (fun _ => 0) (.slice none 0 0) (fun _ => .slice none 0 0)).toArray 186 (0, 0)) := by
        rw [← hW]
        exact heap_new_at (by simp)
      have k6 : W.heap.size = wc.heap.size + 4 := by rw [← hW]; simp
      clear hW
      have H1 := Lib.hid (((Near.refl w).alloc (.cells #[.slice none 0 0, .int .i64 0] 31)).trans (n1.trans k1))
      have HRes := Lib.hid (keepN (n1.trans k1) (heap_new_at rfl))
      have hlt := n1.size'
      have HLT := Lib.hid (show w.heap.size < wc.heap.size by simp at hlt; omega)
      have HS6 := Lib.hid k6
      have H2 := Lib.hid k2
      have H3 := Lib.hid k3
      have H4 := Lib.hid k4
      have H5 := Lib.hid k5
      clear k1 k2 k3 k4 k5 k6 n1 hlt
      have hll := HB.out.1.1
      have HRW := Lib.hid (HRd.out.near H1.out)
      obtain ⟨w3, hrun, hb3, hk3⟩ := costs_copy H5.out HRW.out hll
      have HB3 := Lib.hid hb3
      have HK3 := Lib.hid hk3
      clear hb3 hk3
      go_upto_region 13 with fail
      clear hrun
      have hs6 := HS6.out
      have e2 := (HK3.out.block wc.heap.size (by omega) (by omega)).trans H2.out
      have t0 := cell1 (o := 0) e2 rfl
      have t1 := cell1 (o := 1) e2 rfl
      have t2 := cell1 (o := 2) e2 rfl
      have e5 := keepN ((Near.refl w3).alloc (.cells #[.int .i64 (-35184372088832), .int .i64 (bd - 1), .int .i64 1, .int .i64 bd, .int .i64 bd, .int .i64 1, .int .i64 (bd + 1), .int .i64 35184372088832, .int .i64 0] 188)) HB3.out
      have c25 := cell1 (o := 25) e5 (by rw [List.getElem?_toArray]; exact linCells_ends)
      have f25 := free1 e5
      clear e2 e5 hs6
      go_upto_region 14 with fail
      clear t0 t1 t2 c25 f25
      generalize hW4 : ((w3.alloc _).setCell _ _) = W4
      have hs6 := HS6.out
      have hs3 := HK3.out.size
      have hlt := HLT.out
      have g1 : (w3.alloc (.cells (decs (endsOf bd (placesOf 1))).toArray 188)).heap[wc.heap.size + 1 + 1 + 1]? = some (.cells (linCells (wc.heap.size + 1 + 1) (costOf l) (.slice none 0 0) (fun _ => .slice none 0 0)).toArray 186 (0, 0)) := keepN ((Near.refl w3).alloc _) HB3.out
      have g2 : W4.heap[wc.heap.size + 1 + 1 + 1]? = some (.cells (linCells (wc.heap.size + 1 + 1) (costOf l) (.slice (some ⟨w3.heap.size, 0, none⟩) 3 3) (fun _ => .slice none 0 0)).toArray 186 (0, 0)) := by
        have := setCell_heap g1 25 (.slice (some ⟨w3.heap.size, 0, none⟩) 3 3)
        rw [List.setIfInBounds_toArray, linCells_setEnds] at this
        rw [← hW4]
        exact this
      have g3 : Kept (fun k => k = wc.heap.size + 1 + 1 + 1) W W4 := by
        rw [← hW4]
        exact Kept.setCell (S := fun k => k = wc.heap.size + 1 + 1 + 1) (HK3.out.alloc _) (fun _ => rfl) _
      have g4 : W4.heap[w3.heap.size]? = some (.cells (decs (endsOf bd (placesOf 1))).toArray 188 (0, 0)) := by
        rw [← hW4, Below.heap_setCell _ _ _ _ (by show w3.heap.size ≠ wc.heap.size + 1 + 1 + 1; omega)]
        exact heap_new_at rfl
      have g5 := (g3.block w.heap.size (by omega) (by omega)).trans HRes.out
      have hpre := from_begin (S := fun k => w.heap.size + 1 ≤ k) (rel := 1) HB.out.1 hbd g2 ((g3.block (wc.heap.size + 1 + 1) (by omega) (by omega)).trans H4.out) ((g3.block (wc.heap.size + 1) (by omega) (by omega)).trans H3.out) g4 (by show w.heap.size + 1 ≤ _; omega) (by show w.heap.size + 1 ≤ _; omega) (by show w.heap.size + 1 ≤ _; omega) (fun k hk => by have := g3.size; show w.heap.size + 1 ≤ k; omega)
      have gn : Near w W4 := Kept.mono (H1.out.kept.trans g3) (fun k hk e => by omega)
      have g6 : W4.cell? ⟨wc.heap.size + 1 + 1 + 1, 0, none⟩ = some (.pointer (some ⟨wc.heap.size + 1 + 1, 0, none⟩)) := cell1 (o := 0) g2 rfl
      have HPre := Lib.hid hpre
      have HR4 := Lib.hid g5
      have HN4 := Lib.hid gn
      clear hW4 g1 g2 g3 g4 g5 gn hpre hs6 hs3
      have hfield := field188
      go_region_held3 (fun w' => w'.cell? ⟨wc.heap.size + 1 + 1 + 1, 0, none⟩ = some (.pointer (some ⟨wc.heap.size + 1 + 1, 0, none⟩)))
        (first
          | exact g6
          | exact HC5.out
          | exact HC6.out
          | exact (Kept.setCell (S := fun k => k = w.heap.size) (Kept.setCell (S := fun k => k = w.heap.size) (Kept.refl _ w6) (p := ⟨w.heap.size, 0, none⟩) (fun _ => rfl) _) (p := ⟨w.heap.size, 1, none⟩) (fun _ => rfl) _).cell HC6.out (by omega))
        (first
          | (go_at_call 145; refine (from_calls 24 0 W4.drew _ [] _ _ 0 0 rfl (HPre.out.near (Near.refl W4).drew) rfl (by omega)).mono ?_; rintro e w5 ⟨⟨xv, xl, xp⟩, L5, kv5, ks5, rfl, hq5⟩; obtain ⟨t5, ht5, hx5, ok5, hl5, he5⟩ := from_end_is HB.out.1 HBE.out hq5; have HC5 := Lib.hid (cell1 (o := 0) hq5.1.blk rfl); have HQ5 := Lib.hid hq5; have HX5 := Lib.hid hx5; have HE5 := Lib.hid he5; clear hq5 hx5 he5)
          | (go_at_call 79; refine (done_calls HQ5.out.1.good hl5 ht5 ok5 HQ5.out.1.maker HX5.out).mono ?_; rintro e w6 ⟨v6, rfl, d6, b6⟩; obtain ⟨bo, bn, bc, rfl, -⟩ := d6.form; have HD6 := Lib.hid d6; have HN6 := Lib.hid (Near.of_below b6); have HC6 := Lib.hid (HN6.out.cell HC5.out); have HR6 := Lib.hid (keepN HN6.out ((HQ5.out.2.2.2.2.2.2.2.2.block w.heap.size (Array.getElem?_eq_some_iff.1 HR4.out).1 (fun h => Nat.not_succ_le_self _ h)).trans HR4.out)); have q0 := cell1 (o := 0) HR6.out rfl; have q1 := cell1 (o := 1) HR6.out rfl; have qf := free1 HR6.out; clear d6 b6))
      go_wp2_with fail
      have hs := isF_store (f := linF l 1 bound) ⟨t5, HD6.out, HE5.out⟩ HR6.out
      have hw6 := setCell_heap (setCell_heap HR6.out 0 (.slice bo bn bc)) 1 (.int .i64 (pl (nodes t5) t5 : Nat))
      simp only [List.setIfInBounds_toArray, List.set_cons_zero, List.set_cons_succ] at hw6
      have y0 := cell1 (o := 0) hw6 rfl
      have y1 := cell1 (o := 1) hw6 rfl
      have hn6 : Near w w6 := (Kept.mono (HN4.out.drew.kept.trans HQ5.out.2.2.2.2.2.2.2.2) (fun k hk h => Nat.not_succ_le_self _ (Nat.le_trans h (Nat.le_of_lt_succ (Nat.lt_succ_of_lt hk))))).trans HN6.out
      refine bodyPost_ret (v := .tuple #[.agg #[.slice bo bn bc, .int .i64 (pl (nodes t5) t5 : Nat)], .int .i64 0]) (by simp [results, Try.results128, go_sem, y0, y1]) rfl ⟨_, by rw [if_pos HB.out], ?_, (hn6.set (Nat.le_refl _) _).set (Nat.le_refl _) _⟩
      rw [if_pos HB.out]
      exact hs
  · go_enter Try.func128, Try.ntmps128
    go_upto_region 3 with (first
      | (go_at_call 110; refine (HV.out _ ((Near.refl w).alloc _)).mono ?_; rintro e w1 ⟨rfl, n1⟩))
    go_cut [2] (fun s2 wx => s2 = .int .i64 (clip bound) ∧ wx = w1)
    case first =>
      go_wp2_with fail
      all_goals (go_meet; refine ⟨congrArg (Value.int .i64) ?_, rfl⟩; unfold clip; omega)
    case rest =>
      obtain ⟨rfl, rfl⟩ := hcut
      have hbd := clip_le bound
      obtain ⟨bd, hbe⟩ : ∃ b, b = clip bound := ⟨_, rfl⟩
      rw [← hbe] at hbd ⊢
      have HBE := Lib.hid hbe
      clear hbe
      go_upto_region 12 with (first
        | (go_at_call 76; refine (maker_new _).mono ?_; rintro e w2 ⟨rfl, rfl⟩))
      generalize hW : ((((wc.alloc _).alloc _).alloc _).alloc _) = W
      have k1 : Near wc W := by rw [← hW]; exact ((((Near.refl wc).alloc _).alloc _).alloc _).alloc _
      have k2 : W.heap[wc.heap.size]? = some (.cells #[.int .i64 0, .int .i64 1, .int .i64 1] 180 (0, 0)) := by
        rw [← hW]
        repeat (first | exact heap_new_at (by simp; done) | refine (heap_old_at (by simp <;> omega)).trans ?_)
      have k3 : W.heap[wc.heap.size + 1]? = some (.map #[] 0) := by
        rw [← hW]
        repeat (first | exact heap_new_at (by simp; done) | refine (heap_old_at (by simp <;> omega)).trans ?_)
      have k4 : W.heap[wc.heap.size + 1 + 1]? = some (.cells #[.slice none 0 0, .map (some (wc.heap.size + 1))] 154 (0, 0)) := by
        rw [← hW]
        repeat (first | exact heap_new_at (by simp; done) | refine (heap_old_at (by simp <;> omega)).trans ?_)
      have k5 : W.heap[wc.heap.size + 1 + 1 + 1]? = some (.cells (linCells (wc.heap.size + 1 + 1) (fun _ => 0) (.slice none 0 0) (fun _ => .slice none 0 0)).toArray 186 (0, 0)) := by
        rw [← hW]
        exact heap_new_at (by simp)
      have k6 : W.heap.size = wc.heap.size + 4 := by rw [← hW]; simp
      clear hW
      have H1 := Lib.hid (((Near.refl w).alloc (.cells #[.slice none 0 0, .int .i64 0] 31)).trans (n1.trans k1))
      have HRes := Lib.hid (keepN (n1.trans k1) (heap_new_at rfl))
      have hlt := n1.size'
      have HLT := Lib.hid (show w.heap.size < wc.heap.size by simp at hlt; omega)
      have HS6 := Lib.hid k6
      have H2 := Lib.hid k2
      have H3 := Lib.hid k3
      have H4 := Lib.hid k4
      have H5 := Lib.hid k5
      clear k1 k2 k3 k4 k5 k6 n1 hlt
      have hll := HB.out.1.1
      have HRW := Lib.hid (HRd.out.near H1.out)
      obtain ⟨w3, hrun, hb3, hk3⟩ := costs_copy H5.out HRW.out hll
      have HB3 := Lib.hid hb3
      have HK3 := Lib.hid hk3
      clear hb3 hk3
      go_upto_region 13 with fail
      clear hrun
      have hs6 := HS6.out
      have e2 := (HK3.out.block wc.heap.size (by omega) (by omega)).trans H2.out
      have t0 := cell1 (o := 0) e2 rfl
      have t1 := cell1 (o := 1) e2 rfl
      have t2 := cell1 (o := 2) e2 rfl
      have e5 := keepN ((Near.refl w3).alloc (.cells #[.int .i64 (-35184372088832), .int .i64 (bd - 1), .int .i64 0, .int .i64 bd, .int .i64 bd, .int .i64 1, .int .i64 (bd + 1), .int .i64 35184372088832, .int .i64 1] 188)) HB3.out
      have c25 := cell1 (o := 25) e5 (by rw [List.getElem?_toArray]; exact linCells_ends)
      have f25 := free1 e5
      clear e2 e5 hs6
      go_upto_region 14 with fail
      clear t0 t1 t2 c25 f25
      generalize hW4 : ((w3.alloc _).setCell _ _) = W4
      have hs6 := HS6.out
      have hs3 := HK3.out.size
      have hlt := HLT.out
      have g1 : (w3.alloc (.cells (decs (endsOf bd (placesOf 2))).toArray 188)).heap[wc.heap.size + 1 + 1 + 1]? = some (.cells (linCells (wc.heap.size + 1 + 1) (costOf l) (.slice none 0 0) (fun _ => .slice none 0 0)).toArray 186 (0, 0)) := keepN ((Near.refl w3).alloc _) HB3.out
      have g2 : W4.heap[wc.heap.size + 1 + 1 + 1]? = some (.cells (linCells (wc.heap.size + 1 + 1) (costOf l) (.slice (some ⟨w3.heap.size, 0, none⟩) 3 3) (fun _ => .slice none 0 0)).toArray 186 (0, 0)) := by
        have := setCell_heap g1 25 (.slice (some ⟨w3.heap.size, 0, none⟩) 3 3)
        rw [List.setIfInBounds_toArray, linCells_setEnds] at this
        rw [← hW4]
        exact this
      have g3 : Kept (fun k => k = wc.heap.size + 1 + 1 + 1) W W4 := by
        rw [← hW4]
        exact Kept.setCell (S := fun k => k = wc.heap.size + 1 + 1 + 1) (HK3.out.alloc _) (fun _ => rfl) _
      have g4 : W4.heap[w3.heap.size]? = some (.cells (decs (endsOf bd (placesOf 2))).toArray 188 (0, 0)) := by
        rw [← hW4, Below.heap_setCell _ _ _ _ (by show w3.heap.size ≠ wc.heap.size + 1 + 1 + 1; omega)]
        exact heap_new_at rfl
      have g5 := (g3.block w.heap.size (by omega) (by omega)).trans HRes.out
      have hpre := from_begin (S := fun k => w.heap.size + 1 ≤ k) (rel := 2) HB.out.1 hbd g2 ((g3.block (wc.heap.size + 1 + 1) (by omega) (by omega)).trans H4.out) ((g3.block (wc.heap.size + 1) (by omega) (by omega)).trans H3.out) g4 (by show w.heap.size + 1 ≤ _; omega) (by show w.heap.size + 1 ≤ _; omega) (by show w.heap.size + 1 ≤ _; omega) (fun k hk => by have := g3.size; show w.heap.size + 1 ≤ k; omega)
      have gn : Near w W4 := Kept.mono (H1.out.kept.trans g3) (fun k hk e => by omega)
      have g6 : W4.cell? ⟨wc.heap.size + 1 + 1 + 1, 0, none⟩ = some (.pointer (some ⟨wc.heap.size + 1 + 1, 0, none⟩)) := cell1 (o := 0) g2 rfl
      have HPre := Lib.hid hpre
      have HR4 := Lib.hid g5
      have HN4 := Lib.hid gn
      clear hW4 g1 g2 g3 g4 g5 gn hpre hs6 hs3
      have hfield := field188
      go_region_held3 (fun w' => w'.cell? ⟨wc.heap.size + 1 + 1 + 1, 0, none⟩ = some (.pointer (some ⟨wc.heap.size + 1 + 1, 0, none⟩)))
        (first
          | exact g6
          | exact HC5.out
          | exact HC6.out
          | exact (Kept.setCell (S := fun k => k = w.heap.size) (Kept.setCell (S := fun k => k = w.heap.size) (Kept.refl _ w6) (p := ⟨w.heap.size, 0, none⟩) (fun _ => rfl) _) (p := ⟨w.heap.size, 1, none⟩) (fun _ => rfl) _).cell HC6.out (by omega))
        (first
          | (go_at_call 145; refine (from_calls 24 0 W4.drew _ [] _ _ 0 0 rfl (HPre.out.near (Near.refl W4).drew) rfl (by omega)).mono ?_; rintro e w5 ⟨⟨xv, xl, xp⟩, L5, kv5, ks5, rfl, hq5⟩; obtain ⟨t5, ht5, hx5, ok5, hl5, he5⟩ := from_end_is HB.out.1 HBE.out hq5; have HC5 := Lib.hid (cell1 (o := 0) hq5.1.blk rfl); have HQ5 := Lib.hid hq5; have HX5 := Lib.hid hx5; have HE5 := Lib.hid he5; clear hq5 hx5 he5)
          | (go_at_call 79; refine (done_calls HQ5.out.1.good hl5 ht5 ok5 HQ5.out.1.maker HX5.out).mono ?_; rintro e w6 ⟨v6, rfl, d6, b6⟩; obtain ⟨bo, bn, bc, rfl, -⟩ := d6.form; have HD6 := Lib.hid d6; have HN6 := Lib.hid (Near.of_below b6); have HC6 := Lib.hid (HN6.out.cell HC5.out); have HR6 := Lib.hid (keepN HN6.out ((HQ5.out.2.2.2.2.2.2.2.2.block w.heap.size (Array.getElem?_eq_some_iff.1 HR4.out).1 (fun h => Nat.not_succ_le_self _ h)).trans HR4.out)); have q0 := cell1 (o := 0) HR6.out rfl; have q1 := cell1 (o := 1) HR6.out rfl; have qf := free1 HR6.out; clear d6 b6))
      go_wp2_with fail
      have hs := isF_store (f := linF l 2 bound) ⟨t5, HD6.out, HE5.out⟩ HR6.out
      have hw6 := setCell_heap (setCell_heap HR6.out 0 (.slice bo bn bc)) 1 (.int .i64 (pl (nodes t5) t5 : Nat))
      simp only [List.setIfInBounds_toArray, List.set_cons_zero, List.set_cons_succ] at hw6
      have y0 := cell1 (o := 0) hw6 rfl
      have y1 := cell1 (o := 1) hw6 rfl
      have hn6 : Near w w6 := (Kept.mono (HN4.out.drew.kept.trans HQ5.out.2.2.2.2.2.2.2.2) (fun k hk h => Nat.not_succ_le_self _ (Nat.le_trans h (Nat.le_of_lt_succ (Nat.lt_succ_of_lt hk))))).trans HN6.out
      refine bodyPost_ret (v := .tuple #[.agg #[.slice bo bn bc, .int .i64 (pl (nodes t5) t5 : Nat)], .int .i64 0]) (by simp [results, Try.results128, go_sem, y0, y1]) rfl ⟨_, by rw [if_pos HB.out], ?_, (hn6.set (Nat.le_refl _) _).set (Nat.le_refl _) _⟩
      rw [if_pos HB.out]
      exact hs
  · go_enter Try.func128, Try.ntmps128
    go_upto_region 3 with (first
      | (go_at_call 110; refine (HV.out _ ((Near.refl w).alloc _)).mono ?_; rintro e w1 ⟨rfl, n1⟩))
    go_cut [2] (fun s2 wx => s2 = .int .i64 (clip bound) ∧ wx = w1)
    case first =>
      go_wp2_with fail
      all_goals (go_meet; refine ⟨congrArg (Value.int .i64) ?_, rfl⟩; unfold clip; omega)
    case rest =>
      obtain ⟨rfl, rfl⟩ := hcut
      have hbd := clip_le bound
      obtain ⟨bd, hbe⟩ : ∃ b, b = clip bound := ⟨_, rfl⟩
      rw [← hbe] at hbd ⊢
      have HBE := Lib.hid hbe
      clear hbe
      go_upto_region 12 with (first
        | (go_at_call 76; refine (maker_new _).mono ?_; rintro e w2 ⟨rfl, rfl⟩))
      generalize hW : ((((wc.alloc _).alloc _).alloc _).alloc _) = W
      have k1 : Near wc W := by rw [← hW]; exact ((((Near.refl wc).alloc _).alloc _).alloc _).alloc _
      have k2 : W.heap[wc.heap.size]? = some (.cells #[.int .i64 0, .int .i64 1, .int .i64 0] 180 (0, 0)) := by
        rw [← hW]
        repeat (first | exact heap_new_at (by simp; done) | refine (heap_old_at (by simp <;> omega)).trans ?_)
      have k3 : W.heap[wc.heap.size + 1]? = some (.map #[] 0) := by
        rw [← hW]
        repeat (first | exact heap_new_at (by simp; done) | refine (heap_old_at (by simp <;> omega)).trans ?_)
      have k4 : W.heap[wc.heap.size + 1 + 1]? = some (.cells #[.slice none 0 0, .map (some (wc.heap.size + 1))] 154 (0, 0)) := by
        rw [← hW]
        repeat (first | exact heap_new_at (by simp; done) | refine (heap_old_at (by simp <;> omega)).trans ?_)
      have k5 : W.heap[wc.heap.size + 1 + 1 + 1]? = some (.cells (linCells (wc.heap.size + 1 + 1) (fun _ => 0) (.slice none 0 0) (fun _ => .slice none 0 0)).toArray 186 (0, 0)) := by
        rw [← hW]
        exact heap_new_at (by simp)
      have k6 : W.heap.size = wc.heap.size + 4 := by rw [← hW]; simp
      clear hW
      have H1 := Lib.hid (((Near.refl w).alloc (.cells #[.slice none 0 0, .int .i64 0] 31)).trans (n1.trans k1))
      have HRes := Lib.hid (keepN (n1.trans k1) (heap_new_at rfl))
      have hlt := n1.size'
      have HLT := Lib.hid (show w.heap.size < wc.heap.size by simp at hlt; omega)
      have HS6 := Lib.hid k6
      have H2 := Lib.hid k2
      have H3 := Lib.hid k3
      have H4 := Lib.hid k4
      have H5 := Lib.hid k5
      clear k1 k2 k3 k4 k5 k6 n1 hlt
      have hll := HB.out.1.1
      have HRW := Lib.hid (HRd.out.near H1.out)
      obtain ⟨w3, hrun, hb3, hk3⟩ := costs_copy H5.out HRW.out hll
      have HB3 := Lib.hid hb3
      have HK3 := Lib.hid hk3
      clear hb3 hk3
      go_upto_region 13 with fail
      clear hrun
      have hs6 := HS6.out
      have e2 := (HK3.out.block wc.heap.size (by omega) (by omega)).trans H2.out
      have t0 := cell1 (o := 0) e2 rfl
      have t1 := cell1 (o := 1) e2 rfl
      have t2 := cell1 (o := 2) e2 rfl
      have e5 := keepN ((Near.refl w3).alloc (.cells #[.int .i64 (-35184372088832), .int .i64 (bd - 1), .int .i64 0, .int .i64 bd, .int .i64 bd, .int .i64 1, .int .i64 (bd + 1), .int .i64 35184372088832, .int .i64 0] 188)) HB3.out
      have c25 := cell1 (o := 25) e5 (by rw [List.getElem?_toArray]; exact linCells_ends)
      have f25 := free1 e5
      clear e2 e5 hs6
      go_upto_region 14 with fail
      clear t0 t1 t2 c25 f25
      generalize hW4 : ((w3.alloc _).setCell _ _) = W4
      have hs6 := HS6.out
      have hs3 := HK3.out.size
      have hlt := HLT.out
      have g1 : (w3.alloc (.cells (decs (endsOf bd (placesOf 3))).toArray 188)).heap[wc.heap.size + 1 + 1 + 1]? = some (.cells (linCells (wc.heap.size + 1 + 1) (costOf l) (.slice none 0 0) (fun _ => .slice none 0 0)).toArray 186 (0, 0)) := keepN ((Near.refl w3).alloc _) HB3.out
      have g2 : W4.heap[wc.heap.size + 1 + 1 + 1]? = some (.cells (linCells (wc.heap.size + 1 + 1) (costOf l) (.slice (some ⟨w3.heap.size, 0, none⟩) 3 3) (fun _ => .slice none 0 0)).toArray 186 (0, 0)) := by
        have := setCell_heap g1 25 (.slice (some ⟨w3.heap.size, 0, none⟩) 3 3)
        rw [List.setIfInBounds_toArray, linCells_setEnds] at this
        rw [← hW4]
        exact this
      have g3 : Kept (fun k => k = wc.heap.size + 1 + 1 + 1) W W4 := by
        rw [← hW4]
        exact Kept.setCell (S := fun k => k = wc.heap.size + 1 + 1 + 1) (HK3.out.alloc _) (fun _ => rfl) _
      have g4 : W4.heap[w3.heap.size]? = some (.cells (decs (endsOf bd (placesOf 3))).toArray 188 (0, 0)) := by
        rw [← hW4, Below.heap_setCell _ _ _ _ (by show w3.heap.size ≠ wc.heap.size + 1 + 1 + 1; omega)]
        exact heap_new_at rfl
      have g5 := (g3.block w.heap.size (by omega) (by omega)).trans HRes.out
      have hpre := from_begin (S := fun k => w.heap.size + 1 ≤ k) (rel := 3) HB.out.1 hbd g2 ((g3.block (wc.heap.size + 1 + 1) (by omega) (by omega)).trans H4.out) ((g3.block (wc.heap.size + 1) (by omega) (by omega)).trans H3.out) g4 (by show w.heap.size + 1 ≤ _; omega) (by show w.heap.size + 1 ≤ _; omega) (by show w.heap.size + 1 ≤ _; omega) (fun k hk => by have := g3.size; show w.heap.size + 1 ≤ k; omega)
      have gn : Near w W4 := Kept.mono (H1.out.kept.trans g3) (fun k hk e => by omega)
      have g6 : W4.cell? ⟨wc.heap.size + 1 + 1 + 1, 0, none⟩ = some (.pointer (some ⟨wc.heap.size + 1 + 1, 0, none⟩)) := cell1 (o := 0) g2 rfl
      have HPre := Lib.hid hpre
      have HR4 := Lib.hid g5
      have HN4 := Lib.hid gn
      clear hW4 g1 g2 g3 g4 g5 gn hpre hs6 hs3
      have hfield := field188
      go_region_held3 (fun w' => w'.cell? ⟨wc.heap.size + 1 + 1 + 1, 0, none⟩ = some (.pointer (some ⟨wc.heap.size + 1 + 1, 0, none⟩)))
        (first
          | exact g6
          | exact HC5.out
          | exact HC6.out
          | exact (Kept.setCell (S := fun k => k = w.heap.size) (Kept.setCell (S := fun k => k = w.heap.size) (Kept.refl _ w6) (p := ⟨w.heap.size, 0, none⟩) (fun _ => rfl) _) (p := ⟨w.heap.size, 1, none⟩) (fun _ => rfl) _).cell HC6.out (by omega))
        (first
          | (go_at_call 145; refine (from_calls 24 0 W4.drew _ [] _ _ 0 0 rfl (HPre.out.near (Near.refl W4).drew) rfl (by omega)).mono ?_; rintro e w5 ⟨⟨xv, xl, xp⟩, L5, kv5, ks5, rfl, hq5⟩; obtain ⟨t5, ht5, hx5, ok5, hl5, he5⟩ := from_end_is HB.out.1 HBE.out hq5; have HC5 := Lib.hid (cell1 (o := 0) hq5.1.blk rfl); have HQ5 := Lib.hid hq5; have HX5 := Lib.hid hx5; have HE5 := Lib.hid he5; clear hq5 hx5 he5)
          | (go_at_call 79; refine (done_calls HQ5.out.1.good hl5 ht5 ok5 HQ5.out.1.maker HX5.out).mono ?_; rintro e w6 ⟨v6, rfl, d6, b6⟩; obtain ⟨bo, bn, bc, rfl, -⟩ := d6.form; have HD6 := Lib.hid d6; have HN6 := Lib.hid (Near.of_below b6); have HC6 := Lib.hid (HN6.out.cell HC5.out); have HR6 := Lib.hid (keepN HN6.out ((HQ5.out.2.2.2.2.2.2.2.2.block w.heap.size (Array.getElem?_eq_some_iff.1 HR4.out).1 (fun h => Nat.not_succ_le_self _ h)).trans HR4.out)); have q0 := cell1 (o := 0) HR6.out rfl; have q1 := cell1 (o := 1) HR6.out rfl; have qf := free1 HR6.out; clear d6 b6))
      go_wp2_with fail
      have hs := isF_store (f := linF l 3 bound) ⟨t5, HD6.out, HE5.out⟩ HR6.out
      have hw6 := setCell_heap (setCell_heap HR6.out 0 (.slice bo bn bc)) 1 (.int .i64 (pl (nodes t5) t5 : Nat))
      simp only [List.setIfInBounds_toArray, List.set_cons_zero, List.set_cons_succ] at hw6
      have y0 := cell1 (o := 0) hw6 rfl
      have y1 := cell1 (o := 1) hw6 rfl
      have hn6 : Near w w6 := (Kept.mono (HN4.out.drew.kept.trans HQ5.out.2.2.2.2.2.2.2.2) (fun k hk h => Nat.not_succ_le_self _ (Nat.le_trans h (Nat.le_of_lt_succ (Nat.lt_succ_of_lt hk))))).trans HN6.out
      refine bodyPost_ret (v := .tuple #[.agg #[.slice bo bn bc, .int .i64 (pl (nodes t5) t5 : Nat)], .int .i64 0]) (by simp [results, Try.results128, go_sem, y0, y1]) rfl ⟨_, by rw [if_pos HB.out], ?_, (hn6.set (Nat.le_refl _) _).set (Nat.le_refl _) _⟩
      rw [if_pos HB.out]
      exact hs


/-- Linear's contract. -/
theorem linear_f {w : World} {v : Value} {l : List Int} {rel : Nat} {bound : Int} (h : RdInts w v l) : Calls Try.prog 128 #[v, .int .u8 rel, .int .i64 bound] w (LinPost w l rel bound) := by
  by_cases hok : LinOk l rel
  · rcases (show rel = 1 ∨ rel = 2 ∨ rel = 3 by obtain ⟨_, h1, h2⟩ := hok; omega) with rfl | rfl | rfl
    · exact linear_good h hok 1 1 0 (by simp)
    · exact linear_good h hok 0 1 1 (by simp)
    · exact linear_good h hok 0 1 0 (by simp)
  · exact linear_bad h hok

end Go.Proofs.Ytefclohjeompkaa
