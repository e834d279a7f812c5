/- Parts of a proof: OpB, OpC, OpD, OpE, OpenA. -/
import Derived.Test.YtefclohjeompkaaRows
import Derived.ProofKit
import Derived.OpenShut
import Derived.ShutString
import Derived.ChangeOld
import Derived.Below
import Derived.Deep.Fields
import Derived.Test.YtefclohjeompkaaKRefV
/- The contract of one. -/
namespace Go.Proofs.Ytefclohjeompkaa
open Go Go.RowKit Go.Proofs.Gen Go.Proofs.Bdd Go.Proofs.Bdd.T

/-- The three sets of an operation lie in boxes of their own. -/
def Three (W : World) (u0 u1 v0 v1 x0 x1 : Value) (p q r : Value) (w : World) : Prop :=
  ∃ a b c, p = .pointer (some ⟨a, 0, none⟩) ∧ q = .pointer (some ⟨b, 0, none⟩) ∧ r = .pointer (some ⟨c, 0, none⟩) ∧ W.heap.size ≤ a ∧ W.heap.size ≤ b ∧ W.heap.size ≤ c ∧
    w.heap[a]? = some (.cells #[u0, u1] 31 (0, 0)) ∧ w.heap[b]? = some (.cells #[v0, v1] 31 (0, 0)) ∧ w.heap[c]? = some (.cells #[x0, x1] 31 (0, 0)) ∧ Near W w

theorem Sets.at {e : TypeId} {Is : World → Value → F → Prop} {b : Nat} {w : World} {x : Value} {fs : List F} (h : Sets e Is b w x fs) {k : Nat} (h0 : 0 < fs.length) :
    ∃ g cap u v j, j = k % fs.length ∧ (k : Int).tmod (fs.length : Int) = (j : Int) ∧ j < fs.length ∧ x = .slice (some ⟨g, 0, none⟩) fs.length cap ∧ w.cell? ⟨g, j * 2, none⟩ = some u ∧ w.cell? ⟨g, j * 2 + 1, none⟩ = some v ∧ Is w (.agg #[u, v]) (fs.getD (k % fs.length) fun _ => false) := by
  have hj : k % fs.length < fs.length := Nat.mod_lt _ h0
  obtain ⟨g, cap, u, v, hx, -, -, h1, h2, h3⟩ := h.get (List.getElem?_eq_getElem hj)
  refine ⟨g, cap, u, v, _, rfl, rfl, hj, hx, h1, h2, ?_⟩
  rw [List.getD_eq_getElem?_getD, List.getElem?_eq_getElem hj]
  exact h3

set_option maxRecDepth 100000 in
set_option maxHeartbeats 6400000 in
theorem one_calls {w : World} {x : SOp} {base : Nat} {sv : Value} {fs : List F} (hx : SOpOk w x) (hl40 : x.ls.length ≤ 40) (hs : Sets 31 IsF base w sv fs) (h0 : 0 < fs.length) (hn : fs.length < 1048576) :
    Calls Try.prog 84 #[.agg x.cells.toArray, sv] w (OnePost w x fs) := by
  obtain ⟨gg, cap, a0, a1, ja, -, ea, hja, rfl, ca0, ca1, ia⟩ := hs.at (k := x.a) h0
  obtain ⟨gg', cap', b0, b1, jb, -, eb, hjb, e, cb0, cb1, ib⟩ := hs.at (k := x.b) h0
  cases e
  obtain ⟨gg', cap', c0, c1, jc, -, ec, hjc, e, cc0, cc1, ic⟩ := hs.at (k := x.c) h0
  cases e
  obtain ⟨xop, xrel, xa, xb, xc, xi, xj, xon, xf, xg, xlv, xls, xbound⟩ := x
  simp only [SOp.cells] at *
  have hla : (xa : Int) < 256 := by have := hx.a; simp only at this; omega
  have hlb : (xb : Int) < 256 := by have := hx.b; simp only at this; omega
  have hlc : (xc : Int) < 256 := by have := hx.c; simp only at this; omega
  have hlo : xop < 256 := hx.op
  have wra : IntKind.i64.wrap (xa : Int) = xa := IntWalk.i64_in _ (by omega)
  have wrb : IntKind.i64.wrap (xb : Int) = xb := IntWalk.i64_in _ (by omega)
  have wrc : IntKind.i64.wrap (xc : Int) = xc := IntWalk.i64_in _ (by omega)
  have HX := Lib.hid hx
  have HS := Lib.hid hs
  have HIA := Lib.hid ia
  have HIB := Lib.hid ib
  have HIC := Lib.hid ic
  clear hx hs ia ib ic
  obtain ⟨n, hnl⟩ : ∃ n, fs.length = n := ⟨_, rfl⟩
  rw [hnl] at h0 hn hja hjb hjc ea eb ec HS ⊢
  have HNL := Lib.hid hnl
  clear hnl
  have hpa : (0 : Int) ≤ ja := by omega
  have hpb : (0 : Int) ≤ jb := by omega
  have hpc : (0 : Int) ≤ jc := by omega
  have hja' : (ja : Int) < n := by omega
  have hjb' : (jb : Int) < n := by omega
  have hjc' : (jc : Int) < n := by omega
  have hne : ¬ ((n : Int) = 0) := by omega
  have hne' : ¬ (n = 0) := by omega
  obtain ⟨a2, a3, a4, a5, ea0⟩ := HIA.out.form
  obtain ⟨b2, b3, b4, b5, eb0⟩ := HIB.out.form
  obtain ⟨c2, c3, c4, c5, ec0⟩ := HIC.out.form
  simp only [Value.agg.injEq, Array.mk.injEq, List.cons.injEq, and_true] at ea0 eb0 ec0
  obtain ⟨rfl, rfl⟩ := ea0
  obtain ⟨rfl, rfl⟩ := eb0
  obtain ⟨rfl, rfl⟩ := ec0
  go_enter Try.func84, Try.ntmps84
  go_upto_region 1 with fail
  have hbx : ((w.alloc (.cells #[.int .u8 xop, .int .u8 xrel, .int .u8 xa, .int .u8 xb, .int .u8 xc, .int .i64 xi, .int .i64 xj, .bool xon, .int .u32 xf, .int .u32 xg, xlv, .int .i64 xbound] 109)).alloc (.cells #[.slice none 0 0, .int .i64 0] 31)).heap[w.heap.size]? = some (.cells #[.int .u8 xop, .int .u8 xrel, .int .u8 xa, .int .u8 xb, .int .u8 xc, .int .i64 xi, .int .i64 xj, .bool xon, .int .u32 xf, .int .u32 xg, xlv, .int .i64 xbound] 109 (0, 0)) := keepN ((Near.refl _).alloc _) (heap_new_at rfl)
  have hrs : ((w.alloc (.cells #[.int .u8 xop, .int .u8 xrel, .int .u8 xa, .int .u8 xb, .int .u8 xc, .int .i64 xi, .int .i64 xj, .bool xon, .int .u32 xf, .int .u32 xg, xlv, .int .i64 xbound] 109)).alloc (.cells #[.slice none 0 0, .int .i64 0] 31)).heap[w.heap.size + 1]? = some (.cells #[.slice none 0 0, .int .i64 0] 31 (0, 0)) := heap_new_at (by simp)
  have hn0 : Near w ((w.alloc (.cells #[.int .u8 xop, .int .u8 xrel, .int .u8 xa, .int .u8 xb, .int .u8 xc, .int .i64 xi, .int .i64 xj, .bool xon, .int .u32 xf, .int .u32 xg, xlv, .int .i64 xbound] 109)).alloc (.cells #[.slice none 0 0, .int .i64 0] 31)) := ((Near.refl w).alloc _).alloc _
  generalize hW : ((w.alloc _).alloc _) = W at hbx hrs hn0 ⊢
  clear hW
  have HBX := Lib.hid hbx
  have HRS := Lib.hid hrs
  have HN0 := Lib.hid hn0
  replace ca0 := hn0.cell ca0
  replace ca1 := hn0.cell ca1
  replace cb0 := hn0.cell cb0
  replace cb1 := hn0.cell cb1
  replace cc0 := hn0.cell cc0
  replace cc1 := hn0.cell cc1
  have x2 : W.cell? ⟨w.heap.size, 2, none⟩ = some (.int .u8 xa) := cell1 (o := 2) hbx rfl
  have x3 : W.cell? ⟨w.heap.size, 3, none⟩ = some (.int .u8 xb) := cell1 (o := 3) hbx rfl
  have x4 : W.cell? ⟨w.heap.size, 4, none⟩ = some (.int .u8 xc) := cell1 (o := 4) hbx rfl
  clear hbx hrs hn0
  have HSK := Lib.hid (show ∀ w', Near W w' → w'.cell? ⟨w.heap.size, 2, none⟩ = some (.int .u8 xa) ∧ w'.cell? ⟨w.heap.size, 3, none⟩ = some (.int .u8 xb) ∧ w'.cell? ⟨w.heap.size, 4, none⟩ = some (.int .u8 xc) ∧
        w'.cell? ⟨gg, ja * 2, none⟩ = some (.slice a2 a3 a4) ∧ w'.cell? ⟨gg, ja * 2 + 1, none⟩ = some (.int .i64 a5) ∧ w'.cell? ⟨gg, jb * 2, none⟩ = some (.slice b2 b3 b4) ∧ w'.cell? ⟨gg, jb * 2 + 1, none⟩ = some (.int .i64 b5) ∧
        w'.cell? ⟨gg, jc * 2, none⟩ = some (.slice c2 c3 c4) ∧ w'.cell? ⟨gg, jc * 2 + 1, none⟩ = some (.int .i64 c5) from fun w' h => ⟨h.cell x2, h.cell x3, h.cell x4, h.cell ca0, h.cell ca1, h.cell cb0, h.cell cb1, h.cell cc0, h.cell cc1⟩)
  go_cut [6, 7, 8] (fun s6 s7 s8 wx => Three W (.slice a2 a3 a4) (.int .i64 a5) (.slice b2 b3 b4) (.int .i64 b5) (.slice c2 c3 c4) (.int .i64 c5) s6 s7 s8 wx)
  case first =>
    go_region_held3 (fun w' => w'.cell? ⟨w.heap.size, 2, none⟩ = some (.int .u8 xa) ∧ w'.cell? ⟨w.heap.size, 3, none⟩ = some (.int .u8 xb) ∧ w'.cell? ⟨w.heap.size, 4, none⟩ = some (.int .u8 xc) ∧
        w'.cell? ⟨gg, ja * 2, none⟩ = some (.slice a2 a3 a4) ∧ w'.cell? ⟨gg, ja * 2 + 1, none⟩ = some (.int .i64 a5) ∧ w'.cell? ⟨gg, jb * 2, none⟩ = some (.slice b2 b3 b4) ∧ w'.cell? ⟨gg, jb * 2 + 1, none⟩ = some (.int .i64 b5) ∧
        w'.cell? ⟨gg, jc * 2, none⟩ = some (.slice c2 c3 c4) ∧ w'.cell? ⟨gg, jc * 2 + 1, none⟩ = some (.int .i64 c5))
      (first
        | exact ⟨x2, x3, x4, ca0, ca1, cb0, cb1, cc0, cc1⟩
        | exact HSK.out _ (by repeat (first | exact Near.refl _ | refine Near.drew ?_ | refine Near.alloc ?_ _)))
      (fail)
    all_goals
      go_wp2_with fail
      go_meet
      refine ⟨_, _, _, rfl, rfl, rfl, ?_, ?_, ?_, ?_, ?_, ?_, ?_⟩
    all_goals first
      | exact Nat.le_refl _
      | omega
      | exact ((((Near.refl W).alloc _).alloc _).alloc _).drew
      | exact heap_new_at (w := World.alloc _ _) (by simp; done)
      | (change (World.heap (World.alloc (World.alloc (World.alloc W _) _) _))[_]? = _; repeat (first | exact heap_new_at (by simp; done) | refine (heap_old_at (by simp <;> omega)).trans ?_))
  case rest =>
    obtain ⟨pa, pb, pc, rfl, rfl, rfl, -, -, -, hA, hB, hC, hN⟩ := hcut
    have hx := keepN hN HBX.out
    have hr := keepN hN HRS.out
    have HNW := Lib.hid (HN0.out.trans hN)
    have HR := Lib.hid hr
    have kA0 := cell1 (o := 0) hA rfl
    have kA1 := cell1 (o := 1) hA rfl
    have kB0 := cell1 (o := 0) hB rfl
    have kB1 := cell1 (o := 1) hB rfl
    have kC0 := cell1 (o := 0) hC rfl
    have kC1 := cell1 (o := 1) hC rfl
    have HCX := Lib.hid hx
    have hf := HX.out.f
    have hg := HX.out.g
    simp only at hf hg
    clear hx hr hA hB hC hN ca0 ca1 cb0 cb1 cc0 cc1 x2 x3 x4 HSK HBX HRS ea eb ec hja hjb hjc hpa hpb hpc hja' hjb' hjc' hne hne' wra wrb wrc hla hlb hlc
    rcases (show xop = 1 ∨ xop = 2 ∨ xop = 3 ∨ xop = 4 ∨ xop = 5 ∨ xop = 6 ∨ xop = 7 ∨ xop = 8 ∨ xop = 9 ∨ xop = 10 ∨ xop = 11 ∨ xop = 12 ∨ xop = 13 ∨ xop = 14 ∨ xop = 15 ∨ (xop = 0 ∨ 16 ≤ xop) by omega) with rfl | rfl | rfl | rfl | rfl | rfl | rfl | rfl | rfl | rfl | rfl | rfl | rfl | rfl | rfl | hbig
    · have x0 : wc.cell? ⟨w.heap.size, 0, none⟩ = some (.int .u8 1) := cell1 (o := 0) HCX.out rfl
      go_wp2_with (go_at_call 100; refine (true_f _).mono ?_; rintro e w5 ⟨v5, rfl, d5, n5⟩; obtain ⟨r1, r2, r3, r4, rfl⟩ := d5.form; have hr5 := keepN n5 HR.out; have z0 := cell1 (o := 0) hr5 rfl; have z1 := cell1 (o := 1) hr5 rfl; have zf := free1 hr5; have HR5 := Lib.hid hr5; have HD5 := Lib.hid d5; have HN5 := Lib.hid n5; clear hr5 d5 n5)
      have hw5 := setCell_heap (setCell_heap HR5.out 0 (.slice r1 r2 r3)) 1 (.int .i64 r4)
      simp only [List.setIfInBounds_toArray, List.set_cons_zero, List.set_cons_succ] at hw5
      have y0 := cell1 (o := 0) hw5 rfl
      have y1 := cell1 (o := 1) hw5 rfl
      exact bodyPost_ret (v := .tuple #[.agg #[.slice r1 r2 r3, .int .i64 r4], .int .i64 (0)]) (by simp [results, Try.results84, go_sem, y0, y1]) rfl ⟨_, rfl, isF_store HD5.out HR5.out, ((HNW.out.trans HN5.out).set (by show w.heap.size ≤ w.heap.size + 1; omega) _).set (by show w.heap.size ≤ w.heap.size + 1; omega) _⟩
    · have x0 : wc.cell? ⟨w.heap.size, 0, none⟩ = some (.int .u8 2) := cell1 (o := 0) HCX.out rfl
      have x5 : wc.cell? ⟨w.heap.size, 5, none⟩ = some (.int .i64 xi) := cell1 (o := 5) HCX.out rfl
      by_cases hi : 0 ≤ xi ∧ xi < 24
      · have HI := Lib.hid hi
        obtain ⟨m, rfl⟩ : ∃ m : Nat, xi = m := ⟨xi.toNat, by omega⟩
        have hm : m < 24 := by omega
        clear hi
        have EN := Lib.hid (show opN ⟨2, xrel, xa, xb, xc, (m : Int), xj, xon, xf, xg, xlv, xls, xbound⟩ = 0 from if_pos HI.out)
        go_wp2_with (go_at_call 40; refine (var_in m hm _).mono ?_; rintro e w5 ⟨v5, rfl, d, n5⟩; have d5 : IsF w5 v5 (fun s => s m) := ⟨_, d, fun c => by simp [T.ev]⟩; clear d; obtain ⟨r1, r2, r3, r4, rfl⟩ := d5.form; have hr5 := keepN n5 HR.out; have z0 := cell1 (o := 0) hr5 rfl; have z1 := cell1 (o := 1) hr5 rfl; have zf := free1 hr5; have HR5 := Lib.hid hr5; have HD5 := Lib.hid d5; have HN5 := Lib.hid n5; clear hr5 d5 n5)
        have hw5 := setCell_heap (setCell_heap HR5.out 0 (.slice r1 r2 r3)) 1 (.int .i64 r4)
        simp only [List.setIfInBounds_toArray, List.set_cons_zero, List.set_cons_succ] at hw5
        have y0 := cell1 (o := 0) hw5 rfl
        have y1 := cell1 (o := 1) hw5 rfl
        exact bodyPost_ret (v := .tuple #[.agg #[.slice r1 r2 r3, .int .i64 r4], .int .i64 (0)]) (by simp [results, Try.results84, go_sem, y0, y1]) rfl ⟨_, by rw [EN.out], (isF_store HD5.out HR5.out).congr (fun c => (if_pos HI.out).symm), ((HNW.out.trans HN5.out).set (by show w.heap.size ≤ w.heap.size + 1; omega) _).set (by show w.heap.size ≤ w.heap.size + 1; omega) _⟩
      · have HI := Lib.hid hi
        have hi' : xi < 0 ∨ 23 < xi := by omega
        clear hi
        have HO := Lib.hid hi'
        clear hi'
        have EN := Lib.hid (show opN ⟨2, xrel, xa, xb, xc, xi, xj, xon, xf, xg, xlv, xls, xbound⟩ = 3 from if_neg HI.out)
        go_wp2_with (go_at_call 40; refine (var_out xi HO.out _).mono ?_; rintro e w5 ⟨rfl, n5⟩; have d5 : IsF w5 (.agg #[.slice none 0 0, .int .i64 0]) (fun _ => false) := ⟨.leaf false, ⟨trivial, .slice none 0 0, rfl, World.ownsRow_nil _ _ _ _⟩, fun _ => rfl⟩; have hr5 := keepN n5 HR.out; have z0 := cell1 (o := 0) hr5 rfl; have z1 := cell1 (o := 1) hr5 rfl; have zf := free1 hr5; have HR5 := Lib.hid hr5; have HD5 := Lib.hid d5; have HN5 := Lib.hid n5; clear hr5 d5 n5)
        have hw5 := setCell_heap (setCell_heap HR5.out 0 (.slice none 0 0)) 1 (.int .i64 0)
        simp only [List.setIfInBounds_toArray, List.set_cons_zero, List.set_cons_succ] at hw5
        have y0 := cell1 (o := 0) hw5 rfl
        have y1 := cell1 (o := 1) hw5 rfl
        exact bodyPost_ret (v := .tuple #[.agg #[.slice none 0 0, .int .i64 0], .int .i64 (3)]) (by simp [results, Try.results84, go_sem, y0, y1]) rfl ⟨_, by rw [EN.out], (isF_store HD5.out HR5.out).congr (fun c => (if_neg HI.out).symm), ((HNW.out.trans HN5.out).set (by show w.heap.size ≤ w.heap.size + 1; omega) _).set (by show w.heap.size ≤ w.heap.size + 1; omega) _⟩
    · have x0 : wc.cell? ⟨w.heap.size, 0, none⟩ = some (.int .u8 3) := cell1 (o := 0) HCX.out rfl
      have x8 : wc.cell? ⟨w.heap.size, 8, none⟩ = some (.int .u32 xf) := cell1 (o := 8) HCX.out rfl
      have x9 : wc.cell? ⟨w.heap.size, 9, none⟩ = some (.int .u32 xg) := cell1 (o := 9) HCX.out rfl
      go_wp2_with (go_at_call 73; refine (cube_f hf hg _).mono ?_; rintro e w5 ⟨v5, rfl, d5, n5⟩; obtain ⟨r1, r2, r3, r4, rfl⟩ := d5.form; have hr5 := keepN n5 HR.out; have z0 := cell1 (o := 0) hr5 rfl; have z1 := cell1 (o := 1) hr5 rfl; have zf := free1 hr5; have HR5 := Lib.hid hr5; have HD5 := Lib.hid d5; have HN5 := Lib.hid n5; clear hr5 d5 n5)
      have hw5 := setCell_heap (setCell_heap HR5.out 0 (.slice r1 r2 r3)) 1 (.int .i64 r4)
      simp only [List.setIfInBounds_toArray, List.set_cons_zero, List.set_cons_succ] at hw5
      have y0 := cell1 (o := 0) hw5 rfl
      have y1 := cell1 (o := 1) hw5 rfl
      exact bodyPost_ret (v := .tuple #[.agg #[.slice r1 r2 r3, .int .i64 r4], .int .i64 (0)]) (by simp [results, Try.results84, go_sem, y0, y1]) rfl ⟨_, rfl, isF_store HD5.out HR5.out, ((HNW.out.trans HN5.out).set (by show w.heap.size ≤ w.heap.size + 1; omega) _).set (by show w.heap.size ≤ w.heap.size + 1; omega) _⟩
    · have x0 : wc.cell? ⟨w.heap.size, 0, none⟩ = some (.int .u8 4) := cell1 (o := 0) HCX.out rfl
      go_wp2_with (go_at_call 32; refine (not_f (HIA.out.near HNW.out)).mono ?_; rintro e w5 ⟨v5, rfl, d5, n5⟩; obtain ⟨r1, r2, r3, r4, rfl⟩ := d5.form; have hr5 := keepN n5 HR.out; have z0 := cell1 (o := 0) hr5 rfl; have z1 := cell1 (o := 1) hr5 rfl; have zf := free1 hr5; have HR5 := Lib.hid hr5; have HD5 := Lib.hid d5; have HN5 := Lib.hid n5; clear hr5 d5 n5)
      have hw5 := setCell_heap (setCell_heap HR5.out 0 (.slice r1 r2 r3)) 1 (.int .i64 r4)
      simp only [List.setIfInBounds_toArray, List.set_cons_zero, List.set_cons_succ] at hw5
      have y0 := cell1 (o := 0) hw5 rfl
      have y1 := cell1 (o := 1) hw5 rfl
      exact bodyPost_ret (v := .tuple #[.agg #[.slice r1 r2 r3, .int .i64 r4], .int .i64 (0)]) (by simp [results, Try.results84, go_sem, y0, y1]) rfl ⟨_, rfl, isF_store HD5.out HR5.out, ((HNW.out.trans HN5.out).set (by show w.heap.size ≤ w.heap.size + 1; omega) _).set (by show w.heap.size ≤ w.heap.size + 1; omega) _⟩
    · have x0 : wc.cell? ⟨w.heap.size, 0, none⟩ = some (.int .u8 5) := cell1 (o := 0) HCX.out rfl
      go_wp2_with (go_at_call 34; refine (and_f (HIA.out.near HNW.out) (HIB.out.near HNW.out)).mono ?_; rintro e w5 ⟨v5, rfl, d5, n5⟩; obtain ⟨r1, r2, r3, r4, rfl⟩ := d5.form; have hr5 := keepN n5 HR.out; have z0 := cell1 (o := 0) hr5 rfl; have z1 := cell1 (o := 1) hr5 rfl; have zf := free1 hr5; have HR5 := Lib.hid hr5; have HD5 := Lib.hid d5; have HN5 := Lib.hid n5; clear hr5 d5 n5)
      have hw5 := setCell_heap (setCell_heap HR5.out 0 (.slice r1 r2 r3)) 1 (.int .i64 r4)
      simp only [List.setIfInBounds_toArray, List.set_cons_zero, List.set_cons_succ] at hw5
      have y0 := cell1 (o := 0) hw5 rfl
      have y1 := cell1 (o := 1) hw5 rfl
      exact bodyPost_ret (v := .tuple #[.agg #[.slice r1 r2 r3, .int .i64 r4], .int .i64 (0)]) (by simp [results, Try.results84, go_sem, y0, y1]) rfl ⟨_, rfl, isF_store HD5.out HR5.out, ((HNW.out.trans HN5.out).set (by show w.heap.size ≤ w.heap.size + 1; omega) _).set (by show w.heap.size ≤ w.heap.size + 1; omega) _⟩
    · have x0 : wc.cell? ⟨w.heap.size, 0, none⟩ = some (.int .u8 6) := cell1 (o := 0) HCX.out rfl
      go_wp2_with (go_at_call 33; refine (or_f (HIA.out.near HNW.out) (HIB.out.near HNW.out)).mono ?_; rintro e w5 ⟨v5, rfl, d5, n5⟩; obtain ⟨r1, r2, r3, r4, rfl⟩ := d5.form; have hr5 := keepN n5 HR.out; have z0 := cell1 (o := 0) hr5 rfl; have z1 := cell1 (o := 1) hr5 rfl; have zf := free1 hr5; have HR5 := Lib.hid hr5; have HD5 := Lib.hid d5; have HN5 := Lib.hid n5; clear hr5 d5 n5)
      have hw5 := setCell_heap (setCell_heap HR5.out 0 (.slice r1 r2 r3)) 1 (.int .i64 r4)
      simp only [List.setIfInBounds_toArray, List.set_cons_zero, List.set_cons_succ] at hw5
      have y0 := cell1 (o := 0) hw5 rfl
      have y1 := cell1 (o := 1) hw5 rfl
      exact bodyPost_ret (v := .tuple #[.agg #[.slice r1 r2 r3, .int .i64 r4], .int .i64 (0)]) (by simp [results, Try.results84, go_sem, y0, y1]) rfl ⟨_, rfl, isF_store HD5.out HR5.out, ((HNW.out.trans HN5.out).set (by show w.heap.size ≤ w.heap.size + 1; omega) _).set (by show w.heap.size ≤ w.heap.size + 1; omega) _⟩
    · have x0 : wc.cell? ⟨w.heap.size, 0, none⟩ = some (.int .u8 7) := cell1 (o := 0) HCX.out rfl
      go_wp2_with (go_at_call 48; refine (xor_f (HIA.out.near HNW.out) (HIB.out.near HNW.out)).mono ?_; rintro e w5 ⟨v5, rfl, d5, n5⟩; obtain ⟨r1, r2, r3, r4, rfl⟩ := d5.form; have hr5 := keepN n5 HR.out; have z0 := cell1 (o := 0) hr5 rfl; have z1 := cell1 (o := 1) hr5 rfl; have zf := free1 hr5; have HR5 := Lib.hid hr5; have HD5 := Lib.hid d5; have HN5 := Lib.hid n5; clear hr5 d5 n5)
      have hw5 := setCell_heap (setCell_heap HR5.out 0 (.slice r1 r2 r3)) 1 (.int .i64 r4)
      simp only [List.setIfInBounds_toArray, List.set_cons_zero, List.set_cons_succ] at hw5
      have y0 := cell1 (o := 0) hw5 rfl
      have y1 := cell1 (o := 1) hw5 rfl
      exact bodyPost_ret (v := .tuple #[.agg #[.slice r1 r2 r3, .int .i64 r4], .int .i64 (0)]) (by simp [results, Try.results84, go_sem, y0, y1]) rfl ⟨_, rfl, isF_store HD5.out HR5.out, ((HNW.out.trans HN5.out).set (by show w.heap.size ≤ w.heap.size + 1; omega) _).set (by show w.heap.size ≤ w.heap.size + 1; omega) _⟩
    · have x0 : wc.cell? ⟨w.heap.size, 0, none⟩ = some (.int .u8 8) := cell1 (o := 0) HCX.out rfl
      go_wp2_with (go_at_call 43; refine (ite_f (HIA.out.near HNW.out) (HIB.out.near HNW.out) (HIC.out.near HNW.out)).mono ?_; rintro e w5 ⟨v5, rfl, d5, n5⟩; obtain ⟨r1, r2, r3, r4, rfl⟩ := d5.form; have hr5 := keepN n5 HR.out; have z0 := cell1 (o := 0) hr5 rfl; have z1 := cell1 (o := 1) hr5 rfl; have zf := free1 hr5; have HR5 := Lib.hid hr5; have HD5 := Lib.hid d5; have HN5 := Lib.hid n5; clear hr5 d5 n5)
      have hw5 := setCell_heap (setCell_heap HR5.out 0 (.slice r1 r2 r3)) 1 (.int .i64 r4)
      simp only [List.setIfInBounds_toArray, List.set_cons_zero, List.set_cons_succ] at hw5
      have y0 := cell1 (o := 0) hw5 rfl
      have y1 := cell1 (o := 1) hw5 rfl
      exact bodyPost_ret (v := .tuple #[.agg #[.slice r1 r2 r3, .int .i64 r4], .int .i64 (0)]) (by simp [results, Try.results84, go_sem, y0, y1]) rfl ⟨_, rfl, isF_store HD5.out HR5.out, ((HNW.out.trans HN5.out).set (by show w.heap.size ≤ w.heap.size + 1; omega) _).set (by show w.heap.size ≤ w.heap.size + 1; omega) _⟩
    · have x0 : wc.cell? ⟨w.heap.size, 0, none⟩ = some (.int .u8 9) := cell1 (o := 0) HCX.out rfl
      have x5 : wc.cell? ⟨w.heap.size, 5, none⟩ = some (.int .i64 xi) := cell1 (o := 5) HCX.out rfl
      have x7 : wc.cell? ⟨w.heap.size, 7, none⟩ = some (.bool xon) := cell1 (o := 7) HCX.out rfl
      go_wp2_with (go_at_call 41; refine (with_f (HIA.out.near HNW.out) xi xon).mono ?_; rintro e w5 ⟨v5, rfl, d5, n5⟩; obtain ⟨r1, r2, r3, r4, rfl⟩ := d5.form; have hr5 := keepN n5 HR.out; have z0 := cell1 (o := 0) hr5 rfl; have z1 := cell1 (o := 1) hr5 rfl; have zf := free1 hr5; have HR5 := Lib.hid hr5; have HD5 := Lib.hid d5; have HN5 := Lib.hid n5; clear hr5 d5 n5)
      have hw5 := setCell_heap (setCell_heap HR5.out 0 (.slice r1 r2 r3)) 1 (.int .i64 r4)
      simp only [List.setIfInBounds_toArray, List.set_cons_zero, List.set_cons_succ] at hw5
      have y0 := cell1 (o := 0) hw5 rfl
      have y1 := cell1 (o := 1) hw5 rfl
      exact bodyPost_ret (v := .tuple #[.agg #[.slice r1 r2 r3, .int .i64 r4], .int .i64 (0)]) (by simp [results, Try.results84, go_sem, y0, y1]) rfl ⟨_, rfl, isF_store HD5.out HR5.out, ((HNW.out.trans HN5.out).set (by show w.heap.size ≤ w.heap.size + 1; omega) _).set (by show w.heap.size ≤ w.heap.size + 1; omega) _⟩
    · have x0 : wc.cell? ⟨w.heap.size, 0, none⟩ = some (.int .u8 10) := cell1 (o := 0) HCX.out rfl
      have x8 : wc.cell? ⟨w.heap.size, 8, none⟩ = some (.int .u32 xf) := cell1 (o := 8) HCX.out rfl
      go_wp2_with (go_at_call 45; refine (exists_f (HIA.out.near HNW.out) hf).mono ?_; rintro e w5 ⟨v5, rfl, d5, n5⟩; obtain ⟨r1, r2, r3, r4, rfl⟩ := d5.form; have hr5 := keepN n5 HR.out; have z0 := cell1 (o := 0) hr5 rfl; have z1 := cell1 (o := 1) hr5 rfl; have zf := free1 hr5; have HR5 := Lib.hid hr5; have HD5 := Lib.hid d5; have HN5 := Lib.hid n5; clear hr5 d5 n5)
      have hw5 := setCell_heap (setCell_heap HR5.out 0 (.slice r1 r2 r3)) 1 (.int .i64 r4)
      simp only [List.setIfInBounds_toArray, List.set_cons_zero, List.set_cons_succ] at hw5
      have y0 := cell1 (o := 0) hw5 rfl
      have y1 := cell1 (o := 1) hw5 rfl
      exact bodyPost_ret (v := .tuple #[.agg #[.slice r1 r2 r3, .int .i64 r4], .int .i64 (0)]) (by simp [results, Try.results84, go_sem, y0, y1]) rfl ⟨_, rfl, isF_store HD5.out HR5.out, ((HNW.out.trans HN5.out).set (by show w.heap.size ≤ w.heap.size + 1; omega) _).set (by show w.heap.size ≤ w.heap.size + 1; omega) _⟩
    · have x0 : wc.cell? ⟨w.heap.size, 0, none⟩ = some (.int .u8 11) := cell1 (o := 0) HCX.out rfl
      have x8 : wc.cell? ⟨w.heap.size, 8, none⟩ = some (.int .u32 xf) := cell1 (o := 8) HCX.out rfl
      go_wp2_with (go_at_call 46; refine (forall_f (HIA.out.near HNW.out) hf).mono ?_; rintro e w5 ⟨v5, rfl, d5, n5⟩; obtain ⟨r1, r2, r3, r4, rfl⟩ := d5.form; have hr5 := keepN n5 HR.out; have z0 := cell1 (o := 0) hr5 rfl; have z1 := cell1 (o := 1) hr5 rfl; have zf := free1 hr5; have HR5 := Lib.hid hr5; have HD5 := Lib.hid d5; have HN5 := Lib.hid n5; clear hr5 d5 n5)
      have hw5 := setCell_heap (setCell_heap HR5.out 0 (.slice r1 r2 r3)) 1 (.int .i64 r4)
      simp only [List.setIfInBounds_toArray, List.set_cons_zero, List.set_cons_succ] at hw5
      have y0 := cell1 (o := 0) hw5 rfl
      have y1 := cell1 (o := 1) hw5 rfl
      exact bodyPost_ret (v := .tuple #[.agg #[.slice r1 r2 r3, .int .i64 r4], .int .i64 (0)]) (by simp [results, Try.results84, go_sem, y0, y1]) rfl ⟨_, rfl, isF_store HD5.out HR5.out, ((HNW.out.trans HN5.out).set (by show w.heap.size ≤ w.heap.size + 1; omega) _).set (by show w.heap.size ≤ w.heap.size + 1; omega) _⟩
    · have x0 : wc.cell? ⟨w.heap.size, 0, none⟩ = some (.int .u8 12) := cell1 (o := 0) HCX.out rfl
      have x8 : wc.cell? ⟨w.heap.size, 8, none⟩ = some (.int .u32 xf) := cell1 (o := 8) HCX.out rfl
      have x5 : wc.cell? ⟨w.heap.size, 5, none⟩ = some (.int .i64 xi) := cell1 (o := 5) HCX.out rfl
      have x6 : wc.cell? ⟨w.heap.size, 6, none⟩ = some (.int .i64 xj) := cell1 (o := 6) HCX.out rfl
      go_wp2_with (go_at_call 72; refine (between_f hf xi xj _).mono ?_; rintro e w5 ⟨v5, rfl, d5, n5⟩; obtain ⟨r1, r2, r3, r4, rfl⟩ := d5.form; have hr5 := keepN n5 HR.out; have z0 := cell1 (o := 0) hr5 rfl; have z1 := cell1 (o := 1) hr5 rfl; have zf := free1 hr5; have HR5 := Lib.hid hr5; have HD5 := Lib.hid d5; have HN5 := Lib.hid n5; clear hr5 d5 n5)
      have hw5 := setCell_heap (setCell_heap HR5.out 0 (.slice r1 r2 r3)) 1 (.int .i64 r4)
      simp only [List.setIfInBounds_toArray, List.set_cons_zero, List.set_cons_succ] at hw5
      have y0 := cell1 (o := 0) hw5 rfl
      have y1 := cell1 (o := 1) hw5 rfl
      exact bodyPost_ret (v := .tuple #[.agg #[.slice r1 r2 r3, .int .i64 r4], .int .i64 (0)]) (by simp [results, Try.results84, go_sem, y0, y1]) rfl ⟨_, rfl, isF_store HD5.out HR5.out, ((HNW.out.trans HN5.out).set (by show w.heap.size ≤ w.heap.size + 1; omega) _).set (by show w.heap.size ≤ w.heap.size + 1; omega) _⟩
    · have x0 : wc.cell? ⟨w.heap.size, 0, none⟩ = some (.int .u8 13) := cell1 (o := 0) HCX.out rfl
      have x1 : wc.cell? ⟨w.heap.size, 1, none⟩ = some (.int .u8 xrel) := cell1 (o := 1) HCX.out rfl
      have x10 : wc.cell? ⟨w.heap.size, 10, none⟩ = some (xlv) := cell1 (o := 10) HCX.out rfl
      have x11 : wc.cell? ⟨w.heap.size, 11, none⟩ = some (.int .i64 xbound) := cell1 (o := 11) HCX.out rfl
      obtain ⟨i0, hi0, hz0, hz1, hz2⟩ := info_parts info2
      have HY := Lib.hid (show SrcOf wc.drew 1 xls.length xlv (xls.map fun x => .int .i64 x) from (HX.out.list.near HNW.out.drew).yields HX.out.nil)
      have HK := Lib.hid (show ∀ w', Kept (fun k => k = w.heap.size + 1) wc w' → (fun w' => w'.cell? ⟨w.heap.size, 10, none⟩ = some xlv ∧ w'.cell? ⟨w.heap.size, 1, none⟩ = some (.int .u8 xrel) ∧ w'.cell? ⟨w.heap.size, 11, none⟩ = some (.int .i64 xbound)) w' from fun w' h => ⟨h.cell x10 (by omega), h.cell x1 (by omega), h.cell x11 (by omega)⟩)
      obtain ⟨N, hNN⟩ : ∃ N : Int, N = if LinOk xls xrel then 0 else 2 := ⟨_, rfl⟩
      have HNN := Lib.hid hNN
      have EN := Lib.hid (show opN ⟨13, xrel, xa, xb, xc, xi, xj, xon, xf, xg, xlv, xls, xbound⟩ = N from hNN.symm)
      clear hNN
      have HL40 := Lib.hid hl40
      clear hl40
      go_upto_region 28 with fail
      go_region_held3 (fun w' => w'.cell? ⟨w.heap.size, 10, none⟩ = some xlv ∧ w'.cell? ⟨w.heap.size, 1, none⟩ = some (.int .u8 xrel) ∧ w'.cell? ⟨w.heap.size, 11, none⟩ = some (.int .i64 xbound)) (first | exact ⟨x10, x1, x11⟩ | exact HK.out _ HN3.out.kept | exact HK.out _ (HN3.out.trans HN5.out).kept | exact HK.out _ (Kept.setCell (S := fun k => k = w.heap.size + 1) (Kept.setCell (S := fun k => k = w.heap.size + 1) (HN3.out.trans HN5.out).kept (p := ⟨w.heap.size + 1, 0, none⟩) (fun _ => rfl) _) (p := ⟨w.heap.size + 1, 1, none⟩) (fun _ => rfl) _))
        (first
          | (refine step_append_more rfl (.const (.slice none 0 0)) (.tmp 112) 83 rfl 0 2 i0 (.int .i64 0) 1 8 Try.underlying83 hi0 hz0 hz1 hz2 rfl (by decide) (.slice none 0 0) 0 [] rfl (World.ownsRow_nil _ _ _ _) _ xls.length (xls.map fun x => .int .i64 x) rfl HY.out (by simp [Value.oneCell']) (by have := HL40.out; unfold maxLen; omega) (by have := HL40.out; omega) (Nat.zero_le _) ?_; intro ao3 cap3 w3 hown3 hg3; simp only [Nat.zero_add, List.nil_append] at hown3 ⊢; have HO3 := Lib.hid (RdInts.owns hown3); have HN3 := Lib.hid (show Near wc w3 from Kept.grown (Near.refl wc).drew hg3 (fun k hk => by cases hk)); clear hown3 hg3)
          | (go_at_call 128; refine ((linear_f HO3.out).mono (fun e w' (h : LinPost w3 xls xrel xbound e w') => (show ∃ v, e = .returned (.tuple #[v, .int .i64 N]) ∧ IsF w' v (if LinOk xls xrel then linF xls xrel xbound else fun _ => false) ∧ Near w3 w' from by rw [HNN.out]; exact h))).mono ?_; rintro e w5 ⟨v5, rfl, d5, n5⟩; obtain ⟨r1, r2, r3, r4, rfl⟩ := d5.form; have hr5 := keepN (HN3.out.trans n5) HR.out; have z0 := cell1 (o := 0) hr5 rfl; have z1 := cell1 (o := 1) hr5 rfl; have zf := free1 hr5; have HR5 := Lib.hid hr5; have HD5 := Lib.hid d5; have HN5 := Lib.hid n5; clear hr5 d5 n5))
      go_wp2_with fail
      have HN5' := Lib.hid (HN3.out.trans HN5.out)
      have hw5 := setCell_heap (setCell_heap HR5.out 0 (.slice r1 r2 r3)) 1 (.int .i64 r4)
      simp only [List.setIfInBounds_toArray, List.set_cons_zero, List.set_cons_succ] at hw5
      have y0 := cell1 (o := 0) hw5 rfl
      have y1 := cell1 (o := 1) hw5 rfl
      exact bodyPost_ret (v := .tuple #[.agg #[.slice r1 r2 r3, .int .i64 r4], .int .i64 (N)]) (by simp [results, Try.results84, go_sem, y0, y1]) rfl ⟨_, by rw [EN.out], isF_store HD5.out HR5.out, ((HNW.out.trans HN5'.out).set (by show w.heap.size ≤ w.heap.size + 1; omega) _).set (by show w.heap.size ≤ w.heap.size + 1; omega) _⟩
    · have x0 : wc.cell? ⟨w.heap.size, 0, none⟩ = some (.int .u8 14) := cell1 (o := 0) HCX.out rfl
      have HSN := Lib.hid (show Sets 31 IsF base wc _ fs from (HS.out.map HNW.out (fun _ _ h => h.near HNW.out)))
      have HLE := Lib.hid (show fs.length < 1099511627776 by have := HNL.out; omega)
      go_wp2_with (go_at_call 50; refine (andall_f HSN.out HLE.out).mono ?_; rintro e w5 ⟨v5, rfl, d5, n5⟩; obtain ⟨r1, r2, r3, r4, rfl⟩ := d5.form; have hr5 := keepN n5 HR.out; have z0 := cell1 (o := 0) hr5 rfl; have z1 := cell1 (o := 1) hr5 rfl; have zf := free1 hr5; have HR5 := Lib.hid hr5; have HD5 := Lib.hid d5; have HN5 := Lib.hid n5; clear hr5 d5 n5)
      have hw5 := setCell_heap (setCell_heap HR5.out 0 (.slice r1 r2 r3)) 1 (.int .i64 r4)
      simp only [List.setIfInBounds_toArray, List.set_cons_zero, List.set_cons_succ] at hw5
      have y0 := cell1 (o := 0) hw5 rfl
      have y1 := cell1 (o := 1) hw5 rfl
      exact bodyPost_ret (v := .tuple #[.agg #[.slice r1 r2 r3, .int .i64 r4], .int .i64 (0)]) (by simp [results, Try.results84, go_sem, y0, y1]) rfl ⟨_, rfl, isF_store HD5.out HR5.out, ((HNW.out.trans HN5.out).set (by show w.heap.size ≤ w.heap.size + 1; omega) _).set (by show w.heap.size ≤ w.heap.size + 1; omega) _⟩
    · have x0 : wc.cell? ⟨w.heap.size, 0, none⟩ = some (.int .u8 15) := cell1 (o := 0) HCX.out rfl
      have HSN := Lib.hid (show Sets 31 IsF base wc _ fs from (HS.out.map HNW.out (fun _ _ h => h.near HNW.out)))
      have HLE := Lib.hid (show fs.length < 1099511627776 by have := HNL.out; omega)
      go_wp2_with (go_at_call 51; refine (orall_f HSN.out HLE.out).mono ?_; rintro e w5 ⟨v5, rfl, d5, n5⟩; obtain ⟨r1, r2, r3, r4, rfl⟩ := d5.form; have hr5 := keepN n5 HR.out; have z0 := cell1 (o := 0) hr5 rfl; have z1 := cell1 (o := 1) hr5 rfl; have zf := free1 hr5; have HR5 := Lib.hid hr5; have HD5 := Lib.hid d5; have HN5 := Lib.hid n5; clear hr5 d5 n5)
      have hw5 := setCell_heap (setCell_heap HR5.out 0 (.slice r1 r2 r3)) 1 (.int .i64 r4)
      simp only [List.setIfInBounds_toArray, List.set_cons_zero, List.set_cons_succ] at hw5
      have y0 := cell1 (o := 0) hw5 rfl
      have y1 := cell1 (o := 1) hw5 rfl
      exact bodyPost_ret (v := .tuple #[.agg #[.slice r1 r2 r3, .int .i64 r4], .int .i64 (0)]) (by simp [results, Try.results84, go_sem, y0, y1]) rfl ⟨_, rfl, isF_store HD5.out HR5.out, ((HNW.out.trans HN5.out).set (by show w.heap.size ≤ w.heap.size + 1; omega) _).set (by show w.heap.size ≤ w.heap.size + 1; omega) _⟩
    · have x0 : wc.cell? ⟨w.heap.size, 0, none⟩ = some (.int .u8 xop) := cell1 (o := 0) HCX.out rfl
      have e1 : ((xop : Int) == 1) = false := beq_eq_false_iff_ne.2 (by omega)
      have e2 : ((xop : Int) == 2) = false := beq_eq_false_iff_ne.2 (by omega)
      have e3 : ((xop : Int) == 3) = false := beq_eq_false_iff_ne.2 (by omega)
      have e4 : ((xop : Int) == 4) = false := beq_eq_false_iff_ne.2 (by omega)
      have e5 : ((xop : Int) == 5) = false := beq_eq_false_iff_ne.2 (by omega)
      have e6 : ((xop : Int) == 6) = false := beq_eq_false_iff_ne.2 (by omega)
      have e7 : ((xop : Int) == 7) = false := beq_eq_false_iff_ne.2 (by omega)
      have e8 : ((xop : Int) == 8) = false := beq_eq_false_iff_ne.2 (by omega)
      have e9 : ((xop : Int) == 9) = false := beq_eq_false_iff_ne.2 (by omega)
      have e10 : ((xop : Int) == 10) = false := beq_eq_false_iff_ne.2 (by omega)
      have e11 : ((xop : Int) == 11) = false := beq_eq_false_iff_ne.2 (by omega)
      have e12 : ((xop : Int) == 12) = false := beq_eq_false_iff_ne.2 (by omega)
      have e13 : ((xop : Int) == 13) = false := beq_eq_false_iff_ne.2 (by omega)
      have e14 : ((xop : Int) == 14) = false := beq_eq_false_iff_ne.2 (by omega)
      have e15 : ((xop : Int) == 15) = false := beq_eq_false_iff_ne.2 (by omega)
      have HBig := Lib.hid hbig
      clear hbig
      go_wp2_with (go_at_call 75; refine (false_f _).mono ?_; rintro e w5 ⟨v5, rfl, d5, n5⟩; obtain ⟨r1, r2, r3, r4, rfl⟩ := d5.form; have hr5 := keepN n5 HR.out; have z0 := cell1 (o := 0) hr5 rfl; have z1 := cell1 (o := 1) hr5 rfl; have zf := free1 hr5; have HR5 := Lib.hid hr5; have HD5 := Lib.hid d5; have HN5 := Lib.hid n5; clear hr5 d5 n5)
      have hw5 := setCell_heap (setCell_heap HR5.out 0 (.slice r1 r2 r3)) 1 (.int .i64 r4)
      simp only [List.setIfInBounds_toArray, List.set_cons_zero, List.set_cons_succ] at hw5
      have y0 := cell1 (o := 0) hw5 rfl
      have y1 := cell1 (o := 1) hw5 rfl
      exact bodyPost_ret (v := .tuple #[.agg #[.slice r1 r2 r3, .int .i64 r4], .int .i64 (0)]) (by simp [results, Try.results84, go_sem, y0, y1]) rfl ⟨_, by rw [opN_else HBig.out], by rw [opF_else _ HBig.out]; exact isF_store HD5.out HR5.out, ((HNW.out.trans HN5.out).set (by show w.heap.size ≤ w.heap.size + 1; omega) _).set (by show w.heap.size ≤ w.heap.size + 1; omega) _⟩

end Go.Proofs.Ytefclohjeompkaa

/- The contract of Make. -/
namespace Go.Proofs.Ytefclohjeompkaa
open Go Go.RowKit Go.Proofs.Gen Go.Proofs.Bdd Go.Proofs.Bdd.T

theorem info31 : (Try.prog.info? 31).map (fun i => (i.zero, i.size, i.bytes)) = some (some (.agg #[.slice none 0 0, .int .i64 0]), 2, 32) := by kernel_rfl

/-- A script as it is read. -/
def RdOps (w : World) (v : Value) (l : List SOp) : Prop :=
  ∃ ao cap, v = .slice ao l.length cap ∧ ∀ k x, l[k]? = some x → SOpOk w x ∧ ∃ b off, ao = some ⟨b, off, none⟩ ∧ ∀ j u, x.cells[j]? = some u → w.cell? ⟨b, off + k * 12 + j, none⟩ = some u

theorem RdOps.near {w w' : World} {v : Value} {l : List SOp} (h : RdOps w v l) (hn : Near w w') : RdOps w' v l := by
  obtain ⟨ao, cap, rfl, hc⟩ := h
  refine ⟨ao, cap, rfl, fun k x hk => ?_⟩
  obtain ⟨ok, b, off, e, h0⟩ := hc k x hk
  exact ⟨ok.near hn, b, off, e, fun j u hj => hn.cell (h0 j u hj)⟩

/-- The sets that a script makes: the empty one first. -/
def makeF (l : List SOp) : List F := l.foldl (fun fs x => fs ++ [opF x fs]) [fun _ => false]

theorem makeF_snoc (l : List SOp) (x : SOp) : makeF (l ++ [x]) = makeF l ++ [opF x (makeF l)] := by simp [makeF]
theorem foldF_len (l : List SOp) : ∀ fs : List F, (l.foldl (fun fs x => fs ++ [opF x fs]) fs).length = fs.length + l.length := by
  induction l with
  | nil => intro fs; rfl
  | cons x l ih =>
    intro fs
    rw [List.foldl_cons, ih, List.length_append, List.length_cons, List.length_cons, List.length_nil]
    omega
theorem makeF_len (l : List SOp) : (makeF l).length = l.length + 1 := by
  unfold makeF
  rw [foldF_len, List.length_cons, List.length_nil]
  omega
theorem makeF_take {l : List SOp} {k : Nat} {x : SOp} (h : l[k]? = some x) : makeF (l.take (k + 1)) = makeF (l.take k) ++ [opF x (makeF (l.take k))] := by
  rw [List.take_add_one, h]
  exact makeF_snoc _ _

set_option maxRecDepth 100000 in
set_option maxHeartbeats 3200000 in
theorem make_calls {w : World} {v : Value} {l : List SOp} (h : RdOps w v l) (hl : l.length ≤ 1000) (h40 : ∀ x ∈ l, x.ls.length ≤ 40) :
    Calls Try.prog 25 #[v] w fun e w' => ∃ sv, e = .returned sv ∧ Sets 31 IsF w.heap.size w' sv (makeF l) ∧ Near w w' := by
  obtain ⟨i0, hi0, hz0, hz1, hz2⟩ := info_parts info31
  have HL := Lib.hid h
  have H40 := Lib.hid h40
  obtain ⟨ao, cap, rfl, -⟩ := h
  clear h40
  go_enter Try.func25, Try.ntmps25
  go_wp2_with fail
  have hs0 : Sets 31 IsF w.heap.size (w.alloc (.cells #[.slice none 0 0, .int .i64 0] 31)) (.slice (some ⟨w.heap.size, 0, none⟩) 1 1) (makeF (l.take 0)) := by
    refine ⟨[(.slice none 0 0, .int .i64 0)], ⟨rfl, .inr ⟨w.heap.size, 1, #[.slice none 0 0, .int .i64 0], rfl, Nat.le_refl _, heap_new_at rfl, Nat.le_refl _, by unfold maxLen; omega, rfl, rfl⟩⟩, rfl, fun j f p h1 h2 => ?_⟩
    match j, h1, h2 with
    | 0, h1, h2 =>
      simp [makeF] at h1 h2
      subst h1
      subst h2
      exact ⟨.leaf false, ⟨trivial, .slice none 0 0, rfl, World.ownsRow_nil _ _ _ _⟩, fun _ => rfl⟩
    | j + 1, h1, h2 => simp at h2
  have hn0 : Near w (w.alloc (.cells #[.slice none 0 0, .int .i64 0] 31)) := (Near.refl w).alloc _
  generalize w.alloc (.cells #[.slice none 0 0, .int .i64 0] 31) = W0 at hs0 hn0 ⊢
  have HS0 := Lib.hid hs0
  have HN0 := Lib.hid hn0
  clear hs0 hn0
  go_loopw [3, 4] (fun s i wr => ∃ k : Nat, k ≤ l.length ∧ i = .int .i64 k ∧ Sets 31 IsF w.heap.size wr s (makeF (l.take k)) ∧ Near w wr) (fun _ i _ => l.length - (intOf i).toNat)
  case atStart => exact ⟨0, Nat.zero_le _, rfl, HS0.out, HN0.out⟩
  case round =>
    obtain ⟨k, hk, rfl, hs, hn⟩ := hrel
    by_cases hlt : k < l.length
    · have hlt' : (k : Int) < l.length := by omega
      obtain ⟨ao', cap', e, hc⟩ := HL.out
      cases e
      obtain ⟨okx, b, off, rfl, hcells⟩ := hc k _ (List.getElem?_eq_getElem hlt)
      have hx := List.getElem?_eq_getElem hlt
      have h40 := H40.out _ (List.getElem_mem hlt)
      generalize l[k] = x at hx h40 okx hcells
      have hmk := makeF_take hx
      have hml : (makeF (l.take k)).length = k + 1 := by rw [makeF_len, List.length_take]; omega
      obtain ⟨xop, xrel, xa, xb, xc, xi, xj, xon, xf, xg, xlv, xls, xbound⟩ := x
      have c0 : wr.cell? ⟨b, off + k * 12, none⟩ = some (.int .u8 xop) := hn.cell (hcells 0 _ rfl)
      have c1 := hn.cell (hcells 1 _ rfl)
      have c2 := hn.cell (hcells 2 _ rfl)
      have c3 := hn.cell (hcells 3 _ rfl)
      have c4 := hn.cell (hcells 4 _ rfl)
      have c5 := hn.cell (hcells 5 _ rfl)
      have c6 := hn.cell (hcells 6 _ rfl)
      have c7 := hn.cell (hcells 7 _ rfl)
      have c8 := hn.cell (hcells 8 _ rfl)
      have c9 := hn.cell (hcells 9 _ rfl)
      have c10 := hn.cell (hcells 10 _ rfl)
      have c11 := hn.cell (hcells 11 _ rfl)
      have HOK := Lib.hid (okx.near hn)
      have HS := Lib.hid hs
      have HN := Lib.hid hn
      have HMK := Lib.hid hmk
      have HML := Lib.hid hml
      have H40x := Lib.hid h40
      obtain ⟨so, sc, rfl⟩ := hs.form
      obtain ⟨vs, hrow, hvl, his⟩ := hs
      rw [hml] at HS ⊢
      rw [hml] at hrow hvl
      have HROW := Lib.hid hrow
      have HVL := Lib.hid hvl
      have HIS := Lib.hid his
      clear hn hmk hml h40 okx hcells hc hx hrow hvl his
      go_wp2_with (first
        | (go_at_call 84; refine (one_calls (x := ⟨xop, xrel, xa, xb, xc, xi, xj, xon, xf, xg, xlv, xls, xbound⟩) HOK.out H40x.out HS.out (by rw [HML.out]; omega) (by rw [HML.out]; omega)).mono ?_; rintro e w3 ⟨v3, rfl, d3, n3⟩; obtain ⟨r1, r2, r3, r4, rfl⟩ := d3.form; have HD3 := Lib.hid d3; have HN3 := Lib.hid n3; clear d3 n3)
        | (at_builtin; refine wpList_append_more rfl (.tmp 24) (.tmp 26) 45 rfl w.heap.size 31 i0 (.agg #[.slice none 0 0, .int .i64 0]) 2 32 Try.underlying45 hi0 hz0 hz1 hz2 rfl (by decide) (.slice so (k + 1) sc) (k + 1) (flat2 vs) rfl (owns_kept HROW.out ((HN3.out.alloc _).alloc _) (fun _ _ h => h)) _ 1 [.slice r1 r2 r3, .int .i64 r4] rfl ⟨rfl, .inr ⟨_, 1, rfl, cell_two_at (by simp) _ _ _⟩⟩ (by simp [Value.oneCell']) (by unfold maxLen; omega) (by omega) (by have := (HN.out.trans HN3.out).size'; simp; omega) ?_; intro bo bcp w4 hown4 hg4; have HO4 := Lib.hid hown4; have HG4 := Lib.hid hg4; clear hown4 hg4))
      have O4 : OnlyOf 31 (w3.alloc (.cells #[.slice r1 r2 r3, .int .i64 r4] 31)) w4 := only_grown (owns_kept HROW.out (HN3.out.alloc _) (fun _ _ h => h)) HG4.out
      have hpush := Sets.push (w := w3.alloc (.cells #[.slice r1 r2 r3, .int .i64 r4] 31)) (HVL.out.trans HML.out.symm) (fun j f p hj hp => (HIS.out j f p hj hp).near (HN3.out.alloc _)) (HD3.out.near ((Near.refl w3).alloc _)) (fun v f h => h.only O4 (by decide)) (by rw [HML.out]; exact HO4.out)
      rw [← HMK.out] at hpush
      have hn4 : Near w w4 := Kept.grown (((HN.out.trans HN3.out).alloc _).alloc _) HG4.out (fun kk hk hlt => absurd (HROW.out.lt kk hk).1 (by omega))
      exact ⟨⟨k + 1, by omega, by go_num, hpush, hn4⟩, by simp [intOf]; omega⟩
    · have hke : k = l.length := by omega
      have hlt' : ¬ (k : Int) < l.length := by omega
      have HS := Lib.hid hs
      have HN := Lib.hid hn
      obtain ⟨so, sc, rfl⟩ := hs.form
      clear hs hn
      go_wp2_with fail
      go_ret
      refine ⟨_, rfl, ?_, HN.out⟩
      have e : l.take k = l := by rw [hke]; exact List.take_length
      have hs := HS.out
      rw [e] at hs
      rw [makeF_len] at hs ⊢
      exact hs

end Go.Proofs.Ytefclohjeompkaa

/- The contract of three. -/
namespace Go.Proofs.Ytefclohjeompkaa
open Go Go.RowKit Go.Proofs.Gen Go.Proofs.Bdd Go.Proofs.Bdd.T

/-- An operation whose list of costs is not too long. -/
def ShortOp (x : SOp) : Prop := x.ls.length ≤ 40 ∧ (x.op = 13 → x.ls.length ≤ 8)
def ThreeOk (l : List SOp) : Prop := l.length ≤ 10 ∧ ∀ x ∈ l, ShortOp x

instance (x : SOp) : Decidable (ShortOp x) := by unfold ShortOp; infer_instance
instance (l : List SOp) : Decidable (ThreeOk l) := by unfold ThreeOk; infer_instance

def tF (l : List SOp) (d : Nat) : F := if ThreeOk l then (makeF l).getD (l.length / d) fun _ => false else fun _ => false

def ThreePost (w : World) (l : List SOp) (e : Ending) (w' : World) : Prop :=
  ∃ va vb vc, e = .returned (.tuple #[va, vb, vc, .bool (decide (ThreeOk l))]) ∧ IsF w' va (tF l 1) ∧ IsF w' vb (tF l 2) ∧ IsF w' vc (tF l 3) ∧ Near w w'

theorem isF_none (w : World) : IsF w (.agg #[.slice none 0 0, .int .i64 0]) (fun _ => false) := ⟨.leaf false, ⟨trivial, .slice none 0 0, rfl, World.ownsRow_nil _ _ _ _⟩, fun _ => rfl⟩

/-- Three boxes that hold the empty set. -/
def Zeros3 (w W : World) : Prop :=
  W.heap[w.heap.size]? = some (.cells #[.slice none 0 0, .int .i64 0] 31 (0, 0)) ∧ W.heap[w.heap.size + 1]? = some (.cells #[.slice none 0 0, .int .i64 0] 31 (0, 0)) ∧ W.heap[w.heap.size + 1 + 1]? = some (.cells #[.slice none 0 0, .int .i64 0] 31 (0, 0)) ∧ Near w W

theorem zero_at {W : World} {k b : Nat} {u : Value} {o : Nat} (hb : W.heap[b]? = some (.cells #[.slice none 0 0, .int .i64 0] 31 (0, 0))) (hu : #[Value.slice none 0 0, .int .i64 0].setIfInBounds o u = #[.slice none 0 0, .int .i64 0]) (hk : W.heap[k]? = some (.cells #[.slice none 0 0, .int .i64 0] 31 (0, 0))) :
    (W.setCell ⟨b, o, none⟩ u).heap[k]? = some (.cells #[.slice none 0 0, .int .i64 0] 31 (0, 0)) := by
  by_cases e : k = b
  · subst e
    rw [setCell_heap hk, hu]
  · rw [Below.heap_setCell _ _ _ _ (fun h => e h)]
    exact hk

theorem Zeros3.set {w W : World} (h : Zeros3 w W) {b o : Nat} {u : Value} (hb : b = w.heap.size ∨ b = w.heap.size + 1 ∨ b = w.heap.size + 1 + 1) (hu : #[Value.slice none 0 0, .int .i64 0].setIfInBounds o u = #[.slice none 0 0, .int .i64 0]) : Zeros3 w (W.setCell ⟨b, o, none⟩ u) := by
  have hz : W.heap[b]? = some (.cells #[.slice none 0 0, .int .i64 0] 31 (0, 0)) := by
    rcases hb with rfl | rfl | rfl
    · exact h.1
    · exact h.2.1
    · exact h.2.2.1
  exact ⟨zero_at hz hu h.1, zero_at hz hu h.2.1, zero_at hz hu h.2.2.1, h.2.2.2.set (by show w.heap.size ≤ b; omega) _⟩

theorem Zeros3.three {w W : World} (h : Zeros3 w W) :
    Zeros3 w ((((((W.setCell ⟨w.heap.size, 0, none⟩ (.slice none 0 0)).setCell ⟨w.heap.size, 1, none⟩ (.int .i64 0)).setCell ⟨w.heap.size + 1, 0, none⟩ (.slice none 0 0)).setCell ⟨w.heap.size + 1, 1, none⟩ (.int .i64 0)).setCell ⟨w.heap.size + 1 + 1, 0, none⟩ (.slice none 0 0)).setCell ⟨w.heap.size + 1 + 1, 1, none⟩ (.int .i64 0)) :=
  (((((h.set (.inl rfl) rfl).set (.inl rfl) rfl).set (.inr (.inl rfl)) rfl).set (.inr (.inl rfl)) rfl).set (.inr (.inr rfl)) rfl).set (.inr (.inr rfl)) rfl
theorem Zeros3.two {w W : World} (h : Zeros3 w W) :
    Zeros3 w ((((W.setCell ⟨w.heap.size, 0, none⟩ (.slice none 0 0)).setCell ⟨w.heap.size, 1, none⟩ (.int .i64 0)).setCell ⟨w.heap.size + 1, 0, none⟩ (.slice none 0 0)).setCell ⟨w.heap.size + 1, 1, none⟩ (.int .i64 0)) :=
  (((h.set (.inl rfl) rfl).set (.inl rfl) rfl).set (.inr (.inl rfl)) rfl).set (.inr (.inl rfl)) rfl
theorem Zeros3.one {w W : World} (h : Zeros3 w W) : Zeros3 w ((W.setCell ⟨w.heap.size, 0, none⟩ (.slice none 0 0)).setCell ⟨w.heap.size, 1, none⟩ (.int .i64 0)) :=
  (h.set (.inl rfl) rfl).set (.inl rfl) rfl
theorem Zeros3.drew {w W : World} (h : Zeros3 w W) : Zeros3 w W.drew := ⟨h.1, h.2.1, h.2.2.1, h.2.2.2.drew⟩
theorem Zeros3.near {w W W' : World} (h : Zeros3 w W) (hn : Near W W') : Zeros3 w W' := ⟨keepN hn h.1, keepN hn h.2.1, keepN hn h.2.2.1, h.2.2.2.trans hn⟩
theorem Zeros3.begin (w : World) : Zeros3 w (((w.alloc (.cells #[.slice none 0 0, .int .i64 0] 31)).alloc (.cells #[.slice none 0 0, .int .i64 0] 31)).alloc (.cells #[.slice none 0 0, .int .i64 0] 31)) := by
  refine ⟨?_, ?_, heap_new_at (by simp), (((Near.refl w).alloc _).alloc _).alloc _⟩
  · exact (heap_old_at (by simp <;> omega)).trans ((heap_old_at (by simp)).trans (heap_new_at rfl))
  · exact (heap_old_at (by simp)).trans (heap_new_at (by simp))

theorem Zeros3.cells {w W : World} (h : Zeros3 w W) : W.cell? ⟨w.heap.size, 0, none⟩ = some (.slice none 0 0) ∧ W.cell? ⟨w.heap.size, 1, none⟩ = some (.int .i64 0) ∧ W.cell? ⟨w.heap.size + 1, 0, none⟩ = some (.slice none 0 0) ∧ W.cell? ⟨w.heap.size + 1, 1, none⟩ = some (.int .i64 0) ∧ W.cell? ⟨w.heap.size + 1 + 1, 0, none⟩ = some (.slice none 0 0) ∧ W.cell? ⟨w.heap.size + 1 + 1, 1, none⟩ = some (.int .i64 0) :=
  ⟨cell1 (o := 0) h.1 rfl, cell1 (o := 1) h.1 rfl, cell1 (o := 0) h.2.1 rfl, cell1 (o := 1) h.2.1 rfl, cell1 (o := 0) h.2.2.1 rfl, cell1 (o := 1) h.2.2.1 rfl⟩

set_option maxRecDepth 100000 in
set_option maxHeartbeats 3200000 in
theorem three_long {w : World} {v : Value} {l : List SOp} (h : RdOps w v l) (hl : 10 < l.length) : Calls Try.prog 31 #[v] w (ThreePost w l) := by
  have hl' : (10 : Int) < l.length := by omega
  obtain ⟨ao, cap, rfl, -⟩ := h
  have hno : ¬ ThreeOk l := fun h => by have := h.1; omega
  have HNo := Lib.hid hno
  clear hno
  go_enter Try.func31, Try.ntmps31
  go_wp2_with fail
  have hz := Zeros3.begin w
  generalize (((w.alloc _).alloc _).alloc _) = W at hz ⊢
  have HZ := Lib.hid hz
  have a0 := cell1 (o := 0) hz.1 rfl
  have a1 := cell1 (o := 1) hz.1 rfl
  have b0 := cell1 (o := 0) hz.2.1 rfl
  have b1 := cell1 (o := 1) hz.2.1 rfl
  have c0 := cell1 (o := 0) hz.2.2.1 rfl
  have c1 := cell1 (o := 1) hz.2.2.1 rfl
  have fa := free1 hz.1
  have fb := free1 hz.2.1
  have fc := free1 hz.2.2.1
  clear hz
  go_region_held3 (fun w' => w'.cell? ⟨w.heap.size, 0, none⟩ = some (.slice none 0 0) ∧ w'.cell? ⟨w.heap.size, 1, none⟩ = some (.int .i64 0) ∧ w'.cell? ⟨w.heap.size + 1, 0, none⟩ = some (.slice none 0 0) ∧ w'.cell? ⟨w.heap.size + 1, 1, none⟩ = some (.int .i64 0) ∧ w'.cell? ⟨w.heap.size + 1 + 1, 0, none⟩ = some (.slice none 0 0) ∧ w'.cell? ⟨w.heap.size + 1 + 1, 1, none⟩ = some (.int .i64 0))
    (first
      | with_reducible exact HZ.out.drew.cells
      | with_reducible exact HZ.out.one.drew.cells
      | with_reducible exact HZ.out.two.drew.cells
      | with_reducible exact HZ.out.three.drew.cells)
    (fail)
  go_wp2_with fail
  have hz3 := HZ.out.three.drew
  obtain ⟨y0, y1, y2, y3, y4, y5⟩ := hz3.cells
  refine bodyPost_ret (v := .tuple #[.agg #[.slice none 0 0, .int .i64 0], .agg #[.slice none 0 0, .int .i64 0], .agg #[.slice none 0 0, .int .i64 0], .bool false]) (by simp [results, Try.results31, go_sem, y0, y1, y2, y3, y4, y5]) rfl
    ⟨_, _, _, by rw [decide_eq_false HNo.out], ?_, ?_, ?_, hz3.2.2.2⟩
  all_goals
    unfold tF
    rw [if_neg HNo.out]
    exact isF_none _

end Go.Proofs.Ytefclohjeompkaa

/- The contract of three. -/
namespace Go.Proofs.Ytefclohjeompkaa
open Go Go.RowKit Go.Proofs.Gen Go.Proofs.Bdd Go.Proofs.Bdd.T

theorem Sets.nth {e : TypeId} {Is : World → Value → F → Prop} {b : Nat} {w : World} {x : Value} {fs : List F} (h : Sets e Is b w x fs) {j : Nat} (hj : j < fs.length) :
    ∃ g cap u v, x = .slice (some ⟨g, 0, none⟩) fs.length cap ∧ b ≤ g ∧ w.cell? ⟨g, j * 2, none⟩ = some u ∧ w.cell? ⟨g, j * 2 + 1, none⟩ = some v ∧ Is w (.agg #[u, v]) (fs.getD j fun _ => false) := by
  obtain ⟨g, cap, u, v, hx, hb, -, h1, h2, h3⟩ := h.get (List.getElem?_eq_getElem hj)
  refine ⟨g, cap, u, v, hx, hb, h1, h2, ?_⟩
  rw [List.getD_eq_getElem?_getD, List.getElem?_eq_getElem hj]
  exact h3

theorem kept_set2 {S : Nat → Prop} {a W : World} (h : Kept S a W) {b : Nat} (hb : S b) (x y : Value) : Kept S a ((W.setCell ⟨b, 0, none⟩ x).setCell ⟨b, 1, none⟩ y) :=
  (h.setCell (p := ⟨b, 0, none⟩) (fun _ => hb) x).setCell (p := ⟨b, 1, none⟩) (fun _ => hb) y
theorem setCell2_eq {W : World} {b : Nat} {p q : Value} (hb : W.heap[b]? = some (.cells #[p, q] 31 (0, 0))) (x y : Value) : ((W.setCell ⟨b, 0, none⟩ x).setCell ⟨b, 1, none⟩ y).heap[b]? = some (.cells #[x, y] 31 (0, 0)) := by
  have := setCell_heap (setCell_heap hb 0 x) 1 y
  simpa using this
theorem setCell2_ne {W : World} {b k : Nat} (hk : k ≠ b) (x y : Value) : ((W.setCell ⟨b, 0, none⟩ x).setCell ⟨b, 1, none⟩ y).heap[k]? = W.heap[k]? := by
  rw [Below.heap_setCell _ _ _ _ (fun h => hk h), Below.heap_setCell _ _ _ _ (fun h => hk h)]

theorem Zeros3.fill {w W : World} (h : Zeros3 w W) (x0 x1 y0 y1 z0 z1 : Value) :
    ∀ W', W' = (((((W.setCell ⟨w.heap.size, 0, none⟩ x0).setCell ⟨w.heap.size, 1, none⟩ x1).setCell ⟨w.heap.size + 1, 0, none⟩ y0).setCell ⟨w.heap.size + 1, 1, none⟩ y1).setCell ⟨w.heap.size + 1 + 1, 0, none⟩ z0).setCell ⟨w.heap.size + 1 + 1, 1, none⟩ z1 →
      W'.cell? ⟨w.heap.size, 0, none⟩ = some x0 ∧ W'.cell? ⟨w.heap.size, 1, none⟩ = some x1 ∧ W'.cell? ⟨w.heap.size + 1, 0, none⟩ = some y0 ∧ W'.cell? ⟨w.heap.size + 1, 1, none⟩ = some y1 ∧ W'.cell? ⟨w.heap.size + 1 + 1, 0, none⟩ = some z0 ∧ W'.cell? ⟨w.heap.size + 1 + 1, 1, none⟩ = some z1 := by
  rintro W' rfl
  have p1 := setCell2_eq h.1 x0 x1
  have p2 := (setCell2_ne (W := W) (b := w.heap.size) (k := w.heap.size + 1) (by omega) x0 x1).trans h.2.1
  have p3 := (setCell2_ne (W := W) (b := w.heap.size) (k := w.heap.size + 1 + 1) (by omega) x0 x1).trans h.2.2.1
  generalize (W.setCell ⟨w.heap.size, 0, none⟩ x0).setCell ⟨w.heap.size, 1, none⟩ x1 = W1 at *
  have q1 := (setCell2_ne (W := W1) (b := w.heap.size + 1) (k := w.heap.size) (by omega) y0 y1).trans p1
  have q2 := setCell2_eq p2 y0 y1
  have q3 := (setCell2_ne (W := W1) (b := w.heap.size + 1) (k := w.heap.size + 1 + 1) (by omega) y0 y1).trans p3
  generalize (W1.setCell ⟨w.heap.size + 1, 0, none⟩ y0).setCell ⟨w.heap.size + 1, 1, none⟩ y1 = W2 at *
  have r1 := (setCell2_ne (W := W2) (b := w.heap.size + 1 + 1) (k := w.heap.size) (by omega) z0 z1).trans q1
  have r2 := (setCell2_ne (W := W2) (b := w.heap.size + 1 + 1) (k := w.heap.size + 1) (by omega) z0 z1).trans q2
  have r3 := setCell2_eq q3 z0 z1
  exact ⟨cell1 (o := 0) r1 rfl, cell1 (o := 1) r1 rfl, cell1 (o := 0) r2 rfl, cell1 (o := 1) r2 rfl, cell1 (o := 0) r3 rfl, cell1 (o := 1) r3 rfl⟩

set_option maxRecDepth 100000 in
set_option maxHeartbeats 6400000 in
theorem three_short {w : World} {v : Value} {l : List SOp} (h : RdOps w v l) (hl : l.length ≤ 10) : Calls Try.prog 31 #[v] w (ThreePost w l) := by
  have hl' : ¬ (10 : Int) < l.length := by omega
  have HL := Lib.hid h
  obtain ⟨ao, cap, rfl, -⟩ := h
  go_enter Try.func31, Try.ntmps31
  go_wp2_with fail
  have hz := Zeros3.begin w
  generalize (((w.alloc _).alloc _).alloc _) = W at hz ⊢
  have HZ := Lib.hid hz
  clear hz
  go_loopw [6] (fun i wr => ∃ k : Nat, k ≤ l.length ∧ i = .int .i64 k ∧ (∀ j x, j < k → l[j]? = some x → ShortOp x) ∧ wr = W) (fun i _ => l.length - (intOf i).toNat)
  case atStart => exact ⟨0, Nat.zero_le _, rfl, fun j x h => by omega, rfl⟩
  case round =>
    obtain ⟨k, hk, rfl, hsh, rfl⟩ := hrel
    have HSH := Lib.hid hsh
    clear hsh
    by_cases hlt : k < l.length
    · have hlt' : (k : Int) < l.length := by omega
      obtain ⟨ao', cap', e, hc⟩ := HL.out
      cases e
      obtain ⟨okx, b, off, rfl, hcells⟩ := hc k _ (List.getElem?_eq_getElem hlt)
      have hx := List.getElem?_eq_getElem hlt
      have hmem := List.getElem_mem hlt
      generalize l[k] = x at hx hmem okx hcells
      have HX := Lib.hid hx
      have HM := Lib.hid hmem
      obtain ⟨xop, xrel, xa, xb, xc, xi, xj, xon, xf, xg, xlv, xls, xbound⟩ := x
      obtain ⟨lo, lc, elv, -⟩ := okx.list
      simp only at elv
      subst elv
      have c0 : wr.cell? ⟨b, off + k * 12, none⟩ = some (.int .u8 xop) := HZ.out.2.2.2.cell (hcells 0 _ rfl)
      have c10 : wr.cell? ⟨b, off + k * 12 + 10, none⟩ = some (.slice lo xls.length lc) := HZ.out.2.2.2.cell (hcells 10 _ rfl)
      clear hcells hc okx hx hmem
      by_cases hgood : xls.length ≤ 40 ∧ (xop = 13 → xls.length ≤ 8)
      · have HG := Lib.hid hgood
        obtain ⟨h40, h8⟩ := hgood
        have h40' : ¬ (40 : Int) < xls.length := by omega
        have hnext : ∀ j x, j < k + 1 → l[j]? = some x → ShortOp x := by
          intro j x hj hx
          by_cases e : j = k
          · subst e
            rw [HX.out] at hx
            cases hx
            exact HG.out
          · exact HSH.out j x (by omega) hx
        have HNX := Lib.hid hnext
        clear hnext
        by_cases h13 : xop = 13
        · subst h13
          have h8' : ¬ (8 : Int) < xls.length := by have := h8 rfl; omega
          clear h8
          go_wp2_with fail
          exact ⟨⟨k + 1, by omega, by go_num, HNX.out, trivial⟩, by simp [intOf]; omega⟩
        · have h13' : ((xop : Int) == 13) = false := beq_eq_false_iff_ne.2 (by omega)
          clear h8 h13
          go_wp2_with fail
          exact ⟨⟨k + 1, by omega, by go_num, HNX.out, trivial⟩, by simp [intOf]; omega⟩
      · have HNo := Lib.hid (show ¬ ThreeOk l from fun h => hgood (h.2 _ HM.out))
        by_cases h40 : 40 < xls.length
        · have h40' : (40 : Int) < xls.length := by omega
          clear hgood
          have hz := HZ.out
          have a0 := cell1 (o := 0) hz.1 rfl
          have a1 := cell1 (o := 1) hz.1 rfl
          have b0 := cell1 (o := 0) hz.2.1 rfl
          have b1 := cell1 (o := 1) hz.2.1 rfl
          have d0 := cell1 (o := 0) hz.2.2.1 rfl
          have d1 := cell1 (o := 1) hz.2.2.1 rfl
          have fa := free1 hz.1
          have fb := free1 hz.2.1
          have fc := free1 hz.2.2.1
          clear hz
          go_wp2_with fail
          go_region_held3 (fun w' => w'.cell? ⟨w.heap.size, 0, none⟩ = some (.slice none 0 0) ∧ w'.cell? ⟨w.heap.size, 1, none⟩ = some (.int .i64 0) ∧ w'.cell? ⟨w.heap.size + 1, 0, none⟩ = some (.slice none 0 0) ∧ w'.cell? ⟨w.heap.size + 1, 1, none⟩ = some (.int .i64 0) ∧ w'.cell? ⟨w.heap.size + 1 + 1, 0, none⟩ = some (.slice none 0 0) ∧ w'.cell? ⟨w.heap.size + 1 + 1, 1, none⟩ = some (.int .i64 0))
            (first
              | with_reducible exact HZ.out.drew.cells
              | with_reducible exact HZ.out.one.drew.cells
              | with_reducible exact HZ.out.two.drew.cells
              | with_reducible exact HZ.out.three.drew.cells)
            (fail)
          go_wp2_with fail
          have hz3 := HZ.out.three.drew
          obtain ⟨y0, y1, y2, y3, y4, y5⟩ := hz3.cells
          refine bodyPost_ret (v := .tuple #[.agg #[.slice none 0 0, .int .i64 0], .agg #[.slice none 0 0, .int .i64 0], .agg #[.slice none 0 0, .int .i64 0], .bool false]) (by simp [results, Try.results31, go_sem, y0, y1, y2, y3, y4, y5]) rfl
            ⟨_, _, _, by rw [decide_eq_false HNo.out], ?_, ?_, ?_, hz3.2.2.2⟩
          all_goals
            unfold tF
            rw [if_neg HNo.out]
            exact isF_none _
        · have h40' : ¬ (40 : Int) < xls.length := by omega
          obtain ⟨rfl, h8⟩ : xop = 13 ∧ 8 < xls.length := by
            by_cases h : xop = 13
            · exact ⟨h, Nat.lt_of_not_le fun h8 => hgood ⟨by omega, fun _ => h8⟩⟩
            · exact (hgood ⟨by omega, fun h' => (h h').elim⟩).elim
          have h8' : (8 : Int) < xls.length := by omega
          clear hgood
          have hz := HZ.out
          have a0 := cell1 (o := 0) hz.1 rfl
          have a1 := cell1 (o := 1) hz.1 rfl
          have b0 := cell1 (o := 0) hz.2.1 rfl
          have b1 := cell1 (o := 1) hz.2.1 rfl
          have d0 := cell1 (o := 0) hz.2.2.1 rfl
          have d1 := cell1 (o := 1) hz.2.2.1 rfl
          have fa := free1 hz.1
          have fb := free1 hz.2.1
          have fc := free1 hz.2.2.1
          clear hz
          go_wp2_with fail
          go_region_held3 (fun w' => w'.cell? ⟨w.heap.size, 0, none⟩ = some (.slice none 0 0) ∧ w'.cell? ⟨w.heap.size, 1, none⟩ = some (.int .i64 0) ∧ w'.cell? ⟨w.heap.size + 1, 0, none⟩ = some (.slice none 0 0) ∧ w'.cell? ⟨w.heap.size + 1, 1, none⟩ = some (.int .i64 0) ∧ w'.cell? ⟨w.heap.size + 1 + 1, 0, none⟩ = some (.slice none 0 0) ∧ w'.cell? ⟨w.heap.size + 1 + 1, 1, none⟩ = some (.int .i64 0))
            (first
              | with_reducible exact HZ.out.drew.cells
              | with_reducible exact HZ.out.one.drew.cells
              | with_reducible exact HZ.out.two.drew.cells
              | with_reducible exact HZ.out.three.drew.cells)
            (fail)
          go_wp2_with fail
          have hz3 := HZ.out.three.drew
          obtain ⟨y0, y1, y2, y3, y4, y5⟩ := hz3.cells
          refine bodyPost_ret (v := .tuple #[.agg #[.slice none 0 0, .int .i64 0], .agg #[.slice none 0 0, .int .i64 0], .agg #[.slice none 0 0, .int .i64 0], .bool false]) (by simp [results, Try.results31, go_sem, y0, y1, y2, y3, y4, y5]) rfl
            ⟨_, _, _, by rw [decide_eq_false HNo.out], ?_, ?_, ?_, hz3.2.2.2⟩
          all_goals
            unfold tF
            rw [if_neg HNo.out]
            exact isF_none _
    · have hlt' : ¬ (k : Int) < l.length := by omega
      have hok : ThreeOk l := ⟨hl, fun x hx => by
        obtain ⟨j, hj⟩ := List.getElem?_of_mem hx
        exact HSH.out j x (by have := (List.getElem?_eq_some_iff.1 hj).1; omega) hj⟩
      have HOk := Lib.hid hok
      clear hok
      have hmk := make_calls (HL.out.near HZ.out.2.2.2) (by omega) (fun x hx => (HOk.out.2 x hx).1)
      have HMk := Lib.hid hmk
      clear hmk
      go_upto_region 10 with (go_at_call 25; refine HMk.out.mono ?_; rintro e w3 ⟨sv, rfl, hs3, n3⟩; obtain ⟨so, sc, rfl⟩ := hs3.form; have HS3 := Lib.hid hs3; have HN3 := Lib.hid n3; clear hs3 n3)
      have hL := makeF_len l
      obtain ⟨g, q, a0, a5, e, hbg, ka0, ka1, ia⟩ := HS3.out.nth (j := l.length / 1) (by omega)
      cases e
      obtain ⟨g', q', b0, b5, e, -, kb0, kb1, ib⟩ := HS3.out.nth (j := l.length / 2) (by omega)
      cases e
      obtain ⟨g', q', c0, c5, e, -, kc0, kc1, ic⟩ := HS3.out.nth (j := l.length / 3) (by omega)
      cases e
      obtain ⟨a2, a3, a4, a5, e⟩ := ia.form
      simp only [Value.agg.injEq, Array.mk.injEq, List.cons.injEq, and_true] at e
      obtain ⟨rfl, rfl⟩ := e
      obtain ⟨b2, b3, b4, b5, e⟩ := ib.form
      simp only [Value.agg.injEq, Array.mk.injEq, List.cons.injEq, and_true] at e
      obtain ⟨rfl, rfl⟩ := e
      obtain ⟨c2, c3, c4, c5, e⟩ := ic.form
      simp only [Value.agg.injEq, Array.mk.injEq, List.cons.injEq, and_true] at e
      obtain ⟨rfl, rfl⟩ := e
      have e0 : IntKind.i64.wrap (((makeF l).length : Int) - 1) = ((l.length / 1 : Nat) : Int) := by
        rw [hL, Nat.div_one, IntWalk.i64_in _ (by omega)]
        omega
      have e2 : ((l.length / 1 : Nat) : Int).tdiv 2 = ((l.length / 2 : Nat) : Int) := by rw [Nat.div_one]; rfl
      have e3 : ((l.length / 1 : Nat) : Int).tdiv 3 = ((l.length / 3 : Nat) : Int) := by rw [Nat.div_one]; rfl
      have hj1 : ((l.length / 1 : Nat) : Int) < (makeF l).length := by omega
      have hj2 : ((l.length / 2 : Nat) : Int) < (makeF l).length := by omega
      have hj3 : ((l.length / 3 : Nat) : Int) < (makeF l).length := by omega
      have hp1 : (0 : Int) ≤ ((l.length / 1 : Nat) : Int) := by omega
      have hp2 : (0 : Int) ≤ ((l.length / 2 : Nat) : Int) := by omega
      have hp3 : (0 : Int) ≤ ((l.length / 3 : Nat) : Int) := by omega
      have v2 : IntKind.i64.wrap ((l.length / 2 : Nat) : Int) = ((l.length / 2 : Nat) : Int) := IntWalk.i64_in _ (by omega)
      have v3 : IntKind.i64.wrap ((l.length / 3 : Nat) : Int) = ((l.length / 3 : Nat) : Int) := IntWalk.i64_in _ (by omega)
      have HIA := Lib.hid (show IsF w3 _ (tF l 1) by unfold tF; rw [if_pos HOk.out]; exact ia)
      have HIB := Lib.hid (show IsF w3 _ (tF l 2) by unfold tF; rw [if_pos HOk.out]; exact ib)
      have HIC := Lib.hid (show IsF w3 _ (tF l 3) by unfold tF; rw [if_pos HOk.out]; exact ic)
      clear ia ib ic hL HMk
      generalize l.length / 1 = j1 at *
      generalize l.length / 2 = j2 at *
      generalize l.length / 3 = j3 at *
      generalize (makeF l).length = N at *
      have hz3 := HZ.out.near HN3.out
      have HZ3 := Lib.hid hz3
      have hwr := HZ.out.2.2.1
      have hlt2 := (Array.getElem?_eq_some_iff.1 hwr).1
      have fa := free1 hz3.1
      have fb := free1 hz3.2.1
      have fc := free1 hz3.2.2.1
      obtain ⟨o0, o1, o2, o3, o4, o5⟩ := hz3.cells
      have k0 : Kept (fun k => k = w.heap.size ∨ k = w.heap.size + 1 ∨ k = w.heap.size + 1 + 1) w3 w3 := Kept.refl _ _
      have k1 := kept_set2 k0 (b := w.heap.size) (.inl rfl) (.slice a2 a3 a4) (.int .i64 a5)
      have k2 := kept_set2 k1 (b := w.heap.size + 1) (.inr (.inl rfl)) (.slice b2 b3 b4) (.int .i64 b5)
      have k3 := kept_set2 k2 (b := w.heap.size + 1 + 1) (.inr (.inr rfl)) (.slice c2 c3 c4) (.int .i64 c5)
      have K0 := Lib.hid k0
      have K1 := Lib.hid k1
      have K2 := Lib.hid k2
      have K3 := Lib.hid k3
      have HSK := Lib.hid (show ∀ w', Kept (fun k => k = w.heap.size ∨ k = w.heap.size + 1 ∨ k = w.heap.size + 1 + 1) w3 w' → w'.cell? ⟨g, j1 * 2, none⟩ = some (.slice a2 a3 a4) ∧ w'.cell? ⟨g, j1 * 2 + 1, none⟩ = some (.int .i64 a5) ∧ w'.cell? ⟨g, j2 * 2, none⟩ = some (.slice b2 b3 b4) ∧ w'.cell? ⟨g, j2 * 2 + 1, none⟩ = some (.int .i64 b5) ∧ w'.cell? ⟨g, j3 * 2, none⟩ = some (.slice c2 c3 c4) ∧ w'.cell? ⟨g, j3 * 2 + 1, none⟩ = some (.int .i64 c5) from fun w' h => ⟨h.cell ka0 (by omega), h.cell ka1 (by omega), h.cell kb0 (by omega), h.cell kb1 (by omega), h.cell kc0 (by omega), h.cell kc1 (by omega)⟩)
      clear k0 k1 k2 k3 hz3 hwr hlt2 hbg ka0 ka1 kb0 kb1 kc0 kc1
      go_region_held3 (fun w' => w'.cell? ⟨g, j1 * 2, none⟩ = some (.slice a2 a3 a4) ∧ w'.cell? ⟨g, j1 * 2 + 1, none⟩ = some (.int .i64 a5) ∧ w'.cell? ⟨g, j2 * 2, none⟩ = some (.slice b2 b3 b4) ∧ w'.cell? ⟨g, j2 * 2 + 1, none⟩ = some (.int .i64 b5) ∧ w'.cell? ⟨g, j3 * 2, none⟩ = some (.slice c2 c3 c4) ∧ w'.cell? ⟨g, j3 * 2 + 1, none⟩ = some (.int .i64 c5))
        (first
          | with_reducible exact HSK.out _ K0.out.drew
          | with_reducible exact HSK.out _ K1.out.drew
          | with_reducible exact HSK.out _ K2.out.drew
          | with_reducible exact HSK.out _ K3.out.drew)
        (fail)
      go_wp2_with fail
      obtain ⟨y0, y1, y2, y3, y4, y5⟩ := HZ3.out.fill (.slice a2 a3 a4) (.int .i64 a5) (.slice b2 b3 b4) (.int .i64 b5) (.slice c2 c3 c4) (.int .i64 c5) _ rfl
      have ho : OnlyOf 31 w3 _ := ⟨_, K3.out.drew, fun k _ hk => by
        rcases hk with rfl | rfl | rfl
        · exact ⟨_, _, HZ3.out.1⟩
        · exact ⟨_, _, HZ3.out.2.1⟩
        · exact ⟨_, _, HZ3.out.2.2.1⟩⟩
      refine bodyPost_ret (v := .tuple #[.agg #[.slice a2 a3 a4, .int .i64 a5], .agg #[.slice b2 b3 b4, .int .i64 b5], .agg #[.slice c2 c3 c4, .int .i64 c5], .bool true]) (by simp [results, Try.results31, go_sem, y0, y1, y2, y3, y4, y5]) rfl
        ⟨_, _, _, by rw [decide_eq_true HOk.out], HIA.out.only ho (by decide), HIB.out.only ho (by decide), HIC.out.only ho (by decide), Kept.mono (HZ3.out.2.2.2.kept.trans K3.out.drew) (fun k hk h => by omega)⟩

theorem three_calls {w : World} {v : Value} {l : List SOp} (h : RdOps w v l) : Calls Try.prog 31 #[v] w (ThreePost w l) := by
  by_cases hl : l.length ≤ 10
  · exact three_short h hl
  · exact three_long h (by omega)

end Go.Proofs.Ytefclohjeompkaa

/- A script as an argument: what a caller's slice of operations holds. -/
namespace Go.Proofs.Ytefclohjeompkaa
open Go.ChangeMaps Go.ChangeShapes Go.WideShapes Go.ChangeAt Go.RowKit Go.Deep Go.Proofs.Gen

instance : Inhabited SOp := ⟨⟨0, 0, 0, 0, 0, 0, 0, false, 0, 0, .slice none 0 0, [], 0⟩⟩

theorem ownKn : ownKnob Try.prog.godebug = none := by kernel_rfl
theorem cells109 : Try.prog.cellsOf 109 = 12 := by kernel_rfl
theorem cells2 : Try.prog.cellsOf 2 = 1 := by kernel_rfl

section
variable {H : Type} {enc : TypeId × Value → H} {w : World} {base : Nat} {spare : Nat → Bool} {held : Bool}

/-- The cells of a struct of one-cell fields. -/
theorem struct_cells {t : TypeId} {fs : Array Field} {fuel : Nat} {cs : List Value} {x : DataW H × List MemPlace} (ht : Try.prog.underlying t = some (.struct fs)) (hone : oneCellFields Try.prog fs = true) (hC : Try.prog.cellsOf t = fs.size)
    (h : DataW.trod enc Try.prog w base spare held fuel t cs = some x) : cs.length = fs.size ∧ ∃ n, ∀ (i : Nat) (f : Field), fs[i]? = some f → ∃ v y, cs[i]? = some v ∧ DataW.trod enc Try.prog w base spare held n f.type [v] = some y := by
  obtain ⟨xs, n, _, _, hlen, hxl, hg⟩ := DataW.trod_struct ht h
  refine ⟨hlen.trans hC, n, fun i f hi => ?_⟩
  obtain ⟨ho, hc⟩ := hone_of hone i f hi
  have hlt : i < fs.size := (Array.getElem?_eq_some_iff.1 hi).1
  have hcl : i < cs.length := by omega
  have g := hg i f hi
  rw [ho, hc, take1_drop cs i undef hcl, List.getElem?_eq_getElem (by omega)] at g
  refine ⟨cs[i], xs[i]'(by omega), List.getElem?_eq_getElem hcl, ?_⟩
  rw [← g, List.getD_eq_getElem?_getD, List.getElem?_eq_getElem hcl]
  rfl

theorem add_at (b off i : Nat) : (⟨b, off, none⟩ : Addr).add i = ⟨b, off + i, none⟩ := by
  unfold Addr.add
  by_cases h : i = 0 <;> simp [h]

/-- A list of numbers that came in. -/
theorem ints_open {fuel : Nat} {v : Value} {x : DataW H × List MemPlace} (h : DataW.trod enc Try.prog w base spare held fuel 83 [v] = some x) : (∃ l : List Int, RdInts w v l) ∧ ∀ cap, v = .slice none 0 cap → cap = 0 := by
  rcases open_ints Try.underlying83 Try.underlying2 cells2 h with ⟨hcs, _⟩ | ⟨a, len, cap, zs, hcs, _, hl, hm, hzl, _, hz, _⟩
  · simp at hcs
    subst hcs
    exact ⟨⟨[], none, 0, rfl, fun k x hk => by simp at hk⟩, fun cap h => by cases h; rfl⟩
  · simp at hcs
    subst hcs
    have hml : len ≤ zs.length := by rw [hzl]; split <;> omega
    refine ⟨⟨zs.take len, some a, cap, by rw [List.length_take, Nat.min_eq_left hml], fun k x hk => ?_⟩, fun cap h => by cases h⟩
    rw [List.getElem?_take] at hk
    split at hk
    · rename_i hkl
      have h0 := hz k (by omega)
      rw [List.getD_eq_getElem?_getD, hk] at h0
      obtain ⟨b, off, spot⟩ := a
      have hspot : spot = none := by
        have := World.cell?_spot (hz 0 (by omega))
        simpa [Addr.add] using this
      subst hspot
      rw [add_at] at h0
      exact ⟨b, off, rfl, h0⟩
    · cases hk

theorem wf_range {k : IntKind} {n : Int} (h : (Lit.int k n).wf = true) : k.min ≤ n ∧ n ≤ k.max := by
  have h' : (decide (k.min ≤ n) && decide (n ≤ k.max)) = true := h
  rw [Bool.and_eq_true] at h'
  exact ⟨of_decide_eq_true h'.1, of_decide_eq_true h'.2⟩

theorem u8_open {fuel : Nat} {v : Value} {x : DataW H × List MemPlace} (h : DataW.trod enc Try.prog w base spare held fuel 5 [v] = some x) : ∃ n : Nat, v = .int .u8 n ∧ n < 256 := by
  obtain ⟨n, hn, _, hw⟩ := DataW.trod_int Try.underlying5 h
  simp at hn
  subst hn
  have h0 : (0 : Int) ≤ n := (wf_range hw).1
  have h1 : n ≤ (255 : Int) := (wf_range hw).2
  obtain ⟨m, rfl⟩ : ∃ m : Nat, n = m := ⟨n.toNat, by omega⟩
  exact ⟨m, rfl, by omega⟩
theorem u32_open {fuel : Nat} {v : Value} {x : DataW H × List MemPlace} (h : DataW.trod enc Try.prog w base spare held fuel 24 [v] = some x) : ∃ n : Nat, v = .int .u32 n ∧ n < 4294967296 := by
  obtain ⟨n, hn, _, hw⟩ := DataW.trod_int Try.underlying24 h
  simp at hn
  subst hn
  have h0 : (0 : Int) ≤ n := (wf_range hw).1
  have h1 : n ≤ (4294967295 : Int) := (wf_range hw).2
  obtain ⟨m, rfl⟩ : ∃ m : Nat, n = m := ⟨n.toNat, by omega⟩
  exact ⟨m, rfl, by omega⟩

/-- An operation that came in. -/
theorem op_open {fuel : Nat} {cs : List Value} {x : DataW H × List MemPlace} (h : DataW.trod enc Try.prog w base spare held fuel 109 cs = some x) : ∃ d : SOp, cs = d.cells ∧ SOpOk w d := by
  obtain ⟨hl, n, hf⟩ := struct_cells Try.underlying109 (by kernel_rfl) (by kernel_rfl) h
  match cs, hl with
  | [c0, c1, c2, c3, c4, c5, c6, c7, c8, c9, c10, c11], _ =>
    obtain ⟨v0, y0, e0, h0⟩ := hf 0 _ rfl
    obtain ⟨v1, y1, e1, h1⟩ := hf 1 _ rfl
    obtain ⟨v2, y2, e2, h2⟩ := hf 2 _ rfl
    obtain ⟨v3, y3, e3, h3⟩ := hf 3 _ rfl
    obtain ⟨v4, y4, e4, h4⟩ := hf 4 _ rfl
    obtain ⟨v5, y5, e5, h5⟩ := hf 5 _ rfl
    obtain ⟨v6, y6, e6, h6⟩ := hf 6 _ rfl
    obtain ⟨v7, y7, e7, h7⟩ := hf 7 _ rfl
    obtain ⟨v8, y8, e8, h8⟩ := hf 8 _ rfl
    obtain ⟨v9, y9, e9, h9⟩ := hf 9 _ rfl
    obtain ⟨v10, y10, e10, h10⟩ := hf 10 _ rfl
    obtain ⟨v11, y11, e11, h11⟩ := hf 11 _ rfl
    cases e0; cases e1; cases e2; cases e3; cases e4; cases e5; cases e6; cases e7; cases e8; cases e9; cases e10; cases e11
    obtain ⟨a0, rfl, l0⟩ := u8_open h0
    obtain ⟨a1, rfl, l1⟩ := u8_open h1
    obtain ⟨a2, rfl, l2⟩ := u8_open h2
    obtain ⟨a3, rfl, l3⟩ := u8_open h3
    obtain ⟨a4, rfl, l4⟩ := u8_open h4
    obtain ⟨a5, g5, _⟩ := DataW.trod_int Try.underlying3 h5
    obtain ⟨a6, g6, _⟩ := DataW.trod_int Try.underlying3 h6
    obtain ⟨a7, g7, _⟩ := DataW.trod_bool Try.underlying4 h7
    obtain ⟨a8, rfl, l8⟩ := u32_open h8
    obtain ⟨a9, rfl, l9⟩ := u32_open h9
    obtain ⟨⟨ls, hls⟩, hnil⟩ := ints_open h10
    obtain ⟨a11, g11, _⟩ := DataW.trod_int Try.underlying2 h11
    simp at g5 g6 g7 g11
    subst g5 g6 g7 g11
    exact ⟨⟨a0, a1, a2, a3, a4, a5, a6, a7, a8, a9, c10, ls, a11⟩, rfl, hls, hnil, l8, l9, l0, l2, l3, l4⟩

/-- A script that came in. -/
theorem ops_open {fuel : Nat} {v : Value} {x : DataW H × List MemPlace} (h : DataW.trod enc Try.prog w base spare held fuel 43 [v] = some x) : ∃ l : List SOp, RdOps w v l := by
  rcases open_slice Try.underlying43 h with ⟨hcs, _⟩ | ⟨a, len, cap, m, n, D, Pl, hcs, _, hl, hm, hmm, _, hx⟩
  · simp at hcs
    subst hcs
    exact ⟨[], none, 0, rfl, fun k x hk => by simp at hk⟩
  · simp at hcs
    subst hcs
    have hml : len ≤ m := by rw [hmm]; split <;> omega
    rw [cells109] at hx
    obtain ⟨f, hf⟩ := choose_lt (α := SOp) (n := len) (p := fun i d => w.cells? base (a.add (i * 12)) 12 = some d.cells ∧ SOpOk w d) (fun i hi => by
      obtain ⟨cs', h1, h2⟩ := hx i (by omega)
      obtain ⟨d, rfl, hd⟩ := op_open h2
      exact ⟨d, h1, hd⟩)
    refine ⟨(List.range len).map f, some a, cap, by simp, fun k x hk => ?_⟩
    have hkl : k < len := by
      have := (List.getElem?_eq_some_iff.1 hk).1
      simpa using this
    have hxe : x = f k := by
      rw [List.getElem?_map, List.getElem?_range hkl] at hk
      simpa using hk.symm
    subst hxe
    obtain ⟨_, _, hc⟩ := World.cells?_some (hf k hkl).1
    obtain ⟨b, off, spot⟩ := a
    have hspot : spot = none := by
      obtain ⟨_, _, hc'⟩ := World.cells?_some (hf 0 (by omega)).1
      have := World.cell?_spot ((hc' 0 (by omega)).trans (show (f 0).cells[0]? = some (.int .u8 (f 0).op) from rfl))
      simpa [Addr.add] using this
    subst hspot
    refine ⟨(hf k hkl).2, b, off, rfl, fun j u hj => ?_⟩
    have hj12 : j < 12 := (List.getElem?_eq_some_iff.1 hj).1
    have := hc j hj12
    rw [add_at, add_at] at this
    exact this.trans hj
end

end Go.Proofs.Ytefclohjeompkaa
