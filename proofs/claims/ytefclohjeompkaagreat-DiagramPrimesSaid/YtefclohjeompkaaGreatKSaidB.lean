/- Parts of a proof: TakesB, SaidB. -/
import Derived.Maps.OwnSet
import Derived.WalkKit
import Derived.Deep.QuietTactic
import Derived.Test.YtefclohjeompkaaGreatProg
import Derived.KernelRfl
import Derived.DeepKeys4
import Derived.Deep.RegionLaw
import Derived.StillTailTactics
import Derived.Maps.AppendAt
import Derived.WalkSpells
import Derived.WalkLawsBesides
import Derived.BigQuiet
import Derived.Lib.Hide
import Derived.Deep.DeepCutAuto
import Derived.Laws.EntriesVeiled
import Derived.Deep.RegionHeld3
import Derived.Laws.OwnMore
import Derived.Deep.Slices
import Derived.RangeFuncNested
import Derived.RangeFuncBound
import Derived.RangeFuncCalls
import Derived.RangeFuncLeaves
import Derived.Shelf.Abstract
import Derived.Shelf.RegionOpen
import Derived.OwnWalkIn
import Derived.TacticsInMore
import Derived.LoopNIn
import Derived.LoopIn
import Derived.Lib.BitFns
import Derived.IntWalk
import Derived.Laws.CopyOwn
import Derived.Laws.BitsAllLaws
import Derived.Test.YtefclohjeompkaaGreatKTreeC
import Derived.Test.YtefclohjeompkaaGreatKRep
import Derived.Test.YtefclohjeompkaaGreatKJoinD
import Derived.Test.YtefclohjeompkaaGreatKCmpA
import Derived.Test.YtefclohjeompkaaGreatKRefH
import Derived.Test.YtefclohjeompkaaGreatKOfB
import Derived.Test.YtefclohjeompkaaGreatKAlike
import Derived.Test.YtefclohjeompkaaGreatKBetA
import Derived.Test.YtefclohjeompkaaGreatKLinH
import Derived.Test.YtefclohjeompkaaGreatKBetB
import Derived.Test.YtefclohjeompkaaGreatKLinF
import Derived.Test.YtefclohjeompkaaGreatKLinJ
import Derived.Test.YtefclohjeompkaaGreatKSteps3
import Derived.Test.YtefclohjeompkaaGreatKFAll
import Derived.Test.YtefclohjeompkaaGreatKOpenA
import Derived.Test.YtefclohjeompkaaGreatKColl
import Derived.Test.YtefclohjeompkaaGreatKRefW
import Derived.Test.YtefclohjeompkaaGreatKPrimB
/- TakesB: what is needed of it. -/
namespace Go.Proofs.YtefclohjeompkaaGreat
open Go Go.RowKit Go.Shelf Go.Proofs.Gen
section
variable {P : Program} {Q : Exit → Act → World → Prop} {md : Region.Mode} {S : World → Prop} {z fuel : Nat} {listed : Array Bool} {a : Act} {w : World} {v : Value} {oi : Oper} {r : List Oper}
theorem takeZ3 {x0 x1 x2 : Oper} : TakeZ P md Q S z fuel listed a w v oi 3 (List.toArray (x0 :: x1 :: x2 :: oi :: r)) := takeZ_ok rfl

theorem oneZ5 {x0 x1 x2 x3 x4 : Oper} : OneZ P md Q S z fuel listed a w oi 5 (List.toArray (x0 :: x1 :: x2 :: x3 :: x4 :: oi :: r)) := oneZ_ok rfl

theorem takeZ6 {x0 x1 x2 x3 x4 x5 : Oper} : TakeZ P md Q S z fuel listed a w v oi 6 (List.toArray (x0 :: x1 :: x2 :: x3 :: x4 :: x5 :: oi :: r)) := takeZ_ok rfl

theorem takeZ9 {x0 x1 x2 x3 x4 x5 x6 x7 x8 : Oper} : TakeZ P md Q S z fuel listed a w v oi 9 (List.toArray (x0 :: x1 :: x2 :: x3 :: x4 :: x5 :: x6 :: x7 :: x8 :: oi :: r)) := takeZ_ok rfl

theorem takeZ10 {x0 x1 x2 x3 x4 x5 x6 x7 x8 x9 : Oper} : TakeZ P md Q S z fuel listed a w v oi 10 (List.toArray (x0 :: x1 :: x2 :: x3 :: x4 :: x5 :: x6 :: x7 :: x8 :: x9 :: oi :: r)) := takeZ_ok rfl

end
end Go.Proofs.YtefclohjeompkaaGreat

/- SaidB: what is needed of it. -/
namespace Go.Proofs.YtefclohjeompkaaGreat
open Go Go.RowKit Go.Proofs.Gen Go.Proofs.Bdd Go.Proofs.Bdd.T
theorem IsG.congr {w : World} {v : Value} {f g : F} (h : IsG w v f) (e : ∀ c, f c = g c) : IsG w v g := (funext e : f = g) ▸ h

theorem isG_store {w : World} {x y : Value} {f : F} {b : Nat} {p q : Value} (h : IsG w (.agg #[x, y]) f) (hb : w.heap[b]? = some (.cells #[p, q] 39 (0, 0))) : IsG ((w.setCell ⟨b, 0, none⟩ x).setCell ⟨b, 1, none⟩ y) (.agg #[x, y]) f :=
  let ⟨V, h⟩ := h
  ⟨V, isS_store h hb⟩

theorem IsG.keptOf {w w' : World} {v : Value} {f : F} {b : Nat} {cs : Array Value} {fr : Nat × Nat} (h : IsG w v f) (hk : Kept (fun k => k = b) w w') (hb : w.heap[b]? = some (.cells cs 39 fr)) : IsG w' v f :=
  h.only ⟨_, hk, fun k _ e => ⟨cs, fr, by rw [e]; exact hb⟩⟩ (by decide) (by decide)

theorem stored37 {w : World} {b : Nat} {p q : Value} (h : w.heap[b]? = some (.cells #[p, q] 39 (0, 0))) (c1 : Option Addr) (c2 c3 : Nat) (c4 : Option Addr) (c5 c6 : Nat) :
    ((w.setCell ⟨b, 0, none⟩ (.slice c1 c2 c3)).setCell ⟨b, 1, none⟩ (.slice c4 c5 c6)).heap[b]? = some (.cells #[.slice c1 c2 c3, .slice c4 c5 c6] 39 (0, 0)) := by
  have := setCell_heap (setCell_heap h 0 (.slice c1 c2 c3)) 1 (.slice c4 c5 c6)
  simpa only [List.setIfInBounds_toArray, List.set_cons_zero, List.set_cons_succ] using this

def SaidPost (w : World) (x : SOp) (fs : List F) (e : Ending) (w' : World) : Prop :=
  ∃ v, e = .returned (.tuple #[v, .int .i64 (opN x)]) ∧ IsG w' v (opF x fs) ∧ Near w w'

/-- The three sets of an operation lie in boxes of their own. -/
def ThreeG (W : World) (u0 u1 v0 v1 x0 x1 : Value) (p q r : Value) (w : World) : Prop :=
  ∃ a b c, p = .pointer (some ⟨a, 0, none⟩) ∧ q = .pointer (some ⟨b, 0, none⟩) ∧ r = .pointer (some ⟨c, 0, none⟩) ∧ W.heap.size ≤ a ∧ W.heap.size ≤ b ∧ W.heap.size ≤ c ∧
    w.heap[a]? = some (.cells #[u0, u1] 39 (0, 0)) ∧ w.heap[b]? = some (.cells #[v0, v1] 39 (0, 0)) ∧ w.heap[c]? = some (.cells #[x0, x1] 39 (0, 0)) ∧ Near W w

set_option maxRecDepth 100000 in
set_option maxHeartbeats 6400000 in
theorem said_calls {w : World} {x : SOp} {base : Nat} {sv : Value} {fs : List F} (hx : SOpOk w x) (hl40 : x.ls.length ≤ 40) (hs : Sets 39 IsG base w sv fs) (h0 : 0 < fs.length) (hn : fs.length < 1048576) :
    Calls Tryz.prog 22 #[.agg x.cells.toArray, sv] w (SaidPost w x fs) := by
  obtain ⟨gg, cap, a0, a1, ja, -, ea, hja, rfl, ca0, ca1, ia⟩ := hs.at (k := x.a) h0
  obtain ⟨gg', cap', b0, b1, jb, -, eb, hjb, e, cb0, cb1, ib⟩ := hs.at (k := x.b) h0
  cases e
  obtain ⟨gg', cap', c0, c1, jc, -, ec, hjc, e, cc0, cc1, ic⟩ := hs.at (k := x.c) h0
  cases e
  obtain ⟨xop, xrel, xa, xb, xc, xi, xj, xon, xf, xg, xlv, xls, xbound⟩ := x
  simp only [SOp.cells] at *
  have hla : (xa : Int) < 256 := by have := hx.a; simp only at this; omega
  have hlb : (xb : Int) < 256 := by have := hx.b; simp only at this; omega
  have hlc : (xc : Int) < 256 := by have := hx.c; simp only at this; omega
  have hlo : xop < 256 := hx.op
  have wra : IntKind.i64.wrap (xa : Int) = xa := IntWalk.i64_in _ (by omega)
  have wrb : IntKind.i64.wrap (xb : Int) = xb := IntWalk.i64_in _ (by omega)
  have wrc : IntKind.i64.wrap (xc : Int) = xc := IntWalk.i64_in _ (by omega)
  have HX := Lib.hid hx
  have HS := Lib.hid hs
  have HIA := Lib.hid ia
  have HIB := Lib.hid ib
  have HIC := Lib.hid ic
  clear hx hs ia ib ic
  obtain ⟨n, hnl⟩ : ∃ n, fs.length = n := ⟨_, rfl⟩
  rw [hnl] at h0 hn hja hjb hjc ea eb ec HS ⊢
  have HNL := Lib.hid hnl
  clear hnl
  have hpa : (0 : Int) ≤ ja := by omega
  have hpb : (0 : Int) ≤ jb := by omega
  have hpc : (0 : Int) ≤ jc := by omega
  have hja' : (ja : Int) < n := by omega
  have hjb' : (jb : Int) < n := by omega
  have hjc' : (jc : Int) < n := by omega
  have hne : ¬ ((n : Int) = 0) := by omega
  have hne' : ¬ (n = 0) := by omega
  obtain ⟨a2, a3, a4, a5, a6, a7, ea0⟩ := HIA.out.form
  obtain ⟨b2, b3, b4, b5, b6, b7, eb0⟩ := HIB.out.form
  obtain ⟨c2, c3, c4, c5, c6, c7, ec0⟩ := HIC.out.form
  simp only [Value.agg.injEq, Array.mk.injEq, List.cons.injEq, and_true] at ea0 eb0 ec0
  obtain ⟨rfl, rfl⟩ := ea0
  obtain ⟨rfl, rfl⟩ := eb0
  obtain ⟨rfl, rfl⟩ := ec0
  go_enter Tryz.func22, Tryz.ntmps22
  go_upto_region 1 with fail
  have hbx : ((w.alloc (.cells #[.int .u8 xop, .int .u8 xrel, .int .u8 xa, .int .u8 xb, .int .u8 xc, .int .i64 xi, .int .i64 xj, .bool xon, .int .u32 xf, .int .u32 xg, xlv, .int .i64 xbound] 58)).alloc (.cells #[.slice none 0 0, .slice none 0 0] 39)).heap[w.heap.size]? = some (.cells #[.int .u8 xop, .int .u8 xrel, .int .u8 xa, .int .u8 xb, .int .u8 xc, .int .i64 xi, .int .i64 xj, .bool xon, .int .u32 xf, .int .u32 xg, xlv, .int .i64 xbound] 58 (0, 0)) := keepN ((Near.refl _).alloc _) (heap_new_at rfl)
  have hrs : ((w.alloc (.cells #[.int .u8 xop, .int .u8 xrel, .int .u8 xa, .int .u8 xb, .int .u8 xc, .int .i64 xi, .int .i64 xj, .bool xon, .int .u32 xf, .int .u32 xg, xlv, .int .i64 xbound] 58)).alloc (.cells #[.slice none 0 0, .slice none 0 0] 39)).heap[w.heap.size + 1]? = some (.cells #[.slice none 0 0, .slice none 0 0] 39 (0, 0)) := heap_new_at (by simp)
  have hn0 : Near w ((w.alloc (.cells #[.int .u8 xop, .int .u8 xrel, .int .u8 xa, .int .u8 xb, .int .u8 xc, .int .i64 xi, .int .i64 xj, .bool xon, .int .u32 xf, .int .u32 xg, xlv, .int .i64 xbound] 58)).alloc (.cells #[.slice none 0 0, .slice none 0 0] 39)) := ((Near.refl w).alloc _).alloc _
  generalize hW : ((w.alloc _).alloc _) = W at hbx hrs hn0 ⊢
  clear hW
  have HBX := Lib.hid hbx
  have HRS := Lib.hid hrs
  have HN0 := Lib.hid hn0
  replace ca0 := hn0.cell ca0
  replace ca1 := hn0.cell ca1
  replace cb0 := hn0.cell cb0
  replace cb1 := hn0.cell cb1
  replace cc0 := hn0.cell cc0
  replace cc1 := hn0.cell cc1
  have x2 : W.cell? ⟨w.heap.size, 2, none⟩ = some (.int .u8 xa) := cell1 (o := 2) hbx rfl
  have x3 : W.cell? ⟨w.heap.size, 3, none⟩ = some (.int .u8 xb) := cell1 (o := 3) hbx rfl
  have x4 : W.cell? ⟨w.heap.size, 4, none⟩ = some (.int .u8 xc) := cell1 (o := 4) hbx rfl
  clear hbx hrs hn0
  have HSK := Lib.hid (show ∀ w', Near W w' → w'.cell? ⟨w.heap.size, 2, none⟩ = some (.int .u8 xa) ∧ w'.cell? ⟨w.heap.size, 3, none⟩ = some (.int .u8 xb) ∧ w'.cell? ⟨w.heap.size, 4, none⟩ = some (.int .u8 xc) ∧
        w'.cell? ⟨gg, ja * 2, none⟩ = some (.slice a2 a3 a4) ∧ w'.cell? ⟨gg, ja * 2 + 1, none⟩ = some (.slice a5 a6 a7) ∧ w'.cell? ⟨gg, jb * 2, none⟩ = some (.slice b2 b3 b4) ∧ w'.cell? ⟨gg, jb * 2 + 1, none⟩ = some (.slice b5 b6 b7) ∧
        w'.cell? ⟨gg, jc * 2, none⟩ = some (.slice c2 c3 c4) ∧ w'.cell? ⟨gg, jc * 2 + 1, none⟩ = some (.slice c5 c6 c7) from fun w' h => ⟨h.cell x2, h.cell x3, h.cell x4, h.cell ca0, h.cell ca1, h.cell cb0, h.cell cb1, h.cell cc0, h.cell cc1⟩)
  go_cut [6, 7, 8] (fun s6 s7 s8 wx => ThreeG W (.slice a2 a3 a4) (.slice a5 a6 a7) (.slice b2 b3 b4) (.slice b5 b6 b7) (.slice c2 c3 c4) (.slice c5 c6 c7) s6 s7 s8 wx)
  case first =>
    go_region_held3 (fun w' => w'.cell? ⟨w.heap.size, 2, none⟩ = some (.int .u8 xa) ∧ w'.cell? ⟨w.heap.size, 3, none⟩ = some (.int .u8 xb) ∧ w'.cell? ⟨w.heap.size, 4, none⟩ = some (.int .u8 xc) ∧
        w'.cell? ⟨gg, ja * 2, none⟩ = some (.slice a2 a3 a4) ∧ w'.cell? ⟨gg, ja * 2 + 1, none⟩ = some (.slice a5 a6 a7) ∧ w'.cell? ⟨gg, jb * 2, none⟩ = some (.slice b2 b3 b4) ∧ w'.cell? ⟨gg, jb * 2 + 1, none⟩ = some (.slice b5 b6 b7) ∧
        w'.cell? ⟨gg, jc * 2, none⟩ = some (.slice c2 c3 c4) ∧ w'.cell? ⟨gg, jc * 2 + 1, none⟩ = some (.slice c5 c6 c7))
      (first
        | exact ⟨x2, x3, x4, ca0, ca1, cb0, cb1, cc0, cc1⟩
        | exact HSK.out _ (by repeat (first | exact Near.refl _ | refine Near.drew ?_ | refine Near.alloc ?_ _)))
      (fail)
    all_goals
      go_wp2_with fail
      go_meet
      refine ⟨_, _, _, rfl, rfl, rfl, ?_, ?_, ?_, ?_, ?_, ?_, ?_⟩
    all_goals first
      | exact Nat.le_refl _
      | omega
      | exact ((((Near.refl W).alloc _).alloc _).alloc _).drew
      | exact heap_new_at (w := World.alloc _ _) (by simp; done)
      | (change (World.heap (World.alloc (World.alloc (World.alloc W _) _) _))[_]? = _; repeat (first | exact heap_new_at (by simp; done) | refine (heap_old_at (by simp <;> omega)).trans ?_))
  case rest =>
    obtain ⟨pa, pb, pc, rfl, rfl, rfl, -, -, -, hA, hB, hC, hN⟩ := hcut
    have hx := keepN hN HBX.out
    have hr := keepN hN HRS.out
    have HNW := Lib.hid (HN0.out.trans hN)
    have HR := Lib.hid hr
    have kA0 := cell1 (o := 0) hA rfl
    have kA1 := cell1 (o := 1) hA rfl
    have kB0 := cell1 (o := 0) hB rfl
    have kB1 := cell1 (o := 1) hB rfl
    have kC0 := cell1 (o := 0) hC rfl
    have kC1 := cell1 (o := 1) hC rfl
    have HCX := Lib.hid hx
    have hf := HX.out.f
    have hg := HX.out.g
    simp only at hf hg
    clear hx hr hA hB hC hN ca0 ca1 cb0 cb1 cc0 cc1 x2 x3 x4 HSK HBX HRS ea eb ec hja hjb hjc hpa hpb hpc hja' hjb' hjc' hne hne' wra wrb wrc hla hlb hlc
    rcases (show xop = 1 ∨ xop = 2 ∨ xop = 3 ∨ xop = 4 ∨ xop = 5 ∨ xop = 6 ∨ xop = 7 ∨ xop = 8 ∨ xop = 9 ∨ xop = 10 ∨ xop = 11 ∨ xop = 12 ∨ xop = 13 ∨ xop = 14 ∨ xop = 15 ∨ (xop = 0 ∨ 16 ≤ xop) by omega) with rfl | rfl | rfl | rfl | rfl | rfl | rfl | rfl | rfl | rfl | rfl | rfl | rfl | rfl | rfl | hbig
    · have x0 : wc.cell? ⟨w.heap.size, 0, none⟩ = some (.int .u8 1) := cell1 (o := 0) HCX.out rfl
      go_wp2_with (go_at_call 20; refine (const_g true _).mono ?_; rintro e w5 ⟨v5, rfl, d5, n5⟩; obtain ⟨r1, r2, r3, r4, r5, r6, rfl⟩ := d5.form; have hr5 := keepN n5 HR.out; have z0 := cell1 (o := 0) hr5 rfl; have z1 := cell1 (o := 1) hr5 rfl; have zf := free1 hr5; have HR5 := Lib.hid hr5; have HD5 := Lib.hid d5; have HN5 := Lib.hid n5; clear hr5 d5 n5)
      have hw5 := setCell_heap (setCell_heap HR5.out 0 (.slice r1 r2 r3)) 1 (.slice r4 r5 r6)
      simp only [List.setIfInBounds_toArray, List.set_cons_zero, List.set_cons_succ] at hw5
      have y0 := cell1 (o := 0) hw5 rfl
      have y1 := cell1 (o := 1) hw5 rfl
      exact bodyPost_ret (v := .tuple #[.agg #[.slice r1 r2 r3, .slice r4 r5 r6], .int .i64 (0)]) (by simp [results, Tryz.results22, go_sem, y0, y1]) rfl ⟨_, rfl, isG_store HD5.out HR5.out, ((HNW.out.trans HN5.out).set (by show w.heap.size ≤ w.heap.size + 1; omega) _).set (by show w.heap.size ≤ w.heap.size + 1; omega) _⟩
    · have x0 : wc.cell? ⟨w.heap.size, 0, none⟩ = some (.int .u8 2) := cell1 (o := 0) HCX.out rfl
      have x5 : wc.cell? ⟨w.heap.size, 5, none⟩ = some (.int .i64 xi) := cell1 (o := 5) HCX.out rfl
      by_cases hi : 0 ≤ xi ∧ xi < 24
      · have HI := Lib.hid hi
        obtain ⟨m, rfl⟩ : ∃ m : Nat, xi = m := ⟨xi.toNat, by omega⟩
        have hm : m < 24 := by omega
        have hm1 : ¬ (m : Int) < 0 := by omega
        have hm2 : ¬ (23 : Int) < (m : Int) := by omega
        have hm64 : (m : Int) < 64 := by omega
        clear hi
        have EN := Lib.hid (show opN ⟨2, xrel, xa, xb, xc, (m : Int), xj, xon, xf, xg, xlv, xls, xbound⟩ = 0 from if_pos HI.out)
        have hpw : (2 : Int) ^ m % 4294967296 = ((2 ^ m : Nat) : Int) := by have hq := Nat.pow_lt_pow_right (a := 2) (by omega) hm; rw [show ((2 : Int) ^ m) = ((2 ^ m : Nat) : Int) from by simp]; generalize (2 : Nat) ^ m = P at hq ⊢; omega
        have HPW := Lib.hid hpw
        clear hpw
        go_wp2_with (go_at_call 61; rw [HPW.out]; refine ((cube_one hm).mono (fun _ _ h => h.g (g := fun s => s m) (fun _ => rfl))).mono ?_; rintro e w5 ⟨v5, rfl, d5, n5⟩; obtain ⟨r1, r2, r3, r4, r5, r6, rfl⟩ := d5.form; have hr5 := keepN n5 HR.out; have z0 := cell1 (o := 0) hr5 rfl; have z1 := cell1 (o := 1) hr5 rfl; have zf := free1 hr5; have HR5 := Lib.hid hr5; have HD5 := Lib.hid d5; have HN5 := Lib.hid n5; clear hr5 d5 n5)
        have hw5 := setCell_heap (setCell_heap HR5.out 0 (.slice r1 r2 r3)) 1 (.slice r4 r5 r6)
        simp only [List.setIfInBounds_toArray, List.set_cons_zero, List.set_cons_succ] at hw5
        have y0 := cell1 (o := 0) hw5 rfl
        have y1 := cell1 (o := 1) hw5 rfl
        exact bodyPost_ret (v := .tuple #[.agg #[.slice r1 r2 r3, .slice r4 r5 r6], .int .i64 (0)]) (by simp [results, Tryz.results22, go_sem, y0, y1]) rfl ⟨_, by rw [EN.out], (isG_store HD5.out HR5.out).congr (fun c => (if_pos HI.out).symm), ((HNW.out.trans HN5.out).set (by show w.heap.size ≤ w.heap.size + 1; omega) _).set (by show w.heap.size ≤ w.heap.size + 1; omega) _⟩
      · have HI := Lib.hid hi
        have hi' : xi < 0 ∨ ¬ xi < 0 ∧ 23 < xi := by omega
        clear hi
        have EN := Lib.hid (show opN ⟨2, xrel, xa, xb, xc, xi, xj, xon, xf, xg, xlv, xls, xbound⟩ = 3 from if_neg HI.out)
        rcases hi' with hi' | ⟨hi1, hi'⟩
        all_goals
          go_wp2_with (go_at_call 20; refine (const_g false _).mono ?_; rintro e w5 ⟨v5, rfl, d5, n5⟩; obtain ⟨r1, r2, r3, r4, r5, r6, rfl⟩ := d5.form; have hr5 := keepN n5 HR.out; have z0 := cell1 (o := 0) hr5 rfl; have z1 := cell1 (o := 1) hr5 rfl; have zf := free1 hr5; have HR5 := Lib.hid hr5; have HD5 := Lib.hid d5; have HN5 := Lib.hid n5; clear hr5 d5 n5)
          have hw5 := setCell_heap (setCell_heap HR5.out 0 (.slice r1 r2 r3)) 1 (.slice r4 r5 r6)
          simp only [List.setIfInBounds_toArray, List.set_cons_zero, List.set_cons_succ] at hw5
          have y0 := cell1 (o := 0) hw5 rfl
          have y1 := cell1 (o := 1) hw5 rfl
          exact bodyPost_ret (v := .tuple #[.agg #[.slice r1 r2 r3, .slice r4 r5 r6], .int .i64 (3)]) (by simp [results, Tryz.results22, go_sem, y0, y1]) rfl ⟨_, by rw [EN.out], (isG_store HD5.out HR5.out).congr (fun c => (if_neg HI.out).symm), ((HNW.out.trans HN5.out).set (by show w.heap.size ≤ w.heap.size + 1; omega) _).set (by show w.heap.size ≤ w.heap.size + 1; omega) _⟩
    · have x0 : wc.cell? ⟨w.heap.size, 0, none⟩ = some (.int .u8 3) := cell1 (o := 0) HCX.out rfl
      have x8 : wc.cell? ⟨w.heap.size, 8, none⟩ = some (.int .u32 xf) := cell1 (o := 8) HCX.out rfl
      have x9 : wc.cell? ⟨w.heap.size, 9, none⟩ = some (.int .u32 xg) := cell1 (o := 9) HCX.out rfl
      go_wp2_with (go_at_call 61; refine (cube_g hf hg).mono ?_; rintro e w5 ⟨v5, rfl, d5, n5⟩; obtain ⟨r1, r2, r3, r4, r5, r6, rfl⟩ := d5.form; have hr5 := keepN n5 HR.out; have z0 := cell1 (o := 0) hr5 rfl; have z1 := cell1 (o := 1) hr5 rfl; have zf := free1 hr5; have HR5 := Lib.hid hr5; have HD5 := Lib.hid d5; have HN5 := Lib.hid n5; clear hr5 d5 n5)
      have hw5 := setCell_heap (setCell_heap HR5.out 0 (.slice r1 r2 r3)) 1 (.slice r4 r5 r6)
      simp only [List.setIfInBounds_toArray, List.set_cons_zero, List.set_cons_succ] at hw5
      have y0 := cell1 (o := 0) hw5 rfl
      have y1 := cell1 (o := 1) hw5 rfl
      exact bodyPost_ret (v := .tuple #[.agg #[.slice r1 r2 r3, .slice r4 r5 r6], .int .i64 (0)]) (by simp [results, Tryz.results22, go_sem, y0, y1]) rfl ⟨_, rfl, isG_store HD5.out HR5.out, ((HNW.out.trans HN5.out).set (by show w.heap.size ≤ w.heap.size + 1; omega) _).set (by show w.heap.size ≤ w.heap.size + 1; omega) _⟩
    · have x0 : wc.cell? ⟨w.heap.size, 0, none⟩ = some (.int .u8 4) := cell1 (o := 0) HCX.out rfl
      go_wp2_with (go_at_call 62; refine (not_g (HIA.out.near HNW.out)).mono ?_; rintro e w5 ⟨v5, rfl, d5, n5⟩; obtain ⟨r1, r2, r3, r4, r5, r6, rfl⟩ := d5.form; have hr5 := keepN n5 HR.out; have z0 := cell1 (o := 0) hr5 rfl; have z1 := cell1 (o := 1) hr5 rfl; have zf := free1 hr5; have HR5 := Lib.hid hr5; have HD5 := Lib.hid d5; have HN5 := Lib.hid n5; clear hr5 d5 n5)
      have hw5 := setCell_heap (setCell_heap HR5.out 0 (.slice r1 r2 r3)) 1 (.slice r4 r5 r6)
      simp only [List.setIfInBounds_toArray, List.set_cons_zero, List.set_cons_succ] at hw5
      have y0 := cell1 (o := 0) hw5 rfl
      have y1 := cell1 (o := 1) hw5 rfl
      exact bodyPost_ret (v := .tuple #[.agg #[.slice r1 r2 r3, .slice r4 r5 r6], .int .i64 (0)]) (by simp [results, Tryz.results22, go_sem, y0, y1]) rfl ⟨_, rfl, isG_store HD5.out HR5.out, ((HNW.out.trans HN5.out).set (by show w.heap.size ≤ w.heap.size + 1; omega) _).set (by show w.heap.size ≤ w.heap.size + 1; omega) _⟩
    · have x0 : wc.cell? ⟨w.heap.size, 0, none⟩ = some (.int .u8 5) := cell1 (o := 0) HCX.out rfl
      go_wp2_with (go_at_call 63; refine (and_g (HIA.out.near HNW.out) (HIB.out.near HNW.out)).mono ?_; rintro e w5 ⟨v5, rfl, d5, n5⟩; obtain ⟨r1, r2, r3, r4, r5, r6, rfl⟩ := d5.form; have hr5 := keepN n5 HR.out; have z0 := cell1 (o := 0) hr5 rfl; have z1 := cell1 (o := 1) hr5 rfl; have zf := free1 hr5; have HR5 := Lib.hid hr5; have HD5 := Lib.hid d5; have HN5 := Lib.hid n5; clear hr5 d5 n5)
      have hw5 := setCell_heap (setCell_heap HR5.out 0 (.slice r1 r2 r3)) 1 (.slice r4 r5 r6)
      simp only [List.setIfInBounds_toArray, List.set_cons_zero, List.set_cons_succ] at hw5
      have y0 := cell1 (o := 0) hw5 rfl
      have y1 := cell1 (o := 1) hw5 rfl
      exact bodyPost_ret (v := .tuple #[.agg #[.slice r1 r2 r3, .slice r4 r5 r6], .int .i64 (0)]) (by simp [results, Tryz.results22, go_sem, y0, y1]) rfl ⟨_, rfl, isG_store HD5.out HR5.out, ((HNW.out.trans HN5.out).set (by show w.heap.size ≤ w.heap.size + 1; omega) _).set (by show w.heap.size ≤ w.heap.size + 1; omega) _⟩
    · have x0 : wc.cell? ⟨w.heap.size, 0, none⟩ = some (.int .u8 6) := cell1 (o := 0) HCX.out rfl
      go_wp2_with (go_at_call 64; refine (or_g (HIA.out.near HNW.out) (HIB.out.near HNW.out)).mono ?_; rintro e w5 ⟨v5, rfl, d5, n5⟩; obtain ⟨r1, r2, r3, r4, r5, r6, rfl⟩ := d5.form; have hr5 := keepN n5 HR.out; have z0 := cell1 (o := 0) hr5 rfl; have z1 := cell1 (o := 1) hr5 rfl; have zf := free1 hr5; have HR5 := Lib.hid hr5; have HD5 := Lib.hid d5; have HN5 := Lib.hid n5; clear hr5 d5 n5)
      have hw5 := setCell_heap (setCell_heap HR5.out 0 (.slice r1 r2 r3)) 1 (.slice r4 r5 r6)
      simp only [List.setIfInBounds_toArray, List.set_cons_zero, List.set_cons_succ] at hw5
      have y0 := cell1 (o := 0) hw5 rfl
      have y1 := cell1 (o := 1) hw5 rfl
      exact bodyPost_ret (v := .tuple #[.agg #[.slice r1 r2 r3, .slice r4 r5 r6], .int .i64 (0)]) (by simp [results, Tryz.results22, go_sem, y0, y1]) rfl ⟨_, rfl, isG_store HD5.out HR5.out, ((HNW.out.trans HN5.out).set (by show w.heap.size ≤ w.heap.size + 1; omega) _).set (by show w.heap.size ≤ w.heap.size + 1; omega) _⟩
    · have x0 : wc.cell? ⟨w.heap.size, 0, none⟩ = some (.int .u8 7) := cell1 (o := 0) HCX.out rfl
      go_wp2_with (go_at_call 65; refine (xor_g (HIA.out.near HNW.out) (HIB.out.near HNW.out)).mono ?_; rintro e w5 ⟨v5, rfl, d5, n5⟩; obtain ⟨r1, r2, r3, r4, r5, r6, rfl⟩ := d5.form; have hr5 := keepN n5 HR.out; have z0 := cell1 (o := 0) hr5 rfl; have z1 := cell1 (o := 1) hr5 rfl; have zf := free1 hr5; have HR5 := Lib.hid hr5; have HD5 := Lib.hid d5; have HN5 := Lib.hid n5; clear hr5 d5 n5)
      have hw5 := setCell_heap (setCell_heap HR5.out 0 (.slice r1 r2 r3)) 1 (.slice r4 r5 r6)
      simp only [List.setIfInBounds_toArray, List.set_cons_zero, List.set_cons_succ] at hw5
      have y0 := cell1 (o := 0) hw5 rfl
      have y1 := cell1 (o := 1) hw5 rfl
      exact bodyPost_ret (v := .tuple #[.agg #[.slice r1 r2 r3, .slice r4 r5 r6], .int .i64 (0)]) (by simp [results, Tryz.results22, go_sem, y0, y1]) rfl ⟨_, rfl, isG_store HD5.out HR5.out, ((HNW.out.trans HN5.out).set (by show w.heap.size ≤ w.heap.size + 1; omega) _).set (by show w.heap.size ≤ w.heap.size + 1; omega) _⟩
    · have x0 : wc.cell? ⟨w.heap.size, 0, none⟩ = some (.int .u8 8) := cell1 (o := 0) HCX.out rfl
      go_wp2_with (go_at_call 66; refine (ite_g (HIA.out.near HNW.out) (HIB.out.near HNW.out) (HIC.out.near HNW.out)).mono ?_; rintro e w5 ⟨v5, rfl, d5, n5⟩; obtain ⟨r1, r2, r3, r4, r5, r6, rfl⟩ := d5.form; have hr5 := keepN n5 HR.out; have z0 := cell1 (o := 0) hr5 rfl; have z1 := cell1 (o := 1) hr5 rfl; have zf := free1 hr5; have HR5 := Lib.hid hr5; have HD5 := Lib.hid d5; have HN5 := Lib.hid n5; clear hr5 d5 n5)
      have hw5 := setCell_heap (setCell_heap HR5.out 0 (.slice r1 r2 r3)) 1 (.slice r4 r5 r6)
      simp only [List.setIfInBounds_toArray, List.set_cons_zero, List.set_cons_succ] at hw5
      have y0 := cell1 (o := 0) hw5 rfl
      have y1 := cell1 (o := 1) hw5 rfl
      exact bodyPost_ret (v := .tuple #[.agg #[.slice r1 r2 r3, .slice r4 r5 r6], .int .i64 (0)]) (by simp [results, Tryz.results22, go_sem, y0, y1]) rfl ⟨_, rfl, isG_store HD5.out HR5.out, ((HNW.out.trans HN5.out).set (by show w.heap.size ≤ w.heap.size + 1; omega) _).set (by show w.heap.size ≤ w.heap.size + 1; omega) _⟩
    · have x0 : wc.cell? ⟨w.heap.size, 0, none⟩ = some (.int .u8 9) := cell1 (o := 0) HCX.out rfl
      have x5 : wc.cell? ⟨w.heap.size, 5, none⟩ = some (.int .i64 xi) := cell1 (o := 5) HCX.out rfl
      have x7 : wc.cell? ⟨w.heap.size, 7, none⟩ = some (.bool xon) := cell1 (o := 7) HCX.out rfl
      go_wp2_with (go_at_call 41; refine (with_g (HIA.out.near HNW.out) xi xon).mono ?_; rintro e w5 ⟨v5, rfl, d5, n5⟩; obtain ⟨r1, r2, r3, r4, r5, r6, rfl⟩ := d5.form; have hr5 := keepN n5 HR.out; have z0 := cell1 (o := 0) hr5 rfl; have z1 := cell1 (o := 1) hr5 rfl; have zf := free1 hr5; have HR5 := Lib.hid hr5; have HD5 := Lib.hid d5; have HN5 := Lib.hid n5; clear hr5 d5 n5)
      have hw5 := setCell_heap (setCell_heap HR5.out 0 (.slice r1 r2 r3)) 1 (.slice r4 r5 r6)
      simp only [List.setIfInBounds_toArray, List.set_cons_zero, List.set_cons_succ] at hw5
      have y0 := cell1 (o := 0) hw5 rfl
      have y1 := cell1 (o := 1) hw5 rfl
      exact bodyPost_ret (v := .tuple #[.agg #[.slice r1 r2 r3, .slice r4 r5 r6], .int .i64 (0)]) (by simp [results, Tryz.results22, go_sem, y0, y1]) rfl ⟨_, rfl, isG_store HD5.out HR5.out, ((HNW.out.trans HN5.out).set (by show w.heap.size ≤ w.heap.size + 1; omega) _).set (by show w.heap.size ≤ w.heap.size + 1; omega) _⟩
    · have x0 : wc.cell? ⟨w.heap.size, 0, none⟩ = some (.int .u8 10) := cell1 (o := 0) HCX.out rfl
      have x8 : wc.cell? ⟨w.heap.size, 8, none⟩ = some (.int .u32 xf) := cell1 (o := 8) HCX.out rfl
      go_wp2_with (go_at_call 67; refine (exists_g (HIA.out.near HNW.out) hf).mono ?_; rintro e w5 ⟨v5, rfl, d5, n5⟩; obtain ⟨r1, r2, r3, r4, r5, r6, rfl⟩ := d5.form; have hr5 := keepN n5 HR.out; have z0 := cell1 (o := 0) hr5 rfl; have z1 := cell1 (o := 1) hr5 rfl; have zf := free1 hr5; have HR5 := Lib.hid hr5; have HD5 := Lib.hid d5; have HN5 := Lib.hid n5; clear hr5 d5 n5)
      have hw5 := setCell_heap (setCell_heap HR5.out 0 (.slice r1 r2 r3)) 1 (.slice r4 r5 r6)
      simp only [List.setIfInBounds_toArray, List.set_cons_zero, List.set_cons_succ] at hw5
      have y0 := cell1 (o := 0) hw5 rfl
      have y1 := cell1 (o := 1) hw5 rfl
      exact bodyPost_ret (v := .tuple #[.agg #[.slice r1 r2 r3, .slice r4 r5 r6], .int .i64 (0)]) (by simp [results, Tryz.results22, go_sem, y0, y1]) rfl ⟨_, rfl, isG_store HD5.out HR5.out, ((HNW.out.trans HN5.out).set (by show w.heap.size ≤ w.heap.size + 1; omega) _).set (by show w.heap.size ≤ w.heap.size + 1; omega) _⟩
    · have x0 : wc.cell? ⟨w.heap.size, 0, none⟩ = some (.int .u8 11) := cell1 (o := 0) HCX.out rfl
      have x8 : wc.cell? ⟨w.heap.size, 8, none⟩ = some (.int .u32 xf) := cell1 (o := 8) HCX.out rfl
      go_wp2_with (go_at_call 67; refine (forall_g (HIA.out.near HNW.out) hf).mono ?_; rintro e w5 ⟨v5, rfl, d5, n5⟩; obtain ⟨r1, r2, r3, r4, r5, r6, rfl⟩ := d5.form; have hr5 := keepN n5 HR.out; have z0 := cell1 (o := 0) hr5 rfl; have z1 := cell1 (o := 1) hr5 rfl; have zf := free1 hr5; have HR5 := Lib.hid hr5; have HD5 := Lib.hid d5; have HN5 := Lib.hid n5; clear hr5 d5 n5)
      have hw5 := setCell_heap (setCell_heap HR5.out 0 (.slice r1 r2 r3)) 1 (.slice r4 r5 r6)
      simp only [List.setIfInBounds_toArray, List.set_cons_zero, List.set_cons_succ] at hw5
      have y0 := cell1 (o := 0) hw5 rfl
      have y1 := cell1 (o := 1) hw5 rfl
      exact bodyPost_ret (v := .tuple #[.agg #[.slice r1 r2 r3, .slice r4 r5 r6], .int .i64 (0)]) (by simp [results, Tryz.results22, go_sem, y0, y1]) rfl ⟨_, rfl, isG_store HD5.out HR5.out, ((HNW.out.trans HN5.out).set (by show w.heap.size ≤ w.heap.size + 1; omega) _).set (by show w.heap.size ≤ w.heap.size + 1; omega) _⟩
    · have x0 : wc.cell? ⟨w.heap.size, 0, none⟩ = some (.int .u8 12) := cell1 (o := 0) HCX.out rfl
      have x8 : wc.cell? ⟨w.heap.size, 8, none⟩ = some (.int .u32 xf) := cell1 (o := 8) HCX.out rfl
      have x5 : wc.cell? ⟨w.heap.size, 5, none⟩ = some (.int .i64 xi) := cell1 (o := 5) HCX.out rfl
      have x6 : wc.cell? ⟨w.heap.size, 6, none⟩ = some (.int .i64 xj) := cell1 (o := 6) HCX.out rfl
      go_wp2_with (go_at_call 68; refine (between_g hf xi xj _).mono ?_; rintro e w5 ⟨v5, rfl, d5, n5⟩; obtain ⟨r1, r2, r3, r4, r5, r6, rfl⟩ := d5.form; have hr5 := keepN n5 HR.out; have z0 := cell1 (o := 0) hr5 rfl; have z1 := cell1 (o := 1) hr5 rfl; have zf := free1 hr5; have HR5 := Lib.hid hr5; have HD5 := Lib.hid d5; have HN5 := Lib.hid n5; clear hr5 d5 n5)
      have hw5 := setCell_heap (setCell_heap HR5.out 0 (.slice r1 r2 r3)) 1 (.slice r4 r5 r6)
      simp only [List.setIfInBounds_toArray, List.set_cons_zero, List.set_cons_succ] at hw5
      have y0 := cell1 (o := 0) hw5 rfl
      have y1 := cell1 (o := 1) hw5 rfl
      exact bodyPost_ret (v := .tuple #[.agg #[.slice r1 r2 r3, .slice r4 r5 r6], .int .i64 (0)]) (by simp [results, Tryz.results22, go_sem, y0, y1]) rfl ⟨_, rfl, isG_store HD5.out HR5.out, ((HNW.out.trans HN5.out).set (by show w.heap.size ≤ w.heap.size + 1; omega) _).set (by show w.heap.size ≤ w.heap.size + 1; omega) _⟩
    · have x0 : wc.cell? ⟨w.heap.size, 0, none⟩ = some (.int .u8 13) := cell1 (o := 0) HCX.out rfl
      have x1 : wc.cell? ⟨w.heap.size, 1, none⟩ = some (.int .u8 xrel) := cell1 (o := 1) HCX.out rfl
      have x10 : wc.cell? ⟨w.heap.size, 10, none⟩ = some (xlv) := cell1 (o := 10) HCX.out rfl
      have x11 : wc.cell? ⟨w.heap.size, 11, none⟩ = some (.int .i64 xbound) := cell1 (o := 11) HCX.out rfl
      obtain ⟨N, hNN⟩ : ∃ N : Int, N = if LinOk xls xrel then 0 else 2 := ⟨_, rfl⟩
      have HNN := Lib.hid hNN
      have EN := Lib.hid (show opN ⟨13, xrel, xa, xb, xc, xi, xj, xon, xf, xg, xlv, xls, xbound⟩ = N from hNN.symm)
      clear hNN
      go_wp2_with (go_at_call 69; refine ((linear_g (w := wc) (v := xlv) (l := xls) (rel := xrel) (bound := xbound) (HX.out.list.near HNW.out) (Nat.le_trans hl40 (by decide))).mono (fun e w' h => (show ∃ v, e = .returned (.tuple #[v, .int .i64 N]) ∧ IsG w' v (if LinOk xls xrel then linF xls xrel xbound else fun _ => false) ∧ Near wc w' from by rw [HNN.out]; exact h))).mono ?_; rintro e w5 ⟨v5, rfl, d5, n5⟩; obtain ⟨r1, r2, r3, r4, r5, r6, rfl⟩ := d5.form; have hr5 := keepN n5 HR.out; have z0 := cell1 (o := 0) hr5 rfl; have z1 := cell1 (o := 1) hr5 rfl; have zf := free1 hr5; have HR5 := Lib.hid hr5; have HD5 := Lib.hid d5; have HN5 := Lib.hid n5; clear hr5 d5 n5)
      have hw5 := setCell_heap (setCell_heap HR5.out 0 (.slice r1 r2 r3)) 1 (.slice r4 r5 r6)
      simp only [List.setIfInBounds_toArray, List.set_cons_zero, List.set_cons_succ] at hw5
      have y0 := cell1 (o := 0) hw5 rfl
      have y1 := cell1 (o := 1) hw5 rfl
      exact bodyPost_ret (v := .tuple #[.agg #[.slice r1 r2 r3, .slice r4 r5 r6], .int .i64 (N)]) (by simp [results, Tryz.results22, go_sem, y0, y1]) rfl ⟨_, by rw [EN.out], isG_store HD5.out HR5.out, ((HNW.out.trans HN5.out).set (by show w.heap.size ≤ w.heap.size + 1; omega) _).set (by show w.heap.size ≤ w.heap.size + 1; omega) _⟩
    · have x0 : wc.cell? ⟨w.heap.size, 0, none⟩ = some (.int .u8 14) := cell1 (o := 0) HCX.out rfl
      have HLE := Lib.hid (show n < 1048576 from hn)
      go_wp2_with (go_at_call 20; refine (const_g true _).mono ?_; rintro e w5 ⟨v5, rfl, d5, n5⟩; obtain ⟨r1, r2, r3, r4, r5, r6, rfl⟩ := d5.form; have HD5 := Lib.hid d5; have HN5 := Lib.hid n5; clear d5 n5)
      have hE : (w5.alloc (Obj.cells #[Value.slice r1 r2 r3, Value.slice r4 r5 r6] 39)).heap[w5.heap.size]? = some (.cells #[.slice r1 r2 r3, .slice r4 r5 r6] 39 (0, 0)) := heap_new_at rfl
      have hR5 := keepN (HN5.out.alloc (Obj.cells #[Value.slice r1 r2 r3, Value.slice r4 r5 r6] 39)) HR.out
      have hC5 := keepN (HN5.out.alloc (Obj.cells #[Value.slice r1 r2 r3, Value.slice r4 r5 r6] 39)) HCX.out
      have hn5 := HN5.out.alloc (Obj.cells #[Value.slice r1 r2 r3, Value.slice r4 r5 r6] 39)
      have hD : IsG (w5.alloc (Obj.cells #[Value.slice r1 r2 r3, Value.slice r4 r5 r6] 39)) (.agg #[.slice r1 r2 r3, .slice r4 r5 r6]) (allF (fs.take 0)) := (HD5.out.near ((Near.refl _).alloc _)).congr fun c => rfl
      have hS5 : Sets 39 IsG base (w5.alloc (Obj.cells #[Value.slice r1 r2 r3, Value.slice r4 r5 r6] 39)) (.slice (some ⟨gg, 0, none⟩) n cap) fs := HS.out.map (HNW.out.trans hn5) (fun _ _ h => h.near (HNW.out.trans hn5))
      have hNw := HNW.out.trans hn5
      have hsz : w.heap.size + 1 < w5.heap.size := Nat.lt_of_lt_of_le (Array.getElem?_eq_some_iff.1 HR.out).1 HN5.out.size'
      generalize hW : w5.alloc (Obj.cells #[Value.slice r1 r2 r3, Value.slice r4 r5 r6] 39) = W5 at hE hR5 hC5 hD hS5 hNw ⊢
      clear hW
      have HE := Lib.hid hE
      have HR5 := Lib.hid hR5
      have HC5 := Lib.hid hC5
      have HD := Lib.hid hD
      have HS5 := Lib.hid hS5
      have HNw := Lib.hid hNw
      have hWl : w5.heap.size < W5.heap.size := (Array.getElem?_eq_some_iff.1 hE).1
      clear hE hR5 hC5 hD hS5 hNw hn5 HN5 HD5 kA0 kA1 kB0 kB1 kC0 kC1 x0
      go_loopw [10] (fun i wr => ∃ (k : Nat) (u1 : Option Addr) (u2 u3 : Nat) (u4 : Option Addr) (u5 u6 : Nat), k ≤ n ∧ i = .int .i64 k ∧ wr.heap[w5.heap.size]? = some (.cells #[.slice u1 u2 u3, .slice u4 u5 u6] 39 (0, 0)) ∧ IsG wr (.agg #[.slice u1 u2 u3, .slice u4 u5 u6]) (allF (fs.take k)) ∧ Kept (fun j => j = w5.heap.size) W5 wr) (fun i _ => n - (intOf i).toNat)
      case atStart => exact ⟨0, r1, r2, r3, r4, r5, r6, Nat.zero_le _, rfl, HE.out, HD.out, Kept.refl _ _⟩
      case round =>
        obtain ⟨k, u1, u2, u3, u4, u5, u6, hk, rfl, he, hd, hkp⟩ := hrel
        have HC := Lib.hid he
        have HF := Lib.hid hd
        have HK := Lib.hid hkp
        have hRr := Lib.hid ((hkp.block (w.heap.size + 1) (by omega) (by omega)).trans HR5.out)
        have hCr := (hkp.block w.heap.size (by omega) (by omega)).trans HC5.out
        have x0 : wr.cell? ⟨w.heap.size, 0, none⟩ = some (.int .u8 14) := cell1 (o := 0) hCr rfl
        have hwr := hkp.size
        clear he hd hkp hCr
        by_cases hlt : k < n
        · have hlt' : (k : Int) < n := by omega
          have hfk : fs[k]? = some (fs[k]'(by rw [HNL.out]; exact hlt)) := List.getElem?_eq_getElem (by rw [HNL.out]; exact hlt)
          obtain ⟨g, xc, p, q, hx, -, hgl, z0, z1, hi⟩ := HS5.out.get hfk
          simp only [Value.slice.injEq, Option.some.injEq, Addr.mk.injEq, and_true] at hx
          obtain ⟨rfl, -⟩ := hx
          obtain ⟨p1, p2, p3, p4, p5, p6, hpe⟩ := hi.form
          simp only [Value.agg.injEq, Array.mk.injEq, List.cons.injEq, and_true] at hpe
          obtain ⟨rfl, rfl⟩ := hpe
          have hgne : gg ≠ w5.heap.size := fun e => by obtain ⟨vs, hrow, _⟩ := HS.out; have h2 := (hrow.lt gg rfl).2; omega
          have y0 := HK.out.cell z0 (by exact hgne)
          have y1 := HK.out.cell z1 (by exact hgne)
          have hik : IsG wr (.agg #[.slice p1 p2 p3, .slice p4 p5 p6]) (fs[k]'(by rw [HNL.out]; exact hlt)) := hi.keptOf HK.out HE.out
          have hts : ∀ c, (allF (fs.take k) c && (fs[k]'(by rw [HNL.out]; exact hlt)) c) = allF (fs.take (k + 1)) c := fun c => by rw [List.take_succ_eq_append_getElem (by rw [HNL.out]; exact hlt), allF_snoc]
          have HI := Lib.hid hik
          have HTS := Lib.hid hts
          generalize (fs[k]'(by rw [HNL.out]; exact hlt)) = fk at HI HTS
          clear hi z0 z1 hik hts hfk
          have q0 := cell1 (o := 0) HC.out rfl
          have q1 := cell1 (o := 1) HC.out rfl
          have HSK := Lib.hid (show ∀ w', Near wr w' → w'.cell? ⟨w5.heap.size, 0, none⟩ = some (.slice u1 u2 u3) ∧ w'.cell? ⟨w5.heap.size, 1, none⟩ = some (.slice u4 u5 u6) ∧ w'.cell? ⟨gg, k * 2, none⟩ = some (.slice p1 p2 p3) ∧ w'.cell? ⟨gg, k * 2 + 1, none⟩ = some (.slice p4 p5 p6) from fun w' h => ⟨h.cell q0, h.cell q1, h.cell y0, h.cell y1⟩)
          go_wp2_with fail
          refine wp_region_noPanic ?_
          refine wp_region_Z (by kernel_rfl) (fun w' => w'.cell? ⟨w5.heap.size, 0, none⟩ = some (.slice u1 u2 u3) ∧ w'.cell? ⟨w5.heap.size, 1, none⟩ = some (.slice u4 u5 u6) ∧ w'.cell? ⟨gg, k * 2, none⟩ = some (.slice p1 p2 p3) ∧ w'.cell? ⟨gg, k * 2 + 1, none⟩ = some (.slice p4 p5 p6)) 6 (HSK.out _ (Near.refl _).drew) (fun hS => ?_)
          refine takeZ0 (v := Value.agg #[Value.slice u1 u2 u3, Value.slice u4 u5 u6]) (by kernel_rfl) (by kernel_rfl) (by kernel_rfl) (by kernel_rfl) (fun _ _ _ h => h) (Or.inl ⟨by rfl, fun w' hS' => by dsimp only at hS'; obtain ⟨s0, s1, s2, s3⟩ := hS'; go_simp⟩) hS ?_
          try simp only [Act.put, List.setIfInBounds_toArray, List.set_cons_zero, List.set_cons_succ]
          refine takeZ1 (v := Value.slice (some ⟨gg, 0, none⟩) n cap) (by kernel_rfl) (by kernel_rfl) (by kernel_rfl) (by kernel_rfl) (fun _ _ _ h => h) (Or.inl ⟨by rfl, fun w' hS' => by dsimp only at hS'; obtain ⟨s0, s1, s2, s3⟩ := hS'; go_simp⟩) hS ?_
          try simp only [Act.put, List.setIfInBounds_toArray, List.set_cons_zero, List.set_cons_succ]
          refine takeZ2 (v := Value.int IntKind.i64 k) (by kernel_rfl) (by kernel_rfl) (by kernel_rfl) (by kernel_rfl) (fun _ _ _ h => h) (Or.inl ⟨by rfl, fun w' hS' => by dsimp only at hS'; obtain ⟨s0, s1, s2, s3⟩ := hS'; go_simp⟩) hS ?_
          try simp only [Act.put, List.setIfInBounds_toArray, List.set_cons_zero, List.set_cons_succ]
          refine takeZ3 (v := Value.pointer (some ⟨gg, k * 2, none⟩)) (by kernel_rfl) (by kernel_rfl) (by kernel_rfl) (by kernel_rfl) (fun _ _ _ h => h) (Or.inl ⟨by rfl, fun w' hS' => by dsimp only at hS'; obtain ⟨s0, s1, s2, s3⟩ := hS'; go_simp⟩) hS ?_
          try simp only [Act.put, List.setIfInBounds_toArray, List.set_cons_zero, List.set_cons_succ]
          refine takeZ4 (v := Value.agg #[Value.slice p1 p2 p3, Value.slice p4 p5 p6]) (by kernel_rfl) (by kernel_rfl) (by kernel_rfl) (by kernel_rfl) (fun _ _ _ h => h) (Or.inl ⟨by rfl, fun w' hS' => by dsimp only at hS'; obtain ⟨s0, s1, s2, s3⟩ := hS'; go_simp⟩) hS ?_
          try simp only [Act.put, List.setIfInBounds_toArray, List.set_cons_zero, List.set_cons_succ]
          refine oneZ5 (by kernel_rfl) (fun K hK => ?_)
          go_simp
          go_wp2_with (go_at_call 63; refine (and_g (HF.out.near (Near.refl wr).drew) (HI.out.near (Near.refl wr).drew)).mono ?_; rintro e z3 ⟨v3, rfl, hv3, n3⟩)
          have N3 : Near wr z3 := (Near.refl wr).drew.trans n3
          refine hK.out _ _ (Or.inr (HSK.out _ N3)) ?_
          clear hK K
          obtain ⟨c1, c2, c3, c4, c5, c6, rfl⟩ := hv3.form
          have he3 := keepN N3 HC.out
          have e0 := cell1 (o := 0) he3 rfl
          have e1 := cell1 (o := 1) he3 rfl
          have ef := free1 he3
          try simp only [Act.put, List.setIfInBounds_toArray, List.set_cons_zero, List.set_cons_succ]
          refine oneZ6 (by kernel_rfl) (fun K hK => ?_)
          go_simp
          refine hK.out _ _ (Or.inl rfl) ?_
          clear hK K
          try simp only [Act.put, List.setIfInBounds_toArray, List.set_cons_zero, List.set_cons_succ]
          refine wpAnyZ_done (by kernel_rfl) ?_
          refine NoPanic.normal ?_
          have hG := (isG_store hv3 he3).congr HTS.out
          have hK3 : Kept (fun j => j = w5.heap.size) W5 ((z3.setCell ⟨w5.heap.size, 0, none⟩ (.slice c1 c2 c3)).setCell ⟨w5.heap.size, 1, none⟩ (.slice c4 c5 c6)) := ((HK.out.trans N3.kept).setCell (p := ⟨w5.heap.size, 0, none⟩) (fun _ => rfl) _).setCell (p := ⟨w5.heap.size, 1, none⟩) (fun _ => rfl) _
          have hH := stored37 he3 c1 c2 c3 c4 c5 c6
          have HG := Lib.hid hG
          have HK3 := Lib.hid hK3
          have HH := Lib.hid hH
          clear hG hK3 hH e0 e1 ef q0 q1 y0 y1 x0 hS
          generalize (z3.setCell ⟨w5.heap.size, 0, none⟩ (.slice c1 c2 c3)).setCell ⟨w5.heap.size, 1, none⟩ (.slice c4 c5 c6) = w9 at HG HK3 HH ⊢
          go_wp2_with fail
          exact ⟨⟨k + 1, c1, c2, c3, c4, c5, c6, by omega, by go_num, HH.out, HG.out, HK3.out⟩, by simp [intOf]; omega⟩
        · have hkl : k = n := by omega
          subst hkl
          have q0 := cell1 (o := 0) HC.out rfl
          have q1 := cell1 (o := 1) HC.out rfl
          have z0 := cell1 (o := 0) hRr.out rfl
          have z1 := cell1 (o := 1) hRr.out rfl
          have zf := free1 hRr.out
          go_wp2_with fail
          have hnw : Near w wr := Kept.mono (HNw.out.kept.trans HK.out) (fun j hj e => by omega)
          have hw5 := setCell_heap (setCell_heap hRr.out 0 (.slice u1 u2 u3)) 1 (.slice u4 u5 u6)
          simp only [List.setIfInBounds_toArray, List.set_cons_zero, List.set_cons_succ] at hw5
          have y0 := cell1 (o := 0) hw5 rfl
          have y1 := cell1 (o := 1) hw5 rfl
          have hG := isG_store HF.out hRr.out
          rw [← HNL.out, List.take_length] at hG
          exact bodyPost_ret (v := .tuple #[.agg #[.slice u1 u2 u3, .slice u4 u5 u6], .int .i64 0]) (by simp [results, Tryz.results22, go_sem, y0, y1]) rfl ⟨_, rfl, hG, ((hnw).set (by show w.heap.size ≤ w.heap.size + 1; omega) _).set (by show w.heap.size ≤ w.heap.size + 1; omega) _⟩
    · have x0 : wc.cell? ⟨w.heap.size, 0, none⟩ = some (.int .u8 15) := cell1 (o := 0) HCX.out rfl
      have HLE := Lib.hid (show n < 1048576 from hn)
      go_wp2_with (go_at_call 20; refine (const_g false _).mono ?_; rintro e w5 ⟨v5, rfl, d5, n5⟩; obtain ⟨r1, r2, r3, r4, r5, r6, rfl⟩ := d5.form; have HD5 := Lib.hid d5; have HN5 := Lib.hid n5; clear d5 n5)
      have hE : (w5.alloc (Obj.cells #[Value.slice r1 r2 r3, Value.slice r4 r5 r6] 39)).heap[w5.heap.size]? = some (.cells #[.slice r1 r2 r3, .slice r4 r5 r6] 39 (0, 0)) := heap_new_at rfl
      have hR5 := keepN (HN5.out.alloc (Obj.cells #[Value.slice r1 r2 r3, Value.slice r4 r5 r6] 39)) HR.out
      have hC5 := keepN (HN5.out.alloc (Obj.cells #[Value.slice r1 r2 r3, Value.slice r4 r5 r6] 39)) HCX.out
      have hn5 := HN5.out.alloc (Obj.cells #[Value.slice r1 r2 r3, Value.slice r4 r5 r6] 39)
      have hD : IsG (w5.alloc (Obj.cells #[Value.slice r1 r2 r3, Value.slice r4 r5 r6] 39)) (.agg #[.slice r1 r2 r3, .slice r4 r5 r6]) (anyF (fs.take 0)) := (HD5.out.near ((Near.refl _).alloc _)).congr fun c => rfl
      have hS5 : Sets 39 IsG base (w5.alloc (Obj.cells #[Value.slice r1 r2 r3, Value.slice r4 r5 r6] 39)) (.slice (some ⟨gg, 0, none⟩) n cap) fs := HS.out.map (HNW.out.trans hn5) (fun _ _ h => h.near (HNW.out.trans hn5))
      have hNw := HNW.out.trans hn5
      have hsz : w.heap.size + 1 < w5.heap.size := Nat.lt_of_lt_of_le (Array.getElem?_eq_some_iff.1 HR.out).1 HN5.out.size'
      generalize hW : w5.alloc (Obj.cells #[Value.slice r1 r2 r3, Value.slice r4 r5 r6] 39) = W5 at hE hR5 hC5 hD hS5 hNw ⊢
      clear hW
      have HE := Lib.hid hE
      have HR5 := Lib.hid hR5
      have HC5 := Lib.hid hC5
      have HD := Lib.hid hD
      have HS5 := Lib.hid hS5
      have HNw := Lib.hid hNw
      have hWl : w5.heap.size < W5.heap.size := (Array.getElem?_eq_some_iff.1 hE).1
      clear hE hR5 hC5 hD hS5 hNw hn5 HN5 HD5 kA0 kA1 kB0 kB1 kC0 kC1 x0
      go_loopw [10] (fun i wr => ∃ (k : Nat) (u1 : Option Addr) (u2 u3 : Nat) (u4 : Option Addr) (u5 u6 : Nat), k ≤ n ∧ i = .int .i64 k ∧ wr.heap[w5.heap.size]? = some (.cells #[.slice u1 u2 u3, .slice u4 u5 u6] 39 (0, 0)) ∧ IsG wr (.agg #[.slice u1 u2 u3, .slice u4 u5 u6]) (anyF (fs.take k)) ∧ Kept (fun j => j = w5.heap.size) W5 wr) (fun i _ => n - (intOf i).toNat)
      case atStart => exact ⟨0, r1, r2, r3, r4, r5, r6, Nat.zero_le _, rfl, HE.out, HD.out, Kept.refl _ _⟩
      case round =>
        obtain ⟨k, u1, u2, u3, u4, u5, u6, hk, rfl, he, hd, hkp⟩ := hrel
        have HC := Lib.hid he
        have HF := Lib.hid hd
        have HK := Lib.hid hkp
        have hRr := Lib.hid ((hkp.block (w.heap.size + 1) (by omega) (by omega)).trans HR5.out)
        have hCr := (hkp.block w.heap.size (by omega) (by omega)).trans HC5.out
        have x0 : wr.cell? ⟨w.heap.size, 0, none⟩ = some (.int .u8 15) := cell1 (o := 0) hCr rfl
        have hwr := hkp.size
        clear he hd hkp hCr
        by_cases hlt : k < n
        · have hlt' : (k : Int) < n := by omega
          have hfk : fs[k]? = some (fs[k]'(by rw [HNL.out]; exact hlt)) := List.getElem?_eq_getElem (by rw [HNL.out]; exact hlt)
          obtain ⟨g, xc, p, q, hx, -, hgl, z0, z1, hi⟩ := HS5.out.get hfk
          simp only [Value.slice.injEq, Option.some.injEq, Addr.mk.injEq, and_true] at hx
          obtain ⟨rfl, -⟩ := hx
          obtain ⟨p1, p2, p3, p4, p5, p6, hpe⟩ := hi.form
          simp only [Value.agg.injEq, Array.mk.injEq, List.cons.injEq, and_true] at hpe
          obtain ⟨rfl, rfl⟩ := hpe
          have hgne : gg ≠ w5.heap.size := fun e => by obtain ⟨vs, hrow, _⟩ := HS.out; have h2 := (hrow.lt gg rfl).2; omega
          have y0 := HK.out.cell z0 (by exact hgne)
          have y1 := HK.out.cell z1 (by exact hgne)
          have hik : IsG wr (.agg #[.slice p1 p2 p3, .slice p4 p5 p6]) (fs[k]'(by rw [HNL.out]; exact hlt)) := hi.keptOf HK.out HE.out
          have hts : ∀ c, (anyF (fs.take k) c || (fs[k]'(by rw [HNL.out]; exact hlt)) c) = anyF (fs.take (k + 1)) c := fun c => by rw [List.take_succ_eq_append_getElem (by rw [HNL.out]; exact hlt), anyF_snoc]
          have HI := Lib.hid hik
          have HTS := Lib.hid hts
          generalize (fs[k]'(by rw [HNL.out]; exact hlt)) = fk at HI HTS
          clear hi z0 z1 hik hts hfk
          have q0 := cell1 (o := 0) HC.out rfl
          have q1 := cell1 (o := 1) HC.out rfl
          have HSK := Lib.hid (show ∀ w', Near wr w' → w'.cell? ⟨w5.heap.size, 0, none⟩ = some (.slice u1 u2 u3) ∧ w'.cell? ⟨w5.heap.size, 1, none⟩ = some (.slice u4 u5 u6) ∧ w'.cell? ⟨gg, k * 2, none⟩ = some (.slice p1 p2 p3) ∧ w'.cell? ⟨gg, k * 2 + 1, none⟩ = some (.slice p4 p5 p6) from fun w' h => ⟨h.cell q0, h.cell q1, h.cell y0, h.cell y1⟩)
          go_wp2_with fail
          refine wp_region_noPanic ?_
          refine wp_region_Z (by kernel_rfl) (fun w' => w'.cell? ⟨w5.heap.size, 0, none⟩ = some (.slice u1 u2 u3) ∧ w'.cell? ⟨w5.heap.size, 1, none⟩ = some (.slice u4 u5 u6) ∧ w'.cell? ⟨gg, k * 2, none⟩ = some (.slice p1 p2 p3) ∧ w'.cell? ⟨gg, k * 2 + 1, none⟩ = some (.slice p4 p5 p6)) 6 (HSK.out _ (Near.refl _).drew) (fun hS => ?_)
          refine takeZ0 (v := Value.agg #[Value.slice u1 u2 u3, Value.slice u4 u5 u6]) (by kernel_rfl) (by kernel_rfl) (by kernel_rfl) (by kernel_rfl) (fun _ _ _ h => h) (Or.inl ⟨by rfl, fun w' hS' => by dsimp only at hS'; obtain ⟨s0, s1, s2, s3⟩ := hS'; go_simp⟩) hS ?_
          try simp only [Act.put, List.setIfInBounds_toArray, List.set_cons_zero, List.set_cons_succ]
          refine takeZ1 (v := Value.slice (some ⟨gg, 0, none⟩) n cap) (by kernel_rfl) (by kernel_rfl) (by kernel_rfl) (by kernel_rfl) (fun _ _ _ h => h) (Or.inl ⟨by rfl, fun w' hS' => by dsimp only at hS'; obtain ⟨s0, s1, s2, s3⟩ := hS'; go_simp⟩) hS ?_
          try simp only [Act.put, List.setIfInBounds_toArray, List.set_cons_zero, List.set_cons_succ]
          refine takeZ2 (v := Value.int IntKind.i64 k) (by kernel_rfl) (by kernel_rfl) (by kernel_rfl) (by kernel_rfl) (fun _ _ _ h => h) (Or.inl ⟨by rfl, fun w' hS' => by dsimp only at hS'; obtain ⟨s0, s1, s2, s3⟩ := hS'; go_simp⟩) hS ?_
          try simp only [Act.put, List.setIfInBounds_toArray, List.set_cons_zero, List.set_cons_succ]
          refine takeZ3 (v := Value.pointer (some ⟨gg, k * 2, none⟩)) (by kernel_rfl) (by kernel_rfl) (by kernel_rfl) (by kernel_rfl) (fun _ _ _ h => h) (Or.inl ⟨by rfl, fun w' hS' => by dsimp only at hS'; obtain ⟨s0, s1, s2, s3⟩ := hS'; go_simp⟩) hS ?_
          try simp only [Act.put, List.setIfInBounds_toArray, List.set_cons_zero, List.set_cons_succ]
          refine takeZ4 (v := Value.agg #[Value.slice p1 p2 p3, Value.slice p4 p5 p6]) (by kernel_rfl) (by kernel_rfl) (by kernel_rfl) (by kernel_rfl) (fun _ _ _ h => h) (Or.inl ⟨by rfl, fun w' hS' => by dsimp only at hS'; obtain ⟨s0, s1, s2, s3⟩ := hS'; go_simp⟩) hS ?_
          try simp only [Act.put, List.setIfInBounds_toArray, List.set_cons_zero, List.set_cons_succ]
          refine oneZ5 (by kernel_rfl) (fun K hK => ?_)
          go_simp
          go_wp2_with (go_at_call 64; refine (or_g (HF.out.near (Near.refl wr).drew) (HI.out.near (Near.refl wr).drew)).mono ?_; rintro e z3 ⟨v3, rfl, hv3, n3⟩)
          have N3 : Near wr z3 := (Near.refl wr).drew.trans n3
          refine hK.out _ _ (Or.inr (HSK.out _ N3)) ?_
          clear hK K
          obtain ⟨c1, c2, c3, c4, c5, c6, rfl⟩ := hv3.form
          have he3 := keepN N3 HC.out
          have e0 := cell1 (o := 0) he3 rfl
          have e1 := cell1 (o := 1) he3 rfl
          have ef := free1 he3
          try simp only [Act.put, List.setIfInBounds_toArray, List.set_cons_zero, List.set_cons_succ]
          refine oneZ6 (by kernel_rfl) (fun K hK => ?_)
          go_simp
          refine hK.out _ _ (Or.inl rfl) ?_
          clear hK K
          try simp only [Act.put, List.setIfInBounds_toArray, List.set_cons_zero, List.set_cons_succ]
          refine wpAnyZ_done (by kernel_rfl) ?_
          refine NoPanic.normal ?_
          have hG := (isG_store hv3 he3).congr HTS.out
          have hK3 : Kept (fun j => j = w5.heap.size) W5 ((z3.setCell ⟨w5.heap.size, 0, none⟩ (.slice c1 c2 c3)).setCell ⟨w5.heap.size, 1, none⟩ (.slice c4 c5 c6)) := ((HK.out.trans N3.kept).setCell (p := ⟨w5.heap.size, 0, none⟩) (fun _ => rfl) _).setCell (p := ⟨w5.heap.size, 1, none⟩) (fun _ => rfl) _
          have hH := stored37 he3 c1 c2 c3 c4 c5 c6
          have HG := Lib.hid hG
          have HK3 := Lib.hid hK3
          have HH := Lib.hid hH
          clear hG hK3 hH e0 e1 ef q0 q1 y0 y1 x0 hS
          generalize (z3.setCell ⟨w5.heap.size, 0, none⟩ (.slice c1 c2 c3)).setCell ⟨w5.heap.size, 1, none⟩ (.slice c4 c5 c6) = w9 at HG HK3 HH ⊢
          go_wp2_with fail
          exact ⟨⟨k + 1, c1, c2, c3, c4, c5, c6, by omega, by go_num, HH.out, HG.out, HK3.out⟩, by simp [intOf]; omega⟩
        · have hkl : k = n := by omega
          subst hkl
          have q0 := cell1 (o := 0) HC.out rfl
          have q1 := cell1 (o := 1) HC.out rfl
          have z0 := cell1 (o := 0) hRr.out rfl
          have z1 := cell1 (o := 1) hRr.out rfl
          have zf := free1 hRr.out
          go_wp2_with fail
          have hnw : Near w wr := Kept.mono (HNw.out.kept.trans HK.out) (fun j hj e => by omega)
          have hw5 := setCell_heap (setCell_heap hRr.out 0 (.slice u1 u2 u3)) 1 (.slice u4 u5 u6)
          simp only [List.setIfInBounds_toArray, List.set_cons_zero, List.set_cons_succ] at hw5
          have y0 := cell1 (o := 0) hw5 rfl
          have y1 := cell1 (o := 1) hw5 rfl
          have hG := isG_store HF.out hRr.out
          rw [← HNL.out, List.take_length] at hG
          exact bodyPost_ret (v := .tuple #[.agg #[.slice u1 u2 u3, .slice u4 u5 u6], .int .i64 0]) (by simp [results, Tryz.results22, go_sem, y0, y1]) rfl ⟨_, rfl, hG, ((hnw).set (by show w.heap.size ≤ w.heap.size + 1; omega) _).set (by show w.heap.size ≤ w.heap.size + 1; omega) _⟩
    · have x0 : wc.cell? ⟨w.heap.size, 0, none⟩ = some (.int .u8 xop) := cell1 (o := 0) HCX.out rfl
      have e1 : ((xop : Int) == 1) = false := beq_eq_false_iff_ne.2 (by omega)
      have e2 : ((xop : Int) == 2) = false := beq_eq_false_iff_ne.2 (by omega)
      have e3 : ((xop : Int) == 3) = false := beq_eq_false_iff_ne.2 (by omega)
      have e4 : ((xop : Int) == 4) = false := beq_eq_false_iff_ne.2 (by omega)
      have e5 : ((xop : Int) == 5) = false := beq_eq_false_iff_ne.2 (by omega)
      have e6 : ((xop : Int) == 6) = false := beq_eq_false_iff_ne.2 (by omega)
      have e7 : ((xop : Int) == 7) = false := beq_eq_false_iff_ne.2 (by omega)
      have e8 : ((xop : Int) == 8) = false := beq_eq_false_iff_ne.2 (by omega)
      have e9 : ((xop : Int) == 9) = false := beq_eq_false_iff_ne.2 (by omega)
      have e10 : ((xop : Int) == 10) = false := beq_eq_false_iff_ne.2 (by omega)
      have e11 : ((xop : Int) == 11) = false := beq_eq_false_iff_ne.2 (by omega)
      have e12 : ((xop : Int) == 12) = false := beq_eq_false_iff_ne.2 (by omega)
      have e13 : ((xop : Int) == 13) = false := beq_eq_false_iff_ne.2 (by omega)
      have e14 : ((xop : Int) == 14) = false := beq_eq_false_iff_ne.2 (by omega)
      have e15 : ((xop : Int) == 15) = false := beq_eq_false_iff_ne.2 (by omega)
      have HBig := Lib.hid hbig
      clear hbig
      go_wp2_with (go_at_call 20; refine (const_g false _).mono ?_; rintro e w5 ⟨v5, rfl, d5, n5⟩; obtain ⟨r1, r2, r3, r4, r5, r6, rfl⟩ := d5.form; have hr5 := keepN n5 HR.out; have z0 := cell1 (o := 0) hr5 rfl; have z1 := cell1 (o := 1) hr5 rfl; have zf := free1 hr5; have HR5 := Lib.hid hr5; have HD5 := Lib.hid d5; have HN5 := Lib.hid n5; clear hr5 d5 n5)
      have hw5 := setCell_heap (setCell_heap HR5.out 0 (.slice r1 r2 r3)) 1 (.slice r4 r5 r6)
      simp only [List.setIfInBounds_toArray, List.set_cons_zero, List.set_cons_succ] at hw5
      have y0 := cell1 (o := 0) hw5 rfl
      have y1 := cell1 (o := 1) hw5 rfl
      exact bodyPost_ret (v := .tuple #[.agg #[.slice r1 r2 r3, .slice r4 r5 r6], .int .i64 (0)]) (by simp [results, Tryz.results22, go_sem, y0, y1]) rfl ⟨_, by rw [opN_else HBig.out], by rw [opF_else _ HBig.out]; exact isG_store HD5.out HR5.out, ((HNW.out.trans HN5.out).set (by show w.heap.size ≤ w.heap.size + 1; omega) _).set (by show w.heap.size ≤ w.heap.size + 1; omega) _⟩

end Go.Proofs.YtefclohjeompkaaGreat
