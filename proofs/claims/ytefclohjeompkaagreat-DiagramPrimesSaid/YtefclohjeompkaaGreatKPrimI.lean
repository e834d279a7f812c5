/- Parts of a proof: SortS, SortT, SortU, SortV, SortN, PrimF, PrimI. -/
import Derived.Shelf.SlSortCmp.WholeK
import Derived.Ground.SlsfProg
import Derived.Test.YtefclohjeompkaaGreatProg
import Derived.Maps.OwnSet
import Derived.WalkKit
import Derived.Deep.QuietTactic
import Derived.KernelRfl
import Derived.DeepKeys4
import Derived.Deep.RegionLaw
import Derived.StillTailTactics
import Derived.Maps.AppendAt
import Derived.WalkSpells
import Derived.WalkLawsBesides
import Derived.BigQuiet
import Derived.Lib.Hide
import Derived.Deep.DeepCutAuto
import Derived.Laws.EntriesVeiled
import Derived.Deep.RegionHeld3
import Derived.Laws.OwnMore
import Derived.Deep.Slices
import Derived.Lib.BitFns
import Derived.IntWalk
import Derived.RangeFuncNested
import Derived.RangeFuncBound
import Derived.RangeFuncCalls
import Derived.RangeFuncLeaves
import Derived.Shelf.Abstract
import Derived.Shelf.RegionOpen
import Derived.OwnWalkIn
import Derived.TacticsInMore
import Derived.LoopNIn
import Derived.LoopIn
import Derived.Laws.CopyOwn
import Derived.Laws.BitsAllLaws
import Derived.RangeFuncWrites
import Derived.Deep.Onto
import Derived.Test.YtefclohjeompkaaGreatKTreeC
import Derived.Test.YtefclohjeompkaaGreatKRep
import Derived.Test.YtefclohjeompkaaGreatKJoinD
import Derived.Test.YtefclohjeompkaaGreatKCmpA
import Derived.Test.YtefclohjeompkaaGreatKRefH
import Derived.Test.YtefclohjeompkaaGreatKOfB
import Derived.Test.YtefclohjeompkaaGreatKAlike
import Derived.Test.YtefclohjeompkaaGreatKBetA
import Derived.Test.YtefclohjeompkaaGreatKBetB
import Derived.Test.YtefclohjeompkaaGreatKLinF
import Derived.Test.YtefclohjeompkaaGreatKLinH
import Derived.Test.YtefclohjeompkaaGreatKLinJ
import Derived.Test.YtefclohjeompkaaGreatKSteps3
import Derived.Test.YtefclohjeompkaaGreatKFAll
import Derived.Test.YtefclohjeompkaaGreatKOpenA
import Derived.Test.YtefclohjeompkaaGreatKColl
import Derived.Test.YtefclohjeompkaaGreatKRefW
import Derived.Test.YtefclohjeompkaaGreatKPrimB
import Derived.Test.YtefclohjeompkaaGreatKSaidB
import Derived.Test.YtefclohjeompkaaGreatKTwoF
import Derived.Test.YtefclohjeompkaaGreatKPrimE
/- SortS: what is needed of it. -/
namespace Go.Proofs.YtefclohjeompkaaGreat
open Go Go.RowKit Go.Shelf
def sortCube_ren : Go.Shelf.Ren := ⟨fun | 6 => 32 | 15 => 74 | 14 => 73 | 28 => 102 | 29 => 103 | 20 => 94 | 21 => 95 | 22 => 96 | 23 => 97 | 24 => 98 | 25 => 99 | 26 => 100 | 27 => 101 | 46 => 108 | 47 => 109 | 48 => 110 | 49 => 111 | 50 => 112 | 57 => 113 | n => n, fun | 22 => 29 | 24 => 42 | 25 => 75 | 3 => 3 | 39 => 76 | 0 => 0 | 53 => 40 | 55 => 49 | 4 => 4 | 46 => 140 | 45 => 139 | 50 => 144 | 5 => 5 | 9 => 9 | 66 => 155 | 70 => 159 | 76 => 161 | 77 => 162 | n => n, fun | n => n⟩

theorem sortCube : Go.Proofs.SlLaysF0.n6 Tryz.prog sortCube_ren := {
  mixed := by kernel_rfl
  f6 := ⟨Tryz.f32.name, by decide, Tryz.func32.trans (congrArg some (by kernel_rfl))⟩
  f14 := ⟨Tryz.f73.name, by decide, Tryz.func73.trans (congrArg some (by kernel_rfl))⟩
  f15 := Tryz.func74.trans (congrArg some (by kernel_rfl))
  f20 := ⟨Tryz.f94.name, by decide, Tryz.func94.trans (congrArg some (by kernel_rfl))⟩
  f21 := ⟨Tryz.f95.name, by decide, Tryz.func95.trans (congrArg some (by kernel_rfl))⟩
  f22 := ⟨Tryz.f96.name, by decide, Tryz.func96.trans (congrArg some (by kernel_rfl))⟩
  f23 := ⟨Tryz.f97.name, by decide, Tryz.func97.trans (congrArg some (by kernel_rfl))⟩
  f24 := ⟨Tryz.f98.name, by decide, Tryz.func98.trans (congrArg some (by kernel_rfl))⟩
  f25 := ⟨Tryz.f99.name, by decide, Tryz.func99.trans (congrArg some (by kernel_rfl))⟩
  f26 := ⟨Tryz.f100.name, by decide, Tryz.func100.trans (congrArg some (by kernel_rfl))⟩
  f27 := ⟨Tryz.f101.name, by decide, Tryz.func101.trans (congrArg some (by kernel_rfl))⟩
  f28 := Tryz.func102.trans (congrArg some (by kernel_rfl))
  f29 := Tryz.func103.trans (congrArg some (by kernel_rfl))
  f46 := ⟨Tryz.f108.name, by decide, Tryz.func108.trans (congrArg some (by kernel_rfl))⟩
  f47 := Tryz.func109.trans (congrArg some (by kernel_rfl))
  f48 := Tryz.func110.trans (congrArg some (by kernel_rfl))
  f49 := ⟨Tryz.f111.name, by decide, Tryz.func111.trans (congrArg some (by kernel_rfl))⟩
  f50 := ⟨Tryz.f112.name, by decide, Tryz.func112.trans (congrArg some (by kernel_rfl))⟩
  f57 := ⟨Tryz.f113.name, by decide, Tryz.func113.trans (congrArg some (by kernel_rfl))⟩
  t0 := Tryz.underlying0
  a0 := Tryz.isAgg0
  z0 := Tryz.sizeOf0
  v0 := Tryz.zeroValue0
  t3 := Tryz.underlying3
  a3 := Tryz.isAgg3
  z3 := Tryz.sizeOf3
  v3 := Tryz.zeroValue3
  t4 := Tryz.underlying4
  a4 := Tryz.isAgg4
  z4 := Tryz.sizeOf4
  v4 := Tryz.zeroValue4
  t5 := Tryz.underlying5
  a5 := Tryz.isAgg5
  z5 := Tryz.sizeOf5
  v5 := Tryz.zeroValue5
  t9 := Tryz.underlying9
  a9 := Tryz.isAgg9
  z9 := Tryz.sizeOf9
  v9 := Tryz.zeroValue9
  t22 := Tryz.underlying29
  a22 := Tryz.isAgg29
  z22 := Tryz.sizeOf29
  v22 := Tryz.zeroValue29
  t25 := Tryz.underlying75
  a25 := Tryz.isAgg75
  z25 := Tryz.sizeOf75
  v25 := Tryz.zeroValue75
  t39 := Tryz.underlying76
  a39 := Tryz.isAgg76
  z39 := Tryz.sizeOf76
  v39 := Tryz.zeroValue76
  t45 := Tryz.underlying139
  a45 := Tryz.isAgg139
  z45 := Tryz.sizeOf139
  v45 := Tryz.zeroValue139
  t46 := Tryz.underlying140
  a46 := Tryz.isAgg140
  z46 := Tryz.sizeOf140
  v46 := Tryz.zeroValue140
  t50 := Tryz.underlying144
  a50 := Tryz.isAgg144
  z50 := Tryz.sizeOf144
  v50 := Tryz.zeroValue144
  t53 := Tryz.underlying40
  a53 := Tryz.isAgg40
  z53 := Tryz.sizeOf40
  v53 := Tryz.zeroValue40
  t55 := Tryz.underlying49
  a55 := Tryz.isAgg49
  z55 := Tryz.sizeOf49
  v55 := Tryz.zeroValue49
  t66 := Tryz.underlying155
  a66 := Tryz.isAgg155
  z66 := Tryz.sizeOf155
  v66 := Tryz.zeroValue155
  t70 := Tryz.underlying159
  a70 := Tryz.isAgg159
  z70 := Tryz.sizeOf159
  v70 := Tryz.zeroValue159
  t76 := Tryz.underlying161
  a76 := Tryz.isAgg161
  z76 := Tryz.sizeOf161
  v76 := Tryz.zeroValue161
  t77 := Tryz.underlying162
  a77 := Tryz.isAgg162
  z77 := Tryz.sizeOf162
  v77 := Tryz.zeroValue162 }

end Go.Proofs.YtefclohjeompkaaGreat

/- SortT: what is needed of it. -/
namespace Go.Proofs.YtefclohjeompkaaGreat
open Go Go.RowKit Go.Sort Go.Proofs.Gen Go.Proofs.Bdd Go.Proofs.Bdd.T
/-- Draws and new blocks alone. -/
def Grown (w w' : World) : Prop := ∃ q os, w' = grow (w.drewN q) os

theorem Grown.refl (w : World) : Grown w w := ⟨0, #[], by rw [grow_empty]; rfl⟩

theorem grow_drewN (w : World) (os : Array Obj) (q : Nat) : (grow w os).drewN q = grow (w.drewN q) os := rfl

theorem Grown.trans {a b c : World} (h : Grown a b) (k : Grown b c) : Grown a c := by
  obtain ⟨q, os, rfl⟩ := h
  obtain ⟨q', os', rfl⟩ := k
  refine ⟨q + q', os ++ os', ?_⟩
  rw [grow_drewN, grow_grow]
  congr 1
  simp [World.drewN, Nat.add_assoc]

theorem Grown.alloc {a b : World} (h : Grown a b) (o : Obj) : Grown a (b.alloc o) := h.trans ⟨0, #[o], by rw [alloc_eq_grow]; rfl⟩

theorem Grown.drewN {a b : World} (h : Grown a b) (n : Nat) : Grown a (b.drewN n) := h.trans ⟨n, #[], by rw [grow_empty]⟩

theorem Grown.drew {a b : World} (h : Grown a b) : Grown a b.drew := h.drewN 1

theorem Grown.near {a b : World} (h : Grown a b) : Near a b := by
  obtain ⟨q, os, rfl⟩ := h
  refine ⟨rfl, rfl, rfl, by simp [grow, World.drewN], fun k hk _ => ?_⟩
  show ((a.drewN q).heap ++ os)[k]? = _
  rw [Array.getElem?_append_left (by simpa [World.drewN] using hk)]
  rfl

set_option maxRecDepth 100000 in
set_option maxHeartbeats 1600000 in
theorem ones_exact (x : Nat) (hx : x < 4294967296) (w : World) : Calls Tryz.prog 24 #[.int .u32 x] w fun e w' => e = .returned (.int .i64 (Lib.pop8 ((x / 16777216 : Nat) : Int) + Lib.pop8 ((x / 65536 % 256 : Nat) : Int) + Lib.pop8 ((x / 256 % 256 : Nat) : Int) + Lib.pop8 ((x % 256 : Nat) : Int))) ∧ ∃ q, w' = w.drewN q := by
  have fold := pop_fold
  have e1 : (x : Int) / 16777216 = ((x / 16777216 : Nat) : Int) := by omega
  have e2 : bits .and .u32 ((x : Int) / 65536) 255 = ((x / 65536 % 256 : Nat) : Int) := byte_and x 16 hx
  have e3 : bits .and .u32 ((x : Int) / 256) 255 = ((x / 256 % 256 : Nat) : Int) := byte_and x 8 hx
  have e4 : bits .and .u32 (x : Int) 255 = ((x % 256 : Nat) : Int) := by
    have := byte_and x 0 hx
    simpa using this
  obtain ⟨y1, h1⟩ : ∃ y, y = x / 16777216 := ⟨_, rfl⟩
  obtain ⟨y2, h2⟩ : ∃ y, y = x / 65536 % 256 := ⟨_, rfl⟩
  obtain ⟨y3, h3⟩ : ∃ y, y = x / 256 % 256 := ⟨_, rfl⟩
  obtain ⟨y4, h4⟩ : ∃ y, y = x % 256 := ⟨_, rfl⟩
  have l1 : y1 < 256 := by omega
  have l2 : y2 < 256 := by omega
  have l3 : y3 < 256 := by omega
  have l4 : y4 < 256 := by omega
  rw [← h1] at e1 ⊢
  rw [← h2] at e2 ⊢
  rw [← h3] at e3 ⊢
  rw [← h4] at e4 ⊢
  clear h1 h2 h3 h4
  obtain ⟨p1, p1'⟩ := pop_le l1
  obtain ⟨p2, p2'⟩ := pop_le l2
  obtain ⟨p3, p3'⟩ := pop_le l3
  obtain ⟨p4, p4'⟩ := pop_le l4
  have m1 : (y1 : Int) ≤ 255 := by omega
  have m2 : (y2 : Int) ≤ 255 := by omega
  have m3 : (y3 : Int) ≤ 255 := by omega
  have m4 : (y4 : Int) ≤ 255 := by omega
  generalize hq1 : Lib.pop8 (y1 : Int) = q1 at p1 p1' ⊢
  generalize hq2 : Lib.pop8 (y2 : Int) = q2 at p2 p2' ⊢
  generalize hq3 : Lib.pop8 (y3 : Int) = q3 at p3 p3' ⊢
  generalize hq4 : Lib.pop8 (y4 : Int) = q4 at p4 p4' ⊢
  go_enter Tryz.func24, Tryz.ntmps24
  go_wp2_with fail
  go_quiet (fail)
  all_goals
    go_wp2_with fail
    exact bodyPost_ret (v := .int .i64 (q1 + q2 + q3 + q4)) (by simp [results, Tryz.results24, go_sem]) rfl ⟨rfl, _, rfl⟩

set_option maxRecDepth 100000 in
set_option maxHeartbeats 800000 in
theorem nan3_calls (a : Int) (w : World) : Calls Tryz.prog 75 #[.int .i64 a] w fun e w' => e = .returned (.bool false) ∧ w' = w := by
  go_enter Tryz.func75, Tryz.ntmps75
  go_wp2_with fail
  exact bodyPost_ret (v := .bool false) (by simp [results, Tryz.results75, go_sem]) rfl ⟨rfl, rfl⟩

set_option maxRecDepth 100000 in
set_option maxHeartbeats 800000 in
theorem compare3_calls (a b : Int) (w : World) : Calls Tryz.prog 35 #[.int .i64 a, .int .i64 b] w fun e w' => e = .returned (.int .i64 (cmpI a b)) ∧ w' = w := by
  have hq : cmpI a b = if a < b then -1 else if b < a then 1 else 0 := rfl
  by_cases h1 : a < b
  · rw [if_pos h1] at hq
    rw [hq]
    clear hq
    go_enter Tryz.func35, Tryz.ntmps35
    go_wp2_with (first
      | (go_at_call 75; refine (nan3_calls _ _).mono ?_; rintro e w1 ⟨rfl, rfl⟩))
    exact bodyPost_ret (v := .int .i64 (-1)) (by simp [results, Tryz.results35, go_sem]) rfl ⟨rfl, rfl⟩
  · rw [if_neg h1] at hq
    by_cases h2 : b < a
    · rw [if_pos h2] at hq
      rw [hq]
      clear hq
      go_enter Tryz.func35, Tryz.ntmps35
      go_wp2_with (first
        | (go_at_call 75; refine (nan3_calls _ _).mono ?_; rintro e w1 ⟨rfl, rfl⟩))
      exact bodyPost_ret (v := .int .i64 1) (by simp [results, Tryz.results35, go_sem]) rfl ⟨rfl, rfl⟩
    · rw [if_neg h2] at hq
      rw [hq]
      clear hq
      go_enter Tryz.func35, Tryz.ntmps35
      go_wp2_with (first
        | (go_at_call 75; refine (nan3_calls _ _).mono ?_; rintro e w1 ⟨rfl, rfl⟩))
      exact bodyPost_ret (v := .int .i64 0) (by simp [results, Tryz.results35, go_sem]) rfl ⟨rfl, rfl⟩

theorem ones_grown {x : Nat} (h : x < 16777216) (w : World) : Calls Tryz.prog 24 #[.int .u32 x] w fun e w' => e = .returned (.int .i64 (feats x).length) ∧ Grown w w' := by
  rw [← ones_feats h]
  exact (ones_exact x (by omega) w).mono fun e w' ⟨h1, q, h2⟩ => ⟨h1, q, #[], by rw [h2, grow_empty]⟩

/-- A cube: what it has and what it has not. -/
structure Cub where
  on : Nat
  off : Nat
  hon : on < 16777216
  hoff : off < 16777216

instance : Inhabited Cub := ⟨⟨0, 0, by omega, by omega⟩⟩

theorem Cub.eq {x y : Cub} (h1 : x.on = y.on) (h2 : x.off = y.off) : x = y := by
  cases x
  cases y
  simp at h1 h2
  subst h1
  subst h2
  rfl

def encB (x : Cub) : List Value := [.int .u32 x.on, .int .u32 x.off]

def Cub.size (x : Cub) : Nat := (feats (x.on ||| x.off)).length

set_option maxRecDepth 100000 in
set_option maxHeartbeats 800000 in
theorem csize_calls {x y : Nat} (hx : x < 16777216) (hy : y < 16777216) (w : World) : Calls Tryz.prog 31 #[.agg #[.int .u32 x, .int .u32 y]] w fun e w' => e = .returned (.int .i64 (feats (x ||| y)).length) ∧ Grown w w' := by
  have ho : bits .or .u32 (x : Int) (y : Int) = ((x ||| y : Nat) : Int) := Go.Proofs.Gen.u32_or x y (by omega) (by omega)
  have hl : x ||| y < 16777216 := Nat.or_lt_two_pow (n := 24) hx hy
  have HO := Lib.hid (fun (w' : World) => ones_grown hl w')
  generalize x ||| y = z at ho HO ⊢
  generalize (feats z).length = n at HO ⊢
  go_enter Tryz.func31, Tryz.ntmps31
  go_wp2_with (go_at_call 24; refine (HO.out _).mono ?_; rintro e w1 ⟨rfl, n1⟩)
  exact bodyPost_ret (v := .int .i64 n) (by simp [results, Tryz.results31, go_sem]) rfl ⟨rfl, ((Grown.refl w).alloc _).trans n1⟩

/-- The first one that is not 0. -/
def or3 (a b c : Int) : Int := if a = 0 then (if b = 0 then c else b) else a

set_option maxRecDepth 100000 in
set_option maxHeartbeats 800000 in
theorem cmpOr3_calls {g : Nat} {x y z : Int} {w : World} (c0 : w.cell? ⟨g, 0, none⟩ = some (.int .i64 x)) (c1 : w.cell? ⟨g, 1, none⟩ = some (.int .i64 y)) (c2 : w.cell? ⟨g, 2, none⟩ = some (.int .i64 z)) :
    Calls Tryz.prog 34 #[.slice (some ⟨g, 0, none⟩) 3 3] w fun e w' => e = .returned (.int .i64 (or3 x y z)) ∧ w' = w := by
  have hr : or3 x y z = if x = 0 then (if y = 0 then z else y) else x := rfl
  obtain ⟨r, hrr⟩ : ∃ r, or3 x y z = r := ⟨_, rfl⟩
  rw [hrr] at hr ⊢
  have HR := Lib.hid hr
  clear hr hrr
  go_enter Tryz.func34, Tryz.ntmps34
  go_wp2_with fail
  go_loopw [8] (fun i wr => ∃ k : Nat, k ≤ 3 ∧ i = .int .i64 k ∧ (0 < k → x = 0) ∧ (1 < k → y = 0) ∧ (2 < k → z = 0) ∧ wr = w) (fun i _ => 3 - (intOf i).toNat)
  case atStart => exact ⟨0, by omega, rfl, fun h => by omega, fun h => by omega, fun h => by omega, rfl⟩
  case round =>
    obtain ⟨k, hk, rfl, k1, k2, k3, rfl⟩ := hrel
    obtain rfl | rfl | rfl | rfl : k = 0 ∨ k = 1 ∨ k = 2 ∨ k = 3 := by omega
    · clear k1 k2 k3
      by_cases h : x = 0
      · subst h
        go_wp2_with fail
        exact ⟨⟨1, by omega, rfl, by simp, by simp, by simp, trivial⟩, by simp [intOf]⟩
      · have h' : (x == 0) = false := by simpa using h
        have hr := HR.out
        rw [if_neg h] at hr
        have HR2 := Lib.hid hr
        clear hr
        go_wp2_with fail
        exact bodyPost_ret (v := .int .i64 x) (by simp [results, Tryz.results34, go_sem]) rfl ⟨by rw [HR2.out], rfl⟩
    · have hx := k1 (by omega)
      subst hx
      clear k1 k2 k3
      by_cases h : y = 0
      · subst h
        go_wp2_with fail
        exact ⟨⟨2, by omega, rfl, by simp, by simp, by simp, trivial⟩, by simp [intOf]⟩
      · have h' : (y == 0) = false := by simpa using h
        have hr := HR.out
        rw [if_pos rfl, if_neg h] at hr
        have HR2 := Lib.hid hr
        clear hr
        go_wp2_with fail
        exact bodyPost_ret (v := .int .i64 y) (by simp [results, Tryz.results34, go_sem]) rfl ⟨by rw [HR2.out], rfl⟩
    · have hx := k1 (by omega)
      have hy := k2 (by omega)
      subst hx
      subst hy
      clear k1 k2 k3
      have hr := HR.out
      rw [if_pos rfl, if_pos rfl] at hr
      have HR2 := Lib.hid hr
      clear hr
      by_cases h : z = 0
      · subst h
        go_wp2_with fail
        exact ⟨⟨3, by omega, rfl, by simp, by simp, by simp, trivial⟩, by simp [intOf]⟩
      · have h' : (z == 0) = false := by simpa using h
        go_wp2_with fail
        exact bodyPost_ret (v := .int .i64 z) (by simp [results, Tryz.results34, go_sem]) rfl ⟨by rw [HR2.out], rfl⟩
    · have hx := k1 (by omega)
      have hy := k2 (by omega)
      have hz := k3 (by omega)
      subst hx
      subst hy
      subst hz
      have hr := HR.out
      rw [if_pos rfl, if_pos rfl] at hr
      have HR2 := Lib.hid hr
      clear hr k1 k2 k3
      go_wp2_with fail
      exact bodyPost_ret (v := .int .i64 0) (by simp [results, Tryz.results34, go_sem]) rfl ⟨by rw [HR2.out], rfl⟩

end Go.Proofs.YtefclohjeompkaaGreat

/- SortU: what is needed of it. -/
namespace Go.Proofs.YtefclohjeompkaaGreat
open Go Go.RowKit Go.Shelf Go.Sort Go.Proofs.Gen Go.Proofs.Bdd Go.Proofs.Bdd.T
/-- How two cubes compare. -/
def cmpC (x y : Cub) : Int := or3 (cmpI x.size y.size) (cmpI x.on y.on) (cmpI x.off y.off)

set_option maxRecDepth 100000 in
set_option maxHeartbeats 3200000 in
theorem cmpc_calls {W : World} {bs : Nat} (hb : W.cell? ⟨bs, 0, none⟩ = some (.func (.func 31) #[] #[])) (x y : Cub) :
    Calls Tryz.prog 33 #[.agg #[.int .u32 x.on, .int .u32 x.off], .agg #[.int .u32 y.on, .int .u32 y.off], .pointer (some ⟨bs, 0, none⟩)] W fun e w' => e = .returned (.int .i64 (cmpC x y)) ∧ Grown W w' := by
  have HS1 := Lib.hid (fun (w' : World) => csize_calls x.hon x.hoff w')
  have HS2 := Lib.hid (fun (w' : World) => csize_calls y.hon y.hoff w')
  have hr : cmpC x y = or3 (cmpI ((feats (x.on ||| x.off)).length : Nat) ((feats (y.on ||| y.off)).length : Nat)) (cmpI x.on y.on) (cmpI x.off y.off) := rfl
  rw [hr]
  generalize ((feats (x.on ||| x.off)).length : Nat) = n1 at HS1 ⊢
  generalize ((feats (y.on ||| y.off)).length : Nat) = n2 at HS2 ⊢
  clear hr
  generalize x.on = xo at HS1 ⊢
  generalize x.off = xf at HS1 ⊢
  generalize y.on = yo at HS2 ⊢
  generalize y.off = yf at HS2 ⊢
  have HC1 := Lib.hid (fun (w' : World) => compare3_calls (n1 : Int) n2 w')
  have HC2 := Lib.hid (fun (w' : World) => compare24_calls (xo : Int) yo w')
  have HC3 := Lib.hid (fun (w' : World) => compare24_calls (xf : Int) yf w')
  generalize cmpI (n1 : Int) n2 = q1 at HC1 ⊢
  generalize cmpI (xo : Int) yo = q2 at HC2 ⊢
  generalize cmpI (xf : Int) yf = q3 at HC3 ⊢
  have hlt := World.block_lt_of_cell? W _ hb
  have facts : ∀ w1, w1 = (W.alloc (.cells #[.int .u32 xo, .int .u32 xf] 42)).alloc (.cells #[.int .u32 yo, .int .u32 yf] 42) → Grown W w1 ∧ w1.heap[W.heap.size]? = some (.cells #[.int .u32 xo, .int .u32 xf] 42 (0, 0)) ∧ w1.heap[W.heap.size + 1]? = some (.cells #[.int .u32 yo, .int .u32 yf] 42 (0, 0)) := by
    rintro w1 rfl
    exact ⟨((Grown.refl W).alloc _).alloc _, (heap_old_at (by simp)).trans (heap_new_at rfl), heap_new_at (by simp)⟩
  go_enter Tryz.func33, Tryz.ntmps33
  go_upto_region 1 with fail
  have hf := facts _ rfl
  generalize (W.alloc (.cells #[.int .u32 xo, .int .u32 xf] 42)).alloc (.cells #[.int .u32 yo, .int .u32 yf] 42) = w1 at hf ⊢
  clear facts
  obtain ⟨hg, hx, hy⟩ := hf
  have HG := Lib.hid hg
  have HSK := Lib.hid (show ∀ w', Near w1 w' → w'.cell? ⟨bs, 0, none⟩ = some (.func (.func 31) #[] #[]) ∧ (w'.cell? ⟨W.heap.size, 0, none⟩ = some (.int .u32 xo) ∧ w'.cell? ⟨W.heap.size, 1, none⟩ = some (.int .u32 xf)) ∧ w'.cell? ⟨W.heap.size + 1, 0, none⟩ = some (.int .u32 yo) ∧ w'.cell? ⟨W.heap.size + 1, 1, none⟩ = some (.int .u32 yf) from
    fun w' h => ⟨h.cell (hg.near.cell hb), ⟨cell1 (o := 0) (keepN h hx) rfl, cell1 (o := 1) (keepN h hx) rfl⟩, cell1 (o := 0) (keepN h hy) rfl, cell1 (o := 1) (keepN h hy) rfl⟩)
  clear hg hx hy hb
  have G0 := Lib.hid (Grown.refl w1).drew
  go_region_held3 (fun w' => w'.cell? ⟨bs, 0, none⟩ = some (.func (.func 31) #[] #[]) ∧ (w'.cell? ⟨W.heap.size, 0, none⟩ = some (.int .u32 xo) ∧ w'.cell? ⟨W.heap.size, 1, none⟩ = some (.int .u32 xf)) ∧ w'.cell? ⟨W.heap.size + 1, 0, none⟩ = some (.int .u32 yo) ∧ w'.cell? ⟨W.heap.size + 1, 1, none⟩ = some (.int .u32 yf))
    (first | exact HSK.out _ G6.out.near | exact HSK.out _ (G5.out.alloc _).near | exact HSK.out _ G5.out.near | exact HSK.out _ G4.out.near | exact HSK.out _ G3.out.near | exact HSK.out _ G2.out.near | exact HSK.out _ G1.out.near | exact HSK.out _ G0.out.near)
    (first
      | (go_at_call 34; have hseen := G5; refine (cmpOr3_calls (g := v5.heap.size) (x := q1) (y := q2) (z := q3) (by simp) (by simp) (by simp)).mono ?_; rintro e v6 ⟨rfl, rfl⟩; have G6 := Lib.hid (G5.out.alloc (.cells #[.int .i64 q1, .int .i64 q2, .int .i64 q3] 3)))
      | (go_at_call 36; have hseen := G4; refine (HC3.out _).mono ?_; rintro e v5 ⟨rfl, h5⟩; have G5 := Lib.hid (show Grown w1 v5 from h5 ▸ G4.out); clear h5)
      | (go_at_call 36; have hseen := G3; refine (HC2.out _).mono ?_; rintro e v4 ⟨rfl, h4⟩; have G4 := Lib.hid (show Grown w1 v4 from h4 ▸ G3.out); clear h4)
      | (go_at_call 35; have hseen := G2; refine (HC1.out _).mono ?_; rintro e v3 ⟨rfl, h3⟩; have G3 := Lib.hid (show Grown w1 v3 from h3 ▸ G2.out); clear h3)
      | (go_at_call 31; have hseen := G1; refine (HS2.out _).mono ?_; rintro e v2 ⟨rfl, n2'⟩; have G2 := Lib.hid (G1.out.trans n2'); clear n2')
      | (go_at_call 31; refine (HS1.out _).mono ?_; rintro e v1 ⟨rfl, n1'⟩; have G1 := Lib.hid (G0.out.trans n1'); clear n1'))
  go_wp2_with fail
  exact bodyPost_ret (v := .int .i64 (or3 q1 q2 q3)) (by simp [results, Tryz.results33, go_sem]) rfl ⟨rfl, HG.out.trans G6.out⟩

end Go.Proofs.YtefclohjeompkaaGreat

/- SortV: what is needed of it. -/
namespace Go.Proofs.YtefclohjeompkaaGreat
open Go Go.RowKit Go.Shelf Go.Sort Go.Proofs.Gen Go.Proofs.Bdd Go.Proofs.Bdd.T
/-- The order of cubes. -/
def cubLt (x y : Cub) : Prop := x.size < y.size ∨ x.size = y.size ∧ (x.on < y.on ∨ x.on = y.on ∧ x.off < y.off)

instance (x y : Cub) : Decidable (cubLt x y) := by unfold cubLt; infer_instance

theorem lt_cmpC (x y : Cub) : ltOf cmpC x y = decide (cubLt x y) := by
  unfold ltOf
  rw [decide_eq_decide]
  unfold cmpC or3 cmpI cubLt
  generalize x.size = a
  generalize y.size = b
  generalize x.on = c
  generalize y.on = d
  generalize x.off = e
  generalize y.off = f
  by_cases h1 : (a : Int) < b
  · simp [h1]
    omega
  · by_cases h2 : (b : Int) < a
    · simp [h1, h2]
      omega
    · by_cases h3 : (c : Int) < d
      · simp [h1, h2, h3]
        omega
      · by_cases h4 : (d : Int) < c
        · simp [h1, h2, h3, h4]
          omega
        · by_cases h5 : (e : Int) < f
          · simp [h1, h2, h3, h4, h5]
            omega
          · by_cases h6 : (f : Int) < e
            · simp [h1, h2, h3, h4, h5, h6]
              omega
            · simp [h1, h2, h3, h4, h5, h6]
              omega

theorem swoC : SWO (ltOf cmpC) where
  irrefl x := by rw [lt_cmpC]; exact decide_eq_false (by unfold cubLt; omega)
  trans x y z h1 h2 := by
    rw [lt_cmpC] at *
    have h1 := of_decide_eq_true h1
    have h2 := of_decide_eq_true h2
    refine decide_eq_true ?_
    unfold cubLt at *
    omega
  ntrans x y z h1 h2 := by
    rw [lt_cmpC] at *
    have h1 := of_decide_eq_false h1
    have h2 := of_decide_eq_false h2
    refine decide_eq_false ?_
    unfold cubLt at *
    omega

theorem sortW_block {W : World} {blk : Nat} (n : Nat) (d : Array Cub) (os : Array Obj) {k : Nat} (hk : k < W.heap.size) (hne : k ≠ blk) : (sortWorldK encB 2 W blk 0 n d os).heap[k]? = W.heap[k]? := by
  unfold sortWorldK grow putRowK putRow mapBlock
  show ((W.heap.modify blk _) ++ os)[k]? = _
  rw [Array.getElem?_append_left (by simpa using hk), Array.getElem?_modify, if_neg (fun e => hne e.symm)]

theorem sortW_kept {W : World} {blk : Nat} (n : Nat) (d : Array Cub) (os : Array Obj) : Kept (fun b => b = blk) W (sortWorldK encB 2 W blk 0 n d os) := by
  refine ⟨rfl, rfl, rfl, ?_, fun k hk hs => sortW_block n d os hk hs⟩
  unfold sortWorldK grow putRowK putRow mapBlock
  show _ ≤ ((W.heap.modify blk _) ++ os).size
  simp

theorem perm_all {α : Type} [Inhabited α] {d d' : Array α} (h : PermIn 0 d.size d d') : d'.toList.Perm d.toList := by
  obtain ⟨h1, -, h3⟩ := h
  have e1 : d'.extract 0 d.size = d' := by rw [← h1]; simp
  have e2 : d.extract 0 d.size = d := by simp
  rwa [e1, e2] at h3

theorem sortc_calls {W : World} {bs blk cap : Nat} {d : Array Cub} (hb : W.cell? ⟨bs, 0, none⟩ = some (.func (.func 31) #[] #[])) (hne : bs ≠ blk) (hH : HoldsK encB 2 W blk 0 d) (hblk : blk < W.heap.size) (hsz : d.size < 4611686018427387904) :
    Calls Tryz.prog 32 #[.slice (some ⟨blk, 0, none⟩) d.size cap, .func (.func 33) #[] #[.pointer (some ⟨bs, 0, none⟩)]] W fun e w' => e = .returned (.tuple #[]) ∧ ∃ d' : Array Cub, d'.size = d.size ∧ d'.toList.Perm d.toList ∧ SortedIn (ltOf cmpC) 0 d.size d' ∧ HoldsK encB 2 w' blk 0 d' ∧ Kept (fun b => b = blk) W w' := by
  have hlt := World.block_lt_of_cell? W _ hb
  have eg : ∀ args w, (callFunc 33 args).run Tryz.prog w = .ok (.enter 33 args) w := call_enters Tryz.func33 (by kernel_rfl) rfl
  have hcmp : CmpLays Tryz.prog 33 #[.pointer (some ⟨bs, 0, none⟩)] encB 2 cmpC blk 0 d.size W := fun m os dk hs x y => by
    have hc : (sortWorldK encB 2 W blk 0 m dk os).cell? ⟨bs, 0, none⟩ = some (.func (.func 31) #[] #[]) := (World.cell?_of_block (a := ⟨bs, 0, none⟩) (sortW_block m dk os hlt hne)).trans hb
    exact cmpc_calls hc x y
  have hcon := AnyQ.slices_SortFunc sortCube 2 Tryz.isAgg42 Tryz.sizeOf42 encB (fun _ => rfl) (fun x v hv => by simp [encB] at hv; rcases hv with rfl | rfl <;> rfl) cmpC swoC 33 #[.pointer (some ⟨bs, 0, none⟩)] blk 0 cap d W eg hcmp hH hblk hsz
  change Calls Tryz.prog 32 _ _ _ at hcon
  refine hcon.mono ?_
  rintro e w' ⟨rfl, d', n, os, hp, hs, rfl⟩
  exact ⟨rfl, d', hp.1, perm_all hp, hs, holdsK_sortWorldK_c encB 2 W blk 0 d d' n os hH hblk hp.1, sortW_kept n d' os⟩

end Go.Proofs.YtefclohjeompkaaGreat

/- SortN: what is needed of it. -/
namespace Go.Proofs.YtefclohjeompkaaGreat
open Go Go.RowKit Go.Shelf Go.Sort Go.Proofs.Gen Go.Proofs.Bdd Go.Proofs.Bdd.T
set_option maxRecDepth 100000 in
set_option maxHeartbeats 1600000 in
theorem len64_zero (w : World) : Calls Tryz.prog 103 #[.int .u64 0] w fun e w' => (∃ l, e = .returned (.int .i64 l)) ∧ Near w w' := by
  go_enter Tryz.func103, Tryz.ntmps103
  go_wp2_with fail
  exact bodyPost_ret (v := .int .i64 (wrap64 (wrap64 (Lib.len8 0)))) (by simp [results, Tryz.results103, go_sem]) rfl ⟨⟨_, rfl⟩, Near.refl _⟩

set_option maxRecDepth 100000 in
set_option maxHeartbeats 1600000 in
theorem len_zero (w : World) : Calls Tryz.prog 74 #[.int .u64 0] w fun e w' => (∃ l, e = .returned (.int .i64 l)) ∧ Near w w' := by
  go_enter Tryz.func74, Tryz.ntmps74
  go_wp2_with (go_at_call 103; refine (len64_zero _).mono ?_; rintro e w1 ⟨⟨l, rfl⟩, n1⟩)
  exact bodyPost_ret (v := .int .i64 l) (by simp [results, Tryz.results74, go_sem]) rfl ⟨⟨_, rfl⟩, n1⟩

set_option maxRecDepth 100000 in
set_option maxHeartbeats 1600000 in
theorem insert_nil (w : World) (c : Value) : Calls Tryz.prog 94 #[.slice none 0 0, .int .i64 0, .int .i64 0, c] w fun e w' => e = .returned (.tuple #[]) ∧ Near w w' := by
  go_enter Tryz.func94, Tryz.ntmps94
  go_wp2_with fail
  go_loopw [8] (fun i wr => i = .int .i64 1 ∧ Near w wr) (fun _ _ => 0)
  case atStart => exact ⟨rfl, Near.refl _⟩
  case round =>
    obtain ⟨rfl, hn⟩ := hrel
    have HN := Lib.hid hn
    clear hn
    go_wp2_with fail
    go_end0
    exact ⟨rfl, HN.out⟩

set_option maxRecDepth 100000 in
set_option maxHeartbeats 1600000 in
theorem pdq_nil (w : World) (l : Int) (c : Value) : Calls Tryz.prog 73 #[.slice none 0 0, .int .i64 0, .int .i64 0, .int .i64 l, c] w fun e w' => e = .returned (.tuple #[]) ∧ Near w w' := by
  go_enter Tryz.func73, Tryz.ntmps73
  go_wp2_with fail
  go_loopw [1, 2, 3, 10, 11] (fun a b m x y wr => a = .int .i64 0 ∧ b = .int .i64 0 ∧ m = .int .i64 l ∧ x = .bool true ∧ y = .bool true ∧ Near w wr) (fun _ _ _ _ _ _ => 0)
  case atStart => exact ⟨rfl, rfl, rfl, rfl, rfl, Near.refl _⟩
  case round =>
    obtain ⟨rfl, rfl, rfl, rfl, rfl, hn⟩ := hrel
    have HN := Lib.hid hn
    clear hn
    go_wp2_with (go_at_call 94; refine (insert_nil _ _).mono ?_; rintro e w1 ⟨rfl, n1⟩)
    refine bodyPost_ret (results_none rfl _ _ _) rfl ?_
    exact ⟨rfl, HN.out.trans n1⟩

set_option maxRecDepth 100000 in
set_option maxHeartbeats 1600000 in
theorem sort_nil (w : World) (c : Value) : Calls Tryz.prog 32 #[.slice none 0 0, c] w fun e w' => e = .returned (.tuple #[]) ∧ Near w w' := by
  go_enter Tryz.func32, Tryz.ntmps32
  go_wp2_with (first
    | (go_at_call 74; refine (len_zero _).mono ?_; rintro e w1 ⟨⟨l, rfl⟩, n1⟩)
    | (go_at_call 73; refine (pdq_nil _ _ _).mono ?_; rintro e w2 ⟨rfl, n2⟩))
  go_end0
  exact ⟨rfl, n1.trans n2⟩

end Go.Proofs.YtefclohjeompkaaGreat

/- PrimF: what is needed of it. -/
namespace Go.Proofs.YtefclohjeompkaaGreat
open Go Go.RowKit Go.Shelf Go.Sort Go.Proofs.Gen Go.Proofs.Bdd Go.Proofs.Bdd.T
theorem supp_at {w : World} {v : Value} {f : F} {s : Nat} (h : IsF w v f) (hs : ∀ i, s.testBit i = dep f i) : Calls Tryz.prog 23 #[v] w fun e w' => e = .returned (.int .u32 (s : Nat)) ∧ Near w w' := by
  obtain ⟨s', -, h1, h2⟩ := support_f h
  obtain rfl : s' = s := Nat.eq_of_testBit_eq fun i => (h1 i).trans (hs i).symm
  exact h2

theorem onV_feats {f : F} (hl : LowF f 24) {s : Nat} (hs : ∀ i, s.testBit i = dep f i) : OnV (feats s) (feats s).length f := by
  intro c d hcd
  have hV : ∀ i, i ∈ feats s → c i = d i := fun i hi => by
    obtain ⟨j, hj, e⟩ := List.getElem_of_mem hi
    have := hcd j hj
    rw [List.getD_eq_getElem?_getD, List.getElem?_eq_getElem hj] at this
    simpa [e] using this
  have key : ∀ k, k ≤ 24 → f (fun i => if i < k then d i else c i) = f c := by
    intro k
    induction k with
    | zero => intro _; simp
    | succ k ih =>
      intro hk
      rw [← ih (by omega)]
      by_cases hm : k ∈ feats s
      · congr 1
        funext i
        by_cases e : i = k
        · subst e
          simp [hV i hm]
        · have : (i < k + 1) = (i < k) := by rw [eq_iff_iff]; omega
          simp [this]
      · have hd : dep f k = false := by
          rw [← hs]
          cases hb : s.testBit k with
          | false => rfl
          | true => exact absurd (feats_mem.2 ⟨by omega, hb⟩) hm
        rw [← dep_false hd (fun i => if i < k then d i else c i) (d k), updI_upd]
        congr 1
        funext i
        unfold upd
        by_cases e : i = k
        · subst e
          simp
        · have : (i < k + 1) = (i < k) := by rw [eq_iff_iff]; omega
          simp [e, this]
  rw [← key 24 (Nat.le_refl _)]
  exact hl _ _ fun i hi => by simp [hi]

theorem feats_at {s j : Nat} (hj : j < (feats s).length) : (feats s).getD j 0 ∈ feats s := by
  rw [List.getD_eq_getElem?_getD, List.getElem?_eq_getElem hj]
  exact List.getElem_mem hj

theorem feats_at_lt (s j : Nat) : (feats s).getD j 0 < 24 := by
  by_cases hj : j < (feats s).length
  · exact (feats_mem.1 (feats_at hj)).1
  · rw [List.getD_eq_getElem?_getD, List.getElem?_eq_none (by omega)]
    simp

theorem feats_nodup (s : Nat) : (feats s).Nodup := List.Pairwise.filter _ List.nodup_range

theorem feats_inj {s i j : Nat} (hi : i < (feats s).length) (hj : j < (feats s).length) (e : (feats s).getD i 0 = (feats s).getD j 0) : i = j := by
  rw [List.getD_eq_getElem?_getD, List.getD_eq_getElem?_getD, List.getElem?_eq_getElem hi, List.getElem?_eq_getElem hj] at e
  have e' : (feats s)[i] = (feats s)[j] := by simpa using e
  have hp := List.pairwise_iff_getElem.1 (feats_nodup s)
  rcases Nat.lt_trichotomy i j with h | h | h
  · exact absurd e' (hp i j hi hj h)
  · exact h
  · exact absurd e'.symm (hp j i hj hi h)

theorem rdV_row {w : World} {base cap : Nat} {fo : Option Addr} {V : List Nat} (h : w.ownsRow base 3 1 (.slice fo V.length cap) V.length (V.map iv)) : RdV w fo V := fun j hj => by
  obtain ⟨g, cap', e, h0, -⟩ := row1 h (k := j) (u := iv (V.getD j 0)) (by rw [List.getElem?_map, List.getD_eq_getElem?_getD, List.getElem?_eq_getElem hj]; rfl) hj
  cases e
  obtain ⟨_, cur, fr, hc⟩ := own_blockP h rfl
  exact ⟨g, rfl, h0, cur, fr, hc⟩

/-- The cube with a number. -/
def cubK (s k : Nat) : Cub := ⟨kOn (feats s) k (feats s).length, kOff (feats s) k (feats s).length, kOn_lt (feats_at_lt s) _ _, kOff_lt (feats_at_lt s) _ _⟩

/-- The prime cubes' numbers, below k. -/
noncomputable def pks (s : Nat) (f : F) (k : Nat) : List Nat := (List.range k).filter fun k => inK (feats s) (feats s).length f k && primeB (inL (feats s) (feats s).length f) k (feats s).length

theorem pks_succ (s : Nat) (f : F) (k : Nat) : pks s f (k + 1) = pks s f k ++ if (inK (feats s) (feats s).length f k && primeB (inL (feats s) (feats s).length f) k (feats s).length) = true then [k] else [] := by
  unfold pks
  rw [List.range_succ, List.filter_append]
  simp only [List.filter_cons, List.filter_nil]

def flatC (l : List Cub) : List Value := l.flatMap encB

/-- Cubes as they are read. -/
def RdC (w : World) (ao : Option Addr) (l : List Cub) : Prop := ∀ (i : Nat) x, l[i]? = some x → ∃ g, ao = some ⟨g, 0, none⟩ ∧ w.cell? ⟨g, i * 2, none⟩ = some (.int .u32 x.on) ∧ w.cell? ⟨g, i * 2 + 1, none⟩ = some (.int .u32 x.off)

theorem info99 : (Tryz.prog.info? 42).map (fun i => (i.zero, i.size, i.bytes)) = some (some (.agg #[.int .u32 0, .int .u32 0]), 2, 8) := by kernel_rfl

theorem flatC_at : ∀ (l : List Cub) (i r : Nat), r < 2 → i < l.length → (flatC l)[i * 2 + r]? = some ((encB l[i]!)[r]!)
  | [], i, r, _, h => by simp at h
  | x :: l, 0, r, hr, _ => by
    have e : flatC (x :: l) = encB x ++ flatC l := rfl
    have hl : (encB x).length = 2 := rfl
    rw [e, List.getElem?_append_left (by omega)]
    match r, hr with
    | 0, _ => rfl
    | 1, _ => rfl
  | x :: l, i + 1, r, hr, h => by
    have e : flatC (x :: l) = encB x ++ flatC l := rfl
    have hl : (encB x).length = 2 := rfl
    rw [e, List.getElem?_append_right (by omega), hl, show (i + 1) * 2 + r - 2 = i * 2 + r from by omega, flatC_at l i r hr (by simpa using h)]
    simp

theorem holds_row {w : World} {base g cap : Nat} {l : List Cub} (h : w.ownsRow base 42 2 (.slice (some ⟨g, 0, none⟩) l.length cap) l.length (flatC l)) : HoldsK encB 2 w g 0 l.toArray := by
  intro j hj
  rw [size_flatK] at hj
  have hj2 : j < l.length * 2 := by simpa using hj
  rw [get_flatK _ _ _ _ hj]
  have ha := flatC_at l (j / 2) (j % 2) (Nat.mod_lt _ (by omega)) (by omega)
  rw [show j / 2 * 2 + j % 2 = j from by omega] at ha
  rcases h.2 with ⟨e, _⟩ | ⟨g', cap', cur, e, _, hg, _, _, hs, ht⟩
  · cases e
  · cases e
    rw [← ht, List.getElem?_take, if_pos (by omega)] at ha
    constructor
    · simp only [World.cell?, hg]
      have : cur[0 + j]? = some ((encB l[j / 2]!)[j % 2]!) := by simpa using ha
      simpa using this
    · exact free1 hg _

theorem rdC_holds {w : World} {g : Nat} {d : Array Cub} (h : HoldsK encB 2 w g 0 d) : RdC w (some ⟨g, 0, none⟩) d.toList := by
  intro i x hx
  have hi : i < d.size := by
    have := (List.getElem?_eq_some_iff.1 hx).1
    simpa using this
  have hx' : d[i]! = x := by
    rw [getElem!_pos d i hi]
    simpa [hi] using hx
  have h0 := (h (i * 2) (by rw [size_flatK]; omega)).1
  have h1 := (h (i * 2 + 1) (by rw [size_flatK]; omega)).1
  rw [get_flatK _ _ _ _ (by omega)] at h0 h1
  rw [show i * 2 / 2 = i by omega, show i * 2 % 2 = 0 by omega, hx', Nat.zero_add] at h0
  rw [show (i * 2 + 1) / 2 = i by omega, show (i * 2 + 1) % 2 = 1 by omega, hx', Nat.zero_add] at h1
  exact ⟨g, rfl, h0, h1⟩

end Go.Proofs.YtefclohjeompkaaGreat

/- PrimI: what is needed of it. -/
namespace Go.Proofs.YtefclohjeompkaaGreat
open Go Go.RowKit Go.Shelf Go.Sort Go.Proofs.Gen Go.Proofs.Bdd Go.Proofs.Bdd.T
/-- The number with given digits. -/
def numOf (g : Nat → Nat) : Nat → Nat
  | 0 => 0
  | m + 1 => numOf g m + g m * 3 ^ m

theorem numOf_lt {g : Nat → Nat} (hg : ∀ j, g j < 3) : ∀ m, numOf g m < 3 ^ m
  | 0 => by simp [numOf]
  | m + 1 => by
    have ih := numOf_lt hg m
    have h := hg m
    show numOf g m + g m * 3 ^ m < _
    rw [Nat.pow_succ]
    have : g m * 3 ^ m ≤ 2 * 3 ^ m := Nat.mul_le_mul_right _ (by omega)
    omega

theorem dig_numOf {g : Nat → Nat} (hg : ∀ j, g j < 3) : ∀ m j, j < m → dig (numOf g m) j = g j
  | 0, j, h => by omega
  | m + 1, j, h => by
    have hlt := numOf_lt hg m
    have hp : 0 < 3 ^ m := Nat.pow_pos (by omega)
    by_cases e : j = m
    · subst e
      show (numOf g j + g j * 3 ^ j) / 3 ^ j % 3 = g j
      rw [Nat.add_mul_div_right _ _ hp, Nat.div_eq_of_lt hlt, Nat.zero_add, Nat.mod_eq_of_lt (hg j)]
    · have hj : j < m := by omega
      rw [← dig_low (k := numOf g (m + 1)) hj]
      show dig ((numOf g m + g m * 3 ^ m) % 3 ^ m) j = g j
      rw [Nat.add_mul_mod_self_right, Nat.mod_eq_of_lt hlt]
      exact dig_numOf hg m j hj

theorem dig_lt3 (k j : Nat) : dig k j < 3 := Nat.mod_lt _ (by omega)

theorem numOf_dig : ∀ m k, k < 3 ^ m → numOf (dig k) m = k
  | 0, k, h => by simp at h; simp [numOf, h]
  | m + 1, k, h => by
    have hp : 0 < 3 ^ m := Nat.pow_pos (by omega)
    have ih := numOf_dig m (k % 3 ^ m) (Nat.mod_lt _ hp)
    have e : ∀ m', m' ≤ m → numOf (dig (k % 3 ^ m)) m' = numOf (dig k) m' := by
      intro m'
      induction m' with
      | zero => intro _; rfl
      | succ m' ihm =>
        intro hm'
        show numOf (dig (k % 3 ^ m)) m' + dig (k % 3 ^ m) m' * 3 ^ m' = numOf (dig k) m' + dig k m' * 3 ^ m'
        rw [ihm (by omega), dig_low (by omega)]
    show numOf (dig k) m + dig k m * 3 ^ m = k
    rw [← e m (Nat.le_refl _), ih, dig_top h, Nat.mul_comm]
    exact Nat.mod_add_div k (3 ^ m)

theorem dig_ext {m k k' : Nat} (h : k < 3 ^ m) (h' : k' < 3 ^ m) (hd : ∀ j, j < m → dig k j = dig k' j) : k = k' := by
  rw [← numOf_dig m k h, ← numOf_dig m k' h']
  have : ∀ m', m' ≤ m → numOf (dig k) m' = numOf (dig k') m' := by
    intro m'
    induction m' with
    | zero => intro _; rfl
    | succ m' ih =>
      intro hm
      show numOf (dig k) m' + dig k m' * 3 ^ m' = numOf (dig k') m' + dig k' m' * 3 ^ m'
      rw [ih (by omega), hd m' (by omega)]
  exact this m (Nat.le_refl _)

/-- A digit taken away. -/
def dropD (g : Nat → Nat) (j : Nat) : Nat → Nat := fun i => if i = j then 0 else g i

theorem numOf_drop (g : Nat → Nat) (j : Nat) : ∀ m, numOf g m = numOf (dropD g j) m + (if j < m then g j * 3 ^ j else 0)
  | 0 => by simp [numOf]
  | m + 1 => by
    have ih := numOf_drop g j m
    show numOf g m + g m * 3 ^ m = numOf (dropD g j) m + dropD g j m * 3 ^ m + _
    rw [ih]
    unfold dropD
    by_cases e : m = j
    · subst e
      simp
    · by_cases h : j < m
      · simp [e, h, show j < m + 1 by omega]; omega
      · simp [e, h, show ¬ j < m + 1 by omega]

theorem sub_dig {m k j : Nat} (h : k < 3 ^ m) (hj : j < m) : k - dig k j * 3 ^ j = numOf (dropD (dig k) j) m := by
  have h1 := numOf_drop (dig k) j m
  rw [numOf_dig m k h, if_pos hj] at h1
  omega

theorem dropD_lt3 (k j i : Nat) : dropD (dig k) j i < 3 := by
  unfold dropD
  split
  · omega
  · exact dig_lt3 _ _

theorem feats_hd (s : Nat) : ∀ i j, i < (feats s).length → j < (feats s).length → (feats s).getD i 0 = (feats s).getD j 0 → i = j := fun _ _ hi hj e => feats_inj hi hj e

/-- The cube with a number lies in a set. -/
def InC (s : Nat) (f : F) (k : Nat) : Prop := ∀ c, mtK (feats s) (feats s).length k c → f c = true

theorem inL_getD {s : Nat} {f : F} {k : Nat} (hk : k < 3 ^ (feats s).length) : (inL (feats s) (feats s).length f).getD k false = true ↔ InC s f k := by
  rw [List.getD_eq_getElem?_getD]
  unfold inL
  rw [List.getElem?_map, List.getElem?_range hk]
  exact inK_iff (feats_hd s) _ (Nat.le_refl _) f k hk

theorem mem_pks {s : Nat} {f : F} {k : Nat} : k ∈ pks s f (3 ^ (feats s).length) ↔ k < 3 ^ (feats s).length ∧ InC s f k ∧ ∀ j, j < (feats s).length → 0 < dig k j → ¬ InC s f (numOf (dropD (dig k) j) (feats s).length) := by
  unfold pks
  rw [List.mem_filter, List.mem_range]
  refine and_congr_right fun hk => ?_
  rw [Bool.and_eq_true]
  refine and_congr (inK_iff (feats_hd s) _ (Nat.le_refl _) f k hk) ?_
  constructor
  · intro h j hj h0 hin
    rw [← sub_dig hk hj] at hin
    have hlt : k - dig k j * 3 ^ j < 3 ^ (feats s).length := by omega
    rw [primeB_no hj h0 ((inL_getD hlt).2 hin)] at h
    cases h
  · intro h
    refine primeB_yes fun j hj h0 => Bool.eq_false_iff.2 fun hin => h j hj h0 ?_
    have hlt : k - dig k j * 3 ^ j < 3 ^ (feats s).length := by omega
    rw [← sub_dig hk hj]
    exact (inL_getD hlt).1 hin

theorem pks_nodup (s : Nat) (f : F) (k : Nat) : (pks s f k).Nodup := List.Pairwise.filter _ List.nodup_range

theorem kOn_bit {V : List Nat} {k : Nat} (i : Nat) : ∀ m, (kOn V k m).testBit i = true ↔ ∃ j, j < m ∧ dig k j = 2 ∧ V.getD j 0 = i
  | 0 => by simp [kOn]
  | m + 1 => by
    have ih := kOn_bit (V := V) (k := k) i m
    unfold kOn
    split
    · rename_i h2
      rw [Nat.testBit_or, Bool.or_eq_true, ih, Nat.testBit_two_pow, decide_eq_true_iff]
      constructor
      · rintro (⟨j, h1, h3, h4⟩ | h)
        · exact ⟨j, by omega, h3, h4⟩
        · exact ⟨m, by omega, h2, h⟩
      · rintro ⟨j, h1, h3, h4⟩
        by_cases e : j = m
        · subst e; exact .inr h4
        · exact .inl ⟨j, by omega, h3, h4⟩
    · rename_i h2
      rw [ih]
      constructor
      · rintro ⟨j, h1, h3, h4⟩
        exact ⟨j, by omega, h3, h4⟩
      · rintro ⟨j, h1, h3, h4⟩
        by_cases e : j = m
        · subst e; exact absurd h3 h2
        · exact ⟨j, by omega, h3, h4⟩

theorem kOff_bit {V : List Nat} {k : Nat} (i : Nat) : ∀ m, (kOff V k m).testBit i = true ↔ ∃ j, j < m ∧ dig k j = 1 ∧ V.getD j 0 = i
  | 0 => by simp [kOff]
  | m + 1 => by
    have ih := kOff_bit (V := V) (k := k) i m
    unfold kOff
    split
    · rename_i h2
      rw [Nat.testBit_or, Bool.or_eq_true, ih, Nat.testBit_two_pow, decide_eq_true_iff]
      constructor
      · rintro (⟨j, h1, h3, h4⟩ | h)
        · exact ⟨j, by omega, h3, h4⟩
        · exact ⟨m, by omega, h2, h⟩
      · rintro ⟨j, h1, h3, h4⟩
        by_cases e : j = m
        · subst e; exact .inr h4
        · exact .inl ⟨j, by omega, h3, h4⟩
    · rename_i h2
      rw [ih]
      constructor
      · rintro ⟨j, h1, h3, h4⟩
        exact ⟨j, by omega, h3, h4⟩
      · rintro ⟨j, h1, h3, h4⟩
        by_cases e : j = m
        · subst e; exact absurd h3 h2
        · exact ⟨j, by omega, h3, h4⟩

theorem cube_lits {on off : Nat} {c : Nat → Bool} : cubeF on off c = true ↔ ∀ i, i < 24 → (on.testBit i = true → c i = true) ∧ (off.testBit i = true → c i = false) := by
  unfold cubeF
  rw [litsFrom_all]
  refine ⟨fun h i hi => ?_, fun h i _ hi => ?_⟩
  · have h1 := h i (Nat.zero_le _) (by omega)
    unfold lit at h1
    refine ⟨fun h2 => ?_, fun h2 => ?_⟩
    · rw [h2] at h1
      simp at h1
      exact h1.1
    · rw [h2] at h1
      simp at h1
      exact h1.2
  · obtain ⟨h1, h2⟩ := h i (by omega)
    unfold lit
    cases ha : on.testBit i <;> cases hb : off.testBit i <;> simp
    · exact h2 hb
    · exact h1 ha
    · have := (h1 ha).symm.trans (h2 hb)
      cases this

/-- The cube of a number and the number's configurations. -/
theorem mtK_cub {s k : Nat} (c : Nat → Bool) : cubeF (cubK s k).on (cubK s k).off c = true ↔ mtK (feats s) (feats s).length k c := by
  rw [cube_lits]
  constructor
  · intro h j hj
    refine ⟨fun h1 => (h _ (feats_at_lt s j)).2 ((kOff_bit _ _).2 ⟨j, hj, h1, rfl⟩), fun h1 => (h _ (feats_at_lt s j)).1 ((kOn_bit _ _).2 ⟨j, hj, h1, rfl⟩)⟩
  · intro h i hi
    constructor
    · intro hb
      obtain ⟨j, hj, h1, rfl⟩ := (kOn_bit _ _).1 hb
      exact (h j hj).2 h1
    · intro hb
      obtain ⟨j, hj, h1, rfl⟩ := (kOff_bit _ _).1 hb
      exact (h j hj).1 h1

/-- The configuration of a cube that has nothing else on. -/
theorem mtK_min (s k : Nat) : mtK (feats s) (feats s).length k fun i => (kOn (feats s) k (feats s).length).testBit i := by
  intro j hj
  constructor
  · intro h1
    refine Bool.eq_false_iff.2 fun hb => ?_
    obtain ⟨j', hj', h2, e⟩ := (kOn_bit _ _).1 hb
    obtain rfl := feats_inj hj' hj e
    omega
  · intro h1
    exact (kOn_bit _ _).2 ⟨j, hj, h1, rfl⟩

theorem cubLt_total {x y : Cub} (h1 : ¬ cubLt x y) (h2 : ¬ cubLt y x) : x = y := by
  unfold cubLt at h1 h2
  exact Cub.eq (by omega) (by omega)

theorem sorted_only {d : Array Cub} {l : List Cub} (hp : d.toList.Perm l) (hs : SortedIn (ltOf cmpC) 0 d.size d) (hl : l.Pairwise fun x y => ¬ cubLt y x) : d.toList = l := by
  refine List.Perm.eq_of_pairwise (le := fun x y => ¬ cubLt y x) (fun a b _ _ h1 h2 => cubLt_total h2 h1) ?_ hl hp
  rw [List.pairwise_iff_getElem]
  intro i j hi hj hij
  have h := hs i j (Nat.zero_le _) hij (by simpa using hj)
  rw [lt_cmpC, decide_eq_false_iff_not] at h
  rw [getElem!_pos d i (by simpa using hi), getElem!_pos d j (by simpa using hj)] at h
  simpa using h

end Go.Proofs.YtefclohjeompkaaGreat
