/- Parts of a proof: SortS, SortT. -/
import Derived.Shelf.SlSortCmp.WholeK
import Derived.Ground.SlsfProg
import Derived.Test.YtefclohjeompkaaProg
import Derived.Test.YtefclohjeompkaaKRefQ
import Derived.Test.YtefclohjeompkaaKCmpA
/- slices.SortFunc at cubes: the library's contract, laid at this program. -/
namespace Go.Proofs.Ytefclohjeompkaa
open Go Go.RowKit Go.Shelf

def sortCube_ren : Go.Shelf.Ren := ⟨fun | 6 => 119 | 15 => 142 | 14 => 141 | 28 => 156 | 29 => 157 | 20 => 148 | 21 => 149 | 22 => 150 | 23 => 151 | 24 => 152 | 25 => 153 | 26 => 154 | 27 => 155 | 46 => 159 | 47 => 160 | 48 => 161 | 49 => 162 | 50 => 163 | 57 => 164 | n => n, fun | 22 => 95 | 24 => 99 | 25 => 151 | 3 => 3 | 39 => 27 | 0 => 0 | 53 => 24 | 55 => 54 | 4 => 4 | 46 => 196 | 45 => 195 | 50 => 155 | 5 => 5 | 9 => 9 | 66 => 203 | 70 => 207 | 76 => 209 | 77 => 210 | n => n, fun | n => n⟩
theorem sortCube : Go.Proofs.SlLaysF0.n6 Try.prog sortCube_ren := {
  mixed := by kernel_rfl
  f6 := ⟨Try.f119.name, by decide, Try.func119.trans (congrArg some (by kernel_rfl))⟩
  f14 := ⟨Try.f141.name, by decide, Try.func141.trans (congrArg some (by kernel_rfl))⟩
  f15 := Try.func142.trans (congrArg some (by kernel_rfl))
  f20 := ⟨Try.f148.name, by decide, Try.func148.trans (congrArg some (by kernel_rfl))⟩
  f21 := ⟨Try.f149.name, by decide, Try.func149.trans (congrArg some (by kernel_rfl))⟩
  f22 := ⟨Try.f150.name, by decide, Try.func150.trans (congrArg some (by kernel_rfl))⟩
  f23 := ⟨Try.f151.name, by decide, Try.func151.trans (congrArg some (by kernel_rfl))⟩
  f24 := ⟨Try.f152.name, by decide, Try.func152.trans (congrArg some (by kernel_rfl))⟩
  f25 := ⟨Try.f153.name, by decide, Try.func153.trans (congrArg some (by kernel_rfl))⟩
  f26 := ⟨Try.f154.name, by decide, Try.func154.trans (congrArg some (by kernel_rfl))⟩
  f27 := ⟨Try.f155.name, by decide, Try.func155.trans (congrArg some (by kernel_rfl))⟩
  f28 := Try.func156.trans (congrArg some (by kernel_rfl))
  f29 := Try.func157.trans (congrArg some (by kernel_rfl))
  f46 := ⟨Try.f159.name, by decide, Try.func159.trans (congrArg some (by kernel_rfl))⟩
  f47 := Try.func160.trans (congrArg some (by kernel_rfl))
  f48 := Try.func161.trans (congrArg some (by kernel_rfl))
  f49 := ⟨Try.f162.name, by decide, Try.func162.trans (congrArg some (by kernel_rfl))⟩
  f50 := ⟨Try.f163.name, by decide, Try.func163.trans (congrArg some (by kernel_rfl))⟩
  f57 := ⟨Try.f164.name, by decide, Try.func164.trans (congrArg some (by kernel_rfl))⟩
  t0 := Try.underlying0
  a0 := Try.isAgg0
  z0 := Try.sizeOf0
  v0 := Try.zeroValue0
  t3 := Try.underlying3
  a3 := Try.isAgg3
  z3 := Try.sizeOf3
  v3 := Try.zeroValue3
  t4 := Try.underlying4
  a4 := Try.isAgg4
  z4 := Try.sizeOf4
  v4 := Try.zeroValue4
  t5 := Try.underlying5
  a5 := Try.isAgg5
  z5 := Try.sizeOf5
  v5 := Try.zeroValue5
  t9 := Try.underlying9
  a9 := Try.isAgg9
  z9 := Try.sizeOf9
  v9 := Try.zeroValue9
  t22 := Try.underlying95
  a22 := Try.isAgg95
  z22 := Try.sizeOf95
  v22 := Try.zeroValue95
  t25 := Try.underlying151
  a25 := Try.isAgg151
  z25 := Try.sizeOf151
  v25 := Try.zeroValue151
  t39 := Try.underlying27
  a39 := Try.isAgg27
  z39 := Try.sizeOf27
  v39 := Try.zeroValue27
  t45 := Try.underlying195
  a45 := Try.isAgg195
  z45 := Try.sizeOf195
  v45 := Try.zeroValue195
  t46 := Try.underlying196
  a46 := Try.isAgg196
  z46 := Try.sizeOf196
  v46 := Try.zeroValue196
  t50 := Try.underlying155
  a50 := Try.isAgg155
  z50 := Try.sizeOf155
  v50 := Try.zeroValue155
  t53 := Try.underlying24
  a53 := Try.isAgg24
  z53 := Try.sizeOf24
  v53 := Try.zeroValue24
  t55 := Try.underlying54
  a55 := Try.isAgg54
  z55 := Try.sizeOf54
  v55 := Try.zeroValue54
  t66 := Try.underlying203
  a66 := Try.isAgg203
  z66 := Try.sizeOf203
  v66 := Try.zeroValue203
  t70 := Try.underlying207
  a70 := Try.isAgg207
  z70 := Try.sizeOf207
  v70 := Try.zeroValue207
  t76 := Try.underlying209
  a76 := Try.isAgg209
  z76 := Try.sizeOf209
  v76 := Try.zeroValue209
  t77 := Try.underlying210
  a77 := Try.isAgg210
  z77 := Try.sizeOf210
  v77 := Try.zeroValue210 }

/-- A cube's two cells. -/
def encC (x : Nat × Nat) : List Value := [.int .u32 x.1, .int .u32 x.2]

end Go.Proofs.Ytefclohjeompkaa

/- How cubes compare: the closure that is sorted by. -/
namespace Go.Proofs.Ytefclohjeompkaa
open Go Go.RowKit Go.Sort Go.Proofs.Gen Go.Proofs.Bdd Go.Proofs.Bdd.T

/-- Draws and new blocks alone. -/
def Grown (w w' : World) : Prop := ∃ q os, w' = grow (w.drewN q) os
theorem Grown.refl (w : World) : Grown w w := ⟨0, #[], by rw [grow_empty]; rfl⟩
theorem grow_drewN (w : World) (os : Array Obj) (q : Nat) : (grow w os).drewN q = grow (w.drewN q) os := rfl
theorem Grown.trans {a b c : World} (h : Grown a b) (k : Grown b c) : Grown a c := by
  obtain ⟨q, os, rfl⟩ := h
  obtain ⟨q', os', rfl⟩ := k
  refine ⟨q + q', os ++ os', ?_⟩
  rw [grow_drewN, grow_grow]
  congr 1
  simp [World.drewN, Nat.add_assoc]
theorem Grown.alloc {a b : World} (h : Grown a b) (o : Obj) : Grown a (b.alloc o) := h.trans ⟨0, #[o], by rw [alloc_eq_grow]; rfl⟩
theorem Grown.drewN {a b : World} (h : Grown a b) (n : Nat) : Grown a (b.drewN n) := h.trans ⟨n, #[], by rw [grow_empty]⟩
theorem Grown.drew {a b : World} (h : Grown a b) : Grown a b.drew := h.drewN 1
theorem Grown.near {a b : World} (h : Grown a b) : Near a b := by
  obtain ⟨q, os, rfl⟩ := h
  refine ⟨rfl, rfl, rfl, by simp [grow, World.drewN], fun k hk _ => ?_⟩
  show ((a.drewN q).heap ++ os)[k]? = _
  rw [Array.getElem?_append_left (by simpa [World.drewN] using hk)]
  rfl

set_option maxRecDepth 100000 in
set_option maxHeartbeats 1600000 in
theorem ones_exact (x : Nat) (hx : x < 4294967296) (w : World) : Calls Try.prog 111 #[.int .u32 x] w fun e w' => e = .returned (.int .i64 (Lib.pop8 ((x / 16777216 : Nat) : Int) + Lib.pop8 ((x / 65536 % 256 : Nat) : Int) + Lib.pop8 ((x / 256 % 256 : Nat) : Int) + Lib.pop8 ((x % 256 : Nat) : Int))) ∧ ∃ q, w' = w.drewN q := by
  have fold := pop_fold
  have e1 : (x : Int) / 16777216 = ((x / 16777216 : Nat) : Int) := by omega
  have e2 : bits .and .u32 ((x : Int) / 65536) 255 = ((x / 65536 % 256 : Nat) : Int) := byte_and x 16 hx
  have e3 : bits .and .u32 ((x : Int) / 256) 255 = ((x / 256 % 256 : Nat) : Int) := byte_and x 8 hx
  have e4 : bits .and .u32 (x : Int) 255 = ((x % 256 : Nat) : Int) := by
    have := byte_and x 0 hx
    simpa using this
  obtain ⟨y1, h1⟩ : ∃ y, y = x / 16777216 := ⟨_, rfl⟩
  obtain ⟨y2, h2⟩ : ∃ y, y = x / 65536 % 256 := ⟨_, rfl⟩
  obtain ⟨y3, h3⟩ : ∃ y, y = x / 256 % 256 := ⟨_, rfl⟩
  obtain ⟨y4, h4⟩ : ∃ y, y = x % 256 := ⟨_, rfl⟩
  have l1 : y1 < 256 := by omega
  have l2 : y2 < 256 := by omega
  have l3 : y3 < 256 := by omega
  have l4 : y4 < 256 := by omega
  rw [← h1] at e1 ⊢
  rw [← h2] at e2 ⊢
  rw [← h3] at e3 ⊢
  rw [← h4] at e4 ⊢
  clear h1 h2 h3 h4
  obtain ⟨p1, p1'⟩ := pop_le l1
  obtain ⟨p2, p2'⟩ := pop_le l2
  obtain ⟨p3, p3'⟩ := pop_le l3
  obtain ⟨p4, p4'⟩ := pop_le l4
  have m1 : (y1 : Int) ≤ 255 := by omega
  have m2 : (y2 : Int) ≤ 255 := by omega
  have m3 : (y3 : Int) ≤ 255 := by omega
  have m4 : (y4 : Int) ≤ 255 := by omega
  generalize hq1 : Lib.pop8 (y1 : Int) = q1 at p1 p1' ⊢
  generalize hq2 : Lib.pop8 (y2 : Int) = q2 at p2 p2' ⊢
  generalize hq3 : Lib.pop8 (y3 : Int) = q3 at p3 p3' ⊢
  generalize hq4 : Lib.pop8 (y4 : Int) = q4 at p4 p4' ⊢
  go_enter Try.func111, Try.ntmps111
  go_wp2_with fail
  go_quiet (fail)
  all_goals
    go_wp2_with fail
    exact bodyPost_ret (v := .int .i64 (q1 + q2 + q3 + q4)) (by simp [results, Try.results111, go_sem]) rfl ⟨rfl, _, rfl⟩

set_option maxRecDepth 100000 in
set_option maxHeartbeats 800000 in
theorem nan3_calls (a : Int) (w : World) : Calls Try.prog 143 #[.int .i64 a] w fun e w' => e = .returned (.bool false) ∧ w' = w := by
  go_enter Try.func143, Try.ntmps143
  go_wp2_with fail
  exact bodyPost_ret (v := .bool false) (by simp [results, Try.results143, go_sem]) rfl ⟨rfl, rfl⟩
set_option maxRecDepth 100000 in
set_option maxHeartbeats 800000 in
theorem compare3_calls (a b : Int) (w : World) : Calls Try.prog 122 #[.int .i64 a, .int .i64 b] w fun e w' => e = .returned (.int .i64 (cmpI a b)) ∧ w' = w := by
  have hq : cmpI a b = if a < b then -1 else if b < a then 1 else 0 := rfl
  by_cases h1 : a < b
  · rw [if_pos h1] at hq
    rw [hq]
    clear hq
    go_enter Try.func122, Try.ntmps122
    go_wp2_with (first
      | (go_at_call 143; refine (nan3_calls _ _).mono ?_; rintro e w1 ⟨rfl, rfl⟩))
    exact bodyPost_ret (v := .int .i64 (-1)) (by simp [results, Try.results122, go_sem]) rfl ⟨rfl, rfl⟩
  · rw [if_neg h1] at hq
    by_cases h2 : b < a
    · rw [if_pos h2] at hq
      rw [hq]
      clear hq
      go_enter Try.func122, Try.ntmps122
      go_wp2_with (first
        | (go_at_call 143; refine (nan3_calls _ _).mono ?_; rintro e w1 ⟨rfl, rfl⟩))
      exact bodyPost_ret (v := .int .i64 1) (by simp [results, Try.results122, go_sem]) rfl ⟨rfl, rfl⟩
    · rw [if_neg h2] at hq
      rw [hq]
      clear hq
      go_enter Try.func122, Try.ntmps122
      go_wp2_with (first
        | (go_at_call 143; refine (nan3_calls _ _).mono ?_; rintro e w1 ⟨rfl, rfl⟩))
      exact bodyPost_ret (v := .int .i64 0) (by simp [results, Try.results122, go_sem]) rfl ⟨rfl, rfl⟩


theorem ones_grown {x : Nat} (h : x < 16777216) (w : World) : Calls Try.prog 111 #[.int .u32 x] w fun e w' => e = .returned (.int .i64 (feats x).length) ∧ Grown w w' := by
  rw [← ones_feats h]
  exact (ones_exact x (by omega) w).mono fun e w' ⟨h1, q, h2⟩ => ⟨h1, q, #[], by rw [h2, grow_empty]⟩

/-- A cube: what it has and what it has not. -/
structure Cub where
  on : Nat
  off : Nat
  hon : on < 16777216
  hoff : off < 16777216
instance : Inhabited Cub := ⟨⟨0, 0, by omega, by omega⟩⟩
theorem Cub.eq {x y : Cub} (h1 : x.on = y.on) (h2 : x.off = y.off) : x = y := by
  cases x
  cases y
  simp at h1 h2
  subst h1
  subst h2
  rfl
def encB (x : Cub) : List Value := [.int .u32 x.on, .int .u32 x.off]
def Cub.size (x : Cub) : Nat := (feats (x.on ||| x.off)).length

set_option maxRecDepth 100000 in
set_option maxHeartbeats 800000 in
theorem csize_calls {x y : Nat} (hx : x < 16777216) (hy : y < 16777216) (w : World) : Calls Try.prog 118 #[.agg #[.int .u32 x, .int .u32 y]] w fun e w' => e = .returned (.int .i64 (feats (x ||| y)).length) ∧ Grown w w' := by
  have ho : bits .or .u32 (x : Int) (y : Int) = ((x ||| y : Nat) : Int) := Go.Proofs.Gen.u32_or x y (by omega) (by omega)
  have hl : x ||| y < 16777216 := Nat.or_lt_two_pow (n := 24) hx hy
  have HO := Lib.hid (fun (w' : World) => ones_grown hl w')
  generalize x ||| y = z at ho HO ⊢
  generalize (feats z).length = n at HO ⊢
  go_enter Try.func118, Try.ntmps118
  go_wp2_with (go_at_call 111; refine (HO.out _).mono ?_; rintro e w1 ⟨rfl, n1⟩)
  exact bodyPost_ret (v := .int .i64 n) (by simp [results, Try.results118, go_sem]) rfl ⟨rfl, ((Grown.refl w).alloc _).trans n1⟩

/-- The first one that is not 0. -/
def or3 (a b c : Int) : Int := if a = 0 then (if b = 0 then c else b) else a

set_option maxRecDepth 100000 in
set_option maxHeartbeats 800000 in
theorem cmpOr3_calls {g : Nat} {x y z : Int} {w : World} (c0 : w.cell? ⟨g, 0, none⟩ = some (.int .i64 x)) (c1 : w.cell? ⟨g, 1, none⟩ = some (.int .i64 y)) (c2 : w.cell? ⟨g, 2, none⟩ = some (.int .i64 z)) :
    Calls Try.prog 121 #[.slice (some ⟨g, 0, none⟩) 3 3] w fun e w' => e = .returned (.int .i64 (or3 x y z)) ∧ w' = w := by
  have hr : or3 x y z = if x = 0 then (if y = 0 then z else y) else x := rfl
  obtain ⟨r, hrr⟩ : ∃ r, or3 x y z = r := ⟨_, rfl⟩
  rw [hrr] at hr ⊢
  have HR := Lib.hid hr
  clear hr hrr
  go_enter Try.func121, Try.ntmps121
  go_wp2_with fail
  go_loopw [8] (fun i wr => ∃ k : Nat, k ≤ 3 ∧ i = .int .i64 k ∧ (0 < k → x = 0) ∧ (1 < k → y = 0) ∧ (2 < k → z = 0) ∧ wr = w) (fun i _ => 3 - (intOf i).toNat)
  case atStart => exact ⟨0, by omega, rfl, fun h => by omega, fun h => by omega, fun h => by omega, rfl⟩
  case round =>
    obtain ⟨k, hk, rfl, k1, k2, k3, rfl⟩ := hrel
    obtain rfl | rfl | rfl | rfl : k = 0 ∨ k = 1 ∨ k = 2 ∨ k = 3 := by omega
    · clear k1 k2 k3
      by_cases h : x = 0
      · subst h
        go_wp2_with fail
        exact ⟨⟨1, by omega, rfl, by simp, by simp, by simp, trivial⟩, by simp [intOf]⟩
      · have h' : (x == 0) = false := by simpa using h
        have hr := HR.out
        rw [if_neg h] at hr
        have HR2 := Lib.hid hr
        clear hr
        go_wp2_with fail
        exact bodyPost_ret (v := .int .i64 x) (by simp [results, Try.results121, go_sem]) rfl ⟨by rw [HR2.out], rfl⟩
    · have hx := k1 (by omega)
      subst hx
      clear k1 k2 k3
      by_cases h : y = 0
      · subst h
        go_wp2_with fail
        exact ⟨⟨2, by omega, rfl, by simp, by simp, by simp, trivial⟩, by simp [intOf]⟩
      · have h' : (y == 0) = false := by simpa using h
        have hr := HR.out
        rw [if_pos rfl, if_neg h] at hr
        have HR2 := Lib.hid hr
        clear hr
        go_wp2_with fail
        exact bodyPost_ret (v := .int .i64 y) (by simp [results, Try.results121, go_sem]) rfl ⟨by rw [HR2.out], rfl⟩
    · have hx := k1 (by omega)
      have hy := k2 (by omega)
      subst hx
      subst hy
      clear k1 k2 k3
      have hr := HR.out
      rw [if_pos rfl, if_pos rfl] at hr
      have HR2 := Lib.hid hr
      clear hr
      by_cases h : z = 0
      · subst h
        go_wp2_with fail
        exact ⟨⟨3, by omega, rfl, by simp, by simp, by simp, trivial⟩, by simp [intOf]⟩
      · have h' : (z == 0) = false := by simpa using h
        go_wp2_with fail
        exact bodyPost_ret (v := .int .i64 z) (by simp [results, Try.results121, go_sem]) rfl ⟨by rw [HR2.out], rfl⟩
    · have hx := k1 (by omega)
      have hy := k2 (by omega)
      have hz := k3 (by omega)
      subst hx
      subst hy
      subst hz
      have hr := HR.out
      rw [if_pos rfl, if_pos rfl] at hr
      have HR2 := Lib.hid hr
      clear hr k1 k2 k3
      go_wp2_with fail
      exact bodyPost_ret (v := .int .i64 0) (by simp [results, Try.results121, go_sem]) rfl ⟨by rw [HR2.out], rfl⟩

end Go.Proofs.Ytefclohjeompkaa
