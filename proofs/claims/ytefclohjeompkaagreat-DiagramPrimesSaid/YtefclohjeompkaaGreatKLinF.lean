/- Parts of a proof: LinA, Valid, LinB, LinC, LinD, LinE, LinF. -/
import Derived.Maps.OwnSet
import Derived.WalkKit
import Derived.Deep.QuietTactic
import Derived.Test.YtefclohjeompkaaGreatProg
import Derived.KernelRfl
import Derived.DeepKeys4
import Derived.Deep.RegionLaw
import Derived.StillTailTactics
import Derived.Maps.AppendAt
import Derived.WalkSpells
import Derived.WalkLawsBesides
import Derived.BigQuiet
import Derived.Lib.Hide
import Derived.Deep.DeepCutAuto
import Derived.Laws.EntriesVeiled
import Derived.Deep.RegionHeld3
import Derived.Laws.OwnMore
import Derived.Deep.Slices
import Derived.Test.YtefclohjeompkaaGreatKTreeC
import Derived.Test.YtefclohjeompkaaGreatKRep
import Derived.Test.YtefclohjeompkaaGreatKJoinD
import Derived.Test.YtefclohjeompkaaGreatKCmpA
import Derived.Test.YtefclohjeompkaaGreatKRefH
import Derived.Test.YtefclohjeompkaaGreatKOfB
import Derived.Test.YtefclohjeompkaaGreatKAlike
import Derived.Test.YtefclohjeompkaaGreatKBetA
/- LinA: what is needed of it. -/
namespace Go.Proofs.YtefclohjeompkaaGreat
open Go Go.RowKit Go.Proofs.Gen Go.Proofs.Bdd Go.Proofs.Bdd.T
/-- The set of the configurations whose sum, s ahead of the last k features, is one that g takes. -/
def linT (cost : Nat → Int) (g : Int → Bool) : Nat → Int → T
  | 0, s => .leaf (g s)
  | k + 1, s => T.mk (24 - (k + 1)) (linT cost g k s) (linT cost g k (s + cost (24 - (k + 1))))

/-- The sum of the features from 24 - k on that a configuration has. -/
def sumFrom (cost : Nat → Int) (c : Nat → Bool) : Nat → Int
  | 0 => 0
  | k + 1 => (if c (24 - (k + 1)) then cost (24 - (k + 1)) else 0) + sumFrom cost c k

theorem linT_ev (cost : Nat → Int) (g : Int → Bool) (c : Nat → Bool) : ∀ (k : Nat) (s : Int), (linT cost g k s).ev c = g (s + sumFrom cost c k)
  | 0, s => by simp [linT, sumFrom, T.ev]
  | k + 1, s => by
    show (T.mk _ _ _).ev c = _
    rw [T.mk_ev, linT_ev cost g c k s, linT_ev cost g c k]
    rw [show sumFrom cost c (k + 1) = (if c (24 - (k + 1)) then cost (24 - (k + 1)) else 0) + sumFrom cost c k from rfl]
    generalize sumFrom cost c k = z
    cases c (24 - (k + 1)) <;> simp [Int.add_assoc]

/-- A span of sums: from low to high the set of the last k features is one and the same tree. -/
def SpanOk (cost : Nat → Int) (g : Int → Bool) (L : List T) (k : Nat) (x : Dec) : Prop :=
  ∃ t : T, T.In L t ∧ x.hi = (pl L t : Nat) ∧ (∀ s, x.v ≤ s → s ≤ x.lo → linT cost g k s = t) ∧ t.Ok ∧ 24 - k ≤ t.lv ∧
    (-(35184372088832 + 2147483648 * (k : Int)) ≤ x.v ∧ x.v ≤ 35184372088832 + 2147483648 * (k : Int)) ∧ (-(35184372088832 + 2147483648 * (k : Int)) ≤ x.lo ∧ x.lo ≤ 35184372088832 + 2147483648 * (k : Int))

theorem SpanOk.mono {cost : Nat → Int} {g : Int → Bool} {L : List T} {k : Nat} {x : Dec} (h : SpanOk cost g L k x) (M : List T) : SpanOk cost g (L ++ M) k x := by
  obtain ⟨t, h1, h2, h3⟩ := h
  exact ⟨t, h1.mono M, by rw [T.pl_append h1]; exact h2, h3⟩

/-- The span of two children's spans. -/
def spanOf (c : Int) (p : Int) (a b : Dec) : Dec := ⟨max a.v (b.v - c), min a.lo (b.lo - c), p⟩

theorem spanOf_ok {cost : Nat → Int} {g : Int → Bool} {L : List T} {k : Nat} (hk : k + 1 ≤ 24) {a b : Dec} {ta tb : T} (hc : -2147483648 ≤ cost (24 - (k + 1)) ∧ cost (24 - (k + 1)) ≤ 2147483648)
    (ia : T.In L ta) (ha : ∀ s, a.v ≤ s → s ≤ a.lo → linT cost g k s = ta) (oa : ta.Ok) (la : 24 - k ≤ ta.lv)
    (hb : ∀ s, b.v ≤ s → s ≤ b.lo → linT cost g k s = tb) (ob : tb.Ok) (lb : 24 - k ≤ tb.lv)
    (ra : (-(35184372088832 + 2147483648 * (k : Int)) ≤ a.v ∧ a.v ≤ 35184372088832 + 2147483648 * (k : Int)) ∧ (-(35184372088832 + 2147483648 * (k : Int)) ≤ a.lo ∧ a.lo ≤ 35184372088832 + 2147483648 * (k : Int)))
    (rb : (-(35184372088832 + 2147483648 * (k : Int)) ≤ b.v ∧ b.v ≤ 35184372088832 + 2147483648 * (k : Int)) ∧ (-(35184372088832 + 2147483648 * (k : Int)) ≤ b.lo ∧ b.lo ≤ 35184372088832 + 2147483648 * (k : Int))) :
    SpanOk cost g (T.add L (24 - (k + 1)) ta tb) (k + 1) (spanOf (cost (24 - (k + 1))) (pl (T.add L (24 - (k + 1)) ta tb) (T.mk (24 - (k + 1)) ta tb) : Nat) a b) := by
  refine ⟨T.mk (24 - (k + 1)) ta tb, T.add_in ia, rfl, fun s h1 h2 => ?_, T.mk_ok (by omega) (by omega) (by omega) oa ob, T.mk_lv (by omega), ?_⟩
  · simp only [spanOf] at h1 h2
    show T.mk _ _ _ = _
    rw [ha s (by omega) (by omega), hb (s + cost (24 - (k + 1))) (by omega) (by omega)]
  · simp only [spanOf]
    omega

/-- The sum asked for lies in the children's spans, so in theirs together. -/
theorem spanOf_has {c p s : Int} {a b : Dec} (h1 : a.v ≤ s ∧ s ≤ a.lo) (h2 : b.v ≤ s + c ∧ s + c ≤ b.lo) : (spanOf c p a b).v ≤ s ∧ s ≤ (spanOf c p a b).lo := by
  simp only [spanOf]
  omega

end Go.Proofs.YtefclohjeompkaaGreat

/- Valid: what is needed of it. -/
namespace Go.Proofs.YtefclohjeompkaaGreat
open Go Go.RowKit Go.Proofs.Gen Go.Proofs.Bdd Go.Proofs.Bdd.T
/-- A list of numbers as it is read. -/
def RdInts (w : World) (v : Value) (l : List Int) : Prop :=
  ∃ ao cap, v = .slice ao l.length cap ∧ ∀ k x, l[k]? = some x → ∃ b off, ao = some ⟨b, off, none⟩ ∧ w.cell? ⟨b, off + k, none⟩ = some (.int .i64 x)

theorem RdInts.near {w w' : World} {v : Value} {l : List Int} (h : RdInts w v l) (hn : Near w w') : RdInts w' v l := by
  obtain ⟨ao, cap, rfl, hc⟩ := h
  refine ⟨ao, cap, rfl, fun k x hk => ?_⟩
  obtain ⟨b, off, e, h0⟩ := hc k x hk
  exact ⟨b, off, e, hn.cell h0⟩

/-- Costs that Linear takes. -/
def CostsOk (l : List Int) : Prop := l.length ≤ 24 ∧ ∀ x ∈ l, -2147483648 ≤ x ∧ x ≤ 2147483648

instance (l : List Int) : Decidable (CostsOk l) := by unfold CostsOk; infer_instance

set_option maxRecDepth 100000 in
set_option maxHeartbeats 800000 in
theorem valid_long {w : World} {v : Value} {l : List Int} (h : RdInts w v l) (hl : 24 < l.length) :
    Calls Tryz.prog 89 #[v] w fun e w' => e = .returned (.bool false) ∧ Near w w' := by
  obtain ⟨ao, cap, rfl, -⟩ := h
  have hl' : ¬ ((l.length : Int) ≤ 24) := by omega
  have hl2 : (24 : Int) < l.length := by omega
  go_enter Tryz.func89, Tryz.ntmps89
  go_wp2_with fail
  exact bodyPost_ret (v := .bool false) (by simp [results, Tryz.results89, go_sem]) rfl ⟨rfl, Near.refl _⟩

set_option maxRecDepth 100000 in
set_option maxHeartbeats 800000 in
theorem valid_short {w : World} {v : Value} {l : List Int} (h : RdInts w v l) (hl : l.length ≤ 24) {r : Bool} (hr : r = true ↔ ∀ x ∈ l, -2147483648 ≤ x ∧ x ≤ 2147483648) :
    Calls Tryz.prog 89 #[v] w fun e w' => e = .returned (.bool r) ∧ Near w w' := by
  obtain ⟨ao, cap, rfl, hc⟩ := h
  have hl' : ¬ ((24 : Int) < l.length) := by omega
  have HC := Lib.hid hc
  have HR := Lib.hid hr
  clear hc hr
  go_enter Tryz.func89, Tryz.ntmps89
  go_wp2_with fail
  go_loopw [4, 10] (fun x i wr => ∃ k : Nat, k ≤ l.length ∧ i = .int .i64 k ∧ (∀ y ∈ l.take k, -2147483648 ≤ y ∧ y ≤ 2147483648) ∧ Near w wr) (fun _ i _ => l.length - (intOf i).toNat)
  case atStart => exact ⟨0, Nat.zero_le _, rfl, by simp, Near.refl _⟩
  case round =>
    obtain ⟨k, hk, rfl, htk, hn⟩ := hrel
    have HTK := Lib.hid htk
    clear htk
    by_cases hlt : k < l.length
    · have hlt' : (k : Int) < l.length := by omega
      obtain ⟨g, off, rfl, x0⟩ := HC.out k _ (List.getElem?_eq_getElem hlt)
      have p0 := hn.cell x0
      have hs : l.take (k + 1) = l.take k ++ [l[k]] := List.take_succ_eq_append_getElem hlt
      have hm : l[k] ∈ l := List.getElem_mem hlt
      have HS := Lib.hid hs
      have HM := Lib.hid hm
      clear hs hm x0
      generalize l[k] = d at p0 HS HM
      by_cases h1 : d < -2147483648
      · go_wp2_with fail
        refine bodyPost_ret (v := .bool false) (by simp [results, Tryz.results89, go_sem]) rfl ⟨?_, hn⟩
        rw [show r = false from by
          cases r
          · rfl
          · have := HR.out.1 rfl d HM.out
            omega]
      · by_cases h2 : 2147483648 < d
        · go_wp2_with fail
          refine bodyPost_ret (v := .bool false) (by simp [results, Tryz.results89, go_sem]) rfl ⟨?_, hn⟩
          rw [show r = false from by
            cases r
            · rfl
            · have := HR.out.1 rfl d HM.out
              omega]
        · go_wp2_with fail
          refine ⟨⟨k + 1, hlt, by simp, fun y hy => ?_, hn⟩, by simp [intOf]; omega⟩
          rw [HS.out] at hy
          rcases List.mem_append.1 hy with hy | hy
          · exact HTK.out y hy
          · rw [List.mem_singleton.1 hy]
            omega
    · go_wp2_with fail
      refine bodyPost_ret (v := .bool true) (by simp [results, Tryz.results89, go_sem]) rfl ⟨?_, hn⟩
      rw [HR.out.2 (by
        have h := HTK.out
        rwa [List.take_of_length_le (by omega)] at h)]

theorem valid_calls {w : World} {v : Value} {l : List Int} (h : RdInts w v l) : Calls Tryz.prog 89 #[v] w fun e w' => e = .returned (.bool (decide (CostsOk l))) ∧ Near w w' := by
  by_cases hl : l.length ≤ 24
  · exact valid_short h hl (by simp [CostsOk, hl])
  · rw [show decide (CostsOk l) = false from decide_eq_false (fun h => hl h.1)]
    exact valid_long h (by omega)

end Go.Proofs.YtefclohjeompkaaGreat

/- LinB: what is needed of it. -/
namespace Go.Proofs.YtefclohjeompkaaGreat
open Go Go.RowKit Go.Proofs.Gen Go.Proofs.Bdd Go.Proofs.Bdd.T
/-- A sum lies in a span. -/
def inSpan (s : Int) (x : Dec) : Prop := x.v ≤ s ∧ s ≤ x.lo

set_option maxRecDepth 100000 in
set_option maxHeartbeats 1600000 in
theorem from_known {w : World} {b i : Nat} {s : Int} {ev v : Value} {l : List Dec} {x : Dec} {q : Nat} (hi : i < 24) (h25 : w.cell? ⟨b, 25, none⟩ = some ev) (h26 : w.cell? ⟨b, 26 + i, none⟩ = some v) (hv : RdDec w v l) (hl : l.length < 1099511627776)
    (hx : l[q]? = some x) (hin : inSpan s x) (hbefore : ∀ k y, k < q → l[k]? = some y → ¬ inSpan s y) :
    Calls Tryz.prog 90 #[.pointer (some ⟨b, 0, none⟩), .int .i64 i, .int .i64 s] w fun e w' => e = .returned (.agg #[.int .i64 x.v, .int .i64 x.lo, .int .i64 x.hi]) ∧ Near w w' := by
  obtain ⟨ao, cap, rfl, hc⟩ := hv
  have HC := Lib.hid hc
  have HX := Lib.hid hx
  have HIN := Lib.hid hin
  have HB := Lib.hid hbefore
  clear hc hx hin hbefore
  have hi' : (i : Int) < 24 := by omega
  have g25 := ((Near.refl w).alloc (.cells #[.int .i64 0, .int .i64 0, .int .i64 0] 134)).cell h25
  have g26 := ((Near.refl w).alloc (.cells #[.int .i64 0, .int .i64 0, .int .i64 0] 134)).cell h26
  go_enter Tryz.func90, Tryz.ntmps90
  go_wp2_with fail
  have hN1 := (Near.refl w).alloc (.cells #[.int .i64 0, .int .i64 0, .int .i64 0] 134)
  have hres : (w.alloc (.cells #[.int .i64 0, .int .i64 0, .int .i64 0] 134)).heap[w.heap.size]? = some (.cells #[.int .i64 0, .int .i64 0, .int .i64 0] 134 (0, 0)) := heap_new_at rfl
  have hql := (List.getElem?_eq_some_iff.1 HX.out).1
  clear h25 h26 g25 g26
  generalize w.alloc (.cells #[.int .i64 0, .int .i64 0, .int .i64 0] 134) = W1 at *
  have HN1 := Lib.hid hN1
  have HRES := Lib.hid hres
  clear hN1 hres
  go_loopw [27] (fun i wr => ∃ k : Nat, k ≤ q ∧ i = .int .i64 k ∧ Near W1 wr) (fun i _ => q + 1 - (intOf i).toNat)
  case atStart => exact ⟨0, Nat.zero_le _, rfl, Near.refl _⟩
  case round =>
    obtain ⟨k, hk, rfl, hn⟩ := hrel
    have hlt : k < l.length := by omega
    have hlt' : (k : Int) < l.length := by omega
    obtain ⟨g, off, rfl, x0, x1, x2⟩ := HC.out k _ (List.getElem?_eq_getElem hlt)
    have p0 := hn.cell (HN1.out.cell x0)
    have p1 := hn.cell (HN1.out.cell x1)
    have p2 := hn.cell (HN1.out.cell x2)
    have gg : l[k]? = some l[k] := List.getElem?_eq_getElem hlt
    have GG := Lib.hid gg
    clear gg x0 x1 x2
    generalize l[k] = y at p0 p1 p2 GG
    obtain ⟨yv, yl, yp⟩ := y
    simp only at p0 p1 p2
    have A0 := ((Near.refl wr).alloc (.cells #[.int .i64 yv, .int .i64 yl, .int .i64 yp] 134))
    have hr0 := keepN (hn.trans A0) HRES.out
    have r0 := cell1 (o := 0) hr0 rfl
    have r1 := cell1 (o := 1) hr0 rfl
    have r2 := cell1 (o := 2) hr0 rfl
    have rf := free1 hr0
    have HR0 := Lib.hid hr0
    clear hr0
    by_cases hkq : k = q
    · subst hkq
      obtain rfl : x = ⟨yv, yl, yp⟩ := Option.some.inj (HX.out.symm.trans GG.out)
      have hin := HIN.out
      unfold inSpan at hin
      obtain ⟨h1, h2⟩ := hin
      simp only at h1 h2
      go_wp2_with fail
      have hf := setCell_heap (setCell_heap (setCell_heap HR0.out 0 (.int .i64 yv)) 1 (.int .i64 yl)) 2 (.int .i64 yp)
      have f0 := cell1 (o := 0) hf rfl
      have f1 := cell1 (o := 1) hf rfl
      have f2 := cell1 (o := 2) hf rfl
      refine bodyPost_ret (v := .agg #[.int .i64 yv, .int .i64 yl, .int .i64 yp]) (by simp [results, Tryz.results90, go_sem, f0, f1, f2]) rfl ⟨rfl, ?_⟩
      exact (((((HN1.out.trans hn).trans A0).set (p := ⟨w.heap.size, 0, none⟩) (Nat.le_refl _) _).set (p := ⟨w.heap.size, 1, none⟩) (Nat.le_refl _) _).set (p := ⟨w.heap.size, 2, none⟩) (Nat.le_refl _) _)
    · have hne := Lib.hid hkq
      have hnot := HB.out k _ (by omega) GG.out
      unfold inSpan at hnot
      simp only at hnot
      clear hkq
      by_cases h1 : yv ≤ s
      · have h2 : ¬ (s ≤ yl) := fun h => hnot ⟨h1, h⟩
        clear hnot
        go_wp2_with fail
        exact ⟨⟨k + 1, by have := hne.out; omega, by simp, hn.trans A0⟩, by simp [intOf]; omega⟩
      · clear hnot
        go_wp2_with fail
        exact ⟨⟨k + 1, by have := hne.out; omega, by simp, hn.trans A0⟩, by simp [intOf]; omega⟩

set_option maxRecDepth 100000 in
set_option maxHeartbeats 1600000 in
theorem from_end {w : World} {b : Nat} {s : Int} {v : Value} {l : List Dec} {x : Dec} {q : Nat} (h25 : w.cell? ⟨b, 25, none⟩ = some v) (hv : RdDec w v l) (hl : l.length < 1099511627776)
    (hx : l[q]? = some x) (hin : inSpan s x) (hbefore : ∀ k y, k < q → l[k]? = some y → ¬ inSpan s y) :
    Calls Tryz.prog 90 #[.pointer (some ⟨b, 0, none⟩), .int .i64 24, .int .i64 s] w fun e w' => e = .returned (.agg #[.int .i64 x.v, .int .i64 x.lo, .int .i64 x.hi]) ∧ Near w w' := by
  obtain ⟨ao, cap, rfl, hc⟩ := hv
  have HC := Lib.hid hc
  have HX := Lib.hid hx
  have HIN := Lib.hid hin
  have HB := Lib.hid hbefore
  clear hc hx hin hbefore
  have g25 := ((Near.refl w).alloc (.cells #[.int .i64 0, .int .i64 0, .int .i64 0] 134)).cell h25
  go_enter Tryz.func90, Tryz.ntmps90
  go_wp2_with fail
  have hN1 := (Near.refl w).alloc (.cells #[.int .i64 0, .int .i64 0, .int .i64 0] 134)
  have hres : (w.alloc (.cells #[.int .i64 0, .int .i64 0, .int .i64 0] 134)).heap[w.heap.size]? = some (.cells #[.int .i64 0, .int .i64 0, .int .i64 0] 134 (0, 0)) := heap_new_at rfl
  have hql := (List.getElem?_eq_some_iff.1 HX.out).1
  clear h25 g25
  generalize w.alloc (.cells #[.int .i64 0, .int .i64 0, .int .i64 0] 134) = W1 at *
  have HN1 := Lib.hid hN1
  have HRES := Lib.hid hres
  clear hN1 hres
  go_loopw [27] (fun i wr => ∃ k : Nat, k ≤ q ∧ i = .int .i64 k ∧ Near W1 wr) (fun i _ => q + 1 - (intOf i).toNat)
  case atStart => exact ⟨0, Nat.zero_le _, rfl, Near.refl _⟩
  case round =>
    obtain ⟨k, hk, rfl, hn⟩ := hrel
    have hlt : k < l.length := by omega
    have hlt' : (k : Int) < l.length := by omega
    obtain ⟨g, off, rfl, x0, x1, x2⟩ := HC.out k _ (List.getElem?_eq_getElem hlt)
    have p0 := hn.cell (HN1.out.cell x0)
    have p1 := hn.cell (HN1.out.cell x1)
    have p2 := hn.cell (HN1.out.cell x2)
    have gg : l[k]? = some l[k] := List.getElem?_eq_getElem hlt
    have GG := Lib.hid gg
    clear gg x0 x1 x2
    generalize l[k] = y at p0 p1 p2 GG
    obtain ⟨yv, yl, yp⟩ := y
    simp only at p0 p1 p2
    have A0 := ((Near.refl wr).alloc (.cells #[.int .i64 yv, .int .i64 yl, .int .i64 yp] 134))
    have hr0 := keepN (hn.trans A0) HRES.out
    have r0 := cell1 (o := 0) hr0 rfl
    have r1 := cell1 (o := 1) hr0 rfl
    have r2 := cell1 (o := 2) hr0 rfl
    have rf := free1 hr0
    have HR0 := Lib.hid hr0
    clear hr0
    by_cases hkq : k = q
    · subst hkq
      obtain rfl : x = ⟨yv, yl, yp⟩ := Option.some.inj (HX.out.symm.trans GG.out)
      have hin := HIN.out
      unfold inSpan at hin
      obtain ⟨h1, h2⟩ := hin
      simp only at h1 h2
      go_wp2_with fail
      have hf := setCell_heap (setCell_heap (setCell_heap HR0.out 0 (.int .i64 yv)) 1 (.int .i64 yl)) 2 (.int .i64 yp)
      have f0 := cell1 (o := 0) hf rfl
      have f1 := cell1 (o := 1) hf rfl
      have f2 := cell1 (o := 2) hf rfl
      refine bodyPost_ret (v := .agg #[.int .i64 yv, .int .i64 yl, .int .i64 yp]) (by simp [results, Tryz.results90, go_sem, f0, f1, f2]) rfl ⟨rfl, ?_⟩
      exact (((((HN1.out.trans hn).trans A0).set (p := ⟨w.heap.size, 0, none⟩) (Nat.le_refl _) _).set (p := ⟨w.heap.size, 1, none⟩) (Nat.le_refl _) _).set (p := ⟨w.heap.size, 2, none⟩) (Nat.le_refl _) _)
    · have hne := Lib.hid hkq
      have hnot := HB.out k _ (by omega) GG.out
      unfold inSpan at hnot
      simp only at hnot
      clear hkq
      by_cases h1 : yv ≤ s
      · have h2 : ¬ (s ≤ yl) := fun h => hnot ⟨h1, h⟩
        clear hnot
        go_wp2_with fail
        exact ⟨⟨k + 1, by have := hne.out; omega, by simp, hn.trans A0⟩, by simp [intOf]; omega⟩
      · clear hnot
        go_wp2_with fail
        exact ⟨⟨k + 1, by have := hne.out; omega, by simp, hn.trans A0⟩, by simp [intOf]; omega⟩

end Go.Proofs.YtefclohjeompkaaGreat

/- LinC: what is needed of it. -/
namespace Go.Proofs.YtefclohjeompkaaGreat
open Go Go.RowKit Go.Proofs.Gen Go.Proofs.Bdd Go.Proofs.Bdd.T
theorem decs_at : ∀ (l : List Dec) (k : Nat) (x : Dec), l[k]? = some x → ∀ j, j < 3 → (decs l)[k * 3 + j]? = (decC x)[j]?
  | [], k, x, h, _, _ => by simp at h
  | y :: r, 0, x, h, j, hj => by
    simp at h
    subst h
    show (decC y ++ decs r)[0 * 3 + j]? = _
    rw [List.getElem?_append_left (by show 0 * 3 + j < 3; omega), Nat.zero_mul, Nat.zero_add]
  | y :: r, k + 1, x, h, j, hj => by
    show (decC y ++ decs r)[(k + 1) * 3 + j]? = _
    have ly : (decC y).length = 3 := rfl
    rw [List.getElem?_append_right (by omega), ly, show (k + 1) * 3 + j - 3 = k * 3 + j from by omega]
    exact decs_at r k x (by simpa using h) j hj

/-- A row of threes of whatever type, as it is read. -/
theorem RdDec.row {w : World} {base e : Nat} {v : Value} {l : List Dec} (h : w.ownsRow base e 3 v l.length (decs l)) : RdDec w v l := by
  obtain ⟨ao, cap, rfl⟩ := owns_form h
  refine ⟨ao, cap, rfl, fun k x hk => ?_⟩
  have hlt : k < l.length := (List.getElem?_eq_some_iff.1 hk).1
  rcases h.2 with ⟨_, h0⟩ | ⟨g, cp, cur, he, _, hg, _, _, hs, ht⟩
  · omega
  · cases he
    have look : ∀ j, j < 3 → w.cell? ⟨g, k * 3 + j, none⟩ = (decC x)[j]? := by
      intro j hj
      have a := decs_at l k x hk j hj
      rw [← ht, List.getElem?_take, if_pos (by omega)] at a
      simp only [World.cell?, hg]
      simpa using a
    exact ⟨g, 0, rfl, by simpa [decC] using look 0 (by omega), by simpa [decC] using look 1 (by omega), by simpa [decC] using look 2 (by omega)⟩

/-- A block of cells that is no part of a maker. -/
def Oth (w : World) (k : Nat) : Prop := ∃ cs t fr, w.heap[k]? = some (.cells cs t fr) ∧ 149 ≠ t ∧ 84 ≠ t

theorem IsMaker.avoidOth {w : World} {mb : Nat} {S : Nat → Prop} {L : List T} (h : IsMaker w mb S L) : IsMaker w mb (fun k => S k ∧ ¬ Oth w k) L := by
  have one : ∀ b, Oth w b → IsMaker w mb (fun k => S k ∧ k ≠ b) L := fun b ⟨_, _, _, hb, h1, h2⟩ => h.avoid hb h1 h2
  obtain ⟨sv, kb, n, hmb, hown, hmap, hn, s1, s2, s3⟩ := h
  refine ⟨sv, kb, n, hmb, hown, hmap, hn, ⟨s1, ?_⟩, ⟨s2, ?_⟩, fun k hk => ⟨s3 k hk, ?_⟩⟩
  · rintro ⟨cs, t, fr, hb, h1, h2⟩
    rw [hmb] at hb
    cases hb
    exact h1 rfl
  · rintro ⟨cs, t, fr, hb, h1, h2⟩
    obtain ⟨es, clock, hmp, _⟩ := hmap
    rw [hmp] at hb
    cases hb
  · rintro ⟨cs, t, fr, hb, h1, h2⟩
    exact owns_ne hown hb h2 hk

/-- The box's cells. -/
def linCells (mb : Nat) (cost : Nat → Int) (ev : Value) (kv : Nat → Value) : List Value :=
  .pointer (some ⟨mb, 0, none⟩) :: ((List.range 24).map (fun i => Value.int .i64 (cost i)) ++ ev :: (List.range 24).map kv)

theorem linCells_len (mb : Nat) (cost : Nat → Int) (ev : Value) (kv : Nat → Value) : (linCells mb cost ev kv).length = 50 := by simp [linCells]

theorem linCells_cost {mb : Nat} {cost : Nat → Int} {ev : Value} {kv : Nat → Value} {i : Nat} (hi : i < 24) : (linCells mb cost ev kv)[1 + i]? = some (.int .i64 (cost i)) := by
  unfold linCells
  rw [Nat.add_comm, List.getElem?_cons_succ, List.getElem?_append_left (by simpa using hi), List.getElem?_map, List.getElem?_range hi]
  rfl

theorem linCells_ends {mb : Nat} {cost : Nat → Int} {ev : Value} {kv : Nat → Value} : (linCells mb cost ev kv)[25]? = some ev := by
  unfold linCells
  rw [List.getElem?_cons_succ, List.getElem?_append_right (by simp)]
  simp

theorem linCells_known {mb : Nat} {cost : Nat → Int} {ev : Value} {kv : Nat → Value} {i : Nat} (hi : i < 24) : (linCells mb cost ev kv)[26 + i]? = some (kv i) := by
  unfold linCells
  rw [show 26 + i = (25 + i) + 1 by omega, List.getElem?_cons_succ, List.getElem?_append_right (by simp; omega)]
  rw [show 25 + i - ((List.range 24).map (fun i => Value.int .i64 (cost i))).length = i + 1 by simp; omega, List.getElem?_cons_succ, List.getElem?_map, List.getElem?_range hi]
  rfl

theorem linCells_set {mb : Nat} {cost : Nat → Int} {ev : Value} {kv : Nat → Value} {i : Nat} (hi : i < 24) (v : Value) : (linCells mb cost ev kv).set (26 + i) v = linCells mb cost ev (fun j => if j = i then v else kv j) := by
  refine List.ext_getElem? fun n => ?_
  rw [List.getElem?_set, linCells_len]
  by_cases e : 26 + i = n
  · subst e
    rw [if_pos rfl, if_pos (by omega), linCells_known hi]
    simp
  · rw [if_neg e]
    by_cases h : n < 50
    · by_cases h0 : n = 0
      · subst h0; rfl
      · by_cases h1 : n < 25
        · obtain ⟨m, rfl⟩ : ∃ m, n = 1 + m := ⟨n - 1, by omega⟩
          rw [linCells_cost (by omega), linCells_cost (by omega)]
        · by_cases h2 : n = 25
          · subst h2
            rw [linCells_ends, linCells_ends]
          · obtain ⟨m, rfl⟩ : ∃ m, n = 26 + m := ⟨n - 26, by omega⟩
            rw [linCells_known (by omega), linCells_known (by omega), if_neg (by omega)]
    · rw [List.getElem?_eq_none (by rw [linCells_len]; omega), List.getElem?_eq_none (by rw [linCells_len]; omega)]

/-- Linear's box: block b, its maker, the rows of spans. -/
structure LinI (w : World) (b mb : Nat) (S : Nat → Prop) (cost : Nat → Int) (ev : Value) (kv : Nat → Value) (es : List Dec) (L : List T) (ks : Nat → List Dec) : Prop where
  good : T.Good L
  maker : IsMaker w mb S L
  blk : w.heap[b]? = some (.cells (linCells mb cost ev kv).toArray 132 (0, 0))
  base : S b
  ends : w.ownsRow 0 134 3 ev es.length (decs es)
  rows : ∀ i, i < 24 → w.ownsRow 0 134 3 (kv i) (ks i).length (decs (ks i))
  apart : ∀ i j k, i < 24 → j < 24 → i ≠ j → (kv i).ownBlock = some k → (kv j).ownBlock ≠ some k
  apartE : ∀ i k, i < 24 → ev.ownBlock = some k → (kv i).ownBlock ≠ some k
  own : ∀ i k, i < 24 → (kv i).ownBlock = some k → S k

/-- What leaves the box, the maker's blocks and the rows alone keeps it. -/
theorem LinI.kept {w w' : World} {b mb : Nat} {S : Nat → Prop} {cost : Nat → Int} {ev : Value} {kv : Nat → Value} {es : List Dec} {L : List T} {ks : Nat → List Dec} (h : LinI w b mb S cost ev kv es L ks) (hn : Near w w') : LinI w' b mb S cost ev kv es L ks :=
  ⟨h.good, h.maker.near hn, keepN hn h.blk, h.base, owns_kept h.ends hn (fun _ _ => id), fun i hi => owns_kept (h.rows i hi) hn (fun _ _ => id), h.apart, h.apartE, h.own⟩

theorem LinI.mono_lt {w : World} {b mb : Nat} {S R : Nat → Prop} {cost : Nat → Int} {ev : Value} {kv : Nat → Value} {es : List Dec} {L : List T} {ks : Nat → List Dec} (h : LinI w b mb S cost ev kv es L ks) (hs : ∀ k, k < w.heap.size → S k → R k) : LinI w b mb R cost ev kv es L ks :=
  ⟨h.good, h.maker.mono_lt hs, h.blk, hs _ (Array.getElem?_eq_some_iff.1 h.blk).1 h.base, h.ends, h.rows, h.apart, h.apartE, fun i k hi e => hs k ((h.rows i hi).lt k e).2 (h.own i k hi e)⟩

/-- A row's block is none of a maker's. -/
theorem row_oth {w : World} {base size n : Nat} {v : Value} {xs : List Value} (h : w.ownsRow base 134 size v n xs) {k : Nat} (hk : v.ownBlock = some k) : Oth w k := by
  rcases h.2 with ⟨rfl, _⟩ | ⟨g, cap, cur, rfl, _, hg, _⟩
  · cases hk
  · cases hk
    exact ⟨_, _, _, hg, by decide, by decide⟩

/-- One node more. -/
theorem LinI.node {w w' : World} {b mb : Nat} {S : Nat → Prop} {cost : Nat → Int} {ev : Value} {kv : Nat → Value} {es : List Dec} {L L' : List T} {ks : Nat → List Dec} (h : LinI w b mb S cost ev kv es L ks) (g' : T.Good L')
    (hm : IsMaker w' mb (fun k => S k ∧ ¬ Oth w k) L') (hk : Kept (fun k => S k ∧ ¬ Oth w k) w w') : LinI w' b mb S cost ev kv es L' ks := by
  have ob : Oth w b := ⟨_, _, _, h.blk, by decide, by decide⟩
  exact ⟨g', hm.mono fun k hk => hk.1, (hk.block b (Array.getElem?_eq_some_iff.1 h.blk).1 (fun hh => hh.2 ob)).trans h.blk, h.base,
    owns_kept h.ends hk (fun k hb hh => hh.2 (row_oth h.ends hb)), fun i hi => owns_kept (h.rows i hi) hk (fun k hb hh => hh.2 (row_oth (h.rows i hi) hb)), h.apart, h.apartE, h.own⟩

end Go.Proofs.YtefclohjeompkaaGreat

/- LinD: what is needed of it. -/
namespace Go.Proofs.YtefclohjeompkaaGreat
open Go Go.RowKit Go.Proofs.Gen Go.Proofs.Bdd Go.Proofs.Bdd.T
theorem decs_snoc (l : List Dec) (y : Dec) : decs (l ++ [y]) = decs l ++ decC y := by simp [decs]

/-- A row's block is not the box. -/
theorem row_ne {w : World} {base size n b t : Nat} {v : Value} {xs : List Value} {cs : Array Value} {fr : Nat × Nat} (h : w.ownsRow base 134 size v n xs) (hb : w.heap[b]? = some (.cells cs t fr)) (ht : 134 ≠ t) : v.ownBlock ≠ some b := by
  intro hk
  rcases h.2 with ⟨rfl, _⟩ | ⟨g, cap, cur, rfl, _, hg, _⟩
  · cases hk
  · cases hk
    rw [hg] at hb
    cases hb
    exact ht rfl

theorem LinI.app {w W : World} {b mb : Nat} {S : Nat → Prop} {cost : Nat → Int} {ev : Value} {kv : Nat → Value} {es : List Dec} {L : List T} {ks : Nat → List Dec} (h : LinI w b mb S cost ev kv es L ks) {i : Nat} (hi : i < 24) {y : Dec} {v : Value}
    (hr : W.ownsRow 0 134 3 v ((ks i).length + 1) (decs (ks i) ++ decC y)) (hk : Kept (fun k => (kv i).ownBlock = some k) w W) (hnew : v.ownBlock = (kv i).ownBlock ∨ ∃ z, v.ownBlock = some z ∧ w.heap.size ≤ z) (hS : ∀ k, w.heap.size ≤ k → S k) :
    ∀ w', w' = W.setCell ⟨b, 26 + i, none⟩ v → LinI w' b mb S cost ev (fun j => if j = i then v else kv j) es L (fun j => if j = i then ks i ++ [y] else ks j) ∧ Kept S w w' := by
  rintro w' rfl
  have hbl : b < w.heap.size := (Array.getElem?_eq_some_iff.1 h.blk).1
  have hbW : W.heap[b]? = some (.cells (linCells mb cost ev kv).toArray 132 (0, 0)) := (hk.block b hbl (row_ne (h.rows i hi) h.blk (by decide))).trans h.blk
  have hset := setCell_heap hbW (26 + i) v
  rw [List.setIfInBounds_toArray, linCells_set hi v] at hset
  have hk2 : Kept (fun k => (kv i).ownBlock = some k ∨ k = b) w (W.setCell ⟨b, 26 + i, none⟩ v) :=
    Kept.setCell (S := fun k => (kv i).ownBlock = some k ∨ k = b) (Kept.mono hk (fun _ _ h => Or.inl h)) (p := ⟨b, 26 + i, none⟩) (fun _ => Or.inr rfl) v
  have ho : ∀ k, ((kv i).ownBlock = some k ∨ k = b) → Oth w k := by
    rintro k (e | rfl)
    · exact row_oth (h.rows i hi) e
    · exact ⟨_, _, _, h.blk, by decide, by decide⟩
  have hro := owns_setCell hr hbW (by decide) (26 + i) v
  have hlow : ∀ k, (kv i).ownBlock = some k → S k := fun k e => h.own i k hi e
  generalize W.setCell ⟨b, 26 + i, none⟩ v = w' at *
  refine ⟨⟨h.good, (h.maker.avoidOth.of_kept hk2 (fun k _ hs hR => hs.2 (ho k hR))).mono (fun k hs => hs.1), hset, h.base, owns_kept h.ends hk2 ?_, fun j hj => ?_, fun j m k hj hm hne e => ?_, fun j k hj e => ?_, fun j k hj e => ?_⟩, Kept.mono hk2 ?_⟩
  · rintro k e (e' | rfl)
    · exact h.apartE i k hi e e'
    · exact row_ne h.ends h.blk (by decide) e
  · by_cases e : j = i
    · simp only [if_pos e]
      rw [decs_snoc, List.length_append]
      exact hro
    · simp only [if_neg e]
      refine owns_kept (h.rows j hj) hk2 ?_
      rintro k e1 (e' | rfl)
      · exact h.apart j i k hj hi e e1 e'
      · exact row_ne (h.rows j hj) h.blk (by decide) e1
  · have low : ∀ j k, j < 24 → (kv j).ownBlock = some k → k < w.heap.size := fun j k hj e => ((h.rows j hj).lt k e).2
    by_cases e1 : j = i
    · simp only [if_pos e1] at e
      simp only [if_neg (show ¬ m = i by omega)]
      rcases hnew with hn | ⟨z, hz, hlt⟩
      · exact h.apart i m k hi hm (by omega) (hn ▸ e)
      · rw [hz] at e
        cases e
        intro e2
        have := low m _ hm e2
        omega
    · simp only [if_neg e1] at e
      by_cases e2 : m = i
      · simp only [if_pos e2]
        rcases hnew with hn | ⟨z, hz, hlt⟩
        · rw [hn]
          exact h.apart j i k hj hi e1 e
        · rw [hz]
          intro e3
          cases e3
          have := low j _ hj e
          omega
      · simp only [if_neg e2]
        exact h.apart j m k hj hm hne e
  · have low : k < w.heap.size := (h.ends.lt k e).2
    by_cases e1 : j = i
    · simp only [if_pos e1]
      rcases hnew with hn | ⟨z, hz, hlt⟩
      · rw [hn]
        exact h.apartE i k hi e
      · rw [hz]
        intro e3
        cases e3
        omega
    · simp only [if_neg e1]
      exact h.apartE j k hj e
  · by_cases e1 : j = i
    · simp only [if_pos e1] at e
      rcases hnew with hn | ⟨z, hz, hlt⟩
      · exact h.own i k hi (hn ▸ e)
      · rw [hz] at e
        cases e
        exact hS _ hlt
    · simp only [if_neg e1] at e
      exact h.own j k hj e
  · rintro k _ (e | rfl)
    · exact hlow k e
    · exact h.base

end Go.Proofs.YtefclohjeompkaaGreat

/- LinE: what is needed of it. -/
namespace Go.Proofs.YtefclohjeompkaaGreat
open Go Go.RowKit Go.Proofs.Gen Go.Proofs.Bdd Go.Proofs.Bdd.T
/-- The first span of a list that a sum lies in, if there is one. -/
theorem first_span (s : Int) : ∀ l : List Dec, (∃ (q : Nat) (x : Dec), l[q]? = some x ∧ inSpan s x ∧ ∀ (k : Nat) (y : Dec), k < q → l[k]? = some y → ¬ inSpan s y) ∨ ∀ y ∈ l, ¬ inSpan s y
  | [] => .inr (fun _ h => by cases h)
  | x :: l => by
    by_cases hx : inSpan s x
    · exact .inl ⟨0, x, rfl, hx, fun k y hk => by omega⟩
    · rcases first_span s l with ⟨q, y, h1, h2, h3⟩ | h
      · refine .inl ⟨q + 1, y, h1, h2, fun k z hk hz => ?_⟩
        cases k with
        | zero =>
          cases hz
          exact hx
        | succ k => exact h3 k z (by omega) hz
      · refine .inr fun y hy => ?_
        rcases List.mem_cons.1 hy with rfl | hy
        · exact hx
        · exact h y hy

/-- Linear's box with right spans, and room for the nodes of k features more. -/
structure FromPre (w : World) (b mb : Nat) (S : Nat → Prop) (cost : Nat → Int) (g : Int → Bool) (ev : Value) (kv : Nat → Value) (es : List Dec) (L : List T) (ks : Nat → List Dec) (k : Nat) : Prop where
  box : LinI w b mb S cost ev kv es L ks
  costs : ∀ i, -2147483648 ≤ cost i ∧ cost i ≤ 2147483648
  known : ∀ j, j < 24 → ∀ y ∈ ks j, SpanOk cost g L (24 - j) y
  ends : ∀ y ∈ es, SpanOk cost g L 0 y
  all : ∀ s, -35184372088832 ≤ s → s ≤ 35184372088832 → ∃ y ∈ es, inSpan s y
  room : L.length + 2 ^ k ≤ 67108864
  rooms : ∀ j, (ks j).length + 2 ^ k ≤ 67108864
  few : es.length ≤ 67108864
  base : ∀ k, w.heap.size ≤ k → S k

def FromPost (w : World) (b mb : Nat) (S : Nat → Prop) (cost : Nat → Int) (g : Int → Bool) (ev : Value) (es : List Dec) (L : List T) (ks : Nat → List Dec) (k : Nat) (s : Int) (e : Ending) (w' : World) : Prop :=
  ∃ x L' kv' ks', e = .returned (.agg #[.int .i64 x.v, .int .i64 x.lo, .int .i64 x.hi]) ∧ LinI w' b mb S cost ev kv' es L' ks' ∧ SpanOk cost g L' k x ∧ inSpan s x ∧ (∃ M, L' = L ++ M) ∧ L'.length + 1 ≤ L.length + 2 ^ k ∧
    (∀ j, j < 24 → ∀ y ∈ ks' j, SpanOk cost g L' (24 - j) y) ∧ (∀ j, j < 24 - k → ks' j = ks j) ∧ (∀ j, (ks' j).length + 1 ≤ (ks j).length + 2 ^ k) ∧ Kept S w w'

/-- What one call leaves is what the next one wants. -/
theorem FromPre.next {w w' : World} {b mb : Nat} {S : Nat → Prop} {cost : Nat → Int} {g : Int → Bool} {ev : Value} {kv kv' : Nat → Value} {es : List Dec} {L L' : List T} {ks ks' : Nat → List Dec} {k m : Nat} (h : FromPre w b mb S cost g ev kv es L ks (k + 1)) (hm : m ≤ k)
    (hb : LinI w' b mb S cost ev kv' es L' ks') (hM : ∃ M, L' = L ++ M) (hl : L'.length + 1 ≤ L.length + 2 ^ k) (hs : ∀ j, j < 24 → ∀ y ∈ ks' j, SpanOk cost g L' (24 - j) y) (hn : ∀ j, (ks' j).length + 1 ≤ (ks j).length + 2 ^ k) (hk : Kept S w w') :
    FromPre w' b mb S cost g ev kv' es L' ks' m := by
  obtain ⟨M, rfl⟩ := hM
  have h2 : 2 ^ m ≤ 2 ^ k := Nat.pow_le_pow_right (by omega) hm
  have h3 : 2 ^ (k + 1) = 2 ^ k + 2 ^ k := by rw [Nat.pow_succ]; omega
  have h4 := h.room
  have h5 := hk.size
  have h6 := h.base
  exact ⟨hb, h.costs, hs, fun y hy => (h.ends y hy).mono M, h.all, by omega, fun j => by have := hn j; have := h.rooms j; omega, h.few, fun k hk => h6 k (by omega)⟩

theorem FromPre.near {w w' : World} {b mb : Nat} {S : Nat → Prop} {cost : Nat → Int} {g : Int → Bool} {ev : Value} {kv : Nat → Value} {es : List Dec} {L : List T} {ks : Nat → List Dec} {k : Nat} (h : FromPre w b mb S cost g ev kv es L ks k) (hn : Near w w') : FromPre w' b mb S cost g ev kv es L ks k :=
  ⟨h.box.kept hn, h.costs, h.known, h.ends, h.all, h.room, h.rooms, h.few, fun k hk => h.base k (Nat.le_trans hn.size hk)⟩

theorem FromPre.less {w : World} {b mb : Nat} {S : Nat → Prop} {cost : Nat → Int} {g : Int → Bool} {ev : Value} {kv : Nat → Value} {es : List Dec} {L : List T} {ks : Nat → List Dec} {k : Nat} (h : FromPre w b mb S cost g ev kv es L ks (k + 1)) : FromPre w b mb S cost g ev kv es L ks k := by
  have h3 : 2 ^ (k + 1) = 2 ^ k + 2 ^ k := by rw [Nat.pow_succ]; omega
  have h4 := h.room
  have h5 := Nat.one_le_two_pow (n := k)
  exact ⟨h.box, h.costs, h.known, h.ends, h.all, by omega, fun j => by have := h.rooms j; omega, h.few, h.base⟩

/-- A block of one's own, laid since, is not given away. -/
theorem FromPre.shrink {w w' : World} {b mb : Nat} {S : Nat → Prop} {cost : Nat → Int} {g : Int → Bool} {ev : Value} {kv : Nat → Value} {es : List Dec} {L : List T} {ks : Nat → List Dec} {k : Nat} (h : FromPre w b mb S cost g ev kv es L ks k) (hn : Near w w') {z : Nat} (h1 : w.heap.size ≤ z) (h2 : z < w'.heap.size) :
    FromPre w' b mb (fun k => S k ∧ k ≠ z) cost g ev kv es L ks k :=
  ⟨(h.box.mono_lt (fun k hk hs => ⟨hs, by omega⟩)).kept hn, h.costs, h.known, h.ends, h.all, h.room, h.rooms, h.few, fun k hk => ⟨h.base k (Nat.le_trans hn.size hk), by omega⟩⟩

theorem FromPre.cost {w : World} {b mb : Nat} {S : Nat → Prop} {cost : Nat → Int} {g : Int → Bool} {ev : Value} {kv : Nat → Value} {es : List Dec} {L : List T} {ks : Nat → List Dec} {k : Nat} (h : FromPre w b mb S cost g ev kv es L ks k) {i : Nat} (hi : i < 24) : w.cell? ⟨b, 1 + i, none⟩ = some (.int .i64 (cost i)) :=
  cell1 (o := 1 + i) h.box.blk (by rw [List.getElem?_toArray]; exact linCells_cost hi)

/-- A span that was known: nothing is new. -/
theorem FromPre.same {w w' : World} {b mb : Nat} {S : Nat → Prop} {cost : Nat → Int} {g : Int → Bool} {ev : Value} {kv : Nat → Value} {es : List Dec} {L : List T} {ks : Nat → List Dec} {k : Nat} (h : FromPre w b mb S cost g ev kv es L ks k) {x : Dec} {s : Int} (hx : SpanOk cost g L k x) (hin : inSpan s x) (hn : Near w w') :
    FromPost w b mb S cost g ev es L ks k s (.returned (.agg #[.int .i64 x.v, .int .i64 x.lo, .int .i64 x.hi])) w' := by
  have hp : 1 ≤ 2 ^ k := Nat.one_le_two_pow
  exact ⟨x, L, kv, ks, rfl, h.box.kept hn, hx, hin, ⟨[], by simp⟩, by omega, h.known, fun _ _ => rfl, fun j => by omega, Kept.mono hn (fun _ _ f => f.elim)⟩

/-- The features are at an end. -/
theorem from_zero {w : World} {b mb : Nat} {S : Nat → Prop} {cost : Nat → Int} {g : Int → Bool} {ev : Value} {kv : Nat → Value} {es : List Dec} {L : List T} {ks : Nat → List Dec} (h : FromPre w b mb S cost g ev kv es L ks 0) {s : Int} (h1 : -35184372088832 ≤ s) (h2 : s ≤ 35184372088832) :
    Calls Tryz.prog 90 #[.pointer (some ⟨b, 0, none⟩), .int .i64 24, .int .i64 s] w (FromPost w b mb S cost g ev es L ks 0 s) := by
  rcases first_span s es with ⟨q, x, hx, hin, hb⟩ | hno
  · refine (from_end (cell1 (o := 25) h.box.blk (by rw [List.getElem?_toArray]; exact linCells_ends)) (RdDec.row h.box.ends) (by have := h.few; omega) hx hin hb).mono ?_
    rintro e w' ⟨rfl, hn⟩
    exact h.same (h.ends x (List.mem_of_getElem? hx)) hin hn
  · obtain ⟨y, hy, hin⟩ := h.all s h1 h2
    exact (hno y hy hin).elim

end Go.Proofs.YtefclohjeompkaaGreat

/- LinF: what is needed of it. -/
namespace Go.Proofs.YtefclohjeompkaaGreat
open Go Go.RowKit Go.Proofs.Gen Go.Proofs.Bdd Go.Proofs.Bdd.T
theorem info188 : (Tryz.prog.info? 134).map (fun i => (i.zero, i.size, i.bytes)) = some (some (.agg #[.int .i64 0, .int .i64 0, .int .i64 0]), 3, 24) := by kernel_rfl

theorem cell_three_at {w : World} {b : Nat} (hb : b = w.heap.size) (x y z : Value) (t : TypeId) : ∀ j u, [x, y, z][j]? = some u → (w.alloc (.cells #[x, y, z] t)).cell? ((⟨b, 0, none⟩ : Addr).add j) = some u := by
  subst hb
  intro j u hj
  match j, hj with
  | 0, hj => simp at hj; subst hj; simp [Addr.add]
  | 1, hj => simp at hj; subst hj; simp [Addr.add]
  | 2, hj => simp at hj; subst hj; simp [Addr.add]
  | j + 3, hj => simp at hj

theorem LinI.keptOf {w w' : World} {R : Nat → Prop} {b mb : Nat} {S : Nat → Prop} {cost : Nat → Int} {ev : Value} {kv : Nat → Value} {es : List Dec} {L : List T} {ks : Nat → List Dec} (h : LinI w b mb S cost ev kv es L ks) (hk : Kept R w w') (hR : ∀ k, R k → ¬ S k)
    (hE : ∀ k, ev.ownBlock = some k → ¬ R k) : LinI w' b mb S cost ev kv es L ks :=
  ⟨h.good, h.maker.of_kept hk (fun k _ hs hr => hR k hr hs), (hk.block b (Array.getElem?_eq_some_iff.1 h.blk).1 (fun hr => hR b hr h.base)).trans h.blk, h.base, owns_kept h.ends hk hE,
    fun i hi => owns_kept (h.rows i hi) hk (fun k e hr => hR k hr (h.own i k hi e)), h.apart, h.apartE, h.own⟩

/-- A call's yield, its ending aside. -/
def FromQ (w : World) (b mb : Nat) (S : Nat → Prop) (cost : Nat → Int) (g : Int → Bool) (ev : Value) (es : List Dec) (L : List T) (ks : Nat → List Dec) (k : Nat) (s : Int) (x : Dec) (L' : List T) (kv' : Nat → Value) (ks' : Nat → List Dec) (w' : World) : Prop :=
  LinI w' b mb S cost ev kv' es L' ks' ∧ SpanOk cost g L' k x ∧ inSpan s x ∧ (∃ M, L' = L ++ M) ∧ L'.length + 1 ≤ L.length + 2 ^ k ∧
    (∀ j, j < 24 → ∀ y ∈ ks' j, SpanOk cost g L' (24 - j) y) ∧ (∀ j, j < 24 - k → ks' j = ks j) ∧ (∀ j, (ks' j).length + 1 ≤ (ks j).length + 2 ^ k) ∧ Kept S w w'

theorem from_join {w wr wA w1 w2 w' : World} {b mb i k : Nat} {S S1 S2 : Nat → Prop} {cost : Nat → Int} {g : Int → Bool} {ev : Value} {kv1 kv2 kv' : Nat → Value} {es : List Dec} {L L1 L2 : List T} {ks ks1 ks2 : Nat → List Dec} {s c : Int} {x1 x2 : Dec} {t1 t2 : T}
    (hik : i + k = 23) (hc : c = cost i) (hb1 : -2147483648 ≤ cost i ∧ cost i ≤ 2147483648) (hq1 : FromQ wr b mb S1 cost g ev es L ks k s x1 L1 kv1 ks1 w1) (hq2 : FromQ wA b mb S2 cost g ev es L1 ks1 k (s + c) x2 L2 kv2 ks2 w2)
    (i1 : T.In L2 t1) (a1 : ∀ s, x1.v ≤ s → s ≤ x1.lo → linT cost g k s = t1) (o1 : t1.Ok) (l1 : 24 - k ≤ t1.lv)
    (a2 : ∀ s, x2.v ≤ s → s ≤ x2.lo → linT cost g k s = t2) (o2 : t2.Ok) (l2 : 24 - k ≤ t2.lv)
    (r1 : (-(35184372088832 + 2147483648 * (k : Int)) ≤ x1.v ∧ x1.v ≤ 35184372088832 + 2147483648 * (k : Int)) ∧ (-(35184372088832 + 2147483648 * (k : Int)) ≤ x1.lo ∧ x1.lo ≤ 35184372088832 + 2147483648 * (k : Int)))
    (r2 : (-(35184372088832 + 2147483648 * (k : Int)) ≤ x2.v ∧ x2.v ≤ 35184372088832 + 2147483648 * (k : Int)) ∧ (-(35184372088832 + 2147483648 * (k : Int)) ≤ x2.lo ∧ x2.lo ≤ 35184372088832 + 2147483648 * (k : Int)))
    (hbox : LinI w' b mb S cost ev kv' es (T.add L2 i t1 t2) (fun j => if j = i then ks2 i ++ [spanOf c (pl (T.add L2 i t1 t2) (T.mk i t1 t2) : Nat) x1 x2] else ks2 j)) (hkept : Kept S w w') :
    FromPost w b mb S cost g ev es L ks (k + 1) s (.returned (.agg #[.int .i64 (max x1.v (x2.v - c)), .int .i64 (min x1.lo (x2.lo - c)), .int .i64 (pl (T.add L2 i t1 t2) (T.mk i t1 t2) : Nat)])) w' := by
  subst hc
  obtain ⟨-, -, in1, ⟨M1, hM1⟩, n1, sp1, same1, len1, -⟩ := hq1
  obtain ⟨-, -, in2, ⟨M2, hM2⟩, n2, sp2, same2, len2, -⟩ := hq2
  obtain ⟨M3, hM3⟩ := T.add_prefix L2 i t1 t2
  have n3 := T.add_len L2 i t1 t2
  have hi : i = 24 - (k + 1) := by omega
  have hp : 2 ^ (k + 1) = 2 ^ k + 2 ^ k := by rw [Nat.pow_succ]; omega
  have hok := spanOf_ok (g := g) (by omega) (hi ▸ hb1) i1 a1 o1 l1 a2 o2 l2 r1 r2
  rw [← hi] at hok
  refine ⟨_, _, _, _, rfl, hbox, hok, spanOf_has in1 in2, ⟨M1 ++ M2 ++ M3, by rw [hM3, hM2, hM1]; simp⟩, by omega, fun j hj y hy => ?_, fun j hj => ?_, fun j => ?_, hkept⟩
  · by_cases e : j = i
    · simp only [if_pos e] at hy
      rcases List.mem_append.1 hy with hy | hy
      · rw [hM3, e]
        exact (sp2 i (by omega) y hy).mono M3
      · rw [List.mem_singleton] at hy
        rw [hy, show 24 - j = k + 1 by omega]
        exact hok
    · simp only [if_neg e] at hy
      rw [hM3]
      exact (sp2 j hj y hy).mono M3
  · have e : j ≠ i := by omega
    simp only [if_neg e]
    exact (same2 j (by omega)).trans (same1 j (by omega))
  · have h1 := len1 j
    have h2 := len2 j
    by_cases e : j = i
    · subst e
      simp only [if_true, List.length_append, List.length_singleton]
      omega
    · simp only [if_neg e]
      omega

end Go.Proofs.YtefclohjeompkaaGreat
