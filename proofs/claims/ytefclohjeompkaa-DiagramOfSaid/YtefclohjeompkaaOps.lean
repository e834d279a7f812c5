/- The contracts of And, Or, Xor, Empty, Full, Size, False, True, Var. -/
import Derived.Test.YtefclohjeompkaaWith
namespace Go.Proofs.Ytefclohjeompkaa
open Go Go.RowKit Go.Proofs.Gen Go.Proofs.Bdd Go.Proofs.Bdd.T

theorem IsD.near {w w' : World} {v : Value} {t : T} (h : IsD w v t) (hn : Near w w') : IsD w' v t := h.below hn.below

/-- A set stored in a result's two cells. -/
theorem isD_store {w : World} {sv : Value} {r : Int} {t : T} {b : Nat} {x y : Value} (h : IsD w (.agg #[sv, .int .i64 r]) t) (hb : w.heap[b]? = some (.cells #[x, y] 31 (0, 0))) :
    IsD ((w.setCell ⟨b, 0, none⟩ sv).setCell ⟨b, 1, none⟩ (.int .i64 r)) (.agg #[sv, .int .i64 r]) t := by
  obtain ⟨ok, sv', he, hr⟩ := h
  simp only [Value.agg.injEq, Array.mk.injEq, List.cons.injEq, and_true] at he
  obtain ⟨rfl, he⟩ := he
  have hne := owns_ne hr hb (by decide : (26 : Nat) ≠ 31)
  exact ⟨ok, sv, by rw [he], ownsRow_setCell_other (ownsRow_setCell_other hr hne _) hne _⟩

/-- The form of a set's value. -/
theorem IsD.form {w : World} {v : Value} {t : T} (h : IsD w v t) : ∃ ao n cap, v = .agg #[.slice ao n cap, .int .i64 (pl (nodes t) t : Nat)] ∧ n = (nodes t).length := by
  obtain ⟨ok, sv, rfl, hr⟩ := h
  obtain ⟨ao, cap, rfl⟩ := owns_form hr
  exact ⟨ao, _, cap, rfl, rfl⟩

set_option maxRecDepth 100000 in
set_option maxHeartbeats 400000 in
theorem and_calls {w : World} {va vb : Value} {ta tb : T} (ha : IsD w va ta) (hb : IsD w vb tb) :
    Calls Try.prog 34 #[va, vb] w (DEv w (fun c => ta.ev c && tb.ev c)) := by
  obtain ⟨ao, n, cap, rfl, -⟩ := ha.form
  obtain ⟨bo, m, cbp, rfl, -⟩ := hb.form
  have HA := Lib.hid ha
  have HB := Lib.hid hb
  clear ha hb
  go_enter Try.func34, Try.ntmps34
  go_wp2_with fail
  have hC : (((w.alloc (.cells #[.slice ao n cap, .int .i64 (pl (nodes ta) ta : Nat)] 31)).alloc (.cells #[.slice bo m cbp, .int .i64 (pl (nodes tb) tb : Nat)] 31)).alloc (.cells #[.slice none 0 0, .int .i64 0] 31)).heap[w.heap.size + 1 + 1]? = some (.cells #[.slice none 0 0, .int .i64 0] 31 (0, 0)) := heap_new_at (by simp)
  have hN : Near w (((w.alloc (.cells #[.slice ao n cap, .int .i64 (pl (nodes ta) ta : Nat)] 31)).alloc (.cells #[.slice bo m cbp, .int .i64 (pl (nodes tb) tb : Nat)] 31)).alloc (.cells #[.slice none 0 0, .int .i64 0] 31)) := (((Near.refl w).alloc _).alloc _).alloc _
  have HC := Lib.hid hC
  clear hC
  refine (with_calls op_both (HA.out.near hN) (HB.out.near hN)).mono ?_
  rintro e w1 ⟨s, hev, v, rfl, hs, hbl⟩
  obtain ⟨co, k, ccp, rfl, -⟩ := hs.form
  have E := Lib.hid ((hbl.block _ (Array.getElem?_eq_some_iff.1 HC.out).1).trans HC.out)
  have q0 : w1.cell? ⟨w.heap.size + 1 + 1, 0, none⟩ = some (.slice none 0 0) := cell1 E.out rfl
  have q1 : w1.cell? ⟨w.heap.size + 1 + 1, 1, none⟩ = some (.int .i64 0) := cell1 E.out rfl
  have f0 := free1 E.out 0
  have f1 := free1 E.out 1
  have HS := Lib.hid hs
  clear hs
  go_wp2_with fail
  exact bodyPost_ret (v := .agg #[.slice co k ccp, .int .i64 (pl (nodes s) s : Nat)]) (by simp [results, Try.results34, go_sem, q0, q1]) rfl
    ⟨s, hev, _, rfl, isD_store HS.out E.out, (((hN.below.trans (hbl.mono hN.size)).setCell (by show w.heap.size ≤ w.heap.size + 1 + 1; omega) _).setCell (by show w.heap.size ≤ w.heap.size + 1 + 1; omega) _)⟩

set_option maxRecDepth 100000 in
set_option maxHeartbeats 400000 in
theorem or_calls {w : World} {va vb : Value} {ta tb : T} (ha : IsD w va ta) (hb : IsD w vb tb) :
    Calls Try.prog 33 #[va, vb] w (DEv w (fun c => ta.ev c || tb.ev c)) := by
  obtain ⟨ao, n, cap, rfl, -⟩ := ha.form
  obtain ⟨bo, m, cbp, rfl, -⟩ := hb.form
  have HA := Lib.hid ha
  have HB := Lib.hid hb
  clear ha hb
  go_enter Try.func33, Try.ntmps33
  go_wp2_with fail
  have hC : (((w.alloc (.cells #[.slice ao n cap, .int .i64 (pl (nodes ta) ta : Nat)] 31)).alloc (.cells #[.slice bo m cbp, .int .i64 (pl (nodes tb) tb : Nat)] 31)).alloc (.cells #[.slice none 0 0, .int .i64 0] 31)).heap[w.heap.size + 1 + 1]? = some (.cells #[.slice none 0 0, .int .i64 0] 31 (0, 0)) := heap_new_at (by simp)
  have hN : Near w (((w.alloc (.cells #[.slice ao n cap, .int .i64 (pl (nodes ta) ta : Nat)] 31)).alloc (.cells #[.slice bo m cbp, .int .i64 (pl (nodes tb) tb : Nat)] 31)).alloc (.cells #[.slice none 0 0, .int .i64 0] 31)) := (((Near.refl w).alloc _).alloc _).alloc _
  have HC := Lib.hid hC
  clear hC
  refine (with_calls op_either (HA.out.near hN) (HB.out.near hN)).mono ?_
  rintro e w1 ⟨s, hev, v, rfl, hs, hbl⟩
  obtain ⟨co, k, ccp, rfl, -⟩ := hs.form
  have E := Lib.hid ((hbl.block _ (Array.getElem?_eq_some_iff.1 HC.out).1).trans HC.out)
  have q0 : w1.cell? ⟨w.heap.size + 1 + 1, 0, none⟩ = some (.slice none 0 0) := cell1 E.out rfl
  have q1 : w1.cell? ⟨w.heap.size + 1 + 1, 1, none⟩ = some (.int .i64 0) := cell1 E.out rfl
  have f0 := free1 E.out 0
  have f1 := free1 E.out 1
  have HS := Lib.hid hs
  clear hs
  go_wp2_with fail
  exact bodyPost_ret (v := .agg #[.slice co k ccp, .int .i64 (pl (nodes s) s : Nat)]) (by simp [results, Try.results33, go_sem, q0, q1]) rfl
    ⟨s, hev, _, rfl, isD_store HS.out E.out, (((hN.below.trans (hbl.mono hN.size)).setCell (by show w.heap.size ≤ w.heap.size + 1 + 1; omega) _).setCell (by show w.heap.size ≤ w.heap.size + 1 + 1; omega) _)⟩

set_option maxRecDepth 100000 in
set_option maxHeartbeats 400000 in
theorem xor_calls {w : World} {va vb : Value} {ta tb : T} (ha : IsD w va ta) (hb : IsD w vb tb) :
    Calls Try.prog 48 #[va, vb] w (DEv w (fun c => ta.ev c != tb.ev c)) := by
  obtain ⟨ao, n, cap, rfl, -⟩ := ha.form
  obtain ⟨bo, m, cbp, rfl, -⟩ := hb.form
  have HA := Lib.hid ha
  have HB := Lib.hid hb
  clear ha hb
  go_enter Try.func48, Try.ntmps48
  go_wp2_with fail
  have hC : (((w.alloc (.cells #[.slice ao n cap, .int .i64 (pl (nodes ta) ta : Nat)] 31)).alloc (.cells #[.slice bo m cbp, .int .i64 (pl (nodes tb) tb : Nat)] 31)).alloc (.cells #[.slice none 0 0, .int .i64 0] 31)).heap[w.heap.size + 1 + 1]? = some (.cells #[.slice none 0 0, .int .i64 0] 31 (0, 0)) := heap_new_at (by simp)
  have hN : Near w (((w.alloc (.cells #[.slice ao n cap, .int .i64 (pl (nodes ta) ta : Nat)] 31)).alloc (.cells #[.slice bo m cbp, .int .i64 (pl (nodes tb) tb : Nat)] 31)).alloc (.cells #[.slice none 0 0, .int .i64 0] 31)) := (((Near.refl w).alloc _).alloc _).alloc _
  have HC := Lib.hid hC
  clear hC
  refine (with_calls op_odd (HA.out.near hN) (HB.out.near hN)).mono ?_
  rintro e w1 ⟨s, hev, v, rfl, hs, hbl⟩
  obtain ⟨co, k, ccp, rfl, -⟩ := hs.form
  have E := Lib.hid ((hbl.block _ (Array.getElem?_eq_some_iff.1 HC.out).1).trans HC.out)
  have q0 : w1.cell? ⟨w.heap.size + 1 + 1, 0, none⟩ = some (.slice none 0 0) := cell1 E.out rfl
  have q1 : w1.cell? ⟨w.heap.size + 1 + 1, 1, none⟩ = some (.int .i64 0) := cell1 E.out rfl
  have f0 := free1 E.out 0
  have f1 := free1 E.out 1
  have HS := Lib.hid hs
  clear hs
  go_wp2_with fail
  exact bodyPost_ret (v := .agg #[.slice co k ccp, .int .i64 (pl (nodes s) s : Nat)]) (by simp [results, Try.results48, go_sem, q0, q1]) rfl
    ⟨s, hev, _, rfl, isD_store HS.out E.out, (((hN.below.trans (hbl.mono hN.size)).setCell (by show w.heap.size ≤ w.heap.size + 1 + 1; omega) _).setCell (by show w.heap.size ≤ w.heap.size + 1 + 1; omega) _)⟩


theorem pl_zero {L : List T} {t : T} : pl L t = 0 ↔ t = leaf false := by
  cases t with
  | leaf b => cases b <;> simp [pl]
  | node i l h => have := pl_node (L := L) i l h; simp; omega
theorem pl_one {L : List T} {t : T} : pl L t = 1 ↔ t = leaf true := by
  cases t with
  | leaf b => cases b <;> simp [pl]
  | node i l h => have := pl_node (L := L) i l h; simp; omega

set_option maxHeartbeats 400000 in
theorem empty_walk (sv : Value) (r : Nat) (w : World) :
    Calls Try.prog 35 #[.agg #[sv, .int .i64 r]] w fun e w' => e = .returned (.bool ((r : Int) == 0)) ∧ Near w w' := by
  go_enter Try.func35, Try.ntmps35
  go_wp2
  go_ret
  exact ⟨rfl, (Near.refl w).alloc _⟩

set_option maxHeartbeats 400000 in
theorem full_walk (sv : Value) (r : Nat) (w : World) :
    Calls Try.prog 49 #[.agg #[sv, .int .i64 r]] w fun e w' => e = .returned (.bool ((r : Int) == 1)) ∧ Near w w' := by
  go_enter Try.func49, Try.ntmps49
  go_wp2
  go_ret
  exact ⟨rfl, (Near.refl w).alloc _⟩

set_option maxHeartbeats 400000 in
theorem size_walk (ao : Option Addr) (n cap : Nat) (r : Int) (w : World) :
    Calls Try.prog 37 #[.agg #[.slice ao n cap, .int .i64 r]] w fun e w' => e = .returned (.int .i64 n) ∧ Near w w' := by
  go_enter Try.func37, Try.ntmps37
  go_wp2
  go_ret
  exact ⟨rfl, (Near.refl w).alloc _⟩

theorem empty_calls {w : World} {v : Value} {t : T} (h : IsD w v t) : Calls Try.prog 35 #[v] w fun e w' => e = .returned (.bool (decide (t = leaf false))) ∧ Near w w' := by
  obtain ⟨ao, n, cap, rfl, _⟩ := h.form
  refine (empty_walk _ _ w).mono ?_
  rintro e w' ⟨rfl, hn⟩
  refine ⟨?_, hn⟩
  congr 2
  rw [Bool.eq_iff_iff, beq_iff_eq, decide_eq_true_iff, ← pl_zero (L := nodes t)]
  omega

theorem full_calls {w : World} {v : Value} {t : T} (h : IsD w v t) : Calls Try.prog 49 #[v] w fun e w' => e = .returned (.bool (decide (t = leaf true))) ∧ Near w w' := by
  obtain ⟨ao, n, cap, rfl, _⟩ := h.form
  refine (full_walk _ _ w).mono ?_
  rintro e w' ⟨rfl, hn⟩
  refine ⟨?_, hn⟩
  congr 2
  rw [Bool.eq_iff_iff, beq_iff_eq, decide_eq_true_iff, ← pl_one (L := nodes t)]
  omega

theorem size_calls {w : World} {v : Value} {t : T} (h : IsD w v t) : Calls Try.prog 37 #[v] w fun e w' => e = .returned (.int .i64 ((nodes t).length : Nat)) ∧ Near w w' := by
  obtain ⟨ao, n, cap, rfl, rfl⟩ := h.form
  exact size_walk _ _ _ _ w

theorem isD_leaf (w : World) (b : Bool) : IsD w (.agg #[.slice none 0 0, .int .i64 (b.toNat : Nat)]) (leaf b) :=
  ⟨trivial, .slice none 0 0, by rw [pl_leaf], World.ownsRow_nil _ _ _ _⟩

set_option maxHeartbeats 400000 in
theorem false_calls (w : World) : Calls Try.prog 75 #[] w (DPost w (leaf false)) := by
  go_enter Try.func75, Try.ntmps75
  go_wp2
  exact bodyPost_ret (v := .agg #[.slice none 0 0, .int .i64 0]) (by simp [results, Try.results75, go_sem]) rfl ⟨_, rfl, isD_leaf _ false, (Below.refl _ w).alloc (Nat.le_refl _) _⟩

set_option maxHeartbeats 400000 in
theorem true_calls (w : World) : Calls Try.prog 100 #[] w (DPost w (leaf true)) := by
  go_enter Try.func100, Try.ntmps100
  go_wp2
  exact bodyPost_ret (v := .agg #[.slice none 0 0, .int .i64 1]) (by simp [results, Try.results100, go_sem]) rfl ⟨_, rfl, isD_leaf _ true, (Below.refl _ w).alloc (Nat.le_refl _) _⟩

set_option maxHeartbeats 400000 in
theorem var_out (i : Int) (h : i < 0 ∨ 23 < i) (w : World) : Calls Try.prog 40 #[.int .i64 i] w fun e w' => e = .returned (.tuple #[.agg #[.slice none 0 0, .int .i64 0], .int .i64 3]) ∧ Near w w' := by
  rcases h with h | h
  · go_enter Try.func40, Try.ntmps40
    go_wp2
    exact bodyPost_ret (v := .tuple #[.agg #[.slice none 0 0, .int .i64 0], .int .i64 3]) (by simp [results, Try.results40, go_sem]) rfl ⟨rfl, (Near.refl w).alloc _⟩
  · have h0 : ¬ i < 0 := by omega
    go_enter Try.func40, Try.ntmps40
    go_wp2
    exact bodyPost_ret (v := .tuple #[.agg #[.slice none 0 0, .int .i64 0], .int .i64 3]) (by simp [results, Try.results40, go_sem]) rfl ⟨rfl, (Near.refl w).alloc _⟩

set_option maxHeartbeats 400000 in
theorem var_in (i : Nat) (h : i < 24) (w : World) : Calls Try.prog 40 #[.int .i64 i] w fun e w' => ∃ v, e = .returned (.tuple #[v, .int .i64 0]) ∧ IsD w' v (node i (leaf false) (leaf true)) ∧ Near w w' := by
  have h0 : ¬ (i : Int) < 0 := by omega
  have h1 : ¬ (24 : Int) ≤ (i : Int) := by omega
  go_enter Try.func40, Try.ntmps40
  go_wp2
  refine bodyPost_ret (v := .tuple #[.agg #[.slice (some ⟨w.heap.size + 1, 0, none⟩) 1 1, .int .i64 2], .int .i64 0]) (by simp [results, Try.results40, go_sem]) rfl ⟨_, rfl, ?_, ?_⟩
  · have ok : (node i (leaf false) (leaf true)).Ok := ⟨h, h, h, by simp, trivial, trivial⟩
    have hn : nodes (node i (leaf false) (leaf true)) = [node i (leaf false) (leaf true)] := by simp [nodes, go]
    have hp : pl [node i (leaf false) (leaf true)] (node i (leaf false) (leaf true)) = 2 := by simp [pl]
    refine ⟨ok, .slice (some ⟨w.heap.size + 1, 0, none⟩) 1 1, by rw [hn, hp]; rfl, ?_⟩
    rw [hn]
    exact ⟨rfl, .inr ⟨w.heap.size + 1, 1, #[.int .i64 i, .int .i64 0, .int .i64 1], rfl, Nat.zero_le _, heap_new_at (by simp), Nat.le_refl _, by unfold maxLen; omega, rfl, rfl⟩⟩
  · exact ((Near.refl w).alloc _).alloc _

end Go.Proofs.Ytefclohjeompkaa
