/- The reference: And, Or, Xor. -/
import Derived.Test.YtefclohjeompkaaRefG
namespace Go.Proofs.Ytefclohjeompkaa
open Go Go.RowKit Go.Proofs.Gen Go.Proofs.Bdd Go.Proofs.Bdd.T

theorem IsS.below {w w' : World} {v : Value} {V : List Nat} {f : (Nat → Bool) → Bool} (h : IsS w v V f) (hb : Below w.heap.size w w') : IsS w' v V f := by
  obtain ⟨T, hT, hf⟩ := h
  exact ⟨T, hT.near (Near.of_below hb), hf⟩
theorem IsS.near {w w' : World} {v : Value} {V : List Nat} {f : (Nat → Bool) → Bool} (h : IsS w v V f) (hb : Near w w') : IsS w' v V f := h.below hb.below
theorem IsS.form {w : World} {v : Value} {V : List Nat} {f : (Nat → Bool) → Bool} (h : IsS w v V f) : ∃ ao n cap bo m cbp, v = .agg #[.slice ao n cap, .slice bo m cbp] := by
  obtain ⟨T, ⟨_, _, sv, st, rfl, r1, r2⟩, hf⟩ := h
  obtain ⟨ao, cap, rfl⟩ := owns_form r1
  obtain ⟨bo, cbp, rfl⟩ := owns_form r2
  exact ⟨_, _, _, _, _, _, rfl⟩
theorem IsS.rise {w : World} {v : Value} {V : List Nat} {f : (Nat → Bool) → Bool} (h : IsS w v V f) : Rising 0 V := by
  obtain ⟨T, hT, hf⟩ := h
  exact hT.rise
theorem isS_store {w : World} {x y : Value} {V : List Nat} {f : (Nat → Bool) → Bool} {b : Nat} {p q : Value} (h : IsS w (.agg #[x, y]) V f) (hb : w.heap[b]? = some (.cells #[p, q] 37 (0, 0))) :
    IsS ((w.setCell ⟨b, 0, none⟩ x).setCell ⟨b, 1, none⟩ y) (.agg #[x, y]) V f := by
  obtain ⟨T, ⟨h1, h2, sv, st, he, r1, r2⟩, hf⟩ := h
  cases he
  have n1 := owns_ne r1 hb (by decide : (3 : Nat) ≠ 37)
  have n2 := owns_ne r2 hb (by decide : (4 : Nat) ≠ 37)
  exact ⟨T, ⟨h1, h2, _, _, rfl, ownsRow_setCell_other (ownsRow_setCell_other r1 n1 _) n1 _, ownsRow_setCell_other (ownsRow_setCell_other r2 n2 _) n2 _⟩, hf⟩

/-- What a function of the reference that makes a set returns. -/
def SPost (w : World) (V : List Nat) (f : (Nat → Bool) → Bool) (e : Ending) (w' : World) : Prop := ∃ v, e = .returned v ∧ IsS w' v V f ∧ Below w.heap.size w w'

set_option maxRecDepth 100000 in
set_option maxHeartbeats 800000 in
theorem rand_calls {w : World} {va vb : Value} {V V' : List Nat} {f f' : (Nat → Bool) → Bool} (ha : IsS w va V f) (hb : IsS w vb V' f') :
    Calls Try.prog 56 #[va, vb] w (SPost w (feats (numb V ||| numb V')) (fun c => jop 0 (f c) (f' c))) := by
  obtain ⟨ao, n, cap, co, k, ccp, rfl⟩ := ha.form
  obtain ⟨bo, m, cbp, d, l, dcp, rfl⟩ := hb.form
  have HA := Lib.hid ha
  have HB := Lib.hid hb
  clear ha hb
  go_enter Try.func56, Try.ntmps56
  go_wp2_with fail
  have hC : (((w.alloc (.cells #[.slice ao n cap, .slice co k ccp] 37)).alloc (.cells #[.slice bo m cbp, .slice d l dcp] 37)).alloc (.cells #[.slice none 0 0, .slice none 0 0] 37)).heap[w.heap.size + 1 + 1]? = some (.cells #[.slice none 0 0, .slice none 0 0] 37 (0, 0)) := heap_new_at (by simp)
  have hN : Near w (((w.alloc (.cells #[.slice ao n cap, .slice co k ccp] 37)).alloc (.cells #[.slice bo m cbp, .slice d l dcp] 37)).alloc (.cells #[.slice none 0 0, .slice none 0 0] 37)) := (((Near.refl w).alloc _).alloc _).alloc _
  have HC := Lib.hid hC
  clear hC
  refine (join2_says (HA.out.near hN) (HB.out.near hN) 0 (by decide)).mono ?_
  rintro e w1 ⟨v, rfl, hs, hbl⟩
  obtain ⟨xo, xn, xc, yo, yn, yc, rfl⟩ := hs.form
  have E := Lib.hid (keepE hbl HC.out)
  have q0 : w1.cell? ⟨w.heap.size + 1 + 1, 0, none⟩ = some (.slice none 0 0) := cell1 E.out rfl
  have q1 : w1.cell? ⟨w.heap.size + 1 + 1, 1, none⟩ = some (.slice none 0 0) := cell1 E.out rfl
  have f0 := free1 E.out 0
  have f1 := free1 E.out 1
  have HS := Lib.hid hs
  clear hs
  go_wp2_with fail
  exact bodyPost_ret (v := .agg #[.slice xo xn xc, .slice yo yn yc]) (by simp [results, Try.results56, go_sem, q0, q1]) rfl
    ⟨_, rfl, isS_store HS.out E.out, (((hN.below.trans (hbl.mono hN.size)).setCell (by show w.heap.size ≤ w.heap.size + 1 + 1; omega) _).setCell (by show w.heap.size ≤ w.heap.size + 1 + 1; omega) _)⟩

set_option maxRecDepth 100000 in
set_option maxHeartbeats 800000 in
theorem ror_calls {w : World} {va vb : Value} {V V' : List Nat} {f f' : (Nat → Bool) → Bool} (ha : IsS w va V f) (hb : IsS w vb V' f') :
    Calls Try.prog 125 #[va, vb] w (SPost w (feats (numb V ||| numb V')) (fun c => jop 1 (f c) (f' c))) := by
  obtain ⟨ao, n, cap, co, k, ccp, rfl⟩ := ha.form
  obtain ⟨bo, m, cbp, d, l, dcp, rfl⟩ := hb.form
  have HA := Lib.hid ha
  have HB := Lib.hid hb
  clear ha hb
  go_enter Try.func125, Try.ntmps125
  go_wp2_with fail
  have hC : (((w.alloc (.cells #[.slice ao n cap, .slice co k ccp] 37)).alloc (.cells #[.slice bo m cbp, .slice d l dcp] 37)).alloc (.cells #[.slice none 0 0, .slice none 0 0] 37)).heap[w.heap.size + 1 + 1]? = some (.cells #[.slice none 0 0, .slice none 0 0] 37 (0, 0)) := heap_new_at (by simp)
  have hN : Near w (((w.alloc (.cells #[.slice ao n cap, .slice co k ccp] 37)).alloc (.cells #[.slice bo m cbp, .slice d l dcp] 37)).alloc (.cells #[.slice none 0 0, .slice none 0 0] 37)) := (((Near.refl w).alloc _).alloc _).alloc _
  have HC := Lib.hid hC
  clear hC
  refine (join2_says (HA.out.near hN) (HB.out.near hN) 1 (by decide)).mono ?_
  rintro e w1 ⟨v, rfl, hs, hbl⟩
  obtain ⟨xo, xn, xc, yo, yn, yc, rfl⟩ := hs.form
  have E := Lib.hid (keepE hbl HC.out)
  have q0 : w1.cell? ⟨w.heap.size + 1 + 1, 0, none⟩ = some (.slice none 0 0) := cell1 E.out rfl
  have q1 : w1.cell? ⟨w.heap.size + 1 + 1, 1, none⟩ = some (.slice none 0 0) := cell1 E.out rfl
  have f0 := free1 E.out 0
  have f1 := free1 E.out 1
  have HS := Lib.hid hs
  clear hs
  go_wp2_with fail
  exact bodyPost_ret (v := .agg #[.slice xo xn xc, .slice yo yn yc]) (by simp [results, Try.results125, go_sem, q0, q1]) rfl
    ⟨_, rfl, isS_store HS.out E.out, (((hN.below.trans (hbl.mono hN.size)).setCell (by show w.heap.size ≤ w.heap.size + 1 + 1; omega) _).setCell (by show w.heap.size ≤ w.heap.size + 1 + 1; omega) _)⟩

set_option maxRecDepth 100000 in
set_option maxHeartbeats 800000 in
theorem rxor_calls {w : World} {va vb : Value} {V V' : List Nat} {f f' : (Nat → Bool) → Bool} (ha : IsS w va V f) (hb : IsS w vb V' f') :
    Calls Try.prog 105 #[va, vb] w (SPost w (feats (numb V ||| numb V')) (fun c => jop 2 (f c) (f' c))) := by
  obtain ⟨ao, n, cap, co, k, ccp, rfl⟩ := ha.form
  obtain ⟨bo, m, cbp, d, l, dcp, rfl⟩ := hb.form
  have HA := Lib.hid ha
  have HB := Lib.hid hb
  clear ha hb
  go_enter Try.func105, Try.ntmps105
  go_wp2_with fail
  have hC : (((w.alloc (.cells #[.slice ao n cap, .slice co k ccp] 37)).alloc (.cells #[.slice bo m cbp, .slice d l dcp] 37)).alloc (.cells #[.slice none 0 0, .slice none 0 0] 37)).heap[w.heap.size + 1 + 1]? = some (.cells #[.slice none 0 0, .slice none 0 0] 37 (0, 0)) := heap_new_at (by simp)
  have hN : Near w (((w.alloc (.cells #[.slice ao n cap, .slice co k ccp] 37)).alloc (.cells #[.slice bo m cbp, .slice d l dcp] 37)).alloc (.cells #[.slice none 0 0, .slice none 0 0] 37)) := (((Near.refl w).alloc _).alloc _).alloc _
  have HC := Lib.hid hC
  clear hC
  refine (join2_says (HA.out.near hN) (HB.out.near hN) 2 (by decide)).mono ?_
  rintro e w1 ⟨v, rfl, hs, hbl⟩
  obtain ⟨xo, xn, xc, yo, yn, yc, rfl⟩ := hs.form
  have E := Lib.hid (keepE hbl HC.out)
  have q0 : w1.cell? ⟨w.heap.size + 1 + 1, 0, none⟩ = some (.slice none 0 0) := cell1 E.out rfl
  have q1 : w1.cell? ⟨w.heap.size + 1 + 1, 1, none⟩ = some (.slice none 0 0) := cell1 E.out rfl
  have f0 := free1 E.out 0
  have f1 := free1 E.out 1
  have HS := Lib.hid hs
  clear hs
  go_wp2_with fail
  exact bodyPost_ret (v := .agg #[.slice xo xn xc, .slice yo yn yc]) (by simp [results, Try.results105, go_sem, q0, q1]) rfl
    ⟨_, rfl, isS_store HS.out E.out, (((hN.below.trans (hbl.mono hN.size)).setCell (by show w.heap.size ≤ w.heap.size + 1 + 1; omega) _).setCell (by show w.heap.size ≤ w.heap.size + 1 + 1; omega) _)⟩

end Go.Proofs.Ytefclohjeompkaa
