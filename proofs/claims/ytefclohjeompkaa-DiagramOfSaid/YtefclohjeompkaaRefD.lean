/- The reference: Blank, Join, Const. -/
import Derived.Test.YtefclohjeompkaaRefC
import Derived.Laws.OwnMore
namespace Go.Proofs.Ytefclohjeompkaa
open Go Go.RowKit Go.Proofs.Gen Go.Proofs.Bdd Go.Proofs.Bdd.T

theorem ownsRow_low {w : World} {base base' e size n : Nat} {v : Value} {xs : List Value} (h : w.ownsRow base e size v n xs) (hb : base' ≤ base) : w.ownsRow base' e size v n xs := by
  refine ⟨h.1, ?_⟩
  rcases h.2 with hh | ⟨g, cap, cur, rfl, hbg, r⟩
  · exact .inl hh
  · exact .inr ⟨g, cap, cur, rfl, Nat.le_trans hb hbg, r⟩

theorem info4 : (Try.prog.info? 4).map (fun i => (i.zero, i.size, i.bytes)) = some (some (.bool false), 1, 1) := by kernel_rfl

set_option maxRecDepth 100000 in
set_option maxHeartbeats 800000 in
theorem blank_calls {w : World} {v : Value} {V : List Nat} (hV : Rising 0 V) (hr : w.ownsRow 0 3 1 v V.length (V.map iv)) :
    Calls Try.prog 127 #[v] w fun e w' => ∃ st, e = .returned (.agg #[v, st]) ∧ w'.ownsRow w.heap.size 4 1 st (2 ^ V.length) ((List.replicate (2 ^ V.length) false).map Value.bool) ∧ Near w w' := by
  obtain ⟨ao, cap, rfl⟩ := owns_form hr
  have hl := hV.len
  obtain ⟨n, hn⟩ : ∃ n, n = V.length := ⟨_, rfl⟩
  rw [← hn] at hl ⊢
  have hp : (2 : Nat) ^ n ≤ 2 ^ 24 := Nat.pow_le_pow_right (by omega) (by omega)
  have e24 : (2 : Nat) ^ 24 = 16777216 := by decide
  rw [e24] at hp
  clear e24 hr hn
  obtain ⟨i0, hi0, hz0, hz1, hz2⟩ := info_parts info4
  obtain ⟨w1, hmk, hown, hgr⟩ := run_make_full (P := Try.prog) (w.alloc (.cells #[.slice none 0 0, .slice none 0 0] 37)) w.heap.size 35 4 i0 (.bool false) 1 Try.underlying35 hi0 hz0 hz1 .i64 .i64 (2 ^ n) (by rw [hz2]; omega) (by unfold maxLen; omega) (by simp)
  have hc : (madeCells (Value.bool false).cells (2 ^ n * 1)).toList = (List.replicate (2 ^ n) false).map Value.bool := by
    rw [Nat.mul_one]
    generalize 2 ^ n = m
    have e : (Value.bool false).cells = #[Value.bool false] := by simp [Value.cells]
    rw [e, toList_madeCells_one, List.map_replicate]
  have hz : (w.alloc (.cells #[.slice none 0 0, .slice none 0 0] 37)).heap.size = w.heap.size + 1 := by simp
  rw [hc, hz] at hown
  rw [hz] at hmk
  have hw64 : wrap64 ((2 : Int) ^ n) = ((2 ^ n : Nat) : Int) := by
    rw [show ((2 : Int) ^ n) = ((2 ^ n : Nat) : Int) from by simp]
    generalize (2 : Nat) ^ n = m at *
    simp only [wrap64]
    omega
  rw [← hw64] at hmk
  have HO := Lib.hid hown
  have HG := Lib.hid hgr
  have hc0 : (w.alloc (.cells #[.slice none 0 0, .slice none 0 0] 37)).heap[w.heap.size]? = some (.cells #[.slice none 0 0, .slice none 0 0] 37 (0, 0)) := heap_new_at rfl
  have E := Lib.hid ((hgr.block w.heap.size (by simp) (by simp)).trans hc0)
  have q0 := cell1 (o := 0) E.out rfl
  have q1 := cell1 (o := 1) E.out rfl
  have f0 := free1 E.out 0
  have f1 := free1 E.out 1
  clear hown hgr hc hc0 hz0 hz1 hz2 hw64 hz
  go_enter Try.func127, Try.ntmps127
  go_wp2_with fail
  have hne := owns_ne HO.out E.out (by decide : (4 : Nat) ≠ 37)
  have hN : Near w w1 := Kept.grown ((Near.refl w).alloc _) HG.out (by intro k e; cases e)
  exact bodyPost_ret (v := .agg #[.slice ao n cap, .slice (some ⟨w.heap.size + 1, 0, none⟩) (2 ^ n) (2 ^ n)]) (by simp [results, Try.results127, go_sem, q0, q1]) rfl
    ⟨_, rfl, ownsRow_setCell_other (ownsRow_setCell_other HO.out hne _) hne _, (hN.set (Nat.le_refl _) _).set (Nat.le_refl _) _⟩

set_option maxRecDepth 100000 in
set_option maxHeartbeats 800000 in
theorem rjoin_calls {w : World} {v u : Value} {V U : List Nat} (hV : Rising 0 V) (hU : Rising 0 U) (hr : w.ownsRow 0 3 1 v V.length (V.map iv)) (hq : w.ownsRow 0 3 1 u U.length (U.map iv)) :
    Calls Try.prog 133 #[v, u] w fun e w' => ∃ x, e = .returned x ∧ w'.ownsRow w.heap.size 3 1 x (feats (numb V ||| numb U)).length ((feats (numb V ||| numb U)).map iv) ∧ Near w w' := by
  have bV := numb_lt (fun i hi => (hV.all i hi).2)
  have bU := numb_lt (fun i hi => (hU.all i hi).2)
  have hor : numb V ||| numb U < 4294967296 := by
    have : numb V ||| numb U < 2 ^ 24 := Nat.or_lt_two_pow (n := 24) bV bU
    have e24 : (2 : Nat) ^ 24 = 16777216 := by decide
    omega
  have HR := Lib.hid hr
  have HQ := Lib.hid hq
  have lV := hV.len
  have lU := hU.len
  clear hr hq
  have ho' : bits .or .u32 (numb V : Nat) (numb U : Nat) = ((numb V ||| numb U : Nat) : Int) := Go.Proofs.Gen.u32_or (numb V) (numb U) (by omega) (by omega)
  have ho := Lib.hid ho'
  clear ho'
  go_enter Try.func133, Try.ntmps133
  go_wp2_with (first
    | (go_at_call_of 107 v; refine (number_calls (fun i hi => (hV.all i hi).2) (by omega) HR.out).mono ?_; rintro e w1 ⟨rfl, n1⟩)
    | (go_at_call_of 107 u; refine (number_calls (fun i hi => (hU.all i hi).2) (by omega) (owns_kept HQ.out n1.kept (fun _ _ x => x))).mono ?_; rintro e w2 ⟨rfl, n2⟩)
    | (go_at_call 18; rw [ho.out]; refine (features_calls _ hor _).mono ?_; rintro e w3 ⟨x, rfl, r3, n3⟩))
  refine bodyPost_ret (v := x) (by simp [results, Try.results133, go_sem]) rfl ⟨x, rfl, ownsRow_low r3 ?_, (n1.trans n2).trans n3⟩
  exact Nat.le_trans n1.size' n2.size'

end Go.Proofs.Ytefclohjeompkaa
