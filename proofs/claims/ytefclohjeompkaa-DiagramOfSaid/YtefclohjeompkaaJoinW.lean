/- The walk of 'join', its callees taken as they come. -/
import Derived.Test.YtefclohjeompkaaJoinA
import Derived.Deep.RegionHeld3
namespace Go.Proofs.Ytefclohjeompkaa
open Go Go.RowKit Go.Proofs.Gen Go.Proofs.Bdd Go.Proofs.Bdd.T

/-- w' is w with new blocks and draws. -/
def Near (w w' : World) : Prop := Kept (fun _ => False) w w'
theorem Near.refl (w : World) : Near w w := Kept.refl _ _
theorem Near.trans {a b c : World} (h : Near a b) (k : Near b c) : Near a c := Kept.trans h k
theorem Near.drew {a b : World} (h : Near a b) : Near a b.drew := Kept.drew h
theorem Near.drewN {a b : World} (h : Near a b) (n : Nat) : Near a (b.drewN n) := Kept.drewN h n
theorem Near.alloc {a b : World} (h : Near a b) (o : Obj) : Near a (b.alloc o) := Kept.alloc h o
theorem Near.of_below {a b : World} (h : Below a.heap.size a b) : Near a b := ⟨h.os, h.tape, h.output, h.size, fun k hk _ => h.block k hk⟩
theorem Near.below {a b : World} (h : Near a b) : Below a.heap.size a b := ⟨h.os, h.tape, h.output, h.size, fun k hk => h.block k hk id⟩
theorem Near.kept {S : Nat → Prop} {a b : World} (h : Near a b) : Kept S a b := Kept.mono h (fun _ _ f => f.elim)
theorem Near.cell {a b : World} (h : Near a b) {k o : Nat} {v : Value} (hc : a.cell? ⟨k, o, none⟩ = some v) : b.cell? ⟨k, o, none⟩ = some v := Kept.cell h hc id

theorem Near.set {a b : World} (h : Near a b) {p : Addr} (hp : a.heap.size ≤ p.block) (u : Value) : Near a (b.setCell p u) := Kept.setCell h (fun hlt => by omega) u

/-- A call that hands back an int. -/
def RetI (f : FuncId) (args : Array Value) (w : World) (C : Int → World → Prop) : Prop :=
  Calls Try.prog f args w fun e w' => ∃ r : Int, e = .returned (.int .i64 r) ∧ C r w'

/-- R, but for the blocks that were laid between w and w1. -/
def Loc (R : Nat → Prop) (w w1 : World) (k : Nat) : Prop := R k ∧ ¬ (w.heap.size ≤ k ∧ k < w1.heap.size)

/-- What 'join' leaves on its long way. -/
def JOut (sk : Nat) (key : Value) (Fin : Int → Nat → (Value → Int → Prop) → World → Prop) (e : Ending) (w' : World) : Prop :=
  ∃ r n M w7, e = .returned (.int .i64 r) ∧ Fin r n M w7 ∧ mapIs w' Try.prog 190 3 sk (n + 1) (put M key r) ∧ Turned sk w7 w'

/-- What stands in the two nodes. -/
def TwoNodes (w : World) (v1 l1 h1 v2 l2 h2 : Int) (s14 s15 : Value) (wx : World) : Prop :=
  ∃ g1 g2, s14 = .pointer (some ⟨g1, 0, none⟩) ∧ s15 = .pointer (some ⟨g2, 0, none⟩) ∧ g1 ≠ g2 ∧ w.heap.size ≤ g1 ∧ w.heap.size ≤ g2 ∧
    wx.heap[g1]? = some (.cells #[.int .i64 v1, .int .i64 l1, .int .i64 h1] 26 (0, 0)) ∧ wx.heap[g2]? = some (.cells #[.int .i64 v2, .int .i64 l2, .int .i64 h2] 26 (0, 0)) ∧ Near w wx

set_option maxRecDepth 100000 in
set_option maxHeartbeats 1000000 in
theorem join_walk (F : Nat) (R : Nat → Prop) (pb mb sk n : Nat) (asv bsv : Value) (ra rb : Int) (x y : Nat) (kl : Lit) (v1 l1 h1 v2 l2 h2 p0 p1 q0 q1 i : Int) (M : Value → Int → Prop) (w : World)
    (Fin : Int → Nat → (Value → Int → Prop) → World → Prop)
    (hpb : w.heap[pb]? = some (.cells #[.pointer (some ⟨mb, 0, none⟩), asv, .int .i64 ra, bsv, .int .i64 rb, .map (some sk)] 168 (0, 0)))
    (hcf : ∀ args w', (callFunc F args).run Try.prog w' = .ok (.enter F args) w')
    (hop : ∀ w', Calls Try.prog F #[.int .i64 x, .int .i64 y] w' (OpPost none w'))
    (hmap : mapIs w Try.prog 190 3 sk n M) (hM : ∀ u, ¬ M (.agg #[.int .i64 x, .int .i64 y]) u) (hkey : keyOf Try.prog 190 (.agg #[.int .i64 x, .int .i64 y]) = some kl)
    (ha : ∀ w', Near w w' → Calls Try.prog 146 #[.agg #[asv, .int .i64 ra], .int .i64 x] w' fun e w'' => e = .returned (.agg #[.int .i64 v1, .int .i64 l1, .int .i64 h1]) ∧ w'' = (w'.alloc (.cells #[asv, .int .i64 ra] 31)).alloc (.cells #[.int .i64 v1, .int .i64 l1, .int .i64 h1] 26))
    (hb : ∀ w', Near w w' → Calls Try.prog 146 #[.agg #[bsv, .int .i64 rb], .int .i64 y] w' fun e w'' => e = .returned (.agg #[.int .i64 v2, .int .i64 l2, .int .i64 h2]) ∧ w'' = (w'.alloc (.cells #[bsv, .int .i64 rb] 31)).alloc (.cells #[.int .i64 v2, .int .i64 l2, .int .i64 h2] 26))
    (hR : ¬ R pb)
    (hcase : (v1 < v2 ∧ i = v1 ∧ p0 = l1 ∧ q0 = h1 ∧ p1 = y ∧ q1 = y) ∨ (v1 = v2 ∧ i = v1 ∧ p0 = l1 ∧ q0 = h1 ∧ p1 = l2 ∧ q1 = h2) ∨ (v2 < v1 ∧ i = v2 ∧ p0 = x ∧ q0 = x ∧ p1 = l2 ∧ q1 = h2))
    (H : ∀ w1, Near w w1 → RetI 132 #[.pointer (some ⟨pb, 0, none⟩), .int .i64 p0, .int .i64 p1, .func (.func F) #[] #[]] w1 fun r0 w2 => Kept (Loc R w w1) w1 w2 ∧
      ∀ w3, Near w2 w3 → RetI 132 #[.pointer (some ⟨pb, 0, none⟩), .int .i64 q0, .int .i64 q1, .func (.func F) #[] #[]] w3 fun r1 w4 => Kept (Loc R w w1) w3 w4 ∧
      ∀ w5, Near w4 w5 → RetI 78 #[.pointer (some ⟨mb, 0, none⟩), .int .i64 i, .int .i64 r0, .int .i64 r1] w5 fun r w6 => Kept (Loc R w w1) w5 w6 ∧ (Lit.int .i64 r).wf = true ∧
      ∃ n M, n < 1099511627776 ∧ mapIs w6 Try.prog 190 3 sk n M ∧ ∀ w7, Near w6 w7 → Fin r n M w7) :
    Calls Try.prog 132 #[.pointer (some ⟨pb, 0, none⟩), .int .i64 x, .int .i64 y, .func (.func F) #[] #[]] w (JOut sk (.agg #[.int .i64 x, .int .i64 y]) Fin) := by
  have c0 : w.cell? ⟨pb, 0, none⟩ = some (.pointer (some ⟨mb, 0, none⟩)) := cell1 hpb rfl
  have c1 : w.cell? ⟨pb, 1, none⟩ = some (asv) := cell1 hpb rfl
  have c2 : w.cell? ⟨pb, 2, none⟩ = some (.int .i64 ra) := cell1 hpb rfl
  have c3 : w.cell? ⟨pb, 3, none⟩ = some (bsv) := cell1 hpb rfl
  have c4 : w.cell? ⟨pb, 4, none⟩ = some (.int .i64 rb) := cell1 hpb rfl
  have c5 : w.cell? ⟨pb, 5, none⟩ = some (.map (some sk)) := cell1 hpb rfl
  have hlt := World.block_lt_of_cell? w ⟨pb, 0, none⟩ c0
  have hskl := hmap.lt
  have hr : ∀ (m : Nat), (Instr.lookup 166 (.map (some sk)) (.agg #[.int .i64 x, .int .i64 y]) true).run Try.prog ((w.alloc (.cells #[.int .i64 x, .int .i64 y] 190)).drewN m) = .ok (.tuple #[.int .i64 0, .bool false]) ((w.alloc (.cells #[.int .i64 x, .int .i64 y] 190)).drewN m) :=
    fun m => mapIs.miss (((hmap.of_block (w' := w.alloc (.cells #[.int .i64 x, .int .i64 y] 190)) (Below.heap_alloc w _ sk hskl)).drewN m)) law190 Try.underlying166 Try.underlying3 (zero3 _) hkey hM
  have HP := Lib.hid hpb
  have HOP := Lib.hid hop
  have HA := Lib.hid ha
  have HB := Lib.hid hb
  have HH := Lib.hid H
  have HC := Lib.hid hcase
  have HMap := Lib.hid hmap
  clear hpb hop ha hb H hcase hmap
  go_enter Try.func132, Try.ntmps132
  go_wp2_with fail
  refine (HOP.out _).mono ?_
  rintro e w' ⟨rfl, r, rfl⟩
  go_wp2_with fail
  go_quiet (fail)
  go_upto_region 8 with fail
  have sOf : ∀ w', Near w w' → w'.cell? ⟨pb, 1, none⟩ = some asv ∧ w'.cell? ⟨pb, 2, none⟩ = some (.int .i64 ra) ∧ w'.cell? ⟨pb, 3, none⟩ = some bsv ∧ w'.cell? ⟨pb, 4, none⟩ = some (.int .i64 rb) ∧ Near w w' :=
    fun w' h => ⟨h.cell c1, h.cell c2, h.cell c3, h.cell c4, h⟩
  go_cut [14, 15] (fun s14 s15 wx => TwoNodes (w.alloc (.cells #[.int .i64 x, .int .i64 y] 190)) v1 l1 h1 v2 l2 h2 s14 s15 wx)
  case first =>
    go_region_held3 (fun w' => w'.cell? ⟨pb, 1, none⟩ = some asv ∧ w'.cell? ⟨pb, 2, none⟩ = some (.int .i64 ra) ∧ w'.cell? ⟨pb, 3, none⟩ = some bsv ∧ w'.cell? ⟨pb, 4, none⟩ = some (.int .i64 rb) ∧ Near w w')
      ((refine sOf _ ?_; repeat (first | exact Near.refl _ | refine Near.drew ?_ | refine Near.alloc ?_ _ | refine Near.drewN ?_ _)))
      (first
        | (go_at_call_of 146 (Value.agg #[asv, Value.int IntKind.i64 ra]); refine (HA.out _ (‹_ ∧ _ ∧ _ ∧ _ ∧ Near w _›).2.2.2.2).mono ?_; rintro e w' ⟨rfl, rfl⟩)
        | (go_at_call_of 146 (Value.agg #[bsv, Value.int IntKind.i64 rb]); refine (HB.out _ (‹_ ∧ _ ∧ _ ∧ _ ∧ Near w _›).2.2.2.2).mono ?_; rintro e w' ⟨rfl, rfl⟩))
    all_goals
      go_wp2_with fail
      go_meet
      refine ⟨_, _, rfl, rfl, ?_, ?_, ?_, ?_, ?_, ?_⟩
      · first | omega | (simp; done)
      · simp <;> omega
      · simp <;> omega
      · repeat (first | (refine heap_new_at ?_; (simp; done)) | rw [heap_at_drewN] | refine (heap_old_at (by simp <;> omega)).trans ?_)
      · repeat (first | (refine heap_new_at ?_; (simp; done)) | rw [heap_at_drewN] | refine (heap_old_at (by simp <;> omega)).trans ?_)
      · repeat (first | exact Near.refl _ | refine Near.drew ?_ | refine Near.alloc ?_ _ | refine Near.drewN ?_ _)
  case rest =>
    obtain ⟨g1, g2, rfl, rfl, hg12, hg1, hg2, hh1, hh2, hn⟩ := hcut
    have hnW : Near w wc := Near.trans ((Near.refl w).alloc _) hn
    have k0 : wc.cell? ⟨w.heap.size, 0, none⟩ = some (.int .i64 x) := hn.cell (by simp)
    have k1 : wc.cell? ⟨w.heap.size, 1, none⟩ = some (.int .i64 y) := hn.cell (by simp)
    have d0 : wc.cell? ⟨g1, 0, none⟩ = some (.int .i64 v1) := cell1 hh1 rfl
    have d1 : wc.cell? ⟨g1, 1, none⟩ = some (.int .i64 l1) := cell1 hh1 rfl
    have d2 : wc.cell? ⟨g1, 2, none⟩ = some (.int .i64 h1) := cell1 hh1 rfl
    have e0 : wc.cell? ⟨g2, 0, none⟩ = some (.int .i64 v2) := cell1 hh2 rfl
    have e1 : wc.cell? ⟨g2, 1, none⟩ = some (.int .i64 l2) := cell1 hh2 rfl
    have e2 : wc.cell? ⟨g2, 2, none⟩ = some (.int .i64 h2) := cell1 hh2 rfl
    have gl1 : g1 < wc.heap.size := World.block_lt_of_cell? wc ⟨g1, 0, none⟩ d0
    have gl2 : g2 < wc.heap.size := World.block_lt_of_cell? wc ⟨g2, 0, none⟩ e0
    have c0' := c0
    have c5' := c5
    clear c0 c1 c2 c3 c4 c5 hh1 hh2 sOf hr
    have hC := HC.out
    clear HC
    rcases hC with ⟨hv, rfl, rfl, rfl, rfl, rfl⟩ | ⟨rfl, rfl, rfl, rfl, rfl, rfl⟩ | ⟨hv, rfl, rfl, rfl, rfl, rfl⟩
    · go_upto_region 15 with fail
      go_region
      all_goals (go_upto_region 15 with fail)
      go_wp2_with fail
      have hNW : Near w (((wc.alloc (.cells #[.int .i64 p0, .int .i64 y] 190)).alloc (.cells #[.int .i64 q0, .int .i64 y] 190)).drew) := by repeat (first | exact hnW | refine Near.drew ?_ | refine Near.alloc ?_ _)
      have t0 : (((wc.alloc (.cells #[.int .i64 p0, .int .i64 y] 190)).alloc (.cells #[.int .i64 q0, .int .i64 y] 190)).drew).cell? ⟨wc.heap.size + 1, 0, none⟩ = some (.int .i64 q0) := by simp
      have t1 : (((wc.alloc (.cells #[.int .i64 p0, .int .i64 y] 190)).alloc (.cells #[.int .i64 q0, .int .i64 y] 190)).drew).cell? ⟨wc.heap.size + 1, 1, none⟩ = some (.int .i64 y) := by simp
      have m0 : (((wc.alloc (.cells #[.int .i64 p0, .int .i64 y] 190)).alloc (.cells #[.int .i64 q0, .int .i64 y] 190)).drew).cell? ⟨w.heap.size, 0, none⟩ = some (.int .i64 x) := Near.cell (by repeat (first | exact Near.refl _ | refine Near.drew ?_ | refine Near.alloc ?_ _)) k0
      have m1 : (((wc.alloc (.cells #[.int .i64 p0, .int .i64 y] 190)).alloc (.cells #[.int .i64 q0, .int .i64 y] 190)).drew).cell? ⟨w.heap.size, 1, none⟩ = some (.int .i64 y) := Near.cell (by repeat (first | exact Near.refl _ | refine Near.drew ?_ | refine Near.alloc ?_ _)) k1
      have hsz : wc.heap.size + 1 < (((wc.alloc (.cells #[.int .i64 p0, .int .i64 y] 190)).alloc (.cells #[.int .i64 q0, .int .i64 y] 190)).drew).heap.size := by simp
      generalize ((wc.alloc (.cells #[.int .i64 p0, .int .i64 y] 190)).alloc (.cells #[.int .i64 q0, .int .i64 y] 190)).drew = W1 at hNW t0 t1 m0 m1 hsz ⊢
      refine (HH.out W1 hNW).mono ?_
      rintro e w2 ⟨r0, rfl, hk1, hc2⟩
      have HC2 := Lib.hid hc2
      clear hc2
      have keep : ∀ wa wb, Kept (Loc R w W1) wa wb → (∀ b o v, wa.cell? ⟨b, o, none⟩ = some v → ¬ Loc R w W1 b → wb.cell? ⟨b, o, none⟩ = some v) := fun wa wb h b o v hc hn => h.cell hc hn
      have lk : ¬ Loc R w W1 w.heap.size := fun h => h.2 ⟨Nat.le_refl _, by have := hn.size; simp at this; omega⟩
      have lt : ¬ Loc R w W1 (wc.heap.size + 1) := fun h => h.2 ⟨by have := hn.size; simp at this; omega, hsz⟩
      have lp : ¬ Loc R w W1 pb := fun h => hR h.1
      have sOf : ∀ wa wb, Kept (Loc R w W1) wa wb → (wa.cell? ⟨pb, 0, none⟩ = some (.pointer (some ⟨mb, 0, none⟩)) ∧ wa.cell? ⟨pb, 5, none⟩ = some (.map (some sk)) ∧ wa.cell? ⟨wc.heap.size + 1, 0, none⟩ = some (.int .i64 q0) ∧ wa.cell? ⟨wc.heap.size + 1, 1, none⟩ = some (.int .i64 y) ∧ wa.cell? ⟨w.heap.size, 0, none⟩ = some (.int .i64 x) ∧ wa.cell? ⟨w.heap.size, 1, none⟩ = some (.int .i64 y)) →
          (wb.cell? ⟨pb, 0, none⟩ = some (.pointer (some ⟨mb, 0, none⟩)) ∧ wb.cell? ⟨pb, 5, none⟩ = some (.map (some sk)) ∧ wb.cell? ⟨wc.heap.size + 1, 0, none⟩ = some (.int .i64 q0) ∧ wb.cell? ⟨wc.heap.size + 1, 1, none⟩ = some (.int .i64 y) ∧ wb.cell? ⟨w.heap.size, 0, none⟩ = some (.int .i64 x) ∧ wb.cell? ⟨w.heap.size, 1, none⟩ = some (.int .i64 y)) :=
        fun wa wb h ⟨a1, a2, a3, a4, a5, a6⟩ => ⟨h.cell a1 lp, h.cell a2 lp, h.cell a3 lt, h.cell a4 lt, h.cell a5 lk, h.cell a6 lk⟩
      have s2 := sOf _ _ hk1 ⟨hNW.cell c0', hNW.cell c5', t0, t1, m0, m1⟩
      clear t0 t1 m0 m1 keep
      go_upto_region 16 with fail
      go_region_held3 (fun w' => w'.cell? ⟨pb, 0, none⟩ = some (.pointer (some ⟨mb, 0, none⟩)) ∧ w'.cell? ⟨pb, 5, none⟩ = some (.map (some sk)) ∧ w'.cell? ⟨wc.heap.size + 1, 0, none⟩ = some (.int .i64 q0) ∧ w'.cell? ⟨wc.heap.size + 1, 1, none⟩ = some (.int .i64 y) ∧ w'.cell? ⟨w.heap.size, 0, none⟩ = some (.int .i64 x) ∧ w'.cell? ⟨w.heap.size, 1, none⟩ = some (.int .i64 y))
        (first
          | exact s2
          | exact sOf _ _ hk3 ‹_ ∧ _ ∧ _ ∧ _ ∧ _ ∧ _›
          | exact sOf _ _ hk5 ‹_ ∧ _ ∧ _ ∧ _ ∧ _ ∧ _›)
        (first
          | (go_at_call 132; refine (HC2.out _ (Near.drew (Near.refl _))).mono ?_; rintro e w4 ⟨r1, rfl, hk3, hc4⟩; have HC4 := Lib.hid hc4; clear hc4)
          | (go_at_call 78; refine (HC4.out _ (Near.refl _)).mono ?_; rintro e w6 ⟨r, rfl, hk5, hwf, n6, M6, hn6, hm6, hfin⟩; have HF := Lib.hid hfin; have HM6 := Lib.hid hm6; have HN6 := Lib.hid hn6; have HWF := Lib.hid hwf; clear hm6 hfin hn6 hwf))
      obtain ⟨z0, z5, _, _, z8, z9⟩ : w6.cell? ⟨pb, 0, none⟩ = some (.pointer (some ⟨mb, 0, none⟩)) ∧ w6.cell? ⟨pb, 5, none⟩ = some (.map (some sk)) ∧ w6.cell? ⟨wc.heap.size + 1, 0, none⟩ = some (.int .i64 q0) ∧ w6.cell? ⟨wc.heap.size + 1, 1, none⟩ = some (.int .i64 y) ∧ w6.cell? ⟨w.heap.size, 0, none⟩ = some (.int .i64 x) ∧ w6.cell? ⟨w.heap.size, 1, none⟩ = some (.int .i64 y) := by assumption
      go_wp2_with fail
      go_still_tail 6, (by kernel_rfl)
      change wpList _ _ _ _ _ w6.drew
      refine wpList_mapUpdate_at rfl (.tmp 111) (.tmp 112) (.tmp 113) rfl law190 Try.underlying166 Try.underlying3 rfl (HM6.out.drewN 1) (by unfold maxLen; have := HN6.out; omega) _ _ kl rfl rfl hkey HWF.out ?_
      intro w8 hm8 ht8
      go_wp2_with fail
      go_ret
      exact ⟨r, n6, M6, w6.drew, rfl, HF.out _ (Near.refl _).drew, hm8, ht8⟩
    · go_upto_region 15 with fail
      go_region
      all_goals (go_upto_region 15 with fail)
      all_goals go_region
      all_goals (go_upto_region 15 with fail)
      go_wp2_with fail
      have hNW : Near w (((wc.alloc (.cells #[.int .i64 p0, .int .i64 p1] 190)).alloc (.cells #[.int .i64 q0, .int .i64 q1] 190)).drew.drew) := by repeat (first | exact hnW | refine Near.drew ?_ | refine Near.alloc ?_ _)
      have t0 : (((wc.alloc (.cells #[.int .i64 p0, .int .i64 p1] 190)).alloc (.cells #[.int .i64 q0, .int .i64 q1] 190)).drew.drew).cell? ⟨wc.heap.size + 1, 0, none⟩ = some (.int .i64 q0) := by simp
      have t1 : (((wc.alloc (.cells #[.int .i64 p0, .int .i64 p1] 190)).alloc (.cells #[.int .i64 q0, .int .i64 q1] 190)).drew.drew).cell? ⟨wc.heap.size + 1, 1, none⟩ = some (.int .i64 q1) := by simp
      have m0 : (((wc.alloc (.cells #[.int .i64 p0, .int .i64 p1] 190)).alloc (.cells #[.int .i64 q0, .int .i64 q1] 190)).drew.drew).cell? ⟨w.heap.size, 0, none⟩ = some (.int .i64 x) := Near.cell (by repeat (first | exact Near.refl _ | refine Near.drew ?_ | refine Near.alloc ?_ _)) k0
      have m1 : (((wc.alloc (.cells #[.int .i64 p0, .int .i64 p1] 190)).alloc (.cells #[.int .i64 q0, .int .i64 q1] 190)).drew.drew).cell? ⟨w.heap.size, 1, none⟩ = some (.int .i64 y) := Near.cell (by repeat (first | exact Near.refl _ | refine Near.drew ?_ | refine Near.alloc ?_ _)) k1
      have hsz : wc.heap.size + 1 < (((wc.alloc (.cells #[.int .i64 p0, .int .i64 p1] 190)).alloc (.cells #[.int .i64 q0, .int .i64 q1] 190)).drew.drew).heap.size := by simp
      generalize ((wc.alloc (.cells #[.int .i64 p0, .int .i64 p1] 190)).alloc (.cells #[.int .i64 q0, .int .i64 q1] 190)).drew.drew = W1 at hNW t0 t1 m0 m1 hsz ⊢
      refine (HH.out W1 hNW).mono ?_
      rintro e w2 ⟨r0, rfl, hk1, hc2⟩
      have HC2 := Lib.hid hc2
      clear hc2
      have keep : ∀ wa wb, Kept (Loc R w W1) wa wb → (∀ b o v, wa.cell? ⟨b, o, none⟩ = some v → ¬ Loc R w W1 b → wb.cell? ⟨b, o, none⟩ = some v) := fun wa wb h b o v hc hn => h.cell hc hn
      have lk : ¬ Loc R w W1 w.heap.size := fun h => h.2 ⟨Nat.le_refl _, by have := hn.size; simp at this; omega⟩
      have lt : ¬ Loc R w W1 (wc.heap.size + 1) := fun h => h.2 ⟨by have := hn.size; simp at this; omega, hsz⟩
      have lp : ¬ Loc R w W1 pb := fun h => hR h.1
      have sOf : ∀ wa wb, Kept (Loc R w W1) wa wb → (wa.cell? ⟨pb, 0, none⟩ = some (.pointer (some ⟨mb, 0, none⟩)) ∧ wa.cell? ⟨pb, 5, none⟩ = some (.map (some sk)) ∧ wa.cell? ⟨wc.heap.size + 1, 0, none⟩ = some (.int .i64 q0) ∧ wa.cell? ⟨wc.heap.size + 1, 1, none⟩ = some (.int .i64 q1) ∧ wa.cell? ⟨w.heap.size, 0, none⟩ = some (.int .i64 x) ∧ wa.cell? ⟨w.heap.size, 1, none⟩ = some (.int .i64 y)) →
          (wb.cell? ⟨pb, 0, none⟩ = some (.pointer (some ⟨mb, 0, none⟩)) ∧ wb.cell? ⟨pb, 5, none⟩ = some (.map (some sk)) ∧ wb.cell? ⟨wc.heap.size + 1, 0, none⟩ = some (.int .i64 q0) ∧ wb.cell? ⟨wc.heap.size + 1, 1, none⟩ = some (.int .i64 q1) ∧ wb.cell? ⟨w.heap.size, 0, none⟩ = some (.int .i64 x) ∧ wb.cell? ⟨w.heap.size, 1, none⟩ = some (.int .i64 y)) :=
        fun wa wb h ⟨a1, a2, a3, a4, a5, a6⟩ => ⟨h.cell a1 lp, h.cell a2 lp, h.cell a3 lt, h.cell a4 lt, h.cell a5 lk, h.cell a6 lk⟩
      have s2 := sOf _ _ hk1 ⟨hNW.cell c0', hNW.cell c5', t0, t1, m0, m1⟩
      clear t0 t1 m0 m1 keep
      go_upto_region 16 with fail
      go_region_held3 (fun w' => w'.cell? ⟨pb, 0, none⟩ = some (.pointer (some ⟨mb, 0, none⟩)) ∧ w'.cell? ⟨pb, 5, none⟩ = some (.map (some sk)) ∧ w'.cell? ⟨wc.heap.size + 1, 0, none⟩ = some (.int .i64 q0) ∧ w'.cell? ⟨wc.heap.size + 1, 1, none⟩ = some (.int .i64 q1) ∧ w'.cell? ⟨w.heap.size, 0, none⟩ = some (.int .i64 x) ∧ w'.cell? ⟨w.heap.size, 1, none⟩ = some (.int .i64 y))
        (first
          | exact s2
          | exact sOf _ _ hk3 ‹_ ∧ _ ∧ _ ∧ _ ∧ _ ∧ _›
          | exact sOf _ _ hk5 ‹_ ∧ _ ∧ _ ∧ _ ∧ _ ∧ _›)
        (first
          | (go_at_call 132; refine (HC2.out _ (Near.drew (Near.refl _))).mono ?_; rintro e w4 ⟨r1, rfl, hk3, hc4⟩; have HC4 := Lib.hid hc4; clear hc4)
          | (go_at_call 78; refine (HC4.out _ (Near.refl _)).mono ?_; rintro e w6 ⟨r, rfl, hk5, hwf, n6, M6, hn6, hm6, hfin⟩; have HF := Lib.hid hfin; have HM6 := Lib.hid hm6; have HN6 := Lib.hid hn6; have HWF := Lib.hid hwf; clear hm6 hfin hn6 hwf))
      obtain ⟨z0, z5, _, _, z8, z9⟩ : w6.cell? ⟨pb, 0, none⟩ = some (.pointer (some ⟨mb, 0, none⟩)) ∧ w6.cell? ⟨pb, 5, none⟩ = some (.map (some sk)) ∧ w6.cell? ⟨wc.heap.size + 1, 0, none⟩ = some (.int .i64 q0) ∧ w6.cell? ⟨wc.heap.size + 1, 1, none⟩ = some (.int .i64 q1) ∧ w6.cell? ⟨w.heap.size, 0, none⟩ = some (.int .i64 x) ∧ w6.cell? ⟨w.heap.size, 1, none⟩ = some (.int .i64 y) := by assumption
      go_wp2_with fail
      go_still_tail 6, (by kernel_rfl)
      change wpList _ _ _ _ _ w6.drew
      refine wpList_mapUpdate_at rfl (.tmp 111) (.tmp 112) (.tmp 113) rfl law190 Try.underlying166 Try.underlying3 rfl (HM6.out.drewN 1) (by unfold maxLen; have := HN6.out; omega) _ _ kl rfl rfl hkey HWF.out ?_
      intro w8 hm8 ht8
      go_wp2_with fail
      go_ret
      exact ⟨r, n6, M6, w6.drew, rfl, HF.out _ (Near.refl _).drew, hm8, ht8⟩
    · go_upto_region 15 with fail
      go_region
      all_goals (go_upto_region 15 with fail)
      go_wp2_with fail
      have hNW : Near w (((wc.alloc (.cells #[.int .i64 x, .int .i64 p1] 190)).alloc (.cells #[.int .i64 x, .int .i64 q1] 190)).drew) := by repeat (first | exact hnW | refine Near.drew ?_ | refine Near.alloc ?_ _)
      have t0 : (((wc.alloc (.cells #[.int .i64 x, .int .i64 p1] 190)).alloc (.cells #[.int .i64 x, .int .i64 q1] 190)).drew).cell? ⟨wc.heap.size + 1, 0, none⟩ = some (.int .i64 x) := by simp
      have t1 : (((wc.alloc (.cells #[.int .i64 x, .int .i64 p1] 190)).alloc (.cells #[.int .i64 x, .int .i64 q1] 190)).drew).cell? ⟨wc.heap.size + 1, 1, none⟩ = some (.int .i64 q1) := by simp
      have m0 : (((wc.alloc (.cells #[.int .i64 x, .int .i64 p1] 190)).alloc (.cells #[.int .i64 x, .int .i64 q1] 190)).drew).cell? ⟨w.heap.size, 0, none⟩ = some (.int .i64 x) := Near.cell (by repeat (first | exact Near.refl _ | refine Near.drew ?_ | refine Near.alloc ?_ _)) k0
      have m1 : (((wc.alloc (.cells #[.int .i64 x, .int .i64 p1] 190)).alloc (.cells #[.int .i64 x, .int .i64 q1] 190)).drew).cell? ⟨w.heap.size, 1, none⟩ = some (.int .i64 y) := Near.cell (by repeat (first | exact Near.refl _ | refine Near.drew ?_ | refine Near.alloc ?_ _)) k1
      have hsz : wc.heap.size + 1 < (((wc.alloc (.cells #[.int .i64 x, .int .i64 p1] 190)).alloc (.cells #[.int .i64 x, .int .i64 q1] 190)).drew).heap.size := by simp
      generalize ((wc.alloc (.cells #[.int .i64 x, .int .i64 p1] 190)).alloc (.cells #[.int .i64 x, .int .i64 q1] 190)).drew = W1 at hNW t0 t1 m0 m1 hsz ⊢
      refine (HH.out W1 hNW).mono ?_
      rintro e w2 ⟨r0, rfl, hk1, hc2⟩
      have HC2 := Lib.hid hc2
      clear hc2
      have keep : ∀ wa wb, Kept (Loc R w W1) wa wb → (∀ b o v, wa.cell? ⟨b, o, none⟩ = some v → ¬ Loc R w W1 b → wb.cell? ⟨b, o, none⟩ = some v) := fun wa wb h b o v hc hn => h.cell hc hn
      have lk : ¬ Loc R w W1 w.heap.size := fun h => h.2 ⟨Nat.le_refl _, by have := hn.size; simp at this; omega⟩
      have lt : ¬ Loc R w W1 (wc.heap.size + 1) := fun h => h.2 ⟨by have := hn.size; simp at this; omega, hsz⟩
      have lp : ¬ Loc R w W1 pb := fun h => hR h.1
      have sOf : ∀ wa wb, Kept (Loc R w W1) wa wb → (wa.cell? ⟨pb, 0, none⟩ = some (.pointer (some ⟨mb, 0, none⟩)) ∧ wa.cell? ⟨pb, 5, none⟩ = some (.map (some sk)) ∧ wa.cell? ⟨wc.heap.size + 1, 0, none⟩ = some (.int .i64 x) ∧ wa.cell? ⟨wc.heap.size + 1, 1, none⟩ = some (.int .i64 q1) ∧ wa.cell? ⟨w.heap.size, 0, none⟩ = some (.int .i64 x) ∧ wa.cell? ⟨w.heap.size, 1, none⟩ = some (.int .i64 y)) →
          (wb.cell? ⟨pb, 0, none⟩ = some (.pointer (some ⟨mb, 0, none⟩)) ∧ wb.cell? ⟨pb, 5, none⟩ = some (.map (some sk)) ∧ wb.cell? ⟨wc.heap.size + 1, 0, none⟩ = some (.int .i64 x) ∧ wb.cell? ⟨wc.heap.size + 1, 1, none⟩ = some (.int .i64 q1) ∧ wb.cell? ⟨w.heap.size, 0, none⟩ = some (.int .i64 x) ∧ wb.cell? ⟨w.heap.size, 1, none⟩ = some (.int .i64 y)) :=
        fun wa wb h ⟨a1, a2, a3, a4, a5, a6⟩ => ⟨h.cell a1 lp, h.cell a2 lp, h.cell a3 lt, h.cell a4 lt, h.cell a5 lk, h.cell a6 lk⟩
      have s2 := sOf _ _ hk1 ⟨hNW.cell c0', hNW.cell c5', t0, t1, m0, m1⟩
      clear t0 t1 m0 m1 keep
      go_upto_region 16 with fail
      go_region_held3 (fun w' => w'.cell? ⟨pb, 0, none⟩ = some (.pointer (some ⟨mb, 0, none⟩)) ∧ w'.cell? ⟨pb, 5, none⟩ = some (.map (some sk)) ∧ w'.cell? ⟨wc.heap.size + 1, 0, none⟩ = some (.int .i64 x) ∧ w'.cell? ⟨wc.heap.size + 1, 1, none⟩ = some (.int .i64 q1) ∧ w'.cell? ⟨w.heap.size, 0, none⟩ = some (.int .i64 x) ∧ w'.cell? ⟨w.heap.size, 1, none⟩ = some (.int .i64 y))
        (first
          | exact s2
          | exact sOf _ _ hk3 ‹_ ∧ _ ∧ _ ∧ _ ∧ _ ∧ _›
          | exact sOf _ _ hk5 ‹_ ∧ _ ∧ _ ∧ _ ∧ _ ∧ _›)
        (first
          | (go_at_call 132; refine (HC2.out _ (Near.drew (Near.refl _))).mono ?_; rintro e w4 ⟨r1, rfl, hk3, hc4⟩; have HC4 := Lib.hid hc4; clear hc4)
          | (go_at_call 78; refine (HC4.out _ (Near.refl _)).mono ?_; rintro e w6 ⟨r, rfl, hk5, hwf, n6, M6, hn6, hm6, hfin⟩; have HF := Lib.hid hfin; have HM6 := Lib.hid hm6; have HN6 := Lib.hid hn6; have HWF := Lib.hid hwf; clear hm6 hfin hn6 hwf))
      obtain ⟨z0, z5, _, _, z8, z9⟩ : w6.cell? ⟨pb, 0, none⟩ = some (.pointer (some ⟨mb, 0, none⟩)) ∧ w6.cell? ⟨pb, 5, none⟩ = some (.map (some sk)) ∧ w6.cell? ⟨wc.heap.size + 1, 0, none⟩ = some (.int .i64 x) ∧ w6.cell? ⟨wc.heap.size + 1, 1, none⟩ = some (.int .i64 q1) ∧ w6.cell? ⟨w.heap.size, 0, none⟩ = some (.int .i64 x) ∧ w6.cell? ⟨w.heap.size, 1, none⟩ = some (.int .i64 y) := by assumption
      go_wp2_with fail
      go_still_tail 6, (by kernel_rfl)
      change wpList _ _ _ _ _ w6.drew
      refine wpList_mapUpdate_at rfl (.tmp 111) (.tmp 112) (.tmp 113) rfl law190 Try.underlying166 Try.underlying3 rfl (HM6.out.drewN 1) (by unfold maxLen; have := HN6.out; omega) _ _ kl rfl rfl hkey HWF.out ?_
      intro w8 hm8 ht8
      go_wp2_with fail
      go_ret
      exact ⟨r, n6, M6, w6.drew, rfl, HF.out _ (Near.refl _).drew, hm8, ht8⟩

end Go.Proofs.Ytefclohjeompkaa
