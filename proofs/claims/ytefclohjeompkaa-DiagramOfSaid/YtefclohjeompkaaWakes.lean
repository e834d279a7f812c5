/- The contract of wakes. -/
import Derived.Test.YtefclohjeompkaaCountB
namespace Go.Proofs.Ytefclohjeompkaa
open Go Go.RowKit Go.Proofs.Gen Go.Proofs.Bdd Go.Proofs.Bdd.T

/-- x0 and x1, or x2. -/
def t3 : T := node 0 (node 2 (leaf false) (leaf true)) (node 1 (node 2 (leaf false) (leaf true)) (leaf true))

theorem t3_ok : t3.Ok := by
  refine ⟨by decide, by decide, by decide, by decide, ⟨by decide, by decide, by decide, by decide, trivial, trivial⟩, ⟨by decide, by decide, by decide, by decide, ⟨by decide, by decide, by decide, by decide, trivial, trivial⟩, trivial⟩⟩
theorem t3_ev (c : Nat → Bool) : t3.ev c = (c 0 && c 1 || c 2) := by
  simp only [t3, T.ev]
  cases c 0 <;> cases c 1 <;> cases c 2 <;> rfl
theorem t3_len : (nodes t3).length = 3 := by decide
theorem t3_sup : sup (nodes t3) = 7 := by decide
theorem t3_count : cA 3 0 (fun _ => false) t3 = 5 := by decide

theorem var_n (i : Nat) (h : i < 24) {x : Int} (hx : x = i) (w : World) : Calls Try.prog 40 #[.int .i64 x] w fun e w' => ∃ ao n cap, e = .returned (.tuple #[.agg #[.slice ao n cap, .int .i64 2], .int .i64 0]) ∧ IsD w' (.agg #[.slice ao n cap, .int .i64 2]) (node i (leaf false) (leaf true)) ∧ Near w w' := by
  subst hx
  refine (var_in i h w).mono ?_
  rintro e w' ⟨v, rfl, hd, hn⟩
  obtain ⟨ao, n, cap, rfl, -⟩ := hd.form
  have hnn : nodes (node i (leaf false) (leaf true)) = [node i (leaf false) (leaf true)] := by simp [nodes, go]
  have hp : pl [node i (leaf false) (leaf true)] (node i (leaf false) (leaf true)) = 2 := by simp [pl]
  rw [hnn, hp] at hd ⊢
  exact ⟨ao, n, cap, rfl, hd, hn⟩

theorem count3 {w : World} {v : Value} (h : IsD w v t3) : Calls Try.prog 29 #[v, .int .i64 3] w fun e w' => e = .returned (.tuple #[.int .u64 5, .int .i64 0]) ∧ Near w w' := by
  have := count_calls h (n := 3) (by decide) (by rw [t3_sup]; decide)
  rw [t3_count] at this
  exact this
theorem size3 {w : World} {v : Value} (h : IsD w v t3) : Calls Try.prog 37 #[v] w fun e w' => e = .returned (.int .i64 3) ∧ Near w w' := by
  have := size_calls h
  rw [t3_len] at this
  exact this
theorem has34 {w : World} {v : Value} (h : IsD w v t3) : Calls Try.prog 70 #[v, .int .u32 4] w fun e w' => e = .returned (.bool true) ∧ Near w w' := by
  have := has_calls h (c := 4) (by decide) (x := 4) rfl
  rw [t3_ev] at this
  exact this
theorem has32 {w : World} {v : Value} (h : IsD w v t3) : Calls Try.prog 70 #[v, .int .u32 2] w fun e w' => e = .returned (.bool false) ∧ Near w w' := by
  have := has_calls h (c := 2) (by decide) (x := 2) rfl
  rw [t3_ev] at this
  exact this

theorem xor_same {w : World} {v : Value} {t : T} (h : IsD w v t) : Calls Try.prog 48 #[v, v] w fun e w' => ∃ ao n cap, e = .returned (.agg #[.slice ao n cap, .int .i64 0]) ∧ IsD w' (.agg #[.slice ao n cap, .int .i64 0]) (leaf false) ∧ Near w w' := by
  refine (xor_calls h h).mono ?_
  rintro e w' ⟨s, hev, v, rfl, hs, hbl⟩
  have hsf : s = leaf false := canon hs.1 trivial (fun c => by rw [hev]; simp [T.ev])
  subst hsf
  obtain ⟨ao, n, cap, rfl, -⟩ := hs.form
  rw [pl_leaf] at hs ⊢
  exact ⟨ao, n, cap, rfl, hs, Near.of_below hbl⟩
theorem empty_false {w : World} {v : Value} (h : IsD w v (leaf false)) : Calls Try.prog 35 #[v] w fun e w' => e = .returned (.bool true) ∧ Near w w' := by
  have := empty_calls h
  simpa using this

theorem keepE {w w' : World} (h : Below w.heap.size w w') {k : Nat} {o : Obj} (hk : w.heap[k]? = some o) : w'.heap[k]? = some o :=
  (h.block k (Array.getElem?_eq_some_iff.1 hk).1).trans hk

theorem Near.size' {a b : World} (h : Near a b) : a.heap.size ≤ b.heap.size := h.size

theorem keepN {w w' : World} (h : Near w w') {k : Nat} {o : Obj} (hk : w.heap[k]? = some o) : w'.heap[k]? = some o := keepE h.below hk

/-- A set's variable after the three terms' joining. -/
def Joined (W : World) (s9 : Value) (wx : World) : Prop :=
  ∃ pb ao n cap r, s9 = .pointer (some ⟨pb, 0, none⟩) ∧ wx.heap[pb]? = some (.cells #[.slice ao n cap, .int .i64 r] 31 (0, 0)) ∧ IsD wx (.agg #[.slice ao n cap, .int .i64 r]) t3 ∧ Near W wx

theorem stored31 {w : World} {b : Nat} {x y u v : Value} (h : w.heap[b]? = some (.cells #[x, y] 31 (0, 0))) :
    ((w.setCell ⟨b, 0, none⟩ u).setCell ⟨b, 1, none⟩ v).heap[b]? = some (.cells #[u, v] 31 (0, 0)) := by
  have := setCell_heap (setCell_heap h 0 u) 1 v
  simpa using this

set_option maxRecDepth 100000 in
set_option maxHeartbeats 1600000 in
theorem wakes_calls (w : World) : Calls Try.prog 17 #[] w fun e w' => e = .returned (.bool true) ∧ Near w w' := by
  go_enter Try.func17, Try.ntmps17
  go_wp2_with (first
    | (go_at_call_of 40 (Value.int IntKind.i64 0); refine (var_n 0 (by decide) rfl _).mono ?_; rintro e w1 ⟨a1, m1, c1, rfl, d1, n1⟩)
    | (go_at_call_of 40 (Value.int IntKind.i64 1); refine (var_n 1 (by decide) rfl _).mono ?_; rintro e w2 ⟨a2, m2, c2, rfl, d2, n2⟩)
    | (go_at_call_of 40 (Value.int IntKind.i64 2); refine (var_n 2 (by decide) rfl _).mono ?_; rintro e w3 ⟨a3, m3, c3, rfl, d3, n3⟩)
    | (go_at_call_of 40 (Value.int IntKind.i64 24); refine (var_out 24 (by decide) _).mono ?_; rintro e w4 ⟨rfl, n4⟩))
  have N4 : Near (w4.alloc (.cells #[.slice none 0 0, .int .i64 0] 31)) (w4.alloc (.cells #[.slice none 0 0, .int .i64 0] 31)) := Near.refl _
  have k34 : Near (w3.alloc (.cells #[.slice a3 m3 c3, .int .i64 2] 31)) (w4.alloc (.cells #[.slice none 0 0, .int .i64 0] 31)) := n4.alloc _
  have k24 : Near (w2.alloc (.cells #[.slice a2 m2 c2, .int .i64 2] 31)) (w4.alloc (.cells #[.slice none 0 0, .int .i64 0] 31)) := (n3.alloc _).trans k34
  have k14 : Near (w1.alloc (.cells #[.slice a1 m1 c1, .int .i64 2] 31)) (w4.alloc (.cells #[.slice none 0 0, .int .i64 0] 31)) := (n2.alloc _).trans k24
  have E1 := Lib.hid (keepN k14 (heap_new_at rfl))
  have E2 := Lib.hid (keepN k24 (heap_new_at rfl))
  have E3 := Lib.hid (keepN k34 (heap_new_at rfl))
  have D1 := Lib.hid (d1.near (((Near.refl w1).alloc _).trans k14))
  have D2 := Lib.hid (d2.near (((Near.refl w2).alloc _).trans k24))
  have D3 := Lib.hid (d3.near (((Near.refl w3).alloc _).trans k34))
  have HW := Lib.hid ((n1.alloc _).trans k14)
  clear N4 k34 k24 k14 d1 d2 d3 n1 n2 n3 n4
  generalize (w4.alloc (.cells #[.slice none 0 0, .int .i64 0] 31)) = W at E1 E2 E3 D1 D2 D3 HW ⊢
  have sOf : ∀ w', Near W w' → w'.cell? ⟨w1.heap.size, 0, none⟩ = some (.slice a1 m1 c1) ∧ w'.cell? ⟨w1.heap.size, 1, none⟩ = some (.int .i64 2) ∧ w'.cell? ⟨w2.heap.size, 0, none⟩ = some (.slice a2 m2 c2) ∧ w'.cell? ⟨w2.heap.size, 1, none⟩ = some (.int .i64 2) ∧ w'.cell? ⟨w3.heap.size, 0, none⟩ = some (.slice a3 m3 c3) ∧ w'.cell? ⟨w3.heap.size, 1, none⟩ = some (.int .i64 2) ∧ Near W w' :=
    fun w' h => ⟨cell1 (keepN h E1.out) rfl, cell1 (keepN h E1.out) rfl, cell1 (keepN h E2.out) rfl, cell1 (keepN h E2.out) rfl, cell1 (keepN h E3.out) rfl, cell1 (keepN h E3.out) rfl, h⟩
  go_cut [9] (fun s9 wx => Joined W s9 wx)
  case first =>
    go_region_held3 (fun w' => w'.cell? ⟨w1.heap.size, 0, none⟩ = some (.slice a1 m1 c1) ∧ w'.cell? ⟨w1.heap.size, 1, none⟩ = some (.int .i64 2) ∧ w'.cell? ⟨w2.heap.size, 0, none⟩ = some (.slice a2 m2 c2) ∧ w'.cell? ⟨w2.heap.size, 1, none⟩ = some (.int .i64 2) ∧ w'.cell? ⟨w3.heap.size, 0, none⟩ = some (.slice a3 m3 c3) ∧ w'.cell? ⟨w3.heap.size, 1, none⟩ = some (.int .i64 2) ∧ Near W w')
      ((refine sOf _ ?_; repeat (first | assumption | exact Near.refl _ | refine Near.drew ?_ | refine Near.alloc ?_ _ | refine Near.drewN ?_ _ | refine Near.set ?_ (by show W.heap.size ≤ _; first | exact Nat.le_refl _ | (refine Near.size' ?_; assumption) | omega) _)))
      (first
        | (go_at_call 34; refine (and_calls (D1.out.near (by first | assumption | exact (Near.refl W).drew | exact (Near.refl W).drew.alloc _)) (D2.out.near (by first | assumption | exact (Near.refl W).drew | exact (Near.refl W).drew.alloc _))).mono ?_; rintro e w5 ⟨s5, ev5, v5, rfl, i5, b5⟩; obtain ⟨o5, l5, p5, rfl, -⟩ := i5.form; have z5 : Near W w5 := Near.trans (by first | assumption | exact (Near.refl W).drew | exact (Near.refl W).drew.alloc _) (Near.of_below b5); have I5 := Lib.hid i5; clear i5; first | (have E5 := Lib.hid (keepE b5 (heap_new_at rfl)); have q50 := cell1 (o := 0) E5.out rfl; have q51 := cell1 (o := 1) E5.out rfl; have g50 := free1 E5.out 0; have g51 := free1 E5.out 1) | skip)
        | (go_at_call 33; refine (or_calls (I5.out.near (by first | exact Near.refl _ | exact (Near.refl _).alloc _)) (D3.out.near (by first | assumption | exact z5.alloc _))).mono ?_; rintro e w6 ⟨s6, ev6, v6, rfl, i6, b6⟩; obtain ⟨o6, l6, p6, rfl, -⟩ := i6.form; have z6 : Near W w6 := Near.trans (by first | assumption | exact z5.alloc _) (Near.of_below b6); have I6 := Lib.hid i6; clear i6; first | (have E6 := Lib.hid (keepE b6 E5.out); have q60 := cell1 (o := 0) E6.out rfl; have q61 := cell1 (o := 1) E6.out rfl; have g60 := free1 E6.out 0; have g61 := free1 E6.out 1) | (have E6 := Lib.hid (keepE b6 (heap_new_at rfl)); have q60 := cell1 (o := 0) E6.out rfl; have q61 := cell1 (o := 1) E6.out rfl; have g60 := free1 E6.out 0; have g61 := free1 E6.out 1) | skip))
    all_goals
      have hs6 : s6 = t3 := canon I6.out.1 t3_ok (fun c => by rw [ev6, ev5, t3_ev]; simp [T.ev])
      subst hs6
      go_wp2_with fail
      go_meet
      first
        | exact ⟨_, _, _, _, _, rfl, heap_new_at rfl, I6.out.near ((Near.refl _).alloc _), z6.alloc _⟩
        | exact ⟨_, _, _, _, _, rfl, stored31 E6.out, isD_store I6.out E6.out, (z6.set (by show W.heap.size ≤ _; first | exact Nat.le_refl _ | exact z5.size') _).set (by show W.heap.size ≤ _; first | exact Nat.le_refl _ | exact z5.size') _⟩
  case rest =>
    obtain ⟨pb, ao, n, cap, r, rfl, hb, hd, hn⟩ := hcut
    have hq : ∀ w', Near wc w' → w'.cell? ⟨pb, 0, none⟩ = some (.slice ao n cap) ∧ w'.cell? ⟨pb, 1, none⟩ = some (.int .i64 r) ∧ w'.cell? ⟨w1.heap.size, 0, none⟩ = some (.slice a1 m1 c1) ∧ w'.cell? ⟨w1.heap.size, 1, none⟩ = some (.int .i64 2) :=
      fun w' h => ⟨cell1 (keepN h hb) rfl, cell1 (keepN h hb) rfl, cell1 (keepN (hn.trans h) E1.out) rfl, cell1 (keepN (hn.trans h) E1.out) rfl⟩
    have d1 := Lib.hid (D1.out.near hn)
    have HD := Lib.hid hd
    have HN := Lib.hid hn
    clear E2 E3 D1 D2 D3 sOf hd hn hb E1
    obtain ⟨x1, x2, x3, x4⟩ := hq _ (Near.refl _)
    go_wp2_with (first
      | (go_at_call 29; refine (count3 HD.out).mono ?_; rintro e v1 ⟨rfl, k1⟩; obtain ⟨x11, x12, x13, x14⟩ := hq _ k1)
      | (go_at_call 37; refine (size3 (HD.out.near k1)).mono ?_; rintro e v2 ⟨rfl, n2⟩; have k2 := k1.trans n2; obtain ⟨x21, x22, x23, x24⟩ := hq _ k2)
      | (go_at_call_of 70 (Value.int IntKind.u32 4); refine (has34 (HD.out.near k2)).mono ?_; rintro e v3 ⟨rfl, n3⟩; have k3 := k2.trans n3; obtain ⟨x31, x32, x33, x34⟩ := hq _ k3)
      | (go_at_call_of 70 (Value.int IntKind.u32 2); refine (has32 (HD.out.near k3)).mono ?_; rintro e v4 ⟨rfl, n4⟩; have k4 := k3.trans n4; obtain ⟨x41, x42, x43, x44⟩ := hq _ k4)
      | (go_at_call 48; refine (xor_same (d1.out.near k4)).mono ?_; rintro e v5 ⟨ax, mx, cx, rfl, dx, n5⟩; have k5 := k4.trans n5)
      | (go_at_call 35; refine (empty_false dx).mono ?_; rintro e v6 ⟨rfl, n6⟩; have k6 := k5.trans n6))
    exact bodyPost_ret (v := .bool true) (by simp [results, Try.results17, go_sem]) rfl ⟨rfl, (HW.out.trans HN.out).trans k6⟩

end Go.Proofs.Ytefclohjeompkaa
