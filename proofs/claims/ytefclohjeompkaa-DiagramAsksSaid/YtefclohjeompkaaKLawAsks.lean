/- Parts of a proof: BoxN, LawAsks. -/
import Derived.BigQuiet
import Derived.Test.YtefclohjeompkaaKBoxI
import Derived.Test.YtefclohjeompkaaKLawCounts
import Derived.Test.YtefclohjeompkaaKFixR
import Derived.Test.YtefclohjeompkaaKSaidA
import Derived.Test.YtefclohjeompkaaKTakeM
import Derived.Test.YtefclohjeompkaaKTwoG
/- The state between operations that lay and fill several boxes; operations 20 to 23 by number. Over any program. -/
namespace Go.Proofs.Ytefclohjeompkaa
open Go Go.RowKit Go.Shelf Go.Proofs.Gen

/-- A box: laid by operation a, filled by operation s. -/
structure BoxD where
  a : Nat
  s : Nat
  zero : Array Value
  full : Array Value
  e : TypeId

structure BoxN (bs : List BoxD) (w0 : World) (p : Nat → Bool) (env : Nat → Value) (w : World) : Prop where
  near : Near w0 w
  box : ∀ d ∈ bs, p d.a = true → ∃ b, env d.a = .pointer (some ⟨b, 0, none⟩) ∧ w0.heap.size ≤ b ∧ w.heap[b]? = some (.cells (if p d.s = true then d.full else d.zero) d.e (0, 0))
  last : ∀ d ∈ bs, p d.s = true → p d.a = true
  apart : ∀ d ∈ bs, ∀ d' ∈ bs, d.a ≠ d'.a → p d.a = true → p d'.a = true → env d.a ≠ env d'.a

section
variable {bs : List BoxD} {w0 w w' : World} {p : Nat → Bool} {env : Nat → Value}

theorem BoxN.start (ha : ∀ d ∈ bs, p d.a = false) (hs : ∀ d ∈ bs, p d.s = false) (hn : Near w0 w) : BoxN bs w0 p env w := by
  refine ⟨hn, fun d hd h => ?_, fun d hd h => ?_, fun d hd d' hd' _ h => ?_⟩
  · rw [ha d hd] at h; cases h
  · rw [hs d hd] at h; cases h
  · rw [ha d hd] at h; cases h

theorem BoxN.lay (h : BoxN bs w0 p env w) {d0 : BoxD} (h0 : d0 ∈ bs) (hp : p d0.a = false) (hu : ∀ d ∈ bs, d.a = d0.a → d = d0) (hs : ∀ d ∈ bs, d.s ≠ d0.a) :
    BoxN bs w0 (upB p d0.a) (upV env d0.a (.pointer (some ⟨w.heap.size, 0, none⟩))) (w.alloc (.cells d0.zero d0.e)) := by
  have hn : Near w (w.alloc (.cells d0.zero d0.e)) := (Near.refl w).alloc _
  have lt : ∀ d ∈ bs, p d.a = true → ∀ b, env d.a = .pointer (some ⟨b, 0, none⟩) → b < w.heap.size := fun d hd hpd b e => by
    obtain ⟨b', h1, _, h3⟩ := h.box d hd hpd
    rw [h1] at e
    cases e
    exact (Array.getElem?_eq_some_iff.1 h3).1
  refine ⟨h.near.trans hn, fun d hd hpd => ?_, fun d hd hps => ?_, fun d hd d' hd' hne h1 h2 => ?_⟩
  · rw [upB_ne _ (hs d hd)]
    by_cases e : d.a = d0.a
    · obtain rfl := hu d hd e
      have hq : p d.s = false := by
        cases hq : p d.s with
        | false => rfl
        | true => rw [h.last d hd hq] at hp; cases hp
      rw [hq, upV_same]
      exact ⟨_, rfl, h.near.size', heap_new_at rfl⟩
    · rw [upB_ne _ e] at hpd
      rw [upV_ne _ _ e]
      obtain ⟨b, h1, h2, h3⟩ := h.box d hd hpd
      exact ⟨b, h1, h2, keepN hn h3⟩
  · rw [upB_ne _ (hs d hd)] at hps
    by_cases e : d.a = d0.a
    · rw [e, upB_same]
    · rw [upB_ne _ e]
      exact h.last d hd hps
  · by_cases e : d.a = d0.a
    · have e' : d'.a ≠ d0.a := fun e' => hne (e.trans e'.symm)
      rw [e, upV_same, upV_ne _ _ e']
      rw [upB_ne _ e'] at h2
      intro hh
      have := lt d' hd' h2 _ hh.symm
      omega
    · by_cases e' : d'.a = d0.a
      · rw [e', upV_same, upV_ne _ _ e]
        rw [upB_ne _ e] at h1
        intro hh
        have := lt d hd h1 _ hh
        omega
      · rw [upV_ne _ _ e, upV_ne _ _ e']
        rw [upB_ne _ e] at h1
        rw [upB_ne _ e'] at h2
        exact h.apart d hd d' hd' hne h1 h2

theorem BoxN.fill (h : BoxN bs w0 p env w) {d0 : BoxD} (h0 : d0 ∈ bs) (hpa : p d0.a = true) (hps : p d0.s = false) (ha : ∀ d ∈ bs, d.a ≠ d0.s) (hu : ∀ d ∈ bs, d.s = d0.s ∨ d.a = d0.a → d = d0) :
    ∃ b, env d0.a = .pointer (some ⟨b, 0, none⟩) ∧ w.heap[b]? = some (.cells d0.zero d0.e (0, 0)) ∧ ∀ u w', Kept (fun k => k = b) w w' → w'.heap[b]? = some (.cells d0.full d0.e (0, 0)) → BoxN bs w0 (upB p d0.s) (upV env d0.s u) w' := by
  obtain ⟨b, h1, h2, h3⟩ := h.box d0 h0 hpa
  rw [hps] at h3
  refine ⟨b, h1, h3, fun u w' hk hf => ⟨Kept.mono (h.near.kept.trans hk) (fun k hk e => by omega), fun d hd hpd => ?_, fun d hd hq => ?_, fun d hd d' hd' hne g1 g2 => ?_⟩⟩
  · rw [upB_ne _ (ha d hd)] at hpd
    rw [upV_ne _ _ (ha d hd)]
    by_cases e : d.s = d0.s
    · obtain rfl := hu d hd (.inl e)
      rw [upB_same]
      exact ⟨b, h1, h2, hf⟩
    · rw [upB_ne _ e]
      obtain ⟨b', k1, k2, k3⟩ := h.box d hd hpd
      refine ⟨b', k1, k2, ?_⟩
      have hbb : b' ≠ b := by
        rintro rfl
        have hda : d.a ≠ d0.a := fun e' => e (congrArg BoxD.s (hu d hd (.inr e')))
        exact h.apart d hd d0 h0 hda hpd hpa (k1.trans h1.symm)
      exact (hk.block b' (Array.getElem?_eq_some_iff.1 k3).1 hbb).trans k3
  · rw [upB_ne _ (ha d hd)]
    by_cases e : d.s = d0.s
    · obtain rfl := hu d hd (.inl e)
      exact hpa
    · rw [upB_ne _ e] at hq
      exact h.last d hd hq
  · rw [upB_ne _ (ha d hd)] at g1
    rw [upB_ne _ (ha d' hd')] at g2
    rw [upV_ne _ _ (ha d hd), upV_ne _ _ (ha d' hd')]
    exact h.apart d hd d' hd' hne g1 g2
end

section
variable {P : Program} {Q : Exit → Act → World → Prop} {md : Region.Mode} {S : World → Prop} {z : Nat}

theorem stepI20 {x0 x1 x2 x3 x4 x5 x6 x7 x8 x9 x10 x11 x12 x13 x14 x15 x16 x17 x18 x19 : Oper} {ds : List (Nat × Option Tmp)} {a0 : Act} {I : (Nat → Bool) → (Nat → Value) → World → Prop} {d : Option Tmp} {oi : Oper} {r : List Oper} {l : List (Nat × Option Tmp)} (deps : List Nat) (hdeps : (deps.all fun j => oi.after.any fun e => Region.binds md e && e.on == j) = true)
    (h : ∀ p env w, p 20 = false → deps.all p = true → I p env w → ∀ K' : Act → World → Prop, Shut (∀ v w', (20 = z ∨ S w') → I (upB p 20) (upV env 20 v) w' → K' ((actOf ds p env a0).put oi.dst v) w') →
      if Region.wanted oi (yielded (List.toArray (x0 :: x1 :: x2 :: x3 :: x4 :: x5 :: x6 :: x7 :: x8 :: x9 :: x10 :: x11 :: x12 :: x13 :: x14 :: x15 :: x16 :: x17 :: x18 :: x19 :: oi :: r)) (actOf ds p env a0).tmps) = true then Oper.wp P oi (actOf ds p env a0) w K' Q else K' ((actOf ds p env a0).put oi.dst undef) w)
    (hs : StepsI P md Q S z (List.toArray (x0 :: x1 :: x2 :: x3 :: x4 :: x5 :: x6 :: x7 :: x8 :: x9 :: x10 :: x11 :: x12 :: x13 :: x14 :: x15 :: x16 :: x17 :: x18 :: x19 :: oi :: r)) ds a0 I l) : StepsI P md Q S z (List.toArray (x0 :: x1 :: x2 :: x3 :: x4 :: x5 :: x6 :: x7 :: x8 :: x9 :: x10 :: x11 :: x12 :: x13 :: x14 :: x15 :: x16 :: x17 :: x18 :: x19 :: oi :: r)) ds a0 I ((20, d) :: l) := StepsI.cons deps rfl hdeps h hs
theorem stepI21 {x0 x1 x2 x3 x4 x5 x6 x7 x8 x9 x10 x11 x12 x13 x14 x15 x16 x17 x18 x19 x20 : Oper} {ds : List (Nat × Option Tmp)} {a0 : Act} {I : (Nat → Bool) → (Nat → Value) → World → Prop} {d : Option Tmp} {oi : Oper} {r : List Oper} {l : List (Nat × Option Tmp)} (deps : List Nat) (hdeps : (deps.all fun j => oi.after.any fun e => Region.binds md e && e.on == j) = true)
    (h : ∀ p env w, p 21 = false → deps.all p = true → I p env w → ∀ K' : Act → World → Prop, Shut (∀ v w', (21 = z ∨ S w') → I (upB p 21) (upV env 21 v) w' → K' ((actOf ds p env a0).put oi.dst v) w') →
      if Region.wanted oi (yielded (List.toArray (x0 :: x1 :: x2 :: x3 :: x4 :: x5 :: x6 :: x7 :: x8 :: x9 :: x10 :: x11 :: x12 :: x13 :: x14 :: x15 :: x16 :: x17 :: x18 :: x19 :: x20 :: oi :: r)) (actOf ds p env a0).tmps) = true then Oper.wp P oi (actOf ds p env a0) w K' Q else K' ((actOf ds p env a0).put oi.dst undef) w)
    (hs : StepsI P md Q S z (List.toArray (x0 :: x1 :: x2 :: x3 :: x4 :: x5 :: x6 :: x7 :: x8 :: x9 :: x10 :: x11 :: x12 :: x13 :: x14 :: x15 :: x16 :: x17 :: x18 :: x19 :: x20 :: oi :: r)) ds a0 I l) : StepsI P md Q S z (List.toArray (x0 :: x1 :: x2 :: x3 :: x4 :: x5 :: x6 :: x7 :: x8 :: x9 :: x10 :: x11 :: x12 :: x13 :: x14 :: x15 :: x16 :: x17 :: x18 :: x19 :: x20 :: oi :: r)) ds a0 I ((21, d) :: l) := StepsI.cons deps rfl hdeps h hs
theorem stepI22 {x0 x1 x2 x3 x4 x5 x6 x7 x8 x9 x10 x11 x12 x13 x14 x15 x16 x17 x18 x19 x20 x21 : Oper} {ds : List (Nat × Option Tmp)} {a0 : Act} {I : (Nat → Bool) → (Nat → Value) → World → Prop} {d : Option Tmp} {oi : Oper} {r : List Oper} {l : List (Nat × Option Tmp)} (deps : List Nat) (hdeps : (deps.all fun j => oi.after.any fun e => Region.binds md e && e.on == j) = true)
    (h : ∀ p env w, p 22 = false → deps.all p = true → I p env w → ∀ K' : Act → World → Prop, Shut (∀ v w', (22 = z ∨ S w') → I (upB p 22) (upV env 22 v) w' → K' ((actOf ds p env a0).put oi.dst v) w') →
      if Region.wanted oi (yielded (List.toArray (x0 :: x1 :: x2 :: x3 :: x4 :: x5 :: x6 :: x7 :: x8 :: x9 :: x10 :: x11 :: x12 :: x13 :: x14 :: x15 :: x16 :: x17 :: x18 :: x19 :: x20 :: x21 :: oi :: r)) (actOf ds p env a0).tmps) = true then Oper.wp P oi (actOf ds p env a0) w K' Q else K' ((actOf ds p env a0).put oi.dst undef) w)
    (hs : StepsI P md Q S z (List.toArray (x0 :: x1 :: x2 :: x3 :: x4 :: x5 :: x6 :: x7 :: x8 :: x9 :: x10 :: x11 :: x12 :: x13 :: x14 :: x15 :: x16 :: x17 :: x18 :: x19 :: x20 :: x21 :: oi :: r)) ds a0 I l) : StepsI P md Q S z (List.toArray (x0 :: x1 :: x2 :: x3 :: x4 :: x5 :: x6 :: x7 :: x8 :: x9 :: x10 :: x11 :: x12 :: x13 :: x14 :: x15 :: x16 :: x17 :: x18 :: x19 :: x20 :: x21 :: oi :: r)) ds a0 I ((22, d) :: l) := StepsI.cons deps rfl hdeps h hs
theorem stepI23 {x0 x1 x2 x3 x4 x5 x6 x7 x8 x9 x10 x11 x12 x13 x14 x15 x16 x17 x18 x19 x20 x21 x22 : Oper} {ds : List (Nat × Option Tmp)} {a0 : Act} {I : (Nat → Bool) → (Nat → Value) → World → Prop} {d : Option Tmp} {oi : Oper} {r : List Oper} {l : List (Nat × Option Tmp)} (deps : List Nat) (hdeps : (deps.all fun j => oi.after.any fun e => Region.binds md e && e.on == j) = true)
    (h : ∀ p env w, p 23 = false → deps.all p = true → I p env w → ∀ K' : Act → World → Prop, Shut (∀ v w', (23 = z ∨ S w') → I (upB p 23) (upV env 23 v) w' → K' ((actOf ds p env a0).put oi.dst v) w') →
      if Region.wanted oi (yielded (List.toArray (x0 :: x1 :: x2 :: x3 :: x4 :: x5 :: x6 :: x7 :: x8 :: x9 :: x10 :: x11 :: x12 :: x13 :: x14 :: x15 :: x16 :: x17 :: x18 :: x19 :: x20 :: x21 :: x22 :: oi :: r)) (actOf ds p env a0).tmps) = true then Oper.wp P oi (actOf ds p env a0) w K' Q else K' ((actOf ds p env a0).put oi.dst undef) w)
    (hs : StepsI P md Q S z (List.toArray (x0 :: x1 :: x2 :: x3 :: x4 :: x5 :: x6 :: x7 :: x8 :: x9 :: x10 :: x11 :: x12 :: x13 :: x14 :: x15 :: x16 :: x17 :: x18 :: x19 :: x20 :: x21 :: x22 :: oi :: r)) ds a0 I l) : StepsI P md Q S z (List.toArray (x0 :: x1 :: x2 :: x3 :: x4 :: x5 :: x6 :: x7 :: x8 :: x9 :: x10 :: x11 :: x12 :: x13 :: x14 :: x15 :: x16 :: x17 :: x18 :: x19 :: x20 :: x21 :: x22 :: oi :: r)) ds a0 I ((23, d) :: l) := StepsI.cons deps rfl hdeps h hs
end

end Go.Proofs.Ytefclohjeompkaa

/- The law DiagramAsks: the walk (printed by gen_asks.py). -/
namespace Go.Proofs.Ytefclohjeompkaa
open Go Go.RowKit Go.Shelf Go.Proofs.Gen Go.Proofs.Bdd Go.Proofs.Bdd.T

theorem full_b {w : World} {v : Value} {f : F} {b : Bool} (h : IsF w v f) (hb : everyF f = b) : Calls Try.prog 49 #[v] w fun e w' => e = .returned (.bool b) ∧ Near w w' := by
  obtain ⟨t, hd, he⟩ := h
  have e : decide (t = leaf true) = b := by
    rw [← hb, everyF, decide_eq_decide]
    constructor
    · rintro rfl c
      rw [← he]
      rfl
    · intro hc
      exact canon hd.1 trivial fun c => (he c).trans (hc c)
  rw [← e]
  exact full_calls hd

theorem within_same (f g : F) : sameF (fun c => f c && g c) f = nowhere (fun c => f c && !g c) := by
  rw [Bool.eq_iff_iff, nowhere_iff, sameF_iff]
  refine forall_congr' fun c => ?_
  cases f c <;> cases g c <;> simp

theorem supp_is {w : World} {v : Value} {f : F} {s : Nat} (h : IsF w v f) (hs : ∀ i, s.testBit i = dep f i) : Calls Try.prog 44 #[v] w fun e w' => e = .returned (.int .u32 (s : Nat)) ∧ Near w w' := by
  obtain ⟨s', -, h1, h2⟩ := support_f h
  obtain rfl : s' = s := Nat.eq_of_testBit_eq fun i => (h1 i).trans (hs i).symm
  exact h2

theorem two_kept {w : World} {b : Nat} (x y : Value) : Kept (fun k => k = b) w ((w.setCell ⟨b, 0, none⟩ x).setCell ⟨b, 1, none⟩ y) :=
  Kept.setCell (Kept.setCell (S := fun k => k = b) (Kept.refl _ w) (p := ⟨b, 0, none⟩) (fun _ => rfl) x) (p := ⟨b, 1, none⟩) (fun _ => rfl) y

theorem two_stored {w : World} {b : Nat} {p q : Value} {e : TypeId} (h : w.heap[b]? = some (.cells #[p, q] e (0, 0))) (x y : Value) : ((w.setCell ⟨b, 0, none⟩ x).setCell ⟨b, 1, none⟩ y).heap[b]? = some (.cells #[x, y] e (0, 0)) := by
  have := setCell_heap (setCell_heap h 0 x) 1 y
  simpa only [List.setIfInBounds_toArray, List.set_cons_zero, List.set_cons_succ] using this

set_option maxRecDepth 100000 in
set_option maxHeartbeats 64000000 in
theorem law_asks {w : World} {v : Value} {l : List SOp} (h : RdOps w v l) {n1 : Nat} (hn1 : n1 ≤ 255) {n2 : Nat} (hn2 : n2 ≤ 255) : Calls Try.prog 12 #[v, .int .u8 n1, .int .u8 n2] w fun e w' => e = .returned (.bool true) ∧ Near w w' := by
  have HM := Lib.hid (ment_calls h)
  cases hb : mentB l with
  | false =>
    have HB := Lib.hid hb
    obtain ⟨ao, cap, rfl, -⟩ := h
    clear hb
    go_enter Try.func12, Try.ntmps12
    go_wp2_with (first
      | (go_at_call 23; refine HM.out.mono ?_; rintro e w1 ⟨rfl, n1'⟩; rw [HB.out])
      | (go_at_call 17; refine (wakes_calls _).mono ?_; rintro e w2 ⟨rfl, n2'⟩))
    go_ret
    exact ⟨rfl, n1'.trans n2'⟩
  | true =>
    have HB := Lib.hid hb
    have hok := mentB_ok hb
    have hl12 := hok.1
    have h40 := Lib.hid hok.2
    have HL := Lib.hid h
    obtain ⟨ao, cap, rfl, -⟩ := h
    clear hb hok
    have hpos : 0 < (makeF l).length := by rw [makeF_len]; omega
    have hmax : (makeF l).length ≤ 1000 := by rw [makeF_len]; omega
    have wr0 : IntKind.i64.wrap (n1 : Int) = n1 := IntWalk.i64_in _ (by omega)
    have wr1 : IntKind.i64.wrap (n2 : Int) = n2 := IntWalk.i64_in _ (by omega)
    go_enter Try.func12, Try.ntmps12
    go_upto_region 4 with (first
      | (go_at_call 23; refine HM.out.mono ?_; rintro e w1 ⟨rfl, n1'⟩; rw [HB.out])
      | (go_at_call 24; refine (both_calls2 (HL.out.near n1') (by omega) h40.out).mono ?_; rintro e w2 ⟨sv, tv, rfl, s2, t2, n2'⟩; obtain ⟨g, sc, u0, u1, i0, hi0, ei0, li0, rfl, x0, x1, his⟩ := s2.at (k := n1) hpos; obtain ⟨g', sc', u2, u3, j0, hj0, ej0, lj0, eg, x2, x3, hjs⟩ := s2.at (k := n2) hpos; cases eg;
          obtain ⟨h, tc, v0, v1, i0', hi0', -, -, rfl, y0, y1, hit⟩ := t2.at (k := n1) hpos; obtain ⟨h', tc', v2, v3, j0', hj0', -, -, eh, y2, y3, hjt⟩ := t2.at (k := n2) hpos; cases eh; obtain rfl : i0 = i0' := hi0.trans hi0'.symm; obtain rfl : j0 = j0' := hj0.trans hj0'.symm; have HN := Lib.hid (n1'.trans n2'); clear s2 t2 n1' n2' hi0 hj0 hi0' hj0'))
    obtain ⟨a1, a2, a3, a4, e1⟩ := his.form
    obtain ⟨b1, b2, b3, b4, e2⟩ := hjs.form
    obtain ⟨p1, p2, p3, p4, p5, p6, e3⟩ := hit.form
    obtain ⟨q1, q2, q3, q4, q5, q6, e4⟩ := hjt.form
    simp only [Value.agg.injEq, Array.mk.injEq, List.cons.injEq, and_true] at e1 e2 e3 e4
    obtain ⟨rfl, rfl⟩ := e1
    obtain ⟨rfl, rfl⟩ := e2
    obtain ⟨rfl, rfl⟩ := e3
    obtain ⟨rfl, rfl⟩ := e4
    generalize (makeF l).getD (n1 % (makeF l).length) (fun _ => false) = f1 at his hit
    generalize (makeF l).getD (n2 % (makeF l).length) (fun _ => false) = f2 at hjs hjt
    have HIS := Lib.hid his
    have HJS := Lib.hid hjs
    have HIT := Lib.hid hit
    have HJT := Lib.hid hjt
    clear his hjs hit hjt
    obtain ⟨n, hnl⟩ : ∃ n, (makeF l).length = n := ⟨_, rfl⟩
    rw [hnl] at hpos hmax li0 lj0 ei0 ej0 ⊢
    clear hnl
    have hpi : (0 : Int) ≤ i0 := by omega
    have hpj : (0 : Int) ≤ j0 := by omega
    have hli : (i0 : Int) < n := by omega
    have hlj : (j0 : Int) < n := by omega
    have hne : ¬ ((n : Int) = 0) := by omega
    have hne' : ¬ (n = 0) := by omega
    go_quiet (fail)
    go_upto_region 5 with fail
    have HSK := Lib.hid (show ∀ w', Near w2 w' → w'.cell? ⟨g, i0 * 2, none⟩ = some (.slice a1 a2 a3) ∧ w'.cell? ⟨g, i0 * 2 + 1, none⟩ = some (.int .i64 a4) ∧ w'.cell? ⟨g, j0 * 2, none⟩ = some (.slice b1 b2 b3) ∧ w'.cell? ⟨g, j0 * 2 + 1, none⟩ = some (.int .i64 b4) ∧ w'.cell? ⟨h, i0 * 2, none⟩ = some (.slice p1 p2 p3) ∧ w'.cell? ⟨h, i0 * 2 + 1, none⟩ = some (.slice p4 p5 p6) ∧ w'.cell? ⟨h, j0 * 2, none⟩ = some (.slice q1 q2 q3) ∧ w'.cell? ⟨h, j0 * 2 + 1, none⟩ = some (.slice q4 q5 q6) from fun w' h => ⟨h.cell x0, h.cell x1, h.cell x2, h.cell x3, h.cell y0, h.cell y1, h.cell y2, h.cell y3⟩)
    have hW0 := (Near.refl w2).drewN nq
    generalize w2.drewN nq = W0 at hW0 ⊢
    have HW0 := Lib.hid hW0
    clear hW0 ei0 ej0 wr0 wr1
    refine wp_region_noPanic ?_
    refine wp_region_Z (by kernel_rfl) (fun w' => w'.cell? ⟨g, i0 * 2, none⟩ = some (.slice a1 a2 a3) ∧ w'.cell? ⟨g, i0 * 2 + 1, none⟩ = some (.int .i64 a4) ∧ w'.cell? ⟨g, j0 * 2, none⟩ = some (.slice b1 b2 b3) ∧ w'.cell? ⟨g, j0 * 2 + 1, none⟩ = some (.int .i64 b4) ∧ w'.cell? ⟨h, i0 * 2, none⟩ = some (.slice p1 p2 p3) ∧ w'.cell? ⟨h, i0 * 2 + 1, none⟩ = some (.slice p4 p5 p6) ∧ w'.cell? ⟨h, j0 * 2, none⟩ = some (.slice q1 q2 q3) ∧ w'.cell? ⟨h, j0 * 2 + 1, none⟩ = some (.slice q4 q5 q6)) 23 (HSK.out _ HW0.out.drew) (fun hS => ?_)
    refine takeZ0 (v := Value.slice (some ⟨g, 0, none⟩) n sc) (by kernel_rfl) (by kernel_rfl) (by kernel_rfl) (by kernel_rfl) (fun _ _ _ h => h) (Or.inl ⟨by rfl, fun w' hS' => by dsimp only at hS'; obtain ⟨s0, s1, s2, s3, s4, s5, s6, s7⟩ := hS'; go_simp⟩) hS ?_
    try simp only [Act.put, List.setIfInBounds_toArray, List.set_cons_zero, List.set_cons_succ]
    refine takeZ1 (v := Value.int .i64 i0) (by kernel_rfl) (by kernel_rfl) (by kernel_rfl) (by kernel_rfl) (fun _ _ _ h => h) (Or.inl ⟨by rfl, fun w' hS' => by dsimp only at hS'; obtain ⟨s0, s1, s2, s3, s4, s5, s6, s7⟩ := hS'; go_simp⟩) hS ?_
    try simp only [Act.put, List.setIfInBounds_toArray, List.set_cons_zero, List.set_cons_succ]
    refine takeZ2 (v := Value.pointer (some ⟨g, i0 * 2, none⟩)) (by kernel_rfl) (by kernel_rfl) (by kernel_rfl) (by kernel_rfl) (fun _ _ _ h => h) (Or.inl ⟨by rfl, fun w' hS' => by dsimp only at hS'; obtain ⟨s0, s1, s2, s3, s4, s5, s6, s7⟩ := hS'; go_simp⟩) hS ?_
    try simp only [Act.put, List.setIfInBounds_toArray, List.set_cons_zero, List.set_cons_succ]
    refine takeZ3 (v := Value.agg #[.slice a1 a2 a3, .int .i64 a4]) (by kernel_rfl) (by kernel_rfl) (by kernel_rfl) (by kernel_rfl) (fun _ _ _ h => h) (Or.inl ⟨by rfl, fun w' hS' => by dsimp only at hS'; obtain ⟨s0, s1, s2, s3, s4, s5, s6, s7⟩ := hS'; go_simp⟩) hS ?_
    try simp only [Act.put, List.setIfInBounds_toArray, List.set_cons_zero, List.set_cons_succ]
    refine takeZ4 (v := Value.slice (some ⟨g, 0, none⟩) n sc) (by kernel_rfl) (by kernel_rfl) (by kernel_rfl) (by kernel_rfl) (fun _ _ _ h => h) (Or.inl ⟨by rfl, fun w' hS' => by dsimp only at hS'; obtain ⟨s0, s1, s2, s3, s4, s5, s6, s7⟩ := hS'; go_simp⟩) hS ?_
    try simp only [Act.put, List.setIfInBounds_toArray, List.set_cons_zero, List.set_cons_succ]
    refine takeZ5 (v := Value.int .i64 j0) (by kernel_rfl) (by kernel_rfl) (by kernel_rfl) (by kernel_rfl) (fun _ _ _ h => h) (Or.inl ⟨by rfl, fun w' hS' => by dsimp only at hS'; obtain ⟨s0, s1, s2, s3, s4, s5, s6, s7⟩ := hS'; go_simp⟩) hS ?_
    try simp only [Act.put, List.setIfInBounds_toArray, List.set_cons_zero, List.set_cons_succ]
    refine takeZ6 (v := Value.pointer (some ⟨g, j0 * 2, none⟩)) (by kernel_rfl) (by kernel_rfl) (by kernel_rfl) (by kernel_rfl) (fun _ _ _ h => h) (Or.inl ⟨by rfl, fun w' hS' => by dsimp only at hS'; obtain ⟨s0, s1, s2, s3, s4, s5, s6, s7⟩ := hS'; go_simp⟩) hS ?_
    try simp only [Act.put, List.setIfInBounds_toArray, List.set_cons_zero, List.set_cons_succ]
    refine takeZ7 (v := Value.agg #[.slice b1 b2 b3, .int .i64 b4]) (by kernel_rfl) (by kernel_rfl) (by kernel_rfl) (by kernel_rfl) (fun _ _ _ h => h) (Or.inl ⟨by rfl, fun w' hS' => by dsimp only at hS'; obtain ⟨s0, s1, s2, s3, s4, s5, s6, s7⟩ := hS'; go_simp⟩) hS ?_
    try simp only [Act.put, List.setIfInBounds_toArray, List.set_cons_zero, List.set_cons_succ]
    refine takeZ8 (v := Value.slice (some ⟨h, 0, none⟩) n tc) (by kernel_rfl) (by kernel_rfl) (by kernel_rfl) (by kernel_rfl) (fun _ _ _ h => h) (Or.inl ⟨by rfl, fun w' hS' => by dsimp only at hS'; obtain ⟨s0, s1, s2, s3, s4, s5, s6, s7⟩ := hS'; go_simp⟩) hS ?_
    try simp only [Act.put, List.setIfInBounds_toArray, List.set_cons_zero, List.set_cons_succ]
    refine takeZ9 (v := Value.int .i64 i0) (by kernel_rfl) (by kernel_rfl) (by kernel_rfl) (by kernel_rfl) (fun _ _ _ h => h) (Or.inl ⟨by rfl, fun w' hS' => by dsimp only at hS'; obtain ⟨s0, s1, s2, s3, s4, s5, s6, s7⟩ := hS'; go_simp⟩) hS ?_
    try simp only [Act.put, List.setIfInBounds_toArray, List.set_cons_zero, List.set_cons_succ]
    refine takeZ10 (v := Value.pointer (some ⟨h, i0 * 2, none⟩)) (by kernel_rfl) (by kernel_rfl) (by kernel_rfl) (by kernel_rfl) (fun _ _ _ h => h) (Or.inl ⟨by rfl, fun w' hS' => by dsimp only at hS'; obtain ⟨s0, s1, s2, s3, s4, s5, s6, s7⟩ := hS'; go_simp⟩) hS ?_
    try simp only [Act.put, List.setIfInBounds_toArray, List.set_cons_zero, List.set_cons_succ]
    refine takeZ11 (v := Value.agg #[.slice p1 p2 p3, .slice p4 p5 p6]) (by kernel_rfl) (by kernel_rfl) (by kernel_rfl) (by kernel_rfl) (fun _ _ _ h => h) (Or.inl ⟨by rfl, fun w' hS' => by dsimp only at hS'; obtain ⟨s0, s1, s2, s3, s4, s5, s6, s7⟩ := hS'; go_simp⟩) hS ?_
    try simp only [Act.put, List.setIfInBounds_toArray, List.set_cons_zero, List.set_cons_succ]
    refine takeZ12 (v := Value.slice (some ⟨h, 0, none⟩) n tc) (by kernel_rfl) (by kernel_rfl) (by kernel_rfl) (by kernel_rfl) (fun _ _ _ h => h) (Or.inl ⟨by rfl, fun w' hS' => by dsimp only at hS'; obtain ⟨s0, s1, s2, s3, s4, s5, s6, s7⟩ := hS'; go_simp⟩) hS ?_
    try simp only [Act.put, List.setIfInBounds_toArray, List.set_cons_zero, List.set_cons_succ]
    refine takeZ13 (v := Value.int .i64 j0) (by kernel_rfl) (by kernel_rfl) (by kernel_rfl) (by kernel_rfl) (fun _ _ _ h => h) (Or.inl ⟨by rfl, fun w' hS' => by dsimp only at hS'; obtain ⟨s0, s1, s2, s3, s4, s5, s6, s7⟩ := hS'; go_simp⟩) hS ?_
    try simp only [Act.put, List.setIfInBounds_toArray, List.set_cons_zero, List.set_cons_succ]
    refine takeZ14 (v := Value.pointer (some ⟨h, j0 * 2, none⟩)) (by kernel_rfl) (by kernel_rfl) (by kernel_rfl) (by kernel_rfl) (fun _ _ _ h => h) (Or.inl ⟨by rfl, fun w' hS' => by dsimp only at hS'; obtain ⟨s0, s1, s2, s3, s4, s5, s6, s7⟩ := hS'; go_simp⟩) hS ?_
    try simp only [Act.put, List.setIfInBounds_toArray, List.set_cons_zero, List.set_cons_succ]
    refine takeZ15 (v := Value.agg #[.slice q1 q2 q3, .slice q4 q5 q6]) (by kernel_rfl) (by kernel_rfl) (by kernel_rfl) (by kernel_rfl) (fun _ _ _ h => h) (Or.inl ⟨by rfl, fun w' hS' => by dsimp only at hS'; obtain ⟨s0, s1, s2, s3, s4, s5, s6, s7⟩ := hS'; go_simp⟩) hS ?_
    try simp only [Act.put, List.setIfInBounds_toArray, List.set_cons_zero, List.set_cons_succ]
    refine wpAnyZ_inv2 [(16, some 12), (17, some 13), (18, some 14), (19, some 15), (20, none), (21, none), (22, none), (23, none)] (BoxN [⟨16, 20, #[.slice none 0 0, .int .i64 0], #[.slice a1 a2 a3, .int .i64 a4], 31⟩, ⟨17, 21, #[.slice none 0 0, .int .i64 0], #[.slice b1 b2 b3, .int .i64 b4], 31⟩, ⟨18, 22, #[.slice none 0 0, .slice none 0 0], #[.slice p1 p2 p3, .slice p4 p5 p6], 37⟩, ⟨19, 23, #[.slice none 0 0, .slice none 0 0], #[.slice q1 q2 q3, .slice q4 q5 q6], 37⟩] W0) (fun _ => undef) (by kernel_rfl) (by kernel_rfl) ?start5 ?rest5
    case start5 =>
      intro p hp
      simp only [List.all_cons, List.all_nil, Bool.and_true, Bool.and_eq_true, Bool.not_eq_true'] at hp
      obtain ⟨h16, h17, h18, h19, h20, h21, h22, h23⟩ := hp
      exact BoxN.start (by simp [h16, h17, h18, h19]) (by simp [h20, h21, h22, h23]) (Near.refl _).drew
    case rest5 =>
      intro A0 hA0
      have e44 := Lib.hid (show A0.eval (.tmp 44) = Value.agg #[.slice a1 a2 a3, .int .i64 a4] by rw [hA0]; rfl)
      have e48 := Lib.hid (show A0.eval (.tmp 48) = Value.agg #[.slice b1 b2 b3, .int .i64 b4] by rw [hA0]; rfl)
      have e52 := Lib.hid (show A0.eval (.tmp 52) = Value.agg #[.slice p1 p2 p3, .slice p4 p5 p6] by rw [hA0]; rfl)
      have e56 := Lib.hid (show A0.eval (.tmp 56) = Value.agg #[.slice q1 q2 q3, .slice q4 q5 q6] by rw [hA0]; rfl)
      have hsz := Lib.hid (show A0.tmps.size = 129 by rw [hA0]; rfl)
      have HA0 := Lib.hid hA0
      clear hA0
      refine ⟨stepI16 [] (by kernel_rfl) ?s16 (stepI17 [] (by kernel_rfl) ?s17 (stepI18 [] (by kernel_rfl) ?s18 (stepI19 [] (by kernel_rfl) ?s19 (stepI20 [16] (by kernel_rfl) ?s20 (stepI21 [17] (by kernel_rfl) ?s21 (stepI22 [18] (by kernel_rfl) ?s22 (stepI23 [19] (by kernel_rfl) ?s23 StepsI.nil))))))), ?fin5⟩
      case s16 =>
        intro p env w5 hp hd hI K hK
        generalize actOf [(16, some 12), (17, some 13), (18, some 14), (19, some 15), (20, none), (21, none), (22, none), (23, none)] p env A0 = AA at hK ⊢
        go_simp
        have hI2 := hI.lay (d0 := ⟨16, 20, #[.slice none 0 0, .int .i64 0], #[.slice a1 a2 a3, .int .i64 a4], 31⟩) (.head _) hp (by simp) (by simp)
        exact hK.out _ _ (Or.inr (HSK.out _ (HW0.out.trans hI2.near))) hI2
      case s17 =>
        intro p env w5 hp hd hI K hK
        generalize actOf [(16, some 12), (17, some 13), (18, some 14), (19, some 15), (20, none), (21, none), (22, none), (23, none)] p env A0 = AA at hK ⊢
        go_simp
        have hI2 := hI.lay (d0 := ⟨17, 21, #[.slice none 0 0, .int .i64 0], #[.slice b1 b2 b3, .int .i64 b4], 31⟩) (.tail _ (.head _)) hp (by simp) (by simp)
        exact hK.out _ _ (Or.inr (HSK.out _ (HW0.out.trans hI2.near))) hI2
      case s18 =>
        intro p env w5 hp hd hI K hK
        generalize actOf [(16, some 12), (17, some 13), (18, some 14), (19, some 15), (20, none), (21, none), (22, none), (23, none)] p env A0 = AA at hK ⊢
        go_simp
        have hI2 := hI.lay (d0 := ⟨18, 22, #[.slice none 0 0, .slice none 0 0], #[.slice p1 p2 p3, .slice p4 p5 p6], 37⟩) (.tail _ (.tail _ (.head _))) hp (by simp) (by simp)
        exact hK.out _ _ (Or.inr (HSK.out _ (HW0.out.trans hI2.near))) hI2
      case s19 =>
        intro p env w5 hp hd hI K hK
        generalize actOf [(16, some 12), (17, some 13), (18, some 14), (19, some 15), (20, none), (21, none), (22, none), (23, none)] p env A0 = AA at hK ⊢
        go_simp
        have hI2 := hI.lay (d0 := ⟨19, 23, #[.slice none 0 0, .slice none 0 0], #[.slice q1 q2 q3, .slice q4 q5 q6], 37⟩) (.tail _ (.tail _ (.tail _ (.head _)))) hp (by simp) (by simp)
        exact hK.out _ _ (Or.inr (HSK.out _ (HW0.out.trans hI2.near))) hI2
      case s20 =>
        intro p env w5 hp hd hI K hK
        simp only [List.all_cons, List.all_nil, Bool.and_true] at hd
        obtain ⟨b, b1, b3, b4⟩ := hI.fill (d0 := ⟨16, 20, #[.slice none 0 0, .int .i64 0], #[.slice a1 a2 a3, .int .i64 a4], 31⟩) (.head _) hd hp (by simp) (by simp)
        have t1 := slot_of ((actOf_eval (p := p) (env := env) (a := A0) (i := 16) (s := 12) hd (by rw [hsz.out]; decide) (ds := [(16, some 12), (17, some 13), (18, some 14), (19, some 15), (20, none), (21, none), (22, none), (23, none)]) rfl (by simp)).trans b1)
        have t2 := slot_of ((actOf_base (p := p) (env := env) (a := A0) (ds := [(16, some 12), (17, some 13), (18, some 14), (19, some 15), (20, none), (21, none), (22, none), (23, none)]) (s := 44) rfl).trans e44.out)
        generalize actOf [(16, some 12), (17, some 13), (18, some 14), (19, some 15), (20, none), (21, none), (22, none), (23, none)] p env A0 = AA at t1 t2 hK ⊢
        have z0 := cell1 (o := 0) b3 rfl
        have z1 := cell1 (o := 1) b3 rfl
        have zf := free1 b3
        go_simp
        have hI2 := b4 undef _ (two_kept _ _) (two_stored b3 _ _)
        exact hK.out undef _ (Or.inr (HSK.out _ (HW0.out.trans hI2.near))) hI2
      case s21 =>
        intro p env w5 hp hd hI K hK
        simp only [List.all_cons, List.all_nil, Bool.and_true] at hd
        obtain ⟨b, b1, b3, b4⟩ := hI.fill (d0 := ⟨17, 21, #[.slice none 0 0, .int .i64 0], #[.slice b1 b2 b3, .int .i64 b4], 31⟩) (.tail _ (.head _)) hd hp (by simp) (by simp)
        have t1 := slot_of ((actOf_eval (p := p) (env := env) (a := A0) (i := 17) (s := 13) hd (by rw [hsz.out]; decide) (ds := [(16, some 12), (17, some 13), (18, some 14), (19, some 15), (20, none), (21, none), (22, none), (23, none)]) rfl (by simp)).trans b1)
        have t2 := slot_of ((actOf_base (p := p) (env := env) (a := A0) (ds := [(16, some 12), (17, some 13), (18, some 14), (19, some 15), (20, none), (21, none), (22, none), (23, none)]) (s := 48) rfl).trans e48.out)
        generalize actOf [(16, some 12), (17, some 13), (18, some 14), (19, some 15), (20, none), (21, none), (22, none), (23, none)] p env A0 = AA at t1 t2 hK ⊢
        have z0 := cell1 (o := 0) b3 rfl
        have z1 := cell1 (o := 1) b3 rfl
        have zf := free1 b3
        go_simp
        have hI2 := b4 undef _ (two_kept _ _) (two_stored b3 _ _)
        exact hK.out undef _ (Or.inr (HSK.out _ (HW0.out.trans hI2.near))) hI2
      case s22 =>
        intro p env w5 hp hd hI K hK
        simp only [List.all_cons, List.all_nil, Bool.and_true] at hd
        obtain ⟨b, b1, b3, b4⟩ := hI.fill (d0 := ⟨18, 22, #[.slice none 0 0, .slice none 0 0], #[.slice p1 p2 p3, .slice p4 p5 p6], 37⟩) (.tail _ (.tail _ (.head _))) hd hp (by simp) (by simp)
        have t1 := slot_of ((actOf_eval (p := p) (env := env) (a := A0) (i := 18) (s := 14) hd (by rw [hsz.out]; decide) (ds := [(16, some 12), (17, some 13), (18, some 14), (19, some 15), (20, none), (21, none), (22, none), (23, none)]) rfl (by simp)).trans b1)
        have t2 := slot_of ((actOf_base (p := p) (env := env) (a := A0) (ds := [(16, some 12), (17, some 13), (18, some 14), (19, some 15), (20, none), (21, none), (22, none), (23, none)]) (s := 52) rfl).trans e52.out)
        generalize actOf [(16, some 12), (17, some 13), (18, some 14), (19, some 15), (20, none), (21, none), (22, none), (23, none)] p env A0 = AA at t1 t2 hK ⊢
        have z0 := cell1 (o := 0) b3 rfl
        have z1 := cell1 (o := 1) b3 rfl
        have zf := free1 b3
        go_simp
        have hI2 := b4 undef _ (two_kept _ _) (two_stored b3 _ _)
        exact hK.out undef _ (Or.inr (HSK.out _ (HW0.out.trans hI2.near))) hI2
      case s23 =>
        intro p env w5 hp hd hI K hK
        simp only [List.all_cons, List.all_nil, Bool.and_true] at hd
        obtain ⟨b, b1, b3, b4⟩ := hI.fill (d0 := ⟨19, 23, #[.slice none 0 0, .slice none 0 0], #[.slice q1 q2 q3, .slice q4 q5 q6], 37⟩) (.tail _ (.tail _ (.tail _ (.head _)))) hd hp (by simp) (by simp)
        have t1 := slot_of ((actOf_eval (p := p) (env := env) (a := A0) (i := 19) (s := 15) hd (by rw [hsz.out]; decide) (ds := [(16, some 12), (17, some 13), (18, some 14), (19, some 15), (20, none), (21, none), (22, none), (23, none)]) rfl (by simp)).trans b1)
        have t2 := slot_of ((actOf_base (p := p) (env := env) (a := A0) (ds := [(16, some 12), (17, some 13), (18, some 14), (19, some 15), (20, none), (21, none), (22, none), (23, none)]) (s := 56) rfl).trans e56.out)
        generalize actOf [(16, some 12), (17, some 13), (18, some 14), (19, some 15), (20, none), (21, none), (22, none), (23, none)] p env A0 = AA at t1 t2 hK ⊢
        have z0 := cell1 (o := 0) b3 rfl
        have z1 := cell1 (o := 1) b3 rfl
        have zf := free1 b3
        go_simp
        have hI2 := b4 undef _ (two_kept _ _) (two_stored b3 _ _)
        exact hK.out undef _ (Or.inr (HSK.out _ (HW0.out.trans hI2.near))) hI2
      case fin5 =>
        intro p env w5 hp hI
        simp only [List.all_cons, List.all_nil, Bool.and_true, Bool.and_eq_true] at hp
        obtain ⟨h16, h17, h18, h19, h20, h21, h22, h23⟩ := hp
        obtain ⟨b12, d12, -, f12⟩ := hI.box ⟨16, 20, #[.slice none 0 0, .int .i64 0], #[.slice a1 a2 a3, .int .i64 a4], 31⟩ (.head _) h16
        rw [h20] at f12
        obtain ⟨b13, d13, -, f13⟩ := hI.box ⟨17, 21, #[.slice none 0 0, .int .i64 0], #[.slice b1 b2 b3, .int .i64 b4], 31⟩ (.tail _ (.head _)) h17
        rw [h21] at f13
        obtain ⟨b14, d14, -, f14⟩ := hI.box ⟨18, 22, #[.slice none 0 0, .slice none 0 0], #[.slice p1 p2 p3, .slice p4 p5 p6], 37⟩ (.tail _ (.tail _ (.head _))) h18
        rw [h22] at f14
        obtain ⟨b15, d15, -, f15⟩ := hI.box ⟨19, 23, #[.slice none 0 0, .slice none 0 0], #[.slice q1 q2 q3, .slice q4 q5 q6], 37⟩ (.tail _ (.tail _ (.tail _ (.head _)))) h19
        rw [h23] at f15
        refine NoPanic.normal ?_
        rw [HA0.out]
        simp only [actOf, h16, h17, h18, h19, h20, h21, h22, h23, if_true, Act.put, List.setIfInBounds_toArray, List.set_cons_zero, List.set_cons_succ]
        rw [d12, d13, d14, d15]
        have HN5 := Lib.hid (HW0.out.trans hI.near)
        have HB12 := Lib.hid (show w5.heap[b12]? = some (.cells #[.slice a1 a2 a3, .int .i64 a4] 31 (0, 0)) from f12)
        have HB13 := Lib.hid (show w5.heap[b13]? = some (.cells #[.slice b1 b2 b3, .int .i64 b4] 31 (0, 0)) from f13)
        have HB14 := Lib.hid (show w5.heap[b14]? = some (.cells #[.slice p1 p2 p3, .slice p4 p5 p6] 37 (0, 0)) from f14)
        have HB15 := Lib.hid (show w5.heap[b15]? = some (.cells #[.slice q1 q2 q3, .slice q4 q5 q6] 37 (0, 0)) from f15)
        have HSB := Lib.hid (show ∀ w', Near w5 w' → w'.cell? ⟨b12, 0, none⟩ = some (.slice a1 a2 a3) ∧ w'.cell? ⟨b12, 1, none⟩ = some (.int .i64 a4) ∧ w'.cell? ⟨b13, 0, none⟩ = some (.slice b1 b2 b3) ∧ w'.cell? ⟨b13, 1, none⟩ = some (.int .i64 b4) ∧ w'.cell? ⟨b14, 0, none⟩ = some (.slice p1 p2 p3) ∧ w'.cell? ⟨b14, 1, none⟩ = some (.slice p4 p5 p6) ∧ w'.cell? ⟨b15, 0, none⟩ = some (.slice q1 q2 q3) ∧ w'.cell? ⟨b15, 1, none⟩ = some (.slice q4 q5 q6) from fun w' h => ⟨cell1 (o := 0) (keepN h HB12.out) rfl, cell1 (o := 1) (keepN h HB12.out) rfl, cell1 (o := 0) (keepN h HB13.out) rfl, cell1 (o := 1) (keepN h HB13.out) rfl, cell1 (o := 0) (keepN h HB14.out) rfl, cell1 (o := 1) (keepN h HB14.out) rfl, cell1 (o := 0) (keepN h HB15.out) rfl, cell1 (o := 1) (keepN h HB15.out) rfl⟩)
        have HFA := Lib.hid (HIS.out.near HN5.out)
        have HFB := Lib.hid (HJS.out.near HN5.out)
        have HGP := Lib.hid (HIT.out.near HN5.out)
        have HGQ := Lib.hid (HJT.out.near HN5.out)
        clear HSK HA0 hsz e44 e48 e52 e56 hI h16 h17 h18 h19 h20 h21 h22 h23 d12 d13 d14 d15 f12 f13 f14 f15 x0 x1 x2 x3 y0 y1 y2 y3 hS
        have hfp := fun (w' : World) (hn : Near w5 w') => fixed_f (HFA.out.near hn)
        have hfr := fun (w' : World) (hn : Near w5 w') => rfixed_g (HGP.out.near hn)
        generalize fixN f1 false = on at hfp hfr
        generalize fixN f1 true = off at hfp hfr
        have HFP := Lib.hid hfp
        have HFR := Lib.hid hfr
        clear hfp hfr
        obtain ⟨c0, c1, c2, c3, c4, c5, c6, c7⟩ := HSB.out _ (Near.refl _)
        go_upto_region 9 with (first
          | (go_at_call 54; refine (HFP.out _ (Near.refl _)).mono ?_; rintro e w6 ⟨rfl, n6⟩; have N6 := Lib.hid n6; obtain ⟨c0, c1, c2, c3, c4, c5, c6, c7⟩ := HSB.out _ n6; clear n6)
          | (go_at_call 55; refine (HFR.out _ N6.out).mono ?_; rintro e w7 ⟨rfl, n7⟩; have N7 := Lib.hid (N6.out.trans n7); obtain ⟨c0, c1, c2, c3, c4, c5, c6, c7⟩ := HSB.out _ N7.out; clear n7)
          | (go_at_call 56; refine (and_g (HGP.out.near N7.out) (HGQ.out.near N7.out)).mono ?_; rintro e w8 ⟨v8, rfl, d8, m8⟩; obtain ⟨r1, r2, r3, r4, r5, r6, rfl⟩ := d8.form; have N8 := Lib.hid (N7.out.trans m8); have D8 := Lib.hid d8; obtain ⟨c0, c1, c2, c3, c4, c5, c6, c7⟩ := HSB.out _ N8.out; clear m8 d8))
        have hN9 : Near w8 (w8.alloc (.cells #[.slice r1 r2 r3, .slice r4 r5 r6] 37)) := (Near.refl w8).alloc _
        have hB9 : (w8.alloc (.cells #[.slice r1 r2 r3, .slice r4 r5 r6] 37)).heap[w8.heap.size]? = some (.cells #[.slice r1 r2 r3, .slice r4 r5 r6] 37 (0, 0)) := heap_new_at rfl
        generalize (w8.alloc (.cells #[.slice r1 r2 r3, .slice r4 r5 r6] 37)) = W9 at hN9 hB9 ⊢
        have HB20 := Lib.hid hB9
        have HN9 := Lib.hid (N8.out.trans hN9)
        have KHFA := Lib.hid (HFA.out.near HN9.out)
        have KHFB := Lib.hid (HFB.out.near HN9.out)
        have KHGP := Lib.hid (HGP.out.near HN9.out)
        have KHGQ := Lib.hid (HGQ.out.near HN9.out)
        have KHGR := Lib.hid (D8.out.near hN9)
        have HNW := Lib.hid ((HN.out.trans HN5.out).trans HN9.out)
        obtain ⟨s, -, hs, -⟩ := support_f KHFA.out
        have HSS := Lib.hid hs
        clear hN9 hB9 hs c0 c1 c2 c3 c4 c5 c6 c7
        obtain ⟨t0, ht0⟩ : ∃ b, nowhere f1 = b := ⟨_, rfl⟩
        obtain ⟨t1, ht1⟩ : ∃ b, everyF f1 = b := ⟨_, rfl⟩
        obtain ⟨t2, ht2⟩ : ∃ b, sameF f1 f2 = b := ⟨_, rfl⟩
        obtain ⟨t3, ht3⟩ : ∃ b, nowhere (fun c => f1 c && !f2 c) = b := ⟨_, rfl⟩
        obtain ⟨t4, ht4⟩ : ∃ b, nowhere (fun c => f1 c && f2 c) = b := ⟨_, rfl⟩
        have HT0 := Lib.hid ht0
        have HT1 := Lib.hid ht1
        have HT2 := Lib.hid ht2
        have HT3 := Lib.hid ht3
        have HT4 := Lib.hid ht4
        have HT3' := Lib.hid ((within_same f1 f2).trans ht3)
        clear ht0 ht1 ht2 ht3 ht4
        have HSKk := Lib.hid (show ∀ w', Near W9 w' → (fun w' : World => w'.cell? ⟨b12, 0, none⟩ = some (.slice a1 a2 a3) ∧ w'.cell? ⟨b12, 1, none⟩ = some (.int .i64 a4) ∧ w'.cell? ⟨b13, 0, none⟩ = some (.slice b1 b2 b3) ∧ w'.cell? ⟨b13, 1, none⟩ = some (.int .i64 b4) ∧ w'.cell? ⟨b14, 0, none⟩ = some (.slice p1 p2 p3) ∧ w'.cell? ⟨b14, 1, none⟩ = some (.slice p4 p5 p6) ∧ w'.cell? ⟨b15, 0, none⟩ = some (.slice q1 q2 q3) ∧ w'.cell? ⟨b15, 1, none⟩ = some (.slice q4 q5 q6) ∧ w'.cell? ⟨w8.heap.size, 0, none⟩ = some (.slice r1 r2 r3) ∧ w'.cell? ⟨w8.heap.size, 1, none⟩ = some (.slice r4 r5 r6)) w' from fun w' h => by have hh := HSB.out _ (HN9.out.trans h); exact ⟨hh.1, hh.2.1, hh.2.2.1, hh.2.2.2.1, hh.2.2.2.2.1, hh.2.2.2.2.2.1, hh.2.2.2.2.2.2.1, hh.2.2.2.2.2.2.2, cell1 (o := 0) (keepN h HB20.out) rfl, cell1 (o := 1) (keepN h HB20.out) rfl⟩)
        try simp only [List.append_eq, List.cons_append, List.nil_append]
        refine wp_region_noPanic ?_
        refine startM (S := fun w' => w'.cell? ⟨b12, 0, none⟩ = some (.slice a1 a2 a3) ∧ w'.cell? ⟨b12, 1, none⟩ = some (.int .i64 a4) ∧ w'.cell? ⟨b13, 0, none⟩ = some (.slice b1 b2 b3) ∧ w'.cell? ⟨b13, 1, none⟩ = some (.int .i64 b4) ∧ w'.cell? ⟨b14, 0, none⟩ = some (.slice p1 p2 p3) ∧ w'.cell? ⟨b14, 1, none⟩ = some (.slice p4 p5 p6) ∧ w'.cell? ⟨b15, 0, none⟩ = some (.slice q1 q2 q3) ∧ w'.cell? ⟨b15, 1, none⟩ = some (.slice q4 q5 q6) ∧ w'.cell? ⟨w8.heap.size, 0, none⟩ = some (.slice r1 r2 r3) ∧ w'.cell? ⟨w8.heap.size, 1, none⟩ = some (.slice r4 r5 r6)) (by kernel_rfl) (by kernel_rfl) (HSKk.out _ (Near.refl _).drew) 60 rfl (fun hHeld => ?_)
        have hnd := (Near.refl W9).drew
        generalize W9.drew = xk0 at hnd hHeld ⊢
        have HNk0 := Lib.hid hnd
        clear hnd
        refine takeM 0 1 (v := Value.agg #[.slice a1 a2 a3, .int .i64 a4]) (by kernel_rfl) rfl (by kernel_rfl) (fun _ _ _ h => h) (by rfl) (fun w' hSw => ?_) hHeld ?_
        · go_simp
        try simp only [Act.put, List.setIfInBounds_toArray, List.set_cons_zero, List.set_cons_succ]
        refine takeM 2 5 (v := Value.agg #[.slice p1 p2 p3, .slice p4 p5 p6]) (by kernel_rfl) rfl (by kernel_rfl) (fun _ _ _ h => h) (by rfl) (fun w' hSw => ?_) hHeld ?_
        · go_simp
        try simp only [Act.put, List.setIfInBounds_toArray, List.set_cons_zero, List.set_cons_succ]
        refine oneM 1 7 (by kernel_rfl) rfl (by kernel_rfl) (by rfl) (fun K hK => ?_)
        go_simp
        go_at_call 35
        refine (empty_b (KHFA.out.near HNk0.out) HT0.out).mono ?_
        rintro e xk1 ⟨rfl, n'⟩
        have HNk1 := Lib.hid (HNk0.out.trans n')
        clear n'
        refine hK.out _ _ (HSKk.out _ HNk1.out) (fun hHeld => ?_)
        clear hK K
        try simp only [Act.put, List.setIfInBounds_toArray, List.set_cons_zero, List.set_cons_succ]
        refine oneM 3 15 (by kernel_rfl) rfl (by kernel_rfl) (by rfl) (fun K hK => ?_)
        go_simp
        go_at_call 57
        refine (rempty_g (KHGP.out.near HNk1.out) HT0.out).mono ?_
        rintro e xk2 ⟨rfl, n'⟩
        have HNk2 := Lib.hid (HNk1.out.trans n')
        clear n'
        refine hK.out _ _ (HSKk.out _ HNk2.out) (fun hHeld => ?_)
        clear hK K
        try simp only [Act.put, List.setIfInBounds_toArray, List.set_cons_zero, List.set_cons_succ]
        refine takeM 4 31 (v := Value.bool true) (by kernel_rfl) rfl (by kernel_rfl) (fun _ _ _ h => h) (by rfl) (fun w' hSw => ?_) hHeld ?_
        · go_simp
        try simp only [Act.put, List.setIfInBounds_toArray, List.set_cons_zero, List.set_cons_succ]
        refine takeM 5 63 (v := Value.bool true) (by kernel_rfl) rfl (by kernel_rfl) (fun _ _ _ h => h) (by rfl) (fun w' hSw => ?_) hHeld ?_
        · go_simp
        try simp only [Act.put, List.setIfInBounds_toArray, List.set_cons_zero, List.set_cons_succ]
        refine takeM 6 127 (v := Value.agg #[.slice a1 a2 a3, .int .i64 a4]) (by kernel_rfl) rfl (by kernel_rfl) (fun _ _ _ h => h) (by rfl) (fun w' hSw => ?_) hHeld ?_
        · go_simp
        try simp only [Act.put, List.setIfInBounds_toArray, List.set_cons_zero, List.set_cons_succ]
        refine takeM 8 383 (v := Value.agg #[.slice p1 p2 p3, .slice p4 p5 p6]) (by kernel_rfl) rfl (by kernel_rfl) (fun _ _ _ h => h) (by rfl) (fun w' hSw => ?_) hHeld ?_
        · go_simp
        try simp only [Act.put, List.setIfInBounds_toArray, List.set_cons_zero, List.set_cons_succ]
        refine oneM 7 511 (by kernel_rfl) rfl (by kernel_rfl) (by rfl) (fun K hK => ?_)
        go_simp
        go_at_call 49
        refine (full_b (KHFA.out.near HNk2.out) HT1.out).mono ?_
        rintro e xk3 ⟨rfl, n'⟩
        have HNk3 := Lib.hid (HNk2.out.trans n')
        clear n'
        refine hK.out _ _ (HSKk.out _ HNk3.out) (fun hHeld => ?_)
        clear hK K
        try simp only [Act.put, List.setIfInBounds_toArray, List.set_cons_zero, List.set_cons_succ]
        refine oneM 9 1023 (by kernel_rfl) rfl (by kernel_rfl) (by rfl) (fun K hK => ?_)
        go_simp
        go_at_call 58
        refine (rfull_g (KHGP.out.near HNk3.out) HT1.out).mono ?_
        rintro e xk4 ⟨rfl, n'⟩
        have HNk4 := Lib.hid (HNk3.out.trans n')
        clear n'
        refine hK.out _ _ (HSKk.out _ HNk4.out) (fun hHeld => ?_)
        clear hK K
        try simp only [Act.put, List.setIfInBounds_toArray, List.set_cons_zero, List.set_cons_succ]
        refine takeM 10 2047 (v := Value.bool true) (by kernel_rfl) rfl (by kernel_rfl) (fun _ _ _ h => h) (by rfl) (fun w' hSw => ?_) hHeld ?_
        · go_simp
        try simp only [Act.put, List.setIfInBounds_toArray, List.set_cons_zero, List.set_cons_succ]
        refine takeM 11 4095 (v := Value.bool true) (by kernel_rfl) rfl (by kernel_rfl) (fun _ _ _ h => h) (by rfl) (fun w' hSw => ?_) hHeld ?_
        · go_simp
        try simp only [Act.put, List.setIfInBounds_toArray, List.set_cons_zero, List.set_cons_succ]
        refine takeM 12 8191 (v := Value.bool true) (by kernel_rfl) rfl (by kernel_rfl) (fun _ _ _ h => h) (by rfl) (fun w' hSw => ?_) hHeld ?_
        · go_simp
        try simp only [Act.put, List.setIfInBounds_toArray, List.set_cons_zero, List.set_cons_succ]
        refine takeM 13 16383 (v := Value.agg #[.slice a1 a2 a3, .int .i64 a4]) (by kernel_rfl) rfl (by kernel_rfl) (fun _ _ _ h => h) (by rfl) (fun w' hSw => ?_) hHeld ?_
        · go_simp
        try simp only [Act.put, List.setIfInBounds_toArray, List.set_cons_zero, List.set_cons_succ]
        refine takeM 14 32767 (v := Value.agg #[.slice b1 b2 b3, .int .i64 b4]) (by kernel_rfl) rfl (by kernel_rfl) (fun _ _ _ h => h) (by rfl) (fun w' hSw => ?_) hHeld ?_
        · go_simp
        try simp only [Act.put, List.setIfInBounds_toArray, List.set_cons_zero, List.set_cons_succ]
        refine takeM 16 98303 (v := Value.agg #[.slice p1 p2 p3, .slice p4 p5 p6]) (by kernel_rfl) rfl (by kernel_rfl) (fun _ _ _ h => h) (by rfl) (fun w' hSw => ?_) hHeld ?_
        · go_simp
        try simp only [Act.put, List.setIfInBounds_toArray, List.set_cons_zero, List.set_cons_succ]
        refine takeM 17 229375 (v := Value.agg #[.slice q1 q2 q3, .slice q4 q5 q6]) (by kernel_rfl) rfl (by kernel_rfl) (fun _ _ _ h => h) (by rfl) (fun w' hSw => ?_) hHeld ?_
        · go_simp
        try simp only [Act.put, List.setIfInBounds_toArray, List.set_cons_zero, List.set_cons_succ]
        refine oneM 15 262143 (by kernel_rfl) rfl (by kernel_rfl) (by rfl) (fun K hK => ?_)
        go_simp
        go_at_call 52
        refine (same_is (KHFA.out.near HNk4.out) (KHFB.out.near HNk4.out) HT2.out.symm).mono ?_
        rintro e xk5 ⟨rfl, n'⟩
        have HNk5 := Lib.hid (HNk4.out.trans n')
        clear n'
        refine hK.out _ _ (HSKk.out _ HNk5.out) (fun hHeld => ?_)
        clear hK K
        try simp only [Act.put, List.setIfInBounds_toArray, List.set_cons_zero, List.set_cons_succ]
        refine oneM 18 524287 (by kernel_rfl) rfl (by kernel_rfl) (by rfl) (fun K hK => ?_)
        go_simp
        go_at_call 59
        refine (rsame_g (KHGP.out.near HNk5.out) (KHGQ.out.near HNk5.out) HT2.out).mono ?_
        rintro e xk6 ⟨rfl, n'⟩
        have HNk6 := Lib.hid (HNk5.out.trans n')
        clear n'
        refine hK.out _ _ (HSKk.out _ HNk6.out) (fun hHeld => ?_)
        clear hK K
        try simp only [Act.put, List.setIfInBounds_toArray, List.set_cons_zero, List.set_cons_succ]
        refine takeM 19 1048575 (v := Value.bool true) (by kernel_rfl) rfl (by kernel_rfl) (fun _ _ _ h => h) (by rfl) (fun w' hSw => ?_) hHeld ?_
        · go_simp
        try simp only [Act.put, List.setIfInBounds_toArray, List.set_cons_zero, List.set_cons_succ]
        refine takeM 20 2097151 (v := Value.bool true) (by kernel_rfl) rfl (by kernel_rfl) (fun _ _ _ h => h) (by rfl) (fun w' hSw => ?_) hHeld ?_
        · go_simp
        try simp only [Act.put, List.setIfInBounds_toArray, List.set_cons_zero, List.set_cons_succ]
        refine takeM 21 4194303 (v := Value.bool true) (by kernel_rfl) rfl (by kernel_rfl) (fun _ _ _ h => h) (by rfl) (fun w' hSw => ?_) hHeld ?_
        · go_simp
        try simp only [Act.put, List.setIfInBounds_toArray, List.set_cons_zero, List.set_cons_succ]
        refine takeM 22 8388607 (v := Value.agg #[.slice a1 a2 a3, .int .i64 a4]) (by kernel_rfl) rfl (by kernel_rfl) (fun _ _ _ h => h) (by rfl) (fun w' hSw => ?_) hHeld ?_
        · go_simp
        try simp only [Act.put, List.setIfInBounds_toArray, List.set_cons_zero, List.set_cons_succ]
        refine takeM 23 16777215 (v := Value.agg #[.slice b1 b2 b3, .int .i64 b4]) (by kernel_rfl) rfl (by kernel_rfl) (fun _ _ _ h => h) (by rfl) (fun w' hSw => ?_) hHeld ?_
        · go_simp
        try simp only [Act.put, List.setIfInBounds_toArray, List.set_cons_zero, List.set_cons_succ]
        refine takeM 25 50331647 (v := Value.agg #[.slice r1 r2 r3, .slice r4 r5 r6]) (by kernel_rfl) rfl (by kernel_rfl) (fun _ _ _ h => h) (by rfl) (fun w' hSw => ?_) hHeld ?_
        · go_simp
        try simp only [Act.put, List.setIfInBounds_toArray, List.set_cons_zero, List.set_cons_succ]
        refine takeM 26 117440511 (v := Value.agg #[.slice p1 p2 p3, .slice p4 p5 p6]) (by kernel_rfl) rfl (by kernel_rfl) (fun _ _ _ h => h) (by rfl) (fun w' hSw => ?_) hHeld ?_
        · go_simp
        try simp only [Act.put, List.setIfInBounds_toArray, List.set_cons_zero, List.set_cons_succ]
        refine oneM 24 134217727 (by kernel_rfl) rfl (by kernel_rfl) (by rfl) (fun K hK => ?_)
        go_simp
        go_at_call 47
        refine (within_is (KHFA.out.near HNk6.out) (KHFB.out.near HNk6.out) HT3.out.symm).mono ?_
        rintro e xk7 ⟨rfl, n'⟩
        have HNk7 := Lib.hid (HNk6.out.trans n')
        clear n'
        refine hK.out _ _ (HSKk.out _ HNk7.out) (fun hHeld => ?_)
        clear hK K
        try simp only [Act.put, List.setIfInBounds_toArray, List.set_cons_zero, List.set_cons_succ]
        refine oneM 27 268435455 (by kernel_rfl) rfl (by kernel_rfl) (by rfl) (fun K hK => ?_)
        go_simp
        go_at_call 59
        refine (rsame_g (KHGR.out.near HNk7.out) (KHGP.out.near HNk7.out) HT3'.out).mono ?_
        rintro e xk8 ⟨rfl, n'⟩
        have HNk8 := Lib.hid (HNk7.out.trans n')
        clear n'
        refine hK.out _ _ (HSKk.out _ HNk8.out) (fun hHeld => ?_)
        clear hK K
        try simp only [Act.put, List.setIfInBounds_toArray, List.set_cons_zero, List.set_cons_succ]
        refine takeM 28 536870911 (v := Value.bool true) (by kernel_rfl) rfl (by kernel_rfl) (fun _ _ _ h => h) (by rfl) (fun w' hSw => ?_) hHeld ?_
        · go_simp
        try simp only [Act.put, List.setIfInBounds_toArray, List.set_cons_zero, List.set_cons_succ]
        refine takeM 29 1073741823 (v := Value.bool true) (by kernel_rfl) rfl (by kernel_rfl) (fun _ _ _ h => h) (by rfl) (fun w' hSw => ?_) hHeld ?_
        · go_simp
        try simp only [Act.put, List.setIfInBounds_toArray, List.set_cons_zero, List.set_cons_succ]
        refine takeM 30 2147483647 (v := Value.bool true) (by kernel_rfl) rfl (by kernel_rfl) (fun _ _ _ h => h) (by rfl) (fun w' hSw => ?_) hHeld ?_
        · go_simp
        try simp only [Act.put, List.setIfInBounds_toArray, List.set_cons_zero, List.set_cons_succ]
        refine takeM 31 4294967295 (v := Value.agg #[.slice a1 a2 a3, .int .i64 a4]) (by kernel_rfl) rfl (by kernel_rfl) (fun _ _ _ h => h) (by rfl) (fun w' hSw => ?_) hHeld ?_
        · go_simp
        try simp only [Act.put, List.setIfInBounds_toArray, List.set_cons_zero, List.set_cons_succ]
        refine takeM 32 8589934591 (v := Value.agg #[.slice b1 b2 b3, .int .i64 b4]) (by kernel_rfl) rfl (by kernel_rfl) (fun _ _ _ h => h) (by rfl) (fun w' hSw => ?_) hHeld ?_
        · go_simp
        try simp only [Act.put, List.setIfInBounds_toArray, List.set_cons_zero, List.set_cons_succ]
        refine takeM 34 25769803775 (v := Value.agg #[.slice r1 r2 r3, .slice r4 r5 r6]) (by kernel_rfl) rfl (by kernel_rfl) (fun _ _ _ h => h) (by rfl) (fun w' hSw => ?_) hHeld ?_
        · go_simp
        try simp only [Act.put, List.setIfInBounds_toArray, List.set_cons_zero, List.set_cons_succ]
        refine oneM 33 34359738367 (by kernel_rfl) rfl (by kernel_rfl) (by rfl) (fun K hK => ?_)
        go_simp
        go_at_call 53
        refine (meets_is (KHFA.out.near HNk8.out) (KHFB.out.near HNk8.out) HT4.out.symm).mono ?_
        rintro e xk9 ⟨rfl, n'⟩
        have HNk9 := Lib.hid (HNk8.out.trans n')
        clear n'
        refine hK.out _ _ (HSKk.out _ HNk9.out) (fun hHeld => ?_)
        clear hK K
        try simp only [Act.put, List.setIfInBounds_toArray, List.set_cons_zero, List.set_cons_succ]
        refine oneM 35 68719476735 (by kernel_rfl) rfl (by kernel_rfl) (by rfl) (fun K hK => ?_)
        go_simp
        go_at_call 57
        refine (rempty_g (KHGR.out.near HNk9.out) HT4.out).mono ?_
        rintro e xk10 ⟨rfl, n'⟩
        have HNk10 := Lib.hid (HNk9.out.trans n')
        clear n'
        refine hK.out _ _ (HSKk.out _ HNk10.out) (fun hHeld => ?_)
        clear hK K
        try simp only [Act.put, List.setIfInBounds_toArray, List.set_cons_zero, List.set_cons_succ]
        refine takeM 36 137438953471 (v := Value.bool (!t4)) (by kernel_rfl) rfl (by kernel_rfl) (fun _ _ _ h => h) (by rfl) (fun w' hSw => ?_) hHeld ?_
        · go_simp
        try simp only [Act.put, List.setIfInBounds_toArray, List.set_cons_zero, List.set_cons_succ]
        refine takeM 37 274877906943 (v := Value.bool true) (by kernel_rfl) rfl (by kernel_rfl) (fun _ _ _ h => h) (by rfl) (fun w' hSw => ?_) hHeld ?_
        · go_simp
        try simp only [Act.put, List.setIfInBounds_toArray, List.set_cons_zero, List.set_cons_succ]
        refine takeM 38 549755813887 (v := Value.bool true) (by kernel_rfl) rfl (by kernel_rfl) (fun _ _ _ h => h) (by rfl) (fun w' hSw => ?_) hHeld ?_
        · go_simp
        try simp only [Act.put, List.setIfInBounds_toArray, List.set_cons_zero, List.set_cons_succ]
        refine takeM 39 1099511627775 (v := Value.bool true) (by kernel_rfl) rfl (by kernel_rfl) (fun _ _ _ h => h) (by rfl) (fun w' hSw => ?_) hHeld ?_
        · go_simp
        try simp only [Act.put, List.setIfInBounds_toArray, List.set_cons_zero, List.set_cons_succ]
        refine takeM 40 2199023255551 (v := Value.agg #[.slice a1 a2 a3, .int .i64 a4]) (by kernel_rfl) rfl (by kernel_rfl) (fun _ _ _ h => h) (by rfl) (fun w' hSw => ?_) hHeld ?_
        · go_simp
        try simp only [Act.put, List.setIfInBounds_toArray, List.set_cons_zero, List.set_cons_succ]
        refine takeM 42 6597069766655 (v := Value.agg #[.slice p1 p2 p3, .slice p4 p5 p6]) (by kernel_rfl) rfl (by kernel_rfl) (fun _ _ _ h => h) (by rfl) (fun w' hSw => ?_) hHeld ?_
        · go_simp
        try simp only [Act.put, List.setIfInBounds_toArray, List.set_cons_zero, List.set_cons_succ]
        refine oneM 41 8796093022207 (by kernel_rfl) rfl (by kernel_rfl) (by rfl) (fun K hK => ?_)
        go_simp
        go_at_call 44
        refine (supp_is (KHFA.out.near HNk10.out) HSS.out).mono ?_
        rintro e xk11 ⟨rfl, n'⟩
        have HNk11 := Lib.hid (HNk10.out.trans n')
        clear n'
        refine hK.out _ _ (HSKk.out _ HNk11.out) (fun hHeld => ?_)
        clear hK K
        try simp only [Act.put, List.setIfInBounds_toArray, List.set_cons_zero, List.set_cons_succ]
        refine oneM 43 17592186044415 (by kernel_rfl) rfl (by kernel_rfl) (by rfl) (fun K hK => ?_)
        go_simp
        go_at_call 60
        refine (rsupp_says (KHGP.out.near HNk11.out) HSS.out).mono ?_
        rintro e xk12 ⟨rfl, n'⟩
        have HNk12 := Lib.hid (HNk11.out.trans n')
        clear n'
        refine hK.out _ _ (HSKk.out _ HNk12.out) (fun hHeld => ?_)
        clear hK K
        try simp only [Act.put, List.setIfInBounds_toArray, List.set_cons_zero, List.set_cons_succ]
        refine takeM 44 35184372088831 (v := Value.bool true) (by kernel_rfl) rfl (by kernel_rfl) (fun _ _ _ h => h) (by rfl) (fun w' hSw => ?_) hHeld ?_
        · go_simp
        try simp only [Act.put, List.setIfInBounds_toArray, List.set_cons_zero, List.set_cons_succ]
        refine takeM 45 70368744177663 (v := Value.bool true) (by kernel_rfl) rfl (by kernel_rfl) (fun _ _ _ h => h) (by rfl) (fun w' hSw => ?_) hHeld ?_
        · go_simp
        try simp only [Act.put, List.setIfInBounds_toArray, List.set_cons_zero, List.set_cons_succ]
        refine takeM 46 140737488355327 (v := Value.bool true) (by kernel_rfl) rfl (by kernel_rfl) (fun _ _ _ h => h) (by rfl) (fun w' hSw => ?_) hHeld ?_
        · go_simp
        try simp only [Act.put, List.setIfInBounds_toArray, List.set_cons_zero, List.set_cons_succ]
        refine takeM 47 281474976710655 (v := Value.int .u32 (on : Nat)) (by kernel_rfl) rfl (by kernel_rfl) (fun _ _ _ h => h) (by rfl) (fun w' hSw => ?_) hHeld ?_
        · go_simp
        try simp only [Act.put, List.setIfInBounds_toArray, List.set_cons_zero, List.set_cons_succ]
        refine takeM 48 562949953421311 (v := Value.int .u32 (on : Nat)) (by kernel_rfl) rfl (by kernel_rfl) (fun _ _ _ h => h) (by rfl) (fun w' hSw => ?_) hHeld ?_
        · go_simp
        try simp only [Act.put, List.setIfInBounds_toArray, List.set_cons_zero, List.set_cons_succ]
        refine takeM 49 1125899906842623 (v := Value.bool true) (by kernel_rfl) rfl (by kernel_rfl) (fun _ _ _ h => h) (by rfl) (fun w' hSw => ?_) hHeld ?_
        · go_simp
        try simp only [Act.put, List.setIfInBounds_toArray, List.set_cons_zero, List.set_cons_succ]
        refine takeM 50 2251799813685247 (v := Value.bool true) (by kernel_rfl) rfl (by kernel_rfl) (fun _ _ _ h => h) (by rfl) (fun w' hSw => ?_) hHeld ?_
        · go_simp
        try simp only [Act.put, List.setIfInBounds_toArray, List.set_cons_zero, List.set_cons_succ]
        refine takeM 51 4503599627370495 (v := Value.bool true) (by kernel_rfl) rfl (by kernel_rfl) (fun _ _ _ h => h) (by rfl) (fun w' hSw => ?_) hHeld ?_
        · go_simp
        try simp only [Act.put, List.setIfInBounds_toArray, List.set_cons_zero, List.set_cons_succ]
        refine takeM 52 9007199254740991 (v := Value.int .u32 (off : Nat)) (by kernel_rfl) rfl (by kernel_rfl) (fun _ _ _ h => h) (by rfl) (fun w' hSw => ?_) hHeld ?_
        · go_simp
        try simp only [Act.put, List.setIfInBounds_toArray, List.set_cons_zero, List.set_cons_succ]
        refine takeM 53 18014398509481983 (v := Value.int .u32 (off : Nat)) (by kernel_rfl) rfl (by kernel_rfl) (fun _ _ _ h => h) (by rfl) (fun w' hSw => ?_) hHeld ?_
        · go_simp
        try simp only [Act.put, List.setIfInBounds_toArray, List.set_cons_zero, List.set_cons_succ]
        refine takeM 54 36028797018963967 (v := Value.bool true) (by kernel_rfl) rfl (by kernel_rfl) (fun _ _ _ h => h) (by rfl) (fun w' hSw => ?_) hHeld ?_
        · go_simp
        try simp only [Act.put, List.setIfInBounds_toArray, List.set_cons_zero, List.set_cons_succ]
        refine takeM 55 72057594037927935 (v := Value.bool true) (by kernel_rfl) rfl (by kernel_rfl) (fun _ _ _ h => h) (by rfl) (fun w' hSw => ?_) hHeld ?_
        · go_simp
        try simp only [Act.put, List.setIfInBounds_toArray, List.set_cons_zero, List.set_cons_succ]
        refine takeM 56 144115188075855871 (v := Value.bool true) (by kernel_rfl) rfl (by kernel_rfl) (fun _ _ _ h => h) (by rfl) (fun w' hSw => ?_) hHeld ?_
        · go_simp
        try simp only [Act.put, List.setIfInBounds_toArray, List.set_cons_zero, List.set_cons_succ]
        refine oneM 57 288230376151711743 (by kernel_rfl) rfl (by kernel_rfl) (by rfl) (fun K hK => ?_)
        go_simp
        go_at_call 17
        refine (wakes_calls _).mono ?_
        rintro e xk13 ⟨rfl, n'⟩
        have HNk13 := Lib.hid (HNk12.out.trans n')
        clear n'
        refine hK.out _ _ (HSKk.out _ HNk13.out) (fun hHeld => ?_)
        clear hK K
        try simp only [Act.put, List.setIfInBounds_toArray, List.set_cons_zero, List.set_cons_succ]
        refine takeM 58 576460752303423487 (v := Value.bool true) (by kernel_rfl) rfl (by kernel_rfl) (fun _ _ _ h => h) (by rfl) (fun w' hSw => ?_) hHeld ?_
        · go_simp
        try simp only [Act.put, List.setIfInBounds_toArray, List.set_cons_zero, List.set_cons_succ]
        refine takeM 59 1152921504606846975 (v := Value.bool true) (by kernel_rfl) rfl (by kernel_rfl) (fun _ _ _ h => h) (by rfl) (fun w' hSw => ?_) hHeld ?_
        · go_simp
        try simp only [Act.put, List.setIfInBounds_toArray, List.set_cons_zero, List.set_cons_succ]
        refine doneM (by kernel_rfl) ?_
        refine NoPanic.normal ?_
        go_wp2_with fail
        go_ret
        exact ⟨rfl, HNW.out.trans HNk13.out⟩

end Go.Proofs.Ytefclohjeompkaa
