/- The state between operations that lay and fill several boxes; operations 20 to 23 by number. Over any program. -/
import Derived.Test.YtefclohjeompkaaKBoxI
namespace Go.Proofs.Ytefclohjeompkaa
open Go Go.RowKit Go.Shelf Go.Proofs.Gen

/-- A box: laid by operation a, filled by operation s. -/
structure BoxD where
  a : Nat
  s : Nat
  zero : Array Value
  full : Array Value
  e : TypeId

structure BoxN (bs : List BoxD) (w0 : World) (p : Nat → Bool) (env : Nat → Value) (w : World) : Prop where
  near : Near w0 w
  box : ∀ d ∈ bs, p d.a = true → ∃ b, env d.a = .pointer (some ⟨b, 0, none⟩) ∧ w0.heap.size ≤ b ∧ w.heap[b]? = some (.cells (if p d.s = true then d.full else d.zero) d.e (0, 0))
  last : ∀ d ∈ bs, p d.s = true → p d.a = true
  apart : ∀ d ∈ bs, ∀ d' ∈ bs, d.a ≠ d'.a → p d.a = true → p d'.a = true → env d.a ≠ env d'.a

section
variable {bs : List BoxD} {w0 w w' : World} {p : Nat → Bool} {env : Nat → Value}

theorem BoxN.start (ha : ∀ d ∈ bs, p d.a = false) (hs : ∀ d ∈ bs, p d.s = false) (hn : Near w0 w) : BoxN bs w0 p env w := by
  refine ⟨hn, fun d hd h => ?_, fun d hd h => ?_, fun d hd d' hd' _ h => ?_⟩
  · rw [ha d hd] at h; cases h
  · rw [hs d hd] at h; cases h
  · rw [ha d hd] at h; cases h

theorem BoxN.lay (h : BoxN bs w0 p env w) {d0 : BoxD} (h0 : d0 ∈ bs) (hp : p d0.a = false) (hu : ∀ d ∈ bs, d.a = d0.a → d = d0) (hs : ∀ d ∈ bs, d.s ≠ d0.a) :
    BoxN bs w0 (upB p d0.a) (upV env d0.a (.pointer (some ⟨w.heap.size, 0, none⟩))) (w.alloc (.cells d0.zero d0.e)) := by
  have hn : Near w (w.alloc (.cells d0.zero d0.e)) := (Near.refl w).alloc _
  have lt : ∀ d ∈ bs, p d.a = true → ∀ b, env d.a = .pointer (some ⟨b, 0, none⟩) → b < w.heap.size := fun d hd hpd b e => by
    obtain ⟨b', h1, _, h3⟩ := h.box d hd hpd
    rw [h1] at e
    cases e
    exact (Array.getElem?_eq_some_iff.1 h3).1
  refine ⟨h.near.trans hn, fun d hd hpd => ?_, fun d hd hps => ?_, fun d hd d' hd' hne h1 h2 => ?_⟩
  · rw [upB_ne _ (hs d hd)]
    by_cases e : d.a = d0.a
    · obtain rfl := hu d hd e
      have hq : p d.s = false := by
        cases hq : p d.s with
        | false => rfl
        | true => rw [h.last d hd hq] at hp; cases hp
      rw [hq, upV_same]
      exact ⟨_, rfl, h.near.size', heap_new_at rfl⟩
    · rw [upB_ne _ e] at hpd
      rw [upV_ne _ _ e]
      obtain ⟨b, h1, h2, h3⟩ := h.box d hd hpd
      exact ⟨b, h1, h2, keepN hn h3⟩
  · rw [upB_ne _ (hs d hd)] at hps
    by_cases e : d.a = d0.a
    · rw [e, upB_same]
    · rw [upB_ne _ e]
      exact h.last d hd hps
  · by_cases e : d.a = d0.a
    · have e' : d'.a ≠ d0.a := fun e' => hne (e.trans e'.symm)
      rw [e, upV_same, upV_ne _ _ e']
      rw [upB_ne _ e'] at h2
      intro hh
      have := lt d' hd' h2 _ hh.symm
      omega
    · by_cases e' : d'.a = d0.a
      · rw [e', upV_same, upV_ne _ _ e]
        rw [upB_ne _ e] at h1
        intro hh
        have := lt d hd h1 _ hh
        omega
      · rw [upV_ne _ _ e, upV_ne _ _ e']
        rw [upB_ne _ e] at h1
        rw [upB_ne _ e'] at h2
        exact h.apart d hd d' hd' hne h1 h2

theorem BoxN.fill (h : BoxN bs w0 p env w) {d0 : BoxD} (h0 : d0 ∈ bs) (hpa : p d0.a = true) (hps : p d0.s = false) (ha : ∀ d ∈ bs, d.a ≠ d0.s) (hu : ∀ d ∈ bs, d.s = d0.s ∨ d.a = d0.a → d = d0) :
    ∃ b, env d0.a = .pointer (some ⟨b, 0, none⟩) ∧ w.heap[b]? = some (.cells d0.zero d0.e (0, 0)) ∧ ∀ u w', Kept (fun k => k = b) w w' → w'.heap[b]? = some (.cells d0.full d0.e (0, 0)) → BoxN bs w0 (upB p d0.s) (upV env d0.s u) w' := by
  obtain ⟨b, h1, h2, h3⟩ := h.box d0 h0 hpa
  rw [hps] at h3
  refine ⟨b, h1, h3, fun u w' hk hf => ⟨Kept.mono (h.near.kept.trans hk) (fun k hk e => by omega), fun d hd hpd => ?_, fun d hd hq => ?_, fun d hd d' hd' hne g1 g2 => ?_⟩⟩
  · rw [upB_ne _ (ha d hd)] at hpd
    rw [upV_ne _ _ (ha d hd)]
    by_cases e : d.s = d0.s
    · obtain rfl := hu d hd (.inl e)
      rw [upB_same]
      exact ⟨b, h1, h2, hf⟩
    · rw [upB_ne _ e]
      obtain ⟨b', k1, k2, k3⟩ := h.box d hd hpd
      refine ⟨b', k1, k2, ?_⟩
      have hbb : b' ≠ b := by
        rintro rfl
        have hda : d.a ≠ d0.a := fun e' => e (congrArg BoxD.s (hu d hd (.inr e')))
        exact h.apart d hd d0 h0 hda hpd hpa (k1.trans h1.symm)
      exact (hk.block b' (Array.getElem?_eq_some_iff.1 k3).1 hbb).trans k3
  · rw [upB_ne _ (ha d hd)]
    by_cases e : d.s = d0.s
    · obtain rfl := hu d hd (.inl e)
      exact hpa
    · rw [upB_ne _ e] at hq
      exact h.last d hd hq
  · rw [upB_ne _ (ha d hd)] at g1
    rw [upB_ne _ (ha d' hd')] at g2
    rw [upV_ne _ _ (ha d hd), upV_ne _ _ (ha d' hd')]
    exact h.apart d hd d' hd' hne g1 g2
end

section
variable {P : Program} {Q : Exit → Act → World → Prop} {md : Region.Mode} {S : World → Prop} {z : Nat}

theorem stepI20 {x0 x1 x2 x3 x4 x5 x6 x7 x8 x9 x10 x11 x12 x13 x14 x15 x16 x17 x18 x19 : Oper} {ds : List (Nat × Option Tmp)} {a0 : Act} {I : (Nat → Bool) → (Nat → Value) → World → Prop} {d : Option Tmp} {oi : Oper} {r : List Oper} {l : List (Nat × Option Tmp)} (deps : List Nat) (hdeps : (deps.all fun j => oi.after.any fun e => Region.binds md e && e.on == j) = true)
    (h : ∀ p env w, p 20 = false → deps.all p = true → I p env w → ∀ K' : Act → World → Prop, Shut (∀ v w', (20 = z ∨ S w') → I (upB p 20) (upV env 20 v) w' → K' ((actOf ds p env a0).put oi.dst v) w') →
      if Region.wanted oi (yielded (List.toArray (x0 :: x1 :: x2 :: x3 :: x4 :: x5 :: x6 :: x7 :: x8 :: x9 :: x10 :: x11 :: x12 :: x13 :: x14 :: x15 :: x16 :: x17 :: x18 :: x19 :: oi :: r)) (actOf ds p env a0).tmps) = true then Oper.wp P oi (actOf ds p env a0) w K' Q else K' ((actOf ds p env a0).put oi.dst undef) w)
    (hs : StepsI P md Q S z (List.toArray (x0 :: x1 :: x2 :: x3 :: x4 :: x5 :: x6 :: x7 :: x8 :: x9 :: x10 :: x11 :: x12 :: x13 :: x14 :: x15 :: x16 :: x17 :: x18 :: x19 :: oi :: r)) ds a0 I l) : StepsI P md Q S z (List.toArray (x0 :: x1 :: x2 :: x3 :: x4 :: x5 :: x6 :: x7 :: x8 :: x9 :: x10 :: x11 :: x12 :: x13 :: x14 :: x15 :: x16 :: x17 :: x18 :: x19 :: oi :: r)) ds a0 I ((20, d) :: l) := StepsI.cons deps rfl hdeps h hs
theorem stepI21 {x0 x1 x2 x3 x4 x5 x6 x7 x8 x9 x10 x11 x12 x13 x14 x15 x16 x17 x18 x19 x20 : Oper} {ds : List (Nat × Option Tmp)} {a0 : Act} {I : (Nat → Bool) → (Nat → Value) → World → Prop} {d : Option Tmp} {oi : Oper} {r : List Oper} {l : List (Nat × Option Tmp)} (deps : List Nat) (hdeps : (deps.all fun j => oi.after.any fun e => Region.binds md e && e.on == j) = true)
    (h : ∀ p env w, p 21 = false → deps.all p = true → I p env w → ∀ K' : Act → World → Prop, Shut (∀ v w', (21 = z ∨ S w') → I (upB p 21) (upV env 21 v) w' → K' ((actOf ds p env a0).put oi.dst v) w') →
      if Region.wanted oi (yielded (List.toArray (x0 :: x1 :: x2 :: x3 :: x4 :: x5 :: x6 :: x7 :: x8 :: x9 :: x10 :: x11 :: x12 :: x13 :: x14 :: x15 :: x16 :: x17 :: x18 :: x19 :: x20 :: oi :: r)) (actOf ds p env a0).tmps) = true then Oper.wp P oi (actOf ds p env a0) w K' Q else K' ((actOf ds p env a0).put oi.dst undef) w)
    (hs : StepsI P md Q S z (List.toArray (x0 :: x1 :: x2 :: x3 :: x4 :: x5 :: x6 :: x7 :: x8 :: x9 :: x10 :: x11 :: x12 :: x13 :: x14 :: x15 :: x16 :: x17 :: x18 :: x19 :: x20 :: oi :: r)) ds a0 I l) : StepsI P md Q S z (List.toArray (x0 :: x1 :: x2 :: x3 :: x4 :: x5 :: x6 :: x7 :: x8 :: x9 :: x10 :: x11 :: x12 :: x13 :: x14 :: x15 :: x16 :: x17 :: x18 :: x19 :: x20 :: oi :: r)) ds a0 I ((21, d) :: l) := StepsI.cons deps rfl hdeps h hs
theorem stepI22 {x0 x1 x2 x3 x4 x5 x6 x7 x8 x9 x10 x11 x12 x13 x14 x15 x16 x17 x18 x19 x20 x21 : Oper} {ds : List (Nat × Option Tmp)} {a0 : Act} {I : (Nat → Bool) → (Nat → Value) → World → Prop} {d : Option Tmp} {oi : Oper} {r : List Oper} {l : List (Nat × Option Tmp)} (deps : List Nat) (hdeps : (deps.all fun j => oi.after.any fun e => Region.binds md e && e.on == j) = true)
    (h : ∀ p env w, p 22 = false → deps.all p = true → I p env w → ∀ K' : Act → World → Prop, Shut (∀ v w', (22 = z ∨ S w') → I (upB p 22) (upV env 22 v) w' → K' ((actOf ds p env a0).put oi.dst v) w') →
      if Region.wanted oi (yielded (List.toArray (x0 :: x1 :: x2 :: x3 :: x4 :: x5 :: x6 :: x7 :: x8 :: x9 :: x10 :: x11 :: x12 :: x13 :: x14 :: x15 :: x16 :: x17 :: x18 :: x19 :: x20 :: x21 :: oi :: r)) (actOf ds p env a0).tmps) = true then Oper.wp P oi (actOf ds p env a0) w K' Q else K' ((actOf ds p env a0).put oi.dst undef) w)
    (hs : StepsI P md Q S z (List.toArray (x0 :: x1 :: x2 :: x3 :: x4 :: x5 :: x6 :: x7 :: x8 :: x9 :: x10 :: x11 :: x12 :: x13 :: x14 :: x15 :: x16 :: x17 :: x18 :: x19 :: x20 :: x21 :: oi :: r)) ds a0 I l) : StepsI P md Q S z (List.toArray (x0 :: x1 :: x2 :: x3 :: x4 :: x5 :: x6 :: x7 :: x8 :: x9 :: x10 :: x11 :: x12 :: x13 :: x14 :: x15 :: x16 :: x17 :: x18 :: x19 :: x20 :: x21 :: oi :: r)) ds a0 I ((22, d) :: l) := StepsI.cons deps rfl hdeps h hs
theorem stepI23 {x0 x1 x2 x3 x4 x5 x6 x7 x8 x9 x10 x11 x12 x13 x14 x15 x16 x17 x18 x19 x20 x21 x22 : Oper} {ds : List (Nat × Option Tmp)} {a0 : Act} {I : (Nat → Bool) → (Nat → Value) → World → Prop} {d : Option Tmp} {oi : Oper} {r : List Oper} {l : List (Nat × Option Tmp)} (deps : List Nat) (hdeps : (deps.all fun j => oi.after.any fun e => Region.binds md e && e.on == j) = true)
    (h : ∀ p env w, p 23 = false → deps.all p = true → I p env w → ∀ K' : Act → World → Prop, Shut (∀ v w', (23 = z ∨ S w') → I (upB p 23) (upV env 23 v) w' → K' ((actOf ds p env a0).put oi.dst v) w') →
      if Region.wanted oi (yielded (List.toArray (x0 :: x1 :: x2 :: x3 :: x4 :: x5 :: x6 :: x7 :: x8 :: x9 :: x10 :: x11 :: x12 :: x13 :: x14 :: x15 :: x16 :: x17 :: x18 :: x19 :: x20 :: x21 :: x22 :: oi :: r)) (actOf ds p env a0).tmps) = true then Oper.wp P oi (actOf ds p env a0) w K' Q else K' ((actOf ds p env a0).put oi.dst undef) w)
    (hs : StepsI P md Q S z (List.toArray (x0 :: x1 :: x2 :: x3 :: x4 :: x5 :: x6 :: x7 :: x8 :: x9 :: x10 :: x11 :: x12 :: x13 :: x14 :: x15 :: x16 :: x17 :: x18 :: x19 :: x20 :: x21 :: x22 :: oi :: r)) ds a0 I l) : StepsI P md Q S z (List.toArray (x0 :: x1 :: x2 :: x3 :: x4 :: x5 :: x6 :: x7 :: x8 :: x9 :: x10 :: x11 :: x12 :: x13 :: x14 :: x15 :: x16 :: x17 :: x18 :: x19 :: x20 :: x21 :: x22 :: oi :: r)) ds a0 I ((23, d) :: l) := StepsI.cons deps rfl hdeps h hs
end

end Go.Proofs.Ytefclohjeompkaa
