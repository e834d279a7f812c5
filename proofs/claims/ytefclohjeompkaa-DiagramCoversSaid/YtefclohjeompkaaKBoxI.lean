/- Parts of a proof: StepsB, BoxI. -/
import Derived.Test.YtefclohjeompkaaKTwoG
/- Steps of a region whose state is not written out. Over any program. -/
namespace Go.Proofs.Ytefclohjeompkaa
open Go Go.RowKit Go.Shelf Go.Proofs.Gen

/-- A call of a function, as one step. -/
theorem step_call {P : Program} {w : World} {ops : Array Oper} {o : Oper} {a : Act} {K : Act → World → Prop} {Q : Exit → Act → World → Prop} {E : Prop}
    (hg : o.guard = none) (f : FuncId) (args : Array Operand) (tys : Array TypeId) (hop : o.op = Op.call { callee := Callee.value (Operand.func f), args := args, argTypes := tys })
    (hent : ∀ (vs : Array Value) (w : World), (callFunc f vs).run P w = .ok (.enter f vs) w) (vs : Array Value) (hvs : args.map a.eval = vs) {R : Value → World → Prop}
    (hcall : Calls P f vs w fun e w' => ∃ v, e = .returned v ∧ R v w') (hK : ∀ v w', R v w' → K (a.put o.dst v) w') :
    if Region.wanted o (yielded ops a.tmps) = true then Oper.wp P o a w K Q else E := by
  have hw : Region.wanted o (yielded ops a.tmps) = true := by simp [Region.wanted, hg]
  rw [if_pos hw]
  have he : (execOp a.eval o).run P w = .ok (.enter f vs) w := by
    unfold execOp
    simp only [hop, resolve, Deferred.ofValue, hvs, Act.eval, invoke, Sem.run_bind, Sem.run_pure, Result.andThen_ok, hent, Array.append_empty, Array.empty_append]
  unfold Oper.wp
  rw [he, Oper.upon_enter]
  refine hcall.mono ?_
  rintro e w' ⟨v, rfl, h⟩
  exact hK v w' h

/-- A slot's value, as the walk reads it. -/
theorem slot_of {a : Act} {s : Nat} {v : Value} (h : a.eval (.tmp s) = v) : a.tmps[s]?.getD undef = v := by
  rw [← h]
  simp [Act.eval]

end Go.Proofs.Ytefclohjeompkaa

/- The state between operations that yield known values, with one box that is filled at the end. Over any program. -/
namespace Go.Proofs.Ytefclohjeompkaa
open Go Go.RowKit Go.Shelf Go.Proofs.Gen

structure BoxI (vs : List (Nat × Value)) (a s : Nat) (zero full : Array Value) (e : TypeId) (w0 : World) (p : Nat → Bool) (env : Nat → Value) (w : World) : Prop where
  near : Near w0 w
  vals : ∀ x ∈ vs, p x.1 = true → env x.1 = x.2
  box : p a = true → ∃ b, env a = .pointer (some ⟨b, 0, none⟩) ∧ w0.heap.size ≤ b ∧ w.heap[b]? = some (.cells (if p s = true then full else zero) e (0, 0))
  last : p s = true → p a = true

section
variable {vs : List (Nat × Value)} {a s : Nat} {zero full : Array Value} {e : TypeId} {w0 w w' : World} {p : Nat → Bool} {env : Nat → Value}

theorem BoxI.start (hv : (vs.all fun x => !p x.1) = true) (ha : p a = false) (hs : p s = false) (hn : Near w0 w) : BoxI vs a s zero full e w0 p env w := by
  refine ⟨hn, fun x hx hp => ?_, fun h => ?_, fun h => ?_⟩
  · have := List.all_eq_true.1 hv x hx
    rw [hp] at this
    cases this
  · rw [ha] at h; cases h
  · rw [hs] at h; cases h

/-- One known value more. -/
theorem BoxI.val (h : BoxI vs a s zero full e w0 p env w) {i : Nat} {v : Value} (hi : ∀ x ∈ vs, x.1 = i → x.2 = v) (hs : s ≠ i) (ha : a ≠ i) (hn : Near w w') : BoxI vs a s zero full e w0 (upB p i) (upV env i v) w' := by
  refine ⟨h.near.trans hn, fun x hx hp => ?_, fun hp => ?_, fun hp => ?_⟩
  · by_cases e : x.1 = i
    · rw [e, upV_same, hi x hx e]
    · rw [upB_ne _ e] at hp
      rw [upV_ne _ _ e]
      exact h.vals x hx hp
  · rw [upB_ne _ ha] at hp
    rw [upB_ne _ hs, upV_ne _ _ ha]
    obtain ⟨b, h1, h2, h3⟩ := h.box hp
    exact ⟨b, h1, h2, keepN hn h3⟩
  · rw [upB_ne _ hs] at hp
    rw [upB_ne _ ha]
    exact h.last hp

/-- The box is laid. -/
theorem BoxI.lay (h : BoxI vs a s zero full e w0 p env w) (hp : p a = false) (ha : ∀ x ∈ vs, x.1 ≠ a) (hsa : s ≠ a) : BoxI vs a s zero full e w0 (upB p a) (upV env a (.pointer (some ⟨w.heap.size, 0, none⟩))) (w.alloc (.cells zero e)) := by
  have hn : Near w (w.alloc (.cells zero e)) := (Near.refl w).alloc _
  have hs : p s = false := by
    cases hs : p s with
    | false => rfl
    | true => rw [h.last hs] at hp; cases hp
  refine ⟨h.near.trans hn, fun x hx hp => ?_, fun _ => ?_, fun hp => ?_⟩
  · rw [upB_ne _ (ha x hx)] at hp
    rw [upV_ne _ _ (ha x hx)]
    exact h.vals x hx hp
  · rw [upB_ne _ hsa, hs, upV_same]
    exact ⟨_, rfl, h.near.size', heap_new_at rfl⟩
  · rw [upB_ne _ hsa, hs] at hp; cases hp

/-- The box is filled. -/
theorem BoxI.fill (h : BoxI vs a s zero full e w0 p env w) (hpa : p a = true) (hps : p s = false) (ha : ∀ x ∈ vs, x.1 ≠ s) (hsa : s ≠ a) :
    ∃ b, env a = .pointer (some ⟨b, 0, none⟩) ∧ w.heap[b]? = some (.cells zero e (0, 0)) ∧ ∀ u w', Kept (fun k => k = b) w w' → w'.heap[b]? = some (.cells full e (0, 0)) → BoxI vs a s zero full e w0 (upB p s) (upV env s u) w' := by
  obtain ⟨b, h1, h2, h3⟩ := h.box hpa
  rw [hps] at h3
  refine ⟨b, h1, h3, fun u w' hk hf => ⟨Kept.mono (h.near.kept.trans hk) (fun k hk e => by omega), fun x hx hp => ?_, fun _ => ?_, fun _ => ?_⟩⟩
  · rw [upB_ne _ (ha x hx)] at hp
    rw [upV_ne _ _ (ha x hx)]
    exact h.vals x hx hp
  · rw [upB_same, upV_ne _ _ (Ne.symm hsa)]
    exact ⟨b, h1, h2, hf⟩
  · rw [upB_ne _ (Ne.symm hsa)]
    exact hpa
end

end Go.Proofs.Ytefclohjeompkaa
