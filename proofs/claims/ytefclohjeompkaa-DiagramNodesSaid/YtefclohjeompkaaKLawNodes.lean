/- Parts of a proof: StepsB, BoxI, AppI, ThruC, RNod, LawNodes. -/
import Derived.Test.YtefclohjeompkaaKTwoG
import Derived.Test.YtefclohjeompkaaKBothA
import Derived.Test.YtefclohjeompkaaKRefV
import Derived.Test.YtefclohjeompkaaKThruB
import Derived.Test.YtefclohjeompkaaKSaidA
import Derived.Test.YtefclohjeompkaaKLawCounts
/- Steps of a region whose state is not written out. Over any program. -/
namespace Go.Proofs.Ytefclohjeompkaa
open Go Go.RowKit Go.Shelf Go.Proofs.Gen

/-- A call of a function, as one step. -/
theorem step_call {P : Program} {w : World} {ops : Array Oper} {o : Oper} {a : Act} {K : Act → World → Prop} {Q : Exit → Act → World → Prop} {E : Prop}
    (hg : o.guard = none) (f : FuncId) (args : Array Operand) (tys : Array TypeId) (hop : o.op = Op.call { callee := Callee.value (Operand.func f), args := args, argTypes := tys })
    (hent : ∀ (vs : Array Value) (w : World), (callFunc f vs).run P w = .ok (.enter f vs) w) (vs : Array Value) (hvs : args.map a.eval = vs) {R : Value → World → Prop}
    (hcall : Calls P f vs w fun e w' => ∃ v, e = .returned v ∧ R v w') (hK : ∀ v w', R v w' → K (a.put o.dst v) w') :
    if Region.wanted o (yielded ops a.tmps) = true then Oper.wp P o a w K Q else E := by
  have hw : Region.wanted o (yielded ops a.tmps) = true := by simp [Region.wanted, hg]
  rw [if_pos hw]
  have he : (execOp a.eval o).run P w = .ok (.enter f vs) w := by
    unfold execOp
    simp only [hop, resolve, Deferred.ofValue, hvs, Act.eval, invoke, Sem.run_bind, Sem.run_pure, Result.andThen_ok, hent, Array.append_empty, Array.empty_append]
  unfold Oper.wp
  rw [he, Oper.upon_enter]
  refine hcall.mono ?_
  rintro e w' ⟨v, rfl, h⟩
  exact hK v w' h

/-- A slot's value, as the walk reads it. -/
theorem slot_of {a : Act} {s : Nat} {v : Value} (h : a.eval (.tmp s) = v) : a.tmps[s]?.getD undef = v := by
  rw [← h]
  simp [Act.eval]

end Go.Proofs.Ytefclohjeompkaa

/- The state between operations that yield known values, with one box that is filled at the end. Over any program. -/
namespace Go.Proofs.Ytefclohjeompkaa
open Go Go.RowKit Go.Shelf Go.Proofs.Gen

structure BoxI (vs : List (Nat × Value)) (a s : Nat) (zero full : Array Value) (e : TypeId) (w0 : World) (p : Nat → Bool) (env : Nat → Value) (w : World) : Prop where
  near : Near w0 w
  vals : ∀ x ∈ vs, p x.1 = true → env x.1 = x.2
  box : p a = true → ∃ b, env a = .pointer (some ⟨b, 0, none⟩) ∧ w0.heap.size ≤ b ∧ w.heap[b]? = some (.cells (if p s = true then full else zero) e (0, 0))
  last : p s = true → p a = true

section
variable {vs : List (Nat × Value)} {a s : Nat} {zero full : Array Value} {e : TypeId} {w0 w w' : World} {p : Nat → Bool} {env : Nat → Value}

theorem BoxI.start (hv : (vs.all fun x => !p x.1) = true) (ha : p a = false) (hs : p s = false) (hn : Near w0 w) : BoxI vs a s zero full e w0 p env w := by
  refine ⟨hn, fun x hx hp => ?_, fun h => ?_, fun h => ?_⟩
  · have := List.all_eq_true.1 hv x hx
    rw [hp] at this
    cases this
  · rw [ha] at h; cases h
  · rw [hs] at h; cases h

/-- One known value more. -/
theorem BoxI.val (h : BoxI vs a s zero full e w0 p env w) {i : Nat} {v : Value} (hi : ∀ x ∈ vs, x.1 = i → x.2 = v) (hs : s ≠ i) (ha : a ≠ i) (hn : Near w w') : BoxI vs a s zero full e w0 (upB p i) (upV env i v) w' := by
  refine ⟨h.near.trans hn, fun x hx hp => ?_, fun hp => ?_, fun hp => ?_⟩
  · by_cases e : x.1 = i
    · rw [e, upV_same, hi x hx e]
    · rw [upB_ne _ e] at hp
      rw [upV_ne _ _ e]
      exact h.vals x hx hp
  · rw [upB_ne _ ha] at hp
    rw [upB_ne _ hs, upV_ne _ _ ha]
    obtain ⟨b, h1, h2, h3⟩ := h.box hp
    exact ⟨b, h1, h2, keepN hn h3⟩
  · rw [upB_ne _ hs] at hp
    rw [upB_ne _ ha]
    exact h.last hp

/-- The box is laid. -/
theorem BoxI.lay (h : BoxI vs a s zero full e w0 p env w) (hp : p a = false) (ha : ∀ x ∈ vs, x.1 ≠ a) (hsa : s ≠ a) : BoxI vs a s zero full e w0 (upB p a) (upV env a (.pointer (some ⟨w.heap.size, 0, none⟩))) (w.alloc (.cells zero e)) := by
  have hn : Near w (w.alloc (.cells zero e)) := (Near.refl w).alloc _
  have hs : p s = false := by
    cases hs : p s with
    | false => rfl
    | true => rw [h.last hs] at hp; cases hp
  refine ⟨h.near.trans hn, fun x hx hp => ?_, fun _ => ?_, fun hp => ?_⟩
  · rw [upB_ne _ (ha x hx)] at hp
    rw [upV_ne _ _ (ha x hx)]
    exact h.vals x hx hp
  · rw [upB_ne _ hsa, hs, upV_same]
    exact ⟨_, rfl, h.near.size', heap_new_at rfl⟩
  · rw [upB_ne _ hsa, hs] at hp; cases hp

/-- The box is filled. -/
theorem BoxI.fill (h : BoxI vs a s zero full e w0 p env w) (hpa : p a = true) (hps : p s = false) (ha : ∀ x ∈ vs, x.1 ≠ s) (hsa : s ≠ a) :
    ∃ b, env a = .pointer (some ⟨b, 0, none⟩) ∧ w.heap[b]? = some (.cells zero e (0, 0)) ∧ ∀ u w', Kept (fun k => k = b) w w' → w'.heap[b]? = some (.cells full e (0, 0)) → BoxI vs a s zero full e w0 (upB p s) (upV env s u) w' := by
  obtain ⟨b, h1, h2, h3⟩ := h.box hpa
  rw [hps] at h3
  refine ⟨b, h1, h3, fun u w' hk hf => ⟨Kept.mono (h.near.kept.trans hk) (fun k hk e => by omega), fun x hx hp => ?_, fun _ => ?_, fun _ => ?_⟩⟩
  · rw [upB_ne _ (ha x hx)] at hp
    rw [upV_ne _ _ (ha x hx)]
    exact h.vals x hx hp
  · rw [upB_same, upV_ne _ _ (Ne.symm hsa)]
    exact ⟨b, h1, h2, hf⟩
  · rw [upB_ne _ (Ne.symm hsa)]
    exact hpa
end

end Go.Proofs.Ytefclohjeompkaa

/- The state between the operations of 'S{append(append(nil, a..), x), append(append(nil, b..), y)}', stored into a box at the end. Over any program. -/
namespace Go.Proofs.Ytefclohjeompkaa
open Go Go.RowKit Go.Shelf Go.Proofs.Gen

theorem srcOf_owns {w : World} {base e size n : Nat} {v : Value} {xs : List Value} (h : w.ownsRow base e size v n xs) : SrcOf w size n v xs := by
  refine ⟨h.1, ?_⟩
  rcases h.2 with ⟨rfl, rfl⟩ | ⟨g, cap, cur, rfl, hb, hg, r⟩
  · exact .inl ⟨rfl, rfl⟩
  · exact .inr ⟨⟨g, 0, none⟩, cap, rfl, World.ownsRow.cells (g := g) ⟨h.1, .inr ⟨g, cap, cur, rfl, hb, hg, r⟩⟩ rfl⟩

theorem grown_near {w w' : World} (h : w.grownBy w' none) : Near w w' := Kept.grown (Kept.refl _ w) h (fun k hk _ => by cases hk)
theorem grown_only {w w' : World} {base e size n : Nat} {v : Value} {xs : List Value} (h : w.grownBy w' v.ownBlock) (hr : w.ownsRow base e size v n xs) : OnlyOf e w w' := by
  refine ⟨fun k => v.ownBlock = some k, Kept.grown (Kept.refl _ w) h (fun k hk _ => hk), fun k hk hR => ?_⟩
  rcases hr.2 with ⟨rfl, _⟩ | ⟨g, cap, cur, rfl, _, hg', _⟩
  · cases hR
  · cases hR
    exact ⟨cur, _, hg'⟩
theorem grown_near0 {w0 w w' : World} {e size n : Nat} {v : Value} {xs : List Value} (hn : Near w0 w) (h : w.grownBy w' v.ownBlock) (hr : w.ownsRow w0.heap.size e size v n xs) : Near w0 w' :=
  Kept.grown hn h (fun k hk hlt => absurd (hr.lt k hk).1 (by omega))

structure AppI (eA sA nA : Nat) (xsA : List Value) (newA : Array Value) (eB sB nB : Nat) (xsB : List Value) (newB : Array Value) (b4 : Nat) (w0 : World) (p : Nat → Bool) (env : Nat → Value) (w : World) : Prop where
  near : p 13 = false → Near w0 w
  a1 : p 2 = true → p 5 = false → w.ownsRow w0.heap.size eA sA (env 2) nA xsA
  a2 : p 4 = true → p 5 = false → ∃ b, env 4 = .slice (some ⟨b, 0, none⟩) 1 1 ∧ w0.heap.size ≤ b ∧ w.heap[b]? = some (.cells newA eA (0, 0))
  a3 : p 5 = true → p 13 = false → w.ownsRow w0.heap.size eA sA (env 5) (nA + 1) (xsA ++ newA.toList)
  b1 : p 8 = true → p 11 = false → w.ownsRow w0.heap.size eB sB (env 8) nB xsB
  b2 : p 10 = true → p 11 = false → ∃ b, env 10 = .slice (some ⟨b, 0, none⟩) 1 1 ∧ w0.heap.size ≤ b ∧ w.heap[b]? = some (.cells newB eB (0, 0))
  b3 : p 11 = true → p 13 = false → w.ownsRow w0.heap.size eB sB (env 11) (nB + 1) (xsB ++ newB.toList)
  v12 : p 12 = true → env 12 = .agg #[env 5, env 11]
  fin : p 13 = true → ∃ w1, Near w0 w1 ∧ w1.ownsRow w0.heap.size eA sA (env 5) (nA + 1) (xsA ++ newA.toList) ∧ w1.ownsRow w0.heap.size eB sB (env 11) (nB + 1) (xsB ++ newB.toList) ∧ w = (w1.setCell ⟨b4, 0, none⟩ (env 5)).setCell ⟨b4, 1, none⟩ (env 11)
  o5 : p 5 = true → p 2 = true ∧ p 4 = true
  o11 : p 11 = true → p 8 = true ∧ p 10 = true
  o12 : p 12 = true → p 5 = true ∧ p 11 = true
  o13 : p 13 = true → p 12 = true

section
variable {eA sA nA : Nat} {xsA : List Value} {newA : Array Value} {eB sB nB : Nat} {xsB : List Value} {newB : Array Value} {b4 : Nat} {w0 w w' : World} {p : Nat → Bool} {env : Nat → Value} {v : Value}

theorem AppI.no (h : AppI eA sA nA xsA newA eB sB nB xsB newB b4 w0 p env w) :
    (p 2 = false → p 5 = false) ∧ (p 4 = false → p 5 = false) ∧ (p 8 = false → p 11 = false) ∧ (p 10 = false → p 11 = false) ∧ (p 5 = false → p 12 = false) ∧ (p 11 = false → p 12 = false) ∧ (p 12 = false → p 13 = false) := by
  have a := h.o5
  have b := h.o11
  have c := h.o12
  have d := h.o13
  refine ⟨fun k => ?_, fun k => ?_, fun k => ?_, fun k => ?_, fun k => ?_, fun k => ?_, fun k => ?_⟩
  · cases e : p 5 with
    | false => rfl
    | true => rw [(a e).1] at k; cases k
  · cases e : p 5 with
    | false => rfl
    | true => rw [(a e).2] at k; cases k
  · cases e : p 11 with
    | false => rfl
    | true => rw [(b e).1] at k; cases k
  · cases e : p 11 with
    | false => rfl
    | true => rw [(b e).2] at k; cases k
  · cases e : p 12 with
    | false => rfl
    | true => rw [(c e).1] at k; cases k
  · cases e : p 12 with
    | false => rfl
    | true => rw [(c e).2] at k; cases k
  · cases e : p 13 with
    | false => rfl
    | true => rw [d e] at k; cases k

theorem AppI.start (hp : p 2 = false ∧ p 4 = false ∧ p 5 = false ∧ p 8 = false ∧ p 10 = false ∧ p 11 = false ∧ p 12 = false ∧ p 13 = false) (hn : Near w0 w) : AppI eA sA nA xsA newA eB sB nB xsB newB b4 w0 p env w := by
  obtain ⟨h2, h4, h5, h8, h10, h11, h12, h13⟩ := hp
  refine ⟨fun _ => hn, ?_, ?_, ?_, ?_, ?_, ?_, ?_, ?_, ?_, ?_, ?_, ?_⟩ <;> intro k <;> simp_all

theorem AppI.s2 (h : AppI eA sA nA xsA newA eB sB nB xsB newB b4 w0 p env w) (hp : p 2 = false) (hn : Near w w') (hr : w'.ownsRow w0.heap.size eA sA v nA xsA) : AppI eA sA nA xsA newA eB sB nB xsB newB b4 w0 (upB p 2) (upV env 2 v) w' := by
  obtain ⟨n2, n4, n8, n10, n5, n11, n12⟩ := h.no
  have h5 := n2 hp
  have h12 := n5 h5
  have h13 := n12 h12
  exact ⟨fun _ => (h.near h13).trans hn,
    fun _ _ => hr,
    fun k k' => let ⟨b, e1, e2, e3⟩ := h.a2 k k'; ⟨b, e1, e2, keepN hn e3⟩,
    fun k _ => absurd (h5.symm.trans k) Bool.false_ne_true,
    fun k k' => owns_kept (h.b1 k k') hn.kept (fun _ _ x => x),
    fun k k' => let ⟨b, e1, e2, e3⟩ := h.b2 k k'; ⟨b, e1, e2, keepN hn e3⟩,
    fun k k' => owns_kept (h.b3 k k') hn.kept (fun _ _ x => x),
    fun k => absurd (h12.symm.trans k) Bool.false_ne_true,
    fun k => absurd (h13.symm.trans k) Bool.false_ne_true,
    fun k => absurd (h5.symm.trans k) Bool.false_ne_true,
    fun k => h.o11 k,
    fun k => absurd (h12.symm.trans k) Bool.false_ne_true,
    fun k => absurd (h13.symm.trans k) Bool.false_ne_true⟩

theorem AppI.s4 (h : AppI eA sA nA xsA newA eB sB nB xsB newB b4 w0 p env w) (hp : p 4 = false) : AppI eA sA nA xsA newA eB sB nB xsB newB b4 w0 (upB p 4) (upV env 4 (.slice (some ⟨w.heap.size, 0, none⟩) 1 1)) (w.alloc (.cells newA eA)) := by
  obtain ⟨n2, n4, n8, n10, n5, n11, n12⟩ := h.no
  have hn : Near w (w.alloc (.cells newA eA)) := (Near.refl w).alloc _
  have h5 := n4 hp
  have h12 := n5 h5
  have h13 := n12 h12
  exact ⟨fun _ => (h.near h13).trans hn,
    fun k k' => owns_kept (h.a1 k k') hn.kept (fun _ _ x => x),
    fun _ _ => ⟨_, rfl, (h.near h13).size', heap_new_at rfl⟩,
    fun k _ => absurd (h5.symm.trans k) Bool.false_ne_true,
    fun k k' => owns_kept (h.b1 k k') hn.kept (fun _ _ x => x),
    fun k k' => let ⟨b, e1, e2, e3⟩ := h.b2 k k'; ⟨b, e1, e2, keepN hn e3⟩,
    fun k k' => owns_kept (h.b3 k k') hn.kept (fun _ _ x => x),
    fun k => absurd (h12.symm.trans k) Bool.false_ne_true,
    fun k => absurd (h13.symm.trans k) Bool.false_ne_true,
    fun k => absurd (h5.symm.trans k) Bool.false_ne_true,
    fun k => h.o11 k,
    fun k => absurd (h12.symm.trans k) Bool.false_ne_true,
    fun k => absurd (h13.symm.trans k) Bool.false_ne_true⟩

theorem AppI.s8 (h : AppI eA sA nA xsA newA eB sB nB xsB newB b4 w0 p env w) (hp : p 8 = false) (hn : Near w w') (hr : w'.ownsRow w0.heap.size eB sB v nB xsB) : AppI eA sA nA xsA newA eB sB nB xsB newB b4 w0 (upB p 8) (upV env 8 v) w' := by
  obtain ⟨n2, n4, n8, n10, n5, n11, n12⟩ := h.no
  have h11 := n8 hp
  have h12 := n11 h11
  have h13 := n12 h12
  exact ⟨fun _ => (h.near h13).trans hn,
    fun k k' => owns_kept (h.a1 k k') hn.kept (fun _ _ x => x),
    fun k k' => let ⟨b, e1, e2, e3⟩ := h.a2 k k'; ⟨b, e1, e2, keepN hn e3⟩,
    fun k k' => owns_kept (h.a3 k k') hn.kept (fun _ _ x => x),
    fun _ _ => hr,
    fun k k' => let ⟨b, e1, e2, e3⟩ := h.b2 k k'; ⟨b, e1, e2, keepN hn e3⟩,
    fun k _ => absurd (h11.symm.trans k) Bool.false_ne_true,
    fun k => absurd (h12.symm.trans k) Bool.false_ne_true,
    fun k => absurd (h13.symm.trans k) Bool.false_ne_true,
    fun k => h.o5 k,
    fun k => absurd (h11.symm.trans k) Bool.false_ne_true,
    fun k => absurd (h12.symm.trans k) Bool.false_ne_true,
    fun k => absurd (h13.symm.trans k) Bool.false_ne_true⟩

theorem AppI.s10 (h : AppI eA sA nA xsA newA eB sB nB xsB newB b4 w0 p env w) (hp : p 10 = false) : AppI eA sA nA xsA newA eB sB nB xsB newB b4 w0 (upB p 10) (upV env 10 (.slice (some ⟨w.heap.size, 0, none⟩) 1 1)) (w.alloc (.cells newB eB)) := by
  obtain ⟨n2, n4, n8, n10, n5, n11, n12⟩ := h.no
  have hn : Near w (w.alloc (.cells newB eB)) := (Near.refl w).alloc _
  have h11 := n10 hp
  have h12 := n11 h11
  have h13 := n12 h12
  exact ⟨fun _ => (h.near h13).trans hn,
    fun k k' => owns_kept (h.a1 k k') hn.kept (fun _ _ x => x),
    fun k k' => let ⟨b, e1, e2, e3⟩ := h.a2 k k'; ⟨b, e1, e2, keepN hn e3⟩,
    fun k k' => owns_kept (h.a3 k k') hn.kept (fun _ _ x => x),
    fun k k' => owns_kept (h.b1 k k') hn.kept (fun _ _ x => x),
    fun _ _ => ⟨_, rfl, (h.near h13).size', heap_new_at rfl⟩,
    fun k _ => absurd (h11.symm.trans k) Bool.false_ne_true,
    fun k => absurd (h12.symm.trans k) Bool.false_ne_true,
    fun k => absurd (h13.symm.trans k) Bool.false_ne_true,
    fun k => h.o5 k,
    fun k => absurd (h11.symm.trans k) Bool.false_ne_true,
    fun k => absurd (h12.symm.trans k) Bool.false_ne_true,
    fun k => absurd (h13.symm.trans k) Bool.false_ne_true⟩

theorem AppI.s5 (h : AppI eA sA nA xsA newA eB sB nB xsB newB b4 w0 p env w) (hp : p 5 = false) (h2 : p 2 = true) (h4 : p 4 = true) (hn0 : Near w0 w') (ho : OnlyOf eA w w') (hne : eB ≠ eA) (hr : w'.ownsRow w0.heap.size eA sA v (nA + 1) (xsA ++ newA.toList)) : AppI eA sA nA xsA newA eB sB nB xsB newB b4 w0 (upB p 5) (upV env 5 v) w' := by
  obtain ⟨n2, n4, n8, n10, n5, n11, n12⟩ := h.no
  have h12 := n5 hp
  have h13 := n12 h12
  exact ⟨fun _ => hn0,
    fun _ k' => absurd k' (by simp [upB]),
    fun _ k' => absurd k' (by simp [upB]),
    fun _ _ => hr,
    fun k k' => ho.owns hne (h.b1 k k'),
    fun k k' => let ⟨b, e1, e2, e3⟩ := h.b2 k k'; ⟨b, e1, e2, ho.block e3 hne⟩,
    fun k k' => ho.owns hne (h.b3 k k'),
    fun k => absurd (h12.symm.trans k) Bool.false_ne_true,
    fun k => absurd (h13.symm.trans k) Bool.false_ne_true,
    fun _ => ⟨h2, h4⟩,
    fun k => h.o11 k,
    fun k => absurd (h12.symm.trans k) Bool.false_ne_true,
    fun k => absurd (h13.symm.trans k) Bool.false_ne_true⟩

theorem AppI.s11 (h : AppI eA sA nA xsA newA eB sB nB xsB newB b4 w0 p env w) (hp : p 11 = false) (h8 : p 8 = true) (h10 : p 10 = true) (hn0 : Near w0 w') (ho : OnlyOf eB w w') (hne : eA ≠ eB) (hr : w'.ownsRow w0.heap.size eB sB v (nB + 1) (xsB ++ newB.toList)) : AppI eA sA nA xsA newA eB sB nB xsB newB b4 w0 (upB p 11) (upV env 11 v) w' := by
  obtain ⟨n2, n4, n8, n10, n5, n11, n12⟩ := h.no
  have h12 := n11 hp
  have h13 := n12 h12
  exact ⟨fun _ => hn0,
    fun k k' => ho.owns hne (h.a1 k k'),
    fun k k' => let ⟨b, e1, e2, e3⟩ := h.a2 k k'; ⟨b, e1, e2, ho.block e3 hne⟩,
    fun k k' => ho.owns hne (h.a3 k k'),
    fun _ k' => absurd k' (by simp [upB]),
    fun _ k' => absurd k' (by simp [upB]),
    fun _ _ => hr,
    fun k => absurd (h12.symm.trans k) Bool.false_ne_true,
    fun k => absurd (h13.symm.trans k) Bool.false_ne_true,
    fun k => h.o5 k,
    fun _ => ⟨h8, h10⟩,
    fun k => absurd (h12.symm.trans k) Bool.false_ne_true,
    fun k => absurd (h13.symm.trans k) Bool.false_ne_true⟩

theorem AppI.s12 (h : AppI eA sA nA xsA newA eB sB nB xsB newB b4 w0 p env w) (hp : p 12 = false) (h5 : p 5 = true) (h11 : p 11 = true) : AppI eA sA nA xsA newA eB sB nB xsB newB b4 w0 (upB p 12) (upV env 12 (.agg #[env 5, env 11])) w := by
  obtain ⟨n2, n4, n8, n10, n5, n11, n12⟩ := h.no
  have h13 := n12 hp
  exact ⟨fun _ => h.near h13,
    fun k k' => h.a1 k k',
    fun k k' => h.a2 k k',
    fun k k' => h.a3 k k',
    fun k k' => h.b1 k k',
    fun k k' => h.b2 k k',
    fun k k' => h.b3 k k',
    fun _ => rfl,
    fun k => absurd (h13.symm.trans k) Bool.false_ne_true,
    fun k => h.o5 k,
    fun k => h.o11 k,
    fun _ => ⟨h5, h11⟩,
    fun k => absurd (h13.symm.trans k) Bool.false_ne_true⟩

theorem AppI.s13 (h : AppI eA sA nA xsA newA eB sB nB xsB newB b4 w0 p env w) (hp : p 13 = false) (h12 : p 12 = true) : AppI eA sA nA xsA newA eB sB nB xsB newB b4 w0 (upB p 13) (upV env 13 v) ((w.setCell ⟨b4, 0, none⟩ (env 5)).setCell ⟨b4, 1, none⟩ (env 11)) := by
  obtain ⟨n2, n4, n8, n10, n5, n11, n12⟩ := h.no
  have h5 := (h.o12 h12).1
  have h11 := (h.o12 h12).2
  exact ⟨fun k => absurd k (by simp [upB]),
    fun _ k' => absurd (h5.symm.trans k') (by decide),
    fun _ k' => absurd (h5.symm.trans k') (by decide),
    fun _ k' => absurd k' (by simp [upB]),
    fun _ k' => absurd (h11.symm.trans k') (by decide),
    fun _ k' => absurd (h11.symm.trans k') (by decide),
    fun _ k' => absurd k' (by simp [upB]),
    fun k => h.v12 k,
    fun _ => ⟨w, h.near hp, h.a3 h5 hp, h.b3 h11 hp, rfl⟩,
    fun k => h.o5 k,
    fun k => h.o11 k,
    fun k => h.o12 k,
    fun _ => h12⟩
end

end Go.Proofs.Ytefclohjeompkaa

/- The reference: Through, a node that is not listed yet. -/
namespace Go.Proofs.Ytefclohjeompkaa
open Go Go.RowKit Go.Shelf Go.Proofs.Gen Go.Proofs.Bdd Go.Proofs.Bdd.T

theorem cells_two {w : World} {b : Nat} {x y : Value} {e : TypeId} (h : w.heap[b]? = some (.cells #[x, y] e (0, 0))) : ∀ j u, [x, y][j]? = some u → w.cell? ((⟨b, 0, none⟩ : Addr).add j) = some u := by
  intro j u hj
  match j, hj with
  | 0, hj => simp at hj; subst hj; exact cell1 (o := 0) h rfl
  | 1, hj => simp at hj; subst hj; exact cell1 (o := 1) h rfl
theorem cells_three {w : World} {b : Nat} {x y z : Value} {e : TypeId} (h : w.heap[b]? = some (.cells #[x, y, z] e (0, 0))) : ∀ j u, [x, y, z][j]? = some u → w.cell? ((⟨b, 0, none⟩ : Addr).add j) = some u := by
  intro j u hj
  match j, hj with
  | 0, hj => simp at hj; subst hj; exact cell1 (o := 0) h rfl
  | 1, hj => simp at hj; subst hj; exact cell1 (o := 1) h rfl
  | 2, hj => simp at hj; subst hj; exact cell1 (o := 2) h rfl
theorem cellsOf_one {l : List Tri} : ∀ u ∈ cellsOf l, u.oneCell' = true := by
  intro u hu
  obtain ⟨x, _, hu⟩ := List.mem_flatMap.1 hu
  simp [triC] at hu
  rcases hu with rfl | rfl | rfl <;> rfl

theorem flat2_one {vs : List (Value × Value)} (h : ∀ (j : Nat) (p : Value × Value), vs[j]? = some p → p.1.oneCell' = true ∧ p.2.oneCell' = true) : ∀ u ∈ flat2 vs, u.oneCell' = true := by
  intro u hu
  obtain ⟨p, hp, hu⟩ := List.mem_flatMap.1 hu
  obtain ⟨j, hj⟩ := List.getElem?_of_mem hp
  have := h j p hj
  simp at hu
  rcases hu with rfl | rfl
  · exact this.1
  · exact this.2

theorem stored_three {w : World} {b : Nat} {p q r : Value} {e : TypeId} (h : w.heap[b]? = some (.cells #[p, q, r] e (0, 0))) (x y z : Value) : (((w.setCell ⟨b, 0, none⟩ x).setCell ⟨b, 1, none⟩ y).setCell ⟨b, 2, none⟩ z).heap[b]? = some (.cells #[x, y, z] e (0, 0)) := by
  have := setCell_heap (setCell_heap (setCell_heap h 0 x) 1 y) 2 z
  simpa only [List.setIfInBounds_toArray, List.set_cons_zero, List.set_cons_succ] using this
theorem kept_three {w : World} {b : Nat} (x y z : Value) : Kept (fun k => k = b) w (((w.setCell ⟨b, 0, none⟩ x).setCell ⟨b, 1, none⟩ y).setCell ⟨b, 2, none⟩ z) :=
  Kept.setCell (S := fun k => k = b) (kept_two x y) (p := ⟨b, 2, none⟩) (fun _ => rfl) z

theorem stored_two {w : World} {b : Nat} {p q : Value} {e : TypeId} (h : w.heap[b]? = some (.cells #[p, q] e (0, 0))) (x y : Value) : ((w.setCell ⟨b, 0, none⟩ x).setCell ⟨b, 1, none⟩ y).heap[b]? = some (.cells #[x, y] e (0, 0)) := by
  have := setCell_heap (setCell_heap h 0 x) 1 y
  simpa only [List.setIfInBounds_toArray, List.set_cons_zero, List.set_cons_succ] using this

/-- The call of Through, at one tree. -/
def ThruAt (t : T) : Prop := ∀ (L : List T) (w : World) (sv lv va : Value), T.Good L → L.length + room t < 1099511627776 → Sets 37 IsG 0 w sv (L.map fun s => s.ev) → w.ownsRow 0 26 3 lv L.length (cellsOf (enc L)) → IsG w va t.ev →
  Calls Try.prog 86 #[.agg #[sv, lv], va] w (ThruPost L t w)

set_option maxRecDepth 100000 in
set_option maxHeartbeats 3200000 in
theorem through_new {i : Nat} {l h : T} (ok : (node i l h).Ok) (il : ThruAt l) (ih : ThruAt h) {L : List T} {w : World} {sv lv va : Value} (g : T.Good L) (hlen : L.length + room (node i l h) < 1099511627776) (hs : Sets 37 IsG 0 w sv (L.map fun s => s.ev))
    (hr : w.ownsRow 0 26 3 lv L.length (cellsOf (enc L))) (ha : IsG w va (node i l h).ev) (hnot : node i l h ∉ L) : Calls Try.prog 86 #[.agg #[sv, lv], va] w (ThruPost L (node i l h) w) := by
  obtain ⟨i0, hi0, hz0, hz1, hz2⟩ := info_parts info26
  obtain ⟨i7, hi7, hy0, hy1, hy2⟩ := info_parts info37
  have hpl : placeZ L (node i l h) = -1 := placeZ_not hnot
  have HP := Lib.hid hpl
  have HA := Lib.hid ha
  have HS := Lib.hid hs
  have HR := Lib.hid hr
  have HLk := Lib.hid (show ∀ s ∈ L, s.Ok from fun s h => (g.all s h).2)
  have hi24 := ok.1
  have hlr := room_kids ok
  have hlrp := room_pos l
  have hhrp := room_pos h
  obtain ⟨s, hs24, hsb⟩ : ∃ s : Nat, s < 16777216 ∧ ∀ j, s.testBit j = dep (node i l h).ev j := by
    obtain ⟨s, h1, h2, -⟩ := rsupp_g ha
    exact ⟨s, h1, h2⟩
  obtain ⟨rf, hrf⟩ := first_feat (s := s) hi24 (by rw [hsb, dep_occ ok]; exact .inl rfl) (fun j hj => by
    rw [hsb]
    cases hd : dep (node i l h).ev j with
    | false => rfl
    | true =>
      have := (occ_lv ok ((dep_occ ok).1 hd)).1
      simp only [T.lv] at this
      omega)
  have HSB := Lib.hid hsb
  have HRF := Lib.hid hrf
  obtain ⟨a1, a2, a3, a4, a5, a6, rfl⟩ := ha.form
  obtain ⟨so, sc, rfl⟩ := hs.form
  obtain ⟨lo, lc, rfl⟩ := owns_form hr
  clear ha hs hr hpl hsb hrf
  obtain ⟨m, hm⟩ : ∃ m, (L.map fun s => s.ev).length = m := ⟨_, rfl⟩
  rw [hm] at HS ⊢
  clear hm
  have hN : Near w (((w.alloc (.cells #[.slice so m sc, .slice lo L.length lc] 113)).alloc (.cells #[.slice a1 a2 a3, .slice a4 a5 a6] 37)).alloc (.cells #[.slice none 0 0, .slice none 0 0] 113)) := (((Near.refl w).alloc _).alloc _).alloc _
  have hB : (((w.alloc (.cells #[.slice so m sc, .slice lo L.length lc] 113)).alloc (.cells #[.slice a1 a2 a3, .slice a4 a5 a6] 37)).alloc (.cells #[.slice none 0 0, .slice none 0 0] 113)).heap[w.heap.size]? = some (.cells #[.slice so m sc, .slice lo L.length lc] 113 (0, 0)) := by
    rw [heap_old_at (by simp <;> omega), heap_old_at (by simp), heap_new_at rfl]
  have hE : (((w.alloc (.cells #[.slice so m sc, .slice lo L.length lc] 113)).alloc (.cells #[.slice a1 a2 a3, .slice a4 a5 a6] 37)).alloc (.cells #[.slice none 0 0, .slice none 0 0] 113)).heap[w.heap.size + 1]? = some (.cells #[.slice a1 a2 a3, .slice a4 a5 a6] 37 (0, 0)) := by
    rw [heap_old_at (by simp), heap_new_at (by simp)]
  have hO : (((w.alloc (.cells #[.slice so m sc, .slice lo L.length lc] 113)).alloc (.cells #[.slice a1 a2 a3, .slice a4 a5 a6] 37)).alloc (.cells #[.slice none 0 0, .slice none 0 0] 113)).heap[w.heap.size + 1 + 1]? = some (.cells #[.slice none 0 0, .slice none 0 0] 113 (0, 0)) := heap_new_at (by simp)
  go_enter Try.func86, Try.ntmps86
  go_upto_region 1 with fail
  generalize (((w.alloc (.cells #[.slice so m sc, .slice lo L.length lc] 113)).alloc (.cells #[.slice a1 a2 a3, .slice a4 a5 a6] 37)).alloc (.cells #[.slice none 0 0, .slice none 0 0] 113)) = W at hN hB hE hO ⊢
  have HN := Lib.hid hN
  have HB := Lib.hid hB
  have HE := Lib.hid hE
  have HO := Lib.hid hO
  have b0 := cell1 (o := 0) hB rfl
  have b1 := cell1 (o := 1) hB rfl
  have e0 := cell1 (o := 0) hE rfl
  have e1 := cell1 (o := 1) hE rfl
  clear hN hB hE hO
  go_upto_region 4 with (first
    | (go_at_call 87; refine (place_calls (L := L) (t := node i l h) (HS.out.map HN.out (fun _ _ h => h.near HN.out)) (HA.out.near HN.out) ok HLk.out (by omega)).mono ?_; rintro e v1 ⟨rfl, n1⟩; rw [HP.out]; have HN1 := Lib.hid n1; replace e0 := n1.cell e0; replace e1 := n1.cell e1; clear n1)
    | (go_at_call 60; refine (rsupp_says (HA.out.near (HN.out.trans HN1.out)) HSB.out).mono ?_; rintro e v2 ⟨rfl, n2⟩; have HN2 := Lib.hid (HN1.out.trans n2); clear n2)
    | (go_at_call 18; refine (features_calls s (by omega) _).mono ?_; rintro e v3 ⟨u3, rfl, r3, n3⟩; rw [HRF.out] at r3; obtain ⟨gf, fc, rfl, xc3, -⟩ := row1 r3 (k := 0) (u := iv i) rfl (by simp); simp only [iv] at xc3; have HN3 := Lib.hid (HN2.out.trans n3); clear n3 r3))
  have hE3 := keepN HN3.out HE.out
  have HE3 := Lib.hid hE3
  have HSK := Lib.hid (show ∀ w', Near v3 w' → w'.cell? ⟨w.heap.size + 1, 0, none⟩ = some (.slice a1 a2 a3) ∧ w'.cell? ⟨w.heap.size + 1, 1, none⟩ = some (.slice a4 a5 a6) from fun w' h => ⟨cell1 (o := 0) (keepN h HE3.out) rfl, cell1 (o := 1) (keepN h HE3.out) rfl⟩)
  have HA3 := Lib.hid (HA.out.near (HN.out.trans HN3.out))
  clear hE3 e0 e1 b0 b1
  refine wp_region_noPanic ?_
  refine wp_region_Z (by kernel_rfl) (fun w' => w'.cell? ⟨w.heap.size + 1, 0, none⟩ = some (.slice a1 a2 a3) ∧ w'.cell? ⟨w.heap.size + 1, 1, none⟩ = some (.slice a4 a5 a6)) 9 (HSK.out _ (Near.refl _).drew) (fun hS => ?_)
  refine takeZ0 (v := Value.agg #[Value.slice a1 a2 a3, Value.slice a4 a5 a6]) (by kernel_rfl) (by kernel_rfl) (by kernel_rfl) (by kernel_rfl) (fun _ _ _ h => h) (Or.inl ⟨by rfl, fun w' hS' => by dsimp only at hS'; obtain ⟨s0, s1⟩ := hS'; go_simp⟩) hS ?_
  try simp only [Act.put, List.setIfInBounds_toArray, List.set_cons_zero, List.set_cons_succ]
  refine takeZ1 (v := Value.int .i64 i) (by kernel_rfl) (by kernel_rfl) (by kernel_rfl) (by kernel_rfl) (fun _ _ _ h => h) (Or.inl ⟨by rfl, fun w' hS' => by dsimp only at hS'; obtain ⟨s0, s1⟩ := hS'; go_simp⟩) hS ?_
  try simp only [Act.put, List.setIfInBounds_toArray, List.set_cons_zero, List.set_cons_succ]
  refine takeZ3 (v := Value.agg #[Value.slice a1 a2 a3, Value.slice a4 a5 a6]) (by kernel_rfl) (by kernel_rfl) (by kernel_rfl) (by kernel_rfl) (fun _ _ _ h => h) (Or.inl ⟨by rfl, fun w' hS' => by dsimp only at hS'; obtain ⟨s0, s1⟩ := hS'; go_simp⟩) hS ?_
  try simp only [Act.put, List.setIfInBounds_toArray, List.set_cons_zero, List.set_cons_succ]
  refine takeZ4 (v := Value.int .i64 i) (by kernel_rfl) (by kernel_rfl) (by kernel_rfl) (by kernel_rfl) (fun _ _ _ h => h) (Or.inl ⟨by rfl, fun w' hS' => by dsimp only at hS'; obtain ⟨s0, s1⟩ := hS'; go_simp⟩) hS ?_
  try simp only [Act.put, List.setIfInBounds_toArray, List.set_cons_zero, List.set_cons_succ]
  refine wpAnyZ_inv2 [(2, some 21), (5, some 24), (6, some 6), (7, some 7), (8, none), (9, none)] (TwoI 2 5 6 7 8 9 v3 (fun c => l.ev c) (fun c => h.ev c)) (fun _ => undef) (by kernel_rfl) (by kernel_rfl) ?start ?rest
  case start =>
    intro p hp
    simp only [List.all_cons, List.all_nil, Bool.and_true, Bool.and_eq_true, Bool.not_eq_true'] at hp
    exact TwoI.start ⟨hp.1, hp.2.1, hp.2.2.1, hp.2.2.2.1, hp.2.2.2.2.1, hp.2.2.2.2.2⟩ (Near.refl _).drew
  case rest =>
    intro A0 hA0
    have e19 := Lib.hid (show A0.eval (.tmp 19) = .agg #[.slice a1 a2 a3, .slice a4 a5 a6] by rw [hA0]; rfl)
    have e20 := Lib.hid (show A0.eval (.tmp 20) = .int .i64 i by rw [hA0]; rfl)
    have e22 := Lib.hid (show A0.eval (.tmp 22) = .agg #[.slice a1 a2 a3, .slice a4 a5 a6] by rw [hA0]; rfl)
    have e23 := Lib.hid (show A0.eval (.tmp 23) = .int .i64 i by rw [hA0]; rfl)
    have hsz := Lib.hid (show A0.tmps.size = 52 by rw [hA0]; rfl)
    have HA0 := Lib.hid hA0
    clear hA0
    refine ⟨stepI2 [] (by kernel_rfl) ?s2 (stepI5 [2] (by kernel_rfl) ?s5 (stepI6 [] (by kernel_rfl) ?s6 (stepI7 [] (by kernel_rfl) ?s7 (stepI8 [6, 2, 5, 7] (by kernel_rfl) ?s8 (stepI9 [7, 5, 8, 6, 2] (by kernel_rfl) ?s9 StepsI.nil))))), ?fin⟩
    case s2 =>
      intro p env w2 hp hd hI K hK
      have x1 := (actOf_base (p := p) (env := env) (a := A0) (ds := [(2, some 21), (5, some 24), (6, some 6), (7, some 7), (8, none), (9, none)]) (s := 19) rfl).trans e19.out
      have x2 := (actOf_base (p := p) (env := env) (a := A0) (ds := [(2, some 21), (5, some 24), (6, some 6), (7, some 7), (8, none), (9, none)]) (s := 20) rfl).trans e20.out
      refine step_call rfl 106 #[.tmp 19, .tmp 20, .const (.bool false)] #[37, 3, 4] rfl (fun vs w => call_enters Try.func106 (by kernel_rfl) rfl vs w) #[.agg #[.slice a1 a2 a3, .slice a4 a5 a6], .int .i64 i, .bool false] ?_ (with_g (HA3.out.near hI.near) i false) ?_
      · simp only [List.map_toArray, List.map_cons, List.map_nil, x1, x2]
        rfl
      rintro v w5 ⟨hv, n⟩
      exact hK.out _ _ (Or.inr (HSK.out _ (hI.near.trans n))) (hI.c1 hp (hv.congr fun c => by rw [updI_upd]; exact T.ev_low c i l h ok) n)
    case s5 =>
      intro p env w2 hp hd hI K hK
      have x1 := (actOf_base (p := p) (env := env) (a := A0) (ds := [(2, some 21), (5, some 24), (6, some 6), (7, some 7), (8, none), (9, none)]) (s := 22) rfl).trans e22.out
      have x2 := (actOf_base (p := p) (env := env) (a := A0) (ds := [(2, some 21), (5, some 24), (6, some 6), (7, some 7), (8, none), (9, none)]) (s := 23) rfl).trans e23.out
      refine step_call rfl 106 #[.tmp 22, .tmp 23, .const (.bool true)] #[37, 3, 4] rfl (fun vs w => call_enters Try.func106 (by kernel_rfl) rfl vs w) #[.agg #[.slice a1 a2 a3, .slice a4 a5 a6], .int .i64 i, .bool true] ?_ (with_g (HA3.out.near hI.near) i true) ?_
      · simp only [List.map_toArray, List.map_cons, List.map_nil, x1, x2]
        rfl
      rintro v w5 ⟨hv, n⟩
      exact hK.out _ _ (Or.inr (HSK.out _ (hI.near.trans n))) (hI.c2 hp (hv.congr fun c => by rw [updI_upd]; exact T.ev_high c i l h ok) n)
    case s6 =>
      intro p env w2 hp hd hI K hK
      generalize actOf [(2, some 21), (5, some 24), (6, some 6), (7, some 7), (8, none), (9, none)] p env A0 = A at hK ⊢
      go_simp
      exact hK.out _ _ (Or.inr (HSK.out _ (hI.a hp).near)) (hI.a hp)
    case s7 =>
      intro p env w2 hp hd hI K hK
      generalize actOf [(2, some 21), (5, some 24), (6, some 6), (7, some 7), (8, none), (9, none)] p env A0 = A at hK ⊢
      go_simp
      exact hK.out _ _ (Or.inr (HSK.out _ (hI.b hp).near)) (hI.b hp)
    case s8 =>
      intro p env w2 hp hd hI K hK
      simp only [List.all_cons, List.all_nil, Bool.and_true, Bool.and_eq_true] at hd
      obtain ⟨h6, h2, h5, h7⟩ := hd
      have h9 : p 9 = false := by
        cases h9 : p 9 with
        | false => rfl
        | true => rw [hI.chain h9] at hp; cases hp
      obtain ⟨b, q1, q2, q3, q4, q5, q6, y1, y2, y3, y4, y5⟩ := hI.s1 h6 h2 h5 h7 hp h9
      have x1 := (actOf_eval (p := p) (env := env) (a := A0) (i := 6) (s := 6) h6 (by rw [hsz.out]; decide) (ds := [(2, some 21), (5, some 24), (6, some 6), (7, some 7), (8, none), (9, none)]) rfl (by simp)).trans y1
      have x2 := (actOf_eval (p := p) (env := env) (a := A0) (i := 2) (s := 21) h2 (by rw [hsz.out]; decide) (ds := [(2, some 21), (5, some 24), (6, some 6), (7, some 7), (8, none), (9, none)]) rfl (by simp)).trans y2
      have t1 := slot_of x1
      have t2 := slot_of x2
      clear x1 x2
      generalize actOf [(2, some 21), (5, some 24), (6, some 6), (7, some 7), (8, none), (9, none)] p env A0 = A at t1 t2 hK ⊢
      have z0 := cell1 (o := 0) y3 rfl
      have z1 := cell1 (o := 1) y3 rfl
      have zf := free1 y3
      go_simp
      exact hK.out undef _ (Or.inr (HSK.out _ y4)) (y5 undef)
    case s9 =>
      intro p env w2 hp hd hI K hK
      simp only [List.all_cons, List.all_nil, Bool.and_true, Bool.and_eq_true] at hd
      obtain ⟨h7, h5, h8, h6, h2⟩ := hd
      obtain ⟨b, q1, q2, q3, q4, q5, q6, y1, y2, y3, y4⟩ := hI.s2 h6 h2 h5 h7 h8 hp
      have x1 := (actOf_eval (p := p) (env := env) (a := A0) (i := 7) (s := 7) h7 (by rw [hsz.out]; decide) (ds := [(2, some 21), (5, some 24), (6, some 6), (7, some 7), (8, none), (9, none)]) rfl (by simp)).trans y1
      have x2 := (actOf_eval (p := p) (env := env) (a := A0) (i := 5) (s := 24) h5 (by rw [hsz.out]; decide) (ds := [(2, some 21), (5, some 24), (6, some 6), (7, some 7), (8, none), (9, none)]) rfl (by simp)).trans y2
      have t1 := slot_of x1
      have t2 := slot_of x2
      clear x1 x2
      generalize actOf [(2, some 21), (5, some 24), (6, some 6), (7, some 7), (8, none), (9, none)] p env A0 = A at t1 t2 hK ⊢
      have z0 := cell1 (o := 0) y3 rfl
      have z1 := cell1 (o := 1) y3 rfl
      have zf := free1 y3
      go_simp
      exact hK.out undef _ (Or.inl rfl) (y4 undef)
    case fin =>
      intro p env w2 hp hI
      simp only [List.all_cons, List.all_nil, Bool.and_true, Bool.and_eq_true] at hp
      obtain ⟨h2, h5, h6, h7, h8, h9⟩ := hp
      obtain ⟨ba, bb, x1, x2, x3, x4, x5, x6, y1, y2, y3, y4, y5, y6, z1, z2, z3, z4, z5, z6, z7, z8, z9⟩ := hI.fin h6 h2 h5 h7 h8 h9
      refine NoPanic.normal ?_
      rw [HA0.out]
      simp only [actOf, h2, h5, h6, h7, h8, h9, if_true, Act.put, List.setIfInBounds_toArray, List.set_cons_zero, List.set_cons_succ]
      rw [z1, z2]
      have hwl := HN.out.size'
      have hv3 := HN3.out.size'
      have HB2A := Lib.hid (keepN (HN3.out.trans z9) HB.out)
      have HB3A := Lib.hid (keepN (HN3.out.trans z9) HE.out)
      have HB4A := Lib.hid (keepN (HN3.out.trans z9) HO.out)
      have hWs := (Array.getElem?_eq_some_iff.1 HO.out).1
      have NWA := Lib.hid ((HN.out.trans HN3.out).trans z9)
      have HSA := Lib.hid (HS.out.map NWA.out (fun _ _ h => h.near NWA.out))
      have HRA := Lib.hid (owns_kept HR.out NWA.out.kept (fun _ _ x => x))
      have HGaA := Lib.hid (HA.out.near NWA.out)
      have HBaA := Lib.hid z5
      have HBbA := Lib.hid z6
      have HGlA := Lib.hid z7
      have HGhA := Lib.hid z8
      have hba : w.heap.size + 1 + 1 < ba := by omega
      have hbb : w.heap.size + 1 + 1 < bb := by omega
      have hgl := go_good l L ok.2.2.2.2.1 g
      have hrl := go_room l L ok.2.2.2.2.1
      have hrh := go_room h (go l L) ok.2.2.2.2.2
      clear z1 z2 z3 z4 z5 z6 z7 z8 z9 hI h2 h5 h6 h7 h8 h9 HA0 e19 e20 e22 e23 hsz hS HSK HA3 HE3 HN3 HN HB HE HO HN2 HN1 xc3
      have c0 := cell1 (o := 0) HB2A.out rfl
      have c1 := cell1 (o := 1) HB2A.out rfl
      have q0 := cell1 (o := 0) HBaA.out rfl
      have q1 := cell1 (o := 1) HBaA.out rfl
      go_upto_region 6 with (go_at_call 86; refine (il L w2 _ _ _ g (by omega) HSA.out HRA.out HGlA.out).mono ?_; rintro e vp ⟨svp, lvp, rfl, sp, rp, np⟩; obtain ⟨sop, scp, esp⟩ := sp.form; rw [List.length_map] at esp; subst esp; obtain ⟨lop, lcp, rfl⟩ := owns_form rp; have hbp := keepN np HB2A.out; have d0 := cell1 (o := 0) hbp rfl; have d1 := cell1 (o := 1) hbp rfl; have df := free1 hbp; have Sp := Lib.hid sp; have Rp := Lib.hid rp; have Np := Lib.hid np; have HVp := Lib.hid hbp; clear sp rp np hbp)
      have op := only_two HVp.out (.slice sop (go l L).length scp) (.slice lop (go l L).length lcp)
      have kp := kept_two (w := vp) (b := w.heap.size) (.slice sop (go l L).length scp) (.slice lop (go l L).length lcp)
      have b2p := stored_two HVp.out (.slice sop (go l L).length scp) (.slice lop (go l L).length lcp)
      have HSB := Lib.hid (Sp.out.only op (by decide) (fun _ _ h => h.only op (by decide) (by decide)))
      have HRB := Lib.hid (op.owns (by decide) Rp.out)
      have HGlB := Lib.hid ((HGlA.out.near Np.out).only op (by decide) (by decide))
      have HGhB := Lib.hid ((HGhA.out.near Np.out).only op (by decide) (by decide))
      have HGaB := Lib.hid ((HGaA.out.near Np.out).only op (by decide) (by decide))
      have hvs := Np.out.size'
      have HBaB := Lib.hid ((kp.block ba (Nat.lt_of_lt_of_le (Array.getElem?_eq_some_iff.1 HBaA.out).1 hvs) (by omega)).trans (keepN Np.out HBaA.out))
      have HBbB := Lib.hid ((kp.block bb (Nat.lt_of_lt_of_le (Array.getElem?_eq_some_iff.1 HBbA.out).1 hvs) (by omega)).trans (keepN Np.out HBbA.out))
      have HB3B := Lib.hid ((kp.block (w.heap.size + 1) (Nat.lt_of_lt_of_le (Array.getElem?_eq_some_iff.1 HB3A.out).1 hvs) (by omega)).trans (keepN Np.out HB3A.out))
      have HB4B := Lib.hid ((kp.block (w.heap.size + 1 + 1) (Nat.lt_of_lt_of_le (Array.getElem?_eq_some_iff.1 HB4A.out).1 hvs) (by omega)).trans (keepN Np.out HB4A.out))
      have NWB := Lib.hid (show Near w _ from Kept.mono ((NWA.out.trans Np.out).kept.trans kp) (fun b hb e => by omega))
      have HB2B := Lib.hid b2p
      clear op kp b2p hvs c0 c1 q0 q1 d0 d1 df Sp Rp Np HVp
      generalize ((vp.setCell ⟨w.heap.size, 0, none⟩ (.slice sop (go l L).length scp)).setCell ⟨w.heap.size, 1, none⟩ (.slice lop (go l L).length lcp)) = w3 at *
      have c0 := cell1 (o := 0) HB2B.out rfl
      have c1 := cell1 (o := 1) HB2B.out rfl
      have q0 := cell1 (o := 0) HBbB.out rfl
      have q1 := cell1 (o := 1) HBbB.out rfl
      go_upto_region 7 with (go_at_call 86; refine (ih (go l L) w3 _ _ _ hgl (by omega) HSB.out HRB.out HGhB.out).mono ?_; rintro e vq ⟨svq, lvq, rfl, sq, rq, nq⟩; obtain ⟨soq, scq, esq⟩ := sq.form; rw [List.length_map] at esq; subst esq; obtain ⟨loq, lcq, rfl⟩ := owns_form rq; have hbq := keepN nq HB2B.out; have d0 := cell1 (o := 0) hbq rfl; have d1 := cell1 (o := 1) hbq rfl; have df := free1 hbq; have Sq := Lib.hid sq; have Rq := Lib.hid rq; have Nq := Lib.hid nq; have HVq := Lib.hid hbq; clear sq rq nq hbq)
      have oq := only_two HVq.out (.slice soq (go h (go l L)).length scq) (.slice loq (go h (go l L)).length lcq)
      have kq := kept_two (w := vq) (b := w.heap.size) (.slice soq (go h (go l L)).length scq) (.slice loq (go h (go l L)).length lcq)
      have b2q := stored_two HVq.out (.slice soq (go h (go l L)).length scq) (.slice loq (go h (go l L)).length lcq)
      have HSC := Lib.hid (Sq.out.only oq (by decide) (fun _ _ h => h.only oq (by decide) (by decide)))
      have HRC := Lib.hid (oq.owns (by decide) Rq.out)
      have HGlC := Lib.hid ((HGlB.out.near Nq.out).only oq (by decide) (by decide))
      have HGhC := Lib.hid ((HGhB.out.near Nq.out).only oq (by decide) (by decide))
      have HGaC := Lib.hid ((HGaB.out.near Nq.out).only oq (by decide) (by decide))
      have hvs := Nq.out.size'
      have HBaC := Lib.hid ((kq.block ba (Nat.lt_of_lt_of_le (Array.getElem?_eq_some_iff.1 HBaB.out).1 hvs) (by omega)).trans (keepN Nq.out HBaB.out))
      have HBbC := Lib.hid ((kq.block bb (Nat.lt_of_lt_of_le (Array.getElem?_eq_some_iff.1 HBbB.out).1 hvs) (by omega)).trans (keepN Nq.out HBbB.out))
      have HB3C := Lib.hid ((kq.block (w.heap.size + 1) (Nat.lt_of_lt_of_le (Array.getElem?_eq_some_iff.1 HB3B.out).1 hvs) (by omega)).trans (keepN Nq.out HB3B.out))
      have HB4C := Lib.hid ((kq.block (w.heap.size + 1 + 1) (Nat.lt_of_lt_of_le (Array.getElem?_eq_some_iff.1 HB4B.out).1 hvs) (by omega)).trans (keepN Nq.out HB4B.out))
      have NWC := Lib.hid (show Near w _ from Kept.mono ((NWB.out.trans Nq.out).kept.trans kq) (fun b hb e => by omega))
      have HB2C := Lib.hid b2q
      clear oq kq b2q hvs c0 c1 q0 q1 d0 d1 df Sq Rq Nq HVq
      generalize ((vq.setCell ⟨w.heap.size, 0, none⟩ (.slice soq (go h (go l L)).length scq)).setCell ⟨w.heap.size, 1, none⟩ (.slice loq (go h (go l L)).length lcq)) = w4 at *
      -- the places
      have hgC := go_good h (go l L) ok.2.2.2.2.2 hgl
      have hinl : In (go h (go l L)) l := go_mono (go_in l L)
      have hinh : In (go h (go l L)) h := go_in h (go l L)
      have HPl := Lib.hid (placeZ_in hinl)
      have HPh := Lib.hid (placeZ_in hinh)
      have HLkC := Lib.hid (show ∀ s ∈ go h (go l L), s.Ok from fun s h => (hgC.all s h).2)
      have hlenC : (go h (go l L)).length < 1099511627776 := by omega
      have HSK7 := Lib.hid (show ∀ w', Near w4 w' → w'.cell? ⟨w.heap.size, 0, none⟩ = some (.slice soq (go h (go l L)).length scq) ∧ w'.cell? ⟨w.heap.size, 1, none⟩ = some (.slice loq (go h (go l L)).length lcq) ∧ w'.cell? ⟨ba, 0, none⟩ = some (.slice x1 x2 x3) ∧ w'.cell? ⟨ba, 1, none⟩ = some (.slice x4 x5 x6) ∧ w'.cell? ⟨bb, 0, none⟩ = some (.slice y1 y2 y3) ∧ w'.cell? ⟨bb, 1, none⟩ = some (.slice y4 y5 y6) from fun w' h => ⟨cell1 (o := 0) (keepN h HB2C.out) rfl, cell1 (o := 1) (keepN h HB2C.out) rfl, cell1 (o := 0) (keepN h HBaC.out) rfl, cell1 (o := 1) (keepN h HBaC.out) rfl, cell1 (o := 0) (keepN h HBbC.out) rfl, cell1 (o := 1) (keepN h HBbC.out) rfl⟩)
      refine wp_region_noPanic ?_
      refine wp_region_Z (by kernel_rfl) (fun w' => w'.cell? ⟨w.heap.size, 0, none⟩ = some (.slice soq (go h (go l L)).length scq) ∧ w'.cell? ⟨w.heap.size, 1, none⟩ = some (.slice loq (go h (go l L)).length lcq) ∧ w'.cell? ⟨ba, 0, none⟩ = some (.slice x1 x2 x3) ∧ w'.cell? ⟨ba, 1, none⟩ = some (.slice x4 x5 x6) ∧ w'.cell? ⟨bb, 0, none⟩ = some (.slice y1 y2 y3) ∧ w'.cell? ⟨bb, 1, none⟩ = some (.slice y4 y5 y6)) 9 (HSK7.out _ (Near.refl _).drew) (fun hS => ?_)
      refine takeZ0 (v := Value.int .i64 i) (by kernel_rfl) (by kernel_rfl) (by kernel_rfl) (by kernel_rfl) (fun _ _ _ h => h) (Or.inl ⟨by rfl, fun w' hS' => by dsimp only at hS'; obtain ⟨s0, s1, s2, s3, s4, s5⟩ := hS'; go_simp⟩) hS ?_
      try simp only [Act.put, List.setIfInBounds_toArray, List.set_cons_zero, List.set_cons_succ]
      refine takeZ1 (v := Value.agg #[.slice soq (go h (go l L)).length scq, .slice loq (go h (go l L)).length lcq]) (by kernel_rfl) (by kernel_rfl) (by kernel_rfl) (by kernel_rfl) (fun _ _ _ h => h) (Or.inl ⟨by rfl, fun w' hS' => by dsimp only at hS'; obtain ⟨s0, s1, s2, s3, s4, s5⟩ := hS'; go_simp⟩) hS ?_
      try simp only [Act.put, List.setIfInBounds_toArray, List.set_cons_zero, List.set_cons_succ]
      refine takeZ2 (v := Value.agg #[Value.slice x1 x2 x3, Value.slice x4 x5 x6]) (by kernel_rfl) (by kernel_rfl) (by kernel_rfl) (by kernel_rfl) (fun _ _ _ h => h) (Or.inl ⟨by rfl, fun w' hS' => by dsimp only at hS'; obtain ⟨s0, s1, s2, s3, s4, s5⟩ := hS'; go_simp⟩) hS ?_
      try simp only [Act.put, List.setIfInBounds_toArray, List.set_cons_zero, List.set_cons_succ]
      refine takeZ4 (v := Value.agg #[.slice soq (go h (go l L)).length scq, .slice loq (go h (go l L)).length lcq]) (by kernel_rfl) (by kernel_rfl) (by kernel_rfl) (by kernel_rfl) (fun _ _ _ h => h) (Or.inl ⟨by rfl, fun w' hS' => by dsimp only at hS'; obtain ⟨s0, s1, s2, s3, s4, s5⟩ := hS'; go_simp⟩) hS ?_
      try simp only [Act.put, List.setIfInBounds_toArray, List.set_cons_zero, List.set_cons_succ]
      refine takeZ5 (v := Value.agg #[Value.slice y1 y2 y3, Value.slice y4 y5 y6]) (by kernel_rfl) (by kernel_rfl) (by kernel_rfl) (by kernel_rfl) (fun _ _ _ h => h) (Or.inl ⟨by rfl, fun w' hS' => by dsimp only at hS'; obtain ⟨s0, s1, s2, s3, s4, s5⟩ := hS'; go_simp⟩) hS ?_
      try simp only [Act.put, List.setIfInBounds_toArray, List.set_cons_zero, List.set_cons_succ]
      refine wpAnyZ_inv2 [(3, some 34), (6, some 37), (7, some 38), (8, some 8), (9, none)] (BoxI [(3, Value.int .i64 (pl (go h (go l L)) l : Nat)), (6, .int .i64 (pl (go h (go l L)) h : Nat)), (7, .agg #[.int .i64 i, .int .i64 (pl (go h (go l L)) l : Nat), .int .i64 (pl (go h (go l L)) h : Nat)])] 8 9 #[.int .i64 0, .int .i64 0, .int .i64 0] #[.int .i64 i, .int .i64 (pl (go h (go l L)) l : Nat), .int .i64 (pl (go h (go l L)) h : Nat)] 26 w4) (fun _ => undef) (by kernel_rfl) (by kernel_rfl) ?start7 ?rest7
      case start7 =>
        intro p hp
        simp only [List.all_cons, List.all_nil, Bool.and_true, Bool.and_eq_true, Bool.not_eq_true'] at hp
        exact BoxI.start (by simp [hp.1, hp.2.1, hp.2.2.1]) hp.2.2.2.1 hp.2.2.2.2 (Near.refl _).drew
      case rest7 =>
        intro A0 hA0
        have e31 := Lib.hid (show A0.eval (.tmp 31) = .int .i64 i by rw [hA0]; rfl)
        have e32 := Lib.hid (show A0.eval (.tmp 32) = Value.agg #[.slice soq (go h (go l L)).length scq, .slice loq (go h (go l L)).length lcq] by rw [hA0]; rfl)
        have e33 := Lib.hid (show A0.eval (.tmp 33) = .agg #[.slice x1 x2 x3, .slice x4 x5 x6] by rw [hA0]; rfl)
        have e35 := Lib.hid (show A0.eval (.tmp 35) = Value.agg #[.slice soq (go h (go l L)).length scq, .slice loq (go h (go l L)).length lcq] by rw [hA0]; rfl)
        have e36 := Lib.hid (show A0.eval (.tmp 36) = .agg #[.slice y1 y2 y3, .slice y4 y5 y6] by rw [hA0]; rfl)
        have hsz := Lib.hid (show A0.tmps.size = 52 by rw [hA0]; rfl)
        have HA0 := Lib.hid hA0
        clear hA0
        refine ⟨stepI3 [] (by kernel_rfl) ?s3 (stepI6 [3] (by kernel_rfl) ?s6 (stepI7 [3, 6] (by kernel_rfl) ?s7 (stepI8 [] (by kernel_rfl) ?s8 (stepI9 [7, 8, 3, 6] (by kernel_rfl) ?s9 StepsI.nil)))), ?fin7⟩
        case s3 =>
          intro p env w5 hp hd hI K hK
          have t1 := (actOf_base (p := p) (env := env) (a := A0) (ds := [(3, some 34), (6, some 37), (7, some 38), (8, some 8), (9, none)]) (s := 32) rfl).trans e32.out
          have t2 := (actOf_base (p := p) (env := env) (a := A0) (ds := [(3, some 34), (6, some 37), (7, some 38), (8, some 8), (9, none)]) (s := 33) rfl).trans e33.out
          refine step_call rfl 87 #[.tmp 32, .tmp 33] #[113, 37] rfl (fun vs w => call_enters Try.func87 (by kernel_rfl) rfl vs w) #[Value.agg #[.slice soq (go h (go l L)).length scq, .slice loq (go h (go l L)).length lcq], .agg #[.slice x1 x2 x3, .slice x4 x5 x6]] ?_ ((place_calls (L := go h (go l L)) (t := l) (HSC.out.map hI.near (fun _ _ h => h.near hI.near)) (HGlC.out.near hI.near) ok.2.2.2.2.1 HLkC.out hlenC).mono (R' := fun e w' => ∃ v, e = .returned v ∧ (v = .int .i64 (pl (go h (go l L)) l : Nat) ∧ Near w5 w')) (fun e w' h => ⟨_, h.1, by rw [HPl.out], h.2⟩)) ?_
          · simp only [List.map_toArray, List.map_cons, List.map_nil, t1, t2]
          rintro v w6 ⟨rfl, n⟩
          exact hK.out _ _ (Or.inr (HSK7.out _ (hI.near.trans n))) (hI.val (by simp) (by decide) (by decide) n)
        case s6 =>
          intro p env w5 hp hd hI K hK
          have t1 := (actOf_base (p := p) (env := env) (a := A0) (ds := [(3, some 34), (6, some 37), (7, some 38), (8, some 8), (9, none)]) (s := 35) rfl).trans e35.out
          have t2 := (actOf_base (p := p) (env := env) (a := A0) (ds := [(3, some 34), (6, some 37), (7, some 38), (8, some 8), (9, none)]) (s := 36) rfl).trans e36.out
          refine step_call rfl 87 #[.tmp 35, .tmp 36] #[113, 37] rfl (fun vs w => call_enters Try.func87 (by kernel_rfl) rfl vs w) #[Value.agg #[.slice soq (go h (go l L)).length scq, .slice loq (go h (go l L)).length lcq], .agg #[.slice y1 y2 y3, .slice y4 y5 y6]] ?_ ((place_calls (L := go h (go l L)) (t := h) (HSC.out.map hI.near (fun _ _ h => h.near hI.near)) (HGhC.out.near hI.near) ok.2.2.2.2.2 HLkC.out hlenC).mono (R' := fun e w' => ∃ v, e = .returned v ∧ (v = .int .i64 (pl (go h (go l L)) h : Nat) ∧ Near w5 w')) (fun e w' h => ⟨_, h.1, by rw [HPh.out], h.2⟩)) ?_
          · simp only [List.map_toArray, List.map_cons, List.map_nil, t1, t2]
          rintro v w6 ⟨rfl, n⟩
          exact hK.out _ _ (Or.inr (HSK7.out _ (hI.near.trans n))) (hI.val (by simp) (by decide) (by decide) n)
        case s7 =>
          intro p env w5 hp hd hI K hK
          simp only [List.all_cons, List.all_nil, Bool.and_true, Bool.and_eq_true] at hd
          have t1 := slot_of ((actOf_base (p := p) (env := env) (a := A0) (ds := [(3, some 34), (6, some 37), (7, some 38), (8, some 8), (9, none)]) (s := 31) rfl).trans e31.out)
          have t2 := slot_of ((actOf_eval (p := p) (env := env) (a := A0) (i := 3) (s := 34) hd.1 (by rw [hsz.out]; decide) (ds := [(3, some 34), (6, some 37), (7, some 38), (8, some 8), (9, none)]) rfl (by simp)).trans (hI.vals _ (.head _) hd.1))
          have t3 := slot_of ((actOf_eval (p := p) (env := env) (a := A0) (i := 6) (s := 37) hd.2 (by rw [hsz.out]; decide) (ds := [(3, some 34), (6, some 37), (7, some 38), (8, some 8), (9, none)]) rfl (by simp)).trans (hI.vals _ (.tail _ (.head _)) hd.2))
          generalize actOf [(3, some 34), (6, some 37), (7, some 38), (8, some 8), (9, none)] p env A0 = A at t1 t2 t3 hK ⊢
          simp only at t2 t3
          go_simp
          exact hK.out _ _ (Or.inr (HSK7.out _ hI.near)) (hI.val (by simp) (by decide) (by decide) (Near.refl _))
        case s8 =>
          intro p env w5 hp hd hI K hK
          generalize actOf [(3, some 34), (6, some 37), (7, some 38), (8, some 8), (9, none)] p env A0 = A at hK ⊢
          go_simp
          have hI2 := hI.lay hp (by simp) (by decide)
          exact hK.out _ _ (Or.inr (HSK7.out _ hI2.near)) hI2
        case s9 =>
          intro p env w5 hp hd hI K hK
          simp only [List.all_cons, List.all_nil, Bool.and_true, Bool.and_eq_true] at hd
          obtain ⟨h7, h8, -, -⟩ := hd
          obtain ⟨b, b1, b3, b4⟩ := hI.fill h8 hp (by simp) (by decide)
          have t1 := slot_of ((actOf_eval (p := p) (env := env) (a := A0) (i := 8) (s := 8) h8 (by rw [hsz.out]; decide) (ds := [(3, some 34), (6, some 37), (7, some 38), (8, some 8), (9, none)]) rfl (by simp)).trans b1)
          have t2 := slot_of ((actOf_eval (p := p) (env := env) (a := A0) (i := 7) (s := 38) h7 (by rw [hsz.out]; decide) (ds := [(3, some 34), (6, some 37), (7, some 38), (8, some 8), (9, none)]) rfl (by simp)).trans (hI.vals _ (.tail _ (.tail _ (.head _))) h7))
          generalize actOf [(3, some 34), (6, some 37), (7, some 38), (8, some 8), (9, none)] p env A0 = A at t1 t2 hK ⊢
          simp only at t2
          have z0 := cell1 (o := 0) b3 rfl
          have z1 := cell1 (o := 1) b3 rfl
          have z2 := cell1 (o := 2) b3 rfl
          have zf := free1 b3
          go_simp
          exact hK.out undef _ (Or.inl rfl) (b4 undef _ (kept_three _ _ _) (stored_three b3 _ _ _))
        case fin7 =>
          intro p env w5 hp hI
          simp only [List.all_cons, List.all_nil, Bool.and_true, Bool.and_eq_true] at hp
          obtain ⟨h3, h6, h7, h8, h9⟩ := hp
          obtain ⟨bd, d1, d2, d3⟩ := hI.box h8
          rw [h9] at d3
          refine NoPanic.normal ?_
          rw [HA0.out]
          simp only [actOf, h3, h6, h7, h8, h9, if_true, Act.put, List.setIfInBounds_toArray, List.set_cons_zero, List.set_cons_succ]
          rw [d1]
          have NWD := Lib.hid (NWC.out.trans hI.near)
          have HB2D := Lib.hid (keepN hI.near HB2C.out)
          have HB3D := Lib.hid (keepN hI.near HB3C.out)
          have HB4D := Lib.hid (keepN hI.near HB4C.out)
          have HGaD := Lib.hid (HGaC.out.near hI.near)
          have HRD := Lib.hid (owns_kept HRC.out hI.near.kept (fun _ _ x => x))
          have HBD := Lib.hid (show w5.heap[bd]? = some (.cells #[.int .i64 i, .int .i64 (pl (go h (go l L)) l : Nat), .int .i64 (pl (go h (go l L)) h : Nat)] 26 (0, 0)) from d3)
          obtain ⟨vs, hrow, hvl, his⟩ := HSC.out.map hI.near (fun _ _ h => h.near hI.near)
          rw [List.length_map] at hrow hvl
          have HROW := Lib.hid hrow
          have HVL := Lib.hid hvl
          have HIS := Lib.hid his
          have hone : ∀ u ∈ flat2 vs, u.oneCell' = true := flat2_one fun j p hp => by
            have hj : j < ((go h (go l L)).map fun s => s.ev).length := by rw [List.length_map, ← HVL.out]; exact (List.getElem?_eq_some_iff.1 hp).1
            obtain ⟨c1, c2, c3, c4, c5, c6, ec⟩ := (HIS.out j _ p (List.getElem?_eq_getElem hj) hp).form
            simp only [Value.agg.injEq, Array.mk.injEq, List.cons.injEq, and_true] at ec
            rw [ec.1, ec.2]
            exact ⟨rfl, rfl⟩
          have HOne := Lib.hid hone
          have HG3 := Lib.hid hgC
          have hw5s := NWD.out.size'
          have hW4s := (Array.getElem?_eq_some_iff.1 HB4D.out).1
          have HSK8 := Lib.hid (show ∀ w', Near w5 w' → w'.cell? ⟨w.heap.size, 0, none⟩ = some (.slice soq (go h (go l L)).length scq) ∧ w'.cell? ⟨w.heap.size, 1, none⟩ = some (.slice loq (go h (go l L)).length lcq) ∧ w'.cell? ⟨w.heap.size + 1, 0, none⟩ = some (.slice a1 a2 a3) ∧ w'.cell? ⟨w.heap.size + 1, 1, none⟩ = some (.slice a4 a5 a6) ∧ w'.cell? ⟨bd, 0, none⟩ = some (.int .i64 i) ∧ w'.cell? ⟨bd, 1, none⟩ = some (.int .i64 (pl (go h (go l L)) l : Nat)) ∧ w'.cell? ⟨bd, 2, none⟩ = some (.int .i64 (pl (go h (go l L)) h : Nat)) from fun w' h => ⟨cell1 (o := 0) (keepN h HB2D.out) rfl, cell1 (o := 1) (keepN h HB2D.out) rfl, cell1 (o := 0) (keepN h HB3D.out) rfl, cell1 (o := 1) (keepN h HB3D.out) rfl, cell1 (o := 0) (keepN h HBD.out) rfl, cell1 (o := 1) (keepN h HBD.out) rfl, cell1 (o := 2) (keepN h HBD.out) rfl⟩)
          have HPE := Lib.hid (show enc (go (node i l h) L) = enc (go h (go l L)) ++ [⟨i, pl (go h (go l L)) l, pl (go h (go l L)) h⟩] by
            simp only [go, if_neg hnot]
            exact enc_snoc hgC hinl hinh)
          have HPG := Lib.hid (show go (node i l h) L = go h (go l L) ++ [node i l h] by simp only [go, if_neg hnot])
          have hnL := hlenC
          clear hI h3 h6 h7 h8 h9 d1 d2 d3 hrow hvl his hone HA0 e31 e32 e33 e35 e36 hsz hS HSK7 HPl HPh HLkC HBaC HBbC HB2C HB3C HB4C HGlC HGhC HGaC HSC HRC NWC hgC hgl hrl hrh il ih
          generalize go h (go l L) = L2 at *
          go_upto_region 8 with fail
          refine wp_region_noPanic ?_
          refine wp_region_Z (by kernel_rfl) (fun w' => w'.cell? ⟨w.heap.size, 0, none⟩ = some (.slice soq L2.length scq) ∧ w'.cell? ⟨w.heap.size, 1, none⟩ = some (.slice loq L2.length lcq) ∧ w'.cell? ⟨w.heap.size + 1, 0, none⟩ = some (.slice a1 a2 a3) ∧ w'.cell? ⟨w.heap.size + 1, 1, none⟩ = some (.slice a4 a5 a6) ∧ w'.cell? ⟨bd, 0, none⟩ = some (.int .i64 i) ∧ w'.cell? ⟨bd, 1, none⟩ = some (.int .i64 (pl L2 l : Nat)) ∧ w'.cell? ⟨bd, 2, none⟩ = some (.int .i64 (pl L2 h : Nat))) 13 (HSK8.out _ (Near.refl _).drew) (fun hS => ?_)
          refine takeZ0 (v := Value.pointer (some ⟨w.heap.size, 0, none⟩)) (by kernel_rfl) (by kernel_rfl) (by kernel_rfl) (by kernel_rfl) (fun _ _ _ h => h) (Or.inl ⟨by rfl, fun w' hS' => by dsimp only at hS'; obtain ⟨s0, s1, s2, s3, s4, s5, s6⟩ := hS'; go_simp⟩) hS ?_
          try simp only [Act.put, List.setIfInBounds_toArray, List.set_cons_zero, List.set_cons_succ]
          refine takeZ1 (v := Value.slice soq L2.length scq) (by kernel_rfl) (by kernel_rfl) (by kernel_rfl) (by kernel_rfl) (fun _ _ _ h => h) (Or.inl ⟨by rfl, fun w' hS' => by dsimp only at hS'; obtain ⟨s0, s1, s2, s3, s4, s5, s6⟩ := hS'; go_simp⟩) hS ?_
          try simp only [Act.put, List.setIfInBounds_toArray, List.set_cons_zero, List.set_cons_succ]
          refine takeZ3 (v := Value.agg #[.slice a1 a2 a3, .slice a4 a5 a6]) (by kernel_rfl) (by kernel_rfl) (by kernel_rfl) (by kernel_rfl) (fun _ _ _ h => h) (Or.inl ⟨by rfl, fun w' hS' => by dsimp only at hS'; obtain ⟨s0, s1, s2, s3, s4, s5, s6⟩ := hS'; go_simp⟩) hS ?_
          try simp only [Act.put, List.setIfInBounds_toArray, List.set_cons_zero, List.set_cons_succ]
          refine takeZ6 (v := Value.pointer (some ⟨w.heap.size, 1, none⟩)) (by kernel_rfl) (by kernel_rfl) (by kernel_rfl) (by kernel_rfl) (fun _ _ _ h => h) (Or.inl ⟨by rfl, fun w' hS' => by dsimp only at hS'; obtain ⟨s0, s1, s2, s3, s4, s5, s6⟩ := hS'; go_simp⟩) hS ?_
          try simp only [Act.put, List.setIfInBounds_toArray, List.set_cons_zero, List.set_cons_succ]
          refine takeZ7 (v := Value.slice loq L2.length lcq) (by kernel_rfl) (by kernel_rfl) (by kernel_rfl) (by kernel_rfl) (fun _ _ _ h => h) (Or.inl ⟨by rfl, fun w' hS' => by dsimp only at hS'; obtain ⟨s0, s1, s2, s3, s4, s5, s6⟩ := hS'; go_simp⟩) hS ?_
          try simp only [Act.put, List.setIfInBounds_toArray, List.set_cons_zero, List.set_cons_succ]
          refine takeZ9 (v := Value.agg #[.int .i64 i, .int .i64 (pl L2 l : Nat), .int .i64 (pl L2 h : Nat)]) (by kernel_rfl) (by kernel_rfl) (by kernel_rfl) (by kernel_rfl) (fun _ _ _ h => h) (Or.inl ⟨by rfl, fun w' hS' => by dsimp only at hS'; obtain ⟨s0, s1, s2, s3, s4, s5, s6⟩ := hS'; go_simp⟩) hS ?_
          try simp only [Act.put, List.setIfInBounds_toArray, List.set_cons_zero, List.set_cons_succ]
          refine wpAnyZ_inv2 [(2, some 41), (4, some 43), (5, some 44), (8, some 47), (10, some 49), (11, some 50), (12, some 51), (13, none)] (AppI 37 2 L2.length (flat2 vs) #[.slice a1 a2 a3, .slice a4 a5 a6] 26 3 L2.length (cellsOf (enc L2)) #[.int .i64 i, .int .i64 (pl L2 l : Nat), .int .i64 (pl L2 h : Nat)] (w.heap.size + 1 + 1) w5) (fun _ => undef) (by kernel_rfl) (by kernel_rfl) ?start8 ?rest8
          case start8 =>
            intro p hp
            simp only [List.all_cons, List.all_nil, Bool.and_true, Bool.and_eq_true, Bool.not_eq_true'] at hp
            exact AppI.start hp (Near.refl _).drew
          case rest8 =>
            intro A0 hA0
            have e40 := Lib.hid (show A0.eval (.tmp 40) = .slice soq L2.length scq by rw [hA0]; rfl)
            have e42 := Lib.hid (show A0.eval (.tmp 42) = .agg #[.slice a1 a2 a3, .slice a4 a5 a6] by rw [hA0]; rfl)
            have e46 := Lib.hid (show A0.eval (.tmp 46) = .slice loq L2.length lcq by rw [hA0]; rfl)
            have e48 := Lib.hid (show A0.eval (.tmp 48) = .agg #[.int .i64 i, .int .i64 (pl L2 l : Nat), .int .i64 (pl L2 h : Nat)] by rw [hA0]; rfl)
            have e4 := Lib.hid (show A0.eval (.tmp 4) = .pointer (some ⟨w.heap.size + 1 + 1, 0, none⟩) by rw [hA0]; rfl)
            have hsz := Lib.hid (show A0.tmps.size = 52 by rw [hA0]; rfl)
            have HA0 := Lib.hid hA0
            clear hA0
            refine ⟨stepI2 [] (by kernel_rfl) ?s2 (stepI4 [] (by kernel_rfl) ?s4 (stepI5 [2, 4] (by kernel_rfl) ?s5 (stepI8 [] (by kernel_rfl) ?s8 (stepI10 [] (by kernel_rfl) ?s10 (stepI11 [8, 10] (by kernel_rfl) ?s11 (stepI12 [5, 11] (by kernel_rfl) ?s12 (stepI13 [12] (by kernel_rfl) ?s13 StepsI.nil))))))), ?fin8⟩
            case s2 =>
              intro p env w6 hp hd hI K hK
              have t1 := (actOf_base (p := p) (env := env) (a := A0) (ds := [(2, some 41), (4, some 43), (5, some 44), (8, some 47), (10, some 49), (11, some 50), (12, some 51), (13, none)]) (s := 40) rfl).trans e40.out
              have hnear := hI.near (hI.no.2.2.2.2.2.2 (hI.no.2.2.2.2.1 (hI.no.1 hp)))
              generalize actOf [(2, some 41), (4, some 43), (5, some 44), (8, some 47), (10, some 49), (11, some 50), (12, some 51), (13, none)] p env A0 = A at t1 hK ⊢
              refine step_append_more rfl (.const (.slice none 0 0)) (.tmp 40) 46 rfl w5.heap.size 37 i7 (.agg #[.slice none 0 0, .slice none 0 0]) 2 48 Try.underlying46 hi7 hy0 hy1 hy2 rfl (by decide) (.slice none 0 0) 0 [] rfl (World.ownsRow_nil _ _ _ _) (.slice soq L2.length scq) L2.length (flat2 vs) t1 (srcOf_owns (owns_kept HROW.out hnear.kept (fun _ _ x => x))) HOne.out (by unfold maxLen; omega) (by omega) hnear.size' ?_
              intro ao cap w7 hr7 hg7
              rw [Nat.zero_add, List.nil_append] at hr7
              rw [Nat.zero_add]
              have hn7 := grown_near hg7
              exact hK.out _ _ (Or.inr (HSK8.out _ (hnear.trans hn7))) (hI.s2 hp hn7 hr7)
            case s4 =>
              intro p env w6 hp hd hI K hK
              have t0 := (actOf_base (p := p) (env := env) (a := A0) (ds := [(2, some 41), (4, some 43), (5, some 44), (8, some 47), (10, some 49), (11, some 50), (12, some 51), (13, none)]) (s := 42) rfl).trans e42.out
              have t1 := slot_of t0
              clear t0
              generalize actOf [(2, some 41), (4, some 43), (5, some 44), (8, some 47), (10, some 49), (11, some 50), (12, some 51), (13, none)] p env A0 = A at t1 hK ⊢
              go_simp
              have hI2 := hI.s4 hp
              exact hK.out _ _ (Or.inr (HSK8.out _ (hI2.near (hI2.no.2.2.2.2.2.2 (hI2.no.2.2.2.2.1 (hI.no.2.1 hp)))))) hI2
            case s5 =>
              intro p env w6 hp hd hI K hK
              simp only [List.all_cons, List.all_nil, Bool.and_true, Bool.and_eq_true] at hd
              have hnear := hI.near (hI.no.2.2.2.2.2.2 (hI.no.2.2.2.2.1 hp))
              have hr := hI.a1 hd.1 hp
              obtain ⟨b, q1, q2, q3⟩ := hI.a2 hd.2 hp
              have t1 := (actOf_eval (p := p) (env := env) (a := A0) (i := 2) (s := 41) hd.1 (by rw [hsz.out]; decide) (ds := [(2, some 41), (4, some 43), (5, some 44), (8, some 47), (10, some 49), (11, some 50), (12, some 51), (13, none)]) rfl (by simp)).trans rfl
              have t2 := (actOf_eval (p := p) (env := env) (a := A0) (i := 4) (s := 43) hd.2 (by rw [hsz.out]; decide) (ds := [(2, some 41), (4, some 43), (5, some 44), (8, some 47), (10, some 49), (11, some 50), (12, some 51), (13, none)]) rfl (by simp)).trans q1
              generalize actOf [(2, some 41), (4, some 43), (5, some 44), (8, some 47), (10, some 49), (11, some 50), (12, some 51), (13, none)] p env A0 = A at t1 t2 hK ⊢
              refine step_append_more rfl (.tmp 41) (.tmp 43) 46 rfl w5.heap.size 37 i7 (.agg #[.slice none 0 0, .slice none 0 0]) 2 48 Try.underlying46 hi7 hy0 hy1 hy2 rfl (by decide) (env 2) L2.length (flat2 vs) t1 hr (.slice (some ⟨b, 0, none⟩) 1 1) 1 [.slice a1 a2 a3, .slice a4 a5 a6] t2 ⟨rfl, .inr ⟨⟨b, 0, none⟩, 1, rfl, cells_two q3⟩⟩ (by simp [Value.oneCell']) (by unfold maxLen; omega) (by omega) hnear.size' ?_
              intro ao cap w7 hr7 hg7
              exact hK.out _ _ (Or.inr (HSK8.out _ (grown_near0 hnear hg7 hr))) (hI.s5 hp hd.1 hd.2 (grown_near0 hnear hg7 hr) (grown_only hg7 hr) (by decide) hr7)
            case s8 =>
              intro p env w6 hp hd hI K hK
              have t1 := (actOf_base (p := p) (env := env) (a := A0) (ds := [(2, some 41), (4, some 43), (5, some 44), (8, some 47), (10, some 49), (11, some 50), (12, some 51), (13, none)]) (s := 46) rfl).trans e46.out
              have hnear := hI.near (hI.no.2.2.2.2.2.2 (hI.no.2.2.2.2.2.1 (hI.no.2.2.1 hp)))
              generalize actOf [(2, some 41), (4, some 43), (5, some 44), (8, some 47), (10, some 49), (11, some 50), (12, some 51), (13, none)] p env A0 = A at t1 hK ⊢
              refine step_append_more rfl (.const (.slice none 0 0)) (.tmp 46) 22 rfl w5.heap.size 26 i0 (.agg #[.int .i64 0, .int .i64 0, .int .i64 0]) 3 24 Try.underlying22 hi0 hz0 hz1 hz2 rfl (by decide) (.slice none 0 0) 0 [] rfl (World.ownsRow_nil _ _ _ _) (.slice loq L2.length lcq) L2.length (cellsOf (enc L2)) t1 (srcOf_owns (owns_kept HRD.out hnear.kept (fun _ _ x => x))) cellsOf_one (by unfold maxLen; omega) (by omega) hnear.size' ?_
              intro ao cap w7 hr7 hg7
              rw [Nat.zero_add, List.nil_append] at hr7
              rw [Nat.zero_add]
              have hn7 := grown_near hg7
              exact hK.out _ _ (Or.inr (HSK8.out _ (hnear.trans hn7))) (hI.s8 hp hn7 hr7)
            case s10 =>
              intro p env w6 hp hd hI K hK
              have t0 := (actOf_base (p := p) (env := env) (a := A0) (ds := [(2, some 41), (4, some 43), (5, some 44), (8, some 47), (10, some 49), (11, some 50), (12, some 51), (13, none)]) (s := 48) rfl).trans e48.out
              have t1 := slot_of t0
              clear t0
              generalize actOf [(2, some 41), (4, some 43), (5, some 44), (8, some 47), (10, some 49), (11, some 50), (12, some 51), (13, none)] p env A0 = A at t1 hK ⊢
              go_simp
              have hI2 := hI.s10 hp
              exact hK.out _ _ (Or.inr (HSK8.out _ (hI2.near (hI2.no.2.2.2.2.2.2 (hI2.no.2.2.2.2.2.1 (hI.no.2.2.2.1 hp)))))) hI2
            case s11 =>
              intro p env w6 hp hd hI K hK
              simp only [List.all_cons, List.all_nil, Bool.and_true, Bool.and_eq_true] at hd
              have hnear := hI.near (hI.no.2.2.2.2.2.2 (hI.no.2.2.2.2.2.1 hp))
              have hr := hI.b1 hd.1 hp
              obtain ⟨b, q1, q2, q3⟩ := hI.b2 hd.2 hp
              have t1 := (actOf_eval (p := p) (env := env) (a := A0) (i := 8) (s := 47) hd.1 (by rw [hsz.out]; decide) (ds := [(2, some 41), (4, some 43), (5, some 44), (8, some 47), (10, some 49), (11, some 50), (12, some 51), (13, none)]) rfl (by simp)).trans rfl
              have t2 := (actOf_eval (p := p) (env := env) (a := A0) (i := 10) (s := 49) hd.2 (by rw [hsz.out]; decide) (ds := [(2, some 41), (4, some 43), (5, some 44), (8, some 47), (10, some 49), (11, some 50), (12, some 51), (13, none)]) rfl (by simp)).trans q1
              generalize actOf [(2, some 41), (4, some 43), (5, some 44), (8, some 47), (10, some 49), (11, some 50), (12, some 51), (13, none)] p env A0 = A at t1 t2 hK ⊢
              refine step_append_more rfl (.tmp 47) (.tmp 49) 22 rfl w5.heap.size 26 i0 (.agg #[.int .i64 0, .int .i64 0, .int .i64 0]) 3 24 Try.underlying22 hi0 hz0 hz1 hz2 rfl (by decide) (env 8) L2.length (cellsOf (enc L2)) t1 hr (.slice (some ⟨b, 0, none⟩) 1 1) 1 [.int .i64 i, .int .i64 (pl L2 l : Nat), .int .i64 (pl L2 h : Nat)] t2 ⟨rfl, .inr ⟨⟨b, 0, none⟩, 1, rfl, cells_three q3⟩⟩ (by simp [Value.oneCell']) (by unfold maxLen; omega) (by omega) hnear.size' ?_
              intro ao cap w7 hr7 hg7
              exact hK.out _ _ (Or.inr (HSK8.out _ (grown_near0 hnear hg7 hr))) (hI.s11 hp hd.1 hd.2 (grown_near0 hnear hg7 hr) (grown_only hg7 hr) (by decide) hr7)
            case s12 =>
              intro p env w6 hp hd hI K hK
              simp only [List.all_cons, List.all_nil, Bool.and_true, Bool.and_eq_true] at hd
              have h13 := hI.no.2.2.2.2.2.2 hp
              obtain ⟨ao, ac, ea⟩ := owns_form (hI.a3 hd.1 h13)
              obtain ⟨bo, bc, eb⟩ := owns_form (hI.b3 hd.2 h13)
              have t1 := (actOf_eval (p := p) (env := env) (a := A0) (i := 5) (s := 44) hd.1 (by rw [hsz.out]; decide) (ds := [(2, some 41), (4, some 43), (5, some 44), (8, some 47), (10, some 49), (11, some 50), (12, some 51), (13, none)]) rfl (by simp)).trans ea
              have t2 := (actOf_eval (p := p) (env := env) (a := A0) (i := 11) (s := 50) hd.2 (by rw [hsz.out]; decide) (ds := [(2, some 41), (4, some 43), (5, some 44), (8, some 47), (10, some 49), (11, some 50), (12, some 51), (13, none)]) rfl (by simp)).trans eb
              have hI2 := hI.s12 hp hd.1 hd.2
              rw [ea, eb] at hI2
              replace t1 := slot_of t1
              replace t2 := slot_of t2
              generalize actOf [(2, some 41), (4, some 43), (5, some 44), (8, some 47), (10, some 49), (11, some 50), (12, some 51), (13, none)] p env A0 = A at t1 t2 hK ⊢
              go_simp
              exact hK.out _ _ (Or.inr (HSK8.out _ (hI.near h13))) hI2
            case s13 =>
              intro p env w6 hp hd hI K hK
              simp only [List.all_cons, List.all_nil, Bool.and_true] at hd
              obtain ⟨h5, h11⟩ := hI.o12 hd
              obtain ⟨ao, ac, ea⟩ := owns_form (hI.a3 h5 hp)
              obtain ⟨bo, bc, eb⟩ := owns_form (hI.b3 h11 hp)
              have hv := hI.v12 hd
              rw [ea, eb] at hv
              have t1 := (actOf_eval (p := p) (env := env) (a := A0) (i := 12) (s := 51) hd (by rw [hsz.out]; decide) (ds := [(2, some 41), (4, some 43), (5, some 44), (8, some 47), (10, some 49), (11, some 50), (12, some 51), (13, none)]) rfl (by simp)).trans hv
              have t0 := (actOf_base (p := p) (env := env) (a := A0) (ds := [(2, some 41), (4, some 43), (5, some 44), (8, some 47), (10, some 49), (11, some 50), (12, some 51), (13, none)]) (s := 4) rfl).trans e4.out
              replace t1 := slot_of t1
              replace t0 := slot_of t0
              have hI2 := hI.s13 (v := undef) hp hd
              rw [ea, eb] at hI2
              generalize actOf [(2, some 41), (4, some 43), (5, some 44), (8, some 47), (10, some 49), (11, some 50), (12, some 51), (13, none)] p env A0 = A at t1 t0 hK ⊢
              have hb4 := keepN (hI.near hp) HB4D.out
              have z0 := cell1 (o := 0) hb4 rfl
              have z1 := cell1 (o := 1) hb4 rfl
              have zf := free1 hb4
              go_simp
              exact hK.out undef _ (Or.inl rfl) hI2
            case fin8 =>
              intro p env w6 hp hI
              simp only [List.all_cons, List.all_nil, Bool.and_true, Bool.and_eq_true] at hp
              obtain ⟨h2, h4, h5, h8, h10, h11, h12, h13⟩ := hp
              obtain ⟨w7, f1, f2, f3, f4⟩ := hI.fin h13
              obtain ⟨ao, ac, ea⟩ := owns_form f2
              obtain ⟨bo, bc, eb⟩ := owns_form f3
              rw [ea] at f2
              rw [eb] at f3
              rw [ea, eb] at f4
              subst f4
              have hb4 := keepN f1 HB4D.out
              have o8 := only_two hb4 (.slice ao (L2.length + 1) ac) (.slice bo (L2.length + 1) bc)
              have hb5 := stored_two hb4 (.slice ao (L2.length + 1) ac) (.slice bo (L2.length + 1) bc)
              have k8 := kept_two (w := w7) (b := w.heap.size + 1 + 1) (.slice ao (L2.length + 1) ac) (.slice bo (L2.length + 1) bc)
              have hS9 : Sets 37 IsG 0 w7 (.slice ao (L2.length + 1) ac) ((L2.map fun s => s.ev) ++ [(node i l h).ev]) := Sets.push (w := w5) (by rw [List.length_map]; exact HVL.out) HIS.out HGaD.out (fun _ _ h => h.near f1) (by rw [List.length_map]; exact ownsRow_low f2 (Nat.zero_le _))
              have hS10 := hS9.only o8 (by decide) (fun _ _ h => h.only o8 (by decide) (by decide))
              have hR10 := ownsRow_low (o8.owns (by decide) f3) (Nat.zero_le _)
              have hN10 : Near w ((w7.setCell ⟨w.heap.size + 1 + 1, 0, none⟩ (.slice ao (L2.length + 1) ac)).setCell ⟨w.heap.size + 1 + 1, 1, none⟩ (.slice bo (L2.length + 1) bc)) := Kept.mono ((NWD.out.trans f1).kept.trans k8) (fun k hk e => by omega)
              refine NoPanic.normal ?_
              rw [HA0.out]
              simp only [actOf, h2, h4, h5, h8, h10, h11, h12, h13, if_true, Act.put, List.setIfInBounds_toArray, List.set_cons_zero, List.set_cons_succ]
              have y0 := cell1 (o := 0) hb5 rfl
              have y1 := cell1 (o := 1) hb5 rfl
              clear hI k8 o8 hb4 hS9 f1 f2 f3
              generalize (w7.setCell ⟨w.heap.size + 1 + 1, 0, none⟩ (.slice ao (L2.length + 1) ac)).setCell ⟨w.heap.size + 1 + 1, 1, none⟩ (.slice bo (L2.length + 1) bc) = w8 at *
              go_wp2_with fail
              refine bodyPost_ret (v := .agg #[.slice ao (L2.length + 1) ac, .slice bo (L2.length + 1) bc]) (by simp [results, Try.results86, go_sem, y0, y1]) rfl ⟨_, _, rfl, ?_, ?_, hN10⟩
              · rw [HPG.out, List.map_append]
                exact hS10
              · rw [HPE.out, HPG.out, List.length_append, cellsOf_snoc]
                exact hR10

theorem through_calls : ∀ t : T, t.Ok → ThruAt t
  | .leaf b, ok => fun L w sv lv va g hlen hs hr ha => through_found g (by omega) hs hr ha ok trivial
  | .node i l h, ok => fun L w sv lv va g hlen hs hr ha => by
    by_cases hm : node i l h ∈ L
    · exact through_found g (by omega) hs hr ha ok hm
    · exact through_new ok (through_calls l ok.2.2.2.2.1) (through_calls h ok.2.2.2.2.2) g hlen hs hr ha hm

end Go.Proofs.Ytefclohjeompkaa

/- The reference: Nodes. -/
namespace Go.Proofs.Ytefclohjeompkaa
open Go Go.RowKit Go.Proofs.Gen Go.Proofs.Bdd Go.Proofs.Bdd.T

set_option maxRecDepth 100000 in
set_option maxHeartbeats 1600000 in
theorem rnodes_calls {w : World} {v : Value} {t : T} (h : IsG w v t.ev) (ok : t.Ok) :
    Calls Try.prog 26 #[v] w fun e w' => ∃ ao cap, e = .returned (.tuple #[.slice ao (ndec t).length cap, .int .i64 (pl (nodes t) t : Nat)]) ∧ RdDec w' (.slice ao (ndec t).length cap) (ndec t) ∧ Near w w' := by
  have HA := Lib.hid h
  obtain ⟨a1, a2, a3, a4, a5, a6, rfl⟩ := h.form
  clear h
  have hr := room_le t
  have hl := nodes_len ok
  have hN : Near w (w.alloc (.cells #[.slice a1 a2 a3, .slice a4 a5 a6] 37)) := (Near.refl w).alloc _
  have hE : (w.alloc (.cells #[.slice a1 a2 a3, .slice a4 a5 a6] 37)).heap[w.heap.size]? = some (.cells #[.slice a1 a2 a3, .slice a4 a5 a6] 37 (0, 0)) := heap_new_at rfl
  go_enter Try.func26, Try.ntmps26
  go_upto_region 1 with fail
  generalize (w.alloc (.cells #[.slice a1 a2 a3, .slice a4 a5 a6] 37)) = W at hN hE ⊢
  have HN := Lib.hid hN
  have HE := Lib.hid hE
  have e0 := cell1 (o := 0) hE rfl
  have e1 := cell1 (o := 1) hE rfl
  clear hN hE
  have hs0 : Sets 37 IsG 0 W (.slice none 0 0) (([] : List T).map fun s => s.ev) := ⟨[], World.ownsRow_nil _ _ _ _, rfl, fun j f p h1 _ => by simp at h1⟩
  have HS0 := Lib.hid hs0
  clear hs0
  go_upto_region 2 with (go_at_call 86; refine (through_calls t ok [] W (.slice none 0 0) (.slice none 0 0) _ .nil (by simp; omega) HS0.out (World.ownsRow_nil _ _ _ _) (HA.out.near HN.out)).mono ?_; rintro e w1 ⟨sv, lv, rfl, s1, r1, n1⟩; obtain ⟨so, sc, es⟩ := s1.form; rw [List.length_map] at es; subst es; obtain ⟨lo, lc, rfl⟩ := owns_form r1; have S1 := Lib.hid s1; have R1 := Lib.hid r1; have N1 := Lib.hid n1; clear s1 r1 n1)
  have hN2 : Near w1 (w1.alloc (.cells #[.slice so (go t []).length sc, .slice lo (go t []).length lc] 113)) := (Near.refl w1).alloc _
  have hB : (w1.alloc (.cells #[.slice so (go t []).length sc, .slice lo (go t []).length lc] 113)).heap[w1.heap.size]? = some (.cells #[.slice so (go t []).length sc, .slice lo (go t []).length lc] 113 (0, 0)) := heap_new_at rfl
  have hE2 := keepN (N1.out.trans hN2) HE.out
  generalize (w1.alloc (.cells #[.slice so (go t []).length sc, .slice lo (go t []).length lc] 113)) = W2 at hN2 hB hE2 ⊢
  have HN2 := Lib.hid (N1.out.trans hN2)
  have HN3 := Lib.hid hN2
  have HB := Lib.hid hB
  have HE2 := Lib.hid hE2
  clear hN2 hB hE2 e0 e1
  have HPl := Lib.hid (placeZ_in (nodes_in t))
  have HLk := Lib.hid (show ∀ s ∈ nodes t, s.Ok from fun s h => ((nodes_good ok).all s h).2)
  have hnd : (ndec t).length = (go t []).length := ndec_len t
  have HND := Lib.hid hnd
  clear hnd
  have HSK := Lib.hid (show ∀ w', Near W2 w' → w'.cell? ⟨w.heap.size, 0, none⟩ = some (.slice a1 a2 a3) ∧ w'.cell? ⟨w.heap.size, 1, none⟩ = some (.slice a4 a5 a6) ∧ w'.cell? ⟨w1.heap.size, 0, none⟩ = some (.slice so (go t []).length sc) ∧ w'.cell? ⟨w1.heap.size, 1, none⟩ = some (.slice lo (go t []).length lc) from
    fun w' h => ⟨cell1 (o := 0) (keepN h HE2.out) rfl, cell1 (o := 1) (keepN h HE2.out) rfl, cell1 (o := 0) (keepN h HB.out) rfl, cell1 (o := 1) (keepN h HB.out) rfl⟩)
  go_region_held3 (fun w' => w'.cell? ⟨w.heap.size, 0, none⟩ = some (.slice a1 a2 a3) ∧ w'.cell? ⟨w.heap.size, 1, none⟩ = some (.slice a4 a5 a6) ∧ w'.cell? ⟨w1.heap.size, 0, none⟩ = some (.slice so (go t []).length sc) ∧ w'.cell? ⟨w1.heap.size, 1, none⟩ = some (.slice lo (go t []).length lc))
    ((refine HSK.out _ ?_; first | exact z1 | exact (Near.refl _).drew))
    (first
      | (go_at_call 87; refine (place_calls (L := nodes t) (t := t) (S1.out.map (HN3.out.trans (Near.refl _).drew) (fun _ _ h => h.near (HN3.out.trans (Near.refl _).drew))) (HA.out.near ((HN.out.trans HN2.out).trans (Near.refl _).drew)) ok HLk.out (by omega)).mono ?_; rintro e v1 ⟨rfl, m1⟩; rw [HPl.out]; have z1 : Near W2 v1 := (Near.refl _).drew.trans m1))
  all_goals
    have Z1 := Lib.hid z1
    clear z1 m1
    go_wp2_with fail
    have hrd : RdDec v1 (.slice lo (ndec t).length lc) (ndec t) := by
      refine RdDec.owns (base := 0) ?_
      have h1 := owns_kept R1.out (HN3.out.trans Z1.out).kept (R := fun _ => False) (fun _ _ x => x)
      rw [HND.out]
      have h2 : decs (ndec t) = cellsOf (enc (go t [])) := (cells_decs _).symm
      rw [h2]
      exact h1
    refine bodyPost_ret (v := .tuple #[.slice lo (go t []).length lc, .int .i64 (pl (nodes t) t : Nat)]) (by simp [results, Try.results26, go_sem]) rfl ⟨lo, lc, by rw [HND.out], hrd, ((HN.out.trans HN2.out).trans Z1.out)⟩

end Go.Proofs.Ytefclohjeompkaa

/- The law DiagramNodes: the walk. -/
namespace Go.Proofs.Ytefclohjeompkaa
open Go Go.RowKit Go.Proofs.Gen Go.Proofs.Bdd Go.Proofs.Bdd.T

set_option maxRecDepth 100000 in
set_option maxHeartbeats 3200000 in
theorem law_nodes {w : World} {v : Value} {l : List SOp} (h : RdOps w v l) : Calls Try.prog 8 #[v] w fun e w' => e = .returned (.bool true) ∧ Near w w' := by
  have HM := Lib.hid (ment_calls h)
  cases hb : mentB l with
  | false =>
    have HB := Lib.hid hb
    obtain ⟨ao, cap, rfl, -⟩ := h
    clear hb
    go_enter Try.func8, Try.ntmps8
    go_wp2_with (first
      | (go_at_call 23; refine HM.out.mono ?_; rintro e w1 ⟨rfl, n1⟩; rw [HB.out])
      | (go_at_call 17; refine (wakes_calls _).mono ?_; rintro e w2 ⟨rfl, n2⟩))
    go_ret
    exact ⟨rfl, n1.trans n2⟩
  | true =>
    have HB := Lib.hid hb
    have hok := mentB_ok hb
    have hl12 := hok.1
    have h40 := Lib.hid hok.2
    have HL := Lib.hid h
    obtain ⟨ao, cap, rfl, -⟩ := h
    clear hb hok
    go_enter Try.func8, Try.ntmps8
    go_upto_region 4 with (first
      | (go_at_call 23; refine HM.out.mono ?_; rintro e w1 ⟨rfl, n1⟩; rw [HB.out])
      | (go_at_call 24; refine (both_calls2 (HL.out.near n1) (by omega) h40.out).mono ?_; rintro e w2 ⟨sv, tv, rfl, s2, t2, n2⟩; obtain ⟨g, sc, u0, u1, rfl, x0, x1, hi⟩ := s2.last; obtain ⟨g', tc, v0, v1, rfl, y0, y1, hi'⟩ := t2.last; obtain ⟨p1, p2, p3, p4, hpe⟩ := hi.form; obtain ⟨q1, q2, q3, q4, q5, q6, hqe⟩ := hi'.form; simp only [Value.agg.injEq, Array.mk.injEq, List.cons.injEq, and_true] at hpe hqe; obtain ⟨rfl, rfl⟩ := hpe; obtain ⟨rfl, rfl⟩ := hqe; have HN := Lib.hid (n1.trans n2); clear s2 t2 n1 n2))
    obtain ⟨t, hd, he⟩ := hi
    have hg : IsG w2 (.agg #[.slice q1 q2 q3, .slice q4 q5 q6]) t.ev := hi'.congr fun c => (he c).symm
    have HD := Lib.hid hd
    have HG := Lib.hid hg
    have hl := nodes_len hd.1
    have hnl : (ndec t).length < 1099511627776 := by rw [ndec_len]; omega
    clear hi' hg hd he hl
    go_wp2_with (first
      | (go_at_call 36; refine (nodes_f HD.out).mono ?_; rintro e w3 ⟨ao3, cap3, rfl, r3, n3⟩; have R3 := Lib.hid r3; have z0 := n3.cell y0; have z1 := n3.cell y1; have N3 := Lib.hid n3; clear r3 n3)
      | (go_at_call 26; refine (rnodes_calls (HG.out.near N3.out) HD.out.1).mono ?_; rintro e w4 ⟨ao4, cap4, rfl, r4, n4⟩; have R4 := Lib.hid r4; have x0' := (N3.out.trans n4).cell x0; have x1' := (N3.out.trans n4).cell x1; have N4 := Lib.hid n4; clear r4 n4)
      | (go_at_call 22; refine (same_calls (R3.out.near N4.out) R4.out hnl).mono ?_; rintro e w5 ⟨rfl, n5⟩; have x0'' := n5.cell x0'; have x1'' := n5.cell x1'; have N5 := Lib.hid n5)
      | (go_at_call 37; refine (size_calls (HD.out.near ((N3.out.trans N4.out).trans N5.out))).mono ?_; rintro e w6 ⟨rfl, n6⟩; rw [← ndec_len])
      | (go_at_call 17; refine (wakes_calls _).mono ?_; rintro e w9 ⟨rfl, n9⟩))
    go_ret
    exact ⟨rfl, ((((HN.out.trans N3.out).trans N4.out).trans N5.out).trans n6).trans n9⟩

end Go.Proofs.Ytefclohjeompkaa
