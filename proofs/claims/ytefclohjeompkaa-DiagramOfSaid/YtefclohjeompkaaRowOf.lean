/- DiagramOf answers true, whatever list and root it is given; its arguments read afterwards as before. No condition. -/
import Derived.Test.YtefclohjeompkaaRows
import Derived.Test.YtefclohjeompkaaLawOf
import Derived.ProofKit
import Derived.OpenShut
import Derived.ShutString
import Derived.ChangeOld
import Derived.Below
import Derived.Deep.Fields
namespace Go.Proofs.Ytefclohjeompkaa
open Go.ChangeShapes Go.WideShapes Go.ChangeAt Go.RowKit Go.Deep Go.Proofs.Gen
set_option linter.unusedVariables false

instance : Inhabited Dec := ⟨⟨0, 0, 0⟩⟩

theorem own : ownKnob Try.prog.godebug = none := by kernel_rfl

section
variable {H : Type} {enc : TypeId × Value → H} {w : World} {base : Nat} {spare : Nat → Bool} {held : Bool}

/-- The cells of a struct of one-cell fields. -/
theorem cells_of_struct {t : TypeId} {fs : Array Field} {fuel : Nat} {cs : List Value} {x : DataW H × List MemPlace} (ht : Try.prog.underlying t = some (.struct fs)) (hone : oneCellFields Try.prog fs = true) (hC : Try.prog.cellsOf t = fs.size)
    (h : DataW.trod enc Try.prog w base spare held fuel t cs = some x) : cs.length = fs.size ∧ ∃ n, ∀ (i : Nat) (f : Field), fs[i]? = some f → ∃ v y, cs[i]? = some v ∧ DataW.trod enc Try.prog w base spare held n f.type [v] = some y := by
  obtain ⟨xs, n, _, _, hlen, hxl, hg⟩ := DataW.trod_struct ht h
  refine ⟨hlen.trans hC, n, fun i f hi => ?_⟩
  obtain ⟨ho, hc⟩ := hone_of hone i f hi
  have hlt : i < fs.size := (Array.getElem?_eq_some_iff.1 hi).1
  have hcl : i < cs.length := by omega
  have g := hg i f hi
  rw [ho, hc, take1_drop cs i undef hcl, List.getElem?_eq_getElem (by omega)] at g
  refine ⟨cs[i], xs[i]'(by omega), List.getElem?_eq_getElem hcl, ?_⟩
  rw [← g, List.getD_eq_getElem?_getD, List.getElem?_eq_getElem hcl]
  rfl

theorem dec_open {fuel : Nat} {cs : List Value} {x : DataW H × List MemPlace} (h : DataW.trod enc Try.prog w base spare held fuel 26 cs = some x) : ∃ d : Dec, cs = decC d := by
  obtain ⟨hl, n, hf⟩ := cells_of_struct Try.underlying26 (by kernel_rfl) (by kernel_rfl) h
  match cs, hl with
  | [c0, c1, c2], _ =>
    obtain ⟨v0, y0, e0, h0⟩ := hf 0 _ rfl
    obtain ⟨v1, y1, e1, h1⟩ := hf 1 _ rfl
    obtain ⟨v2, y2, e2, h2⟩ := hf 2 _ rfl
    cases e0
    cases e1
    cases e2
    obtain ⟨a, ha, _⟩ := DataW.trod_int Try.underlying3 h0
    obtain ⟨b, hb, _⟩ := DataW.trod_int Try.underlying3 h1
    obtain ⟨c, hc, _⟩ := DataW.trod_int Try.underlying3 h2
    simp at ha hb hc
    subst ha
    subst hb
    subst hc
    exact ⟨⟨a, b, c⟩, rfl⟩

/-- A list of decisions that came in. -/
theorem decs_open {fuel : Nat} {v : Value} {x : DataW H × List MemPlace} (h : DataW.trod enc Try.prog w base spare held fuel 22 [v] = some x) : (∃ l : List Dec, RdDec w v l) ∧ ∀ cap, v = .slice none 0 cap → cap = 0 := by
  rcases open_slice Try.underlying22 h with ⟨hcs, _⟩ | ⟨a, len, cap, m, n, D, Pl, hcs, _, hl, hm, hmm, _, hx⟩
  · simp at hcs
    subst hcs
    exact ⟨⟨[], none, 0, rfl, fun k x hk => by simp at hk⟩, fun cap h => by cases h; rfl⟩
  · simp at hcs
    subst hcs
    have hml : len ≤ m := by rw [hmm]; split <;> omega
    rw [cells26] at hx
    obtain ⟨f, hf⟩ := choose_lt (α := Dec) (n := len) (p := fun i d => w.cells? base (a.add (i * 3)) 3 = some (decC d)) (fun i hi => by
      obtain ⟨cs', h1, h2⟩ := hx i (by omega)
      obtain ⟨d, rfl⟩ := dec_open h2
      exact ⟨d, h1⟩)
    refine ⟨⟨(List.range len).map f, some a, cap, by simp, fun k x hk => ?_⟩, fun cap h => by cases h⟩
    have hkl : k < len := by
      have := (List.getElem?_eq_some_iff.1 hk).1
      simpa using this
    have hxe : x = f k := by
      rw [List.getElem?_map, List.getElem?_range hkl] at hk
      simpa using hk.symm
    subst hxe
    obtain ⟨_, _, hc⟩ := World.cells?_some (hf k hkl)
    have c0 := hc 0 (by omega)
    have c1 := hc 1 (by omega)
    have c2 := hc 2 (by omega)
    obtain ⟨b, off, spot⟩ := a
    have hspot : spot = none := by
      obtain ⟨_, _, hc'⟩ := World.cells?_some (hf 0 (by omega))
      have := World.cell?_spot ((hc' 0 (by omega)).trans (show (decC (f 0))[0]? = some (.int .i64 (f 0).v) from rfl))
      simpa [Addr.add] using this
    subst hspot
    have ea : ∀ i n, ((⟨b, off, none⟩ : Addr).add i).add n = ⟨b, off + i + n, none⟩ := fun i n => by
      unfold Addr.add
      by_cases h1 : i = 0 <;> by_cases h2 : n = 0 <;> simp [h1, h2]
    rw [ea] at c0 c1 c2
    exact ⟨b, off, rfl, c0, c1, c2⟩
end

/-! ### The row's step -/
set_option maxRecDepth 100000 in
theorem liftedOf (os : Os) (started : os.Started) (H : Type) (enc : TypeId × Value → H) :
    ReturnsInHanded {} Try.checked os 3 .any (Rows.diagramOfSpec.pre6 enc Try.prog Try.f3 Rows.diagramOfRow.domain false) (Rows.diagramOfSpec.post enc Try.prog Try.f3 false true false false) := by
  refine returnsInHanded_of_change (C := Try.checked) own started (by kernel_rfl) Try.func3
    (ChangeSpec.witness6 (enc := enc) (C := Try.checked) false ⟨#[], #[.slice none 0 0, .int .i64 0], []⟩ 8 (by kernel_rfl) (by kernel_rfl) (by kernel_rfl) (by kernel_rfl)) ?_
  intro W base args ds gs before hval0 hW hcnd _
  have hval : ∀ (j : Nat) t v, Try.f3.params[j]? = some t → args[j]? = some v → Value.okWide Try.prog W .any base t v := hval0
  have hW' := hW
  obtain ⟨p, q, hA0, hV, rfl, hfz, hnd⟩ := hW
  have hA : DataW.TrodAll enc Try.prog W 0 (fun _ => true) true Try.f3.params.toList args.toList ds p := hA0
  rw [Try.params3] at hA hval
  obtain ⟨v0, vs0, d0, ds0, p0, q0, hargs, rfl, rfl, h0, r0⟩ := trodAll_cons hA
  obtain ⟨v1, vs1, d1, ds1, p1, q1, rfl, rfl, rfl, h1, r1⟩ := trodAll_cons r0
  obtain ⟨rfl, rfl, rfl⟩ := trodAll_nil r1
  obtain rfl : args = #[v0, v1] := by cases args; simp_all
  obtain ⟨rfl, rfl⟩ := trodVars_none hV
  obtain ⟨a0, len0, cap0, rfl⟩ := okWide_slice Try.underlying22 (hval 0 22 v0 rfl rfl)
  have k0 := h0
  have lt0 : ∀ x ∈ p0, x.block < W.heap.size := by obtain ⟨m, hm⟩ := k0; exact DataW.trod_lt m _ _ _ hm
  obtain ⟨⟨l, w0⟩, wn⟩ : (∃ l : List Dec, RdDec W (.slice a0 len0 cap0) l) ∧ ∀ cap, Value.slice a0 len0 cap0 = .slice none 0 cap → cap = 0 := by
    obtain ⟨fuel, hf⟩ := h0
    exact decs_open (by simpa [Value.cells] using hf)
  obtain ⟨a1, rfl, rfl, rfl, w1⟩ := open_int Try.underlying3 (hval 1 3 v1 rfl rfl) h1
  clear hA0 hval0
  refine (law_of (root := a1) w0 wn).mono fun e W' ⟨he, bel⟩ => ?_
  subst he
  exact ⟨_, rfl, _, _, _, [], _, [], hW', trodAll_mk1 (shut_bool Try.underlying4 _), (trodAll_cons_mk (Below.trod laidOut (by kernel_rfl) (of_decide_eq_true (by kernel_rfl)) k0 bel.below lt0) (trodAll_cons_mk (shut_int Try.underlying3 w1) trodAll_mk0)), rfl, bel.below.frame _, fun h => by cases h⟩

theorem overOf : Rows.diagramOfRow.holds Try.pinned (OpenSpec.ofChange Rows.diagramOfSpec) :=
  OpenClaim.holds_of_wide 3 Try.f3 rfl rfl rfl rfl rfl rfl rfl ⟨rfl, rfl, rfl, rfl, rfl⟩ rfl rfl rfl rfl rfl (by kernel_rfl) Try.func3 (by kernel_rfl)
    (of_decide_eq_true (by kernel_rfl)) (by unfold Func.isWrapper; first | (rw [if_pos (by decide +kernel)]; kernel_rfl) | (rw [if_neg (by decide +kernel)]; exact ⟨rfl, rfl⟩))
    (fun os started H enc _ => liftedOf os started H enc)

theorem diagramOf_holds : Rows.DiagramOfSaid := overOf
#print axioms diagramOf_holds
end Go.Proofs.Ytefclohjeompkaa
