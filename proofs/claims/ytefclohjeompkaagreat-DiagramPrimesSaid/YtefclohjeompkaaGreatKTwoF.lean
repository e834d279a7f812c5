/- Parts of a proof: Inv, TwoG, TwoF. -/
import Derived.Maps.OwnSet
import Derived.WalkKit
import Derived.Deep.QuietTactic
import Derived.Test.YtefclohjeompkaaGreatProg
import Derived.KernelRfl
import Derived.DeepKeys4
import Derived.Deep.RegionLaw
import Derived.StillTailTactics
import Derived.Maps.AppendAt
import Derived.WalkSpells
import Derived.WalkLawsBesides
import Derived.BigQuiet
import Derived.Lib.Hide
import Derived.Deep.DeepCutAuto
import Derived.Laws.EntriesVeiled
import Derived.Deep.RegionHeld3
import Derived.Laws.OwnMore
import Derived.Deep.Slices
import Derived.RangeFuncNested
import Derived.RangeFuncBound
import Derived.RangeFuncCalls
import Derived.RangeFuncLeaves
import Derived.Shelf.Abstract
import Derived.Shelf.RegionOpen
import Derived.OwnWalkIn
import Derived.TacticsInMore
import Derived.LoopNIn
import Derived.LoopIn
import Derived.Lib.BitFns
import Derived.IntWalk
import Derived.Laws.CopyOwn
import Derived.Laws.BitsAllLaws
import Derived.RangeFuncWrites
import Derived.Test.YtefclohjeompkaaGreatKTreeC
import Derived.Test.YtefclohjeompkaaGreatKRep
import Derived.Test.YtefclohjeompkaaGreatKJoinD
import Derived.Test.YtefclohjeompkaaGreatKCmpA
import Derived.Test.YtefclohjeompkaaGreatKRefH
import Derived.Test.YtefclohjeompkaaGreatKOfB
import Derived.Test.YtefclohjeompkaaGreatKAlike
import Derived.Test.YtefclohjeompkaaGreatKBetA
import Derived.Test.YtefclohjeompkaaGreatKLinH
import Derived.Test.YtefclohjeompkaaGreatKSaidB
import Derived.Test.YtefclohjeompkaaGreatKBetB
import Derived.Test.YtefclohjeompkaaGreatKLinF
import Derived.Test.YtefclohjeompkaaGreatKLinJ
import Derived.Test.YtefclohjeompkaaGreatKSteps3
import Derived.Test.YtefclohjeompkaaGreatKFAll
import Derived.Test.YtefclohjeompkaaGreatKOpenA
import Derived.Test.YtefclohjeompkaaGreatKColl
import Derived.Test.YtefclohjeompkaaGreatKRefW
import Derived.Test.YtefclohjeompkaaGreatKPrimB
/- Inv: what is needed of it. -/
namespace Go.Proofs.YtefclohjeompkaaGreat
open Go Go.RowKit Go.Shelf Go.Proofs.Gen
/-- What has come up, with one more; what has been yielded, with one more. -/
def upB (p : Nat → Bool) (i : Nat) : Nat → Bool := fun j => if j = i then true else p j

def upV (env : Nat → Value) (i : Nat) (v : Value) : Nat → Value := fun j => if j = i then v else env j

/-- A state behind the operations that have come up: ds their numbers and slots. -/
def actOf : List (Nat × Option Tmp) → (Nat → Bool) → (Nat → Value) → Act → Act
  | [], _, _, a => a
  | x :: ds, p, env, a => if p x.1 = true then (actOf ds p env a).put x.2 (env x.1) else actOf ds p env a

theorem put_comm (a : Act) {d e : Option Tmp} (h : ∀ s, d = some s → e ≠ some s) (u v : Value) : (a.put d u).put e v = (a.put e v).put d u := by
  cases d with
  | none => rfl
  | some s =>
    cases e with
    | none => rfl
    | some t =>
      have hne : s ≠ t := fun x => h s rfl (by rw [x])
      simp only [Act.put]
      rw [Array.setIfInBounds_comm _ _ hne]

/-- Numbers and slots, each once. -/
def onceB : List (Nat × Option Tmp) → Bool
  | [] => true
  | x :: ds => ds.all (fun y => y.1 != x.1 && (x.2.isNone || y.2 != x.2)) && onceB ds

theorem actOf_skip {i : Nat} {v : Value} {p : Nat → Bool} {env : Nat → Value} {a : Act} : ∀ {ds : List (Nat × Option Tmp)}, (∀ y ∈ ds, y.1 ≠ i) → actOf ds (upB p i) (upV env i v) a = actOf ds p env a
  | [], _ => rfl
  | y :: ds, h => by
    have h1 : y.1 ≠ i := h y (List.mem_cons_self ..)
    have ih := actOf_skip (i := i) (v := v) (p := p) (env := env) (a := a) (ds := ds) (fun z hz => h z (List.mem_cons_of_mem _ hz))
    have e1 : upB p i y.1 = p y.1 := by simp [upB, h1]
    have e2 : upV env i v y.1 = env y.1 := by simp [upV, h1]
    simp only [actOf, e1, e2, ih]

theorem actOf_put {i : Nat} {d : Option Tmp} {v : Value} {p : Nat → Bool} {env : Nat → Value} {a : Act} (hp : p i = false) :
    ∀ {ds : List (Nat × Option Tmp)}, onceB ds = true → (i, d) ∈ ds → (actOf ds p env a).put d v = actOf ds (upB p i) (upV env i v) a
  | [], _, hm => by cases hm
  | x :: ds, ho, hm => by
    simp only [onceB, Bool.and_eq_true] at ho
    obtain ⟨h1, h2⟩ := ho
    have h1' := List.all_eq_true.1 h1
    by_cases e : x.1 = i
    · have hx : x = (i, d) := by
        rcases List.mem_cons.1 hm with h | h
        · exact h.symm
        · have := h1' _ h
          simp [e] at this
      subst hx
      have hn : ∀ y ∈ ds, y.1 ≠ i := fun y hy => by
        have := h1' y hy
        simp only [Bool.and_eq_true, bne_iff_ne, ne_eq] at this
        exact this.1
      have e1 : upB p i i = true := by simp [upB]
      have e2 : upV env i v i = v := by simp [upV]
      simp only [actOf, hp, Bool.false_eq_true, if_false, e1, if_true, e2, actOf_skip hn]
    · have hmd : (i, d) ∈ ds := by
        rcases List.mem_cons.1 hm with h | h
        · exact absurd (by rw [← h]) e
        · exact h
      have ih := actOf_put (v := v) (env := env) (a := a) hp h2 hmd
      have e1 : upB p i x.1 = p x.1 := by simp [upB, e]
      have e2 : upV env i v x.1 = env x.1 := by simp [upV, e]
      simp only [actOf, e1, e2]
      split
      · rw [put_comm, ih]
        intro s hs hd
        have := h1' _ hmd
        simp [hs, hd] at this
      · exact ih

theorem actOf_size {p : Nat → Bool} {env : Nat → Value} {a : Act} : ∀ {ds : List (Nat × Option Tmp)}, (actOf ds p env a).tmps.size = a.tmps.size
  | [] => rfl
  | x :: ds => by
    simp only [actOf]
    split
    · cases hx : x.2 with
      | none => exact actOf_size
      | some s =>
        simp only [Act.put, Array.size_setIfInBounds]
        exact actOf_size
    · exact actOf_size

theorem eval_put_ne (a : Act) (d : Option Tmp) (v : Value) {s : Tmp} (h : d ≠ some s) : (a.put d v).eval (.tmp s) = a.eval (.tmp s) := by
  cases d with
  | none => rfl
  | some t =>
    have hne : t ≠ s := fun e => h (by rw [e])
    simp only [Act.put, Act.eval, Array.getD_eq_getD_getElem?, Array.getElem?_setIfInBounds_ne hne]

/-- What stands in a slot that an operation writes. -/
theorem actOf_eval {i s : Nat} {p : Nat → Bool} {env : Nat → Value} {a : Act} (hp : p i = true) (hs : s < a.tmps.size) :
    ∀ {ds : List (Nat × Option Tmp)}, onceB ds = true → (i, some s) ∈ ds → (actOf ds p env a).eval (.tmp s) = env i
  | [], _, hm => by cases hm
  | x :: ds, ho, hm => by
    simp only [onceB, Bool.and_eq_true] at ho
    obtain ⟨h1, h2⟩ := ho
    have h1' := List.all_eq_true.1 h1
    rcases List.mem_cons.1 hm with h | h
    · subst h
      simp only [actOf, hp, if_true, Act.put, Act.eval, Array.getD_eq_getD_getElem?]
      rw [Array.getElem?_setIfInBounds_self_of_lt (by rw [actOf_size]; exact hs)]
      rfl
    · have ih := actOf_eval (env := env) hp hs h2 h
      simp only [actOf]
      split
      · rw [eval_put_ne _ _ _ ?_]
        · exact ih
        · intro e
          have := h1' _ h
          simp [e] at this
      · exact ih

/-- What stands in a slot that none writes. -/
theorem actOf_base {s : Nat} {p : Nat → Bool} {env : Nat → Value} {a : Act} : ∀ {ds : List (Nat × Option Tmp)}, ds.all (fun y => y.2 != some s) = true → (actOf ds p env a).eval (.tmp s) = a.eval (.tmp s)
  | [], _ => rfl
  | x :: ds, h => by
    rw [List.all_cons, Bool.and_eq_true] at h
    have ih := actOf_base (s := s) (p := p) (env := env) (a := a) h.2
    simp only [actOf]
    split
    · rw [eval_put_ne _ _ _ (by simpa using h.1)]
      exact ih
    · exact ih

/-- Do the operations' numbers and slots stand so, in a region of which the others have come up? -/
def fitsB (md : Region.Mode) (ops : Array Oper) (listed : Array Bool) (fuel : Nat) (ds : List (Nat × Option Tmp)) : Bool :=
  listed.size == ops.size && onceB ds && ds.all (fun x => x.1 < ops.size && ((ops[x.1]?).bind (·.dst)) == x.2) &&
  (List.range ops.size).all (fun i => listed.getD i true || ds.any (fun x => x.1 == i)) &&
  (List.range ops.size).all (fun i => ((ops[i]?).map fun o => o.after.all fun e => !Region.binds md e || decide (e.on < i)).getD true) &&
  decide ((List.range ops.size).countP (fun i => !listed.getD i true) ≤ fuel)

theorem countP_less {p q : Nat → Bool} {i : Nat} : ∀ {l : List Nat}, i ∈ l → p i = true → q i = false → (∀ j, q j = true → p j = true) → l.countP q < l.countP p
  | [], hm, _, _, _ => by cases hm
  | x :: l, hm, hp, hq, h => by
    have le : l.countP q ≤ l.countP p := List.countP_mono_left fun j _ hj => h j hj
    rcases List.mem_cons.1 hm with e | hm'
    · subst e
      rw [List.countP_cons_of_pos hp, List.countP_cons_of_neg (by simp [hq])]
      omega
    · have ih := countP_less hm' hp hq h
      by_cases hx : q x = true
      · rw [List.countP_cons_of_pos hx, List.countP_cons_of_pos (h x hx)]
        omega
      · rw [List.countP_cons_of_neg hx]
        by_cases hpx : p x = true
        · rw [List.countP_cons_of_pos hpx]; omega
        · rw [List.countP_cons_of_neg hpx]; omega

section
variable {P : Program} {Q : Exit → Act → World → Prop} {md : Region.Mode} {S : World → Prop} {z : Nat}
/-- One operation, whatever has come up beside it. -/
def StepI (P : Program) (md : Region.Mode) (Q : Exit → Act → World → Prop) (S : World → Prop) (z : Nat) (ops : Array Oper) (ds : List (Nat × Option Tmp)) (a0 : Act) (I : (Nat → Bool) → (Nat → Value) → World → Prop) (i : Nat) : Prop :=
  ∀ p env w, p i = false → (∀ oi, ops[i]? = some oi → ∀ e ∈ oi.after, Region.binds md e = true → p e.on = true) → I p env w →
    wpOp P ops Q i (fun a' w' => ∃ v, a' = (actOf ds p env a0).put ((ops[i]?).bind (·.dst)) v ∧ (i = z ∨ S w') ∧ I (upB p i) (upV env i v) w') (actOf ds p env a0) w

/-- The operations, one after the other. -/
def StepsI (P : Program) (md : Region.Mode) (Q : Exit → Act → World → Prop) (S : World → Prop) (z : Nat) (ops : Array Oper) (ds : List (Nat × Option Tmp)) (a0 : Act) (I : (Nat → Bool) → (Nat → Value) → World → Prop) (l : List (Nat × Option Tmp)) : Prop := ∀ x ∈ l, StepI P md Q S z ops ds a0 I x.1

theorem wpAnyZ_inv {ops : Array Oper} {listed : Array Bool} {fuel : Nat} (ds : List (Nat × Option Tmp)) (a0 : Act) (I : (Nat → Bool) → (Nat → Value) → World → Prop) (env0 : Nat → Value) {w : World}
    (hfit : fitsB md ops listed fuel ds = true) (h0 : ds.all (fun x => !listed.getD x.1 true) = true) (start : I (fun i => listed.getD i true) env0 w)
    (steps : StepsI P md Q S z ops ds a0 I ds)
    (fin : ∀ p env w, (∀ x ∈ ds, p x.1 = true) → I p env w → Q .normal (actOf ds p env a0) w) : wpAnyZ P md ops Q S z fuel listed a0 w := by
  have gen : ∀ (fuel : Nat) (listed : Array Bool) (env : Nat → Value) (w : World), fitsB md ops listed fuel ds = true → I (fun i => listed.getD i true) env w →
      wpAnyZ P md ops Q S z fuel listed (actOf ds (fun i => listed.getD i true) env a0) w := by
    intro fuel
    induction fuel with
    | zero =>
      intro listed env w hf hI
      simp only [fitsB, Bool.and_eq_true, decide_eq_true_eq] at hf
      obtain ⟨⟨⟨⟨⟨hsz, _⟩, hdst⟩, hcov⟩, hac⟩, hcnt⟩ := hf
      have hall : ∀ i, i < ops.size → listed.getD i true = true := fun i hi => by
        have h1 := List.countP_eq_zero.1 (Nat.le_zero.1 hcnt) i (List.mem_range.2 hi)
        simpa using h1
      have hready : Region.ready md ops listed = [] := by
        rw [List.eq_nil_iff_forall_not_mem]
        intro i hi
        obtain ⟨h1, o, ho, _⟩ := mem_ready.1 hi
        rw [hall i (Array.getElem?_eq_some_iff.1 ho).1] at h1
        cases h1
      refine ⟨hready, fin _ _ _ (fun x hx => hall _ ?_) hI⟩
      have := List.all_eq_true.1 hdst x hx
      rw [Bool.and_eq_true] at this
      simpa using this.1
    | succ fuel ih =>
      intro listed env w hf hI
      have hf0 := hf
      simp only [fitsB, Bool.and_eq_true, decide_eq_true_eq] at hf
      obtain ⟨⟨⟨⟨⟨hsz, honce⟩, hdst⟩, hcov⟩, hac⟩, hcnt⟩ := hf
      refine ⟨fun hr => ?_, fun i hi => ?_⟩
      · -- nothing is ready: all have come up
        have hall : ∀ n i, i ≤ n → i < ops.size → listed.getD i true = true := by
          intro n
          induction n with
          | zero =>
            intro i hin hi
            refine Classical.byContradiction fun hx => ?_
            have hx' : listed.getD i true = false := by simpa using hx
            have : i ∈ Region.ready md ops listed := mem_ready.2 ⟨hx', ops[i], Array.getElem?_eq_getElem hi, fun e he hb => by
              have h2 := List.all_eq_true.1 hac i (List.mem_range.2 hi)
              rw [Array.getElem?_eq_getElem hi] at h2
              have h3 := Array.all_eq_true_iff_forall_mem.1 (show (ops[i].after.all fun e => !Region.binds md e || decide (e.on < i)) = true from h2) e he
              simp only [hb, Bool.not_true, Bool.false_or, decide_eq_true_eq] at h3
              omega⟩
            rw [hr] at this
            cases this
          | succ n ihn =>
            intro i hin hi
            refine Classical.byContradiction fun hx => ?_
            have hx' : listed.getD i true = false := by simpa using hx
            have : i ∈ Region.ready md ops listed := mem_ready.2 ⟨hx', ops[i], Array.getElem?_eq_getElem hi, fun e he hb => by
              have h2 := List.all_eq_true.1 hac i (List.mem_range.2 hi)
              rw [Array.getElem?_eq_getElem hi] at h2
              have h3 := Array.all_eq_true_iff_forall_mem.1 (show (ops[i].after.all fun e => !Region.binds md e || decide (e.on < i)) = true from h2) e he
              simp only [hb, Bool.not_true, Bool.false_or, decide_eq_true_eq] at h3
              have h4 := ihn e.on (by omega) (by omega)
              have hlt : e.on < listed.size := by
                have := beq_iff_eq.1 hsz
                omega
              simpa [Array.getD, hlt] using h4⟩
            rw [hr] at this
            cases this
        refine fin _ _ _ (fun x hx => ?_) hI
        have h5 := List.all_eq_true.1 hdst x hx
        rw [Bool.and_eq_true] at h5
        exact hall x.1 x.1 (Nat.le_refl _) (by simpa using h5.1)
      · obtain ⟨hu, o, ho, hdeps⟩ := mem_ready.1 hi
        have hil : i < ops.size := (Array.getElem?_eq_some_iff.1 ho).1
        have h6 := List.all_eq_true.1 hcov i (List.mem_range.2 hil)
        rw [hu, Bool.false_or, List.any_eq_true] at h6
        obtain ⟨x, hx, hxi⟩ := h6
        have hxi : x.1 = i := by simpa using hxi
        subst hxi
        have h7 := List.all_eq_true.1 hdst x hx
        rw [Bool.and_eq_true] at h7
        have hd : ((ops[x.1]?).bind (·.dst)) = x.2 := by simpa using h7.2
        have hst := steps x hx (fun i => listed.getD i true) env w hu (fun oi hoi e he hb => by
          rw [ho] at hoi
          cases hoi
          have := hdeps e he hb
          rcases Nat.lt_or_ge e.on listed.size with hlt | hge
          · simpa [Array.getD, hlt] using this
          · simp [Array.getD, Nat.not_lt.2 hge] at this) hI
        refine wpOp_mono (fun a' w' h' => ?_) hst
        obtain ⟨v, rfl, hSz, hI'⟩ := h'
        rw [hd, actOf_put (v := v) (env := env) (a := a0) (p := fun i => listed.getD i true) (i := x.1) hu honce hx]
        have hpe : upB (fun i => listed.getD i true) x.1 = fun i => (listed.setIfInBounds x.1 true).getD i true := by
          funext j
          unfold upB
          by_cases e : j = x.1
          · subst e
            rw [if_pos rfl]
            rcases Nat.lt_or_ge x.1 listed.size with hlt | hge
            · simp [Array.getD, hlt]
            · simp [Array.getD, Nat.not_lt.2 hge]
          · rw [if_neg e, getD_set_ne true (Ne.symm e)]
        rw [hpe] at hI' ⊢
        refine ⟨hSz, ih _ _ _ ?_ hI'⟩
        simp only [fitsB, Bool.and_eq_true, decide_eq_true_eq]
        refine ⟨⟨⟨⟨⟨by simpa using hsz, honce⟩, hdst⟩, List.all_eq_true.2 fun j hj => ?_⟩, hac⟩, ?_⟩
        · have h8 := List.all_eq_true.1 hcov j hj
          rw [Bool.or_eq_true] at h8 ⊢
          refine h8.imp (fun h9 => ?_) id
          rw [← congrFun hpe j]
          unfold upB
          split
          · rfl
          · exact h9
        · have h9 := countP_less (p := fun j => !listed.getD j true) (q := fun j => !(listed.setIfInBounds x.1 true).getD j true) (i := x.1) (l := List.range ops.size) (List.mem_range.2 hil) (by simp only [hu]; rfl)
            (by rw [← congrFun hpe x.1]; simp [upB]) (fun j hj => by
              rw [← congrFun hpe j] at hj
              unfold upB at hj
              split at hj
              · cases hj
              · exact hj)
          omega
  have hstart := gen fuel listed env0 w hfit start
  have e0 : actOf ds (fun i => listed.getD i true) env0 a0 = a0 := by
    have : ∀ l : List (Nat × Option Tmp), l.all (fun x => !listed.getD x.1 true) = true → actOf l (fun i => listed.getD i true) env0 a0 = a0 := by
      intro l
      induction l with
      | nil => intro _; rfl
      | cons x l ih =>
        intro h
        rw [List.all_cons, Bool.and_eq_true] at h
        have hx : listed.getD x.1 true = false := by simpa using h.1
        simp only [actOf, hx, Bool.false_eq_true, if_false]
        exact ih h.2
    exact this ds h0
  rwa [e0] at hstart

theorem StepsI.nil {ops : Array Oper} {ds : List (Nat × Option Tmp)} {a0 : Act} {I : (Nat → Bool) → (Nat → Value) → World → Prop} : StepsI P md Q S z ops ds a0 I [] := fun _ h => by cases h

/-- The same, the state ahead kept out of sight. -/
theorem wpAnyZ_inv2 {ops : Array Oper} {listed : Array Bool} {fuel : Nat} (ds : List (Nat × Option Tmp)) {a0 : Act} (I : (Nat → Bool) → (Nat → Value) → World → Prop) (env0 : Nat → Value) {w : World}
    (hfit : fitsB md ops listed fuel ds = true) (h0 : ds.all (fun x => !listed.getD x.1 true) = true) (start : ∀ p : Nat → Bool, (ds.all fun x => !p x.1) = true → I p env0 w)
    (h : ∀ A0, A0 = a0 → StepsI P md Q S z ops ds A0 I ds ∧ ∀ p env w, (ds.all fun x => p x.1) = true → I p env w → Q .normal (actOf ds p env A0) w) : wpAnyZ P md ops Q S z fuel listed a0 w :=
  wpAnyZ_inv ds a0 I env0 hfit h0 (start _ h0) (h a0 rfl).1 (fun p env w hp => (h a0 rfl).2 p env w (List.all_eq_true.2 hp))

/-- A step, its operation written out; deps: what has come up ahead of it. -/
theorem StepsI.cons {ops : Array Oper} {ds : List (Nat × Option Tmp)} {a0 : Act} {I : (Nat → Bool) → (Nat → Value) → World → Prop} {i : Nat} {d : Option Tmp} {oi : Oper} {l : List (Nat × Option Tmp)} (deps : List Nat) (ho : ops[i]? = some oi)
    (hdeps : (deps.all fun j => oi.after.any fun e => Region.binds md e && e.on == j) = true)
    (h : ∀ p env w, p i = false → deps.all p = true → I p env w → ∀ K' : Act → World → Prop, Shut (∀ v w', (i = z ∨ S w') → I (upB p i) (upV env i v) w' → K' ((actOf ds p env a0).put oi.dst v) w') →
      if Region.wanted oi (yielded ops (actOf ds p env a0).tmps) = true then Oper.wp P oi (actOf ds p env a0) w K' Q else K' ((actOf ds p env a0).put oi.dst undef) w)
    (hs : StepsI P md Q S z ops ds a0 I l) : StepsI P md Q S z ops ds a0 I ((i, d) :: l) := by
  intro x hx
  rcases List.mem_cons.1 hx with rfl | hx
  · intro p env w hp hd hI
    have hb : (ops[i]?).bind (·.dst) = oi.dst := by rw [ho]; rfl
    show wpOp P ops Q i (fun a' w' => ∃ v, a' = (actOf ds p env a0).put ((ops[i]?).bind (·.dst)) v ∧ (i = z ∨ S w') ∧ I (upB p i) (upV env i v) w') (actOf ds p env a0) w
    rw [hb]
    refine wpOp_step ho (fun K' hK => h p env w hp (List.all_eq_true.2 fun j hj => ?_) hI K' (fun v w' hSz hI' => hK _ _ ⟨v, rfl, hSz, hI'⟩))
    obtain ⟨k, hk, hee⟩ := Array.any_eq_true.1 (List.all_eq_true.1 hdeps j hj)
    rw [Bool.and_eq_true, beq_iff_eq] at hee
    rw [← hee.2]
    exact hd oi ho _ (Array.getElem_mem hk) hee.1
  · exact hs x hx

theorem stepI5 {x0 x1 x2 x3 x4 : Oper} {ds : List (Nat × Option Tmp)} {a0 : Act} {I : (Nat → Bool) → (Nat → Value) → World → Prop} {d : Option Tmp} {oi : Oper} {r : List Oper} {l : List (Nat × Option Tmp)} (deps : List Nat) (hdeps : (deps.all fun j => oi.after.any fun e => Region.binds md e && e.on == j) = true)
    (h : ∀ p env w, p 5 = false → deps.all p = true → I p env w → ∀ K' : Act → World → Prop, Shut (∀ v w', (5 = z ∨ S w') → I (upB p 5) (upV env 5 v) w' → K' ((actOf ds p env a0).put oi.dst v) w') →
      if Region.wanted oi (yielded (List.toArray (x0 :: x1 :: x2 :: x3 :: x4 :: oi :: r)) (actOf ds p env a0).tmps) = true then Oper.wp P oi (actOf ds p env a0) w K' Q else K' ((actOf ds p env a0).put oi.dst undef) w)
    (hs : StepsI P md Q S z (List.toArray (x0 :: x1 :: x2 :: x3 :: x4 :: oi :: r)) ds a0 I l) : StepsI P md Q S z (List.toArray (x0 :: x1 :: x2 :: x3 :: x4 :: oi :: r)) ds a0 I ((5, d) :: l) := StepsI.cons deps rfl hdeps h hs

theorem stepI11 {x0 x1 x2 x3 x4 x5 x6 x7 x8 x9 x10 : Oper} {ds : List (Nat × Option Tmp)} {a0 : Act} {I : (Nat → Bool) → (Nat → Value) → World → Prop} {d : Option Tmp} {oi : Oper} {r : List Oper} {l : List (Nat × Option Tmp)} (deps : List Nat) (hdeps : (deps.all fun j => oi.after.any fun e => Region.binds md e && e.on == j) = true)
    (h : ∀ p env w, p 11 = false → deps.all p = true → I p env w → ∀ K' : Act → World → Prop, Shut (∀ v w', (11 = z ∨ S w') → I (upB p 11) (upV env 11 v) w' → K' ((actOf ds p env a0).put oi.dst v) w') →
      if Region.wanted oi (yielded (List.toArray (x0 :: x1 :: x2 :: x3 :: x4 :: x5 :: x6 :: x7 :: x8 :: x9 :: x10 :: oi :: r)) (actOf ds p env a0).tmps) = true then Oper.wp P oi (actOf ds p env a0) w K' Q else K' ((actOf ds p env a0).put oi.dst undef) w)
    (hs : StepsI P md Q S z (List.toArray (x0 :: x1 :: x2 :: x3 :: x4 :: x5 :: x6 :: x7 :: x8 :: x9 :: x10 :: oi :: r)) ds a0 I l) : StepsI P md Q S z (List.toArray (x0 :: x1 :: x2 :: x3 :: x4 :: x5 :: x6 :: x7 :: x8 :: x9 :: x10 :: oi :: r)) ds a0 I ((11, d) :: l) := StepsI.cons deps rfl hdeps h hs

theorem stepI12 {x0 x1 x2 x3 x4 x5 x6 x7 x8 x9 x10 x11 : Oper} {ds : List (Nat × Option Tmp)} {a0 : Act} {I : (Nat → Bool) → (Nat → Value) → World → Prop} {d : Option Tmp} {oi : Oper} {r : List Oper} {l : List (Nat × Option Tmp)} (deps : List Nat) (hdeps : (deps.all fun j => oi.after.any fun e => Region.binds md e && e.on == j) = true)
    (h : ∀ p env w, p 12 = false → deps.all p = true → I p env w → ∀ K' : Act → World → Prop, Shut (∀ v w', (12 = z ∨ S w') → I (upB p 12) (upV env 12 v) w' → K' ((actOf ds p env a0).put oi.dst v) w') →
      if Region.wanted oi (yielded (List.toArray (x0 :: x1 :: x2 :: x3 :: x4 :: x5 :: x6 :: x7 :: x8 :: x9 :: x10 :: x11 :: oi :: r)) (actOf ds p env a0).tmps) = true then Oper.wp P oi (actOf ds p env a0) w K' Q else K' ((actOf ds p env a0).put oi.dst undef) w)
    (hs : StepsI P md Q S z (List.toArray (x0 :: x1 :: x2 :: x3 :: x4 :: x5 :: x6 :: x7 :: x8 :: x9 :: x10 :: x11 :: oi :: r)) ds a0 I l) : StepsI P md Q S z (List.toArray (x0 :: x1 :: x2 :: x3 :: x4 :: x5 :: x6 :: x7 :: x8 :: x9 :: x10 :: x11 :: oi :: r)) ds a0 I ((12, d) :: l) := StepsI.cons deps rfl hdeps h hs

theorem stepI13 {x0 x1 x2 x3 x4 x5 x6 x7 x8 x9 x10 x11 x12 : Oper} {ds : List (Nat × Option Tmp)} {a0 : Act} {I : (Nat → Bool) → (Nat → Value) → World → Prop} {d : Option Tmp} {oi : Oper} {r : List Oper} {l : List (Nat × Option Tmp)} (deps : List Nat) (hdeps : (deps.all fun j => oi.after.any fun e => Region.binds md e && e.on == j) = true)
    (h : ∀ p env w, p 13 = false → deps.all p = true → I p env w → ∀ K' : Act → World → Prop, Shut (∀ v w', (13 = z ∨ S w') → I (upB p 13) (upV env 13 v) w' → K' ((actOf ds p env a0).put oi.dst v) w') →
      if Region.wanted oi (yielded (List.toArray (x0 :: x1 :: x2 :: x3 :: x4 :: x5 :: x6 :: x7 :: x8 :: x9 :: x10 :: x11 :: x12 :: oi :: r)) (actOf ds p env a0).tmps) = true then Oper.wp P oi (actOf ds p env a0) w K' Q else K' ((actOf ds p env a0).put oi.dst undef) w)
    (hs : StepsI P md Q S z (List.toArray (x0 :: x1 :: x2 :: x3 :: x4 :: x5 :: x6 :: x7 :: x8 :: x9 :: x10 :: x11 :: x12 :: oi :: r)) ds a0 I l) : StepsI P md Q S z (List.toArray (x0 :: x1 :: x2 :: x3 :: x4 :: x5 :: x6 :: x7 :: x8 :: x9 :: x10 :: x11 :: x12 :: oi :: r)) ds a0 I ((13, d) :: l) := StepsI.cons deps rfl hdeps h hs

theorem stepI14 {x0 x1 x2 x3 x4 x5 x6 x7 x8 x9 x10 x11 x12 x13 : Oper} {ds : List (Nat × Option Tmp)} {a0 : Act} {I : (Nat → Bool) → (Nat → Value) → World → Prop} {d : Option Tmp} {oi : Oper} {r : List Oper} {l : List (Nat × Option Tmp)} (deps : List Nat) (hdeps : (deps.all fun j => oi.after.any fun e => Region.binds md e && e.on == j) = true)
    (h : ∀ p env w, p 14 = false → deps.all p = true → I p env w → ∀ K' : Act → World → Prop, Shut (∀ v w', (14 = z ∨ S w') → I (upB p 14) (upV env 14 v) w' → K' ((actOf ds p env a0).put oi.dst v) w') →
      if Region.wanted oi (yielded (List.toArray (x0 :: x1 :: x2 :: x3 :: x4 :: x5 :: x6 :: x7 :: x8 :: x9 :: x10 :: x11 :: x12 :: x13 :: oi :: r)) (actOf ds p env a0).tmps) = true then Oper.wp P oi (actOf ds p env a0) w K' Q else K' ((actOf ds p env a0).put oi.dst undef) w)
    (hs : StepsI P md Q S z (List.toArray (x0 :: x1 :: x2 :: x3 :: x4 :: x5 :: x6 :: x7 :: x8 :: x9 :: x10 :: x11 :: x12 :: x13 :: oi :: r)) ds a0 I l) : StepsI P md Q S z (List.toArray (x0 :: x1 :: x2 :: x3 :: x4 :: x5 :: x6 :: x7 :: x8 :: x9 :: x10 :: x11 :: x12 :: x13 :: oi :: r)) ds a0 I ((14, d) :: l) := StepsI.cons deps rfl hdeps h hs

theorem stepI15 {x0 x1 x2 x3 x4 x5 x6 x7 x8 x9 x10 x11 x12 x13 x14 : Oper} {ds : List (Nat × Option Tmp)} {a0 : Act} {I : (Nat → Bool) → (Nat → Value) → World → Prop} {d : Option Tmp} {oi : Oper} {r : List Oper} {l : List (Nat × Option Tmp)} (deps : List Nat) (hdeps : (deps.all fun j => oi.after.any fun e => Region.binds md e && e.on == j) = true)
    (h : ∀ p env w, p 15 = false → deps.all p = true → I p env w → ∀ K' : Act → World → Prop, Shut (∀ v w', (15 = z ∨ S w') → I (upB p 15) (upV env 15 v) w' → K' ((actOf ds p env a0).put oi.dst v) w') →
      if Region.wanted oi (yielded (List.toArray (x0 :: x1 :: x2 :: x3 :: x4 :: x5 :: x6 :: x7 :: x8 :: x9 :: x10 :: x11 :: x12 :: x13 :: x14 :: oi :: r)) (actOf ds p env a0).tmps) = true then Oper.wp P oi (actOf ds p env a0) w K' Q else K' ((actOf ds p env a0).put oi.dst undef) w)
    (hs : StepsI P md Q S z (List.toArray (x0 :: x1 :: x2 :: x3 :: x4 :: x5 :: x6 :: x7 :: x8 :: x9 :: x10 :: x11 :: x12 :: x13 :: x14 :: oi :: r)) ds a0 I l) : StepsI P md Q S z (List.toArray (x0 :: x1 :: x2 :: x3 :: x4 :: x5 :: x6 :: x7 :: x8 :: x9 :: x10 :: x11 :: x12 :: x13 :: x14 :: oi :: r)) ds a0 I ((15, d) :: l) := StepsI.cons deps rfl hdeps h hs

end
end Go.Proofs.YtefclohjeompkaaGreat

/- TwoG: what is needed of it. -/
namespace Go.Proofs.YtefclohjeompkaaGreat
open Go Go.RowKit Go.Shelf Go.Proofs.Gen Go.Proofs.Bdd Go.Proofs.Bdd.T
theorem upB_same (p : Nat → Bool) (i : Nat) : upB p i i = true := by simp [upB]

theorem upB_ne (p : Nat → Bool) {i j : Nat} (h : j ≠ i) : upB p i j = p j := by simp [upB, h]

theorem upV_same (e : Nat → Value) (i : Nat) (v : Value) : upV e i v i = v := by simp [upV]

theorem upV_ne (e : Nat → Value) {i j : Nat} (v : Value) (h : j ≠ i) : upV e i v j = e j := by simp [upV, h]

section
variable {w0 w w' : World} {f g : F} {p : Nat → Bool} {env : Nat → Value} {v : Value}
end
end Go.Proofs.YtefclohjeompkaaGreat

/- TwoF: what is needed of it. -/
namespace Go.Proofs.YtefclohjeompkaaGreat
open Go Go.RowKit Go.Shelf Go.Proofs.Gen Go.Proofs.Bdd Go.Proofs.Bdd.T
/-- A box: nothing in it yet, or a set. -/
def BoxF (w0 : World) (full : Bool) (u v : Value) (w : World) : Prop :=
  ∃ b, u = .pointer (some ⟨b, 0, none⟩) ∧ w0.heap.size ≤ b ∧ w.heap[b]? = some (.cells (if full = true then v.cells else #[.slice none 0 0, .int .i64 0]) 34 (0, 0))

theorem BoxF.near {w0 w w' : World} {full : Bool} {u v : Value} (h : BoxF w0 full u v w) (hn : Near w w') : BoxF w0 full u v w' := by
  obtain ⟨b, h1, h2, h3⟩ := h
  exact ⟨b, h1, h2, keepN hn h3⟩

/-- Two sets f, g by calls c1, c2 into boxes a, b by stores s1, s2. -/
structure TwoF (c1 c2 a b s1 s2 : Nat) (w0 : World) (f g : F) (p : Nat → Bool) (env : Nat → Value) (w : World) : Prop where
  near : Near w0 w
  one : p c1 = true → IsF w (env c1) f
  two : p c2 = true → IsF w (env c2) g
  boxa : p a = true → BoxF w0 (p s1) (env a) (env c1) w
  boxb : p b = true → BoxF w0 (p s2) (env b) (env c2) w
  part : p a = true → p b = true → env a ≠ env b
  lasta : p s1 = true → p a = true ∧ p c1 = true
  lastb : p s2 = true → p b = true ∧ p c2 = true
  chain : p s2 = true → p s1 = true

theorem BoxF.lt {w0 w : World} {full : Bool} {u v : Value} (h : BoxF w0 full u v w) : u ≠ .pointer (some ⟨w.heap.size, 0, none⟩) := by
  obtain ⟨b, rfl, h2, h3⟩ := h
  intro e
  simp only [Value.pointer.injEq, Option.some.injEq, Addr.mk.injEq, and_true] at e
  have := (Array.getElem?_eq_some_iff.1 h3).1
  omega

section
variable {w0 w w' : World} {f g : F} {p : Nat → Bool} {env : Nat → Value} {v : Value}
theorem TwoF.start {c1 c2 a b s1 s2 : Nat} (hp : p c1 = false ∧ p c2 = false ∧ p a = false ∧ p b = false ∧ p s1 = false ∧ p s2 = false) (hn : Near w0 w) : TwoF c1 c2 a b s1 s2 w0 f g p env w := by
  obtain ⟨h1, h2, h3, h4, h5, h6⟩ := hp
  refine ⟨hn, ?_, ?_, ?_, ?_, ?_, ?_, ?_, ?_⟩ <;> intro h <;> simp_all

theorem TwoF.c1 (h : TwoF 5 11 12 13 14 15 w0 f g p env w) (hp : p 5 = false) (hv : IsF w' v f) (hn : Near w w') : TwoF 5 11 12 13 14 15 w0 f g (upB p 5) (upV env 5 v) w' := by
  have h8 : p 14 = false := by
    cases h8 : p 14 with
    | false => rfl
    | true => rw [(h.lasta h8).2] at hp; cases hp
  refine ⟨h.near.trans hn, fun _ => by rw [upV_same]; exact hv, fun k => ?_, fun k => ?_, fun k => ?_, fun k k' => ?_, fun k => ?_, fun k => ?_, fun k => ?_⟩
  · rw [upB_ne _ (by decide)] at k; rw [upV_ne _ _ (by decide)]; exact (h.two k).near hn
  · rw [upB_ne _ (by decide)] at k; rw [upB_ne _ (by decide), h8, upV_ne _ _ (by decide)]
    obtain ⟨b, x1, x2, x3⟩ := h.boxa k
    rw [h8] at x3
    exact ⟨b, x1, x2, keepN hn x3⟩
  · rw [upB_ne _ (by decide)] at k; rw [upB_ne _ (by decide), upV_ne _ _ (by decide), upV_ne _ _ (by decide)]; exact (h.boxb k).near hn
  · rw [upB_ne _ (by decide)] at k k'; rw [upV_ne _ _ (by decide), upV_ne _ _ (by decide)]; exact h.part k k'
  · rw [upB_ne _ (by decide), h8] at k; cases k
  · rw [upB_ne _ (by decide)] at k; rw [upB_ne _ (by decide), upB_ne _ (by decide)]; exact h.lastb k
  · rw [upB_ne _ (by decide)] at k; rw [upB_ne _ (by decide)]; exact h.chain k

theorem TwoF.c2 (h : TwoF 5 11 12 13 14 15 w0 f g p env w) (hp : p 11 = false) (hv : IsF w' v g) (hn : Near w w') : TwoF 5 11 12 13 14 15 w0 f g (upB p 11) (upV env 11 v) w' := by
  have h9 : p 15 = false := by
    cases h9 : p 15 with
    | false => rfl
    | true => rw [(h.lastb h9).2] at hp; cases hp
  refine ⟨h.near.trans hn, fun k => ?_, fun _ => by rw [upV_same]; exact hv, fun k => ?_, fun k => ?_, fun k k' => ?_, fun k => ?_, fun k => ?_, fun k => ?_⟩
  · rw [upB_ne _ (by decide)] at k; rw [upV_ne _ _ (by decide)]; exact (h.one k).near hn
  · rw [upB_ne _ (by decide)] at k; rw [upB_ne _ (by decide), upV_ne _ _ (by decide), upV_ne _ _ (by decide)]; exact (h.boxa k).near hn
  · rw [upB_ne _ (by decide)] at k; rw [upB_ne _ (by decide), h9, upV_ne _ _ (by decide)]
    obtain ⟨b, x1, x2, x3⟩ := h.boxb k
    rw [h9] at x3
    exact ⟨b, x1, x2, keepN hn x3⟩
  · rw [upB_ne _ (by decide)] at k k'; rw [upV_ne _ _ (by decide), upV_ne _ _ (by decide)]; exact h.part k k'
  · rw [upB_ne _ (by decide)] at k; rw [upB_ne _ (by decide), upB_ne _ (by decide)]; exact h.lasta k
  · rw [upB_ne _ (by decide), h9] at k; cases k
  · rw [upB_ne _ (by decide)] at k; rw [upB_ne _ (by decide)]; exact h.chain k

theorem TwoF.a (h : TwoF 5 11 12 13 14 15 w0 f g p env w) (hp : p 12 = false) : TwoF 5 11 12 13 14 15 w0 f g (upB p 12) (upV env 12 (.pointer (some ⟨w.heap.size, 0, none⟩))) (w.alloc (.cells #[.slice none 0 0, .int .i64 0] 34)) := by
  have hn : Near w (w.alloc (.cells #[.slice none 0 0, .int .i64 0] 34)) := (Near.refl w).alloc _
  have h8 : p 14 = false := by
    cases h8 : p 14 with
    | false => rfl
    | true => rw [(h.lasta h8).1] at hp; cases hp
  refine ⟨h.near.trans hn, fun k => ?_, fun k => ?_, fun _ => ?_, fun k => ?_, fun _ k' => ?_, fun k => ?_, fun k => ?_, fun k => ?_⟩
  · rw [upB_ne _ (by decide)] at k; rw [upV_ne _ _ (by decide)]; exact (h.one k).near hn
  · rw [upB_ne _ (by decide)] at k; rw [upV_ne _ _ (by decide)]; exact (h.two k).near hn
  · rw [upB_ne _ (by decide), h8, upV_same]
    exact ⟨_, rfl, h.near.size', heap_new_at rfl⟩
  · rw [upB_ne _ (by decide)] at k; rw [upB_ne _ (by decide), upV_ne _ _ (by decide), upV_ne _ _ (by decide)]; exact (h.boxb k).near hn
  · rw [upB_ne _ (by decide)] at k'
    rw [upV_same, upV_ne _ _ (by decide)]
    exact fun e => (h.boxb k').lt e.symm
  · rw [upB_ne _ (by decide), h8] at k; cases k
  · rw [upB_ne _ (by decide)] at k; rw [upB_ne _ (by decide), upB_ne _ (by decide)]; exact h.lastb k
  · rw [upB_ne _ (by decide)] at k; rw [upB_ne _ (by decide)]; exact h.chain k

theorem TwoF.b (h : TwoF 5 11 12 13 14 15 w0 f g p env w) (hp : p 13 = false) : TwoF 5 11 12 13 14 15 w0 f g (upB p 13) (upV env 13 (.pointer (some ⟨w.heap.size, 0, none⟩))) (w.alloc (.cells #[.slice none 0 0, .int .i64 0] 34)) := by
  have hn : Near w (w.alloc (.cells #[.slice none 0 0, .int .i64 0] 34)) := (Near.refl w).alloc _
  have h9 : p 15 = false := by
    cases h9 : p 15 with
    | false => rfl
    | true => rw [(h.lastb h9).1] at hp; cases hp
  refine ⟨h.near.trans hn, fun k => ?_, fun k => ?_, fun k => ?_, fun _ => ?_, fun k _ => ?_, fun k => ?_, fun k => ?_, fun k => ?_⟩
  · rw [upB_ne _ (by decide)] at k; rw [upV_ne _ _ (by decide)]; exact (h.one k).near hn
  · rw [upB_ne _ (by decide)] at k; rw [upV_ne _ _ (by decide)]; exact (h.two k).near hn
  · rw [upB_ne _ (by decide)] at k; rw [upB_ne _ (by decide), upV_ne _ _ (by decide), upV_ne _ _ (by decide)]; exact (h.boxa k).near hn
  · rw [upB_ne _ (by decide), h9, upV_same]
    exact ⟨_, rfl, h.near.size', heap_new_at rfl⟩
  · rw [upB_ne _ (by decide)] at k
    rw [upV_same, upV_ne _ _ (by decide)]
    exact (h.boxa k).lt
  · rw [upB_ne _ (by decide)] at k; rw [upB_ne _ (by decide), upB_ne _ (by decide)]; exact h.lasta k
  · rw [upB_ne _ (by decide), h9] at k; cases k
  · rw [upB_ne _ (by decide)] at k; rw [upB_ne _ (by decide)]; exact h.chain k

theorem box31 {w : World} {b : Nat} {p q : Value} {e : TypeId} (h : w.heap[b]? = some (.cells #[p, q] e (0, 0))) (x y : Value) : ((w.setCell ⟨b, 0, none⟩ x).setCell ⟨b, 1, none⟩ y).heap[b]? = some (.cells #[x, y] e (0, 0)) := by
  have := setCell_heap (setCell_heap h 0 x) 1 y
  simpa only [List.setIfInBounds_toArray, List.set_cons_zero, List.set_cons_succ] using this

theorem isF_two {w : World} {v : Value} {f : F} {b : Nat} {cs : Array Value} {x y : Value} (h : IsF w v f) (hb : w.heap[b]? = some (.cells cs 34 (0, 0))) : IsF ((w.setCell ⟨b, 0, none⟩ x).setCell ⟨b, 1, none⟩ y) v f := by
  obtain ⟨t, ⟨ok, sv, rfl, hrow⟩, he⟩ := h
  have hk := Kept.setCell (S := fun k => k = b) (Kept.setCell (S := fun k => k = b) (Kept.refl _ w) (p := ⟨b, 0, none⟩) (fun _ => rfl) x) (p := ⟨b, 1, none⟩) (fun _ => rfl) y
  refine ⟨t, ⟨ok, sv, rfl, owns_kept (R := fun k => k = b) hrow hk (fun k hk' hrk => ?_)⟩, he⟩
  obtain ⟨_, cur, fr, hc⟩ := own_blockP hrow hk'
  rw [show k = b from hrk, hb] at hc
  cases hc

/-- The first store. -/
theorem TwoF.s1 (h : TwoF 5 11 12 13 14 15 w0 f g p env w) (h6 : p 12 = true) (h2 : p 5 = true) (h5 : p 11 = true) (h7 : p 13 = true) (h8 : p 14 = false) (h9 : p 15 = false) :
    ∃ b x1 x2 x3 y1, env 12 = .pointer (some ⟨b, 0, none⟩) ∧ env 5 = .agg #[.slice x1 x2 x3, .int .i64 y1] ∧ w.heap[b]? = some (.cells #[.slice none 0 0, .int .i64 0] 34 (0, 0)) ∧
      Near w0 ((w.setCell ⟨b, 0, none⟩ (.slice x1 x2 x3)).setCell ⟨b, 1, none⟩ (.int .i64 y1)) ∧
      ∀ u, TwoF 5 11 12 13 14 15 w0 f g (upB p 14) (upV env 14 u) ((w.setCell ⟨b, 0, none⟩ (.slice x1 x2 x3)).setCell ⟨b, 1, none⟩ (.int .i64 y1)) := by
  obtain ⟨b, e1, e2, e3⟩ := h.boxa h6
  rw [h8] at e3
  have hi := h.one h2
  obtain ⟨x1, x2, x3, y1, ev⟩ := hi.form
  obtain ⟨b', e1', e2', e3'⟩ := h.boxb h7
  rw [h9] at e3'
  have hne : b' ≠ b := fun e => h.part h6 h7 (by rw [e1, e1', e])
  have hn : Near w0 ((w.setCell ⟨b, 0, none⟩ (.slice x1 x2 x3)).setCell ⟨b, 1, none⟩ (.int .i64 y1)) := (h.near.set (p := ⟨b, 0, none⟩) e2 _).set (p := ⟨b, 1, none⟩) e2 _
  refine ⟨b, x1, x2, x3, y1, e1, ev, e3, hn, fun u => ⟨hn, fun _ => ?_, fun _ => ?_, fun _ => ?_, fun _ => ?_, fun _ _ => ?_, fun _ => ?_, fun k => ?_, fun _ => ?_⟩⟩
  · rw [upV_ne _ _ (by decide)]; exact isF_two hi e3
  · rw [upV_ne _ _ (by decide)]; exact isF_two (h.two h5) e3
  · rw [upB_same, upV_ne _ _ (by decide), upV_ne _ _ (by decide), ev]
    exact ⟨b, e1, e2, box31 e3 _ _⟩
  · rw [upB_ne _ (by decide), h9, upV_ne _ _ (by decide)]
    refine ⟨b', e1', e2', ?_⟩
    rw [Below.heap_setCell _ _ _ _ (fun h => hne h), Below.heap_setCell _ _ _ _ (fun h => hne h)]
    exact e3'
  · rw [upV_ne _ _ (by decide), upV_ne _ _ (by decide)]; exact h.part h6 h7
  · rw [upB_ne _ (by decide), upB_ne _ (by decide)]; exact ⟨h6, h2⟩
  · rw [upB_ne _ (by decide), h9] at k; cases k
  · rw [upB_same]

/-- The second store; the end. -/
theorem TwoF.s2 (h : TwoF 5 11 12 13 14 15 w0 f g p env w) (h6 : p 12 = true) (h2 : p 5 = true) (h5 : p 11 = true) (h7 : p 13 = true) (h8 : p 14 = true) (h9 : p 15 = false) :
    ∃ b x1 x2 x3 y1, env 13 = .pointer (some ⟨b, 0, none⟩) ∧ env 11 = .agg #[.slice x1 x2 x3, .int .i64 y1] ∧ w.heap[b]? = some (.cells #[.slice none 0 0, .int .i64 0] 34 (0, 0)) ∧
      ∀ u, TwoF 5 11 12 13 14 15 w0 f g (upB p 15) (upV env 15 u) ((w.setCell ⟨b, 0, none⟩ (.slice x1 x2 x3)).setCell ⟨b, 1, none⟩ (.int .i64 y1)) := by
  obtain ⟨b, e1, e2, e3⟩ := h.boxb h7
  rw [h9] at e3
  have hi := h.two h5
  obtain ⟨x1, x2, x3, y1, ev⟩ := hi.form
  obtain ⟨b', e1', e2', e3'⟩ := h.boxa h6
  have hne : b' ≠ b := fun e => h.part h6 h7 (by rw [e1, e1', e])
  have hn : Near w0 ((w.setCell ⟨b, 0, none⟩ (.slice x1 x2 x3)).setCell ⟨b, 1, none⟩ (.int .i64 y1)) := (h.near.set (p := ⟨b, 0, none⟩) e2 _).set (p := ⟨b, 1, none⟩) e2 _
  refine ⟨b, x1, x2, x3, y1, e1, ev, e3, fun u => ⟨hn, fun _ => ?_, fun _ => ?_, fun _ => ?_, fun _ => ?_, fun _ _ => ?_, fun _ => ?_, fun _ => ?_, fun _ => ?_⟩⟩
  · rw [upV_ne _ _ (by decide)]; exact isF_two (h.one h2) e3
  · rw [upV_ne _ _ (by decide)]; exact isF_two hi e3
  · rw [upB_ne _ (by decide), upV_ne _ _ (by decide), upV_ne _ _ (by decide)]
    refine ⟨b', e1', e2', ?_⟩
    rw [Below.heap_setCell _ _ _ _ (fun h => hne h), Below.heap_setCell _ _ _ _ (fun h => hne h)]
    exact e3'
  · rw [upB_same, upV_ne _ _ (by decide), upV_ne _ _ (by decide), ev]
    exact ⟨b, e1, e2, box31 e3 _ _⟩
  · rw [upV_ne _ _ (by decide), upV_ne _ _ (by decide)]; exact h.part h6 h7
  · rw [upB_ne _ (by decide), upB_ne _ (by decide)]; exact ⟨h6, h2⟩
  · rw [upB_ne _ (by decide), upB_ne _ (by decide)]; exact ⟨h7, h5⟩
  · rw [upB_ne _ (by decide)]; exact h8

/-- What is there in the end. -/
theorem TwoF.fin (h : TwoF 5 11 12 13 14 15 w0 f g p env w) (h6 : p 12 = true) (h2 : p 5 = true) (h5 : p 11 = true) (h7 : p 13 = true) (h8 : p 14 = true) (h9 : p 15 = true) :
    ∃ a b x1 x2 x3 x4 y1 y2 y3 y4, env 12 = .pointer (some ⟨a, 0, none⟩) ∧ env 13 = .pointer (some ⟨b, 0, none⟩) ∧ w0.heap.size ≤ a ∧ w0.heap.size ≤ b ∧ w.heap[a]? = some (.cells #[.slice x1 x2 x3, .int .i64 x4] 34 (0, 0)) ∧
      w.heap[b]? = some (.cells #[.slice y1 y2 y3, .int .i64 y4] 34 (0, 0)) ∧ IsF w (.agg #[.slice x1 x2 x3, .int .i64 x4]) f ∧ IsF w (.agg #[.slice y1 y2 y3, .int .i64 y4]) g ∧ Near w0 w := by
  obtain ⟨a, a1, a2, a3⟩ := h.boxa h6
  obtain ⟨b, b1, b2, b3⟩ := h.boxb h7
  have h1 := h.one h2
  have h2' := h.two h5
  obtain ⟨x1, x2, x3, x4, ex⟩ := h1.form
  obtain ⟨y1, y2, y3, y4, ey⟩ := h2'.form
  rw [h8, ex] at a3
  rw [h9, ey] at b3
  rw [ex] at h1
  rw [ey] at h2'
  exact ⟨a, b, x1, x2, x3, x4, y1, y2, y3, y4, a1, b1, a2, b2, a3, b3, h1, h2', h.near⟩

end
end Go.Proofs.YtefclohjeompkaaGreat
