/- Parts of a proof: Fold, FoldM, Not, With1, FOps, FCube, Ones, BetA. -/
import Derived.Maps.OwnSet
import Derived.WalkKit
import Derived.Deep.QuietTactic
import Derived.Test.YtefclohjeompkaaGreatProg
import Derived.KernelRfl
import Derived.DeepKeys4
import Derived.Deep.RegionLaw
import Derived.StillTailTactics
import Derived.Maps.AppendAt
import Derived.WalkSpells
import Derived.WalkLawsBesides
import Derived.BigQuiet
import Derived.Lib.Hide
import Derived.Deep.DeepCutAuto
import Derived.Laws.EntriesVeiled
import Derived.Deep.RegionHeld3
import Derived.Laws.OwnMore
import Derived.Deep.Slices
import Derived.Lib.BitFns
import Derived.Test.YtefclohjeompkaaGreatKTreeC
import Derived.Test.YtefclohjeompkaaGreatKRep
import Derived.Test.YtefclohjeompkaaGreatKJoinD
import Derived.Test.YtefclohjeompkaaGreatKCmpA
import Derived.Test.YtefclohjeompkaaGreatKRefH
import Derived.Test.YtefclohjeompkaaGreatKOfB
import Derived.Test.YtefclohjeompkaaGreatKAlike
/- Fold: what is needed of it. -/
namespace Go.Proofs.YtefclohjeompkaaGreat
open Go Go.RowKit Go.Proofs.Gen Go.Proofs.Bdd Go.Proofs.Bdd.T
/-- A call of a function value, as one step of a region that draws. -/
theorem step_value {P : Program} {w : World} {ops : Array Oper} {o : Oper} {a : Act} {K : Act → World → Prop} {Q : Exit → Act → World → Prop} {E : Prop}
    (hg : o.guard = none) (c x y z : Operand) (tys : Array TypeId) (hop : o.op = Op.call { callee := Callee.value c, args := #[x, y, z], argTypes := tys })
    {f : FuncId} {bs cs : Array Value} (hent : ∀ (args : Array Value) (w : World), (callFunc f args).run P w = .ok (.enter f args) w)
    (hc : a.eval c = .func (.func f) bs cs) (vx vy vz : Value) (hx : a.eval x = vx) (hy : a.eval y = vy) (hz : a.eval z = vz) {R : Value → World → Prop}
    (hcall : Calls P f (bs ++ #[vx, vy, vz] ++ cs) w fun e w' => ∃ v, e = .returned v ∧ R v w') (hK : ∀ v w', R v w' → K (a.put o.dst v) w') :
    if Region.wanted o (yielded ops a.tmps) = true then Oper.wp P o a w K Q else E := by
  have hw : Region.wanted o (yielded ops a.tmps) = true := by simp [Region.wanted, hg]
  rw [if_pos hw]
  have hv : (#[x, y, z] : Array Operand).map a.eval = #[vx, vy, vz] := by simp [hx, hy, hz]
  have he : (execOp a.eval o).run P w = .ok (.enter f (bs ++ #[vx, vy, vz] ++ cs)) w := by
    unfold execOp
    simp only [hop, resolve, Deferred.ofValue, hv, hc, invoke, Sem.run_bind, Sem.run_pure, Result.andThen_ok, hent]
  unfold Oper.wp
  rw [he, Oper.upon_enter]
  refine hcall.mono ?_
  rintro e w' ⟨v, rfl, h⟩
  exact hK v w' h

/-- The state of a join: after k nodes, with these results, in these blocks. -/
structure Joins (fn : FuncId) (bs cs : Array Value) (L : List T) (Inv : Nat → World → List Int → (Nat → Prop) → Prop) : Prop where
  enters : ∀ (args : Array Value) (w : World), (callFunc fn args).run Tryz.prog w = .ok (.enter fn args) w
  mono : ∀ k w outs J J', Inv k w outs J → (∀ b, b < w.heap.size → J b → J' b) → Inv k w outs J'
  keep : ∀ k w w' outs J R, Inv k w outs J → Kept R w w' → (∀ b, b < w.heap.size → J b → ¬ R b) → Inv k w' outs J
  step : ∀ k i l h w outs J, L[k]? = some (node i l h) → Inv k w outs J → (∀ b, w.heap.size ≤ b → J b) → outs.length = k + 2 → ∀ x y : Int, outs[pl L l]? = some x → outs[pl L h]? = some y →
    Calls Tryz.prog fn (bs ++ #[.int .i64 i, .int .i64 x, .int .i64 y] ++ cs) w fun e w' => ∃ v, e = .returned v ∧ ∃ z, v = .int .i64 z ∧ Inv (k + 1) w' (outs ++ [z]) J ∧ Kept J w w'

/-- A join's blocks while Fold runs: all new ones but the box of the set. -/
def jset (J : Nat → Prop) (n b : Nat) : Prop := (J b ∧ b < n) ∨ n + 1 ≤ b

theorem jset_not {J : Nat → Prop} {n b : Nat} (hb : b < n) (h : ¬ J b) : ¬ jset J n b := by
  rintro (hj | hj)
  · exact h hj.1
  · omega

def zs (outs : List Int) : List Value := outs.map (.int .i64)

/-- What Fold leaves. -/
def FoldPost (L : List T) (t0 : T) (Inv : Nat → World → List Int → (Nat → Prop) → Prop) (J : Nat → Prop) (w : World) (e : Ending) (w' : World) : Prop :=
  ∃ z outs, e = .returned (.int .i64 z) ∧ outs[pl L t0]? = some z ∧ Inv L.length w' outs (fun b => J b ∨ w.heap.size ≤ b) ∧ Kept (fun b => J b ∨ w.heap.size ≤ b) w w'

set_option maxRecDepth 100000 in
set_option maxHeartbeats 1600000 in
theorem fold_int {fn : FuncId} {bs cs : Array Value} {L : List T} {Inv : Nat → World → List Int → (Nat → Prop) → Prop} (hJ : Joins fn bs cs L Inv) (g : T.Good L) (hlen : L.length < 1099511627776) {t0 : T} (hin : In L t0) {J : Nat → Prop} {sv : Value} {w : World} {e0 f0 r : Int}
    (hr : w.ownsRow 0 84 3 sv L.length (cellsOf (enc L))) (hsv : ∀ k, sv.ownBlock = some k → ¬ J k) (h0 : Inv 0 w [e0, f0] J) (hrr : r = (pl L t0 : Nat)) :
    Calls Tryz.prog 86 #[.agg #[sv, .int .i64 r], .int .i64 e0, .int .i64 f0, .func (.func fn) bs cs] w (FoldPost L t0 Inv J w) := by
  subst hrr
  obtain ⟨i0, hi0, hz0, hz1, hz2⟩ := info_parts info3
  obtain ⟨ao, cap, rfl⟩ := owns_form hr
  have HR := Lib.hid hr
  have HJ := Lib.hid hJ
  have HSV := Lib.hid hsv
  have H0 := Lib.hid h0
  clear hr hJ hsv h0
  have hN : Near w (w.alloc (.cells #[.slice ao L.length cap, .int .i64 (pl L t0 : Nat)] 34)) := (Near.refl w).alloc _
  have hA : (w.alloc (.cells #[.slice ao L.length cap, .int .i64 (pl L t0 : Nat)] 34)).heap[w.heap.size]? = some (.cells #[.slice ao L.length cap, .int .i64 (pl L t0 : Nat)] 34 (0, 0)) := heap_new_at rfl
  have hs : (w.alloc (.cells #[.slice ao L.length cap, .int .i64 (pl L t0 : Nat)] 34)).heap.size = w.heap.size + 1 := by simp
  go_enter Tryz.func86, Tryz.ntmps86
  go_wp2_with fail
  generalize (w.alloc (.cells #[.slice ao L.length cap, .int .i64 (pl L t0 : Nat)] 34)) = W at hN hA hs ⊢
  have HN := Lib.hid hN
  have HA := Lib.hid hA
  have HS := Lib.hid hs
  clear hN hA hs
  go_loopw [9, 18] (fun x i wr => ∃ k outs, k ≤ L.length ∧ i = .int .i64 (k : Nat) ∧ outs.length = k + 2 ∧ wr.ownsRow (w.heap.size + 1) 3 1 x (k + 2) (zs outs) ∧
      Inv k wr outs (fun b => jset J w.heap.size b ∧ x.ownBlock ≠ some b) ∧ Kept (jset J w.heap.size) W wr ∧ w.heap.size + 2 ≤ wr.heap.size) (fun _ i _ => L.length - (intOf i).toNat)
  case atStart =>
    have hz : W.heap.size = w.heap.size + 1 := HS.out
    refine ⟨0, [e0, f0], Nat.zero_le _, rfl, rfl, ?_, ?_, (Kept.refl _ _).alloc _, by simp; omega⟩
    · exact ⟨rfl, .inr ⟨w.heap.size + 1, 2, _, rfl, Nat.le_refl _, heap_new_at hz.symm, Nat.le_refl _, by unfold maxLen; omega, rfl, rfl⟩⟩
    · have h1 := HJ.out.mono _ _ _ _ (fun b => J b ∧ b < w.heap.size) H0.out (fun b hb h => ⟨h, hb⟩)
      have h2 := HJ.out.keep _ _ (W.alloc (.cells #[.int .i64 e0, .int .i64 f0] 3)) _ _ (fun _ => False) h1 (HN.out.alloc _) (fun _ _ _ h => h)
      refine HJ.out.mono _ _ _ _ _ h2 (fun b _ h => ⟨.inl h, ?_⟩)
      have := h.2
      simp only [Value.ownBlock, ne_eq, Option.some.injEq]
      omega
  case round =>
    obtain ⟨k, outs, hk, rfl, hol, hrow, hinv, hkp, hs⟩ := hrel
    have HRow := Lib.hid hrow
    have HInv := Lib.hid hinv
    have HK := Lib.hid hkp
    have HOL := Lib.hid hol
    have hnj : ¬ jset J w.heap.size w.heap.size := by rintro (h | h) <;> omega
    have HAr := Lib.hid ((hkp.block _ (by rw [HS.out]; omega) hnj).trans HA.out)
    clear hrow hinv hkp hol
    by_cases hlt : k < L.length
    · have hle : (enc L).length = L.length := by simp [enc]
      have hge : (enc L)[k]? = some (en L L[k]) := by simp [enc, hlt]
      obtain ⟨gb, cap', hsv', x0, x1, x2⟩ := tri_cells (by rw [hle]; exact HR.out) hge
      rw [hle] at hsv'
      simp only [Value.slice.injEq, true_and] at hsv'
      obtain ⟨rfl, rfl⟩ := hsv'
      have hgb : gb < w.heap.size := World.block_lt_of_cell? w ⟨gb, k * 3, none⟩ x0
      have hmem : L[k] ∈ L := List.getElem_mem hlt
      have hnode := g.all L[k] hmem
      obtain ⟨i, l, h, hnd⟩ : ∃ i l h, L[k] = node i l h := by
        cases hx : L[k] with
        | leaf b => rw [hx] at hnode; exact hnode.1.elim
        | node j l' h' => exact ⟨j, l', h', rfl⟩
      have hLk : L[k]? = some (node i l h) := by rw [List.getElem?_eq_getElem hlt, hnd]
      have hpre := g.pre k i l h hLk
      rw [hnd] at x0 x1 x2
      have pL : pl L l = pl (L.take k) l := by
        have := pl_append (M := L.drop k) hpre.1
        rwa [List.take_append_drop] at this
      have pH : pl L h = pl (L.take k) h := by
        have := pl_append (M := L.drop k) hpre.2.1
        rwa [List.take_append_drop] at this
      have bL := pl_lt hpre.1
      have bH := pl_lt hpre.2.1
      simp only [List.length_take] at bL bH
      rw [← pL] at bL
      rw [← pH] at bH
      simp only [en] at x0 x1 x2
      obtain ⟨p, hp⟩ : ∃ p, p = pl L l := ⟨_, rfl⟩
      obtain ⟨q, hq⟩ : ∃ q, q = pl L h := ⟨_, rfl⟩
      rw [← hp] at bL x1
      rw [← hq] at bH x2
      have hol := HOL.out
      have ox : outs[p]? = some (outs[p]'(by omega)) := List.getElem?_eq_getElem (by omega)
      have oy : outs[q]? = some (outs[q]'(by omega)) := List.getElem?_eq_getElem (by omega)
      obtain ⟨zx, hzx⟩ : ∃ z, z = outs[p]'(by omega) := ⟨_, rfl⟩
      obtain ⟨zy, hzy⟩ : ∃ z, z = outs[q]'(by omega) := ⟨_, rfl⟩
      rw [← hzx] at ox
      rw [← hzy] at oy
      have hstep : ∀ w2, Inv k w2 outs (fun b => (jset J w.heap.size b ∧ u9.ownBlock ≠ some b) ∧ b ≠ wr.heap.size) → (∀ b, w2.heap.size ≤ b → (jset J w.heap.size b ∧ u9.ownBlock ≠ some b) ∧ b ≠ wr.heap.size) →
          Calls Tryz.prog fn (bs ++ #[.int .i64 i, .int .i64 zx, .int .i64 zy] ++ cs) w2 fun e w' => ∃ v, e = .returned v ∧ ∃ z, v = .int .i64 z ∧ Inv (k + 1) w' (outs ++ [z]) (fun b => (jset J w.heap.size b ∧ u9.ownBlock ≠ some b) ∧ b ≠ wr.heap.size) ∧ Kept (fun b => (jset J w.heap.size b ∧ u9.ownBlock ≠ some b) ∧ b ≠ wr.heap.size) w2 w' :=
        fun w2 h1 h2 => HJ.out.step k i l h w2 outs _ hLk h1 h2 hol zx zy (by rw [← hp]; exact ox) (by rw [← hq]; exact oy)
      have HStep := Lib.hid hstep
      have HOX := Lib.hid ox
      have HOY := Lib.hid oy
      have HX0 := Lib.hid x0
      have y0 := HK.out.cell (HN.out.cell x0) (jset_not hgb (HSV.out gb rfl))
      have y1 := HK.out.cell (HN.out.cell x1) (jset_not hgb (HSV.out gb rfl))
      have y2 := HK.out.cell (HN.out.cell x2) (jset_not hgb (HSV.out gb rfl))
      clear hstep ox oy x0 x1 x2 hol hzx hzy hp hq pL pH hnd hLk hpre hnode hle hge hmem
      have cells : ∀ w' : World, w'.ownsRow (w.heap.size + 1) 3 1 u9 (k + 2) (zs outs) → ∃ g xc, u9 = .slice (some ⟨g, 0, none⟩) (k + 2) xc ∧ w.heap.size + 1 ≤ g ∧ g < w'.heap.size ∧ w'.cell? ⟨g, p, none⟩ = some (.int .i64 zx) ∧ w'.cell? ⟨g, q, none⟩ = some (.int .i64 zy) := by
        intro w' h'
        obtain ⟨g, c, e, a1, hgs⟩ := row1 h' (k := p) (u := .int .i64 zx) (by unfold zs; rw [List.getElem?_map, HOX.out]; rfl) (by omega)
        obtain ⟨g', c', e', a2, -⟩ := row1 h' (k := q) (u := .int .i64 zy) (by unfold zs; rw [List.getElem?_map, HOY.out]; rfl) (by omega)
        rw [e] at e'
        cases e'
        have := (h'.lt g (by rw [e]; rfl)).1
        exact ⟨g, c, e, this, hgs, a1, a2⟩
      obtain ⟨g, xc, rfl, hg1, hg2, z0, z1⟩ := cells _ HRow.out
      have HCe := Lib.hid cells
      have hp2 : (p : Int) < (k : Int) + 2 := by omega
      have hq2 : (q : Int) < (k : Int) + 2 := by omega
      have hkl' : (k : Int) < L.length := by omega
      clear cells
      have HN1 := Lib.hid ((Near.refl wr).alloc (.cells #[.int .i64 i, .int .i64 p, .int .i64 q] 84))
      go_upto_region 5 with fail
      have d0 : (wr.alloc (.cells #[.int .i64 i, .int .i64 p, .int .i64 q] 84)).cell? ⟨wr.heap.size, 0, none⟩ = some (.int .i64 i) := by simp
      have d1 : (wr.alloc (.cells #[.int .i64 i, .int .i64 p, .int .i64 q] 84)).cell? ⟨wr.heap.size, 1, none⟩ = some (.int .i64 p) := by simp
      have d2 : (wr.alloc (.cells #[.int .i64 i, .int .i64 p, .int .i64 q] 84)).cell? ⟨wr.heap.size, 2, none⟩ = some (.int .i64 q) := by simp
      have hz1 : (wr.alloc (.cells #[.int .i64 i, .int .i64 p, .int .i64 q] 84)).heap.size = wr.heap.size + 1 := by simp
      clear y0 y1 y2 z0 z1
      generalize (wr.alloc (.cells #[.int .i64 i, .int .i64 p, .int .i64 q] 84)) = W1 at HN1 d0 d1 d2 hz1 ⊢
      have HZ1 := Lib.hid hz1
      clear hz1
      have hI1 : Inv k W1 outs (fun b => (jset J w.heap.size b ∧ (Value.slice (some ⟨g, 0, none⟩) (k + 2) xc).ownBlock ≠ some b) ∧ b ≠ wr.heap.size) :=
        HJ.out.keep _ _ _ _ _ (fun _ => False) (HJ.out.mono _ _ _ _ _ HInv.out (fun b hb h => ⟨h, by omega⟩)) HN1.out (fun _ _ _ h => h)
      have HI1 := Lib.hid hI1
      have HR1 := Lib.hid (owns_kept HRow.out HN1.out.kept (R := fun _ => False) (fun _ _ x => x))
      have hJ1 : ∀ b, W1.heap.size ≤ b → (jset J w.heap.size b ∧ (Value.slice (some ⟨g, 0, none⟩) (k + 2) xc).ownBlock ≠ some b) ∧ b ≠ wr.heap.size := by
        intro b hb
        rw [HZ1.out] at hb
        refine ⟨⟨.inr (by omega), ?_⟩, by omega⟩
        simp only [Value.ownBlock, ne_eq, Option.some.injEq]
        omega
      have HJ1 := Lib.hid hJ1
      clear hI1 hJ1
      have hsk : ∀ w' : World, Kept (fun b => b = g ∨ ((jset J w.heap.size b ∧ (Value.slice (some ⟨g, 0, none⟩) (k + 2) xc).ownBlock ≠ some b) ∧ b ≠ wr.heap.size)) W1 w' → w'.ownsRow (w.heap.size + 1) 3 1 (.slice (some ⟨g, 0, none⟩) (k + 2) xc) (k + 2) (zs outs) →
          w'.cell? ⟨wr.heap.size, 0, none⟩ = some (.int .i64 i) ∧ w'.cell? ⟨wr.heap.size, 1, none⟩ = some (.int .i64 p) ∧ w'.cell? ⟨wr.heap.size, 2, none⟩ = some (.int .i64 q) ∧ w'.cell? ⟨g, p, none⟩ = some (.int .i64 zx) ∧ w'.cell? ⟨g, q, none⟩ = some (.int .i64 zy) := by
        intro w' hk' hr'
        obtain ⟨g', c', e, -, -, a1, a2⟩ := HCe.out _ hr'
        cases e
        have hne : ¬ (wr.heap.size = g ∨ ((jset J w.heap.size wr.heap.size ∧ (Value.slice (some ⟨g, 0, none⟩) (k + 2) xc).ownBlock ≠ some wr.heap.size) ∧ wr.heap.size ≠ wr.heap.size)) := by
          rintro (h | h)
          · omega
          · exact h.2 rfl
        exact ⟨hk'.cell d0 hne, hk'.cell d1 hne, hk'.cell d2 hne, a1, a2⟩
      have HSK := Lib.hid hsk
      clear hsk
      have hsz1 : w.heap.size + 2 ≤ W1.heap.size := by rw [HZ1.out]; omega
      go_region_held3 (fun w' => w'.cell? ⟨wr.heap.size, 0, none⟩ = some (.int .i64 i) ∧ w'.cell? ⟨wr.heap.size, 1, none⟩ = some (.int .i64 p) ∧ w'.cell? ⟨wr.heap.size, 2, none⟩ = some (.int .i64 q) ∧ w'.cell? ⟨g, p, none⟩ = some (.int .i64 zx) ∧ w'.cell? ⟨g, q, none⟩ = some (.int .i64 zy))
        (first
          | exact HSK.out _ HG4.out HO4.out
          | exact HSK.out _ (HK3.out.alloc _) (HR3.out.alloc _)
          | exact HSK.out _ HK3.out HR3.out
          | exact HSK.out _ (Kept.refl _ _).drew HR1.out.drew)
        (first
          | (refine step_value rfl (.tmp 23) (.tmp 25) (.tmp 30) (.tmp 35) #[3, 3, 3] rfl HJ.out.enters rfl (.int .i64 i) (.int .i64 zx) (.int .i64 zy) rfl rfl rfl (HStep.out W1.drew (HJ.out.keep _ _ _ _ _ (fun _ => False) HI1.out (Near.refl _).drew (fun _ _ _ h => h)) HJ1.out) ?_; rintro v3 w3 ⟨z3, rfl, hi3, hk3⟩; have HI3 := Lib.hid hi3; have HK3 := Lib.hid (Kept.mono ((Kept.refl (fun b => b = g ∨ ((jset J w.heap.size b ∧ (Value.slice (some ⟨g, 0, none⟩) (k + 2) xc).ownBlock ≠ some b) ∧ b ≠ wr.heap.size)) W1).drew.trans (Kept.mono hk3 (fun _ _ h => .inr h))) (fun _ _ h => h)); have HR3 := Lib.hid (owns_kept HR1.out.drew hk3 (fun b hb h => h.1.2 hb)); clear hi3 hk3)
          | (refine step_append_keep rfl (.tmp 22) (.tmp 37) 36 rfl (w.heap.size + 1) 3 i0 (.int .i64 0) 1 8 Tryz.underlying36 hi0 hz0 hz1 hz2 rfl (by decide) _ _ _ rfl (HR3.out.alloc _) ⟨w3.heap.size, 0, none⟩ 1 1 [.int .i64 z3] rfl rfl (cell_one_at rfl _ _) (by simp [Value.oneCell']) (by unfold maxLen; omega) (by omega) (by have := HK3.out.size; simp; omega) ?_; intro ao' cap' w4 hown4 hg4 hl4 hold4; have HO4 := Lib.hid hold4; have HG4 := Lib.hid ((HK3.out.alloc _).grown hg4 (fun b hb _ => .inl (by cases hb; rfl))); have HOw4 := Lib.hid hown4; have HGr4 := Lib.hid hg4; have HL4 := Lib.hid hl4; clear hown4 hg4 hl4 hold4))
      all_goals
        have hI4 : Inv (k + 1) w4 (outs ++ [z3]) (fun b => jset J w.heap.size b ∧ (Value.slice ao' (k + 2 + 1) cap').ownBlock ≠ some b) := by
          have h1 := HJ.out.mono _ _ _ _ (fun b => (jset J w.heap.size b ∧ b ≠ g) ∧ b < w3.heap.size) HI3.out (fun b hb h => ⟨⟨h.1.1, fun e => h.1.2 (by rw [e]; rfl)⟩, hb⟩)
          have h2 := HJ.out.keep _ _ w4 _ _ (fun b => b = g) h1 (((Kept.refl _ _).alloc _).grown HGr4.out (fun b hb _ => by cases hb; rfl)) (fun b _ h => h.1.2)
          refine HJ.out.mono _ _ _ _ _ h2 (fun b _ h => ⟨h.1.1, ?_⟩)
          rcases HL4.out with hl | hl
          · rw [hl]
            intro e
            cases e
            exact h.1.2 rfl
          · rw [hl]
            intro e
            have h3 := h.2
            simp at e
            omega
        have HI4 := Lib.hid hI4
        have HKK := Lib.hid ((HK.out.trans HN1.out.kept).trans (Kept.mono HG4.out (fun b _ h => by
          rcases h with h | h
          · exact .inr (by omega)
          · exact h.1.1)))
        clear hI4
        go_wp2_with fail
        refine ⟨⟨k + 1, outs ++ [z3], hlt, by go_num, by rw [List.length_append, HOL.out]; rfl, ?_, HI4.out, HKK.out, ?_⟩, by simp [intOf]; omega⟩
        · have e : zs (outs ++ [z3]) = zs outs ++ [.int .i64 z3] := by simp [zs]
          rw [e]
          exact HOw4.out
        · have := HG4.out.size
          omega
    · have hkl : k = L.length := by omega
      subst hkl
      have hol := HOL.out
      have bT := pl_lt hin
      have ox : outs[pl L t0]? = some (outs[pl L t0]'(by omega)) := List.getElem?_eq_getElem (by omega)
      obtain ⟨z, hz⟩ : ∃ z, z = outs[pl L t0]'(by omega) := ⟨_, rfl⟩
      rw [← hz] at ox
      obtain ⟨g, xc, e, a1, -⟩ := row1 HRow.out (k := pl L t0) (u := .int .i64 z) (by unfold zs; rw [List.getElem?_map, ox]; rfl) (by omega)
      subst e
      have c0 := cell1 (o := 1) HAr.out rfl
      have bT1 : ((pl L t0 : Nat) : Int) < (L.length : Int) + 2 := by omega
      have HOX := Lib.hid ox
      clear hol ox hz
      go_wp2_with fail
      refine bodyPost_ret (v := .int .i64 z) (by simp [results, Tryz.results86, go_sem]) rfl ⟨z, outs, rfl, HOX.out, HJ.out.mono _ _ _ _ _ HInv.out (fun b _ h => ?_), (Kept.mono (HN.out.kept.trans HK.out) (fun b hb h => ?_))⟩
      · rcases h.1 with h | h
        · exact .inl h.1
        · exact .inr (by omega)
      · rcases h with h | h
        · exact .inl h.1
        · exact .inr (by omega)

end Go.Proofs.YtefclohjeompkaaGreat

/- FoldM: what is needed of it. -/
namespace Go.Proofs.YtefclohjeompkaaGreat
open Go Go.RowKit Go.Proofs.Gen Go.Proofs.Bdd Go.Proofs.Bdd.T
/-- What a fold makes of the trees of a listing. -/
def phis (φ : T → T) (L : List T) : List T := φ (leaf false) :: φ (leaf true) :: L.map φ

theorem phis_get {φ : T → T} {L : List T} {t : T} (h : In L t) : (phis φ L)[pl L t]? = some (φ t) := by
  cases t with
  | leaf b => cases b <;> rfl
  | node i l r =>
    have hm : node i l r ∈ L := h
    have := pl_get (L := L) hm
    have h2 := pl_node (L := L) i l r
    obtain ⟨n, hn⟩ : ∃ n, pl L (node i l r) = n + 2 := ⟨pl L (node i l r) - 2, by omega⟩
    rw [hn] at this ⊢
    simp only [phis, List.getElem?_cons_succ, List.getElem?_map]
    rw [show n + 2 - 2 = n from by omega] at this
    rw [this]
    rfl

theorem phis_snoc (φ : T → T) (L : List T) (t : T) : phis φ (L ++ [t]) = phis φ L ++ [φ t] := by simp [phis]

/-- Places of trees, as numbers. -/
def pls (M : List T) (ts : List T) : List Int := ts.map fun t => ((pl M t : Nat) : Int)

/-- A maker holds what a fold made of the first k nodes. -/
def MInv (φ : T → T) (L : List T) (mb : Nat) (X : World → (Nat → Prop) → Prop) (k : Nat) (w : World) (outs : List Int) (J : Nat → Prop) : Prop :=
  ∃ M, T.Good M ∧ IsMaker w mb J M ∧ M.length ≤ k ∧ (∀ t ∈ phis φ (L.take k), In M t) ∧ outs = pls M (phis φ (L.take k)) ∧ X w J

theorem MInv.mono {φ : T → T} {L : List T} {mb : Nat} {X : World → (Nat → Prop) → Prop} {k : Nat} {w : World} {outs : List Int} {J J' : Nat → Prop} (h : MInv φ L mb X k w outs J) (hX : X w J → X w J') (hs : ∀ b, b < w.heap.size → J b → J' b) : MInv φ L mb X k w outs J' := by
  obtain ⟨M, g, hm, hl, hi, ho, hx⟩ := h
  exact ⟨M, g, hm.mono_lt hs, hl, hi, ho, hX hx⟩

theorem MInv.keep {φ : T → T} {L : List T} {mb : Nat} {X : World → (Nat → Prop) → Prop} {k : Nat} {w w' : World} {outs : List Int} {J R : Nat → Prop} (h : MInv φ L mb X k w outs J) (hX : X w J → X w' J) (hk : Kept R w w') (hd : ∀ b, b < w.heap.size → J b → ¬ R b) : MInv φ L mb X k w' outs J := by
  obtain ⟨M, g, hm, hl, hi, ho, hx⟩ := h
  exact ⟨M, g, hm.of_kept hk hd, hl, hi, ho, hX hx⟩

/-- One node more. -/
theorem pls_add {M : List T} {ts : List T} (hi : ∀ t ∈ ts, In M t) (i : Nat) (l h : T) : pls (add M i l h) ts = pls M ts := by
  refine List.map_congr_left fun t ht => ?_
  obtain ⟨N, hN⟩ := add_prefix M i l h
  rw [hN, pl_append (hi t ht)]

theorem pls_get {M ts : List T} {n : Nat} {t : T} {x : Int} (h : ts[n]? = some t) (hx : (pls M ts)[n]? = some x) : x = (pl M t : Nat) := by
  unfold pls at hx
  rw [List.getElem?_map, h] at hx
  simpa using hx.symm

/-- The places of a node's children. -/
theorem kids_at {φ : T → T} {L : List T} (g : T.Good L) {k i : Nat} {l h : T} (hk : L[k]? = some (node i l h)) {M : List T} {x y : Int}
    (hx : (pls M (phis φ (L.take k)))[pl L l]? = some x) (hy : (pls M (phis φ (L.take k)))[pl L h]? = some y) :
    (φ l ∈ phis φ (L.take k)) ∧ (φ h ∈ phis φ (L.take k)) ∧ x = (pl M (φ l) : Nat) ∧ y = (pl M (φ h) : Nat) := by
  have p := g.pre k i l h hk
  have e1 : pl L l = pl (L.take k) l := by
    have := pl_append (M := L.drop k) p.1
    rwa [List.take_append_drop] at this
  have e2 : pl L h = pl (L.take k) h := by
    have := pl_append (M := L.drop k) p.2.1
    rwa [List.take_append_drop] at this
  have g1 := phis_get (φ := φ) p.1
  have g2 := phis_get (φ := φ) p.2.1
  rw [e1] at hx
  rw [e2] at hy
  exact ⟨List.mem_of_getElem? g1, List.mem_of_getElem? g2, pls_get g1 hx, pls_get g2 hy⟩

/-- The complement. -/
def negT : T → T
  | .leaf b => .leaf (!b)
  | .node i l h => T.mk i (negT l) (negT h)

theorem negT_ok : ∀ {t : T}, t.Ok → (negT t).Ok ∧ t.lv ≤ (negT t).lv
  | .leaf _, _ => ⟨trivial, Nat.le_refl _⟩
  | .node i l h, ok => by
    have a := negT_ok ok.2.2.2.2.1
    have b := negT_ok ok.2.2.2.2.2
    have h1 := ok.2.1
    have h2 := ok.2.2.1
    exact ⟨mk_ok ok.1 (by omega) (by omega) a.1 b.1, show i ≤ (T.mk i (negT l) (negT h)).lv from mk_lv (by omega)⟩

theorem negT_ev (c : Nat → Bool) : ∀ t : T, (negT t).ev c = !t.ev c
  | .leaf _ => rfl
  | .node i l h => by
    rw [negT, mk_ev, negT_ev c l, negT_ev c h]
    simp only [ev]
    split <;> rfl

theorem node_enters (args : Array Value) (w : World) : (callFunc 85 args).run Tryz.prog w = .ok (.enter 85 args) w := call_enters Tryz.func85 (by kernel_rfl) rfl args w

theorem take_succ_node {L : List T} {k : Nat} {t : T} (h : L[k]? = some t) : L.take (k + 1) = L.take k ++ [t] := by
  rw [List.take_add_one, h]
  rfl

/-- A maker behind one node more. -/
theorem MInv.node {φ : T → T} {L : List T} (g : T.Good L) {mb : Nat} {X : World → (Nat → Prop) → Prop} {k i : Nat} {l h : T} {w' : World} {J S : Nat → Prop} {M : List T} {x y : Int} (hk : L[k]? = some (node i l h))
    (gM : T.Good M) (hl : M.length ≤ k) (hi : ∀ t ∈ phis φ (L.take k), In M t) (hφ : ∀ t : T, t.Ok → (φ t).Ok ∧ t.lv ≤ (φ t).lv) (hnode : φ (node i l h) = T.mk i (φ l) (φ h))
    (hx : (pls M (phis φ (L.take k)))[pl L l]? = some x) (hy : (pls M (phis φ (L.take k)))[pl L h]? = some y) (hm : IsMaker w' mb S (add M i (φ l) (φ h))) (hS : ∀ b, S b → J b) (hX : X w' J) :
    MInv φ L mb X (k + 1) w' (pls M (phis φ (L.take k)) ++ [((pl (add M i (φ l) (φ h)) (T.mk i (φ l) (φ h)) : Nat) : Int)]) J := by
  obtain ⟨m1, m2, rfl, rfl⟩ := kids_at g hk hx hy
  have p := g.pre k i l h hk
  have o1 := hφ l p.2.2.2.2.2.2.1
  have o2 := hφ h p.2.2.2.2.2.2.2
  have l1 := p.2.2.2.1
  have l2 := p.2.2.2.2.1
  refine ⟨add M i (φ l) (φ h), add_good gM (hi _ m1) (hi _ m2) p.2.2.1 (by omega) (by omega) o1.1 o2.1, hm.mono hS, ?_, ?_, ?_, hX⟩
  · have := add_len M i (φ l) (φ h)
    omega
  · intro t ht
    rw [take_succ_node hk, phis_snoc] at ht
    rcases List.mem_append.1 ht with ht | ht
    · obtain ⟨N, hN⟩ := add_prefix M i (φ l) (φ h)
      rw [hN]
      exact (hi t ht).mono N
    · simp at ht
      subst ht
      rw [hnode]
      exact add_in (hi _ m1)
  · rw [take_succ_node hk, phis_snoc, ← pls_add hi i (φ l) (φ h)]
    simp [pls, hnode]

theorem neg_joins {L : List T} (g : T.Good L) (hlen : L.length < 1099511627776) (mb : Nat) : Joins 85 #[.pointer (some ⟨mb, 0, none⟩)] #[] L (MInv negT L mb (fun _ _ => True)) where
  enters := node_enters
  mono := fun k w outs J J' h hs => h.mono id hs
  keep := fun k w w' outs J R h hk hd => h.keep id hk hd
  step := by
    intro k i l h w outs J hk ⟨M, gM, hm, hl, hi, ho, _⟩ hJ hol x y hx hy
    subst ho
    obtain ⟨m1, m2, ex, ey⟩ := kids_at g hk hx hy
    have hkl : k < L.length := (List.getElem?_eq_some_iff.1 hk).1
    have p := g.pre k i l h hk
    refine (node_calls gM (hi _ m1) (hi _ m2) p.2.2.1 (by omega) hJ hm rfl ex ey).mono ?_
    rintro e w' ⟨rfl, hm', hk'⟩
    exact ⟨_, rfl, _, rfl, MInv.node g hk gM hl hi (fun t => negT_ok) rfl hx hy hm' (fun _ h => h) trivial, hk'⟩

end Go.Proofs.YtefclohjeompkaaGreat

/- Not: what is needed of it. -/
namespace Go.Proofs.YtefclohjeompkaaGreat
open Go Go.RowKit Go.Proofs.Gen Go.Proofs.Bdd Go.Proofs.Bdd.T
/-- What a fold that makes a set leaves: the tree's place. -/
theorem MInv.out {φ : T → T} {L : List T} {mb : Nat} {X : World → (Nat → Prop) → Prop} {w : World} {outs : List Int} {J : Nat → Prop} {t : T} {z : Int} (h : MInv φ L mb X L.length w outs J) (hin : In L t) (hz : outs[pl L t]? = some z) :
    ∃ M, T.Good M ∧ IsMaker w mb J M ∧ M.length ≤ L.length ∧ In M (φ t) ∧ z = (pl M (φ t) : Nat) := by
  obtain ⟨M, g, hm, hl, hi, rfl, _⟩ := h
  rw [List.take_length] at hi hz
  have hp := phis_get (φ := φ) hin
  exact ⟨M, g, hm, hl, hi _ (List.mem_of_getElem? hp), pls_get hp hz⟩

set_option maxRecDepth 100000 in
set_option maxHeartbeats 800000 in
theorem not_calls {w : World} {v : Value} {t : T} (h : IsD w v t) : Calls Tryz.prog 51 #[v] w (DEv w (fun c => !t.ev c)) := by
  have HD := Lib.hid h
  obtain ⟨ok, sv, rfl, hr⟩ := h
  obtain ⟨ao, cap, rfl⟩ := owns_form hr
  have HR := Lib.hid hr
  have hlen := nodes_len ok
  have hown := fun k hk => (hr.lt k hk).2
  have HOwn := Lib.hid hown
  have hA : ((((w.alloc (.cells #[.slice ao (nodes t).length cap, .int .i64 (pl (nodes t) t : Nat)] 34)).alloc (.cells #[.slice none 0 0, .int .i64 0] 34)).alloc (.map #[] 0)).alloc (.cells #[.slice none 0 0, .map (some (w.heap.size + 1 + 1))] 149)).heap[w.heap.size]? = some (.cells #[.slice ao (nodes t).length cap, .int .i64 (pl (nodes t) t : Nat)] 34 (0, 0)) := by
    rw [heap_old_at (by simp <;> omega), heap_old_at (by simp <;> omega), heap_old_at (by simp), heap_new_at rfl]
  have hB : ((((w.alloc (.cells #[.slice ao (nodes t).length cap, .int .i64 (pl (nodes t) t : Nat)] 34)).alloc (.cells #[.slice none 0 0, .int .i64 0] 34)).alloc (.map #[] 0)).alloc (.cells #[.slice none 0 0, .map (some (w.heap.size + 1 + 1))] 149)).heap[w.heap.size + 1]? = some (.cells #[.slice none 0 0, .int .i64 0] 34 (0, 0)) := by
    rw [heap_old_at (by simp <;> omega), heap_old_at (by simp), heap_new_at (by simp)]
  have hN : Near w ((((w.alloc (.cells #[.slice ao (nodes t).length cap, .int .i64 (pl (nodes t) t : Nat)] 34)).alloc (.cells #[.slice none 0 0, .int .i64 0] 34)).alloc (.map #[] 0)).alloc (.cells #[.slice none 0 0, .map (some (w.heap.size + 1 + 1))] 149)) := ((((Near.refl w).alloc _).alloc _).alloc _).alloc _
  have hm : IsMaker ((((w.alloc (.cells #[.slice ao (nodes t).length cap, .int .i64 (pl (nodes t) t : Nat)] 34)).alloc (.cells #[.slice none 0 0, .int .i64 0] 34)).alloc (.map #[] 0)).alloc (.cells #[.slice none 0 0, .map (some (w.heap.size + 1 + 1))] 149)) (w.heap.size + 1 + 1 + 1) (fun b => w.heap.size + 2 ≤ b) [] :=
    maker_empty (heap_new_at (by simp)) ((heap_old_at (by simp)).trans (heap_new_at (by simp))) (by omega) (by omega)
  have HA := Lib.hid hA
  have HB := Lib.hid hB
  have HN := Lib.hid hN
  have HM := Lib.hid hm
  clear hr hown hA hB hN hm
  go_enter Tryz.func51, Tryz.ntmps51
  go_wp2_with (first
    | (go_at_call 82; refine (maker_new _).mono ?_; rintro e w1 ⟨rfl, rfl⟩))
  refine (fold_int (J := fun b => w.heap.size + 2 ≤ b) (neg_joins (nodes_good ok) (by omega) (w.heap.size + 1 + 1 + 1)) (nodes_good ok) (by omega) (nodes_in t) (owns_kept HR.out HN.out.kept (R := fun _ => False) (fun _ _ x => x)) (fun k hk => by have := HOwn.out k hk; omega) ⟨[], .nil, HM.out, Nat.le_refl _, by simp [phis, negT, In], rfl, trivial⟩ rfl).mono ?_
  rintro e w2 ⟨z, outs, rfl, hz, hi, hk⟩
  obtain ⟨M, gM, hM, hML, hin, rfl⟩ := hi.out (nodes_in t) hz
  have hk' : Kept (fun b => w.heap.size + 2 ≤ b) ((((w.alloc (.cells #[.slice ao (nodes t).length cap, .int .i64 (pl (nodes t) t : Nat)] 34)).alloc (.cells #[.slice none 0 0, .int .i64 0] 34)).alloc (.map #[] 0)).alloc (.cells #[.slice none 0 0, .map (some (w.heap.size + 1 + 1))] 149)) w2 := Kept.mono hk (fun b hb h => by
    rcases h with h | h
    · exact h
    · simp at h; omega)
  have HB2 := Lib.hid ((hk'.block (w.heap.size + 1) (by simp <;> omega) (by omega)).trans HB.out)
  have HN2 : Near w w2 := Kept.mono (HN.out.kept.trans hk') (fun b hb h => by omega)
  clear hi hz hk hk' HN HM HA HB
  go_wp2_with (first
    | (go_at_call 83; refine (done_calls gM (by omega) hin (negT_ok ok).1 hM rfl).mono ?_; rintro e w3 ⟨v3, rfl, hd, hb⟩; obtain ⟨bo, bn, bc, rfl, -⟩ := hd.form; have HD3 := Lib.hid hd; have HB3 := Lib.hid hb; have HE := Lib.hid (keepE hb HB2.out); have q0 := cell1 (o := 0) HE.out rfl; have q1 := cell1 (o := 1) HE.out rfl; have f0 := free1 HE.out 0; have f1 := free1 HE.out 1; clear hd hb))
  exact bodyPost_ret (v := .agg #[.slice bo bn bc, .int .i64 (pl (nodes (negT t)) (negT t) : Nat)]) (by simp [results, Tryz.results51, go_sem, q0, q1]) rfl
    ⟨negT t, fun c => negT_ev c t, _, rfl, isD_store HD3.out HE.out, (((HN2.trans (Near.of_below HB3.out)).set (by show w.heap.size ≤ w.heap.size + 1; omega) _).set (by show w.heap.size ≤ w.heap.size + 1; omega) _).below⟩

/-- A tree with a feature fixed. -/
def fixT (v : Int) (on : Bool) : T → T
  | .leaf b => .leaf b
  | .node i l h => if (i : Int) = v then (if on then fixT v on h else fixT v on l) else T.mk i (fixT v on l) (fixT v on h)

theorem fixT_ok {v : Int} {on : Bool} : ∀ {t : T}, t.Ok → (fixT v on t).Ok ∧ t.lv ≤ (fixT v on t).lv
  | .leaf _, _ => ⟨trivial, Nat.le_refl _⟩
  | .node i l h, ok => by
    have a := fixT_ok (v := v) (on := on) ok.2.2.2.2.1
    have b := fixT_ok (v := v) (on := on) ok.2.2.2.2.2
    have h1 := ok.2.1
    have h2 := ok.2.2.1
    have e : (node i l h).lv = i := rfl
    rw [e, fixT]
    split
    · split
      · exact ⟨b.1, by omega⟩
      · exact ⟨a.1, by omega⟩
    · exact ⟨mk_ok ok.1 (by omega) (by omega) a.1 b.1, mk_lv (by omega)⟩

/-- A configuration with a feature fixed, any number. -/
def updI (c : Nat → Bool) (v : Int) (on : Bool) : Nat → Bool := fun j => if (j : Int) = v then on else c j

theorem fixT_ev {v : Int} {on : Bool} (c : Nat → Bool) : ∀ {t : T}, (fixT v on t).ev c = t.ev (updI c v on)
  | .leaf _ => rfl
  | .node i l h => by
    rw [fixT]
    simp only [ev]
    by_cases hi : (i : Int) = v
    · rw [if_pos hi]
      have : updI c v on i = on := by simp [updI, hi]
      rw [this]
      cases on
      · exact fixT_ev c
      · exact fixT_ev c
    · rw [if_neg hi, mk_ev, fixT_ev c, fixT_ev c]
      have : updI c v on i = c i := by simp [updI, hi]
      rw [this]

theorem IsMaker.avoid {w : World} {mb : Nat} {S : Nat → Prop} {L : List T} {b : Nat} {cs : Array Value} {t : TypeId} {fr : Nat × Nat} (h : IsMaker w mb S L) (hb : w.heap[b]? = some (.cells cs t fr)) (h1 : 149 ≠ t) (h2 : 84 ≠ t) :
    IsMaker w mb (fun k => S k ∧ k ≠ b) L := by
  obtain ⟨sv, kb, n, hmb, hown, hmap, hn, s1, s2, s3⟩ := h
  refine ⟨sv, kb, n, hmb, hown, hmap, hn, ⟨s1, ?_⟩, ⟨s2, ?_⟩, fun k hk => ⟨s3 k hk, ?_⟩⟩
  · rintro rfl
    rw [hmb] at hb
    cases hb
    exact h1 rfl
  · rintro rfl
    obtain ⟨es, clock, hmp, _⟩ := hmap
    rw [hmp] at hb
    cases hb
  · rintro rfl
    exact owns_ne hown hb h2 hk

/-- What With's join sees beside the maker. -/
def WithEnv (ib pb ob mb : Nat) (v : Int) (on : Bool) (w : World) (J : Nat → Prop) : Prop :=
  J ib ∧ J pb ∧ J ob ∧ w.heap[ib]? = some (.cells #[.int .i64 v] 3 (0, 0)) ∧ w.heap[pb]? = some (.cells #[.pointer (some ⟨mb, 0, none⟩)] 114 (0, 0)) ∧ w.heap[ob]? = some (.cells #[.bool on] 4 (0, 0))

set_option maxRecDepth 100000 in
set_option maxHeartbeats 400000 in
theorem wj_node {ib pb ob mb : Nat} {v : Int} {on : Bool} {w : World} {J : Nat → Prop} (he : WithEnv ib pb ob mb v on w J) {i : Nat} (hi : ((i : Int) != v) = true) {x y : Int} {P : Ending → World → Prop} (hn : Calls Tryz.prog 85 #[.pointer (some ⟨mb, 0, none⟩), .int .i64 i, .int .i64 x, .int .i64 y] w fun e w' => (∃ z, e = .returned (.int .i64 z)) ∧ P e w') :
    Calls Tryz.prog 87 #[.int .i64 i, .int .i64 x, .int .i64 y, .pointer (some ⟨ib, 0, none⟩), .pointer (some ⟨pb, 0, none⟩), .pointer (some ⟨ob, 0, none⟩)] w P := by
  have c0 := cell1 (o := 0) he.2.2.2.1 rfl
  have c1 := cell1 (o := 0) he.2.2.2.2.1 rfl
  have c2 := cell1 (o := 0) he.2.2.2.2.2 rfl
  have HN := Lib.hid hn
  clear he hn
  go_enter Tryz.func87, Tryz.ntmps87
  go_wp2_with (first
    | (go_at_call 85; refine (HN.out).mono ?_; rintro e w' ⟨⟨z, rfl⟩, hP⟩))
  exact hP

set_option maxRecDepth 100000 in
set_option maxHeartbeats 400000 in
theorem wj_fix {ib pb ob mb : Nat} {v : Int} {on : Bool} {w : World} {J : Nat → Prop} (he : WithEnv ib pb ob mb v on w J) {i : Nat} (hi : ((i : Int) != v) = false) {x y : Int} :
    Calls Tryz.prog 87 #[.int .i64 i, .int .i64 x, .int .i64 y, .pointer (some ⟨ib, 0, none⟩), .pointer (some ⟨pb, 0, none⟩), .pointer (some ⟨ob, 0, none⟩)] w fun e w' => e = .returned (.int .i64 (if on then y else x)) ∧ w = w' := by
  have c0 := cell1 (o := 0) he.2.2.2.1 rfl
  have c1 := cell1 (o := 0) he.2.2.2.2.1 rfl
  have c2 := cell1 (o := 0) he.2.2.2.2.2 rfl
  clear he
  cases on
  all_goals
    go_enter Tryz.func87, Tryz.ntmps87
    go_wp2_with fail
    go_ret
    exact ⟨rfl, rfl⟩

theorem wj_enters (args : Array Value) (w : World) : (callFunc 87 args).run Tryz.prog w = .ok (.enter 87 args) w := call_enters Tryz.func87 (by kernel_rfl) rfl args w

theorem WithEnv.keep {ib pb ob mb : Nat} {v : Int} {on : Bool} {w w' : World} {J R : Nat → Prop} (h : WithEnv ib pb ob mb v on w J) (hk : Kept R w w') (hd : ∀ b, b < w.heap.size → J b → ¬ R b) : WithEnv ib pb ob mb v on w' J := by
  obtain ⟨j1, j2, j3, h1, h2, h3⟩ := h
  have l1 := (Array.getElem?_eq_some_iff.1 h1).1
  have l2 := (Array.getElem?_eq_some_iff.1 h2).1
  have l3 := (Array.getElem?_eq_some_iff.1 h3).1
  exact ⟨j1, j2, j3, (hk.block _ l1 (hd _ l1 j1)).trans h1, (hk.block _ l2 (hd _ l2 j2)).trans h2, (hk.block _ l3 (hd _ l3 j3)).trans h3⟩

theorem WithEnv.mono {ib pb ob mb : Nat} {v : Int} {on : Bool} {w : World} {J J' : Nat → Prop} (h : WithEnv ib pb ob mb v on w J) (hs : ∀ b, b < w.heap.size → J b → J' b) : WithEnv ib pb ob mb v on w J' := by
  obtain ⟨j1, j2, j3, h1, h2, h3⟩ := h
  exact ⟨hs _ (Array.getElem?_eq_some_iff.1 h1).1 j1, hs _ (Array.getElem?_eq_some_iff.1 h2).1 j2, hs _ (Array.getElem?_eq_some_iff.1 h3).1 j3, h1, h2, h3⟩

theorem with_joins {L : List T} (g : T.Good L) (hlen : L.length < 1099511627776) (ib pb ob mb : Nat) (v : Int) (on : Bool) :
    Joins 87 #[] #[.pointer (some ⟨ib, 0, none⟩), .pointer (some ⟨pb, 0, none⟩), .pointer (some ⟨ob, 0, none⟩)] L (MInv (fixT v on) L mb (WithEnv ib pb ob mb v on)) where
  enters := wj_enters
  mono := fun k w outs J J' h hs => h.mono (fun x => x.mono hs) hs
  keep := fun k w w' outs J R h hk hd => h.keep (fun x => x.keep hk hd) hk hd
  step := by
    intro k i l h w outs J hk ⟨M, gM, hm, hl, hi, ho, hX⟩ hJ hol x y hx hy
    subst ho
    obtain ⟨m1, m2, ex, ey⟩ := kids_at g hk hx hy
    have hkl : k < L.length := (List.getElem?_eq_some_iff.1 hk).1
    have p := g.pre k i l h hk
    by_cases hv : (i : Int) = v
    · refine (wj_fix hX (by simp [hv])).mono ?_
      rintro e w' ⟨rfl, rfl⟩
      have e1 : fixT v on (node i l h) = if on then fixT v on h else fixT v on l := by rw [fixT, if_pos hv]
      refine ⟨_, rfl, _, rfl, ⟨M, gM, hm, by omega, ?_, ?_, hX⟩, Kept.refl _ _⟩
      · intro t ht
        rw [take_succ_node hk, phis_snoc] at ht
        rcases List.mem_append.1 ht with ht | ht
        · exact hi t ht
        · simp at ht
          subst ht
          rw [e1]
          cases on
          · exact hi _ m1
          · exact hi _ m2
      · rw [take_succ_node hk, phis_snoc, e1, ex, ey]
        cases on <;> simp [pls]
    · have b1 := (Array.getElem?_eq_some_iff.1 hX.2.2.2.1).1
      have b2 := (Array.getElem?_eq_some_iff.1 hX.2.2.2.2.1).1
      have b3 := (Array.getElem?_eq_some_iff.1 hX.2.2.2.2.2).1
      have hm' := ((hm.avoid hX.2.2.2.1 (by decide) (by decide)).avoid hX.2.2.2.2.1 (by decide) (by decide)).avoid hX.2.2.2.2.2 (by decide) (by decide)
      have hn := node_calls gM (hi _ m1) (hi _ m2) p.2.2.1 (by omega) (S := fun b => ((J b ∧ b ≠ ib) ∧ b ≠ pb) ∧ b ≠ ob) (fun b hb => ⟨⟨⟨hJ b hb, by omega⟩, by omega⟩, by omega⟩) hm' rfl ex ey
      refine wj_node hX (by simpa using hv) (hn.mono ?_)
      rintro e w' ⟨rfl, hmm, hkk⟩
      refine ⟨⟨_, rfl⟩, _, rfl, _, rfl, ?_, Kept.mono hkk (fun b _ h => h.1.1.1)⟩
      obtain ⟨j1, j2, j3, h1, h2, h3⟩ := hX
      exact MInv.node g hk gM hl hi (fun t => fixT_ok) (by rw [fixT, if_neg hv]) hx hy hmm (fun _ h => h.1.1.1)
        ⟨j1, j2, j3, (hkk.block _ b1 (fun h => h.1.1.2 rfl)).trans h1, (hkk.block _ b2 (fun h => h.1.2 rfl)).trans h2, (hkk.block _ b3 (fun h => h.2 rfl)).trans h3⟩

end Go.Proofs.YtefclohjeompkaaGreat

/- With1: what is needed of it. -/
namespace Go.Proofs.YtefclohjeompkaaGreat
open Go Go.RowKit Go.Proofs.Gen Go.Proofs.Bdd Go.Proofs.Bdd.T
theorem MInv.env {φ : T → T} {L : List T} {mb k : Nat} {X : World → (Nat → Prop) → Prop} {w : World} {outs : List Int} {J : Nat → Prop} (h : MInv φ L mb X k w outs J) : X w J := by
  obtain ⟨_, _, _, _, _, _, hx⟩ := h
  exact hx

set_option maxRecDepth 100000 in
set_option maxHeartbeats 1600000 in
theorem with1_calls {w : World} {v : Value} {t : T} (h : IsD w v t) (i : Int) (on : Bool) : Calls Tryz.prog 53 #[v, .int .i64 i, .bool on] w (DEv w (fun c => t.ev (updI c i on))) := by
  obtain ⟨ok, sv, rfl, hr⟩ := h
  obtain ⟨ao, cap, rfl⟩ := owns_form hr
  have HR := Lib.hid hr
  have hlen := nodes_len ok
  have hown := fun k hk => (hr.lt k hk).2
  have HOwn := Lib.hid hown
  clear hr hown
  go_enter Tryz.func53, Tryz.ntmps53
  go_upto_region 2 with (first
    | (go_at_call 82; refine (maker_new _).mono ?_; rintro e w1 ⟨rfl, rfl⟩))
  have facts : ∀ W, W = (((((((w.alloc (Obj.cells #[Value.slice ao (nodes t).length cap, Value.int IntKind.i64 (pl (nodes t) t : Nat)] 34)).alloc (Obj.cells #[Value.int IntKind.i64 i] 3)).alloc (Obj.cells #[Value.bool on] 4)).alloc (Obj.cells #[Value.slice none 0 0, Value.int IntKind.i64 0] 34)).alloc (Obj.map #[] 0)).alloc (Obj.cells #[Value.slice none 0 0, Value.map (some (w.heap.size + 1 + 1 + 1 + 1))] 149)).alloc (Obj.cells #[Value.pointer (some ⟨w.heap.size + 1 + 1 + 1 + 1 + 1, 0, none⟩)] 114)) →
      Near w W ∧ W.heap.size = w.heap.size + 7 ∧ W.heap[w.heap.size]? = some (.cells #[.slice ao (nodes t).length cap, .int .i64 (pl (nodes t) t : Nat)] 34 (0, 0)) ∧ W.heap[w.heap.size + 1 + 1 + 1]? = some (.cells #[.slice none 0 0, .int .i64 0] 34 (0, 0)) ∧
      WithEnv (w.heap.size + 1) (w.heap.size + 1 + 1 + 1 + 1 + 1 + 1) (w.heap.size + 1 + 1) (w.heap.size + 1 + 1 + 1 + 1 + 1) i on W (fun b => w.heap.size + 1 ≤ b ∧ b ≠ w.heap.size + 3) ∧ IsMaker W (w.heap.size + 1 + 1 + 1 + 1 + 1) (fun b => w.heap.size + 1 ≤ b ∧ b ≠ w.heap.size + 3) [] := by
    rintro W rfl
    refine ⟨(((((((Near.refl w).alloc _).alloc _).alloc _).alloc _).alloc _).alloc _).alloc _, by simp, ?_, ?_, ⟨⟨by omega, by omega⟩, ⟨by omega, by omega⟩, ⟨by omega, by omega⟩, ?_, heap_new_at (by simp), ?_⟩, maker_empty ?_ (kb := w.heap.size + 1 + 1 + 1 + 1) ?_ ⟨by omega, by omega⟩ ⟨by omega, by omega⟩⟩
    all_goals
      repeat (first | exact heap_new_at (by simp; done) | refine (heap_old_at (by simp <;> omega)).trans ?_)
  have facts' := facts _ rfl
  generalize (((((((w.alloc (Obj.cells #[Value.slice ao (nodes t).length cap, Value.int IntKind.i64 (pl (nodes t) t : Nat)] 34)).alloc (Obj.cells #[Value.int IntKind.i64 i] 3)).alloc (Obj.cells #[Value.bool on] 4)).alloc (Obj.cells #[Value.slice none 0 0, Value.int IntKind.i64 0] 34)).alloc (Obj.map #[] 0)).alloc (Obj.cells #[Value.slice none 0 0, Value.map (some (w.heap.size + 1 + 1 + 1 + 1))] 149)).alloc (Obj.cells #[Value.pointer (some ⟨w.heap.size + 1 + 1 + 1 + 1 + 1, 0, none⟩)] 114)) = W at facts' ⊢
  clear facts
  obtain ⟨hN, hsz, hA, hB, hE, hM⟩ := facts'
  have HN := Lib.hid hN
  have HSz := Lib.hid hsz
  have HA := Lib.hid hA
  have HB := Lib.hid hB
  have HE := Lib.hid hE
  have HM := Lib.hid hM
  clear hN hsz hA hB hE hM
  have hsk : ∀ w', Kept (fun b => (w.heap.size + 1 ≤ b ∧ b ≠ w.heap.size + 3) ∨ W.heap.size ≤ b) W w' → w'.heap[w.heap.size + 1 + 1 + 1 + 1 + 1 + 1]? = some (.cells #[.pointer (some ⟨w.heap.size + 1 + 1 + 1 + 1 + 1, 0, none⟩)] 114 (0, 0)) →
      w'.cell? ⟨w.heap.size, 0, none⟩ = some (.slice ao (nodes t).length cap) ∧ w'.cell? ⟨w.heap.size, 1, none⟩ = some (.int .i64 (pl (nodes t) t : Nat)) ∧ w'.cell? ⟨w.heap.size + 1 + 1 + 1 + 1 + 1 + 1, 0, none⟩ = some (.pointer (some ⟨w.heap.size + 1 + 1 + 1 + 1 + 1, 0, none⟩)) := by
    intro w' hk hp
    have hA' := (hk.block w.heap.size (by rw [HSz.out]; omega) (by rw [HSz.out]; omega)).trans HA.out
    exact ⟨cell1 hA' rfl, cell1 hA' rfl, cell1 hp rfl⟩
  have hst : ∀ w' x y, Kept (fun b => (w.heap.size + 1 ≤ b ∧ b ≠ w.heap.size + 3) ∨ W.heap.size ≤ b) W w' → w'.heap[w.heap.size + 1 + 1 + 1 + 1 + 1 + 1]? = some (.cells #[.pointer (some ⟨w.heap.size + 1 + 1 + 1 + 1 + 1, 0, none⟩)] 114 (0, 0)) →
      (fun w' => w'.cell? ⟨w.heap.size, 0, none⟩ = some (.slice ao (nodes t).length cap) ∧ w'.cell? ⟨w.heap.size, 1, none⟩ = some (.int .i64 (pl (nodes t) t : Nat)) ∧ w'.cell? ⟨w.heap.size + 1 + 1 + 1 + 1 + 1 + 1, 0, none⟩ = some (.pointer (some ⟨w.heap.size + 1 + 1 + 1 + 1 + 1, 0, none⟩))) ((w'.setCell ⟨w.heap.size + 1 + 1 + 1, 0, none⟩ x).setCell ⟨w.heap.size + 1 + 1 + 1, 1, none⟩ y) := by
    intro w' x y hk hp
    have e : ∀ k o, k ≠ w.heap.size + 1 + 1 + 1 → ((w'.setCell ⟨w.heap.size + 1 + 1 + 1, 0, none⟩ x).setCell ⟨w.heap.size + 1 + 1 + 1, 1, none⟩ y).cell? ⟨k, o, none⟩ = w'.cell? ⟨k, o, none⟩ := fun k o hk =>
      World.cell?_of_block (w := w') ((Below.heap_setCell _ _ _ _ hk).trans (Below.heap_setCell _ _ _ _ hk))
    have s := hsk w' hk hp
    exact ⟨(e _ _ (by omega)).trans s.1, (e _ _ (by omega)).trans s.2.1, (e _ _ (by omega)).trans s.2.2⟩
  have HSK := Lib.hid hsk
  have HST := Lib.hid hst
  clear hsk hst
  go_region_held3 (fun w' => w'.cell? ⟨w.heap.size, 0, none⟩ = some (.slice ao (nodes t).length cap) ∧ w'.cell? ⟨w.heap.size, 1, none⟩ = some (.int .i64 (pl (nodes t) t : Nat)) ∧ w'.cell? ⟨w.heap.size + 1 + 1 + 1 + 1 + 1 + 1, 0, none⟩ = some (.pointer (some ⟨w.heap.size + 1 + 1 + 1 + 1 + 1, 0, none⟩)))
    (first
      | exact HST.out _ _ _ HK3.out HP3.out
      | exact HSK.out _ HK3.out HP3.out
      | exact HSK.out _ HK2.out HP2.out
      | exact HSK.out _ (Kept.refl _ _).drew HE.out.2.2.2.2.1)
    (first
      | (go_at_call 86; refine (fold_int (J := fun b => w.heap.size + 1 ≤ b ∧ b ≠ w.heap.size + 3) (with_joins (nodes_good ok) (by omega) (w.heap.size + 1) (w.heap.size + 1 + 1 + 1 + 1 + 1 + 1) (w.heap.size + 1 + 1) (w.heap.size + 1 + 1 + 1 + 1 + 1) i on) (nodes_good ok) (by omega) (nodes_in t) (owns_kept HR.out (HN.out.trans (Near.refl _).drew).kept (R := fun _ => False) (fun _ _ x => x)) (fun k hk => by have := HOwn.out k hk; omega) ⟨[], .nil, HM.out.near (Near.refl _).drew, Nat.le_refl _, by simp [phis, fixT, In], rfl, HE.out.keep (Near.refl W).drew (fun _ _ _ h => h)⟩ rfl).mono ?_; rintro e w2 ⟨z, outs, rfl, hz, hi, hk⟩; have HI2 := Lib.hid hi; have HZ2 := Lib.hid hz; have hk2 : Kept (fun b => (w.heap.size + 1 ≤ b ∧ b ≠ w.heap.size + 3) ∨ W.heap.size ≤ b) W w2 := Kept.mono ((Kept.refl _ W).drew.trans hk) (fun b _ h => h); have HK2 := Lib.hid hk2; clear hk2; have HP2 := Lib.hid hi.env.2.2.2.2.1; clear hi hz hk)
      | (go_at_call 83; have hz2 := HZ2.out; obtain ⟨M, gM, hM2, hML, hin, ez⟩ := HI2.out.out (nodes_in t) hz2; refine (done_calls gM (by omega) hin (fixT_ok ok).1 hM2 ez).mono ?_; rintro e w3 ⟨v3, rfl, hd, hb⟩; obtain ⟨bo, bn, bc, rfl, -⟩ := hd.form; have HD3 := Lib.hid hd; have HB3 := Lib.hid hb; have HK3 := Lib.hid (HK2.out.trans (Near.of_below hb).kept); have HP3 := Lib.hid (keepE hb HP2.out); have HR3 := Lib.hid ((HK3.out.block (w.heap.size + 1 + 1 + 1) (by rw [HSz.out]; omega) (by rw [HSz.out]; omega)).trans HB.out); have q0 := cell1 (o := 0) HR3.out rfl; have q1 := cell1 (o := 1) HR3.out rfl; have f0 := free1 HR3.out 0; have f1 := free1 HR3.out 1; clear hd hb))
  all_goals
    go_wp2_with fail
    have hb3 : Below w.heap.size w w3 := Kept.below (Kept.mono (HN.out.kept.trans HK3.out) (fun b _ h => by
      have := HSz.out
      rcases h with h | h <;> omega)) (Nat.le_refl _)
    exact bodyPost_ret (v := .agg #[.slice bo bn bc, .int .i64 (pl (nodes (fixT i on t)) (fixT i on t) : Nat)]) (by simp [results, Tryz.results53, go_sem, q0, q1]) rfl
      ⟨fixT i on t, fun c => fixT_ev c, _, rfl, isD_store HD3.out HR3.out, (hb3.setCell (by show w.heap.size ≤ w.heap.size + 1 + 1 + 1; omega) _).setCell (by show w.heap.size ≤ w.heap.size + 1 + 1 + 1; omega) _⟩

end Go.Proofs.YtefclohjeompkaaGreat

/- FOps: what is needed of it. -/
namespace Go.Proofs.YtefclohjeompkaaGreat
open Go Go.RowKit Go.Proofs.Gen Go.Proofs.Bdd Go.Proofs.Bdd.T
/-- What a function leaves that makes the set of a function. -/
def FPost (w : World) (f : F) (e : Ending) (w' : World) : Prop := ∃ v, e = .returned v ∧ IsF w' v f ∧ Near w w'

theorem DEv.post {w w' : World} {f : F} {e : Ending} (h : DEv w f e w') : FPost w f e w' := by
  obtain ⟨s, he, v, rfl, hd, hb⟩ := h
  exact ⟨v, rfl, ⟨s, hd, he⟩, Near.of_below hb⟩

theorem IsF.congr {w : World} {v : Value} {f g : F} (h : IsF w v f) (e : ∀ c, f c = g c) : IsF w v g := let ⟨t, h1, h2⟩ := h; ⟨t, h1, fun c => (h2 c).trans (e c)⟩

theorem FPost.congr {w w' : World} {f g : F} {e : Ending} (h : FPost w f e w') (he : ∀ c, f c = g c) : FPost w g e w' := let ⟨v, h1, h2, h3⟩ := h; ⟨v, h1, h2.congr he, h3⟩

theorem and_f {w : World} {va vb : Value} {f g : F} (ha : IsF w va f) (hb : IsF w vb g) : Calls Tryz.prog 13 #[va, vb] w (FPost w (fun c => f c && g c)) := by
  obtain ⟨t, h1, e1⟩ := ha
  obtain ⟨u, h2, e2⟩ := hb
  exact (and_calls h1 h2).mono fun e w' h => h.post.congr fun c => by rw [e1, e2]

theorem or_f {w : World} {va vb : Value} {f g : F} (ha : IsF w va f) (hb : IsF w vb g) : Calls Tryz.prog 14 #[va, vb] w (FPost w (fun c => f c || g c)) := by
  obtain ⟨t, h1, e1⟩ := ha
  obtain ⟨u, h2, e2⟩ := hb
  exact (or_calls h1 h2).mono fun e w' h => h.post.congr fun c => by rw [e1, e2]

theorem xor_f {w : World} {va vb : Value} {f g : F} (ha : IsF w va f) (hb : IsF w vb g) : Calls Tryz.prog 18 #[va, vb] w (FPost w (fun c => f c != g c)) := by
  obtain ⟨t, h1, e1⟩ := ha
  obtain ⟨u, h2, e2⟩ := hb
  exact (xor_calls h1 h2).mono fun e w' h => h.post.congr fun c => by rw [e1, e2]

theorem not_f {w : World} {va : Value} {f : F} (ha : IsF w va f) : Calls Tryz.prog 51 #[va] w (FPost w (fun c => !f c)) := by
  obtain ⟨t, h1, e1⟩ := ha
  exact (not_calls h1).mono fun e w' h => h.post.congr fun c => by rw [e1]

theorem with_f {w : World} {va : Value} {f : F} (ha : IsF w va f) (i : Int) (on : Bool) : Calls Tryz.prog 53 #[va, .int .i64 i, .bool on] w (FPost w (fun c => f (updI c i on))) := by
  obtain ⟨t, h1, e1⟩ := ha
  exact (with1_calls h1 i on).mono fun e w' h => h.post.congr fun c => by rw [e1]

theorem nowhere_iff {f : F} : nowhere f = true ↔ ∀ c, f c = false := by
  unfold nowhere
  simp

theorem empty_f {w : World} {va : Value} {f : F} (ha : IsF w va f) : Calls Tryz.prog 19 #[va] w fun e w' => e = .returned (.bool (nowhere f)) ∧ Near w w' := by
  obtain ⟨t, h1, e1⟩ := ha
  have hb : decide (t = leaf false) = nowhere f := by
    rw [Bool.eq_iff_iff, decide_eq_true_iff, nowhere_iff]
    refine ⟨fun h c => ?_, fun h => canon h1.1 trivial fun c => ?_⟩
    · rw [← e1, h]; rfl
    · rw [e1, h]; rfl
  rw [← hb]
  exact empty_calls h1

/-- A set's value kept in a result's cell. -/
theorem isF_store {w : World} {x y : Value} {f : F} {b : Nat} {p q : Value} (h : IsF w (.agg #[x, y]) f) (hb : w.heap[b]? = some (.cells #[p, q] 34 (0, 0))) : IsF ((w.setCell ⟨b, 0, none⟩ x).setCell ⟨b, 1, none⟩ y) (.agg #[x, y]) f := by
  obtain ⟨t, hd, he⟩ := h
  obtain ⟨ao, n, cap, hv, -⟩ := hd.form
  simp only [Value.agg.injEq, Array.mk.injEq, List.cons.injEq, and_true] at hv
  obtain ⟨rfl, rfl⟩ := hv
  exact ⟨t, isD_store hd hb, he⟩

set_option maxRecDepth 100000 in
set_option maxHeartbeats 1600000 in
theorem ite_f {w : World} {va vb vc : Value} {f g h : F} (ha : IsF w va f) (hb : IsF w vb g) (hc : IsF w vc h) :
    Calls Tryz.prog 52 #[va, vb, vc] w (FPost w (fun c => if f c then g c else h c)) := by
  obtain ⟨a1, a2, a3, a4, rfl⟩ := ha.form
  obtain ⟨b1, b2, b3, b4, rfl⟩ := hb.form
  obtain ⟨c1, c2, c3, c4, rfl⟩ := hc.form
  have HA := Lib.hid ha
  have HB := Lib.hid hb
  have HC := Lib.hid hc
  clear ha hb hc
  go_enter Tryz.func52, Tryz.ntmps52
  go_upto_region 1 with fail
  have facts : ∀ W, W = ((((w.alloc (Obj.cells #[Value.slice a1 a2 a3, Value.int IntKind.i64 a4] 34)).alloc (Obj.cells #[Value.slice b1 b2 b3, Value.int IntKind.i64 b4] 34)).alloc (Obj.cells #[Value.slice c1 c2 c3, Value.int IntKind.i64 c4] 34)).alloc (Obj.cells #[Value.slice none 0 0, Value.int IntKind.i64 0] 34)) →
      Near w W ∧ W.heap[w.heap.size]? = some (.cells #[.slice a1 a2 a3, .int .i64 a4] 34 (0, 0)) ∧ W.heap[w.heap.size + 1]? = some (.cells #[.slice b1 b2 b3, .int .i64 b4] 34 (0, 0)) ∧ W.heap[w.heap.size + 1 + 1]? = some (.cells #[.slice c1 c2 c3, .int .i64 c4] 34 (0, 0)) ∧ W.heap[w.heap.size + 1 + 1 + 1]? = some (.cells #[.slice none 0 0, .int .i64 0] 34 (0, 0)) := by
    rintro W rfl
    refine ⟨((((Near.refl w).alloc _).alloc _).alloc _).alloc _, ?_, ?_, ?_, ?_⟩
    all_goals
      repeat (first | exact heap_new_at (by simp; done) | refine (heap_old_at (by simp <;> omega)).trans ?_)
  have facts' := facts _ rfl
  generalize ((((w.alloc (Obj.cells #[Value.slice a1 a2 a3, Value.int IntKind.i64 a4] 34)).alloc (Obj.cells #[Value.slice b1 b2 b3, Value.int IntKind.i64 b4] 34)).alloc (Obj.cells #[Value.slice c1 c2 c3, Value.int IntKind.i64 c4] 34)).alloc (Obj.cells #[Value.slice none 0 0, Value.int IntKind.i64 0] 34)) = W at facts' ⊢
  clear facts
  obtain ⟨hN, hA, hB, hC, hR⟩ := facts'
  have HN := Lib.hid hN
  have HEA := Lib.hid hA
  have HEB := Lib.hid hB
  have HEC := Lib.hid hC
  have HER := Lib.hid hR
  clear hN hA hB hC hR
  have sOf : ∀ w', Near W w' → w'.cell? ⟨w.heap.size, 0, none⟩ = some (.slice a1 a2 a3) ∧ w'.cell? ⟨w.heap.size, 1, none⟩ = some (.int .i64 a4) ∧ w'.cell? ⟨w.heap.size + 1, 0, none⟩ = some (.slice b1 b2 b3) ∧ w'.cell? ⟨w.heap.size + 1, 1, none⟩ = some (.int .i64 b4) ∧ w'.cell? ⟨w.heap.size + 1 + 1, 0, none⟩ = some (.slice c1 c2 c3) ∧ w'.cell? ⟨w.heap.size + 1 + 1, 1, none⟩ = some (.int .i64 c4) :=
    fun w' h => ⟨cell1 (keepN h HEA.out) rfl, cell1 (keepN h HEA.out) rfl, cell1 (keepN h HEB.out) rfl, cell1 (keepN h HEB.out) rfl, cell1 (keepN h HEC.out) rfl, cell1 (keepN h HEC.out) rfl⟩
  have sSt : ∀ wa x y, Near W wa → (fun w' => w'.cell? ⟨w.heap.size, 0, none⟩ = some (.slice a1 a2 a3) ∧ w'.cell? ⟨w.heap.size, 1, none⟩ = some (.int .i64 a4) ∧ w'.cell? ⟨w.heap.size + 1, 0, none⟩ = some (.slice b1 b2 b3) ∧ w'.cell? ⟨w.heap.size + 1, 1, none⟩ = some (.int .i64 b4) ∧ w'.cell? ⟨w.heap.size + 1 + 1, 0, none⟩ = some (.slice c1 c2 c3) ∧ w'.cell? ⟨w.heap.size + 1 + 1, 1, none⟩ = some (.int .i64 c4)) ((wa.setCell ⟨w.heap.size + 1 + 1 + 1, 0, none⟩ x).setCell ⟨w.heap.size + 1 + 1 + 1, 1, none⟩ y) := fun wa x y s => by
    have e : ∀ k o, k ≠ w.heap.size + 1 + 1 + 1 → ((wa.setCell ⟨w.heap.size + 1 + 1 + 1, 0, none⟩ x).setCell ⟨w.heap.size + 1 + 1 + 1, 1, none⟩ y).cell? ⟨k, o, none⟩ = wa.cell? ⟨k, o, none⟩ := fun k o hk =>
      World.cell?_of_block (w := wa) ((Below.heap_setCell _ _ _ _ hk).trans (Below.heap_setCell _ _ _ _ hk))
    have t := sOf wa s
    exact ⟨(e _ _ (by omega)).trans t.1, (e _ _ (by omega)).trans t.2.1, (e _ _ (by omega)).trans t.2.2.1, (e _ _ (by omega)).trans t.2.2.2.1, (e _ _ (by omega)).trans t.2.2.2.2.1, (e _ _ (by omega)).trans t.2.2.2.2.2⟩
  go_region_held3 (fun w' => w'.cell? ⟨w.heap.size, 0, none⟩ = some (.slice a1 a2 a3) ∧ w'.cell? ⟨w.heap.size, 1, none⟩ = some (.int .i64 a4) ∧ w'.cell? ⟨w.heap.size + 1, 0, none⟩ = some (.slice b1 b2 b3) ∧ w'.cell? ⟨w.heap.size + 1, 1, none⟩ = some (.int .i64 b4) ∧ w'.cell? ⟨w.heap.size + 1 + 1, 0, none⟩ = some (.slice c1 c2 c3) ∧ w'.cell? ⟨w.heap.size + 1 + 1, 1, none⟩ = some (.int .i64 c4))
    (first
      | (refine sOf _ ?_; first | exact z4 | exact z3 | exact z2 | exact z1 | exact (Near.refl _).drew)
      | exact sSt _ _ _ z4)
    (first
      | (go_at_call_of 13 (Value.slice b1 b2 b3); refine (and_f (HA.out.near (HN.out.trans (Near.refl _).drew)) (HB.out.near (HN.out.trans (Near.refl _).drew))).mono ?_; rintro e v1 ⟨x1, rfl, s1, m1⟩; have S1 := Lib.hid s1; obtain ⟨x11, x12, x13, x14, rfl⟩ := s1.form; clear s1; have z1 : Near W v1 := (Near.refl _).drew.trans m1)
      | (go_at_call 51; refine (not_f (HA.out.near (HN.out.trans z1))).mono ?_; rintro e v2 ⟨x2, rfl, s2, m2⟩; have S2 := Lib.hid s2; obtain ⟨x21, x22, x23, x24, rfl⟩ := s2.form; clear s2; have z2 : Near W v2 := z1.trans m2)
      | (go_at_call 13; refine (and_f S2.out (HC.out.near (HN.out.trans z2))).mono ?_; rintro e v3 ⟨x3, rfl, s3, m3⟩; have S3 := Lib.hid s3; obtain ⟨x31, x32, x33, x34, rfl⟩ := s3.form; clear s3; have z3 : Near W v3 := z2.trans m3)
      | (go_at_call 14; refine (or_f (S1.out.near (m2.trans m3)) S3.out).mono ?_; rintro e v4 ⟨x4, rfl, s4, m4⟩; have S4 := Lib.hid s4; obtain ⟨x41, x42, x43, x44, rfl⟩ := s4.form; clear s4; have z4 : Near W v4 := z3.trans m4; have q0 := cell1 (o := 0) (keepN z4 HER.out) rfl; have q1 := cell1 (o := 1) (keepN z4 HER.out) rfl; have f0 := free1 (keepN z4 HER.out) 0; have f1 := free1 (keepN z4 HER.out) 1))
  all_goals
    go_wp2_with fail
    refine bodyPost_ret (v := .agg #[.slice x41 x42 x43, .int .i64 x44]) (by simp [results, Tryz.results52, go_sem, q0, q1]) rfl ⟨_, rfl, (isF_store S4.out (keepN z4 HER.out)).congr fun c => ?_, (((HN.out.trans z4).set (by show w.heap.size ≤ w.heap.size + 1 + 1 + 1; omega) _).set (by show w.heap.size ≤ w.heap.size + 1 + 1 + 1; omega) _)⟩
    cases f c <;> cases g c <;> cases h c <;> rfl

end Go.Proofs.YtefclohjeompkaaGreat

/- FCube: what is needed of it. -/
namespace Go.Proofs.YtefclohjeompkaaGreat
open Go Go.RowKit Go.Proofs.Gen Go.Proofs.Bdd Go.Proofs.Bdd.T
/-- What a cube asks of a feature. -/
def lit (on off : Nat) (c : Nat → Bool) (i : Nat) : Bool := (!on.testBit i || c i) && (!off.testBit i || !c i)

/-- What a cube asks of the n features from k on. -/
def litsFrom (on off : Nat) (c : Nat → Bool) : Nat → Nat → Bool
  | _, 0 => true
  | k, n + 1 => lit on off c k && litsFrom on off c (k + 1) n

/-- The function of a cube. -/
def cubeF (on off : Nat) : F := fun c => litsFrom on off c 0 24

theorem litsFrom_all (on off : Nat) (c : Nat → Bool) : ∀ n k, litsFrom on off c k n = true ↔ ∀ i, k ≤ i → i < k + n → lit on off c i = true
  | 0, k => by
    constructor
    · intro _ i h1 h2
      omega
    · intro _
      rfl
  | n + 1, k => by
    rw [litsFrom, Bool.and_eq_true, litsFrom_all on off c n (k + 1)]
    constructor
    · rintro ⟨h1, h2⟩ i hi hi'
      by_cases e : i = k
      · rw [e]
        exact h1
      · exact h2 i (by omega) (by omega)
    · intro h
      exact ⟨h k (Nat.le_refl _) (by omega), fun i h1 h2 => h i (by omega) (by omega)⟩

theorem cubeF_iff {on off : Nat} {c : Nat → Bool} : cubeF on off c = true ↔ ∀ i, i < 24 → lit on off c i = true := by
  unfold cubeF
  rw [litsFrom_all]
  exact ⟨fun h i hi => h i (Nat.zero_le _) (by omega), fun h i _ hi => h i (by omega)⟩

theorem low24 (x i : Nat) (hi : i < 24) : (x &&& 16777215).testBit i = x.testBit i := by
  have e : (16777215 : Nat) = 2 ^ 24 - 1 := by decide
  rw [Nat.testBit_and, e, Nat.testBit_two_pow_sub_one]
  simp [hi]

theorem and24_lt (x : Nat) : x &&& 16777215 < 16777216 := Nat.lt_of_le_of_lt Nat.and_le_right (by decide)

theorem cubeF_clash {on off : Nat} (h : (on &&& 16777215) &&& (off &&& 16777215) ≠ 0) (c : Nat → Bool) : cubeF on off c = false := by
  rw [Bool.eq_false_iff]
  intro hc
  obtain ⟨i, hi⟩ : ∃ i, ((on &&& 16777215) &&& (off &&& 16777215)).testBit i = true := Classical.byContradiction fun hn => h (Nat.eq_of_testBit_eq fun i => by
    rw [Nat.zero_testBit]
    cases hb : ((on &&& 16777215) &&& (off &&& 16777215)).testBit i
    · rfl
    · exact (hn ⟨i, hb⟩).elim)
  have hlt : i < 24 := by
    refine Classical.byContradiction fun hn => ?_
    rw [Nat.testBit_and, Nat.testBit_lt_two_pow (Nat.lt_of_lt_of_le (and24_lt on) (by
      have e : (16777216 : Nat) = 2 ^ 24 := by decide
      rw [e]
      exact Nat.pow_le_pow_right (by omega) (by omega)))] at hi
    simp at hi
  rw [Nat.testBit_and, low24 _ _ hlt, low24 _ _ hlt, Bool.and_eq_true] at hi
  have := cubeF_iff.1 hc i hlt
  unfold lit at this
  rw [hi.1, hi.2] at this
  cases hci : c i <;> simp [hci] at this

set_option maxRecDepth 100000 in
set_option maxHeartbeats 1600000 in
theorem cube_f {on off : Nat} (h1 : on < 4294967296) (h2 : off < 4294967296) (w : World) : Calls Tryz.prog 50 #[.int .u32 on, .int .u32 off] w (FPost w (cubeF on off)) := by
  have a1 : bits .and .u32 (on : Int) 16777215 = ((on &&& 16777215 : Nat) : Int) := Go.Proofs.Gen.u32_and on 16777215 h1 (by decide)
  have a2 : bits .and .u32 (off : Int) 16777215 = ((off &&& 16777215 : Nat) : Int) := Go.Proofs.Gen.u32_and off 16777215 h2 (by decide)
  have l1 := and24_lt on
  have l2 := and24_lt off
  have hb1 : ∀ i, i < 24 → (on &&& 16777215).testBit i = on.testBit i := fun i hi => low24 on i hi
  have hb2 : ∀ i, i < 24 → (off &&& 16777215).testBit i = off.testBit i := fun i hi => low24 off i hi
  have hcl := @cubeF_clash on off
  obtain ⟨x, hx⟩ : ∃ x, x = on &&& 16777215 := ⟨_, rfl⟩
  obtain ⟨y, hy⟩ : ∃ y, y = off &&& 16777215 := ⟨_, rfl⟩
  rw [← hx] at a1 l1 hb1 hcl
  rw [← hy] at a2 l2 hb2 hcl
  have a3 : bits .and .u32 (x : Int) y = ((x &&& y : Nat) : Int) := Go.Proofs.Gen.u32_and x y (by omega) (by omega)
  have HB1 := Lib.hid hb1
  have HB2 := Lib.hid hb2
  have HCL := Lib.hid hcl
  clear hx hy hb1 hb2 hcl
  by_cases hxy : x &&& y = 0
  · have hne : (((x &&& y : Nat) : Int) != 0) = false := by simp [hxy]
    have HXY := Lib.hid hxy
    clear hxy
    go_enter Tryz.func50, Tryz.ntmps50
    go_wp2_with (first
      | (go_at_call 82; refine (maker_new _).mono ?_; rintro e w1 ⟨rfl, rfl⟩))
    have facts : ∀ W, W = (((w.alloc (Obj.cells #[Value.slice none 0 0, Value.int IntKind.i64 0] 34)).alloc (Obj.map #[] 0)).alloc (Obj.cells #[Value.slice none 0 0, Value.map (some (w.heap.size + 1))] 149)) →
        Near w W ∧ W.heap[w.heap.size]? = some (.cells #[.slice none 0 0, .int .i64 0] 34 (0, 0)) ∧ w.heap.size + 1 ≤ W.heap.size ∧ IsMaker W (w.heap.size + 1 + 1) (fun b => w.heap.size + 1 ≤ b) [] := by
      rintro W rfl
      refine ⟨(((Near.refl w).alloc _).alloc _).alloc _, ?_, by simp <;> omega, maker_empty ?_ (kb := w.heap.size + 1) ?_ (by omega) (by omega)⟩
      all_goals
        repeat (first | exact heap_new_at (by simp; done) | refine (heap_old_at (by simp <;> omega)).trans ?_)
    have facts' := facts _ rfl
    generalize (((w.alloc (Obj.cells #[Value.slice none 0 0, Value.int IntKind.i64 0] 34)).alloc (Obj.map #[] 0)).alloc (Obj.cells #[Value.slice none 0 0, Value.map (some (w.heap.size + 1))] 149)) = W at facts' ⊢
    clear facts
    obtain ⟨hN, hR, hsz, hM⟩ := facts'
    have HN := Lib.hid hN
    have HR := Lib.hid hR
    have HM := Lib.hid hM
    clear hN hR hM a1 a2 a3 hne
    go_loopw [6, 7] (fun r i wr => ∃ (k : Nat) (t : T) (M : List T), k ≤ 24 ∧ i = .int .i64 ((k : Int) - 1) ∧ r = .int .i64 (pl M t : Nat) ∧ T.Good M ∧ IsMaker wr (w.heap.size + 1 + 1) (fun b => w.heap.size + 1 ≤ b) M ∧ M.length ≤ 24 - k ∧ In M t ∧ t.Ok ∧ k ≤ t.lv ∧ (∀ c, t.ev c = litsFrom on off c k (24 - k)) ∧ Kept (fun b => w.heap.size + 1 ≤ b) W wr) (fun _ i _ => (intOf i + 1).toNat)
    case atStart => exact ⟨24, leaf true, [], Nat.le_refl _, rfl, rfl, .nil, HM.out, Nat.le_refl _, trivial, trivial, Nat.le_refl _, fun c => rfl, Kept.refl _ _⟩
    case round =>
      obtain ⟨k, t, M, hk, rfl, rfl, gM, hm, hML, hin, ok, hlv, hev, hkp⟩ := hrel
      have HM2 := Lib.hid hm
      have HK := Lib.hid hkp
      have HEV := Lib.hid hev
      have hwr := hkp.size
      clear hm hkp hev
      cases k with
      | zero =>
        have e0 : ((0 : Nat) : Int) - 1 = -1 := rfl
        rw [e0]
        have HRr := Lib.hid ((HK.out.block _ (by omega) (by omega)).trans HR.out)
        have hn1 : ¬ (0 : Int) ≤ -1 := by omega
        go_wp2_with (first
          | (go_at_call 83; refine (done_calls gM (by omega) hin ok HM2.out rfl).mono ?_; rintro e w3 ⟨v3, rfl, hd, hb⟩; obtain ⟨bo, bn, bc, rfl, -⟩ := hd.form; have HD3 := Lib.hid hd; have HB3 := Lib.hid hb; have HE := Lib.hid (keepE hb HRr.out); have q0 := cell1 (o := 0) HE.out rfl; have q1 := cell1 (o := 1) HE.out rfl; have f0 := free1 HE.out 0; have f1 := free1 HE.out 1; clear hd hb))
        have hw3 : Near w w3 := Kept.mono (HN.out.kept.trans (HK.out.trans (Near.of_below HB3.out).kept)) (fun b hb h => by omega)
        exact bodyPost_ret (v := .agg #[.slice bo bn bc, .int .i64 (pl (nodes t) t : Nat)]) (by simp [results, Tryz.results50, go_sem, q0, q1]) rfl
          ⟨_, rfl, ⟨t, isD_store HD3.out HE.out, HEV.out⟩, (hw3.set (by show w.heap.size ≤ w.heap.size; omega) _).set (by show w.heap.size ≤ w.heap.size; omega) _⟩
      | succ n =>
        have e0 : ((n + 1 : Nat) : Int) - 1 = (n : Int) := by omega
        rw [e0]
        have hxn := u32_bit' x n (by omega) (by omega)
        have hyn := u32_bit' y n (by omega) (by omega)
        have hx1 := HB1.out n (by omega)
        have hy1 := HB2.out n (by omega)
        have hn24 : n < 24 := by omega
        have hfr : ∀ c, litsFrom on off c n (24 - n) = (lit on off c n && t.ev c) := fun c => by
          rw [HEV.out, show 24 - n = (24 - (n + 1)) + 1 from by omega, litsFrom]
        have HFR := Lib.hid hfr
        have HXN := Lib.hid hxn
        have HYN := Lib.hid hyn
        have HX1 := Lib.hid hx1
        have HY1 := Lib.hid hy1
        have hxy0 : on.testBit n = true → off.testBit n = true → False := fun h1 h2 => by
          have : (x &&& y).testBit n = true := by rw [Nat.testBit_and, HX1.out, HY1.out, h1, h2]; rfl
          rw [HXY.out] at this
          simp at this
        have HXY0 := Lib.hid hxy0
        clear hfr hxn hyn hx1 hy1 hxy0 e0
        have hi64 : (n : Int) < 64 := by omega
        cases hon : on.testBit n with
        | true =>
          have hb : (bits BinOp.and IntKind.u32 ((x : Int) / 2 ^ n) 1 == 1) = true := by rw [HXN.out, HX1.out, hon]
          have HOn := Lib.hid hon
          clear hon
          go_wp2_with (first
            | (go_at_call 85; refine (node_calls gM (l := leaf false) (h := t) trivial hin hn24 (by omega) (fun b hb => by omega) HM2.out rfl rfl rfl).mono ?_; rintro e w3 ⟨rfl, hm3, hk3⟩; have HM3 := Lib.hid hm3; have HK3 := Lib.hid (HK.out.trans hk3); clear hm3 hk3))
          refine ⟨⟨n, T.mk n (leaf false) t, add M n (leaf false) t, by omega, rfl, rfl, add_good gM trivial hin hn24 hn24 (by omega) trivial ok, HM3.out, ?_, add_in trivial, mk_ok hn24 hn24 (by omega) trivial ok, mk_lv hn24, fun c => ?_, HK3.out⟩, by simp [intOf]⟩
          · have := add_len M n (leaf false) t
            omega
          · rw [mk_ev, HFR.out, lit, HOn.out]
            have hoff : off.testBit n = false := by
              cases ho : off.testBit n
              · rfl
              · exact (HXY0.out HOn.out ho).elim
            rw [hoff]
            cases c n <;> simp [ev]
        | false =>
          have hb : (bits BinOp.and IntKind.u32 ((x : Int) / 2 ^ n) 1 == 1) = false := by rw [HXN.out, HX1.out, hon]
          have HOn := Lib.hid hon
          clear hon
          cases hoff : off.testBit n with
          | true =>
            have hb' : (bits BinOp.and IntKind.u32 ((y : Int) / 2 ^ n) 1 == 1) = true := by rw [HYN.out, HY1.out, hoff]
            have HOff := Lib.hid hoff
            clear hoff
            go_wp2_with (first
              | (go_at_call 85; refine (node_calls gM (l := t) (h := leaf false) hin trivial hn24 (by omega) (fun b hb => by omega) HM2.out rfl rfl rfl).mono ?_; rintro e w3 ⟨rfl, hm3, hk3⟩; have HM3 := Lib.hid hm3; have HK3 := Lib.hid (HK.out.trans hk3); clear hm3 hk3))
            refine ⟨⟨n, T.mk n t (leaf false), add M n t (leaf false), by omega, rfl, rfl, add_good gM hin trivial hn24 (by omega) hn24 ok trivial, HM3.out, ?_, add_in hin, mk_ok hn24 (by omega) hn24 ok trivial, mk_lv (by omega), fun c => ?_, HK3.out⟩, by simp [intOf]⟩
            · have := add_len M n t (leaf false)
              omega
            · rw [mk_ev, HFR.out, lit, HOn.out, HOff.out]
              cases c n <;> simp [ev]
          | false =>
            have hb' : (bits BinOp.and IntKind.u32 ((y : Int) / 2 ^ n) 1 == 1) = false := by rw [HYN.out, HY1.out, hoff]
            have HOff := Lib.hid hoff
            clear hoff
            go_wp2_with fail
            refine ⟨⟨n, t, M, by omega, rfl, rfl, gM, HM2.out, by omega, hin, ok, by omega, fun c => ?_, HK.out⟩, by simp [intOf]⟩
            rw [HFR.out, lit, HOn.out, HOff.out]
            simp
  · have hne : (((x &&& y : Nat) : Int) != 0) = true := by simp; omega
    have HF := Lib.hid (HCL.out hxy)
    clear hxy
    go_enter Tryz.func50, Tryz.ntmps50
    go_wp2_with fail
    exact bodyPost_ret (v := .agg #[.slice none 0 0, .int .i64 0]) (by simp [results, Tryz.results50, go_sem]) rfl ⟨_, rfl, ⟨leaf false, isD_leaf _ false, fun c => (HF.out c).symm⟩, (Near.refl w).alloc _⟩

end Go.Proofs.YtefclohjeompkaaGreat

/- Ones: what is needed of it. -/
namespace Go.Proofs.YtefclohjeompkaaGreat
open Go Go.RowKit Go.Proofs.Gen Go.Proofs.Bdd Go.Proofs.Bdd.T
theorem pop_fold : (⟨((([0, 1, 1, 2, 1, 2, 2, 3, 1, 2, 2, 3, 2, 3, 3, 4, 1, 2, 2, 3, 2, 3, 3, 4, 2, 3, 3, 4, 3, 4, 4, 5, 1, 2, 2, 3, 2, 3, 3, 4, 2, 3, 3, 4, 3, 4, 4, 5, 2, 3, 3, 4, 3, 4, 4, 5, 3, 4, 4, 5, 4, 5, 5, 6] : List UInt8).append [1, 2, 2, 3, 2, 3, 3, 4, 2, 3, 3, 4, 3, 4, 4, 5, 2, 3, 3, 4, 3, 4, 4, 5, 3, 4, 4, 5, 4, 5, 5, 6, 2, 3, 3, 4, 3, 4, 4, 5, 3, 4, 4, 5, 4, 5, 5, 6, 3, 4, 4, 5, 4, 5, 5, 6, 4, 5, 5, 6, 5, 6, 6, 7]).append (([1, 2, 2, 3, 2, 3, 3, 4, 2, 3, 3, 4, 3, 4, 4, 5, 2, 3, 3, 4, 3, 4, 4, 5, 3, 4, 4, 5, 4, 5, 5, 6, 2, 3, 3, 4, 3, 4, 4, 5, 3, 4, 4, 5, 4, 5, 5, 6, 3, 4, 4, 5, 4, 5, 5, 6, 4, 5, 5, 6, 5, 6, 6, 7] : List UInt8).append [2, 3, 3, 4, 3, 4, 4, 5, 3, 4, 4, 5, 4, 5, 5, 6, 3, 4, 4, 5, 4, 5, 5, 6, 4, 5, 5, 6, 5, 6, 6, 7, 3, 4, 4, 5, 4, 5, 5, 6, 4, 5, 5, 6, 5, 6, 6, 7, 4, 5, 5, 6, 5, 6, 6, 7, 5, 6, 6, 7, 6, 7, 7, 8])).toArray⟩ : ByteArray) = Lib.pop8tab := by kernel_rfl

theorem pop_le {n : Nat} (h : n < 256) : 0 ≤ Lib.pop8 (n : Int) ∧ Lib.pop8 (n : Int) ≤ 8 := by
  have e := Lib.pop8_eq ⟨n, h⟩
  have l := Lib.onesCount_le8 ⟨n, h⟩
  simp only at e l
  omega

theorem byte_and (x k : Nat) (h : x < 4294967296) : bits .and .u32 ((x : Int) / (2 ^ k : Nat)) 255 = ((x / 2 ^ k % 256 : Nat) : Int) := by
  have hd : x / 2 ^ k < 4294967296 := Nat.lt_of_le_of_lt (Nat.div_le_self _ _) h
  have e := Go.Proofs.Gen.u32_and (x / 2 ^ k) 255 hd (by decide)
  have e2 : x / 2 ^ k &&& 255 = x / 2 ^ k % 256 := Nat.and_two_pow_sub_one_eq_mod (x / 2 ^ k) 8
  rw [e2] at e
  rw [← e]
  simp

set_option maxRecDepth 100000 in
set_option maxHeartbeats 1600000 in
theorem ones_walk (x : Nat) (hx : x < 4294967296) (w : World) : Calls Tryz.prog 24 #[.int .u32 x] w fun e w' => e = .returned (.int .i64 (Lib.pop8 ((x / 16777216 : Nat) : Int) + Lib.pop8 ((x / 65536 % 256 : Nat) : Int) + Lib.pop8 ((x / 256 % 256 : Nat) : Int) + Lib.pop8 ((x % 256 : Nat) : Int))) ∧ Near w w' := by
  have fold := pop_fold
  have e1 : (x : Int) / 16777216 = ((x / 16777216 : Nat) : Int) := by omega
  have e2 : bits .and .u32 ((x : Int) / 65536) 255 = ((x / 65536 % 256 : Nat) : Int) := byte_and x 16 hx
  have e3 : bits .and .u32 ((x : Int) / 256) 255 = ((x / 256 % 256 : Nat) : Int) := byte_and x 8 hx
  have e4 : bits .and .u32 (x : Int) 255 = ((x % 256 : Nat) : Int) := by
    have := byte_and x 0 hx
    simpa using this
  obtain ⟨y1, h1⟩ : ∃ y, y = x / 16777216 := ⟨_, rfl⟩
  obtain ⟨y2, h2⟩ : ∃ y, y = x / 65536 % 256 := ⟨_, rfl⟩
  obtain ⟨y3, h3⟩ : ∃ y, y = x / 256 % 256 := ⟨_, rfl⟩
  obtain ⟨y4, h4⟩ : ∃ y, y = x % 256 := ⟨_, rfl⟩
  have l1 : y1 < 256 := by omega
  have l2 : y2 < 256 := by omega
  have l3 : y3 < 256 := by omega
  have l4 : y4 < 256 := by omega
  rw [← h1] at e1 ⊢
  rw [← h2] at e2 ⊢
  rw [← h3] at e3 ⊢
  rw [← h4] at e4 ⊢
  clear h1 h2 h3 h4
  obtain ⟨p1, p1'⟩ := pop_le l1
  obtain ⟨p2, p2'⟩ := pop_le l2
  obtain ⟨p3, p3'⟩ := pop_le l3
  obtain ⟨p4, p4'⟩ := pop_le l4
  have m1 : (y1 : Int) ≤ 255 := by omega
  have m2 : (y2 : Int) ≤ 255 := by omega
  have m3 : (y3 : Int) ≤ 255 := by omega
  have m4 : (y4 : Int) ≤ 255 := by omega
  generalize hq1 : Lib.pop8 (y1 : Int) = q1 at p1 p1' ⊢
  generalize hq2 : Lib.pop8 (y2 : Int) = q2 at p2 p2' ⊢
  generalize hq3 : Lib.pop8 (y3 : Int) = q3 at p3 p3' ⊢
  generalize hq4 : Lib.pop8 (y4 : Int) = q4 at p4 p4' ⊢
  go_enter Tryz.func24, Tryz.ntmps24
  go_wp2_with fail
  go_quiet (fail)
  all_goals
    go_wp2_with fail
    exact bodyPost_ret (v := .int .i64 (q1 + q2 + q3 + q4)) (by simp [results, Tryz.results24, go_sem]) rfl ⟨rfl, (Near.refl _).drewN _⟩

theorem pop_bits : ∀ n : Fin 256, Lib.pop8 (n.val : Int) = (((List.range 8).filter fun i => n.val.testBit i).length : Int) := by decide +kernel

theorem byte_filter (x k : Nat) : ((List.range 8).filter fun i => (x / 2 ^ k % 256).testBit i).length = ((List.range 8).filter fun i => x.testBit (k + i)).length := by
  congr 1
  refine List.filter_congr fun i hi => ?_
  have hi8 : i < 8 := by simpa using hi
  rw [show (256 : Nat) = 2 ^ 8 from by decide, Nat.testBit_mod_two_pow, Nat.testBit_div_two_pow, Nat.add_comm]
  simp [hi8]

theorem ones_feats {x : Nat} (h : x < 16777216) : Lib.pop8 ((x / 16777216 : Nat) : Int) + Lib.pop8 ((x / 65536 % 256 : Nat) : Int) + Lib.pop8 ((x / 256 % 256 : Nat) : Int) + Lib.pop8 ((x % 256 : Nat) : Int) = ((feats x).length : Int) := by
  have h0 : x / 16777216 = 0 := by omega
  have e0 : Lib.pop8 ((0 : Nat) : Int) = 0 := by decide +kernel
  have e1 := pop_bits ⟨x / 65536 % 256, by omega⟩
  have e2 := pop_bits ⟨x / 256 % 256, by omega⟩
  have e3 := pop_bits ⟨x % 256, by omega⟩
  have b1 := byte_filter x 16
  have b2 := byte_filter x 8
  have b3 := byte_filter x 0
  have c1 : (2 : Nat) ^ 16 = 65536 := by decide
  have c2 : (2 : Nat) ^ 8 = 256 := by decide
  rw [c1] at b1
  rw [c2] at b2
  rw [Nat.pow_zero, Nat.div_one] at b3
  simp only at e1 e2 e3
  rw [h0, e0, e1, e2, e3, b1, b2, b3]
  have hr : List.range 24 = List.range 8 ++ ((List.range 8).map fun i => 8 + i) ++ ((List.range 8).map fun i => 16 + i) := by decide
  have hf : (feats x).length = ((List.range 8).filter fun i => x.testBit (0 + i)).length + ((List.range 8).filter fun i => x.testBit (8 + i)).length + ((List.range 8).filter fun i => x.testBit (16 + i)).length := by
    unfold feats featsTo
    rw [hr, List.filter_append, List.filter_append, List.length_append, List.length_append, List.filter_map, List.filter_map, List.length_map, List.length_map]
    simp only [Nat.zero_add]
    rfl
  rw [hf]
  omega

theorem ones_calls {x : Nat} (h : x < 16777216) (w : World) : Calls Tryz.prog 24 #[.int .u32 x] w fun e w' => e = .returned (.int .i64 (feats x).length) ∧ Near w w' := by
  rw [← ones_feats h]
  exact ones_walk x (by omega) w

end Go.Proofs.YtefclohjeompkaaGreat

/- BetA: what is needed of it. -/
namespace Go.Proofs.YtefclohjeompkaaGreat
open Go Go.RowKit Go.Proofs.Gen Go.Proofs.Bdd Go.Proofs.Bdd.T
/-- How many of the n features from k on, of those of f, a configuration has. -/
def cntFrom (f : Nat) (c : Nat → Bool) : Nat → Nat → Nat
  | _, 0 => 0
  | k, n + 1 => (if f.testBit k && c k then 1 else 0) + cntFrom f c (k + 1) n

def bet (low high : Int) (n : Nat) : Bool := decide (low ≤ n) && decide ((n : Int) ≤ high)

/-- The function of Between. -/
def betF (f : Nat) (low high : Int) : F := fun c => bet low high (cntFrom f c 0 24)

/-- A row of trees, the features from k on behind it. -/
structure BRow (f : Nat) (low high : Int) (k : Nat) (ts : List T) : Prop where
  len : ts.length = (featsTo f k).length + 1
  is : ∀ j t, ts[j]? = some t → t.Ok ∧ k ≤ t.lv ∧ ∀ c, t.ev c = bet low high (j + cntFrom f c k (24 - k))

theorem feats_low (f : Nat) : feats (f &&& 16777215) = featsTo f 24 := by
  unfold feats featsTo
  refine List.filter_congr fun i hi => ?_
  rw [low24 f i (by simpa using hi)]

/-- The first row. -/
def row0 (low high : Int) (n : Nat) : List T := (List.range n).map fun j => leaf (bet low high j)

theorem row0_is (f : Nat) (low high : Int) : BRow f low high 24 (row0 low high ((featsTo f 24).length + 1)) := by
  refine ⟨by simp [row0], fun j t hj => ?_⟩
  unfold row0 at hj
  rw [List.getElem?_map] at hj
  by_cases h : j < (featsTo f 24).length + 1
  · rw [List.getElem?_range h] at hj
    simp at hj
    subst hj
    exact ⟨trivial, Nat.le_refl _, fun c => rfl⟩
  · rw [List.getElem?_eq_none (by simp; omega)] at hj
    simp at hj

/-- A row without its last: one feature more. -/
theorem brow_skip {f : Nat} {low high : Int} {k : Nat} {ts : List T} (h : BRow f low high (k + 1) ts) (hk : k < 24) (hb : f.testBit k = false) : BRow f low high k ts := by
  refine ⟨?_, fun j t hj => ?_⟩
  · rw [h.len, featsTo_succ, hb]
    simp
  · obtain ⟨ok, hl, he⟩ := h.is j t hj
    refine ⟨ok, by omega, fun c => ?_⟩
    rw [he, show 24 - k = (24 - (k + 1)) + 1 from by omega, cntFrom, hb]
    simp

/-- The next row's trees. -/
def nextT (k : Nat) (ts : List T) (j : Nat) : T := T.mk k (ts.getD j (leaf false)) (ts.getD (j + 1) (leaf false))

theorem brow_next {f : Nat} {low high : Int} {k : Nat} {ts : List T} (h : BRow f low high (k + 1) ts) (hk : k < 24) (hb : f.testBit k = true) : BRow f low high k ((List.range (featsTo f (k + 1)).length).map (nextT k ts)) := by
  have hl : (featsTo f (k + 1)).length = (featsTo f k).length + 1 := by rw [featsTo_succ, hb]; simp
  refine ⟨by simp [hl], fun j t hj => ?_⟩
  have hjl : j < (featsTo f (k + 1)).length := by
    have := (List.getElem?_eq_some_iff.1 hj).1
    simpa using this
  rw [List.getElem?_map, List.getElem?_range hjl] at hj
  simp only [Option.map_some, Option.some.injEq] at hj
  subst hj
  have hlen := h.len
  have g1 : ts[j]? = some (ts[j]'(by omega)) := List.getElem?_eq_getElem (by omega)
  have g2 : ts[j + 1]? = some (ts[j + 1]'(by omega)) := List.getElem?_eq_getElem (by omega)
  obtain ⟨o1, v1, e1⟩ := h.is j _ g1
  obtain ⟨o2, v2, e2⟩ := h.is (j + 1) _ g2
  unfold nextT
  rw [List.getD_eq_getElem?_getD, List.getD_eq_getElem?_getD, g1, g2]
  simp only [Option.getD_some]
  refine ⟨mk_ok hk (by omega) (by omega) o1 o2, mk_lv (by omega), fun c => ?_⟩
  rw [mk_ev, e1, e2, show 24 - k = (24 - (k + 1)) + 1 from by omega, cntFrom, hb]
  cases c k
  · simp
  · simp only [Bool.and_self, if_true]
    congr 1
    omega

/-- The first row's numbers, as far as they are laid. -/
def vals0 (low high : Int) (n k : Nat) : List Value := (List.range n).map fun j => iv (if j < k ∧ bet low high j = true then 1 else 0)

theorem vals0_zero (low high : Int) (n : Nat) : vals0 low high n 0 = List.replicate n (.int .i64 0) := by
  apply List.ext_getElem (by simp [vals0])
  intro i h1 h2
  simp [vals0, iv]

theorem vals0_end (low high : Int) (n : Nat) (M : List T) : vals0 low high n n = (row0 low high n).map fun t => iv (pl M t) := by
  apply List.ext_getElem (by simp [vals0, row0])
  intro i h1 h2
  have hi : i < n := by simpa [vals0] using h1
  simp only [vals0, row0, List.getElem_map, List.getElem_range, pl_leaf, hi, true_and]
  cases bet low high i <;> rfl

theorem vals0_yes {low high : Int} {n k : Nat} (h : bet low high k = true) : vals0 low high n (k + 1) = (vals0 low high n k).set k (.int .i64 1) := by
  apply List.ext_getElem (by simp [vals0])
  intro i h1 h2
  rw [List.getElem_set]
  simp only [vals0, List.getElem_map, List.getElem_range]
  by_cases e : k = i
  · subst e
    rw [if_pos rfl, if_pos ⟨by omega, h⟩]
    rfl
  · rw [if_neg e]
    have : (i < k + 1) ↔ (i < k) := by omega
    simp only [this]

theorem vals0_no {low high : Int} {n k : Nat} (h : bet low high k = false) : vals0 low high n (k + 1) = vals0 low high n k := by
  apply List.ext_getElem (by simp [vals0])
  intro i h1 h2
  simp only [vals0, List.getElem_map, List.getElem_range]
  by_cases e : i = k
  · subst e
    simp [h]
  · have : (i < k + 1) ↔ (i < k) := by omega
    simp only [this]

theorem vals0_len (low high : Int) (n k : Nat) : (vals0 low high n k).length = n := by simp [vals0]

end Go.Proofs.YtefclohjeompkaaGreat
