/- Parts of a proof: OfD, FixA, ListA, PrimL, Coll. -/
import Derived.Maps.OwnSet
import Derived.WalkKit
import Derived.Deep.QuietTactic
import Derived.Test.YtefclohjeompkaaGreatProg
import Derived.KernelRfl
import Derived.DeepKeys4
import Derived.Deep.RegionLaw
import Derived.StillTailTactics
import Derived.Maps.AppendAt
import Derived.WalkSpells
import Derived.WalkLawsBesides
import Derived.BigQuiet
import Derived.Lib.Hide
import Derived.Deep.DeepCutAuto
import Derived.Laws.EntriesVeiled
import Derived.Deep.RegionHeld3
import Derived.Laws.OwnMore
import Derived.Deep.Slices
import Derived.Lib.BitFns
import Derived.IntWalk
import Derived.RangeFuncNested
import Derived.RangeFuncBound
import Derived.RangeFuncCalls
import Derived.RangeFuncLeaves
import Derived.Shelf.Abstract
import Derived.Shelf.RegionOpen
import Derived.OwnWalkIn
import Derived.TacticsInMore
import Derived.LoopNIn
import Derived.LoopIn
import Derived.Laws.CopyOwn
import Derived.RangeFuncWrites
import Derived.Deep.Onto
import Derived.Test.YtefclohjeompkaaGreatKTreeC
import Derived.Test.YtefclohjeompkaaGreatKRep
import Derived.Test.YtefclohjeompkaaGreatKJoinD
import Derived.Test.YtefclohjeompkaaGreatKCmpA
import Derived.Test.YtefclohjeompkaaGreatKRefH
import Derived.Test.YtefclohjeompkaaGreatKOfB
import Derived.Test.YtefclohjeompkaaGreatKAlike
import Derived.Test.YtefclohjeompkaaGreatKBetA
import Derived.Test.YtefclohjeompkaaGreatKBetB
import Derived.Test.YtefclohjeompkaaGreatKLinF
import Derived.Test.YtefclohjeompkaaGreatKLinH
import Derived.Test.YtefclohjeompkaaGreatKLinJ
import Derived.Test.YtefclohjeompkaaGreatKSteps3
import Derived.Test.YtefclohjeompkaaGreatKFAll
import Derived.Test.YtefclohjeompkaaGreatKOpenA
/- OfD: what is needed of it. -/
namespace Go.Proofs.YtefclohjeompkaaGreat
open Go Go.RowKit Go.Proofs.Gen Go.Proofs.Bdd Go.Proofs.Bdd.T
theorem IsS.congr {w : World} {v : Value} {V : List Nat} {f g : F} (h : IsS w v V f) (e : ∀ c, f c = g c) : IsS w v V g := by
  obtain ⟨T, hT, hf⟩ := h
  exact ⟨T, hT, fun c => (hf c).trans (e c)⟩

theorem info37 : (Tryz.prog.info? 39).map (fun i => (i.zero, i.size, i.bytes)) = some (some (.agg #[.slice none 0 0, .slice none 0 0]), 2, 48) := by kernel_rfl

end Go.Proofs.YtefclohjeompkaaGreat

/- FixA: what is needed of it. -/
namespace Go.Proofs.YtefclohjeompkaaGreat
open Go Go.RowKit Go.Proofs.Gen Go.Proofs.Bdd Go.Proofs.Bdd.T
theorem updI_self (c : Nat → Bool) (i : Nat) : updI c i (c i) = c := by
  funext j
  unfold updI
  split
  · rename_i h
    rw [show j = i by omega]
  · rfl

theorem updI_updI (c : Nat → Bool) (i : Nat) (a b : Bool) : updI (updI c i a) i b = updI c i b := by
  funext j
  unfold updI
  split <;> rfl

theorem updI_other (c : Nat → Bool) {i j : Nat} (b : Bool) (h : j ≠ i) : updI c i b j = c j := by
  unfold updI
  rw [if_neg (by omega)]

theorem updI_upd (c : Nat → Bool) (i : Nat) (b : Bool) : updI c i b = upd c i b := by
  funext j
  unfold updI upd
  by_cases h : j = i
  · rw [if_pos (by omega), if_pos h]
  · rw [if_neg (by omega), if_neg h]

abbrev exF (xs : List Nat) (f : F) : F := qF (fun p q => p || q) xs f

abbrev faF (xs : List Nat) (f : F) : F := qF (fun p q => p && q) xs f

theorem exF_iff : ∀ (xs : List Nat) (f : F) (c : Nat → Bool), exF xs f c = true ↔ ∃ d : Nat → Bool, (∀ i, i ∉ xs → d i = c i) ∧ f d = true
  | [], f, c => by
    constructor
    · intro h
      exact ⟨c, fun _ _ => rfl, h⟩
    · rintro ⟨d, hd, h⟩
      have e : d = c := funext fun i => hd i (by simp)
      subst e
      exact h
  | x :: xs, f, c => by
    have ih := exF_iff xs (fun c => f (updI c x false) || f (updI c x true)) c
    show exF xs _ c = true ↔ _
    rw [ih]
    constructor
    · rintro ⟨d, hd, h⟩
      rw [Bool.or_eq_true] at h
      have one : ∀ b, f (updI d x b) = true → ∃ d' : Nat → Bool, (∀ i, i ∉ x :: xs → d' i = c i) ∧ f d' = true := fun b hb => by
        refine ⟨updI d x b, fun i hi => ?_, hb⟩
        rw [List.mem_cons, not_or] at hi
        rw [updI_other _ _ hi.1]
        exact hd i hi.2
      rcases h with h | h
      · exact one _ h
      · exact one _ h
    · rintro ⟨d, hd, h⟩
      refine ⟨updI d x (c x), fun i hi => ?_, ?_⟩
      · by_cases e : i = x
        · subst e
          unfold updI
          rw [if_pos rfl]
        · rw [updI_other _ _ e]
          exact hd i (by simp [e, hi])
      · rw [updI_updI, updI_updI, Bool.or_eq_true]
        have hs := updI_self d x
        cases hx : d x with
        | false => rw [hx] at hs; exact .inl (by rw [hs]; exact h)
        | true => rw [hx] at hs; exact .inr (by rw [hs]; exact h)

theorem faF_not : ∀ (xs : List Nat) (f : F) (c : Nat → Bool), faF xs f c = !exF xs (fun c => !f c) c
  | [], f, c => by show f c = !(!f c); simp
  | x :: xs, f, c => by
    have ih := faF_not xs (fun c => f (updI c x false) && f (updI c x true)) c
    show faF xs _ c = !exF xs _ c
    rw [ih]
    congr 2
    funext e
    simp [Bool.not_and]

theorem support_f {w : World} {v : Value} {f : F} (h : IsF w v f) : ∃ s : Nat, s < 16777216 ∧ (∀ i, s.testBit i = dep f i) ∧ Calls Tryz.prog 23 #[v] w fun e w' => e = .returned (.int .u32 s) ∧ Near w w' := by
  obtain ⟨t, hd, he⟩ := h
  have hf : f = t.ev := funext fun c => (he c).symm
  subst hf
  refine ⟨sup (nodes t), sup_lt fun u hu => ?_, sup_dep hd.1, support_calls hd⟩
  obtain ⟨hn, ok⟩ := (nodes_good hd.1).all u hu
  cases u with
  | leaf b => exact hn.elim
  | node i l h => exact ok.1

end Go.Proofs.YtefclohjeompkaaGreat

/- ListA: what is needed of it. -/
namespace Go.Proofs.YtefclohjeompkaaGreat
open Go Go.RowKit Go.Proofs.Gen Go.Proofs.Bdd Go.Proofs.Bdd.T
/-- A function of the features below k alone. -/
def LowF (f : F) (k : Nat) : Prop := ∀ c d : Nat → Bool, (∀ i, i < k → c i = d i) → f c = f d

theorem LowF.fix {f : F} {k : Nat} (h : LowF f (k + 1)) (b : Bool) : LowF (fun c => f (updI c k b)) k := fun c d hcd => by
  refine h _ _ fun i hi => ?_
  rw [updI_upd, updI_upd]
  unfold upd
  by_cases e : i = k
  · rw [if_pos e, if_pos e]
  · rw [if_neg e, if_neg e, hcd i (by omega)]

theorem IsF.low {w : World} {v : Value} {f : F} (h : IsF w v f) : LowF f 24 := fun c d hcd => by
  obtain ⟨t, hd, he⟩ := h
  rw [← he, ← he]
  exact ev_congr t hd.1 fun j _ hj => hcd j hj

end Go.Proofs.YtefclohjeompkaaGreat

/- PrimL: what is needed of it. -/
namespace Go.Proofs.YtefclohjeompkaaGreat
open Go Go.RowKit Go.Shelf Go.Proofs.Gen Go.Proofs.Bdd Go.Proofs.Bdd.T
theorem empty_isP {w : World} {v : Value} {f : F} {b : Bool} (h : IsF w v f) (hb : nowhere f = b) : Calls Tryz.prog 19 #[v] w fun e w' => e = .returned (.bool b) ∧ Near w w' := hb ▸ empty_f h

theorem IsF.fixP {w : World} {v : Value} {f g : F} (h : IsF w v f) (e : ∀ c, f c = g c) : IsF w v g := by
  obtain ⟨t, hd, he⟩ := h
  exact ⟨t, hd, fun c => (he c).trans (e c)⟩

theorem own_blockP {w : World} {base e size n k : Nat} {v : Value} {xs : List Value} (h : w.ownsRow base e size v n xs) (hk : v.ownBlock = some k) : base ≤ k ∧ ∃ cur fr, w.heap[k]? = some (.cells cur e fr) := by
  rcases h.2 with ⟨rfl, _⟩ | ⟨g, cap, cur, rfl, hb, hg, _⟩
  · cases hk
  · cases hk
    exact ⟨hb, _, _, hg⟩

theorem two_keptP {w : World} {b : Nat} (x y : Value) : Kept (fun k => k = b) w ((w.setCell ⟨b, 0, none⟩ x).setCell ⟨b, 1, none⟩ y) :=
  Kept.setCell (Kept.setCell (S := fun k => k = b) (Kept.refl _ w) (p := ⟨b, 0, none⟩) (fun _ => rfl) x) (p := ⟨b, 1, none⟩) (fun _ => rfl) y

/-- The law of a loop over an iterator with one variable. -/
theorem rangeFunc_oneP {F : Fence} {n : Nat} {P : Program} {α : Type} {g : Operand} {p q : Tmp} {assign body : Code} {Q : Exit → Act → World → Prop} {a : Act} {w : World}
    (hro : F.round = none) (h1 : 1 ≤ n) {gf : Nat} {lb : Array Value} (hg : a.eval g = .func (.func gf) #[] lb) (hFg : F.fn gf) (eg : ∀ args w, (callFunc gf args).run P w = .ok (.enter gf args) w)
    {enc : α → Value} {Kp : World → World → Prop} {S Sp : List α → Prop} {N : Nat} (hseq : SeqStopsK F (n - 1) P gf lb (fun x => #[enc x]) Kp S Sp N w)
    (hKt : ∀ {A B C : World}, Kp A B → Kp B C → Kp A C) (hKb : ∀ (W : World) (l : Nat) (o o' : Obj), w.heap.size ≤ l → W.heap[l]? = some o → o.isCells = false → o.isWalk = false → Kp W (W.putObj l o'))
    (I : List α → World → Prop) (Ix : Code → List α → World → Prop) (hI : OwnFrom w.heap.size I) (hIx : ∀ c, OwnFrom w.heap.size (Ix c)) (h0 : I [] w)
    (hassign : ∀ (l : Nat) (x : α) (W : World) (K : Act → World → Prop), K { tmps := (a.tmps.setIfInBounds p (enc x)).setIfInBounds q (enc x), defers := [] } W →
      assign.wpIn (F.inRound l) (n - 1 - 1) P (Exit.then K (fun _ _ _ => False)) { tmps := a.tmps.setIfInBounds p (enc x), defers := [] } W)
    (hbody : ∀ (l : Nat) (pre : List α) (x : α) (W : World), I pre W → pre.length < N → body.wpIn (F.inRound l) (n - 1 - 1) P (ownPostG w.heap.size Kp I Ix (pre ++ [x]) W) { tmps := (a.tmps.setIfInBounds p (enc x)).setIfInBounds q (enc x), defers := [] } W)
    (hdone : ∀ (D : Nat) (xs : List α) (W : World), w.heap.size ≤ D → S xs → I xs W → W.heap[D]? = some (.deferred (some [])) → Q .normal { a with defers := { target := .collected D, args := #[] } :: a.defers } W)
    (hstop : ∀ (D : Nat) (c : Code) (pre : List α) (W : World), w.heap.size ≤ D → Sp pre → Ix c pre W → W.heap[D]? = some (.deferred (some [])) → c.wpIn F n P Q { a with defers := { target := .collected D, args := #[] } :: a.defers } W) :
    (Code.rangeFunc g #[p] assign body).wpIn F n P Q a w :=
  wpIn_rangeFunc_ownG hro h1 hg hFg eg hseq hKt hKb (Below.refl _ _) (fun _ => rfl) I Ix hI hIx h0 (fun x => { tmps := (a.tmps.setIfInBounds p (enc x)).setIfInBounds q (enc x), defers := [] })
    (fun l x W K hK => by
      rw [show (#[p].zip #[enc x]) = #[(p, enc x)] from by simp]
      exact hassign l x W K hK) hbody hdone hstop

end Go.Proofs.YtefclohjeompkaaGreat

/- Coll: what is needed of it. -/
namespace Go.Proofs.YtefclohjeompkaaGreat
open Go Go.RowKit Go.Shelf Go.Proofs.Gen Go.Proofs.Bdd Go.Proofs.Bdd.T
attribute [local go_sem] Oper.semAt_some
/-- The numbers collected so far, in the box B. -/
def CI (B : Nat) (W0 : World) (pre : List Nat) (W : World) : Prop :=
  ∃ ao cap, W.heap[B]? = some (.cells #[.slice ao pre.length cap] 36 (0, 0)) ∧ W.ownsRow W0.heap.size 3 1 (.slice ao pre.length cap) pre.length (pre.map iv) ∧ Kept (fun b => b = B) W0 W

theorem ci_own {B : Nat} {W0 : World} (hB : B < W0.heap.size) : OwnFrom W0.heap.size (CI B W0) := by
  intro pre W W' row ⟨ao, cap, h1, h2, h3⟩ hg hr
  refine ⟨ao, cap, ?_, ?_, h3.grown hg (fun r e hlt => absurd (hr r e).1 (by omega))⟩
  · exact (hg.block _ (Array.getElem?_eq_some_iff.1 h1).1 (fun e => by have := (hr _ e.symm).1; omega)).trans h1
  · have hk : Kept (fun b => some b = row) W W' := ⟨hg.os, hg.tape, hg.output, hg.size, fun k hk hn => hg.block k hk hn⟩
    refine owns_kept h2 hk (R := fun b => some b = row) (fun k hk' hrk => ?_)
    obtain ⟨_, cur, fr, hc⟩ := own_blockP h2 hk'
    obtain ⟨_, o, ho, hoc⟩ := hr k hrk.symm
    rw [hc] at ho
    cases ho
    cases hoc

theorem ci_step {B b0 : Nat} {W0 W w3 : World} {pre : List Nat} {x : Nat} {ao ao3 : Option Addr} {cap cap3 : Nat} {o : Obj} (hB : B < W0.heap.size) (hb0 : b0 < W0.heap.size) (hne0 : b0 ≠ B)
    (h1 : W.heap[B]? = some (.cells #[.slice ao pre.length cap] 36 (0, 0))) (h2 : W.ownsRow W0.heap.size 3 1 (.slice ao pre.length cap) pre.length (pre.map iv)) (h3 : Kept (fun b => b = B) W0 W)
    (hg : (W.alloc o).grownBy w3 (Value.slice ao pre.length cap).ownBlock) (hown : w3.ownsRow W0.heap.size 3 1 (.slice ao3 (pre.length + 1) cap3) (pre.length + 1) (pre.map iv ++ [iv x])) :
    w3.heap[B]? = some (.cells #[.slice ao pre.length cap] 36 (0, 0)) ∧ ∀ W4, W4 = w3.setCell ⟨B, 0, none⟩ (.slice ao3 (pre.length + 1) cap3) → KeepsFrom W0.heap.size W W4 ∧ CellAs b0 W W4 ∧ CI B W0 (pre ++ [x]) W4 := by
  have hne : ∀ k, (Value.slice ao pre.length cap).ownBlock = some k → k ≠ B := fun k hk e => by
    have := (own_blockP h2 hk).1
    omega
  have hlt : B < W.heap.size := (Array.getElem?_eq_some_iff.1 h1).1
  have hb3 : w3.heap[B]? = some (.cells #[.slice ao pre.length cap] 36 (0, 0)) := by
    refine (hg.block B (by simp; omega) (fun e => hne B e.symm rfl)).trans ?_
    exact (heap_old_at (by omega)).trans h1
  refine ⟨hb3, ?_⟩
  rintro W4 rfl
  have kAll : ∀ S : Nat → Prop, S B → (∀ k, (Value.slice ao pre.length cap).ownBlock = some k → S k) → Kept S W (w3.setCell ⟨B, 0, none⟩ (.slice ao3 (pre.length + 1) cap3)) := fun S s1 s2 =>
    Kept.setCell ((((Kept.refl S W).alloc o)).grown hg (fun k hk _ => s2 k hk)) (p := ⟨B, 0, none⟩) (fun _ => s1) _
  have k0 : Kept (fun b => b = B) W0 (w3.setCell ⟨B, 0, none⟩ (.slice ao3 (pre.length + 1) cap3)) :=
    Kept.setCell ((h3.alloc o).grown hg (fun k hk hlt => absurd (own_blockP h2 hk).1 (by omega))) (p := ⟨B, 0, none⟩) (fun _ => rfl) _
  refine ⟨⟨(kAll (fun _ => True) trivial (fun _ _ => trivial)).size, fun k o' hk hb hc => ?_⟩, ?_, ao3, cap3, ?_, ?_, k0⟩
  · have hn := (kAll (fun b => b = B ∨ (Value.slice ao pre.length cap).ownBlock = some b) (.inl rfl) (fun k hk => .inr hk)).block k (Array.getElem?_eq_some_iff.1 hb).1
    refine (hn ?_).trans hb
    rintro (e | e)
    · omega
    · obtain ⟨_, cur, fr, hcc⟩ := own_blockP h2 e
      rw [hcc] at hb
      cases hb
      cases hc
  · refine World.cell?_of_block ((kAll (fun b => b = B ∨ (Value.slice ao pre.length cap).ownBlock = some b) (.inl rfl) (fun k hk => .inr hk)).block b0 (Nat.lt_of_lt_of_le hb0 h3.size) ?_)
    rintro (e | e)
    · exact hne0 e
    · have := (own_blockP h2 e).1
      omega
  · have := setCell_heap hb3 0 (.slice ao3 (pre.length + 1) cap3)
    simpa using this
  · rw [List.length_append, List.map_append]
    refine owns_kept hown (Kept.setCell (S := fun b => b = B) (Kept.refl _ w3) (p := ⟨B, 0, none⟩) (fun _ => rfl) _) (R := fun b => b = B) (fun k hk hrk => ?_)
    have := (own_blockP hown hk).1
    omega

set_option maxRecDepth 100000 in
set_option maxHeartbeats 3200000 in
theorem appendSeq_calls {w : World} {b0 f : Nat} (hf : f < 4294967296) (hc : w.cell? ⟨b0, 0, none⟩ = some (.int .u32 f)) :
    Calls Tryz.prog 70 #[.slice none 0 0, .func (.func 71) #[] #[.pointer (some ⟨b0, 0, none⟩)]] w fun e w' => ∃ v, e = .returned v ∧ w'.ownsRow w.heap.size 3 1 v (feats f).length ((feats f).map iv) ∧ Near w w' := by
  have hlt0 := World.block_lt_of_cell? w _ hc
  obtain ⟨i0, hi0, hz0, hz1, hz2⟩ := info_parts info3
  have hN : Near w (w.alloc (.cells #[.slice none 0 0] 36)) := (Near.refl w).alloc _
  have hE : (w.alloc (.cells #[.slice none 0 0] 36)).heap[w.heap.size]? = some (.cells #[.slice none 0 0] 36 (0, 0)) := heap_new_at rfl
  have hS : (w.alloc (.cells #[.slice none 0 0] 36)).heap.size = w.heap.size + 1 := by simp
  refine (callsIn_wide (n := 6)).1 ?_
  refine callsIn_of_wp_marks Tryz.func70 rfl trivial ?_ rfl
  simp only [Tryz.ntmps70, List.size_toArray, List.length_cons, List.length_nil, Nat.reduceAdd, Nat.reduceSub, Array.replicate_succ, Array.replicate_zero, List.push_toArray, List.append_toArray, List.nil_append, List.cons_append]
  gi_wp2
  generalize (w.alloc (.cells #[.slice none 0 0] 36)) = W0 at hN hE hS ⊢
  have HN := Lib.hid hN
  have HE := Lib.hid hE
  have HS := Lib.hid hS
  have HC := Lib.hid (hN.cell hc)
  have hlt1 : b0 < w.heap.size := hlt0
  clear hN hE hS hc hlt0
  generalize hBB : w.heap.size = B at *
  have HBB := Lib.hid hBB
  clear hBB
  refine rangeFunc_oneP (q := 5) rfl (by omega) (gf := 71) (lb := #[.pointer (some ⟨b0, 0, none⟩)]) rfl trivial (enters_of Tryz.func71 (by kernel_rfl) rfl)
    (members_stops (6 - 1) (by omega) b0 f hf W0 HC.out) (fun h k => Eq.trans k h) ?hKb
    (fun pre W => CI B W0 pre W) (fun _ _ _ => False) (ci_own (by have := HS.out; omega)) (fun _ _ _ _ _ h _ _ => h) ⟨none, 0, HE.out, World.ownsRow_nil _ _ _ _, Kept.refl _ _⟩ ?assign ?body ?done (fun _ _ _ _ _ _ h _ => h.elim)
  case hKb =>
    intro W l o o' hl _ _ _
    exact World.cell?_of_block (World.putObj_heap_other (by have := HS.out; show b0 ≠ l; omega))
  case assign =>
    intro l x W K hK
    simp only [List.setIfInBounds_toArray, List.set_cons_zero, List.set_cons_succ] at hK ⊢
    gi_wp2
    exact hK
  case body =>
    rintro l pre x W ⟨ao1, cap1, hb, hown, hk⟩ hpl
    have hB0 : B < W0.heap.size := by have := HS.out; omega
    have HBx := Lib.hid hb
    have HOw := Lib.hid hown
    have HKp := Lib.hid hk
    have c0 : W.cell? ⟨B, 0, none⟩ = some (.slice ao1 pre.length cap1) := cell1 (o := 0) hb rfl
    have hsz := hk.size
    clear hb hown hk
    simp only [iv, List.setIfInBounds_toArray, List.set_cons_zero, List.set_cons_succ]
    gi_wp2_with (gi_at_builtin; refine wpListIn_append_own _ rfl (.tmp 8) (.tmp 10) 36 rfl W0.heap.size 3 i0 (.int .i64 0) 1 8 Tryz.underlying36 hi0 hz0 hz1 hz2 rfl (by decide) _ _ _ rfl (HOw.out.alloc _) ⟨W.heap.size, 0, none⟩ 1 1 [iv x] rfl rfl (cell_one_at rfl _ _) (by simp [Value.oneCell', iv]) (by unfold maxLen; omega) (by omega) (by simp <;> omega) ?_; intro v3 w3 hown3 hg3 _; obtain ⟨ao3, cap3, rfl⟩ := owns_form hown3; have HSt := Lib.hid (ci_step (x := x) (b0 := b0) hB0 (by omega) (by omega) HBx.out HOw.out HKp.out hg3 hown3); have d0 := cell1 (o := 0) HSt.out.1 rfl; have df := free1 HSt.out.1)
    exact HSt.out.2 _ rfl
  case done =>
    rintro D xs W hD rfl ⟨ao1, cap1, hb, hown, hk⟩ hdef
    have HOw := Lib.hid hown
    have HKp := Lib.hid hk
    have HDf := Lib.hid hdef
    have c0 : W.cell? ⟨B, 0, none⟩ = some (.slice ao1 (feats f).length cap1) := cell1 (o := 0) hb rfl
    clear hb hown hk hdef
    gi_wp2
    have hK := kept_putObj W D (Obj.deferred none)
    have hS := HS.out
    refine ⟨by simp, .inl ⟨_, _, rfl, run_takeDeferred HDf.out, ?_⟩⟩
    have hsz := HN.out.size'
    refine ⟨.slice ao1 (feats f).length cap1, ?_, _, rfl, ?_, ?_⟩
    · simp [results, Tryz.results70, go_sem]
    · have hw := owns_kept HOw.out hK (R := fun b => b = D) (fun k hk' hrk => by
        obtain ⟨_, cur, fr, hcc⟩ := own_blockP HOw.out hk'
        have e : k = D := hrk
        rw [e, HDf.out] at hcc
        cases hcc)
      exact World.ownsRow.mono hw (by omega)
    · exact Kept.mono ((HN.out.kept.trans (Kept.mono HKp.out (fun b _ e => (Or.inl e : b = B ∨ b = D)))).trans (Kept.mono hK (fun b _ e => (Or.inr e : b = B ∨ b = D)))) (fun b hb h => by have := HBB.out; rcases h with h | h <;> omega)

set_option maxRecDepth 100000 in
set_option maxHeartbeats 800000 in
theorem collect_calls {w : World} {b0 f : Nat} (hf : f < 4294967296) (hc : w.cell? ⟨b0, 0, none⟩ = some (.int .u32 f)) :
    Calls Tryz.prog 25 #[.func (.func 71) #[] #[.pointer (some ⟨b0, 0, none⟩)]] w fun e w' => ∃ v, e = .returned v ∧ w'.ownsRow w.heap.size 3 1 v (feats f).length ((feats f).map iv) ∧ Near w w' := by
  have HA := Lib.hid (appendSeq_calls hf hc)
  clear hc
  go_enter Tryz.func25, Tryz.ntmps25
  go_wp2_with (go_at_call 70; refine HA.out.mono ?_; rintro e w1 ⟨v, rfl, hr, n1⟩; have HR := Lib.hid hr; obtain ⟨ao, cap, rfl⟩ := owns_form hr; clear hr)
  exact bodyPost_ret (v := .slice ao (feats f).length cap) (by simp [results, Tryz.results25, go_sem]) rfl ⟨_, rfl, HR.out, n1⟩

end Go.Proofs.YtefclohjeompkaaGreat
