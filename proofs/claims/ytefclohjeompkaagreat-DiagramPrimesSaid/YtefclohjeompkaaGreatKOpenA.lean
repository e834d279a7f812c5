/- Parts of a proof: Each, EachB, Exi, OpA, OpB, OpC, OpE, OpenA. -/
import Derived.Maps.OwnSet
import Derived.WalkKit
import Derived.Deep.QuietTactic
import Derived.Test.YtefclohjeompkaaGreatProg
import Derived.KernelRfl
import Derived.DeepKeys4
import Derived.Deep.RegionLaw
import Derived.StillTailTactics
import Derived.Maps.AppendAt
import Derived.WalkSpells
import Derived.WalkLawsBesides
import Derived.BigQuiet
import Derived.Lib.Hide
import Derived.Deep.DeepCutAuto
import Derived.Laws.EntriesVeiled
import Derived.Deep.RegionHeld3
import Derived.Laws.OwnMore
import Derived.Deep.Slices
import Derived.RangeFuncNested
import Derived.RangeFuncBound
import Derived.RangeFuncCalls
import Derived.RangeFuncLeaves
import Derived.Shelf.Abstract
import Derived.Shelf.RegionOpen
import Derived.OwnWalkIn
import Derived.TacticsInMore
import Derived.LoopNIn
import Derived.LoopIn
import Derived.Lib.BitFns
import Derived.IntWalk
import Derived.Laws.CopyOwn
import Derived.Test.YtefclohjeompkaaGreatRows
import Derived.ProofKit
import Derived.OpenShut
import Derived.ShutString
import Derived.ChangeOld
import Derived.Below
import Derived.Deep.Fields
import Derived.Test.YtefclohjeompkaaGreatKTreeC
import Derived.Test.YtefclohjeompkaaGreatKRep
import Derived.Test.YtefclohjeompkaaGreatKJoinD
import Derived.Test.YtefclohjeompkaaGreatKCmpA
import Derived.Test.YtefclohjeompkaaGreatKRefH
import Derived.Test.YtefclohjeompkaaGreatKOfB
import Derived.Test.YtefclohjeompkaaGreatKAlike
import Derived.Test.YtefclohjeompkaaGreatKBetA
import Derived.Test.YtefclohjeompkaaGreatKLinH
import Derived.Test.YtefclohjeompkaaGreatKBetB
import Derived.Test.YtefclohjeompkaaGreatKLinF
import Derived.Test.YtefclohjeompkaaGreatKLinJ
import Derived.Test.YtefclohjeompkaaGreatKSteps3
import Derived.Test.YtefclohjeompkaaGreatKFAll
/- Each: what is needed of it. -/
namespace Go.Proofs.YtefclohjeompkaaGreat
open Go Go.RowKit Go.Shelf Go.Proofs.Gen Go.Proofs.Bdd Go.Proofs.Bdd.T
attribute [local go_sem] Oper.semAt_some
/-- Features quantified, one after the other. -/
def qF (op : Bool → Bool → Bool) (xs : List Nat) (f : F) : F := xs.foldl (fun g (i : Nat) => fun c => op (g (updI c i false)) (g (updI c i true))) f

theorem qF_snoc (op : Bool → Bool → Bool) (xs : List Nat) (i : Nat) (f : F) (c : Nat → Bool) : qF op (xs ++ [i]) f c = op (qF op xs f (updI c i false)) (qF op xs f (updI c i true)) := by
  unfold qF
  rw [List.foldl_append]
  rfl

theorem IsF.turned {W W' : World} {v : Value} {f : F} {row : Option Nat} (h : IsF W v f) (hg : W.grownBy W' row) (hr : ∀ r, row = some r → ∃ o : Obj, W.heap[r]? = some o ∧ o.isCells = false) : IsF W' v f := by
  obtain ⟨t, ⟨ok, sv, rfl, hrow⟩, he⟩ := h
  refine ⟨t, ⟨ok, sv, rfl, ?_⟩, he⟩
  refine owns_kept (R := fun k => row = some k) hrow (Kept.grown (Kept.refl _ _) hg (fun k hk _ => hk)) (fun k hk hrk => ?_)
  obtain ⟨o, ho, hc⟩ := hr k hrk
  rcases hrow.2 with ⟨rfl, _⟩ | ⟨g, cap, cur, rfl, _, hgb, _⟩
  · cases hk
  · cases hk
    rw [hgb] at ho
    cases ho
    cases hc

theorem IsF.past {W W' : World} {v : Value} {f : F} {R : Nat → Prop} (h : IsF W v f) (hk : Kept R W W') (hr : ∀ r, R r → ∃ o : Obj, W.heap[r]? = some o ∧ o.isCells = false) : IsF W' v f := by
  obtain ⟨t, ⟨ok, sv, rfl, hrow⟩, he⟩ := h
  refine ⟨t, ⟨ok, sv, rfl, owns_kept hrow hk (fun k hk hrk => ?_)⟩, he⟩
  obtain ⟨o, ho, hc⟩ := hr k hrk
  rcases hrow.2 with ⟨rfl, _⟩ | ⟨g, cap, cur, rfl, _, hgb, _⟩
  · cases hk
  · cases hk
    rw [hgb] at ho
    cases ho
    cases hc

theorem kept_putObj (W : World) (D : Nat) (o : Obj) : Kept (fun b => b = D) W (W.putObj D o) :=
  ⟨rfl, rfl, rfl, by simp [World.putObj], fun _ _ h => World.putObj_heap_other (fun e => h (by first | exact e | exact e.symm))⟩

/-- The state of 'each' between two rounds: the set so far. -/
def EachI (w W0 : World) (op : Bool → Bool → Bool) (f : F) (pre : List Nat) (W : World) : Prop :=
  ∃ u1 u2 u3 u4, W.heap[w.heap.size]? = some (.cells #[.slice u1 u2 u3, .int .i64 u4] 34 (0, 0)) ∧ IsF W (.agg #[.slice u1 u2 u3, .int .i64 u4]) (qF op pre f) ∧ Kept (fun b => b = w.heap.size) W0 W

theorem eachI_own {w W0 : World} {op : Bool → Bool → Bool} {f : F} : OwnFrom W0.heap.size (EachI w W0 op f) := by
  intro pre W W' row ⟨u1, u2, u3, u4, he, hf, hk⟩ hg hr
  have hne : ∀ r, row = some r → r ≠ w.heap.size := fun r e h => by
    obtain ⟨_, o, ho, hc⟩ := hr r e
    rw [h, he] at ho
    cases ho
    cases hc
  refine ⟨u1, u2, u3, u4, ?_, hf.turned hg (fun r e => (hr r e).2), hk.grown hg (fun r e hlt => absurd (hr r e).1 (by omega))⟩
  exact (hg.block _ (Array.getElem?_eq_some_iff.1 he).1 (fun e => hne _ e.symm rfl)).trans he

/-- The set stored behind a round. -/
theorem each_step {w w1 W0 W z : World} {op : Bool → Bool → Bool} {f g : F} {pre : List Nat} {x : Nat} {u1 y1 : Option Addr} {u2 u3 y2 y3 : Nat} {u4 y4 : Int} (hz0 : W0.heap.size = w1.heap.size + 1) (hsz : w.heap.size + 3 ≤ w1.heap.size)
    (hk : Kept (fun b => b = w.heap.size) W0 W) (hn : Near W z) (he : z.heap[w.heap.size]? = some (.cells #[.slice u1 u2 u3, .int .i64 u4] 34 (0, 0)))
    (hv : IsF z (.agg #[.slice y1 y2 y3, .int .i64 y4]) g) (hg : ∀ c, g c = qF op (pre ++ [x]) f c) :
    ∀ W', W' = (z.setCell ⟨w.heap.size, 0, none⟩ (.slice y1 y2 y3)).setCell ⟨w.heap.size, 1, none⟩ (.int .i64 y4) → KeepsFrom W0.heap.size W W' ∧ CellAs w1.heap.size W W' ∧ EachI w W0 op f (pre ++ [x]) W' := by
  rintro W' rfl
  have hs := isF_store hv he
  have hk' : Kept (fun b => b = w.heap.size) W ((z.setCell ⟨w.heap.size, 0, none⟩ (.slice y1 y2 y3)).setCell ⟨w.heap.size, 1, none⟩ (.int .i64 y4)) :=
    Kept.setCell (Kept.setCell (S := fun b => b = w.heap.size) hn.kept (p := ⟨w.heap.size, 0, none⟩) (fun _ => rfl) _) (p := ⟨w.heap.size, 1, none⟩) (fun _ => rfl) _
  have hh := setCell_heap (setCell_heap he 0 (.slice y1 y2 y3)) 1 (.int .i64 y4)
  have hsz2 := hk.size
  generalize (z.setCell ⟨w.heap.size, 0, none⟩ (.slice y1 y2 y3)).setCell ⟨w.heap.size, 1, none⟩ (.int .i64 y4) = W' at *
  refine ⟨⟨hk'.size, fun k o hB hb _ => (hk'.block k (Array.getElem?_eq_some_iff.1 hb).1 (by omega)).trans hb⟩, World.cell?_of_block (hk'.block w1.heap.size (by omega) (by omega)), y1, y2, y3, y4, hh, hs.congr hg, hk.trans hk'⟩

set_option maxRecDepth 100000 in
set_option maxHeartbeats 3200000 in
theorem each_or {w : World} {v : Value} {t : T} (h : IsD w v t) {m : Nat} (hm : m < 4294967296) :
    Calls Tryz.prog 88 #[v, .int .u32 m, .func (.func 14) #[] #[]] w (FPost w (qF (fun x y => x || y) (feats (m &&& sup (nodes t))) t.ev)) := by
  obtain ⟨ao, k, cap, rfl, -⟩ := h.form
  have hs : sup (nodes t) < 16777216 := sup_lt fun s hs => by
    have hm := (nodes_good h.1).all s hs
    cases s with
    | leaf b => exact hm.1.elim
    | node j l' h' => exact hm.2.1
  have ha : bits .and .u32 (m : Int) (sup (nodes t) : Nat) = ((m &&& sup (nodes t) : Nat) : Int) := Go.Proofs.Gen.u32_and m (sup (nodes t)) hm (by omega)
  have hx : m &&& sup (nodes t) < 4294967296 := Nat.lt_of_le_of_lt Nat.and_le_right (by omega)
  have HA := Lib.hid ha
  have HD := Lib.hid h
  have HS := Lib.hid (support_calls (w := (((w.alloc (.cells #[.slice ao k cap, .int .i64 (pl (nodes t) t : Nat)] 34)).alloc (.cells #[.func (.func 14) #[] #[]] 93)).alloc (.cells #[.slice none 0 0, .int .i64 0] 34))) (h.near ((((Near.refl w).alloc _).alloc _).alloc _)))
  clear ha h
  refine (callsIn_wide (n := 6)).1 ?_
  refine callsIn_of_wp_marks Tryz.func88 rfl trivial ?_ rfl
  simp only [Tryz.ntmps88, List.size_toArray, List.length_cons, List.length_nil, Nat.reduceAdd, Nat.reduceSub, Array.replicate_succ, Array.replicate_zero, List.push_toArray, List.append_toArray, List.nil_append, List.cons_append]
  gi_wp2_with (first
    | (refine ⟨trivial, ?_⟩; gi_at_call 23; refine (callsIn_wide.2 HS.out).mono ?_; rintro e w1 ⟨rfl, n1⟩)
    | (refine ⟨trivial, ?_⟩; gi_at_call 26; rw [HA.out]; refine (callsIn_wide.2 (members_calls _ _)).mono ?_; rintro e w2 ⟨rfl, rfl⟩))
  have facts : ∀ W, W = (((w.alloc (Obj.cells #[Value.slice ao k cap, Value.int IntKind.i64 (pl (nodes t) t : Nat)] 34)).alloc (Obj.cells #[Value.func (Fn.func 14) #[] #[]] 93)).alloc (Obj.cells #[Value.slice none 0 0, Value.int IntKind.i64 0] 34)) →
      Near w W ∧ W.heap.size = w.heap.size + 3 ∧ W.heap[w.heap.size]? = some (.cells #[.slice ao k cap, .int .i64 (pl (nodes t) t : Nat)] 34 (0, 0)) ∧ W.heap[w.heap.size + 1]? = some (.cells #[.func (.func 14) #[] #[]] 93 (0, 0)) ∧ W.heap[w.heap.size + 1 + 1]? = some (.cells #[.slice none 0 0, .int .i64 0] 34 (0, 0)) := by
    rintro W rfl
    refine ⟨(((Near.refl w).alloc _).alloc _).alloc _, by simp, ?_, ?_, ?_⟩
    all_goals
      repeat (first | exact heap_new_at (by simp; done) | refine (heap_old_at (by simp <;> omega)).trans ?_)
  obtain ⟨k1, k2, k3, k4, k5⟩ := facts _ rfl
  have N0 : Near w (w1.alloc (Obj.cells #[Value.int IntKind.u32 (m &&& sup (nodes t) : Nat)] 40)) := (k1.trans n1).alloc _
  have hsz1 := n1.size'
  rw [k2] at hsz1
  have hW0 : ∀ W0, W0 = w1.alloc (Obj.cells #[Value.int IntKind.u32 (m &&& sup (nodes t) : Nat)] 40) → W0.heap.size = w1.heap.size + 1 ∧ EachI w W0 (fun x y => x || y) t.ev [] W0 ∧ W0.heap[w.heap.size + 1]? = some (.cells #[.func (.func 14) #[] #[]] 93 (0, 0)) ∧ W0.heap[w.heap.size + 1 + 1]? = some (.cells #[.slice none 0 0, .int .i64 0] 34 (0, 0)) ∧ W0.cell? ⟨w1.heap.size, 0, none⟩ = some (.int .u32 (m &&& sup (nodes t) : Nat)) := by
    rintro W0 rfl
    exact ⟨by simp, ⟨ao, k, cap, _, keepN (n1.alloc _) k3, ⟨t, HD.out.near N0, fun c => rfl⟩, Kept.refl _ _⟩, keepN (n1.alloc _) k4, keepN (n1.alloc _) k5, by simp⟩
  have hW0' := hW0 _ rfl
  generalize w1.alloc (Obj.cells #[Value.int IntKind.u32 (m &&& sup (nodes t) : Nat)] 40) = W0 at hW0' N0 ⊢
  clear hW0 facts k1 k2 k3 k4 k5 n1 HS HA
  obtain ⟨hz0, hi0, hfn, hres, hcell⟩ := hW0'
  have HZ0 := Lib.hid hz0
  have HFn := Lib.hid hfn
  have HRes := Lib.hid hres
  have HN0 := Lib.hid N0
  refine wpIn_rangeFunc_ownG rfl (by omega) (gf := 71) (lb := #[.pointer (some ⟨w1.heap.size, 0, none⟩)]) rfl trivial (enters_of Tryz.func71 (by kernel_rfl) rfl)
    (members_stops (6 - 1) (by omega) w1.heap.size (m &&& sup (nodes t)) hx W0 hcell) (fun h k => Eq.trans k h) ?hKb (Below.refl _ _) (fun _ => rfl)
    (EachI w W0 (fun x y => x || y) t.ev) (fun _ _ _ => False) eachI_own (fun _ _ _ _ _ hs _ _ => hs) hi0
    (fun x => { tmps := #[Value.agg #[Value.slice ao k cap, Value.int IntKind.i64 (pl (nodes t) t : Nat)], Value.int IntKind.u32 m, Value.func (Fn.func 14) #[] #[], Value.pointer (some ⟨w.heap.size, 0, none⟩), undef, Value.pointer (some ⟨w.heap.size + 1, 0, none⟩), Value.pointer (some ⟨w.heap.size + 1 + 1, 0, none⟩), Value.int IntKind.i64 x, Value.int IntKind.u32 m,
      Value.agg #[Value.slice ao k cap, Value.int IntKind.i64 (pl (nodes t) t : Nat)], Value.int IntKind.u32 (sup (nodes t) : Nat), Value.int IntKind.u32 (m &&& sup (nodes t) : Nat), Value.func (Fn.func 71) #[] #[Value.pointer (some ⟨w1.heap.size, 0, none⟩)], Value.int IntKind.i64 x, undef, undef, undef, undef, undef, undef, undef, undef, undef], defers := [] }) ?assign ?body ?done ?stop
  case hKb =>
    intro W l o o' hl ho _ _
    exact World.cell?_of_block (World.putObj_heap_other (by have := HZ0.out; show w1.heap.size ≠ l; omega))
  case assign =>
    intro l x W K hK
    gi_wp2
    exact hK
  case body =>
    rintro l pre x W ⟨u1, u2, u3, u4, he, hf, hk⟩ _
    have HE := Lib.hid he
    have HF := Lib.hid hf
    have HK := Lib.hid hk
    have c0 : W.cell? ⟨w.heap.size, 0, none⟩ = some (.slice u1 u2 u3) := cell1 (o := 0) he rfl
    have c1 : W.cell? ⟨w.heap.size, 1, none⟩ = some (.int .i64 u4) := cell1 (o := 1) he rfl
    have hfW := Lib.hid ((hk.block (w.heap.size + 1) (by have := HZ0.out; omega) (by omega)).trans HFn.out)
    have c2 : W.cell? ⟨w.heap.size + 1, 0, none⟩ = some (.func (.func 14) #[] #[]) := cell1 (o := 0) hfW.out rfl
    clear he hf hk
    have hd : 1 ≤ 6 - 1 - 1 := by omega
    have hmx : Tryz.prog.follows .mixedOrders = true := by kernel_rfl
    have HFd := Lib.hid (HF.out.near ((Near.refl W).drew))
    gi_wp2
    refine wpIn_region_round hmx (by kernel_rfl) (fun ⟨_, _, h⟩ => h) (fun W' => W'.cell? ⟨w.heap.size, 0, none⟩ = some (.slice u1 u2 u3) ∧ W'.cell? ⟨w.heap.size, 1, none⟩ = some (.int .i64 u4) ∧ W'.cell? ⟨w.heap.size + 1, 0, none⟩ = some (.func (.func 14) #[] #[])) 8
      ⟨by simpa using c0, by simpa using c1, by simpa using c2⟩ (fun hS => ?_)
    refine takeZ0 (v := Value.func (Fn.func 14) #[] #[]) (by kernel_rfl) (by kernel_rfl) (by kernel_rfl) (by kernel_rfl) (fun _ _ _ h => h) (Or.inl ⟨by rfl, fun w' hS' => by dsimp only at hS'; obtain ⟨q0, q1, q2⟩ := hS'; go_simp⟩) hS ?_
    try simp only [Act.put, List.setIfInBounds_toArray, List.set_cons_zero, List.set_cons_succ]
    refine takeZ1 (v := Value.agg #[Value.slice u1 u2 u3, Value.int IntKind.i64 u4]) (by kernel_rfl) (by kernel_rfl) (by kernel_rfl) (by kernel_rfl) (fun _ _ _ h => h) (Or.inl ⟨by rfl, fun w' hS' => by dsimp only at hS'; obtain ⟨q0, q1, q2⟩ := hS'; go_simp⟩) hS ?_
    try simp only [Act.put, List.setIfInBounds_toArray, List.set_cons_zero, List.set_cons_succ]
    refine takeZ2 (v := Value.int IntKind.i64 x) (by kernel_rfl) (by kernel_rfl) (by kernel_rfl) (by kernel_rfl) (fun _ _ _ h => h) (Or.inl ⟨by rfl, fun w' hS' => by dsimp only at hS'; obtain ⟨q0, q1, q2⟩ := hS'; go_simp⟩) hS ?_
    try simp only [Act.put, List.setIfInBounds_toArray, List.set_cons_zero, List.set_cons_succ]
    refine takeZ4 (v := Value.agg #[Value.slice u1 u2 u3, Value.int IntKind.i64 u4]) (by kernel_rfl) (by kernel_rfl) (by kernel_rfl) (by kernel_rfl) (fun _ _ _ h => h) (Or.inl ⟨by rfl, fun w' hS' => by dsimp only at hS'; obtain ⟨q0, q1, q2⟩ := hS'; go_simp⟩) hS ?_
    try simp only [Act.put, List.setIfInBounds_toArray, List.set_cons_zero, List.set_cons_succ]
    refine takeZ5 (v := Value.int IntKind.i64 x) (by kernel_rfl) (by kernel_rfl) (by kernel_rfl) (by kernel_rfl) (fun _ _ _ h => h) (Or.inl ⟨by rfl, fun w' hS' => by dsimp only at hS'; obtain ⟨q0, q1, q2⟩ := hS'; go_simp⟩) hS ?_
    try simp only [Act.put, List.setIfInBounds_toArray, List.set_cons_zero, List.set_cons_succ]
    refine oneZ3 (by kernel_rfl) (fun K hK => ?_)
    go_simp
    go_wp2_with (go_at_call 53; refine (with_f HFd.out _ _).mono ?_; rintro e z1 ⟨v1, rfl, hv1, n1⟩)
    refine hK.out _ _ (Or.inr ⟨n1.cell hS.1, n1.cell hS.2.1, n1.cell hS.2.2⟩) ?_
    clear hK K
    try simp only [Act.put, List.setIfInBounds_toArray, List.set_cons_zero, List.set_cons_succ]
    refine oneZ6 (by kernel_rfl) (fun K hK => ?_)
    go_simp
    go_wp2_with (go_at_call 53; refine (with_f (HFd.out.near n1) _ _).mono ?_; rintro e z2 ⟨v2, rfl, hv2, n2⟩)
    have n2' := n1.trans n2
    refine hK.out _ _ (Or.inr ⟨n2'.cell hS.1, n2'.cell hS.2.1, n2'.cell hS.2.2⟩) ?_
    clear hK K
    try simp only [Act.put, List.setIfInBounds_toArray, List.set_cons_zero, List.set_cons_succ]
    refine oneZ7 (by kernel_rfl) (fun K hK => ?_)
    go_simp
    go_wp2_with (go_at_call 14; refine (or_f (hv1.near n2) hv2).mono ?_; rintro e z3 ⟨v3, rfl, hv3, n3⟩)
    have n3' := n2'.trans n3
    refine hK.out _ _ (Or.inr ⟨n3'.cell hS.1, n3'.cell hS.2.1, n3'.cell hS.2.2⟩) ?_
    clear hK K
    obtain ⟨y1, y2, y3, y4, rfl⟩ := hv3.form
    have N3 := (Near.refl W).drew.trans n3'
    have he3 := keepN N3 HE.out
    have e0 := cell1 (o := 0) he3 rfl
    have e1 := cell1 (o := 1) he3 rfl
    have ef := free1 he3
    try simp only [Act.put, List.setIfInBounds_toArray, List.set_cons_zero, List.set_cons_succ]
    refine oneZ8 (by kernel_rfl) (fun K hK => ?_)
    go_simp
    refine hK.out _ _ (Or.inl rfl) ?_
    refine wpAnyZ_done (by kernel_rfl) ?_
    exact each_step HZ0.out hsz1 HK.out N3 he3 hv3 (fun c => (qF_snoc _ _ _ _ _).symm) _ rfl
  case done =>
    rintro D xs W hD rfl ⟨u1, u2, u3, u4, he, hf, hk⟩ hDef
    have HK := Lib.hid hk
    have HF := Lib.hid hf
    have HD2 := Lib.hid hDef
    have hlt0 := hk.size
    have HR := Lib.hid ((hk.block (w.heap.size + 1 + 1) (by have := HZ0.out; omega) (by omega)).trans HRes.out)
    have c0 : W.cell? ⟨w.heap.size, 0, none⟩ = some (.slice u1 u2 u3) := cell1 (o := 0) he rfl
    have c1 : W.cell? ⟨w.heap.size, 1, none⟩ = some (.int .i64 u4) := cell1 (o := 1) he rfl
    have d0 := cell1 (o := 0) HR.out rfl
    have d1 := cell1 (o := 1) HR.out rfl
    have df := free1 HR.out
    clear hk hf hDef he
    gi_wp2
    have hk2 := Kept.setCell (Kept.setCell (S := fun b => b = w.heap.size + 1 + 1) (Kept.refl _ W) (p := ⟨w.heap.size + 1 + 1, 0, none⟩) (fun _ => rfl) (.slice u1 u2 u3)) (p := ⟨w.heap.size + 1 + 1, 1, none⟩) (fun _ => rfl) (.int .i64 u4)
    have hs := isF_store HF.out HR.out
    have q0 := cell1 (o := 0) (setCell_heap (setCell_heap HR.out 0 (.slice u1 u2 u3)) 1 (.int .i64 u4)) rfl
    have q1 := cell1 (o := 1) (setCell_heap (setCell_heap HR.out 0 (.slice u1 u2 u3)) 1 (.int .i64 u4)) rfl
    have hN : Near w ((W.setCell ⟨w.heap.size + 1 + 1, 0, none⟩ (.slice u1 u2 u3)).setCell ⟨w.heap.size + 1 + 1, 1, none⟩ (.int .i64 u4)) :=
      Kept.mono ((HN0.out.kept.trans (Kept.mono HK.out (fun _ _ h => Or.inl h))).trans (Kept.mono hk2 (fun _ _ h => Or.inr h))) (fun b hb h => by rcases h with h | h <;> omega)
    have hDf : ((W.setCell ⟨w.heap.size + 1 + 1, 0, none⟩ (.slice u1 u2 u3)).setCell ⟨w.heap.size + 1 + 1, 1, none⟩ (.int .i64 u4)).heap[D]? = some (.deferred (some [])) :=
      (hk2.block D (Array.getElem?_eq_some_iff.1 HD2.out).1 (by have := HZ0.out; omega)).trans HD2.out
    generalize (W.setCell ⟨w.heap.size + 1 + 1, 0, none⟩ (.slice u1 u2 u3)).setCell ⟨w.heap.size + 1 + 1, 1, none⟩ (.int .i64 u4) = W2 at *
    refine ⟨by simp, .inl ⟨_, _, rfl, run_takeDeferred hDf, ?_⟩⟩
    have hk3 := kept_putObj W2 D (Obj.deferred none)
    have hs3 := hs.past hk3 (fun r e => ⟨.deferred (some []), (congrArg (fun b => W2.heap[b]?) e).trans hDf, rfl⟩)
    have hsz3 := HN0.out.size'
    have hN3 : Near w (W2.putObj D (Obj.deferred none)) := Kept.mono (hN.kept.trans hk3) (fun b hb h => by have := HZ0.out; omega)
    have r0 := hk3.cell q0 (by have := HZ0.out; show ¬ (w.heap.size + 1 + 1 = D); omega)
    have r1 := hk3.cell q1 (by have := HZ0.out; show ¬ (w.heap.size + 1 + 1 = D); omega)
    generalize W2.putObj D (Obj.deferred none) = W3 at *
    refine ⟨.agg #[.slice u1 u2 u3, .int .i64 u4], ?_, _, rfl, hs3, hN3⟩
    simp [results, Tryz.results88, go_sem, r0, r1]
  case stop =>
    rintro D c pre W _ _ h _
    exact h.elim

end Go.Proofs.YtefclohjeompkaaGreat

/- EachB: what is needed of it. -/
namespace Go.Proofs.YtefclohjeompkaaGreat
open Go Go.RowKit Go.Shelf Go.Proofs.Gen Go.Proofs.Bdd Go.Proofs.Bdd.T
attribute [local go_sem] Oper.semAt_some
set_option maxRecDepth 100000 in
set_option maxHeartbeats 3200000 in
theorem each_and {w : World} {v : Value} {t : T} (h : IsD w v t) {m : Nat} (hm : m < 4294967296) :
    Calls Tryz.prog 88 #[v, .int .u32 m, .func (.func 13) #[] #[]] w (FPost w (qF (fun x y => x && y) (feats (m &&& sup (nodes t))) t.ev)) := by
  obtain ⟨ao, k, cap, rfl, -⟩ := h.form
  have hs : sup (nodes t) < 16777216 := sup_lt fun s hs => by
    have hm := (nodes_good h.1).all s hs
    cases s with
    | leaf b => exact hm.1.elim
    | node j l' h' => exact hm.2.1
  have ha : bits .and .u32 (m : Int) (sup (nodes t) : Nat) = ((m &&& sup (nodes t) : Nat) : Int) := Go.Proofs.Gen.u32_and m (sup (nodes t)) hm (by omega)
  have hx : m &&& sup (nodes t) < 4294967296 := Nat.lt_of_le_of_lt Nat.and_le_right (by omega)
  have HA := Lib.hid ha
  have HD := Lib.hid h
  have HS := Lib.hid (support_calls (w := (((w.alloc (.cells #[.slice ao k cap, .int .i64 (pl (nodes t) t : Nat)] 34)).alloc (.cells #[.func (.func 13) #[] #[]] 93)).alloc (.cells #[.slice none 0 0, .int .i64 0] 34))) (h.near ((((Near.refl w).alloc _).alloc _).alloc _)))
  clear ha h
  refine (callsIn_wide (n := 6)).1 ?_
  refine callsIn_of_wp_marks Tryz.func88 rfl trivial ?_ rfl
  simp only [Tryz.ntmps88, List.size_toArray, List.length_cons, List.length_nil, Nat.reduceAdd, Nat.reduceSub, Array.replicate_succ, Array.replicate_zero, List.push_toArray, List.append_toArray, List.nil_append, List.cons_append]
  gi_wp2_with (first
    | (refine ⟨trivial, ?_⟩; gi_at_call 23; refine (callsIn_wide.2 HS.out).mono ?_; rintro e w1 ⟨rfl, n1⟩)
    | (refine ⟨trivial, ?_⟩; gi_at_call 26; rw [HA.out]; refine (callsIn_wide.2 (members_calls _ _)).mono ?_; rintro e w2 ⟨rfl, rfl⟩))
  have facts : ∀ W, W = (((w.alloc (Obj.cells #[Value.slice ao k cap, Value.int IntKind.i64 (pl (nodes t) t : Nat)] 34)).alloc (Obj.cells #[Value.func (Fn.func 13) #[] #[]] 93)).alloc (Obj.cells #[Value.slice none 0 0, Value.int IntKind.i64 0] 34)) →
      Near w W ∧ W.heap.size = w.heap.size + 3 ∧ W.heap[w.heap.size]? = some (.cells #[.slice ao k cap, .int .i64 (pl (nodes t) t : Nat)] 34 (0, 0)) ∧ W.heap[w.heap.size + 1]? = some (.cells #[.func (.func 13) #[] #[]] 93 (0, 0)) ∧ W.heap[w.heap.size + 1 + 1]? = some (.cells #[.slice none 0 0, .int .i64 0] 34 (0, 0)) := by
    rintro W rfl
    refine ⟨(((Near.refl w).alloc _).alloc _).alloc _, by simp, ?_, ?_, ?_⟩
    all_goals
      repeat (first | exact heap_new_at (by simp; done) | refine (heap_old_at (by simp <;> omega)).trans ?_)
  obtain ⟨k1, k2, k3, k4, k5⟩ := facts _ rfl
  have N0 : Near w (w1.alloc (Obj.cells #[Value.int IntKind.u32 (m &&& sup (nodes t) : Nat)] 40)) := (k1.trans n1).alloc _
  have hsz1 := n1.size'
  rw [k2] at hsz1
  have hW0 : ∀ W0, W0 = w1.alloc (Obj.cells #[Value.int IntKind.u32 (m &&& sup (nodes t) : Nat)] 40) → W0.heap.size = w1.heap.size + 1 ∧ EachI w W0 (fun x y => x && y) t.ev [] W0 ∧ W0.heap[w.heap.size + 1]? = some (.cells #[.func (.func 13) #[] #[]] 93 (0, 0)) ∧ W0.heap[w.heap.size + 1 + 1]? = some (.cells #[.slice none 0 0, .int .i64 0] 34 (0, 0)) ∧ W0.cell? ⟨w1.heap.size, 0, none⟩ = some (.int .u32 (m &&& sup (nodes t) : Nat)) := by
    rintro W0 rfl
    exact ⟨by simp, ⟨ao, k, cap, _, keepN (n1.alloc _) k3, ⟨t, HD.out.near N0, fun c => rfl⟩, Kept.refl _ _⟩, keepN (n1.alloc _) k4, keepN (n1.alloc _) k5, by simp⟩
  have hW0' := hW0 _ rfl
  generalize w1.alloc (Obj.cells #[Value.int IntKind.u32 (m &&& sup (nodes t) : Nat)] 40) = W0 at hW0' N0 ⊢
  clear hW0 facts k1 k2 k3 k4 k5 n1 HS HA
  obtain ⟨hz0, hi0, hfn, hres, hcell⟩ := hW0'
  have HZ0 := Lib.hid hz0
  have HFn := Lib.hid hfn
  have HRes := Lib.hid hres
  have HN0 := Lib.hid N0
  refine wpIn_rangeFunc_ownG rfl (by omega) (gf := 71) (lb := #[.pointer (some ⟨w1.heap.size, 0, none⟩)]) rfl trivial (enters_of Tryz.func71 (by kernel_rfl) rfl)
    (members_stops (6 - 1) (by omega) w1.heap.size (m &&& sup (nodes t)) hx W0 hcell) (fun h k => Eq.trans k h) ?hKb (Below.refl _ _) (fun _ => rfl)
    (EachI w W0 (fun x y => x && y) t.ev) (fun _ _ _ => False) eachI_own (fun _ _ _ _ _ hs _ _ => hs) hi0
    (fun x => { tmps := #[Value.agg #[Value.slice ao k cap, Value.int IntKind.i64 (pl (nodes t) t : Nat)], Value.int IntKind.u32 m, Value.func (Fn.func 13) #[] #[], Value.pointer (some ⟨w.heap.size, 0, none⟩), undef, Value.pointer (some ⟨w.heap.size + 1, 0, none⟩), Value.pointer (some ⟨w.heap.size + 1 + 1, 0, none⟩), Value.int IntKind.i64 x, Value.int IntKind.u32 m,
      Value.agg #[Value.slice ao k cap, Value.int IntKind.i64 (pl (nodes t) t : Nat)], Value.int IntKind.u32 (sup (nodes t) : Nat), Value.int IntKind.u32 (m &&& sup (nodes t) : Nat), Value.func (Fn.func 71) #[] #[Value.pointer (some ⟨w1.heap.size, 0, none⟩)], Value.int IntKind.i64 x, undef, undef, undef, undef, undef, undef, undef, undef, undef], defers := [] }) ?assign ?body ?done ?stop
  case hKb =>
    intro W l o o' hl ho _ _
    exact World.cell?_of_block (World.putObj_heap_other (by have := HZ0.out; show w1.heap.size ≠ l; omega))
  case assign =>
    intro l x W K hK
    gi_wp2
    exact hK
  case body =>
    rintro l pre x W ⟨u1, u2, u3, u4, he, hf, hk⟩ _
    have HE := Lib.hid he
    have HF := Lib.hid hf
    have HK := Lib.hid hk
    have c0 : W.cell? ⟨w.heap.size, 0, none⟩ = some (.slice u1 u2 u3) := cell1 (o := 0) he rfl
    have c1 : W.cell? ⟨w.heap.size, 1, none⟩ = some (.int .i64 u4) := cell1 (o := 1) he rfl
    have hfW := Lib.hid ((hk.block (w.heap.size + 1) (by have := HZ0.out; omega) (by omega)).trans HFn.out)
    have c2 : W.cell? ⟨w.heap.size + 1, 0, none⟩ = some (.func (.func 13) #[] #[]) := cell1 (o := 0) hfW.out rfl
    clear he hf hk
    have hd : 1 ≤ 6 - 1 - 1 := by omega
    have hmx : Tryz.prog.follows .mixedOrders = true := by kernel_rfl
    have HFd := Lib.hid (HF.out.near ((Near.refl W).drew))
    gi_wp2
    refine wpIn_region_round hmx (by kernel_rfl) (fun ⟨_, _, h⟩ => h) (fun W' => W'.cell? ⟨w.heap.size, 0, none⟩ = some (.slice u1 u2 u3) ∧ W'.cell? ⟨w.heap.size, 1, none⟩ = some (.int .i64 u4) ∧ W'.cell? ⟨w.heap.size + 1, 0, none⟩ = some (.func (.func 13) #[] #[])) 8
      ⟨by simpa using c0, by simpa using c1, by simpa using c2⟩ (fun hS => ?_)
    refine takeZ0 (v := Value.func (Fn.func 13) #[] #[]) (by kernel_rfl) (by kernel_rfl) (by kernel_rfl) (by kernel_rfl) (fun _ _ _ h => h) (Or.inl ⟨by rfl, fun w' hS' => by dsimp only at hS'; obtain ⟨q0, q1, q2⟩ := hS'; go_simp⟩) hS ?_
    try simp only [Act.put, List.setIfInBounds_toArray, List.set_cons_zero, List.set_cons_succ]
    refine takeZ1 (v := Value.agg #[Value.slice u1 u2 u3, Value.int IntKind.i64 u4]) (by kernel_rfl) (by kernel_rfl) (by kernel_rfl) (by kernel_rfl) (fun _ _ _ h => h) (Or.inl ⟨by rfl, fun w' hS' => by dsimp only at hS'; obtain ⟨q0, q1, q2⟩ := hS'; go_simp⟩) hS ?_
    try simp only [Act.put, List.setIfInBounds_toArray, List.set_cons_zero, List.set_cons_succ]
    refine takeZ2 (v := Value.int IntKind.i64 x) (by kernel_rfl) (by kernel_rfl) (by kernel_rfl) (by kernel_rfl) (fun _ _ _ h => h) (Or.inl ⟨by rfl, fun w' hS' => by dsimp only at hS'; obtain ⟨q0, q1, q2⟩ := hS'; go_simp⟩) hS ?_
    try simp only [Act.put, List.setIfInBounds_toArray, List.set_cons_zero, List.set_cons_succ]
    refine takeZ4 (v := Value.agg #[Value.slice u1 u2 u3, Value.int IntKind.i64 u4]) (by kernel_rfl) (by kernel_rfl) (by kernel_rfl) (by kernel_rfl) (fun _ _ _ h => h) (Or.inl ⟨by rfl, fun w' hS' => by dsimp only at hS'; obtain ⟨q0, q1, q2⟩ := hS'; go_simp⟩) hS ?_
    try simp only [Act.put, List.setIfInBounds_toArray, List.set_cons_zero, List.set_cons_succ]
    refine takeZ5 (v := Value.int IntKind.i64 x) (by kernel_rfl) (by kernel_rfl) (by kernel_rfl) (by kernel_rfl) (fun _ _ _ h => h) (Or.inl ⟨by rfl, fun w' hS' => by dsimp only at hS'; obtain ⟨q0, q1, q2⟩ := hS'; go_simp⟩) hS ?_
    try simp only [Act.put, List.setIfInBounds_toArray, List.set_cons_zero, List.set_cons_succ]
    refine oneZ3 (by kernel_rfl) (fun K hK => ?_)
    go_simp
    go_wp2_with (go_at_call 53; refine (with_f HFd.out _ _).mono ?_; rintro e z1 ⟨v1, rfl, hv1, n1⟩)
    refine hK.out _ _ (Or.inr ⟨n1.cell hS.1, n1.cell hS.2.1, n1.cell hS.2.2⟩) ?_
    clear hK K
    try simp only [Act.put, List.setIfInBounds_toArray, List.set_cons_zero, List.set_cons_succ]
    refine oneZ6 (by kernel_rfl) (fun K hK => ?_)
    go_simp
    go_wp2_with (go_at_call 53; refine (with_f (HFd.out.near n1) _ _).mono ?_; rintro e z2 ⟨v2, rfl, hv2, n2⟩)
    have n2' := n1.trans n2
    refine hK.out _ _ (Or.inr ⟨n2'.cell hS.1, n2'.cell hS.2.1, n2'.cell hS.2.2⟩) ?_
    clear hK K
    try simp only [Act.put, List.setIfInBounds_toArray, List.set_cons_zero, List.set_cons_succ]
    refine oneZ7 (by kernel_rfl) (fun K hK => ?_)
    go_simp
    go_wp2_with (go_at_call 13; refine (and_f (hv1.near n2) hv2).mono ?_; rintro e z3 ⟨v3, rfl, hv3, n3⟩)
    have n3' := n2'.trans n3
    refine hK.out _ _ (Or.inr ⟨n3'.cell hS.1, n3'.cell hS.2.1, n3'.cell hS.2.2⟩) ?_
    clear hK K
    obtain ⟨y1, y2, y3, y4, rfl⟩ := hv3.form
    have N3 := (Near.refl W).drew.trans n3'
    have he3 := keepN N3 HE.out
    have e0 := cell1 (o := 0) he3 rfl
    have e1 := cell1 (o := 1) he3 rfl
    have ef := free1 he3
    try simp only [Act.put, List.setIfInBounds_toArray, List.set_cons_zero, List.set_cons_succ]
    refine oneZ8 (by kernel_rfl) (fun K hK => ?_)
    go_simp
    refine hK.out _ _ (Or.inl rfl) ?_
    refine wpAnyZ_done (by kernel_rfl) ?_
    exact each_step HZ0.out hsz1 HK.out N3 he3 hv3 (fun c => (qF_snoc _ _ _ _ _).symm) _ rfl
  case done =>
    rintro D xs W hD rfl ⟨u1, u2, u3, u4, he, hf, hk⟩ hDef
    have HK := Lib.hid hk
    have HF := Lib.hid hf
    have HD2 := Lib.hid hDef
    have hlt0 := hk.size
    have HR := Lib.hid ((hk.block (w.heap.size + 1 + 1) (by have := HZ0.out; omega) (by omega)).trans HRes.out)
    have c0 : W.cell? ⟨w.heap.size, 0, none⟩ = some (.slice u1 u2 u3) := cell1 (o := 0) he rfl
    have c1 : W.cell? ⟨w.heap.size, 1, none⟩ = some (.int .i64 u4) := cell1 (o := 1) he rfl
    have d0 := cell1 (o := 0) HR.out rfl
    have d1 := cell1 (o := 1) HR.out rfl
    have df := free1 HR.out
    clear hk hf hDef he
    gi_wp2
    have hk2 := Kept.setCell (Kept.setCell (S := fun b => b = w.heap.size + 1 + 1) (Kept.refl _ W) (p := ⟨w.heap.size + 1 + 1, 0, none⟩) (fun _ => rfl) (.slice u1 u2 u3)) (p := ⟨w.heap.size + 1 + 1, 1, none⟩) (fun _ => rfl) (.int .i64 u4)
    have hs := isF_store HF.out HR.out
    have q0 := cell1 (o := 0) (setCell_heap (setCell_heap HR.out 0 (.slice u1 u2 u3)) 1 (.int .i64 u4)) rfl
    have q1 := cell1 (o := 1) (setCell_heap (setCell_heap HR.out 0 (.slice u1 u2 u3)) 1 (.int .i64 u4)) rfl
    have hN : Near w ((W.setCell ⟨w.heap.size + 1 + 1, 0, none⟩ (.slice u1 u2 u3)).setCell ⟨w.heap.size + 1 + 1, 1, none⟩ (.int .i64 u4)) :=
      Kept.mono ((HN0.out.kept.trans (Kept.mono HK.out (fun _ _ h => Or.inl h))).trans (Kept.mono hk2 (fun _ _ h => Or.inr h))) (fun b hb h => by rcases h with h | h <;> omega)
    have hDf : ((W.setCell ⟨w.heap.size + 1 + 1, 0, none⟩ (.slice u1 u2 u3)).setCell ⟨w.heap.size + 1 + 1, 1, none⟩ (.int .i64 u4)).heap[D]? = some (.deferred (some [])) :=
      (hk2.block D (Array.getElem?_eq_some_iff.1 HD2.out).1 (by have := HZ0.out; omega)).trans HD2.out
    generalize (W.setCell ⟨w.heap.size + 1 + 1, 0, none⟩ (.slice u1 u2 u3)).setCell ⟨w.heap.size + 1 + 1, 1, none⟩ (.int .i64 u4) = W2 at *
    refine ⟨by simp, .inl ⟨_, _, rfl, run_takeDeferred hDf, ?_⟩⟩
    have hk3 := kept_putObj W2 D (Obj.deferred none)
    have hs3 := hs.past hk3 (fun r e => ⟨.deferred (some []), (congrArg (fun b => W2.heap[b]?) e).trans hDf, rfl⟩)
    have hsz3 := HN0.out.size'
    have hN3 : Near w (W2.putObj D (Obj.deferred none)) := Kept.mono (hN.kept.trans hk3) (fun b hb h => by have := HZ0.out; omega)
    have r0 := hk3.cell q0 (by have := HZ0.out; show ¬ (w.heap.size + 1 + 1 = D); omega)
    have r1 := hk3.cell q1 (by have := HZ0.out; show ¬ (w.heap.size + 1 + 1 = D); omega)
    generalize W2.putObj D (Obj.deferred none) = W3 at *
    refine ⟨.agg #[.slice u1 u2 u3, .int .i64 u4], ?_, _, rfl, hs3, hN3⟩
    simp [results, Tryz.results88, go_sem, r0, r1]
  case stop =>
    rintro D c pre W _ _ h _
    exact h.elim

end Go.Proofs.YtefclohjeompkaaGreat

/- Exi: what is needed of it. -/
namespace Go.Proofs.YtefclohjeompkaaGreat
open Go Go.RowKit Go.Shelf Go.Proofs.Gen Go.Proofs.Bdd Go.Proofs.Bdd.T
attribute [local go_sem] Oper.semAt_some
theorem dep_false {f : F} {i : Nat} (h : dep f i = false) (c : Nat → Bool) (b : Bool) : f (updI c i b) = f c := by
  have h1 : ∀ c, f (upd c i true) = f (upd c i false) := fun c => by
    refine Classical.byContradiction fun hne => ?_
    rw [dep_true.2 ⟨c, hne⟩] at h
    cases h
  have h2 : updI c i b = upd c i b := by
    funext j
    unfold updI upd
    by_cases e : j = i
    · simp [e]
    · simp [e, show ¬ ((j : Int) = i) by omega]
  have h3 : c = upd c i (c i) := by
    funext j
    unfold upd
    by_cases e : j = i <;> simp [e]
  have h4 : ∀ a b, f (upd c i a) = f (upd c i b) := fun a b => by cases a <;> cases b <;> simp [h1 c]
  rw [h2]
  exact (h4 b (c i)).trans (congrArg f h3.symm)

/-- Features outside the support need no quantifying. -/
theorem qF_skip {op : Bool → Bool → Bool} (hop : ∀ b, op b b = b) (p : Nat → Bool) : ∀ (xs : List Nat) (f : F), (∀ i c b, p i = false → f (updI c i b) = f c) → qF op (xs.filter p) f = qF op xs f
  | [], _, _ => rfl
  | i :: xs, f, h => by
    have hs : ∀ (j : Nat) (c : Nat → Bool) (b : Bool), p j = false → (fun c => op (f (updI c i false)) (f (updI c i true))) (updI c j b) = (fun c => op (f (updI c i false)) (f (updI c i true))) c := fun j c b hj => by
      by_cases e : i = j
      · subst e
        show op (f _) (f _) = op (f _) (f _)
        simp only [h i _ _ hj]
      · have hc : ∀ a, updI (updI c j b) i a = updI (updI c i a) j b := fun a => by
          funext k
          unfold updI
          by_cases e1 : (k : Int) = i
          · simp [e1, show ¬ ((i : Int) = j) by omega]
          · simp [e1]
        show op (f _) (f _) = op (f _) (f _)
        rw [hc, hc, h j _ _ hj, h j _ _ hj]
    have ih := qF_skip hop p xs (fun c => op (f (updI c i false)) (f (updI c i true))) hs
    by_cases e : p i = true
    · rw [List.filter_cons_of_pos e]
      exact ih
    · have e' : p i = false := by simpa using e
      rw [List.filter_cons_of_neg e]
      have hf : (fun c => op (f (updI c i false)) (f (updI c i true))) = f := by
        funext c
        rw [h i _ _ e', h i _ _ e', hop]
      show qF op (xs.filter p) f = qF op xs (fun c => op (f (updI c i false)) (f (updI c i true)))
      rw [hf]
      exact qF_skip hop p xs f h

theorem qF_supp {op : Bool → Bool → Bool} (hop : ∀ b, op b b = b) {t : T} (ok : t.Ok) (m : Nat) : qF op (feats (m &&& sup (nodes t))) t.ev = qF op (feats m) t.ev := by
  have he : feats (m &&& sup (nodes t)) = (feats m).filter (fun i => dep t.ev i) := by
    unfold feats featsTo
    rw [List.filter_filter]
    refine List.filter_congr fun i _ => ?_
    rw [Nat.testBit_and, sup_dep ok, Bool.and_comm]
  rw [he]
  exact qF_skip hop _ _ _ (fun i c b h => dep_false h c b)

set_option maxRecDepth 100000 in
set_option maxHeartbeats 1600000 in
theorem exists_f {w : World} {v : Value} {f : F} (h : IsF w v f) {m : Nat} (hm : m < 4294967296) :
    Calls Tryz.prog 54 #[v, .int .u32 m] w (FPost w (qF (fun x y => x || y) (feats m) f)) := by
  obtain ⟨t, hD, he⟩ := h
  have hef : f = t.ev := by
    funext c
    exact (he c).symm
  subst hef
  have HE := Lib.hid (qF_supp (op := fun x y => x || y) (fun b => by cases b <;> rfl) hD.1 m)
  obtain ⟨ao, k, cap, rfl, -⟩ := hD.form
  have hc := each_or (hD.near (((Near.refl w).alloc (.cells #[.slice ao k cap, .int .i64 (pl (nodes t) t : Nat)] 34)).alloc (.cells #[.slice none 0 0, .int .i64 0] 34))) hm
  have HC := Lib.hid hc
  clear hc hD he
  go_enter Tryz.func54, Tryz.ntmps54
  go_wp2_with (go_at_call 88; refine HC.out.mono ?_; rintro e w1 ⟨v1, rfl, h1, n1⟩; obtain ⟨y1, y2, y3, y4, rfl⟩ := h1.form; have hr := keepN n1 (k := w.heap.size + 1) (o := .cells #[.slice none 0 0, .int .i64 0] 34) (heap_new_at (by simp)); have d0 := cell1 (o := 0) hr rfl; have d1 := cell1 (o := 1) hr rfl; have df := free1 hr)
  have q0 := cell1 (o := 0) (setCell_heap (setCell_heap hr 0 (.slice y1 y2 y3)) 1 (.int .i64 y4)) rfl
  have q1 := cell1 (o := 1) (setCell_heap (setCell_heap hr 0 (.slice y1 y2 y3)) 1 (.int .i64 y4)) rfl
  refine bodyPost_ret (v := .agg #[.slice y1 y2 y3, .int .i64 y4]) (by simp [results, Tryz.results54, go_sem, q0, q1]) rfl ⟨_, rfl, (isF_store h1 hr).congr fun c => congrFun HE.out c, ?_⟩
  exact ((((((Near.refl w).alloc _).alloc _).trans n1).set (by show w.heap.size ≤ w.heap.size + 1; omega) _).set (by show w.heap.size ≤ w.heap.size + 1; omega) _)

set_option maxRecDepth 100000 in
set_option maxHeartbeats 1600000 in
theorem forall_f {w : World} {v : Value} {f : F} (h : IsF w v f) {m : Nat} (hm : m < 4294967296) :
    Calls Tryz.prog 55 #[v, .int .u32 m] w (FPost w (qF (fun x y => x && y) (feats m) f)) := by
  obtain ⟨t, hD, he⟩ := h
  have hef : f = t.ev := by
    funext c
    exact (he c).symm
  subst hef
  have HE := Lib.hid (qF_supp (op := fun x y => x && y) (fun b => by cases b <;> rfl) hD.1 m)
  obtain ⟨ao, k, cap, rfl, -⟩ := hD.form
  have hc := each_and (hD.near (((Near.refl w).alloc (.cells #[.slice ao k cap, .int .i64 (pl (nodes t) t : Nat)] 34)).alloc (.cells #[.slice none 0 0, .int .i64 0] 34))) hm
  have HC := Lib.hid hc
  clear hc hD he
  go_enter Tryz.func55, Tryz.ntmps55
  go_wp2_with (go_at_call 88; refine HC.out.mono ?_; rintro e w1 ⟨v1, rfl, h1, n1⟩; obtain ⟨y1, y2, y3, y4, rfl⟩ := h1.form; have hr := keepN n1 (k := w.heap.size + 1) (o := .cells #[.slice none 0 0, .int .i64 0] 34) (heap_new_at (by simp)); have d0 := cell1 (o := 0) hr rfl; have d1 := cell1 (o := 1) hr rfl; have df := free1 hr)
  have q0 := cell1 (o := 0) (setCell_heap (setCell_heap hr 0 (.slice y1 y2 y3)) 1 (.int .i64 y4)) rfl
  have q1 := cell1 (o := 1) (setCell_heap (setCell_heap hr 0 (.slice y1 y2 y3)) 1 (.int .i64 y4)) rfl
  refine bodyPost_ret (v := .agg #[.slice y1 y2 y3, .int .i64 y4]) (by simp [results, Tryz.results55, go_sem, q0, q1]) rfl ⟨_, rfl, (isF_store h1 hr).congr fun c => congrFun HE.out c, ?_⟩
  exact ((((((Near.refl w).alloc _).alloc _).trans n1).set (by show w.heap.size ≤ w.heap.size + 1; omega) _).set (by show w.heap.size ≤ w.heap.size + 1; omega) _)

end Go.Proofs.YtefclohjeompkaaGreat

/- OpA: what is needed of it. -/
namespace Go.Proofs.Gen
open Go Go.RowKit
open Go.ChangeMaps Go.MapKept
section
variable {P : Program} {w : World}
theorem step_append_more {ops : Array Oper} {o : Oper} {a : Act} {K : Act → World → Prop} {Q : Exit → Act → World → Prop} {E : Prop}
    (hg : o.guard = none) (s x : Operand) (t : TypeId) (hop : o.op = Op.call { callee := Callee.builtin Builtin.append, args := #[s, x], argTypes := #[t, t] })
    (base : Nat) (e : TypeId) (i : TypeInfo) (z : Value) (size bytes : Nat) (ht : P.underlying t = some (.slice e)) (hi : P.info? e = some i) (hz : i.zero = some z)
    (hsize : i.size = size) (hby : i.bytes = bytes) (hzs : z.cells.size = size) (hsz : 0 < size)
    (v : Value) (n : Nat) (xs : List Value) (hs : a.eval s = v) (hown : w.ownsRow base e size v n xs)
    (vx : Value) (m : Nat) (news : List Value) (hx : a.eval x = vx) (hy : SrcOf w size m vx news) (h1 : ∀ u ∈ news, u.oneCell' = true)
    (h63 : n + m ≤ maxLen) (hbytes : (n + m) * bytes ≤ 140737488355328) (hbase : base ≤ w.heap.size)
    (hK : ∀ ao cap w', w'.ownsRow base e size (.slice ao (n + m) cap) (n + m) (xs ++ news) → w.grownBy w' v.ownBlock → K (a.put o.dst (.slice ao (n + m) cap)) w') :
    if Region.wanted o (yielded ops a.tmps) = true then Oper.wp P o a w K Q else E := by
  have hw : Region.wanted o (yielded ops a.tmps) = true := by simp [Region.wanted, hg]
  rw [if_pos hw]
  obtain ⟨hl, ⟨rfl, rfl⟩ | ⟨ad, c, rfl, hc⟩⟩ := hy
  · have hn : news = [] := List.eq_nil_of_length_eq_zero (by simpa using hl)
    subst hn
    have hr := run_append_owned_none w base t o.type e i size ht hi v n xs hown
    obtain ⟨ao, cap, rfl⟩ := owns_form hown
    unfold Oper.wp execOp
    simp only [hop, resolve, invoke, builtin, Sem.run_bind, Sem.run_pure, Result.andThen_ok, List.map_toArray, List.map_cons, List.map_nil, hs, hx, hr]
    exact hK ao cap w (by simpa using hown) ⟨rfl, rfl, rfl, Nat.le_refl _, fun _ _ _ => rfl⟩
  · obtain ⟨v', w', hr, h2, h3, _, _⟩ := run_append_own_at (P := P) w base t o.type e i z size bytes ht hi hz hsize hby hzs hsz v n xs hown ad m c news hl hc h1 h63 hbytes hbase
    obtain ⟨ao, cap, rfl⟩ := owns_form h2
    unfold Oper.wp execOp
    simp only [hop, resolve, invoke, builtin, Sem.run_bind, Sem.run_pure, Result.andThen_ok, List.map_toArray, List.map_cons, List.map_nil, hs, hx, hr]
    exact hK ao cap w' h2 h3

end
end Go.Proofs.Gen
namespace Go.Proofs.YtefclohjeompkaaGreat
open Go Go.RowKit Go.Proofs.Gen Go.Proofs.Bdd Go.Proofs.Bdd.T
theorem info2 : (Tryz.prog.info? 2).map (fun i => (i.zero, i.size, i.bytes)) = some (some (.int .i64 0), 1, 8) := by kernel_rfl

theorem RdInts.yields {w : World} {v : Value} {l : List Int} (h : RdInts w v l) (hnil : ∀ cap, v = .slice none 0 cap → cap = 0) : SrcOf w 1 l.length v (l.map fun x => .int .i64 x) := by
  refine ⟨by simp, ?_⟩
  obtain ⟨ao, cap, rfl, hc⟩ := id h
  cases l with
  | nil =>
    cases ao with
    | none => exact .inl ⟨by rw [List.length_nil, hnil cap rfl], rfl⟩
    | some ad => exact .inr ⟨ad, cap, rfl, fun j u hj => by simp at hj⟩
  | cons x l =>
    obtain ⟨ad, rfl, hs⟩ := h.copyable (by simp)
    exact .inr ⟨ad, cap, rfl, hs⟩

theorem RdInts.owns {w : World} {base : Nat} {v : Value} {l : List Int} (h : w.ownsRow base 2 1 v l.length (l.map fun x => .int .i64 x)) : RdInts w v l := by
  obtain ⟨ao, cap, rfl⟩ := owns_form h
  refine ⟨ao, cap, rfl, fun k x hk => ?_⟩
  have hlt : k < l.length := (List.getElem?_eq_some_iff.1 hk).1
  cases ao with
  | none =>
    rcases h.2 with ⟨e, _⟩ | ⟨g, cp, cur, e, _⟩
    · simp only [Value.slice.injEq] at e
      omega
    · cases e
  | some ad =>
    rcases h.2 with ⟨e, _⟩ | ⟨g, cp, cur, e, _, hg, _, _, hs, ht⟩
    · cases e
    · cases e
      have hj : (l.map fun x => Value.int .i64 x)[k]? = some (.int .i64 x) := by rw [List.getElem?_map, hk]; rfl
      refine ⟨g, 0, rfl, ?_⟩
      rw [← ht, List.getElem?_take, if_pos (by omega)] at hj
      simp only [World.cell?, hg, Nat.zero_add]
      simpa using hj

/-- An operation of a script. -/
structure SOp where
  op : Nat
  rel : Nat
  a : Nat
  b : Nat
  c : Nat
  i : Int
  j : Int
  on : Bool
  f : Nat
  g : Nat
  lv : Value
  ls : List Int
  bound : Int

/-- Its cells. -/
def SOp.cells (x : SOp) : List Value := [.int .u8 x.op, .int .u8 x.rel, .int .u8 x.a, .int .u8 x.b, .int .u8 x.c, .int .i64 x.i, .int .i64 x.j, .bool x.on, .int .u32 x.f, .int .u32 x.g, x.lv, .int .i64 x.bound]

/-- Its list is read; its numbers are in their ranges. -/
structure SOpOk (w : World) (x : SOp) : Prop where
  list : RdInts w x.lv x.ls
  nil : ∀ cap, x.lv = .slice none 0 cap → cap = 0
  f : x.f < 4294967296
  g : x.g < 4294967296
  op : x.op < 256
  a : x.a < 256
  b : x.b < 256
  c : x.c < 256

theorem SOpOk.near {w w' : World} {x : SOp} (h : SOpOk w x) (hn : Near w w') : SOpOk w' x := ⟨h.list.near hn, h.nil, h.f, h.g, h.op, h.a, h.b, h.c⟩

/-- What is made: a set, by its function; an error. -/
def opF (x : SOp) (fs : List F) : F :=
  let n := fs.length
  let a := fs.getD (x.a % n) fun _ => false
  let b := fs.getD (x.b % n) fun _ => false
  let c := fs.getD (x.c % n) fun _ => false
  match x.op with
  | 1 => fun _ => true
  | 2 => fun s => if 0 ≤ x.i ∧ x.i < 24 then s x.i.toNat else false
  | 3 => cubeF x.f x.g
  | 4 => fun s => !a s
  | 5 => fun s => a s && b s
  | 6 => fun s => a s || b s
  | 7 => fun s => a s != b s
  | 8 => fun s => if a s then b s else c s
  | 9 => fun s => a (updI s x.i x.on)
  | 10 => qF (fun p q => p || q) (feats x.f) a
  | 11 => qF (fun p q => p && q) (feats x.f) a
  | 12 => betF x.f x.i x.j
  | 13 => if LinOk x.ls x.rel then linF x.ls x.rel x.bound else fun _ => false
  | 14 => allF fs
  | 15 => anyF fs
  | _ => fun _ => false

def opN (x : SOp) : Int :=
  match x.op with
  | 2 => if 0 ≤ x.i ∧ x.i < 24 then 0 else 3
  | 13 => if LinOk x.ls x.rel then 0 else 2
  | _ => 0

theorem opN_else {x : SOp} (h : x.op = 0 ∨ 16 ≤ x.op) : opN x = 0 := by
  unfold opN
  split <;> first | rfl | omega

theorem opF_else {x : SOp} (fs : List F) (h : x.op = 0 ∨ 16 ≤ x.op) : opF x fs = fun _ => false := by
  unfold opF
  simp only
  split <;> first | rfl | omega

def OnePost (w : World) (x : SOp) (fs : List F) (e : Ending) (w' : World) : Prop :=
  ∃ v, e = .returned (.tuple #[v, .int .i64 (opN x)]) ∧ IsF w' v (opF x fs) ∧ Near w w'

end Go.Proofs.YtefclohjeompkaaGreat

/- OpB: what is needed of it. -/
namespace Go.Proofs.YtefclohjeompkaaGreat
open Go Go.RowKit Go.Proofs.Gen Go.Proofs.Bdd Go.Proofs.Bdd.T
/-- The three sets of an operation lie in boxes of their own. -/
def Three (W : World) (u0 u1 v0 v1 x0 x1 : Value) (p q r : Value) (w : World) : Prop :=
  ∃ a b c, p = .pointer (some ⟨a, 0, none⟩) ∧ q = .pointer (some ⟨b, 0, none⟩) ∧ r = .pointer (some ⟨c, 0, none⟩) ∧ W.heap.size ≤ a ∧ W.heap.size ≤ b ∧ W.heap.size ≤ c ∧
    w.heap[a]? = some (.cells #[u0, u1] 34 (0, 0)) ∧ w.heap[b]? = some (.cells #[v0, v1] 34 (0, 0)) ∧ w.heap[c]? = some (.cells #[x0, x1] 34 (0, 0)) ∧ Near W w

theorem Sets.at {e : TypeId} {Is : World → Value → F → Prop} {b : Nat} {w : World} {x : Value} {fs : List F} (h : Sets e Is b w x fs) {k : Nat} (h0 : 0 < fs.length) :
    ∃ g cap u v j, j = k % fs.length ∧ (k : Int).tmod (fs.length : Int) = (j : Int) ∧ j < fs.length ∧ x = .slice (some ⟨g, 0, none⟩) fs.length cap ∧ w.cell? ⟨g, j * 2, none⟩ = some u ∧ w.cell? ⟨g, j * 2 + 1, none⟩ = some v ∧ Is w (.agg #[u, v]) (fs.getD (k % fs.length) fun _ => false) := by
  have hj : k % fs.length < fs.length := Nat.mod_lt _ h0
  obtain ⟨g, cap, u, v, hx, -, -, h1, h2, h3⟩ := h.get (List.getElem?_eq_getElem hj)
  refine ⟨g, cap, u, v, _, rfl, rfl, hj, hx, h1, h2, ?_⟩
  rw [List.getD_eq_getElem?_getD, List.getElem?_eq_getElem hj]
  exact h3

set_option maxRecDepth 100000 in
set_option maxHeartbeats 6400000 in
theorem one_calls {w : World} {x : SOp} {base : Nat} {sv : Value} {fs : List F} (hx : SOpOk w x) (hl40 : x.ls.length ≤ 40) (hs : Sets 34 IsF base w sv fs) (h0 : 0 < fs.length) (hn : fs.length < 1048576) :
    Calls Tryz.prog 21 #[.agg x.cells.toArray, sv] w (OnePost w x fs) := by
  obtain ⟨gg, cap, a0, a1, ja, -, ea, hja, rfl, ca0, ca1, ia⟩ := hs.at (k := x.a) h0
  obtain ⟨gg', cap', b0, b1, jb, -, eb, hjb, e, cb0, cb1, ib⟩ := hs.at (k := x.b) h0
  cases e
  obtain ⟨gg', cap', c0, c1, jc, -, ec, hjc, e, cc0, cc1, ic⟩ := hs.at (k := x.c) h0
  cases e
  obtain ⟨xop, xrel, xa, xb, xc, xi, xj, xon, xf, xg, xlv, xls, xbound⟩ := x
  simp only [SOp.cells] at *
  have hla : (xa : Int) < 256 := by have := hx.a; simp only at this; omega
  have hlb : (xb : Int) < 256 := by have := hx.b; simp only at this; omega
  have hlc : (xc : Int) < 256 := by have := hx.c; simp only at this; omega
  have hlo : xop < 256 := hx.op
  have wra : IntKind.i64.wrap (xa : Int) = xa := IntWalk.i64_in _ (by omega)
  have wrb : IntKind.i64.wrap (xb : Int) = xb := IntWalk.i64_in _ (by omega)
  have wrc : IntKind.i64.wrap (xc : Int) = xc := IntWalk.i64_in _ (by omega)
  have HX := Lib.hid hx
  have HS := Lib.hid hs
  have HIA := Lib.hid ia
  have HIB := Lib.hid ib
  have HIC := Lib.hid ic
  clear hx hs ia ib ic
  obtain ⟨n, hnl⟩ : ∃ n, fs.length = n := ⟨_, rfl⟩
  rw [hnl] at h0 hn hja hjb hjc ea eb ec HS ⊢
  have HNL := Lib.hid hnl
  clear hnl
  have hpa : (0 : Int) ≤ ja := by omega
  have hpb : (0 : Int) ≤ jb := by omega
  have hpc : (0 : Int) ≤ jc := by omega
  have hja' : (ja : Int) < n := by omega
  have hjb' : (jb : Int) < n := by omega
  have hjc' : (jc : Int) < n := by omega
  have hne : ¬ ((n : Int) = 0) := by omega
  have hne' : ¬ (n = 0) := by omega
  obtain ⟨a2, a3, a4, a5, ea0⟩ := HIA.out.form
  obtain ⟨b2, b3, b4, b5, eb0⟩ := HIB.out.form
  obtain ⟨c2, c3, c4, c5, ec0⟩ := HIC.out.form
  simp only [Value.agg.injEq, Array.mk.injEq, List.cons.injEq, and_true] at ea0 eb0 ec0
  obtain ⟨rfl, rfl⟩ := ea0
  obtain ⟨rfl, rfl⟩ := eb0
  obtain ⟨rfl, rfl⟩ := ec0
  go_enter Tryz.func21, Tryz.ntmps21
  go_upto_region 1 with fail
  have hbx : ((w.alloc (.cells #[.int .u8 xop, .int .u8 xrel, .int .u8 xa, .int .u8 xb, .int .u8 xc, .int .i64 xi, .int .i64 xj, .bool xon, .int .u32 xf, .int .u32 xg, xlv, .int .i64 xbound] 58)).alloc (.cells #[.slice none 0 0, .int .i64 0] 34)).heap[w.heap.size]? = some (.cells #[.int .u8 xop, .int .u8 xrel, .int .u8 xa, .int .u8 xb, .int .u8 xc, .int .i64 xi, .int .i64 xj, .bool xon, .int .u32 xf, .int .u32 xg, xlv, .int .i64 xbound] 58 (0, 0)) := keepN ((Near.refl _).alloc _) (heap_new_at rfl)
  have hrs : ((w.alloc (.cells #[.int .u8 xop, .int .u8 xrel, .int .u8 xa, .int .u8 xb, .int .u8 xc, .int .i64 xi, .int .i64 xj, .bool xon, .int .u32 xf, .int .u32 xg, xlv, .int .i64 xbound] 58)).alloc (.cells #[.slice none 0 0, .int .i64 0] 34)).heap[w.heap.size + 1]? = some (.cells #[.slice none 0 0, .int .i64 0] 34 (0, 0)) := heap_new_at (by simp)
  have hn0 : Near w ((w.alloc (.cells #[.int .u8 xop, .int .u8 xrel, .int .u8 xa, .int .u8 xb, .int .u8 xc, .int .i64 xi, .int .i64 xj, .bool xon, .int .u32 xf, .int .u32 xg, xlv, .int .i64 xbound] 58)).alloc (.cells #[.slice none 0 0, .int .i64 0] 34)) := ((Near.refl w).alloc _).alloc _
  generalize hW : ((w.alloc _).alloc _) = W at hbx hrs hn0 ⊢
  clear hW
  have HBX := Lib.hid hbx
  have HRS := Lib.hid hrs
  have HN0 := Lib.hid hn0
  replace ca0 := hn0.cell ca0
  replace ca1 := hn0.cell ca1
  replace cb0 := hn0.cell cb0
  replace cb1 := hn0.cell cb1
  replace cc0 := hn0.cell cc0
  replace cc1 := hn0.cell cc1
  have x2 : W.cell? ⟨w.heap.size, 2, none⟩ = some (.int .u8 xa) := cell1 (o := 2) hbx rfl
  have x3 : W.cell? ⟨w.heap.size, 3, none⟩ = some (.int .u8 xb) := cell1 (o := 3) hbx rfl
  have x4 : W.cell? ⟨w.heap.size, 4, none⟩ = some (.int .u8 xc) := cell1 (o := 4) hbx rfl
  clear hbx hrs hn0
  have HSK := Lib.hid (show ∀ w', Near W w' → w'.cell? ⟨w.heap.size, 2, none⟩ = some (.int .u8 xa) ∧ w'.cell? ⟨w.heap.size, 3, none⟩ = some (.int .u8 xb) ∧ w'.cell? ⟨w.heap.size, 4, none⟩ = some (.int .u8 xc) ∧
        w'.cell? ⟨gg, ja * 2, none⟩ = some (.slice a2 a3 a4) ∧ w'.cell? ⟨gg, ja * 2 + 1, none⟩ = some (.int .i64 a5) ∧ w'.cell? ⟨gg, jb * 2, none⟩ = some (.slice b2 b3 b4) ∧ w'.cell? ⟨gg, jb * 2 + 1, none⟩ = some (.int .i64 b5) ∧
        w'.cell? ⟨gg, jc * 2, none⟩ = some (.slice c2 c3 c4) ∧ w'.cell? ⟨gg, jc * 2 + 1, none⟩ = some (.int .i64 c5) from fun w' h => ⟨h.cell x2, h.cell x3, h.cell x4, h.cell ca0, h.cell ca1, h.cell cb0, h.cell cb1, h.cell cc0, h.cell cc1⟩)
  go_cut [6, 7, 8] (fun s6 s7 s8 wx => Three W (.slice a2 a3 a4) (.int .i64 a5) (.slice b2 b3 b4) (.int .i64 b5) (.slice c2 c3 c4) (.int .i64 c5) s6 s7 s8 wx)
  case first =>
    go_region_held3 (fun w' => w'.cell? ⟨w.heap.size, 2, none⟩ = some (.int .u8 xa) ∧ w'.cell? ⟨w.heap.size, 3, none⟩ = some (.int .u8 xb) ∧ w'.cell? ⟨w.heap.size, 4, none⟩ = some (.int .u8 xc) ∧
        w'.cell? ⟨gg, ja * 2, none⟩ = some (.slice a2 a3 a4) ∧ w'.cell? ⟨gg, ja * 2 + 1, none⟩ = some (.int .i64 a5) ∧ w'.cell? ⟨gg, jb * 2, none⟩ = some (.slice b2 b3 b4) ∧ w'.cell? ⟨gg, jb * 2 + 1, none⟩ = some (.int .i64 b5) ∧
        w'.cell? ⟨gg, jc * 2, none⟩ = some (.slice c2 c3 c4) ∧ w'.cell? ⟨gg, jc * 2 + 1, none⟩ = some (.int .i64 c5))
      (first
        | exact ⟨x2, x3, x4, ca0, ca1, cb0, cb1, cc0, cc1⟩
        | exact HSK.out _ (by repeat (first | exact Near.refl _ | refine Near.drew ?_ | refine Near.alloc ?_ _)))
      (fail)
    all_goals
      go_wp2_with fail
      go_meet
      refine ⟨_, _, _, rfl, rfl, rfl, ?_, ?_, ?_, ?_, ?_, ?_, ?_⟩
    all_goals first
      | exact Nat.le_refl _
      | omega
      | exact ((((Near.refl W).alloc _).alloc _).alloc _).drew
      | exact heap_new_at (w := World.alloc _ _) (by simp; done)
      | (change (World.heap (World.alloc (World.alloc (World.alloc W _) _) _))[_]? = _; repeat (first | exact heap_new_at (by simp; done) | refine (heap_old_at (by simp <;> omega)).trans ?_))
  case rest =>
    obtain ⟨pa, pb, pc, rfl, rfl, rfl, -, -, -, hA, hB, hC, hN⟩ := hcut
    have hx := keepN hN HBX.out
    have hr := keepN hN HRS.out
    have HNW := Lib.hid (HN0.out.trans hN)
    have HR := Lib.hid hr
    have kA0 := cell1 (o := 0) hA rfl
    have kA1 := cell1 (o := 1) hA rfl
    have kB0 := cell1 (o := 0) hB rfl
    have kB1 := cell1 (o := 1) hB rfl
    have kC0 := cell1 (o := 0) hC rfl
    have kC1 := cell1 (o := 1) hC rfl
    have HCX := Lib.hid hx
    have hf := HX.out.f
    have hg := HX.out.g
    simp only at hf hg
    clear hx hr hA hB hC hN ca0 ca1 cb0 cb1 cc0 cc1 x2 x3 x4 HSK HBX HRS ea eb ec hja hjb hjc hpa hpb hpc hja' hjb' hjc' hne hne' wra wrb wrc hla hlb hlc
    rcases (show xop = 1 ∨ xop = 2 ∨ xop = 3 ∨ xop = 4 ∨ xop = 5 ∨ xop = 6 ∨ xop = 7 ∨ xop = 8 ∨ xop = 9 ∨ xop = 10 ∨ xop = 11 ∨ xop = 12 ∨ xop = 13 ∨ xop = 14 ∨ xop = 15 ∨ (xop = 0 ∨ 16 ≤ xop) by omega) with rfl | rfl | rfl | rfl | rfl | rfl | rfl | rfl | rfl | rfl | rfl | rfl | rfl | rfl | rfl | hbig
    · have x0 : wc.cell? ⟨w.heap.size, 0, none⟩ = some (.int .u8 1) := cell1 (o := 0) HCX.out rfl
      go_wp2_with (go_at_call 49; refine (true_f _).mono ?_; rintro e w5 ⟨v5, rfl, d5, n5⟩; obtain ⟨r1, r2, r3, r4, rfl⟩ := d5.form; have hr5 := keepN n5 HR.out; have z0 := cell1 (o := 0) hr5 rfl; have z1 := cell1 (o := 1) hr5 rfl; have zf := free1 hr5; have HR5 := Lib.hid hr5; have HD5 := Lib.hid d5; have HN5 := Lib.hid n5; clear hr5 d5 n5)
      have hw5 := setCell_heap (setCell_heap HR5.out 0 (.slice r1 r2 r3)) 1 (.int .i64 r4)
      simp only [List.setIfInBounds_toArray, List.set_cons_zero, List.set_cons_succ] at hw5
      have y0 := cell1 (o := 0) hw5 rfl
      have y1 := cell1 (o := 1) hw5 rfl
      exact bodyPost_ret (v := .tuple #[.agg #[.slice r1 r2 r3, .int .i64 r4], .int .i64 (0)]) (by simp [results, Tryz.results21, go_sem, y0, y1]) rfl ⟨_, rfl, isF_store HD5.out HR5.out, ((HNW.out.trans HN5.out).set (by show w.heap.size ≤ w.heap.size + 1; omega) _).set (by show w.heap.size ≤ w.heap.size + 1; omega) _⟩
    · have x0 : wc.cell? ⟨w.heap.size, 0, none⟩ = some (.int .u8 2) := cell1 (o := 0) HCX.out rfl
      have x5 : wc.cell? ⟨w.heap.size, 5, none⟩ = some (.int .i64 xi) := cell1 (o := 5) HCX.out rfl
      by_cases hi : 0 ≤ xi ∧ xi < 24
      · have HI := Lib.hid hi
        obtain ⟨m, rfl⟩ : ∃ m : Nat, xi = m := ⟨xi.toNat, by omega⟩
        have hm : m < 24 := by omega
        clear hi
        have EN := Lib.hid (show opN ⟨2, xrel, xa, xb, xc, (m : Int), xj, xon, xf, xg, xlv, xls, xbound⟩ = 0 from if_pos HI.out)
        go_wp2_with (go_at_call 12; refine (var_in m hm _).mono ?_; rintro e w5 ⟨v5, rfl, d, n5⟩; have d5 : IsF w5 v5 (fun s => s m) := ⟨_, d, fun c => by simp [T.ev]⟩; clear d; obtain ⟨r1, r2, r3, r4, rfl⟩ := d5.form; have hr5 := keepN n5 HR.out; have z0 := cell1 (o := 0) hr5 rfl; have z1 := cell1 (o := 1) hr5 rfl; have zf := free1 hr5; have HR5 := Lib.hid hr5; have HD5 := Lib.hid d5; have HN5 := Lib.hid n5; clear hr5 d5 n5)
        have hw5 := setCell_heap (setCell_heap HR5.out 0 (.slice r1 r2 r3)) 1 (.int .i64 r4)
        simp only [List.setIfInBounds_toArray, List.set_cons_zero, List.set_cons_succ] at hw5
        have y0 := cell1 (o := 0) hw5 rfl
        have y1 := cell1 (o := 1) hw5 rfl
        exact bodyPost_ret (v := .tuple #[.agg #[.slice r1 r2 r3, .int .i64 r4], .int .i64 (0)]) (by simp [results, Tryz.results21, go_sem, y0, y1]) rfl ⟨_, by rw [EN.out], (isF_store HD5.out HR5.out).congr (fun c => (if_pos HI.out).symm), ((HNW.out.trans HN5.out).set (by show w.heap.size ≤ w.heap.size + 1; omega) _).set (by show w.heap.size ≤ w.heap.size + 1; omega) _⟩
      · have HI := Lib.hid hi
        have hi' : xi < 0 ∨ 23 < xi := by omega
        clear hi
        have HO := Lib.hid hi'
        clear hi'
        have EN := Lib.hid (show opN ⟨2, xrel, xa, xb, xc, xi, xj, xon, xf, xg, xlv, xls, xbound⟩ = 3 from if_neg HI.out)
        go_wp2_with (go_at_call 12; refine (var_out xi HO.out _).mono ?_; rintro e w5 ⟨rfl, n5⟩; have d5 : IsF w5 (.agg #[.slice none 0 0, .int .i64 0]) (fun _ => false) := ⟨.leaf false, ⟨trivial, .slice none 0 0, rfl, World.ownsRow_nil _ _ _ _⟩, fun _ => rfl⟩; have hr5 := keepN n5 HR.out; have z0 := cell1 (o := 0) hr5 rfl; have z1 := cell1 (o := 1) hr5 rfl; have zf := free1 hr5; have HR5 := Lib.hid hr5; have HD5 := Lib.hid d5; have HN5 := Lib.hid n5; clear hr5 d5 n5)
        have hw5 := setCell_heap (setCell_heap HR5.out 0 (.slice none 0 0)) 1 (.int .i64 0)
        simp only [List.setIfInBounds_toArray, List.set_cons_zero, List.set_cons_succ] at hw5
        have y0 := cell1 (o := 0) hw5 rfl
        have y1 := cell1 (o := 1) hw5 rfl
        exact bodyPost_ret (v := .tuple #[.agg #[.slice none 0 0, .int .i64 0], .int .i64 (3)]) (by simp [results, Tryz.results21, go_sem, y0, y1]) rfl ⟨_, by rw [EN.out], (isF_store HD5.out HR5.out).congr (fun c => (if_neg HI.out).symm), ((HNW.out.trans HN5.out).set (by show w.heap.size ≤ w.heap.size + 1; omega) _).set (by show w.heap.size ≤ w.heap.size + 1; omega) _⟩
    · have x0 : wc.cell? ⟨w.heap.size, 0, none⟩ = some (.int .u8 3) := cell1 (o := 0) HCX.out rfl
      have x8 : wc.cell? ⟨w.heap.size, 8, none⟩ = some (.int .u32 xf) := cell1 (o := 8) HCX.out rfl
      have x9 : wc.cell? ⟨w.heap.size, 9, none⟩ = some (.int .u32 xg) := cell1 (o := 9) HCX.out rfl
      go_wp2_with (go_at_call 50; refine (cube_f hf hg _).mono ?_; rintro e w5 ⟨v5, rfl, d5, n5⟩; obtain ⟨r1, r2, r3, r4, rfl⟩ := d5.form; have hr5 := keepN n5 HR.out; have z0 := cell1 (o := 0) hr5 rfl; have z1 := cell1 (o := 1) hr5 rfl; have zf := free1 hr5; have HR5 := Lib.hid hr5; have HD5 := Lib.hid d5; have HN5 := Lib.hid n5; clear hr5 d5 n5)
      have hw5 := setCell_heap (setCell_heap HR5.out 0 (.slice r1 r2 r3)) 1 (.int .i64 r4)
      simp only [List.setIfInBounds_toArray, List.set_cons_zero, List.set_cons_succ] at hw5
      have y0 := cell1 (o := 0) hw5 rfl
      have y1 := cell1 (o := 1) hw5 rfl
      exact bodyPost_ret (v := .tuple #[.agg #[.slice r1 r2 r3, .int .i64 r4], .int .i64 (0)]) (by simp [results, Tryz.results21, go_sem, y0, y1]) rfl ⟨_, rfl, isF_store HD5.out HR5.out, ((HNW.out.trans HN5.out).set (by show w.heap.size ≤ w.heap.size + 1; omega) _).set (by show w.heap.size ≤ w.heap.size + 1; omega) _⟩
    · have x0 : wc.cell? ⟨w.heap.size, 0, none⟩ = some (.int .u8 4) := cell1 (o := 0) HCX.out rfl
      go_wp2_with (go_at_call 51; refine (not_f (HIA.out.near HNW.out)).mono ?_; rintro e w5 ⟨v5, rfl, d5, n5⟩; obtain ⟨r1, r2, r3, r4, rfl⟩ := d5.form; have hr5 := keepN n5 HR.out; have z0 := cell1 (o := 0) hr5 rfl; have z1 := cell1 (o := 1) hr5 rfl; have zf := free1 hr5; have HR5 := Lib.hid hr5; have HD5 := Lib.hid d5; have HN5 := Lib.hid n5; clear hr5 d5 n5)
      have hw5 := setCell_heap (setCell_heap HR5.out 0 (.slice r1 r2 r3)) 1 (.int .i64 r4)
      simp only [List.setIfInBounds_toArray, List.set_cons_zero, List.set_cons_succ] at hw5
      have y0 := cell1 (o := 0) hw5 rfl
      have y1 := cell1 (o := 1) hw5 rfl
      exact bodyPost_ret (v := .tuple #[.agg #[.slice r1 r2 r3, .int .i64 r4], .int .i64 (0)]) (by simp [results, Tryz.results21, go_sem, y0, y1]) rfl ⟨_, rfl, isF_store HD5.out HR5.out, ((HNW.out.trans HN5.out).set (by show w.heap.size ≤ w.heap.size + 1; omega) _).set (by show w.heap.size ≤ w.heap.size + 1; omega) _⟩
    · have x0 : wc.cell? ⟨w.heap.size, 0, none⟩ = some (.int .u8 5) := cell1 (o := 0) HCX.out rfl
      go_wp2_with (go_at_call 13; refine (and_f (HIA.out.near HNW.out) (HIB.out.near HNW.out)).mono ?_; rintro e w5 ⟨v5, rfl, d5, n5⟩; obtain ⟨r1, r2, r3, r4, rfl⟩ := d5.form; have hr5 := keepN n5 HR.out; have z0 := cell1 (o := 0) hr5 rfl; have z1 := cell1 (o := 1) hr5 rfl; have zf := free1 hr5; have HR5 := Lib.hid hr5; have HD5 := Lib.hid d5; have HN5 := Lib.hid n5; clear hr5 d5 n5)
      have hw5 := setCell_heap (setCell_heap HR5.out 0 (.slice r1 r2 r3)) 1 (.int .i64 r4)
      simp only [List.setIfInBounds_toArray, List.set_cons_zero, List.set_cons_succ] at hw5
      have y0 := cell1 (o := 0) hw5 rfl
      have y1 := cell1 (o := 1) hw5 rfl
      exact bodyPost_ret (v := .tuple #[.agg #[.slice r1 r2 r3, .int .i64 r4], .int .i64 (0)]) (by simp [results, Tryz.results21, go_sem, y0, y1]) rfl ⟨_, rfl, isF_store HD5.out HR5.out, ((HNW.out.trans HN5.out).set (by show w.heap.size ≤ w.heap.size + 1; omega) _).set (by show w.heap.size ≤ w.heap.size + 1; omega) _⟩
    · have x0 : wc.cell? ⟨w.heap.size, 0, none⟩ = some (.int .u8 6) := cell1 (o := 0) HCX.out rfl
      go_wp2_with (go_at_call 14; refine (or_f (HIA.out.near HNW.out) (HIB.out.near HNW.out)).mono ?_; rintro e w5 ⟨v5, rfl, d5, n5⟩; obtain ⟨r1, r2, r3, r4, rfl⟩ := d5.form; have hr5 := keepN n5 HR.out; have z0 := cell1 (o := 0) hr5 rfl; have z1 := cell1 (o := 1) hr5 rfl; have zf := free1 hr5; have HR5 := Lib.hid hr5; have HD5 := Lib.hid d5; have HN5 := Lib.hid n5; clear hr5 d5 n5)
      have hw5 := setCell_heap (setCell_heap HR5.out 0 (.slice r1 r2 r3)) 1 (.int .i64 r4)
      simp only [List.setIfInBounds_toArray, List.set_cons_zero, List.set_cons_succ] at hw5
      have y0 := cell1 (o := 0) hw5 rfl
      have y1 := cell1 (o := 1) hw5 rfl
      exact bodyPost_ret (v := .tuple #[.agg #[.slice r1 r2 r3, .int .i64 r4], .int .i64 (0)]) (by simp [results, Tryz.results21, go_sem, y0, y1]) rfl ⟨_, rfl, isF_store HD5.out HR5.out, ((HNW.out.trans HN5.out).set (by show w.heap.size ≤ w.heap.size + 1; omega) _).set (by show w.heap.size ≤ w.heap.size + 1; omega) _⟩
    · have x0 : wc.cell? ⟨w.heap.size, 0, none⟩ = some (.int .u8 7) := cell1 (o := 0) HCX.out rfl
      go_wp2_with (go_at_call 18; refine (xor_f (HIA.out.near HNW.out) (HIB.out.near HNW.out)).mono ?_; rintro e w5 ⟨v5, rfl, d5, n5⟩; obtain ⟨r1, r2, r3, r4, rfl⟩ := d5.form; have hr5 := keepN n5 HR.out; have z0 := cell1 (o := 0) hr5 rfl; have z1 := cell1 (o := 1) hr5 rfl; have zf := free1 hr5; have HR5 := Lib.hid hr5; have HD5 := Lib.hid d5; have HN5 := Lib.hid n5; clear hr5 d5 n5)
      have hw5 := setCell_heap (setCell_heap HR5.out 0 (.slice r1 r2 r3)) 1 (.int .i64 r4)
      simp only [List.setIfInBounds_toArray, List.set_cons_zero, List.set_cons_succ] at hw5
      have y0 := cell1 (o := 0) hw5 rfl
      have y1 := cell1 (o := 1) hw5 rfl
      exact bodyPost_ret (v := .tuple #[.agg #[.slice r1 r2 r3, .int .i64 r4], .int .i64 (0)]) (by simp [results, Tryz.results21, go_sem, y0, y1]) rfl ⟨_, rfl, isF_store HD5.out HR5.out, ((HNW.out.trans HN5.out).set (by show w.heap.size ≤ w.heap.size + 1; omega) _).set (by show w.heap.size ≤ w.heap.size + 1; omega) _⟩
    · have x0 : wc.cell? ⟨w.heap.size, 0, none⟩ = some (.int .u8 8) := cell1 (o := 0) HCX.out rfl
      go_wp2_with (go_at_call 52; refine (ite_f (HIA.out.near HNW.out) (HIB.out.near HNW.out) (HIC.out.near HNW.out)).mono ?_; rintro e w5 ⟨v5, rfl, d5, n5⟩; obtain ⟨r1, r2, r3, r4, rfl⟩ := d5.form; have hr5 := keepN n5 HR.out; have z0 := cell1 (o := 0) hr5 rfl; have z1 := cell1 (o := 1) hr5 rfl; have zf := free1 hr5; have HR5 := Lib.hid hr5; have HD5 := Lib.hid d5; have HN5 := Lib.hid n5; clear hr5 d5 n5)
      have hw5 := setCell_heap (setCell_heap HR5.out 0 (.slice r1 r2 r3)) 1 (.int .i64 r4)
      simp only [List.setIfInBounds_toArray, List.set_cons_zero, List.set_cons_succ] at hw5
      have y0 := cell1 (o := 0) hw5 rfl
      have y1 := cell1 (o := 1) hw5 rfl
      exact bodyPost_ret (v := .tuple #[.agg #[.slice r1 r2 r3, .int .i64 r4], .int .i64 (0)]) (by simp [results, Tryz.results21, go_sem, y0, y1]) rfl ⟨_, rfl, isF_store HD5.out HR5.out, ((HNW.out.trans HN5.out).set (by show w.heap.size ≤ w.heap.size + 1; omega) _).set (by show w.heap.size ≤ w.heap.size + 1; omega) _⟩
    · have x0 : wc.cell? ⟨w.heap.size, 0, none⟩ = some (.int .u8 9) := cell1 (o := 0) HCX.out rfl
      have x5 : wc.cell? ⟨w.heap.size, 5, none⟩ = some (.int .i64 xi) := cell1 (o := 5) HCX.out rfl
      have x7 : wc.cell? ⟨w.heap.size, 7, none⟩ = some (.bool xon) := cell1 (o := 7) HCX.out rfl
      go_wp2_with (go_at_call 53; refine (with_f (HIA.out.near HNW.out) xi xon).mono ?_; rintro e w5 ⟨v5, rfl, d5, n5⟩; obtain ⟨r1, r2, r3, r4, rfl⟩ := d5.form; have hr5 := keepN n5 HR.out; have z0 := cell1 (o := 0) hr5 rfl; have z1 := cell1 (o := 1) hr5 rfl; have zf := free1 hr5; have HR5 := Lib.hid hr5; have HD5 := Lib.hid d5; have HN5 := Lib.hid n5; clear hr5 d5 n5)
      have hw5 := setCell_heap (setCell_heap HR5.out 0 (.slice r1 r2 r3)) 1 (.int .i64 r4)
      simp only [List.setIfInBounds_toArray, List.set_cons_zero, List.set_cons_succ] at hw5
      have y0 := cell1 (o := 0) hw5 rfl
      have y1 := cell1 (o := 1) hw5 rfl
      exact bodyPost_ret (v := .tuple #[.agg #[.slice r1 r2 r3, .int .i64 r4], .int .i64 (0)]) (by simp [results, Tryz.results21, go_sem, y0, y1]) rfl ⟨_, rfl, isF_store HD5.out HR5.out, ((HNW.out.trans HN5.out).set (by show w.heap.size ≤ w.heap.size + 1; omega) _).set (by show w.heap.size ≤ w.heap.size + 1; omega) _⟩
    · have x0 : wc.cell? ⟨w.heap.size, 0, none⟩ = some (.int .u8 10) := cell1 (o := 0) HCX.out rfl
      have x8 : wc.cell? ⟨w.heap.size, 8, none⟩ = some (.int .u32 xf) := cell1 (o := 8) HCX.out rfl
      go_wp2_with (go_at_call 54; refine (exists_f (HIA.out.near HNW.out) hf).mono ?_; rintro e w5 ⟨v5, rfl, d5, n5⟩; obtain ⟨r1, r2, r3, r4, rfl⟩ := d5.form; have hr5 := keepN n5 HR.out; have z0 := cell1 (o := 0) hr5 rfl; have z1 := cell1 (o := 1) hr5 rfl; have zf := free1 hr5; have HR5 := Lib.hid hr5; have HD5 := Lib.hid d5; have HN5 := Lib.hid n5; clear hr5 d5 n5)
      have hw5 := setCell_heap (setCell_heap HR5.out 0 (.slice r1 r2 r3)) 1 (.int .i64 r4)
      simp only [List.setIfInBounds_toArray, List.set_cons_zero, List.set_cons_succ] at hw5
      have y0 := cell1 (o := 0) hw5 rfl
      have y1 := cell1 (o := 1) hw5 rfl
      exact bodyPost_ret (v := .tuple #[.agg #[.slice r1 r2 r3, .int .i64 r4], .int .i64 (0)]) (by simp [results, Tryz.results21, go_sem, y0, y1]) rfl ⟨_, rfl, isF_store HD5.out HR5.out, ((HNW.out.trans HN5.out).set (by show w.heap.size ≤ w.heap.size + 1; omega) _).set (by show w.heap.size ≤ w.heap.size + 1; omega) _⟩
    · have x0 : wc.cell? ⟨w.heap.size, 0, none⟩ = some (.int .u8 11) := cell1 (o := 0) HCX.out rfl
      have x8 : wc.cell? ⟨w.heap.size, 8, none⟩ = some (.int .u32 xf) := cell1 (o := 8) HCX.out rfl
      go_wp2_with (go_at_call 55; refine (forall_f (HIA.out.near HNW.out) hf).mono ?_; rintro e w5 ⟨v5, rfl, d5, n5⟩; obtain ⟨r1, r2, r3, r4, rfl⟩ := d5.form; have hr5 := keepN n5 HR.out; have z0 := cell1 (o := 0) hr5 rfl; have z1 := cell1 (o := 1) hr5 rfl; have zf := free1 hr5; have HR5 := Lib.hid hr5; have HD5 := Lib.hid d5; have HN5 := Lib.hid n5; clear hr5 d5 n5)
      have hw5 := setCell_heap (setCell_heap HR5.out 0 (.slice r1 r2 r3)) 1 (.int .i64 r4)
      simp only [List.setIfInBounds_toArray, List.set_cons_zero, List.set_cons_succ] at hw5
      have y0 := cell1 (o := 0) hw5 rfl
      have y1 := cell1 (o := 1) hw5 rfl
      exact bodyPost_ret (v := .tuple #[.agg #[.slice r1 r2 r3, .int .i64 r4], .int .i64 (0)]) (by simp [results, Tryz.results21, go_sem, y0, y1]) rfl ⟨_, rfl, isF_store HD5.out HR5.out, ((HNW.out.trans HN5.out).set (by show w.heap.size ≤ w.heap.size + 1; omega) _).set (by show w.heap.size ≤ w.heap.size + 1; omega) _⟩
    · have x0 : wc.cell? ⟨w.heap.size, 0, none⟩ = some (.int .u8 12) := cell1 (o := 0) HCX.out rfl
      have x8 : wc.cell? ⟨w.heap.size, 8, none⟩ = some (.int .u32 xf) := cell1 (o := 8) HCX.out rfl
      have x5 : wc.cell? ⟨w.heap.size, 5, none⟩ = some (.int .i64 xi) := cell1 (o := 5) HCX.out rfl
      have x6 : wc.cell? ⟨w.heap.size, 6, none⟩ = some (.int .i64 xj) := cell1 (o := 6) HCX.out rfl
      go_wp2_with (go_at_call 56; refine (between_f hf xi xj _).mono ?_; rintro e w5 ⟨v5, rfl, d5, n5⟩; obtain ⟨r1, r2, r3, r4, rfl⟩ := d5.form; have hr5 := keepN n5 HR.out; have z0 := cell1 (o := 0) hr5 rfl; have z1 := cell1 (o := 1) hr5 rfl; have zf := free1 hr5; have HR5 := Lib.hid hr5; have HD5 := Lib.hid d5; have HN5 := Lib.hid n5; clear hr5 d5 n5)
      have hw5 := setCell_heap (setCell_heap HR5.out 0 (.slice r1 r2 r3)) 1 (.int .i64 r4)
      simp only [List.setIfInBounds_toArray, List.set_cons_zero, List.set_cons_succ] at hw5
      have y0 := cell1 (o := 0) hw5 rfl
      have y1 := cell1 (o := 1) hw5 rfl
      exact bodyPost_ret (v := .tuple #[.agg #[.slice r1 r2 r3, .int .i64 r4], .int .i64 (0)]) (by simp [results, Tryz.results21, go_sem, y0, y1]) rfl ⟨_, rfl, isF_store HD5.out HR5.out, ((HNW.out.trans HN5.out).set (by show w.heap.size ≤ w.heap.size + 1; omega) _).set (by show w.heap.size ≤ w.heap.size + 1; omega) _⟩
    · have x0 : wc.cell? ⟨w.heap.size, 0, none⟩ = some (.int .u8 13) := cell1 (o := 0) HCX.out rfl
      have x1 : wc.cell? ⟨w.heap.size, 1, none⟩ = some (.int .u8 xrel) := cell1 (o := 1) HCX.out rfl
      have x10 : wc.cell? ⟨w.heap.size, 10, none⟩ = some (xlv) := cell1 (o := 10) HCX.out rfl
      have x11 : wc.cell? ⟨w.heap.size, 11, none⟩ = some (.int .i64 xbound) := cell1 (o := 11) HCX.out rfl
      obtain ⟨i0, hi0, hz0, hz1, hz2⟩ := info_parts info2
      have HY := Lib.hid (show SrcOf wc.drew 1 xls.length xlv (xls.map fun x => .int .i64 x) from (HX.out.list.near HNW.out.drew).yields HX.out.nil)
      have HK := Lib.hid (show ∀ w', Kept (fun k => k = w.heap.size + 1) wc w' → (fun w' => w'.cell? ⟨w.heap.size, 10, none⟩ = some xlv ∧ w'.cell? ⟨w.heap.size, 1, none⟩ = some (.int .u8 xrel) ∧ w'.cell? ⟨w.heap.size, 11, none⟩ = some (.int .i64 xbound)) w' from fun w' h => ⟨h.cell x10 (by omega), h.cell x1 (by omega), h.cell x11 (by omega)⟩)
      obtain ⟨N, hNN⟩ : ∃ N : Int, N = if LinOk xls xrel then 0 else 2 := ⟨_, rfl⟩
      have HNN := Lib.hid hNN
      have EN := Lib.hid (show opN ⟨13, xrel, xa, xb, xc, xi, xj, xon, xf, xg, xlv, xls, xbound⟩ = N from hNN.symm)
      clear hNN
      have HL40 := Lib.hid hl40
      clear hl40
      go_upto_region 28 with fail
      go_region_held3 (fun w' => w'.cell? ⟨w.heap.size, 10, none⟩ = some xlv ∧ w'.cell? ⟨w.heap.size, 1, none⟩ = some (.int .u8 xrel) ∧ w'.cell? ⟨w.heap.size, 11, none⟩ = some (.int .i64 xbound)) (first | exact ⟨x10, x1, x11⟩ | exact HK.out _ HN3.out.kept | exact HK.out _ (HN3.out.trans HN5.out).kept | exact HK.out _ (Kept.setCell (S := fun k => k = w.heap.size + 1) (Kept.setCell (S := fun k => k = w.heap.size + 1) (HN3.out.trans HN5.out).kept (p := ⟨w.heap.size + 1, 0, none⟩) (fun _ => rfl) _) (p := ⟨w.heap.size + 1, 1, none⟩) (fun _ => rfl) _))
        (first
          | (refine step_append_more rfl (.const (.slice none 0 0)) (.tmp 112) 56 rfl 0 2 i0 (.int .i64 0) 1 8 Tryz.underlying56 hi0 hz0 hz1 hz2 rfl (by decide) (.slice none 0 0) 0 [] rfl (World.ownsRow_nil _ _ _ _) _ xls.length (xls.map fun x => .int .i64 x) rfl HY.out (by simp [Value.oneCell']) (by have := HL40.out; unfold maxLen; omega) (by have := HL40.out; omega) (Nat.zero_le _) ?_; intro ao3 cap3 w3 hown3 hg3; simp only [Nat.zero_add, List.nil_append] at hown3 ⊢; have HO3 := Lib.hid (RdInts.owns hown3); have HN3 := Lib.hid (show Near wc w3 from Kept.grown (Near.refl wc).drew hg3 (fun k hk => by cases hk)); clear hown3 hg3)
          | (go_at_call 57; refine ((linear_f HO3.out).mono (fun e w' (h : LinPost w3 xls xrel xbound e w') => (show ∃ v, e = .returned (.tuple #[v, .int .i64 N]) ∧ IsF w' v (if LinOk xls xrel then linF xls xrel xbound else fun _ => false) ∧ Near w3 w' from by rw [HNN.out]; exact h))).mono ?_; rintro e w5 ⟨v5, rfl, d5, n5⟩; obtain ⟨r1, r2, r3, r4, rfl⟩ := d5.form; have hr5 := keepN (HN3.out.trans n5) HR.out; have z0 := cell1 (o := 0) hr5 rfl; have z1 := cell1 (o := 1) hr5 rfl; have zf := free1 hr5; have HR5 := Lib.hid hr5; have HD5 := Lib.hid d5; have HN5 := Lib.hid n5; clear hr5 d5 n5))
      go_wp2_with fail
      have HN5' := Lib.hid (HN3.out.trans HN5.out)
      have hw5 := setCell_heap (setCell_heap HR5.out 0 (.slice r1 r2 r3)) 1 (.int .i64 r4)
      simp only [List.setIfInBounds_toArray, List.set_cons_zero, List.set_cons_succ] at hw5
      have y0 := cell1 (o := 0) hw5 rfl
      have y1 := cell1 (o := 1) hw5 rfl
      exact bodyPost_ret (v := .tuple #[.agg #[.slice r1 r2 r3, .int .i64 r4], .int .i64 (N)]) (by simp [results, Tryz.results21, go_sem, y0, y1]) rfl ⟨_, by rw [EN.out], isF_store HD5.out HR5.out, ((HNW.out.trans HN5'.out).set (by show w.heap.size ≤ w.heap.size + 1; omega) _).set (by show w.heap.size ≤ w.heap.size + 1; omega) _⟩
    · have x0 : wc.cell? ⟨w.heap.size, 0, none⟩ = some (.int .u8 14) := cell1 (o := 0) HCX.out rfl
      have HSN := Lib.hid (show Sets 34 IsF base wc _ fs from (HS.out.map HNW.out (fun _ _ h => h.near HNW.out)))
      have HLE := Lib.hid (show fs.length < 1099511627776 by have := HNL.out; omega)
      go_wp2_with (go_at_call 58; refine (andall_f HSN.out HLE.out).mono ?_; rintro e w5 ⟨v5, rfl, d5, n5⟩; obtain ⟨r1, r2, r3, r4, rfl⟩ := d5.form; have hr5 := keepN n5 HR.out; have z0 := cell1 (o := 0) hr5 rfl; have z1 := cell1 (o := 1) hr5 rfl; have zf := free1 hr5; have HR5 := Lib.hid hr5; have HD5 := Lib.hid d5; have HN5 := Lib.hid n5; clear hr5 d5 n5)
      have hw5 := setCell_heap (setCell_heap HR5.out 0 (.slice r1 r2 r3)) 1 (.int .i64 r4)
      simp only [List.setIfInBounds_toArray, List.set_cons_zero, List.set_cons_succ] at hw5
      have y0 := cell1 (o := 0) hw5 rfl
      have y1 := cell1 (o := 1) hw5 rfl
      exact bodyPost_ret (v := .tuple #[.agg #[.slice r1 r2 r3, .int .i64 r4], .int .i64 (0)]) (by simp [results, Tryz.results21, go_sem, y0, y1]) rfl ⟨_, rfl, isF_store HD5.out HR5.out, ((HNW.out.trans HN5.out).set (by show w.heap.size ≤ w.heap.size + 1; omega) _).set (by show w.heap.size ≤ w.heap.size + 1; omega) _⟩
    · have x0 : wc.cell? ⟨w.heap.size, 0, none⟩ = some (.int .u8 15) := cell1 (o := 0) HCX.out rfl
      have HSN := Lib.hid (show Sets 34 IsF base wc _ fs from (HS.out.map HNW.out (fun _ _ h => h.near HNW.out)))
      have HLE := Lib.hid (show fs.length < 1099511627776 by have := HNL.out; omega)
      go_wp2_with (go_at_call 59; refine (orall_f HSN.out HLE.out).mono ?_; rintro e w5 ⟨v5, rfl, d5, n5⟩; obtain ⟨r1, r2, r3, r4, rfl⟩ := d5.form; have hr5 := keepN n5 HR.out; have z0 := cell1 (o := 0) hr5 rfl; have z1 := cell1 (o := 1) hr5 rfl; have zf := free1 hr5; have HR5 := Lib.hid hr5; have HD5 := Lib.hid d5; have HN5 := Lib.hid n5; clear hr5 d5 n5)
      have hw5 := setCell_heap (setCell_heap HR5.out 0 (.slice r1 r2 r3)) 1 (.int .i64 r4)
      simp only [List.setIfInBounds_toArray, List.set_cons_zero, List.set_cons_succ] at hw5
      have y0 := cell1 (o := 0) hw5 rfl
      have y1 := cell1 (o := 1) hw5 rfl
      exact bodyPost_ret (v := .tuple #[.agg #[.slice r1 r2 r3, .int .i64 r4], .int .i64 (0)]) (by simp [results, Tryz.results21, go_sem, y0, y1]) rfl ⟨_, rfl, isF_store HD5.out HR5.out, ((HNW.out.trans HN5.out).set (by show w.heap.size ≤ w.heap.size + 1; omega) _).set (by show w.heap.size ≤ w.heap.size + 1; omega) _⟩
    · have x0 : wc.cell? ⟨w.heap.size, 0, none⟩ = some (.int .u8 xop) := cell1 (o := 0) HCX.out rfl
      have e1 : ((xop : Int) == 1) = false := beq_eq_false_iff_ne.2 (by omega)
      have e2 : ((xop : Int) == 2) = false := beq_eq_false_iff_ne.2 (by omega)
      have e3 : ((xop : Int) == 3) = false := beq_eq_false_iff_ne.2 (by omega)
      have e4 : ((xop : Int) == 4) = false := beq_eq_false_iff_ne.2 (by omega)
      have e5 : ((xop : Int) == 5) = false := beq_eq_false_iff_ne.2 (by omega)
      have e6 : ((xop : Int) == 6) = false := beq_eq_false_iff_ne.2 (by omega)
      have e7 : ((xop : Int) == 7) = false := beq_eq_false_iff_ne.2 (by omega)
      have e8 : ((xop : Int) == 8) = false := beq_eq_false_iff_ne.2 (by omega)
      have e9 : ((xop : Int) == 9) = false := beq_eq_false_iff_ne.2 (by omega)
      have e10 : ((xop : Int) == 10) = false := beq_eq_false_iff_ne.2 (by omega)
      have e11 : ((xop : Int) == 11) = false := beq_eq_false_iff_ne.2 (by omega)
      have e12 : ((xop : Int) == 12) = false := beq_eq_false_iff_ne.2 (by omega)
      have e13 : ((xop : Int) == 13) = false := beq_eq_false_iff_ne.2 (by omega)
      have e14 : ((xop : Int) == 14) = false := beq_eq_false_iff_ne.2 (by omega)
      have e15 : ((xop : Int) == 15) = false := beq_eq_false_iff_ne.2 (by omega)
      have HBig := Lib.hid hbig
      clear hbig
      go_wp2_with (go_at_call 60; refine (false_f _).mono ?_; rintro e w5 ⟨v5, rfl, d5, n5⟩; obtain ⟨r1, r2, r3, r4, rfl⟩ := d5.form; have hr5 := keepN n5 HR.out; have z0 := cell1 (o := 0) hr5 rfl; have z1 := cell1 (o := 1) hr5 rfl; have zf := free1 hr5; have HR5 := Lib.hid hr5; have HD5 := Lib.hid d5; have HN5 := Lib.hid n5; clear hr5 d5 n5)
      have hw5 := setCell_heap (setCell_heap HR5.out 0 (.slice r1 r2 r3)) 1 (.int .i64 r4)
      simp only [List.setIfInBounds_toArray, List.set_cons_zero, List.set_cons_succ] at hw5
      have y0 := cell1 (o := 0) hw5 rfl
      have y1 := cell1 (o := 1) hw5 rfl
      exact bodyPost_ret (v := .tuple #[.agg #[.slice r1 r2 r3, .int .i64 r4], .int .i64 (0)]) (by simp [results, Tryz.results21, go_sem, y0, y1]) rfl ⟨_, by rw [opN_else HBig.out], by rw [opF_else _ HBig.out]; exact isF_store HD5.out HR5.out, ((HNW.out.trans HN5.out).set (by show w.heap.size ≤ w.heap.size + 1; omega) _).set (by show w.heap.size ≤ w.heap.size + 1; omega) _⟩

end Go.Proofs.YtefclohjeompkaaGreat

/- OpC: what is needed of it. -/
namespace Go.Proofs.YtefclohjeompkaaGreat
open Go Go.RowKit Go.Proofs.Gen Go.Proofs.Bdd Go.Proofs.Bdd.T
theorem info31 : (Tryz.prog.info? 34).map (fun i => (i.zero, i.size, i.bytes)) = some (some (.agg #[.slice none 0 0, .int .i64 0]), 2, 32) := by kernel_rfl

/-- A script as it is read. -/
def RdOps (w : World) (v : Value) (l : List SOp) : Prop :=
  ∃ ao cap, v = .slice ao l.length cap ∧ ∀ k x, l[k]? = some x → SOpOk w x ∧ ∃ b off, ao = some ⟨b, off, none⟩ ∧ ∀ j u, x.cells[j]? = some u → w.cell? ⟨b, off + k * 12 + j, none⟩ = some u

theorem RdOps.near {w w' : World} {v : Value} {l : List SOp} (h : RdOps w v l) (hn : Near w w') : RdOps w' v l := by
  obtain ⟨ao, cap, rfl, hc⟩ := h
  refine ⟨ao, cap, rfl, fun k x hk => ?_⟩
  obtain ⟨ok, b, off, e, h0⟩ := hc k x hk
  exact ⟨ok.near hn, b, off, e, fun j u hj => hn.cell (h0 j u hj)⟩

/-- The sets that a script makes: the empty one first. -/
def makeF (l : List SOp) : List F := l.foldl (fun fs x => fs ++ [opF x fs]) [fun _ => false]

theorem makeF_snoc (l : List SOp) (x : SOp) : makeF (l ++ [x]) = makeF l ++ [opF x (makeF l)] := by simp [makeF]

theorem foldF_len (l : List SOp) : ∀ fs : List F, (l.foldl (fun fs x => fs ++ [opF x fs]) fs).length = fs.length + l.length := by
  induction l with
  | nil => intro fs; rfl
  | cons x l ih =>
    intro fs
    rw [List.foldl_cons, ih, List.length_append, List.length_cons, List.length_cons, List.length_nil]
    omega

theorem makeF_len (l : List SOp) : (makeF l).length = l.length + 1 := by
  unfold makeF
  rw [foldF_len, List.length_cons, List.length_nil]
  omega

theorem makeF_take {l : List SOp} {k : Nat} {x : SOp} (h : l[k]? = some x) : makeF (l.take (k + 1)) = makeF (l.take k) ++ [opF x (makeF (l.take k))] := by
  rw [List.take_add_one, h]
  exact makeF_snoc _ _

end Go.Proofs.YtefclohjeompkaaGreat

/- OpE: what is needed of it. -/
namespace Go.Proofs.YtefclohjeompkaaGreat
open Go Go.RowKit Go.Proofs.Gen Go.Proofs.Bdd Go.Proofs.Bdd.T
theorem Sets.nth {e : TypeId} {Is : World → Value → F → Prop} {b : Nat} {w : World} {x : Value} {fs : List F} (h : Sets e Is b w x fs) {j : Nat} (hj : j < fs.length) :
    ∃ g cap u v, x = .slice (some ⟨g, 0, none⟩) fs.length cap ∧ b ≤ g ∧ w.cell? ⟨g, j * 2, none⟩ = some u ∧ w.cell? ⟨g, j * 2 + 1, none⟩ = some v ∧ Is w (.agg #[u, v]) (fs.getD j fun _ => false) := by
  obtain ⟨g, cap, u, v, hx, hb, -, h1, h2, h3⟩ := h.get (List.getElem?_eq_getElem hj)
  refine ⟨g, cap, u, v, hx, hb, h1, h2, ?_⟩
  rw [List.getD_eq_getElem?_getD, List.getElem?_eq_getElem hj]
  exact h3

end Go.Proofs.YtefclohjeompkaaGreat

/- OpenA: what is needed of it. -/
namespace Go.Proofs.YtefclohjeompkaaGreat
open Go.ChangeMaps Go.ChangeShapes Go.WideShapes Go.ChangeAt Go.RowKit Go.Deep Go.Proofs.Gen
instance : Inhabited SOp := ⟨⟨0, 0, 0, 0, 0, 0, 0, false, 0, 0, .slice none 0 0, [], 0⟩⟩

theorem cells109 : Tryz.prog.cellsOf 58 = 12 := by kernel_rfl

theorem cells2 : Tryz.prog.cellsOf 2 = 1 := by kernel_rfl

section
variable {H : Type} {enc : TypeId × Value → H} {w : World} {base : Nat} {spare : Nat → Bool} {held : Bool}
/-- The cells of a struct of one-cell fields. -/
theorem struct_cells {t : TypeId} {fs : Array Field} {fuel : Nat} {cs : List Value} {x : DataW H × List MemPlace} (ht : Tryz.prog.underlying t = some (.struct fs)) (hone : oneCellFields Tryz.prog fs = true) (hC : Tryz.prog.cellsOf t = fs.size)
    (h : DataW.trod enc Tryz.prog w base spare held fuel t cs = some x) : cs.length = fs.size ∧ ∃ n, ∀ (i : Nat) (f : Field), fs[i]? = some f → ∃ v y, cs[i]? = some v ∧ DataW.trod enc Tryz.prog w base spare held n f.type [v] = some y := by
  obtain ⟨xs, n, _, _, hlen, hxl, hg⟩ := DataW.trod_struct ht h
  refine ⟨hlen.trans hC, n, fun i f hi => ?_⟩
  obtain ⟨ho, hc⟩ := hone_of hone i f hi
  have hlt : i < fs.size := (Array.getElem?_eq_some_iff.1 hi).1
  have hcl : i < cs.length := by omega
  have g := hg i f hi
  rw [ho, hc, take1_drop cs i undef hcl, List.getElem?_eq_getElem (by omega)] at g
  refine ⟨cs[i], xs[i]'(by omega), List.getElem?_eq_getElem hcl, ?_⟩
  rw [← g, List.getD_eq_getElem?_getD, List.getElem?_eq_getElem hcl]
  rfl

theorem add_at (b off i : Nat) : (⟨b, off, none⟩ : Addr).add i = ⟨b, off + i, none⟩ := by
  unfold Addr.add
  by_cases h : i = 0 <;> simp [h]

/-- A list of numbers that came in. -/
theorem ints_open {fuel : Nat} {v : Value} {x : DataW H × List MemPlace} (h : DataW.trod enc Tryz.prog w base spare held fuel 56 [v] = some x) : (∃ l : List Int, RdInts w v l) ∧ ∀ cap, v = .slice none 0 cap → cap = 0 := by
  rcases open_ints Tryz.underlying56 Tryz.underlying2 cells2 h with ⟨hcs, _⟩ | ⟨a, len, cap, zs, hcs, _, hl, hm, hzl, _, hz, _⟩
  · simp at hcs
    subst hcs
    exact ⟨⟨[], none, 0, rfl, fun k x hk => by simp at hk⟩, fun cap h => by cases h; rfl⟩
  · simp at hcs
    subst hcs
    have hml : len ≤ zs.length := by rw [hzl]; split <;> omega
    refine ⟨⟨zs.take len, some a, cap, by rw [List.length_take, Nat.min_eq_left hml], fun k x hk => ?_⟩, fun cap h => by cases h⟩
    rw [List.getElem?_take] at hk
    split at hk
    · rename_i hkl
      have h0 := hz k (by omega)
      rw [List.getD_eq_getElem?_getD, hk] at h0
      obtain ⟨b, off, spot⟩ := a
      have hspot : spot = none := by
        have := World.cell?_spot (hz 0 (by omega))
        simpa [Addr.add] using this
      subst hspot
      rw [add_at] at h0
      exact ⟨b, off, rfl, h0⟩
    · cases hk

theorem wf_range {k : IntKind} {n : Int} (h : (Lit.int k n).wf = true) : k.min ≤ n ∧ n ≤ k.max := by
  have h' : (decide (k.min ≤ n) && decide (n ≤ k.max)) = true := h
  rw [Bool.and_eq_true] at h'
  exact ⟨of_decide_eq_true h'.1, of_decide_eq_true h'.2⟩

theorem u8_open {fuel : Nat} {v : Value} {x : DataW H × List MemPlace} (h : DataW.trod enc Tryz.prog w base spare held fuel 5 [v] = some x) : ∃ n : Nat, v = .int .u8 n ∧ n < 256 := by
  obtain ⟨n, hn, _, hw⟩ := DataW.trod_int Tryz.underlying5 h
  simp at hn
  subst hn
  have h0 : (0 : Int) ≤ n := (wf_range hw).1
  have h1 : n ≤ (255 : Int) := (wf_range hw).2
  obtain ⟨m, rfl⟩ : ∃ m : Nat, n = m := ⟨n.toNat, by omega⟩
  exact ⟨m, rfl, by omega⟩

theorem u32_open {fuel : Nat} {v : Value} {x : DataW H × List MemPlace} (h : DataW.trod enc Tryz.prog w base spare held fuel 40 [v] = some x) : ∃ n : Nat, v = .int .u32 n ∧ n < 4294967296 := by
  obtain ⟨n, hn, _, hw⟩ := DataW.trod_int Tryz.underlying40 h
  simp at hn
  subst hn
  have h0 : (0 : Int) ≤ n := (wf_range hw).1
  have h1 : n ≤ (4294967295 : Int) := (wf_range hw).2
  obtain ⟨m, rfl⟩ : ∃ m : Nat, n = m := ⟨n.toNat, by omega⟩
  exact ⟨m, rfl, by omega⟩

/-- An operation that came in. -/
theorem op_open {fuel : Nat} {cs : List Value} {x : DataW H × List MemPlace} (h : DataW.trod enc Tryz.prog w base spare held fuel 58 cs = some x) : ∃ d : SOp, cs = d.cells ∧ SOpOk w d := by
  obtain ⟨hl, n, hf⟩ := struct_cells Tryz.underlying58 (by kernel_rfl) (by kernel_rfl) h
  match cs, hl with
  | [c0, c1, c2, c3, c4, c5, c6, c7, c8, c9, c10, c11], _ =>
    obtain ⟨v0, y0, e0, h0⟩ := hf 0 _ rfl
    obtain ⟨v1, y1, e1, h1⟩ := hf 1 _ rfl
    obtain ⟨v2, y2, e2, h2⟩ := hf 2 _ rfl
    obtain ⟨v3, y3, e3, h3⟩ := hf 3 _ rfl
    obtain ⟨v4, y4, e4, h4⟩ := hf 4 _ rfl
    obtain ⟨v5, y5, e5, h5⟩ := hf 5 _ rfl
    obtain ⟨v6, y6, e6, h6⟩ := hf 6 _ rfl
    obtain ⟨v7, y7, e7, h7⟩ := hf 7 _ rfl
    obtain ⟨v8, y8, e8, h8⟩ := hf 8 _ rfl
    obtain ⟨v9, y9, e9, h9⟩ := hf 9 _ rfl
    obtain ⟨v10, y10, e10, h10⟩ := hf 10 _ rfl
    obtain ⟨v11, y11, e11, h11⟩ := hf 11 _ rfl
    cases e0; cases e1; cases e2; cases e3; cases e4; cases e5; cases e6; cases e7; cases e8; cases e9; cases e10; cases e11
    obtain ⟨a0, rfl, l0⟩ := u8_open h0
    obtain ⟨a1, rfl, l1⟩ := u8_open h1
    obtain ⟨a2, rfl, l2⟩ := u8_open h2
    obtain ⟨a3, rfl, l3⟩ := u8_open h3
    obtain ⟨a4, rfl, l4⟩ := u8_open h4
    obtain ⟨a5, g5, _⟩ := DataW.trod_int Tryz.underlying3 h5
    obtain ⟨a6, g6, _⟩ := DataW.trod_int Tryz.underlying3 h6
    obtain ⟨a7, g7, _⟩ := DataW.trod_bool Tryz.underlying4 h7
    obtain ⟨a8, rfl, l8⟩ := u32_open h8
    obtain ⟨a9, rfl, l9⟩ := u32_open h9
    obtain ⟨⟨ls, hls⟩, hnil⟩ := ints_open h10
    obtain ⟨a11, g11, _⟩ := DataW.trod_int Tryz.underlying2 h11
    simp at g5 g6 g7 g11
    subst g5 g6 g7 g11
    exact ⟨⟨a0, a1, a2, a3, a4, a5, a6, a7, a8, a9, c10, ls, a11⟩, rfl, hls, hnil, l8, l9, l0, l2, l3, l4⟩

/-- A script that came in. -/
theorem ops_open {fuel : Nat} {v : Value} {x : DataW H × List MemPlace} (h : DataW.trod enc Tryz.prog w base spare held fuel 22 [v] = some x) : ∃ l : List SOp, RdOps w v l := by
  rcases open_slice Tryz.underlying22 h with ⟨hcs, _⟩ | ⟨a, len, cap, m, n, D, Pl, hcs, _, hl, hm, hmm, _, hx⟩
  · simp at hcs
    subst hcs
    exact ⟨[], none, 0, rfl, fun k x hk => by simp at hk⟩
  · simp at hcs
    subst hcs
    have hml : len ≤ m := by rw [hmm]; split <;> omega
    rw [cells109] at hx
    obtain ⟨f, hf⟩ := choose_lt (α := SOp) (n := len) (p := fun i d => w.cells? base (a.add (i * 12)) 12 = some d.cells ∧ SOpOk w d) (fun i hi => by
      obtain ⟨cs', h1, h2⟩ := hx i (by omega)
      obtain ⟨d, rfl, hd⟩ := op_open h2
      exact ⟨d, h1, hd⟩)
    refine ⟨(List.range len).map f, some a, cap, by simp, fun k x hk => ?_⟩
    have hkl : k < len := by
      have := (List.getElem?_eq_some_iff.1 hk).1
      simpa using this
    have hxe : x = f k := by
      rw [List.getElem?_map, List.getElem?_range hkl] at hk
      simpa using hk.symm
    subst hxe
    obtain ⟨_, _, hc⟩ := World.cells?_some (hf k hkl).1
    obtain ⟨b, off, spot⟩ := a
    have hspot : spot = none := by
      obtain ⟨_, _, hc'⟩ := World.cells?_some (hf 0 (by omega)).1
      have := World.cell?_spot ((hc' 0 (by omega)).trans (show (f 0).cells[0]? = some (.int .u8 (f 0).op) from rfl))
      simpa [Addr.add] using this
    subst hspot
    refine ⟨(hf k hkl).2, b, off, rfl, fun j u hj => ?_⟩
    have hj12 : j < 12 := (List.getElem?_eq_some_iff.1 hj).1
    have := hc j hj12
    rw [add_at, add_at] at this
    exact this.trans hj

end
end Go.Proofs.YtefclohjeompkaaGreat
