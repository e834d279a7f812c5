/- Parts of a proof: Mem, Round, Takes, LinG, LinH. -/
import Derived.Maps.OwnSet
import Derived.WalkKit
import Derived.Deep.QuietTactic
import Derived.Test.YtefclohjeompkaaGreatProg
import Derived.KernelRfl
import Derived.DeepKeys4
import Derived.Deep.RegionLaw
import Derived.StillTailTactics
import Derived.Maps.AppendAt
import Derived.WalkSpells
import Derived.WalkLawsBesides
import Derived.BigQuiet
import Derived.Lib.Hide
import Derived.Deep.DeepCutAuto
import Derived.Laws.EntriesVeiled
import Derived.Deep.RegionHeld3
import Derived.Laws.OwnMore
import Derived.Deep.Slices
import Derived.RangeFuncNested
import Derived.RangeFuncBound
import Derived.RangeFuncCalls
import Derived.RangeFuncLeaves
import Derived.Shelf.Abstract
import Derived.Shelf.RegionOpen
import Derived.OwnWalkIn
import Derived.TacticsInMore
import Derived.LoopNIn
import Derived.LoopIn
import Derived.Test.YtefclohjeompkaaGreatKTreeC
import Derived.Test.YtefclohjeompkaaGreatKRep
import Derived.Test.YtefclohjeompkaaGreatKJoinD
import Derived.Test.YtefclohjeompkaaGreatKCmpA
import Derived.Test.YtefclohjeompkaaGreatKRefH
import Derived.Test.YtefclohjeompkaaGreatKOfB
import Derived.Test.YtefclohjeompkaaGreatKAlike
import Derived.Test.YtefclohjeompkaaGreatKBetA
import Derived.Test.YtefclohjeompkaaGreatKLinF
/- Mem: what is needed of it. -/
namespace Go.Proofs.YtefclohjeompkaaGreat
open Go Go.RowKit Go.Shelf Go.Proofs.Gen Go.Proofs.Bdd Go.Proofs.Bdd.T
attribute [local go_sem] Oper.semAt_some
/-- One cell is as it was. -/
def CellAs (B : Nat) (W W' : World) : Prop := W'.cell? ⟨B, 0, none⟩ = W.cell? ⟨B, 0, none⟩

theorem featsTo_prefix (f k : Nat) : ∀ d, featsTo f k <+: featsTo f (k + d)
  | 0 => List.prefix_rfl
  | d + 1 => by
    refine (featsTo_prefix f k d).trans ?_
    rw [← Nat.add_assoc, featsTo_succ]
    exact List.prefix_append _ _

set_option maxRecDepth 100000 in
set_option maxHeartbeats 1600000 in
theorem members1_in (n : Nat) (hn : 1 ≤ n) (l B f : Nat) (hf : f < 4294967296) (J Jx : List Nat → World → Prop)
    (hY : ∀ pre x W, J pre W → pre.length < 25 → YieldAt Fence.wide (n - 1) Tryz.prog l #[iv x] W fun e W' =>
      (e = .returned (.bool true) ∧ J (pre ++ [x]) W' ∧ CellAs B W W') ∨ (e = .returned (.bool false) ∧ Jx (pre ++ [x]) W'))
    (W : World) (hB : W.cell? ⟨B, 0, none⟩ = some (.int .u32 f)) (h0 : J [] W) :
    CallsIn Fence.wide n Tryz.prog 71 #[.func (.yield l) #[] #[], .pointer (some ⟨B, 0, none⟩)] W fun e W' => (∃ v, e = .returned v) ∧
      ((∃ ys, ys = feats f ∧ J ys W') ∨ (∃ pre, pre <+: feats f ∧ Jx pre W')) := by
  have HY := Lib.hid hY
  clear hY
  refine callsIn_of_wp Tryz.func71 rfl trivial ?_ rfl
  simp only [Tryz.ntmps71, List.size_toArray, List.length_cons, List.length_nil, Nat.reduceAdd, Nat.reduceSub, Array.replicate_succ, Array.replicate_zero, List.push_toArray, List.append_toArray, List.nil_append, List.cons_append]
  gi_wp2
  gi_loopw [4] (fun i wr => ∃ k : Nat, k ≤ 24 ∧ i = .int .i64 k ∧ J (featsTo f k) wr ∧ wr.cell? ⟨B, 0, none⟩ = some (.int .u32 f)) (fun i _ => 24 - (intOf i).toNat)
  case atStart => exact ⟨0, Nat.zero_le _, rfl, h0, hB⟩
  case round =>
    obtain ⟨k, hk, rfl, hJ, hc⟩ := hrel
    by_cases hlt : k < 24
    · have hbit := u32_bit' f k hf (by omega)
      have hlen := featsTo_len f k
      have hs := featsTo_succ f k
      have HS := Lib.hid hs
      have hk64 : (k : Int) < 64 := by omega
      have hk24 : (k : Int) < 24 := by omega
      clear hs
      cases hb : f.testBit k with
      | true =>
        rw [hb] at hbit
        have HB := Lib.hid hb
        clear hb
        obtain ⟨fn, tmps, assign, body, hy, hR⟩ := HY.out (featsTo f k) k wr hJ (by omega)
        simp only [iv] at hy
        gi_wp2
        refine hR.mono ?_
        rintro e W3 (⟨rfl, hJ3, hk3⟩ | ⟨rfl, hJx3⟩)
        · have hc3 : W3.cell? ⟨B, 0, none⟩ = some (.int .u32 f) := Eq.trans hk3 hc
          gi_wp2
          go_roundw
          case rel => exact ⟨k + 1, by omega, by go_num, by rw [HS.out, if_pos HB.out]; exact hJ3, hc3⟩
          case measure => simp [intOf]; omega
        · gi_wp2
          refine bodyPost_ret (results_none rfl _ _ _) rfl ?_
          refine ⟨⟨_, rfl⟩, .inr ⟨featsTo f k ++ [k], ?_, hJx3⟩⟩
          have := HS.out
          rw [if_pos HB.out] at this
          rw [← this]
          have hp := featsTo_prefix f (k + 1) (24 - (k + 1))
          rw [show k + 1 + (24 - (k + 1)) = 24 from by omega] at hp
          exact hp
      | false =>
        rw [hb] at hbit
        have HB := Lib.hid hb
        clear hb
        gi_wp2
        all_goals
          refine ⟨fun _ h => (by cases h), ?_⟩
          gi_wp2
          go_roundw
          case rel => exact ⟨k + 1, by omega, by go_num, by rw [HS.out, HB.out]; simpa using hJ, hc⟩
          case measure => simp [intOf]; omega
    · have hk24 : k = 24 := by omega
      subst hk24
      gi_wp2
      go_end0
      exact ⟨⟨_, rfl⟩, .inl ⟨_, rfl, hJ⟩⟩

theorem members_stops (n : Nat) (hn : 1 ≤ n) (B f : Nat) (hf : f < 4294967296) (w : World) (hB : w.cell? ⟨B, 0, none⟩ = some (.int .u32 f)) :
    SeqStopsK Fence.wide n Tryz.prog 71 #[.pointer (some ⟨B, 0, none⟩)] (fun i : Nat => #[iv i]) (CellAs B) (fun xs => xs = feats f) (fun pre => pre <+: feats f) 25 w := by
  intro l J Jx W hb _ _ hY h0
  have hlt := World.block_lt_of_cell? w _ hB
  exact members1_in n hn l B f hf J Jx hY W ((hb.cell (p := ⟨B, 0, none⟩) hlt).trans hB) h0

set_option maxRecDepth 100000 in
set_option maxHeartbeats 400000 in
theorem members_calls (f : Nat) (w : World) : Calls Tryz.prog 26 #[.int .u32 f] w fun e w' => e = .returned (.func (.func 71) #[] #[.pointer (some ⟨w.heap.size, 0, none⟩)]) ∧ w' = w.alloc (.cells #[.int .u32 f] 40) := by
  go_enter Tryz.func26, Tryz.ntmps26
  go_wp2
  go_ret
  exact ⟨rfl, rfl⟩

end Go.Proofs.YtefclohjeompkaaGreat

/- Round: what is needed of it. -/
namespace Go.Proofs.YtefclohjeompkaaGreat
open Go Go.RowKit Go.Shelf Go.Proofs.Gen Go.Proofs.Bdd Go.Proofs.Bdd.T
def noDefer (ops : Array Oper) : Bool := ops.all fun o => match o.op with | .defer _ => false | _ => true

theorem noDefer_at {ops : Array Oper} (h : noDefer ops = true) {i : Nat} {o : Oper} (ho : ops[i]? = some o) : ∀ c, o.op ≠ .defer c := by
  intro c hc
  obtain ⟨hlt, e⟩ := Array.getElem?_eq_some_iff.1 ho
  have := (Array.all_eq_true.1 h) i hlt
  rw [e, hc] at this
  cases this

theorem wpOpIn_round {l n : Nat} {P : Program} {ops : Array Oper} {Q : Exit → Act → World → Prop} (hd : noDefer ops = true) (hQ : ¬ LetsOut Q) {i : Nat} {K K' : Act → World → Prop} {a : Act} {w : World}
    (hK : ∀ a w, K a w → K' a w) (hh : wpOp P ops Q i K a w) : wpOpIn (Fence.wide.inRound l) n P ops Q i K' a w := by
  unfold wpOp at hh
  unfold wpOpIn
  split
  · rename_i ho
    simp only [ho] at hh
    exact hK _ _ hh
  · rename_i o ho
    simp only [ho] at hh
    split
    · rename_i hw
      simp only [hw, if_true] at hh
      rcases hh with hh | ⟨_, hh⟩
      · refine ⟨fun _ _ => trivial, ?_⟩
        rw [show (Fence.wide.inRound l).round = some l from rfl, Oper.semAt_some l _ _ (noDefer_at hd ho)]
        unfold Oper.wp at hh
        generalize (execOp a.eval o).run P w = r at *
        have hwd : ∀ m : Nat, (Fence.wide.inRound l).depth.isSome = true → 1 ≤ m := fun m h => by cases h
        cases r with
        | ok x w' =>
          cases x <;> simp only [Oper.upon, Oper.uponIn] at hh ⊢ <;>
            first
              | exact hK _ _ hh
              | exact ⟨hwd _, CallsIn.inRound l (callsIn_wide.2 (Calls.mono hh (fun e w'' he => by cases e <;> first | exact hK _ _ he | exact he)))⟩
              | exact ⟨hwd _, fun c cs hr => by
                  obtain ⟨v, w'', h1, h2⟩ := hh c cs
                  exact ⟨v, w'', hK _ _ h1, stepsIn_wide.2 h2⟩⟩
        | halt x w' => cases x <;> simp only [Oper.upon, Oper.uponIn] at hh ⊢ <;> exact hh
      · exact absurd hh hQ
    · rename_i hw
      simp only [hw] at hh
      exact ⟨fun _ _ => trivial, hK _ _ hh⟩

theorem wpAnyIn_round {l n : Nat} {P : Program} {md : Region.Mode} {ops : Array Oper} {Q : Exit → Act → World → Prop} (hd : noDefer ops = true) (hQ : ¬ LetsOut Q) :
    ∀ (fuel : Nat) (listed : Array Bool) (a : Act) (w : World), wpAny P md ops Q fuel listed a w → wpAnyIn (Fence.wide.inRound l) n P md ops Q fuel listed a w
  | 0, _, _, _, h => h
  | fuel + 1, _, _, _, h => ⟨h.1, fun i hi => wpOpIn_round hd hQ (fun a' w' h' => wpAnyIn_round hd hQ fuel _ a' w' h') (h.2 i hi)⟩

/-- Number z waits for every other operation that has not come up yet. -/
def lastOf (md : Region.Mode) (ops : Array Oper) (listed : Array Bool) (z : Nat) : Bool :=
  match ops[z]? with
  | none => false
  | some o => (List.range ops.size).all fun i => i == z || (listed.getD i false || o.after.any fun e => Region.binds md e && e.on == i)

theorem lastOf_more {md : Region.Mode} {ops : Array Oper} {listed : Array Bool} {z : Nat} (h : lastOf md ops listed z = true) (j : Nat) : lastOf md ops (listed.setIfInBounds j true) z = true := by
  unfold lastOf at h ⊢
  split at h
  · cases h
  · rename_i o ho
    refine List.all_eq_true.2 fun i hi => ?_
    have h1 := List.all_eq_true.1 h i hi
    rw [Bool.or_eq_true, Bool.or_eq_true] at h1 ⊢
    refine h1.imp id (Or.imp (fun h2 => ?_) id)
    by_cases e : j = i
    · subst e
      rcases Nat.lt_or_ge j listed.size with h' | h'
      · simp [h']
      · simp [Array.getElem?_eq_none h'] at h2
    · rw [getD_set_ne false e]
      exact h2

/-- Whatever order is picked, with S behind every operation but z. -/
def wpAnyZ (P : Program) (md : Region.Mode) (ops : Array Oper) (Q : Exit → Act → World → Prop) (S : World → Prop) (z : Nat) : Nat → Array Bool → Act → World → Prop
  | 0, listed, a, w => Region.ready md ops listed = [] ∧ Q .normal a w
  | fuel + 1, listed, a, w =>
    (Region.ready md ops listed = [] → Q .normal a w) ∧
    ∀ i ∈ Region.ready md ops listed, wpOp P ops Q i (fun a' w' => (i = z ∨ S w') ∧ wpAnyZ P md ops Q S z fuel (listed.setIfInBounds i true) a' w') a w

section
variable {P : Program} {ops : Array Oper} {Q : Exit → Act → World → Prop} {md : Region.Mode} {S : World → Prop} {z : Nat}
theorem wpAny_of_Z : ∀ (fuel : Nat) (listed : Array Bool) (a : Act) (w : World), wpAnyZ P md ops Q S z fuel listed a w → wpAny P md ops Q fuel listed a w
  | 0, _, _, _, h => h
  | fuel + 1, _, _, _, h => ⟨h.1, fun i hi => wpOp_mono (fun a' w' h' => wpAny_of_Z fuel _ a' w' h'.2) (h.2 i hi)⟩

/-- Where z comes up, nothing else does. -/
theorem lastOf_alone {listed : Array Bool} (hz : lastOf md ops listed z = true) {i : Nat} (hr : z ∈ Region.ready md ops listed) (hi : i ∈ Region.ready md ops listed) : i = z := by
  obtain ⟨hun, oi, hoi, -⟩ := mem_ready.1 hi
  obtain ⟨-, oz, hoz, hall⟩ := mem_ready.1 hr
  refine Classical.byContradiction fun hne => ?_
  unfold lastOf at hz
  rw [hoz] at hz
  have h1 := List.all_eq_true.1 hz i (List.mem_range.2 (Array.getElem?_eq_some_iff.1 hoi).1)
  rw [Bool.or_eq_true, Bool.or_eq_true, beq_iff_eq] at h1
  rcases h1 with h | h | h
  · exact hne h
  · rcases Nat.lt_or_ge i listed.size with h' | h'
    · simp [h'] at hun h; rw [h] at hun; cases hun
    · simp [Array.getElem?_eq_none h'] at hun
  · obtain ⟨k, hk, h⟩ := Array.any_eq_true.1 h
    rw [Bool.and_eq_true] at h
    obtain ⟨hb, he⟩ := h
    have h2 := hall _ (Array.getElem_mem hk) hb
    rw [show (oz.after[k]).on = i by simpa using he] at h2
    rcases Nat.lt_or_ge i listed.size with h' | h'
    · simp [h'] at hun h2; rw [h2] at hun; cases hun
    · simp [Array.getElem?_eq_none h'] at hun

/-- An operation that yields its value wherever S holds may be taken first. -/
theorem wpAnyZ_first {i : Nat} {oi : Oper} {v : Value} (hi : ops[i]? = some oi) (hsel : ∀ (j : Nat) (o : Oper) cs b, ops[j]? = some o → o.op ≠ .select cs b)
    (hQ : ∀ c a w, Q (.panic c) (a.put oi.dst v) w → Q (.panic c) a w) :
    ∀ (fuel : Nat) (listed : Array Bool) (a : Act) (w : World), lastOf md ops listed z = true →
      (∀ j oj, ops[j]? = some oj → j ≠ i → listed.getD j true = false → (∀ e ∈ oj.after, Region.binds md e = true → e.on ≠ i) → oi.apart ops oj = true) →
      i ∈ Region.ready md ops listed → YieldsIf P ops S oi v a → S w →
      wpAnyZ P md ops Q S z fuel (listed.setIfInBounds i true) (a.put oi.dst v) w → wpAnyZ P md ops Q S z (fuel + 1) listed a w
  | fuel, listed, a, w, hz, hfree, hr, hy, hS, H => by
    refine ⟨fun h => absurd hr (by rw [h]; exact List.not_mem_nil), fun j hj => ?_⟩
    by_cases hji : j = i
    · subst hji
      exact hy.wpOp hi hS ⟨.inr hS, H⟩
    · cases fuel with
      | zero => exact absurd (ready_mono hj hji) (by rw [H.1]; exact List.not_mem_nil)
      | succ fuel =>
        obtain ⟨hun, oj, hoj, hall⟩ := mem_ready.1 hj
        have hnot : ∀ e ∈ oj.after, Region.binds md e = true → e.on ≠ i := fun e he hb heq => by
          have h1 := hall e he hb
          have h0 := (mem_ready.1 hr).1
          rw [heq] at h1
          rcases Nat.lt_or_ge i listed.size with h' | h'
          · simp [h'] at h0 h1; rw [h0] at h1; cases h1
          · simp [Array.getElem?_eq_none h'] at h1
        refine wpOp_mono ?_ (wpOp_putIf hoj (hfree j oj hoj hji hun hnot) (fun cs b => hsel i oi cs b hi) (fun cs b => hsel j oj cs b hoj) hQ hy (H.2 j (ready_mono hj hji)))
        rintro a' w' ⟨hy', hs', H'⟩
        have hs : S w' := hs'.resolve_left fun e => hji (by
          subst e
          exact (lastOf_alone hz hj hr).symm)
        refine ⟨.inr hs, wpAnyZ_first hi hsel hQ fuel _ a' w' (lastOf_more hz j) (fun k ok hk hki hu hno => hfree k ok hk hki ?_ hno) (ready_mono hr (Ne.symm hji)) hy' hs ?_⟩
        · by_cases hjk : j = k
          · subst hjk; exact hun
          · rw [getD_set_ne true hjk] at hu; exact hu
        · rw [Array.setIfInBounds_comm _ _ hji]
          exact H'

theorem wpAnyZ_take {listed : Array Bool} (hz : lastOf md ops listed z = true) {i : Nat} {oi : Oper} {v : Value} {fuel : Nat} {a : Act} {w : World} (hi : ops[i]? = some oi)
    (hs : Region.noSelect ops = true) (hf : Region.free md ops listed i = true) (hr : (Region.ready md ops listed).contains i = true)
    (hQ : ∀ c a w, Q (.panic c) (a.put oi.dst v) w → Q (.panic c) a w) (hy : YieldsIf P ops S oi v a) (hS : S w)
    (h : wpAnyZ P md ops Q S z fuel (listed.setIfInBounds i true) (a.put oi.dst v) w) : wpAnyZ P md ops Q S z (fuel + 1) listed a w :=
  wpAnyZ_first hi (Region.noSelect_spec hs) hQ fuel listed a w hz (Region.free_spec hi hf) (by simpa using hr) hy hS h

/-- The one operation that may come up. -/
theorem wpAnyZ_one {i : Nat} {o : Oper} {fuel : Nat} {listed : Array Bool} {a : Act} {w : World} (hr : Region.ready md ops listed = [i]) (ho : ops[i]? = some o)
    (h : ∀ K' : Act → World → Prop, Shut (∀ a w, (i = z ∨ S w) → wpAnyZ P md ops Q S z fuel (listed.setIfInBounds i true) a w → K' a w) → if Region.wanted o (yielded ops a.tmps) = true then Oper.wp P o a w K' Q else K' (a.put o.dst undef) w) :
    wpAnyZ P md ops Q S z (fuel + 1) listed a w := by
  refine ⟨fun h => absurd h (by rw [hr]; simp), fun j hj => ?_⟩
  rw [hr] at hj
  cases List.mem_singleton.1 hj
  exact wpOp_step ho (fun K' hK => h K' (fun a w hS hW => hK a w ⟨hS, hW⟩))

theorem wpAnyZ_done {listed : Array Bool} {a : Act} {w : World} (hr : Region.ready md ops listed = []) (h : Q .normal a w) : wpAnyZ P md ops Q S z 0 listed a w := ⟨hr, h⟩

end
/-- The region's law in a round: S shown of the world behind the draw, and then the walk with S. -/
theorem wpIn_region_round {l n id : Nat} {P : Program} {ops : Array Oper} {Q : Exit → Act → World → Prop} {a : Act} {w : World} (hm : P.follows .mixedOrders = true) (hd : noDefer ops = true) (hQ : ¬ LetsOut Q)
    (S : World → Prop) (z : Nat) (hS : S w.drew) (h : S w.drew → wpAnyZ P .any ops Q S z ops.size (Array.replicate ops.size false) a w.drew) : (Code.region id ops true).wpIn (Fence.wide.inRound l) n P Q a w :=
  wpIn_region_any hm (wpAnyIn_round hd hQ _ _ _ _ (wpAny_of_Z _ _ _ _ (h hS)))

end Go.Proofs.YtefclohjeompkaaGreat

/- Takes: what is needed of it. -/
namespace Go.Proofs.YtefclohjeompkaaGreat
open Go Go.RowKit Go.Shelf Go.Proofs.Gen
theorem wp_region_Z {id : Nat} {P : Program} {ops : Array Oper} {Q : Exit → Act → World → Prop} {a : Act} {w : World} (hm : P.follows .mixedOrders = true)
    (S : World → Prop) (z : Nat) (hS : S w.drew) (h : S w.drew → wpAnyZ P .any ops Q S z ops.size (Array.replicate ops.size false) a w.drew) : (Code.region id ops true).wp P Q a w :=
  wp_region_any hm (wpAny_of_Z _ _ _ _ (h hS))

theorem wp_region_A {id : Nat} {P : Program} {ops : Array Oper} {Q : Exit → Act → World → Prop} {a : Act} {w : World} (hm : P.follows .mixedOrders = true)
    (h : wpAny P .any ops Q ops.size (Array.replicate ops.size false) a w.drew) : (Code.region id ops true).wp P Q a w :=
  wp_region_any hm h

section
variable {P : Program} {Q : Exit → Act → World → Prop} {md : Region.Mode} {S : World → Prop} {z fuel : Nat} {listed : Array Bool} {a : Act} {w : World} {v : Value} {oi : Oper} {r : List Oper}
def TakeH (P : Program) (md : Region.Mode) (Q : Exit → Act → World → Prop) (S : World → Prop) (fuel : Nat) (listed : Array Bool) (a : Act) (w : World) (v : Value) (oi : Oper) (i : Nat) (L : Array Oper) : Prop :=
  ∀ (_ : Region.noSelect L = true) (_ : Region.free md L listed i = true) (_ : (Region.ready md L listed).contains i = true) (_ : ∀ c a w, Q (.panic c) (a.put oi.dst v) w → Q (.panic c) a w) (_ : YieldsIf P L S oi v a) (_ : S w)
    (_ : wpAnyH P md L Q S fuel (listed.setIfInBounds i true) (a.put oi.dst v) w), wpAnyH P md L Q S (fuel + 1) listed a w

theorem takeH_ok {i : Nat} {L : Array Oper} (hi : L[i]? = some oi) : TakeH P md Q S fuel listed a w v oi i L := fun hs hf hr hQ hy hS h => wpAnyH_take (i := i) hi hs hf hr hQ hy hS h

def TakeZ (P : Program) (md : Region.Mode) (Q : Exit → Act → World → Prop) (S : World → Prop) (z fuel : Nat) (listed : Array Bool) (a : Act) (w : World) (v : Value) (oi : Oper) (i : Nat) (L : Array Oper) : Prop :=
  ∀ (_ : lastOf md L listed z = true) (_ : Region.noSelect L = true) (_ : Region.free md L listed i = true) (_ : (Region.ready md L listed).contains i = true) (_ : ∀ c a w, Q (.panic c) (a.put oi.dst v) w → Q (.panic c) a w) (_ : YieldsIf P L S oi v a) (_ : S w)
    (_ : wpAnyZ P md L Q S z fuel (listed.setIfInBounds i true) (a.put oi.dst v) w), wpAnyZ P md L Q S z (fuel + 1) listed a w

theorem takeZ_ok {i : Nat} {L : Array Oper} (hi : L[i]? = some oi) : TakeZ P md Q S z fuel listed a w v oi i L := fun hz hs hf hr hQ hy hS h => wpAnyZ_take (i := i) hz hi hs hf hr hQ hy hS h

def TakeA (P : Program) (md : Region.Mode) (Q : Exit → Act → World → Prop) (fuel : Nat) (listed : Array Bool) (a : Act) (w : World) (v : Value) (oi : Oper) (i : Nat) (L : Array Oper) : Prop :=
  ∀ (_ : Region.noSelect L = true) (_ : Region.free md L listed i = true) (_ : (Region.ready md L listed).contains i = true) (_ : ∀ c a w, Q (.panic c) (a.put oi.dst v) w → Q (.panic c) a w) (_ : Yields P L oi v a)
    (_ : wpAny P md L Q fuel (listed.setIfInBounds i true) (a.put oi.dst v) w), wpAny P md L Q (fuel + 1) listed a w

theorem takeA_ok {i : Nat} {L : Array Oper} (hi : L[i]? = some oi) : TakeA P md Q fuel listed a w v oi i L := fun hs hf hr hQ hy h => wpAny_take (i := i) hi hs hf hr hQ hy h

def OneZ (P : Program) (md : Region.Mode) (Q : Exit → Act → World → Prop) (S : World → Prop) (z fuel : Nat) (listed : Array Bool) (a : Act) (w : World) (oi : Oper) (i : Nat) (L : Array Oper) : Prop :=
  ∀ (_ : Region.ready md L listed = [i])
    (_ : ∀ K' : Act → World → Prop, Shut (∀ a w, (i = z ∨ S w) → wpAnyZ P md L Q S z fuel (listed.setIfInBounds i true) a w → K' a w) → if Region.wanted oi (yielded L a.tmps) = true then Oper.wp P oi a w K' Q else K' (a.put oi.dst undef) w), wpAnyZ P md L Q S z (fuel + 1) listed a w

theorem oneZ_ok {i : Nat} {L : Array Oper} (hi : L[i]? = some oi) : OneZ P md Q S z fuel listed a w oi i L := fun hr h => wpAnyZ_one hr hi h

def ConsH (P : Program) (md : Region.Mode) (Q : Exit → Act → World → Prop) (S : World → Prop) (fuel : Nat) (listed : Array Bool) (a : Act) (w : World) (oi : Oper) (rs : List Nat) (i : Nat) (L : Array Oper) : Prop :=
  ∀ (_ : ∀ K' : Act → World → Prop, Shut (∀ a w, S w → (S w → wpAnyH P md L Q S fuel (listed.setIfInBounds i true) a w) → K' a w) → if Region.wanted oi (yielded L a.tmps) = true then Oper.wp P oi a w K' Q else K' (a.put oi.dst undef) w)
    (_ : AllReadyH P md L Q S fuel listed a w rs), AllReadyH P md L Q S fuel listed a w (i :: rs)

theorem consH_ok {i : Nat} {L : Array Oper} {rs : List Nat} (hi : L[i]? = some oi) : ConsH P md Q S fuel listed a w oi rs i L := fun h hs => AllReadyH.cons hi h hs

theorem takeH0 : TakeH P md Q S fuel listed a w v oi 0 (List.toArray (oi :: r)) := takeH_ok rfl

theorem takeZ0 : TakeZ P md Q S z fuel listed a w v oi 0 (List.toArray (oi :: r)) := takeZ_ok rfl

theorem takeA0 : TakeA P md Q fuel listed a w v oi 0 (List.toArray (oi :: r)) := takeA_ok rfl

theorem takeH1 {x0 : Oper} : TakeH P md Q S fuel listed a w v oi 1 (List.toArray (x0 :: oi :: r)) := takeH_ok rfl

theorem takeZ1 {x0 : Oper} : TakeZ P md Q S z fuel listed a w v oi 1 (List.toArray (x0 :: oi :: r)) := takeZ_ok rfl

theorem takeA1 {x0 : Oper} : TakeA P md Q fuel listed a w v oi 1 (List.toArray (x0 :: oi :: r)) := takeA_ok rfl

theorem takeH2 {x0 x1 : Oper} : TakeH P md Q S fuel listed a w v oi 2 (List.toArray (x0 :: x1 :: oi :: r)) := takeH_ok rfl

theorem takeZ2 {x0 x1 : Oper} : TakeZ P md Q S z fuel listed a w v oi 2 (List.toArray (x0 :: x1 :: oi :: r)) := takeZ_ok rfl

theorem takeA2 {x0 x1 : Oper} : TakeA P md Q fuel listed a w v oi 2 (List.toArray (x0 :: x1 :: oi :: r)) := takeA_ok rfl

theorem takeH3 {x0 x1 x2 : Oper} : TakeH P md Q S fuel listed a w v oi 3 (List.toArray (x0 :: x1 :: x2 :: oi :: r)) := takeH_ok rfl

theorem takeA3 {x0 x1 x2 : Oper} : TakeA P md Q fuel listed a w v oi 3 (List.toArray (x0 :: x1 :: x2 :: oi :: r)) := takeA_ok rfl

theorem oneZ3 {x0 x1 x2 : Oper} : OneZ P md Q S z fuel listed a w oi 3 (List.toArray (x0 :: x1 :: x2 :: oi :: r)) := oneZ_ok rfl

theorem takeH4 {x0 x1 x2 x3 : Oper} : TakeH P md Q S fuel listed a w v oi 4 (List.toArray (x0 :: x1 :: x2 :: x3 :: oi :: r)) := takeH_ok rfl

theorem takeZ4 {x0 x1 x2 x3 : Oper} : TakeZ P md Q S z fuel listed a w v oi 4 (List.toArray (x0 :: x1 :: x2 :: x3 :: oi :: r)) := takeZ_ok rfl

theorem takeA4 {x0 x1 x2 x3 : Oper} : TakeA P md Q fuel listed a w v oi 4 (List.toArray (x0 :: x1 :: x2 :: x3 :: oi :: r)) := takeA_ok rfl

theorem takeH5 {x0 x1 x2 x3 x4 : Oper} : TakeH P md Q S fuel listed a w v oi 5 (List.toArray (x0 :: x1 :: x2 :: x3 :: x4 :: oi :: r)) := takeH_ok rfl

theorem takeZ5 {x0 x1 x2 x3 x4 : Oper} : TakeZ P md Q S z fuel listed a w v oi 5 (List.toArray (x0 :: x1 :: x2 :: x3 :: x4 :: oi :: r)) := takeZ_ok rfl

theorem takeA5 {x0 x1 x2 x3 x4 : Oper} : TakeA P md Q fuel listed a w v oi 5 (List.toArray (x0 :: x1 :: x2 :: x3 :: x4 :: oi :: r)) := takeA_ok rfl

theorem takeH6 {x0 x1 x2 x3 x4 x5 : Oper} : TakeH P md Q S fuel listed a w v oi 6 (List.toArray (x0 :: x1 :: x2 :: x3 :: x4 :: x5 :: oi :: r)) := takeH_ok rfl

theorem takeA6 {x0 x1 x2 x3 x4 x5 : Oper} : TakeA P md Q fuel listed a w v oi 6 (List.toArray (x0 :: x1 :: x2 :: x3 :: x4 :: x5 :: oi :: r)) := takeA_ok rfl

theorem oneZ6 {x0 x1 x2 x3 x4 x5 : Oper} : OneZ P md Q S z fuel listed a w oi 6 (List.toArray (x0 :: x1 :: x2 :: x3 :: x4 :: x5 :: oi :: r)) := oneZ_ok rfl

theorem takeH7 {x0 x1 x2 x3 x4 x5 x6 : Oper} : TakeH P md Q S fuel listed a w v oi 7 (List.toArray (x0 :: x1 :: x2 :: x3 :: x4 :: x5 :: x6 :: oi :: r)) := takeH_ok rfl

theorem takeZ7 {x0 x1 x2 x3 x4 x5 x6 : Oper} : TakeZ P md Q S z fuel listed a w v oi 7 (List.toArray (x0 :: x1 :: x2 :: x3 :: x4 :: x5 :: x6 :: oi :: r)) := takeZ_ok rfl

theorem oneZ7 {x0 x1 x2 x3 x4 x5 x6 : Oper} : OneZ P md Q S z fuel listed a w oi 7 (List.toArray (x0 :: x1 :: x2 :: x3 :: x4 :: x5 :: x6 :: oi :: r)) := oneZ_ok rfl

theorem takeH8 {x0 x1 x2 x3 x4 x5 x6 x7 : Oper} : TakeH P md Q S fuel listed a w v oi 8 (List.toArray (x0 :: x1 :: x2 :: x3 :: x4 :: x5 :: x6 :: x7 :: oi :: r)) := takeH_ok rfl

theorem takeZ8 {x0 x1 x2 x3 x4 x5 x6 x7 : Oper} : TakeZ P md Q S z fuel listed a w v oi 8 (List.toArray (x0 :: x1 :: x2 :: x3 :: x4 :: x5 :: x6 :: x7 :: oi :: r)) := takeZ_ok rfl

theorem oneZ8 {x0 x1 x2 x3 x4 x5 x6 x7 : Oper} : OneZ P md Q S z fuel listed a w oi 8 (List.toArray (x0 :: x1 :: x2 :: x3 :: x4 :: x5 :: x6 :: x7 :: oi :: r)) := oneZ_ok rfl

theorem takeH9 {x0 x1 x2 x3 x4 x5 x6 x7 x8 : Oper} : TakeH P md Q S fuel listed a w v oi 9 (List.toArray (x0 :: x1 :: x2 :: x3 :: x4 :: x5 :: x6 :: x7 :: x8 :: oi :: r)) := takeH_ok rfl

theorem oneZ9 {x0 x1 x2 x3 x4 x5 x6 x7 x8 : Oper} : OneZ P md Q S z fuel listed a w oi 9 (List.toArray (x0 :: x1 :: x2 :: x3 :: x4 :: x5 :: x6 :: x7 :: x8 :: oi :: r)) := oneZ_ok rfl

theorem takeH10 {x0 x1 x2 x3 x4 x5 x6 x7 x8 x9 : Oper} : TakeH P md Q S fuel listed a w v oi 10 (List.toArray (x0 :: x1 :: x2 :: x3 :: x4 :: x5 :: x6 :: x7 :: x8 :: x9 :: oi :: r)) := takeH_ok rfl

theorem oneZ10 {x0 x1 x2 x3 x4 x5 x6 x7 x8 x9 : Oper} : OneZ P md Q S z fuel listed a w oi 10 (List.toArray (x0 :: x1 :: x2 :: x3 :: x4 :: x5 :: x6 :: x7 :: x8 :: x9 :: oi :: r)) := oneZ_ok rfl

theorem takeH11 {x0 x1 x2 x3 x4 x5 x6 x7 x8 x9 x10 : Oper} : TakeH P md Q S fuel listed a w v oi 11 (List.toArray (x0 :: x1 :: x2 :: x3 :: x4 :: x5 :: x6 :: x7 :: x8 :: x9 :: x10 :: oi :: r)) := takeH_ok rfl

theorem takeA11 {x0 x1 x2 x3 x4 x5 x6 x7 x8 x9 x10 : Oper} : TakeA P md Q fuel listed a w v oi 11 (List.toArray (x0 :: x1 :: x2 :: x3 :: x4 :: x5 :: x6 :: x7 :: x8 :: x9 :: x10 :: oi :: r)) := takeA_ok rfl

theorem takeH12 {x0 x1 x2 x3 x4 x5 x6 x7 x8 x9 x10 x11 : Oper} : TakeH P md Q S fuel listed a w v oi 12 (List.toArray (x0 :: x1 :: x2 :: x3 :: x4 :: x5 :: x6 :: x7 :: x8 :: x9 :: x10 :: x11 :: oi :: r)) := takeH_ok rfl

theorem takeA12 {x0 x1 x2 x3 x4 x5 x6 x7 x8 x9 x10 x11 : Oper} : TakeA P md Q fuel listed a w v oi 12 (List.toArray (x0 :: x1 :: x2 :: x3 :: x4 :: x5 :: x6 :: x7 :: x8 :: x9 :: x10 :: x11 :: oi :: r)) := takeA_ok rfl

theorem takeH13 {x0 x1 x2 x3 x4 x5 x6 x7 x8 x9 x10 x11 x12 : Oper} : TakeH P md Q S fuel listed a w v oi 13 (List.toArray (x0 :: x1 :: x2 :: x3 :: x4 :: x5 :: x6 :: x7 :: x8 :: x9 :: x10 :: x11 :: x12 :: oi :: r)) := takeH_ok rfl

theorem oneZ13 {x0 x1 x2 x3 x4 x5 x6 x7 x8 x9 x10 x11 x12 : Oper} : OneZ P md Q S z fuel listed a w oi 13 (List.toArray (x0 :: x1 :: x2 :: x3 :: x4 :: x5 :: x6 :: x7 :: x8 :: x9 :: x10 :: x11 :: x12 :: oi :: r)) := oneZ_ok rfl

theorem takeH14 {x0 x1 x2 x3 x4 x5 x6 x7 x8 x9 x10 x11 x12 x13 : Oper} : TakeH P md Q S fuel listed a w v oi 14 (List.toArray (x0 :: x1 :: x2 :: x3 :: x4 :: x5 :: x6 :: x7 :: x8 :: x9 :: x10 :: x11 :: x12 :: x13 :: oi :: r)) := takeH_ok rfl

theorem oneZ14 {x0 x1 x2 x3 x4 x5 x6 x7 x8 x9 x10 x11 x12 x13 : Oper} : OneZ P md Q S z fuel listed a w oi 14 (List.toArray (x0 :: x1 :: x2 :: x3 :: x4 :: x5 :: x6 :: x7 :: x8 :: x9 :: x10 :: x11 :: x12 :: x13 :: oi :: r)) := oneZ_ok rfl

theorem takeH15 {x0 x1 x2 x3 x4 x5 x6 x7 x8 x9 x10 x11 x12 x13 x14 : Oper} : TakeH P md Q S fuel listed a w v oi 15 (List.toArray (x0 :: x1 :: x2 :: x3 :: x4 :: x5 :: x6 :: x7 :: x8 :: x9 :: x10 :: x11 :: x12 :: x13 :: x14 :: oi :: r)) := takeH_ok rfl

theorem takeH16 {x0 x1 x2 x3 x4 x5 x6 x7 x8 x9 x10 x11 x12 x13 x14 x15 : Oper} : TakeH P md Q S fuel listed a w v oi 16 (List.toArray (x0 :: x1 :: x2 :: x3 :: x4 :: x5 :: x6 :: x7 :: x8 :: x9 :: x10 :: x11 :: x12 :: x13 :: x14 :: x15 :: oi :: r)) := takeH_ok rfl

theorem takeH17 {x0 x1 x2 x3 x4 x5 x6 x7 x8 x9 x10 x11 x12 x13 x14 x15 x16 : Oper} : TakeH P md Q S fuel listed a w v oi 17 (List.toArray (x0 :: x1 :: x2 :: x3 :: x4 :: x5 :: x6 :: x7 :: x8 :: x9 :: x10 :: x11 :: x12 :: x13 :: x14 :: x15 :: x16 :: oi :: r)) := takeH_ok rfl

theorem takeH18 {x0 x1 x2 x3 x4 x5 x6 x7 x8 x9 x10 x11 x12 x13 x14 x15 x16 x17 : Oper} : TakeH P md Q S fuel listed a w v oi 18 (List.toArray (x0 :: x1 :: x2 :: x3 :: x4 :: x5 :: x6 :: x7 :: x8 :: x9 :: x10 :: x11 :: x12 :: x13 :: x14 :: x15 :: x16 :: x17 :: oi :: r)) := takeH_ok rfl

theorem takeH19 {x0 x1 x2 x3 x4 x5 x6 x7 x8 x9 x10 x11 x12 x13 x14 x15 x16 x17 x18 : Oper} : TakeH P md Q S fuel listed a w v oi 19 (List.toArray (x0 :: x1 :: x2 :: x3 :: x4 :: x5 :: x6 :: x7 :: x8 :: x9 :: x10 :: x11 :: x12 :: x13 :: x14 :: x15 :: x16 :: x17 :: x18 :: oi :: r)) := takeH_ok rfl

theorem takeH20 {x0 x1 x2 x3 x4 x5 x6 x7 x8 x9 x10 x11 x12 x13 x14 x15 x16 x17 x18 x19 : Oper} : TakeH P md Q S fuel listed a w v oi 20 (List.toArray (x0 :: x1 :: x2 :: x3 :: x4 :: x5 :: x6 :: x7 :: x8 :: x9 :: x10 :: x11 :: x12 :: x13 :: x14 :: x15 :: x16 :: x17 :: x18 :: x19 :: oi :: r)) := takeH_ok rfl

theorem takeH21 {x0 x1 x2 x3 x4 x5 x6 x7 x8 x9 x10 x11 x12 x13 x14 x15 x16 x17 x18 x19 x20 : Oper} : TakeH P md Q S fuel listed a w v oi 21 (List.toArray (x0 :: x1 :: x2 :: x3 :: x4 :: x5 :: x6 :: x7 :: x8 :: x9 :: x10 :: x11 :: x12 :: x13 :: x14 :: x15 :: x16 :: x17 :: x18 :: x19 :: x20 :: oi :: r)) := takeH_ok rfl

theorem takeH22 {x0 x1 x2 x3 x4 x5 x6 x7 x8 x9 x10 x11 x12 x13 x14 x15 x16 x17 x18 x19 x20 x21 : Oper} : TakeH P md Q S fuel listed a w v oi 22 (List.toArray (x0 :: x1 :: x2 :: x3 :: x4 :: x5 :: x6 :: x7 :: x8 :: x9 :: x10 :: x11 :: x12 :: x13 :: x14 :: x15 :: x16 :: x17 :: x18 :: x19 :: x20 :: x21 :: oi :: r)) := takeH_ok rfl

theorem takeH23 {x0 x1 x2 x3 x4 x5 x6 x7 x8 x9 x10 x11 x12 x13 x14 x15 x16 x17 x18 x19 x20 x21 x22 : Oper} : TakeH P md Q S fuel listed a w v oi 23 (List.toArray (x0 :: x1 :: x2 :: x3 :: x4 :: x5 :: x6 :: x7 :: x8 :: x9 :: x10 :: x11 :: x12 :: x13 :: x14 :: x15 :: x16 :: x17 :: x18 :: x19 :: x20 :: x21 :: x22 :: oi :: r)) := takeH_ok rfl

theorem takeH24 {x0 x1 x2 x3 x4 x5 x6 x7 x8 x9 x10 x11 x12 x13 x14 x15 x16 x17 x18 x19 x20 x21 x22 x23 : Oper} : TakeH P md Q S fuel listed a w v oi 24 (List.toArray (x0 :: x1 :: x2 :: x3 :: x4 :: x5 :: x6 :: x7 :: x8 :: x9 :: x10 :: x11 :: x12 :: x13 :: x14 :: x15 :: x16 :: x17 :: x18 :: x19 :: x20 :: x21 :: x22 :: x23 :: oi :: r)) := takeH_ok rfl

theorem takeH25 {x0 x1 x2 x3 x4 x5 x6 x7 x8 x9 x10 x11 x12 x13 x14 x15 x16 x17 x18 x19 x20 x21 x22 x23 x24 : Oper} : TakeH P md Q S fuel listed a w v oi 25 (List.toArray (x0 :: x1 :: x2 :: x3 :: x4 :: x5 :: x6 :: x7 :: x8 :: x9 :: x10 :: x11 :: x12 :: x13 :: x14 :: x15 :: x16 :: x17 :: x18 :: x19 :: x20 :: x21 :: x22 :: x23 :: x24 :: oi :: r)) := takeH_ok rfl

theorem takeH26 {x0 x1 x2 x3 x4 x5 x6 x7 x8 x9 x10 x11 x12 x13 x14 x15 x16 x17 x18 x19 x20 x21 x22 x23 x24 x25 : Oper} : TakeH P md Q S fuel listed a w v oi 26 (List.toArray (x0 :: x1 :: x2 :: x3 :: x4 :: x5 :: x6 :: x7 :: x8 :: x9 :: x10 :: x11 :: x12 :: x13 :: x14 :: x15 :: x16 :: x17 :: x18 :: x19 :: x20 :: x21 :: x22 :: x23 :: x24 :: x25 :: oi :: r)) := takeH_ok rfl

theorem takeH27 {x0 x1 x2 x3 x4 x5 x6 x7 x8 x9 x10 x11 x12 x13 x14 x15 x16 x17 x18 x19 x20 x21 x22 x23 x24 x25 x26 : Oper} : TakeH P md Q S fuel listed a w v oi 27 (List.toArray (x0 :: x1 :: x2 :: x3 :: x4 :: x5 :: x6 :: x7 :: x8 :: x9 :: x10 :: x11 :: x12 :: x13 :: x14 :: x15 :: x16 :: x17 :: x18 :: x19 :: x20 :: x21 :: x22 :: x23 :: x24 :: x25 :: x26 :: oi :: r)) := takeH_ok rfl

theorem takeH28 {x0 x1 x2 x3 x4 x5 x6 x7 x8 x9 x10 x11 x12 x13 x14 x15 x16 x17 x18 x19 x20 x21 x22 x23 x24 x25 x26 x27 : Oper} : TakeH P md Q S fuel listed a w v oi 28 (List.toArray (x0 :: x1 :: x2 :: x3 :: x4 :: x5 :: x6 :: x7 :: x8 :: x9 :: x10 :: x11 :: x12 :: x13 :: x14 :: x15 :: x16 :: x17 :: x18 :: x19 :: x20 :: x21 :: x22 :: x23 :: x24 :: x25 :: x26 :: x27 :: oi :: r)) := takeH_ok rfl

theorem takeH29 {x0 x1 x2 x3 x4 x5 x6 x7 x8 x9 x10 x11 x12 x13 x14 x15 x16 x17 x18 x19 x20 x21 x22 x23 x24 x25 x26 x27 x28 : Oper} : TakeH P md Q S fuel listed a w v oi 29 (List.toArray (x0 :: x1 :: x2 :: x3 :: x4 :: x5 :: x6 :: x7 :: x8 :: x9 :: x10 :: x11 :: x12 :: x13 :: x14 :: x15 :: x16 :: x17 :: x18 :: x19 :: x20 :: x21 :: x22 :: x23 :: x24 :: x25 :: x26 :: x27 :: x28 :: oi :: r)) := takeH_ok rfl

theorem takeH30 {x0 x1 x2 x3 x4 x5 x6 x7 x8 x9 x10 x11 x12 x13 x14 x15 x16 x17 x18 x19 x20 x21 x22 x23 x24 x25 x26 x27 x28 x29 : Oper} : TakeH P md Q S fuel listed a w v oi 30 (List.toArray (x0 :: x1 :: x2 :: x3 :: x4 :: x5 :: x6 :: x7 :: x8 :: x9 :: x10 :: x11 :: x12 :: x13 :: x14 :: x15 :: x16 :: x17 :: x18 :: x19 :: x20 :: x21 :: x22 :: x23 :: x24 :: x25 :: x26 :: x27 :: x28 :: x29 :: oi :: r)) := takeH_ok rfl

theorem takeH31 {x0 x1 x2 x3 x4 x5 x6 x7 x8 x9 x10 x11 x12 x13 x14 x15 x16 x17 x18 x19 x20 x21 x22 x23 x24 x25 x26 x27 x28 x29 x30 : Oper} : TakeH P md Q S fuel listed a w v oi 31 (List.toArray (x0 :: x1 :: x2 :: x3 :: x4 :: x5 :: x6 :: x7 :: x8 :: x9 :: x10 :: x11 :: x12 :: x13 :: x14 :: x15 :: x16 :: x17 :: x18 :: x19 :: x20 :: x21 :: x22 :: x23 :: x24 :: x25 :: x26 :: x27 :: x28 :: x29 :: x30 :: oi :: r)) := takeH_ok rfl

theorem takeH32 {x0 x1 x2 x3 x4 x5 x6 x7 x8 x9 x10 x11 x12 x13 x14 x15 x16 x17 x18 x19 x20 x21 x22 x23 x24 x25 x26 x27 x28 x29 x30 x31 : Oper} : TakeH P md Q S fuel listed a w v oi 32 (List.toArray (x0 :: x1 :: x2 :: x3 :: x4 :: x5 :: x6 :: x7 :: x8 :: x9 :: x10 :: x11 :: x12 :: x13 :: x14 :: x15 :: x16 :: x17 :: x18 :: x19 :: x20 :: x21 :: x22 :: x23 :: x24 :: x25 :: x26 :: x27 :: x28 :: x29 :: x30 :: x31 :: oi :: r)) := takeH_ok rfl

theorem consH33 {x0 x1 x2 x3 x4 x5 x6 x7 x8 x9 x10 x11 x12 x13 x14 x15 x16 x17 x18 x19 x20 x21 x22 x23 x24 x25 x26 x27 x28 x29 x30 x31 x32 : Oper} {rs : List Nat} : ConsH P md Q S fuel listed a w oi rs 33 (List.toArray (x0 :: x1 :: x2 :: x3 :: x4 :: x5 :: x6 :: x7 :: x8 :: x9 :: x10 :: x11 :: x12 :: x13 :: x14 :: x15 :: x16 :: x17 :: x18 :: x19 :: x20 :: x21 :: x22 :: x23 :: x24 :: x25 :: x26 :: x27 :: x28 :: x29 :: x30 :: x31 :: x32 :: oi :: r)) := consH_ok rfl

theorem takeH34 {x0 x1 x2 x3 x4 x5 x6 x7 x8 x9 x10 x11 x12 x13 x14 x15 x16 x17 x18 x19 x20 x21 x22 x23 x24 x25 x26 x27 x28 x29 x30 x31 x32 x33 : Oper} : TakeH P md Q S fuel listed a w v oi 34 (List.toArray (x0 :: x1 :: x2 :: x3 :: x4 :: x5 :: x6 :: x7 :: x8 :: x9 :: x10 :: x11 :: x12 :: x13 :: x14 :: x15 :: x16 :: x17 :: x18 :: x19 :: x20 :: x21 :: x22 :: x23 :: x24 :: x25 :: x26 :: x27 :: x28 :: x29 :: x30 :: x31 :: x32 :: x33 :: oi :: r)) := takeH_ok rfl

theorem consH35 {x0 x1 x2 x3 x4 x5 x6 x7 x8 x9 x10 x11 x12 x13 x14 x15 x16 x17 x18 x19 x20 x21 x22 x23 x24 x25 x26 x27 x28 x29 x30 x31 x32 x33 x34 : Oper} {rs : List Nat} : ConsH P md Q S fuel listed a w oi rs 35 (List.toArray (x0 :: x1 :: x2 :: x3 :: x4 :: x5 :: x6 :: x7 :: x8 :: x9 :: x10 :: x11 :: x12 :: x13 :: x14 :: x15 :: x16 :: x17 :: x18 :: x19 :: x20 :: x21 :: x22 :: x23 :: x24 :: x25 :: x26 :: x27 :: x28 :: x29 :: x30 :: x31 :: x32 :: x33 :: x34 :: oi :: r)) := consH_ok rfl

theorem consH36 {x0 x1 x2 x3 x4 x5 x6 x7 x8 x9 x10 x11 x12 x13 x14 x15 x16 x17 x18 x19 x20 x21 x22 x23 x24 x25 x26 x27 x28 x29 x30 x31 x32 x33 x34 x35 : Oper} {rs : List Nat} : ConsH P md Q S fuel listed a w oi rs 36 (List.toArray (x0 :: x1 :: x2 :: x3 :: x4 :: x5 :: x6 :: x7 :: x8 :: x9 :: x10 :: x11 :: x12 :: x13 :: x14 :: x15 :: x16 :: x17 :: x18 :: x19 :: x20 :: x21 :: x22 :: x23 :: x24 :: x25 :: x26 :: x27 :: x28 :: x29 :: x30 :: x31 :: x32 :: x33 :: x34 :: x35 :: oi :: r)) := consH_ok rfl

end
end Go.Proofs.YtefclohjeompkaaGreat

/- LinG: what is needed of it. -/
namespace Go.Proofs.YtefclohjeompkaaGreat
open Go Go.RowKit Go.Proofs.Gen Go.Proofs.Bdd Go.Proofs.Bdd.T
set_option maxRecDepth 100000 in
set_option maxHeartbeats 6400000 in
set_option linter.unusedSimpArgs false in
theorem from_new {w : World} {b mb : Nat} {S : Nat → Prop} {cost : Nat → Int} {g : Int → Bool} {ev : Value} {kv : Nat → Value} {es : List Dec} {L : List T} {ks : Nat → List Dec} {i k : Nat} (hik : i + k = 23) (h : FromPre w b mb S cost g ev kv es L ks (k + 1)) {s : Int}
    (hs : -(2147483648 * (i : Int)) ≤ s ∧ s ≤ 2147483648 * (i : Int)) (hno : ∀ y ∈ ks i, ¬ inSpan s y)
    (ih : ∀ (w : World) (S : Nat → Prop) (L : List T) (kv : Nat → Value) (ks : Nat → List Dec) (s j : Int), FromPre w b mb S cost g ev kv es L ks k → j = (i : Int) + 1 → -(2147483648 * ((i : Int) + 1)) ≤ s ∧ s ≤ 2147483648 * ((i : Int) + 1) →
      Calls Tryz.prog 90 #[.pointer (some ⟨b, 0, none⟩), .int .i64 j, .int .i64 s] w (FromPost w b mb S cost g ev es L ks k s)) :
    Calls Tryz.prog 90 #[.pointer (some ⟨b, 0, none⟩), .int .i64 i, .int .i64 s] w (FromPost w b mb S cost g ev es L ks (k + 1) s) := by
  obtain ⟨i0, hi0, jz0, jz1, jz2⟩ := info_parts info188
  have hi : i < 24 := by omega
  have hi' : (i : Int) < 24 := by omega
  have hi1 : IntKind.i64.wrap ((i : Int) + 1) = (i : Int) + 1 := IntWalk.i64_in _ (by omega)
  have A0 := (Near.refl w).alloc (.cells #[.int .i64 0, .int .i64 0, .int .i64 0] 134)
  have g25 : (w.alloc (.cells #[.int .i64 0, .int .i64 0, .int .i64 0] 134)).cell? ⟨b, 25, none⟩ = some ev := A0.cell (cell1 (o := 25) h.box.blk (by rw [List.getElem?_toArray]; exact linCells_ends))
  have g26 : (w.alloc (.cells #[.int .i64 0, .int .i64 0, .int .i64 0] 134)).cell? ⟨b, 26 + i, none⟩ = some (kv i) := A0.cell (cell1 (o := 26 + i) h.box.blk (by rw [List.getElem?_toArray]; exact linCells_known hi))
  obtain ⟨ao, cap, hv, hc⟩ := RdDec.row (h.box.rows i hi)
  rw [hv] at g26
  have HC := Lib.hid hc
  have HV := Lib.hid hv
  have HP := Lib.hid h
  have HNO := Lib.hid hno
  have HIH := Lib.hid ih
  have HS := Lib.hid hs
  have hll : (ks i).length < 67108864 := by have := h.rooms i; have := Nat.one_le_two_pow (n := k + 1); omega
  clear hc hv h hno ih hs
  generalize hl : ks i = l at *
  have HL := Lib.hid hl
  clear hl
  go_enter Tryz.func90, Tryz.ntmps90
  go_wp2_with fail
  have hN1 := (Near.refl w).alloc (.cells #[.int .i64 0, .int .i64 0, .int .i64 0] 134)
  have hres : (w.alloc (.cells #[.int .i64 0, .int .i64 0, .int .i64 0] 134)).heap[w.heap.size]? = some (.cells #[.int .i64 0, .int .i64 0, .int .i64 0] 134 (0, 0)) := heap_new_at rfl
  have hsz1 : (w.alloc (.cells #[.int .i64 0, .int .i64 0, .int .i64 0] 134)).heap.size = w.heap.size + 1 := by simp
  clear g25 g26 A0
  generalize w.alloc (.cells #[.int .i64 0, .int .i64 0, .int .i64 0] 134) = W1 at *
  have HN1 := Lib.hid hN1
  have HRES := Lib.hid hres
  have HSZ1 := Lib.hid hsz1
  clear hN1 hres hsz1
  go_loopw [27] (fun i wr => ∃ k : Nat, k ≤ l.length ∧ i = .int .i64 k ∧ Near W1 wr) (fun i _ => l.length - (intOf i).toNat)
  case atStart => exact ⟨0, Nat.zero_le _, rfl, Near.refl _⟩
  case round =>
    obtain ⟨q, hq, rfl, hn⟩ := hrel
    by_cases hlt : q < l.length
    · have hlt' : (q : Int) < l.length := by omega
      obtain ⟨gg, off, rfl, x0, x1, x2⟩ := HC.out q _ (List.getElem?_eq_getElem hlt)
      have p0 := hn.cell (HN1.out.cell x0)
      have p1 := hn.cell (HN1.out.cell x1)
      have p2 := hn.cell (HN1.out.cell x2)
      have hnot := HNO.out _ (List.getElem_mem hlt)
      clear x0 x1 x2
      generalize l[q] = y at p0 p1 p2 hnot
      obtain ⟨yv, yl, yp⟩ := y
      unfold inSpan at hnot
      simp only at p0 p1 p2 hnot
      have A0 := ((Near.refl wr).alloc (.cells #[.int .i64 yv, .int .i64 yl, .int .i64 yp] 134))
      by_cases h1 : yv ≤ s
      · have h2 : ¬ (s ≤ yl) := fun h => hnot ⟨h1, h⟩
        clear hnot
        go_wp2_with fail
        exact ⟨⟨q + 1, by omega, by simp, hn.trans A0⟩, by simp [intOf]; omega⟩
      · clear hnot
        go_wp2_with fail
        exact ⟨⟨q + 1, by omega, by simp, hn.trans A0⟩, by simp [intOf]; omega⟩
    · have hqe : ¬ ((q : Int) < l.length) := by omega
      have hsw := hn.size'
      have hs1 := HSZ1.out
      have hP := HP.out.shrink (HN1.out.trans hn) (z := w.heap.size) (Nat.le_refl _) (by omega)
      have HPw := Lib.hid hP
      have HNr := Lib.hid hn
      clear hP hn
      have hcost := HP.out.costs i
      have hs := HS.out
      have hw2 : IntKind.i64.wrap (s + cost i) = s + cost i := IntWalk.i64_in _ (by omega)
      have hb1 := Lib.hid (show -(2147483648 * ((i : Int) + 1)) ≤ s ∧ s ≤ 2147483648 * ((i : Int) + 1) by omega)
      have hb2 := Lib.hid (show -(2147483648 * ((i : Int) + 1)) ≤ s + cost i ∧ s + cost i ≤ 2147483648 * ((i : Int) + 1) by omega)
      clear hs hcost
      go_wp2_with (first
        | (go_at_call 90; refine (HIH.out _ _ L1 kv1 ks1 (s + cost i) _ (P2.out.shrink ((Near.refl w1).alloc _) (z := w1.heap.size) (Nat.le_refl _) (by simp)) rfl hb2.out).mono ?_; rintro e w2 ⟨⟨xv2, xl2, xp2⟩, L2, kv2, ks2, rfl, hpost2⟩; have HQ2 := Lib.hid hpost2; clear hpost2)
        | (go_at_call 90; refine (HIH.out _ _ L kv ks s _ HPw.out.less rfl hb1.out).mono ?_; rintro e w1 ⟨⟨xv1, xl1, xp1⟩, L1, kv1, ks1, rfl, hpost1⟩; have HQ1 := Lib.hid hpost1; clear hpost1; have P2 := Lib.hid (HPw.out.next (Nat.le_refl k) HQ1.out.1 HQ1.out.2.2.2.1 HQ1.out.2.2.2.2.1 HQ1.out.2.2.2.2.2.1 HQ1.out.2.2.2.2.2.2.2.1 HQ1.out.2.2.2.2.2.2.2.2); have c1 := ((Near.refl w1).alloc (.cells #[.int .i64 xv1, .int .i64 xl1, .int .i64 xp1] 134)).cell (P2.out.cost hi)))
      have hA : (w1.alloc (.cells #[.int .i64 xv1, .int .i64 xl1, .int .i64 xp1] 134)).heap[w1.heap.size]? = some (.cells #[.int .i64 xv1, .int .i64 xl1, .int .i64 xp1] 134 (0, 0)) := heap_new_at rfl
      have hK1 := HQ1.out.2.2.2.2.2.2.2.2
      have hK2 := HQ2.out.2.2.2.2.2.2.2.2
      have hz1 := hK1.size
      have hz2 := hK2.size
      have hzA : (w1.alloc (.cells #[.int .i64 xv1, .int .i64 xl1, .int .i64 xp1] 134)).heap.size = w1.heap.size + 1 := by simp
      have hA2 := (hK2.block w1.heap.size (by omega) (fun h => h.2 rfl)).trans hA
      have hR1 := (hK1.block w.heap.size (by omega) (fun h => h.2 rfl)).trans (keepN HNr.out HRES.out)
      have hR2 := (hK2.block w.heap.size (by omega) (fun h => h.1.2 rfl)).trans (keepN ((Near.refl w1).alloc (.cells #[.int .i64 xv1, .int .i64 xl1, .int .i64 xp1] 134)) hR1)
      have hB3 : (w2.alloc (.cells #[.int .i64 xv2, .int .i64 xl2, .int .i64 xp2] 134)).heap[w2.heap.size]? = some (.cells #[.int .i64 xv2, .int .i64 xl2, .int .i64 xp2] 134 (0, 0)) := heap_new_at rfl
      have N3 := (Near.refl w2).alloc (.cells #[.int .i64 xv2, .int .i64 xl2, .int .i64 xp2] 134)
      have hA3 := keepN N3 hA2
      have hR3 := keepN N3 hR2
      have hI3 := HQ2.out.1.kept N3
      have hz3 : (w2.alloc (.cells #[.int .i64 xv2, .int .i64 xl2, .int .i64 xp2] 134)).heap.size = w2.heap.size + 1 := by simp
      have HN3 := Lib.hid N3
      clear hA hA2 hR1 hR2 c1 N3
      generalize w2.alloc (.cells #[.int .i64 xv2, .int .i64 xl2, .int .i64 xp2] 134) = W3 at *
      obtain ⟨t1, i1, e1, f1, o1, l1, r1⟩ := HQ1.out.2.1
      obtain ⟨t2, i2, e2, f2, o2, l2, r2⟩ := HQ2.out.2.1
      obtain ⟨M2, hM2⟩ := HQ2.out.2.2.2.1
      have i1' : T.In L2 t1 := by rw [hM2]; exact i1.mono M2
      have e1' : xp1 = (pl L2 t1 : Nat) := by rw [hM2, T.pl_append i1]; exact e1
      have hc := HP.out.costs i
      simp only at r1 r2
      have hk24 : (k : Int) ≤ 23 := by omega
      have hv2 : IntKind.i64.wrap (xv2 - cost i) = xv2 - cost i := IntWalk.i64_in _ (by omega)
      have hv3 : IntKind.i64.wrap (xl2 - cost i) = xl2 - cost i := IntWalk.i64_in _ (by omega)
      have hlen2 : L2.length < 1099511627776 := by
        have a1 := HQ2.out.2.2.2.2.1
        have a2 := HQ1.out.2.2.2.2.1
        have a3 := HP.out.room
        have a4 : 2 ^ (k + 1) = 2 ^ k + 2 ^ k := by rw [Nat.pow_succ]; omega
        omega
      have hS3 : ∀ kk, W3.drew.heap.size ≤ kk → (fun kk => ((S kk ∧ kk ≠ w.heap.size) ∧ kk ≠ w1.heap.size) ∧ ¬ Oth W3.drew kk) kk := by
        intro kk hkk
        have hkk' : W3.heap.size ≤ kk := hkk
        refine ⟨⟨⟨HP.out.base kk (by omega), by omega⟩, by omega⟩, ?_⟩
        rintro ⟨cs, t, fr, hb, -⟩
        have := (Array.getElem?_eq_some_iff.1 hb).1
        omega
      have hsk : ∀ w', Kept (fun kk => ((S kk ∧ kk ≠ w.heap.size) ∧ kk ≠ w1.heap.size) ∧ ¬ Oth W3.drew kk) W3.drew w' →
          w'.cell? ⟨w1.heap.size, 0, none⟩ = some (.int .i64 xv1) ∧ w'.cell? ⟨w1.heap.size, 1, none⟩ = some (.int .i64 xl1) ∧ w'.cell? ⟨w1.heap.size, 2, none⟩ = some (.int .i64 xp1) ∧
          w'.cell? ⟨w2.heap.size, 0, none⟩ = some (.int .i64 xv2) ∧ w'.cell? ⟨w2.heap.size, 1, none⟩ = some (.int .i64 xl2) ∧ w'.cell? ⟨w2.heap.size, 2, none⟩ = some (.int .i64 xp2) ∧
          w'.cell? ⟨b, 0, none⟩ = some (.pointer (some ⟨mb, 0, none⟩)) ∧ w'.cell? ⟨b, 1 + i, none⟩ = some (.int .i64 (cost i)) := by
        intro w' hk
        have a1 := (hk.block _ (Array.getElem?_eq_some_iff.1 hA3).1 (fun h => h.2 ⟨_, _, _, hA3, by decide, by decide⟩)).trans hA3
        have a2 := (hk.block _ (Array.getElem?_eq_some_iff.1 hB3).1 (fun h => h.2 ⟨_, _, _, hB3, by decide, by decide⟩)).trans hB3
        have a3 := (hk.block _ (Array.getElem?_eq_some_iff.1 hI3.blk).1 (fun h => h.2 ⟨_, _, _, hI3.blk, by decide, by decide⟩)).trans hI3.blk
        exact ⟨cell1 (o := 0) a1 rfl, cell1 (o := 1) a1 rfl, cell1 (o := 2) a1 rfl, cell1 (o := 0) a2 rfl, cell1 (o := 1) a2 rfl, cell1 (o := 2) a2 rfl, cell1 (o := 0) a3 rfl, cell1 (o := 1 + i) a3 (by rw [List.getElem?_toArray]; exact linCells_cost hi)⟩
      have HSK := Lib.hid hsk
      have HS3 := Lib.hid hS3
      have HA3 := Lib.hid hA3
      have HB3 := Lib.hid hB3
      have HR3 := Lib.hid hR3
      have HI3 := Lib.hid hI3
      have HMk := Lib.hid (hI3.maker.near (Near.refl W3).drew).avoidOth
      have HG := Lib.hid hI3.good
      have HF1 := Lib.hid f1
      have HF2 := Lib.hid f2
      have HE1 := Lib.hid e1'
      have HE2 := Lib.hid e2
      have HR1 := Lib.hid r1
      have HR2 := Lib.hid r2
      clear hsk hS3 hA3 hB3 hR3 hI3 f1 f2 r1 r2 hK1 hK2 e1 e2 e1' hM2 hc
      have HZ3 := Lib.hid hz3
      clear hz3 hzA hs1 hsw
      refine wp_region_noPanic ?_
      refine wp_region_held_drew (S := (fun w' => w'.cell? ⟨w1.heap.size, 0, none⟩ = some (.int .i64 xv1) ∧ w'.cell? ⟨w1.heap.size, 1, none⟩ = some (.int .i64 xl1) ∧ w'.cell? ⟨w1.heap.size, 2, none⟩ = some (.int .i64 xp1) ∧
          w'.cell? ⟨w2.heap.size, 0, none⟩ = some (.int .i64 xv2) ∧ w'.cell? ⟨w2.heap.size, 1, none⟩ = some (.int .i64 xl2) ∧ w'.cell? ⟨w2.heap.size, 2, none⟩ = some (.int .i64 xp2) ∧
          w'.cell? ⟨b, 0, none⟩ = some (.pointer (some ⟨mb, 0, none⟩)) ∧ w'.cell? ⟨b, 1 + i, none⟩ = some (.int .i64 (cost i)))) (by kernel_rfl) (HSK.out _ (Kept.refl _ _)) (fun hHeld => ?_)
      refine takeH0 (v := Value.pointer (some ⟨w1.heap.size, 0, none⟩)) (by kernel_rfl) (by kernel_rfl) (by kernel_rfl) (fun _ _ _ h => h) (Or.inl ⟨by rfl, fun w' hSw => ?_⟩) hHeld ?_
      · go_simp
      simp only [Act.put, List.setIfInBounds_toArray, List.set_cons_zero, List.set_cons_succ]
      refine takeH1 (v := Value.int .i64 (xv1)) (by kernel_rfl) (by kernel_rfl) (by kernel_rfl) (fun _ _ _ h => h) (Or.inl ⟨by rfl, fun w' hSw => ?_⟩) hHeld ?_
      · go_simp
      simp only [Act.put, List.setIfInBounds_toArray, List.set_cons_zero, List.set_cons_succ]
      refine takeH2 (v := Value.pointer (some ⟨w2.heap.size, 0, none⟩)) (by kernel_rfl) (by kernel_rfl) (by kernel_rfl) (fun _ _ _ h => h) (Or.inl ⟨by rfl, fun w' hSw => ?_⟩) hHeld ?_
      · go_simp
      simp only [Act.put, List.setIfInBounds_toArray, List.set_cons_zero, List.set_cons_succ]
      refine takeH3 (v := Value.int .i64 (xv2)) (by kernel_rfl) (by kernel_rfl) (by kernel_rfl) (fun _ _ _ h => h) (Or.inl ⟨by rfl, fun w' hSw => ?_⟩) hHeld ?_
      · go_simp
      simp only [Act.put, List.setIfInBounds_toArray, List.set_cons_zero, List.set_cons_succ]
      refine takeH4 (v := Value.pointer (some ⟨b, 0, none⟩)) (by kernel_rfl) (by kernel_rfl) (by kernel_rfl) (fun _ _ _ h => h) (Or.inl ⟨by rfl, fun w' hSw => ?_⟩) hHeld ?_
      · go_simp
      simp only [Act.put, List.setIfInBounds_toArray, List.set_cons_zero, List.set_cons_succ]
      refine takeH5 (v := Value.int .i64 ((i : Int))) (by kernel_rfl) (by kernel_rfl) (by kernel_rfl) (fun _ _ _ h => h) (Or.inl ⟨by rfl, fun w' hSw => ?_⟩) hHeld ?_
      · go_simp
      simp only [Act.put, List.setIfInBounds_toArray, List.set_cons_zero, List.set_cons_succ]
      refine takeH6 (v := Value.pointer (some ⟨b, 0, none⟩)) (by kernel_rfl) (by kernel_rfl) (by kernel_rfl) (fun _ _ _ h => h) (Or.inl ⟨by rfl, fun w' hSw => ?_⟩) hHeld ?_
      · go_simp
      simp only [Act.put, List.setIfInBounds_toArray, List.set_cons_zero, List.set_cons_succ]
      refine takeH7 (v := Value.pointer (some ⟨b, 1, none⟩)) (by kernel_rfl) (by kernel_rfl) (by kernel_rfl) (fun _ _ _ h => h) (Or.inl ⟨by rfl, fun w' hSw => ?_⟩) hHeld ?_
      · go_simp
      simp only [Act.put, List.setIfInBounds_toArray, List.set_cons_zero, List.set_cons_succ]
      refine takeH8 (v := Value.pointer (some ⟨b, 1 + i, none⟩)) (by kernel_rfl) (by kernel_rfl) (by kernel_rfl) (fun _ _ _ h => h) (Or.inl ⟨by rfl, fun w' hSw => ?_⟩) hHeld ?_
      · go_simp
      simp only [Act.put, List.setIfInBounds_toArray, List.set_cons_zero, List.set_cons_succ]
      refine takeH9 (v := Value.int .i64 (cost i)) (by kernel_rfl) (by kernel_rfl) (by kernel_rfl) (fun _ _ _ h => h) (Or.inl ⟨by rfl, fun w' hSw => ?_⟩) hHeld ?_
      · go_simp
      simp only [Act.put, List.setIfInBounds_toArray, List.set_cons_zero, List.set_cons_succ]
      refine takeH10 (v := Value.int .i64 (xv2 - cost i)) (by kernel_rfl) (by kernel_rfl) (by kernel_rfl) (fun _ _ _ h => h) (Or.inl ⟨by rfl, fun w' hSw => ?_⟩) hHeld ?_
      · go_simp
      simp only [Act.put, List.setIfInBounds_toArray, List.set_cons_zero, List.set_cons_succ]
      refine takeH11 (v := Value.int .i64 (max xv1 (xv2 - cost i))) (by kernel_rfl) (by kernel_rfl) (by kernel_rfl) (fun _ _ _ h => h) (Or.inl ⟨by rfl, fun w' hSw => ?_⟩) hHeld ?_
      · by_cases hm : xv1 < xv2 - cost i
        · rw [show max xv1 (xv2 - cost i) = xv2 - cost i by omega]; go_simp
        · rw [show max xv1 (xv2 - cost i) = xv1 by omega]; go_simp
      simp only [Act.put, List.setIfInBounds_toArray, List.set_cons_zero, List.set_cons_succ]
      refine takeH12 (v := Value.pointer (some ⟨w1.heap.size, 1, none⟩)) (by kernel_rfl) (by kernel_rfl) (by kernel_rfl) (fun _ _ _ h => h) (Or.inl ⟨by rfl, fun w' hSw => ?_⟩) hHeld ?_
      · go_simp
      simp only [Act.put, List.setIfInBounds_toArray, List.set_cons_zero, List.set_cons_succ]
      refine takeH13 (v := Value.int .i64 (xl1)) (by kernel_rfl) (by kernel_rfl) (by kernel_rfl) (fun _ _ _ h => h) (Or.inl ⟨by rfl, fun w' hSw => ?_⟩) hHeld ?_
      · go_simp
      simp only [Act.put, List.setIfInBounds_toArray, List.set_cons_zero, List.set_cons_succ]
      refine takeH14 (v := Value.pointer (some ⟨w2.heap.size, 1, none⟩)) (by kernel_rfl) (by kernel_rfl) (by kernel_rfl) (fun _ _ _ h => h) (Or.inl ⟨by rfl, fun w' hSw => ?_⟩) hHeld ?_
      · go_simp
      simp only [Act.put, List.setIfInBounds_toArray, List.set_cons_zero, List.set_cons_succ]
      refine takeH15 (v := Value.int .i64 (xl2)) (by kernel_rfl) (by kernel_rfl) (by kernel_rfl) (fun _ _ _ h => h) (Or.inl ⟨by rfl, fun w' hSw => ?_⟩) hHeld ?_
      · go_simp
      simp only [Act.put, List.setIfInBounds_toArray, List.set_cons_zero, List.set_cons_succ]
      refine takeH16 (v := Value.pointer (some ⟨b, 0, none⟩)) (by kernel_rfl) (by kernel_rfl) (by kernel_rfl) (fun _ _ _ h => h) (Or.inl ⟨by rfl, fun w' hSw => ?_⟩) hHeld ?_
      · go_simp
      simp only [Act.put, List.setIfInBounds_toArray, List.set_cons_zero, List.set_cons_succ]
      refine takeH17 (v := Value.int .i64 ((i : Int))) (by kernel_rfl) (by kernel_rfl) (by kernel_rfl) (fun _ _ _ h => h) (Or.inl ⟨by rfl, fun w' hSw => ?_⟩) hHeld ?_
      · go_simp
      simp only [Act.put, List.setIfInBounds_toArray, List.set_cons_zero, List.set_cons_succ]
      refine takeH18 (v := Value.pointer (some ⟨b, 0, none⟩)) (by kernel_rfl) (by kernel_rfl) (by kernel_rfl) (fun _ _ _ h => h) (Or.inl ⟨by rfl, fun w' hSw => ?_⟩) hHeld ?_
      · go_simp
      simp only [Act.put, List.setIfInBounds_toArray, List.set_cons_zero, List.set_cons_succ]
      refine takeH19 (v := Value.pointer (some ⟨b, 1, none⟩)) (by kernel_rfl) (by kernel_rfl) (by kernel_rfl) (fun _ _ _ h => h) (Or.inl ⟨by rfl, fun w' hSw => ?_⟩) hHeld ?_
      · go_simp
      simp only [Act.put, List.setIfInBounds_toArray, List.set_cons_zero, List.set_cons_succ]
      refine takeH20 (v := Value.pointer (some ⟨b, 1 + i, none⟩)) (by kernel_rfl) (by kernel_rfl) (by kernel_rfl) (fun _ _ _ h => h) (Or.inl ⟨by rfl, fun w' hSw => ?_⟩) hHeld ?_
      · go_simp
      simp only [Act.put, List.setIfInBounds_toArray, List.set_cons_zero, List.set_cons_succ]
      refine takeH21 (v := Value.int .i64 (cost i)) (by kernel_rfl) (by kernel_rfl) (by kernel_rfl) (fun _ _ _ h => h) (Or.inl ⟨by rfl, fun w' hSw => ?_⟩) hHeld ?_
      · go_simp
      simp only [Act.put, List.setIfInBounds_toArray, List.set_cons_zero, List.set_cons_succ]
      refine takeH22 (v := Value.int .i64 (xl2 - cost i)) (by kernel_rfl) (by kernel_rfl) (by kernel_rfl) (fun _ _ _ h => h) (Or.inl ⟨by rfl, fun w' hSw => ?_⟩) hHeld ?_
      · go_simp
      simp only [Act.put, List.setIfInBounds_toArray, List.set_cons_zero, List.set_cons_succ]
      refine takeH23 (v := Value.int .i64 (min xl1 (xl2 - cost i))) (by kernel_rfl) (by kernel_rfl) (by kernel_rfl) (fun _ _ _ h => h) (Or.inl ⟨by rfl, fun w' hSw => ?_⟩) hHeld ?_
      · by_cases hm : xl2 - cost i < xl1
        · rw [show min xl1 (xl2 - cost i) = xl2 - cost i by omega]; go_simp
        · rw [show min xl1 (xl2 - cost i) = xl1 by omega]; go_simp
      simp only [Act.put, List.setIfInBounds_toArray, List.set_cons_zero, List.set_cons_succ]
      refine takeH24 (v := Value.pointer (some ⟨b, 0, none⟩)) (by kernel_rfl) (by kernel_rfl) (by kernel_rfl) (fun _ _ _ h => h) (Or.inl ⟨by rfl, fun w' hSw => ?_⟩) hHeld ?_
      · go_simp
      simp only [Act.put, List.setIfInBounds_toArray, List.set_cons_zero, List.set_cons_succ]
      refine takeH25 (v := Value.pointer (some ⟨b, 0, none⟩)) (by kernel_rfl) (by kernel_rfl) (by kernel_rfl) (fun _ _ _ h => h) (Or.inl ⟨by rfl, fun w' hSw => ?_⟩) hHeld ?_
      · go_simp
      simp only [Act.put, List.setIfInBounds_toArray, List.set_cons_zero, List.set_cons_succ]
      refine takeH26 (v := Value.pointer (some ⟨b, 0, none⟩)) (by kernel_rfl) (by kernel_rfl) (by kernel_rfl) (fun _ _ _ h => h) (Or.inl ⟨by rfl, fun w' hSw => ?_⟩) hHeld ?_
      · go_simp
      simp only [Act.put, List.setIfInBounds_toArray, List.set_cons_zero, List.set_cons_succ]
      refine takeH27 (v := Value.pointer (some ⟨mb, 0, none⟩)) (by kernel_rfl) (by kernel_rfl) (by kernel_rfl) (fun _ _ _ h => h) (Or.inl ⟨by rfl, fun w' hSw => ?_⟩) hHeld ?_
      · go_simp
      simp only [Act.put, List.setIfInBounds_toArray, List.set_cons_zero, List.set_cons_succ]
      refine takeH28 (v := Value.int .i64 ((i : Int))) (by kernel_rfl) (by kernel_rfl) (by kernel_rfl) (fun _ _ _ h => h) (Or.inl ⟨by rfl, fun w' hSw => ?_⟩) hHeld ?_
      · go_simp
      simp only [Act.put, List.setIfInBounds_toArray, List.set_cons_zero, List.set_cons_succ]
      refine takeH29 (v := Value.pointer (some ⟨w1.heap.size, 2, none⟩)) (by kernel_rfl) (by kernel_rfl) (by kernel_rfl) (fun _ _ _ h => h) (Or.inl ⟨by rfl, fun w' hSw => ?_⟩) hHeld ?_
      · go_simp
      simp only [Act.put, List.setIfInBounds_toArray, List.set_cons_zero, List.set_cons_succ]
      refine takeH30 (v := Value.int .i64 (xp1)) (by kernel_rfl) (by kernel_rfl) (by kernel_rfl) (fun _ _ _ h => h) (Or.inl ⟨by rfl, fun w' hSw => ?_⟩) hHeld ?_
      · go_simp
      simp only [Act.put, List.setIfInBounds_toArray, List.set_cons_zero, List.set_cons_succ]
      refine takeH31 (v := Value.pointer (some ⟨w2.heap.size, 2, none⟩)) (by kernel_rfl) (by kernel_rfl) (by kernel_rfl) (fun _ _ _ h => h) (Or.inl ⟨by rfl, fun w' hSw => ?_⟩) hHeld ?_
      · go_simp
      simp only [Act.put, List.setIfInBounds_toArray, List.set_cons_zero, List.set_cons_succ]
      refine takeH32 (v := Value.int .i64 (xp2)) (by kernel_rfl) (by kernel_rfl) (by kernel_rfl) (fun _ _ _ h => h) (Or.inl ⟨by rfl, fun w' hSw => ?_⟩) hHeld ?_
      · go_simp
      simp only [Act.put, List.setIfInBounds_toArray, List.set_cons_zero, List.set_cons_succ]
      refine wpAnyH_ready (rs := [33, 35]) (by kernel_rfl) (by simp) ?_
      refine consH33 (fun K hK => ?_) ?_
      · go_simp
        go_at_call 85; refine (node_calls (S := fun kk => ((S kk ∧ kk ≠ w.heap.size) ∧ kk ≠ w1.heap.size) ∧ ¬ Oth W3.drew kk) HG.out i1' i2 hi hlen2 HS3.out HMk.out rfl HE1.out HE2.out).mono ?_; rintro e w4 ⟨rfl, hm4, hk4⟩; have HM4 := Lib.hid hm4; have HK4 := Lib.hid hk4; clear hm4 hk4
        refine hK.out _ _ (HSK.out _ HK4.out) (fun hHeld => ?_)
        clear hK K
        try simp only [Act.put, List.setIfInBounds_toArray, List.set_cons_zero, List.set_cons_succ]
        refine takeH34 (v := Value.agg #[Value.int .i64 (max xv1 (xv2 - cost i)), Value.int .i64 (min xl1 (xl2 - cost i)), Value.int .i64 (pl (T.add L2 i t1 t2) (T.mk i t1 t2) : Nat)]) (by kernel_rfl) (by kernel_rfl) (by kernel_rfl) (fun _ _ _ h => h) (Or.inl ⟨by rfl, fun w' hSw => ?_⟩) hHeld ?_
        · go_simp
        simp only [Act.put, List.setIfInBounds_toArray, List.set_cons_zero, List.set_cons_succ]
        refine wpAnyH_ready (rs := [35]) (by kernel_rfl) (by simp) ?_
        refine consH35 (fun K hK => ?_) ?_
        · go_simp
          refine hK.out _ _ (HSK.out _ (HK4.out.alloc _)) (fun hHeld => ?_)
          clear hK K
          try simp only [Act.put, List.setIfInBounds_toArray, List.set_cons_zero, List.set_cons_succ]
          have zb : (w4.alloc (.cells #[.int .i64 0, .int .i64 0, .int .i64 0] 134)).heap[w4.heap.size]? = some (.cells #[.int .i64 0, .int .i64 0, .int .i64 0] 134 (0, 0)) := heap_new_at rfl
          have z0 := cell1 (o := 0) zb rfl
          have z1 := cell1 (o := 1) zb rfl
          have z2 := cell1 (o := 2) zb rfl
          have zf := free1 zb
          refine wpAnyH_ready (rs := [36]) (by kernel_rfl) (by simp) ?_
          refine consH36 (fun K hK => ?_) ?_
          · go_simp
            refine hK.out _ _ (HSK.out _ (HK4.out.alloc _)) (fun hHeld => ?_)
            clear hK K
            try simp only [Act.put, List.setIfInBounds_toArray, List.set_cons_zero, List.set_cons_succ]
            refine wpAnyH_done (by kernel_rfl) ?_ _
            refine NoPanic.normal ?_
            have hT : (w4.alloc (.cells #[Value.int .i64 (max xv1 (xv2 - cost i)), Value.int .i64 (min xl1 (xl2 - cost i)), Value.int .i64 (pl (T.add L2 i t1 t2) (T.mk i t1 t2) : Nat)] 134)).heap[w4.heap.size]? = some (.cells #[Value.int .i64 (max xv1 (xv2 - cost i)), Value.int .i64 (min xl1 (xl2 - cost i)), Value.int .i64 (pl (T.add L2 i t1 t2) (T.mk i t1 t2) : Nat)] 134 (0, 0)) := heap_new_at rfl
            have hm5 : IsMaker (w4.alloc (.cells #[Value.int .i64 (max xv1 (xv2 - cost i)), Value.int .i64 (min xl1 (xl2 - cost i)), Value.int .i64 (pl (T.add L2 i t1 t2) (T.mk i t1 t2) : Nat)] 134)) mb (fun kk => ((S kk ∧ kk ≠ w.heap.size) ∧ kk ≠ w1.heap.size) ∧ ¬ Oth W3.drew kk) (T.add L2 i t1 t2) := HM4.out.near ((Near.refl w4).alloc _)
            have hk5 : Kept (fun kk => ((S kk ∧ kk ≠ w.heap.size) ∧ kk ≠ w1.heap.size) ∧ ¬ Oth W3.drew kk) W3.drew (w4.alloc (.cells #[Value.int .i64 (max xv1 (xv2 - cost i)), Value.int .i64 (min xl1 (xl2 - cost i)), Value.int .i64 (pl (T.add L2 i t1 t2) (T.mk i t1 t2) : Nat)] 134)) := HK4.out.alloc _
            have hp : W3.heap.size ≤ w4.heap.size := HK4.out.size
            clear z0 z1 z2 zf hHeld
            generalize hV : w4.alloc (.cells #[Value.int .i64 (max xv1 (xv2 - cost i)), Value.int .i64 (min xl1 (xl2 - cost i)), Value.int .i64 (pl (T.add L2 i t1 t2) (T.mk i t1 t2) : Nat)] 134) = V at hT hm5 hk5 ⊢
            have HT := Lib.hid hT
            have HM6 := Lib.hid hm5
            have HK5 := Lib.hid hk5
            clear hV hT hm5 hk5
            obtain ⟨pb, epb⟩ : ∃ x, x = w4.heap.size := ⟨_, rfl⟩
            rw [← epb] at HT ⊢
            replace hp : W3.heap.size ≤ pb := by rw [epb]; exact hp
            clear epb
            have HI6 := Lib.hid ((HI3.out.kept (Near.refl W3).drew).node (T.add_good HG.out i1' i2 hi (by omega) (by omega) o1 o2) HM6.out HK5.out)
            have hks : ks2 i = l := ((HQ2.out.2.2.2.2.2.2.1 i (by omega)).trans (HQ1.out.2.2.2.2.2.2.1 i (by omega))).trans HL.out
            have hnl : (ks2 i).length < 67108864 := by rw [hks]; exact hll
            have HNL := Lib.hid hnl
            obtain ⟨ao2, cap2, hkv⟩ := owns_form (HI6.out.rows i hi)
            have gkv := cell1 (o := 26 + i) HI6.out.blk (by rw [List.getElem?_toArray]; exact linCells_known hi)
            have hrow := HI6.out.rows i hi
            have HNB := Lib.hid (row_ne hrow HI6.out.blk (by decide))
            have HNP := Lib.hid (show ∀ kk, (kv2 i).ownBlock = some kk → kk < W3.heap.size from fun kk e => ((HI3.out.rows i hi).lt kk e).2)
            rw [hkv] at gkv hrow
            have HROW := Lib.hid hrow
            have HKV := Lib.hid hkv
            have u0 := cell1 (o := 0) HT.out rfl
            have u1 := cell1 (o := 1) HT.out rfl
            have u2 := cell1 (o := 2) HT.out rfl
            have HBL := Lib.hid (Array.getElem?_eq_some_iff.1 HI3.out.blk).1
            have HPB := Lib.hid hp
            have HSK2 := Lib.hid (show ∀ w', Kept (fun kk => (kv2 i).ownBlock = some kk) V w' → w'.cell? ⟨b, 26 + i, none⟩ = some (Value.slice ao2 (ks2 i).length cap2) ∧ w'.cell? ⟨pb, 0, none⟩ = some (Value.int .i64 (max xv1 (xv2 - cost i))) ∧ w'.cell? ⟨pb, 1, none⟩ = some (Value.int .i64 (min xl1 (xl2 - cost i))) ∧ w'.cell? ⟨pb, 2, none⟩ = some (Value.int .i64 (pl (T.add L2 i t1 t2) (T.mk i t1 t2) : Nat)) from fun w' hk => ⟨hk.cell gkv HNB.out, hk.cell u0 (fun e => Nat.not_le.2 (HNP.out _ e) HPB.out), hk.cell u1 (fun e => Nat.not_le.2 (HNP.out _ e) HPB.out), hk.cell u2 (fun e => Nat.not_le.2 (HNP.out _ e) HPB.out)⟩)
            clear hks hkv gkv hrow u0 u1 u2 hnl hp
            go_wp2_with fail
            refine wp_region_noPanic ?_
            refine wp_region_A (by kernel_rfl) ?_
            refine takeA0 (v := Value.pointer (some ⟨b, 0, none⟩)) (by kernel_rfl) (by kernel_rfl) (by kernel_rfl) (fun _ _ _ h => h) (Or.inl ⟨by rfl, fun w' => ?_⟩) ?_
            · go_simp
            simp only [Act.put, List.setIfInBounds_toArray, List.set_cons_zero, List.set_cons_succ]
            refine takeA1 (v := Value.int .i64 ((i : Int))) (by kernel_rfl) (by kernel_rfl) (by kernel_rfl) (fun _ _ _ h => h) (Or.inl ⟨by rfl, fun w' => ?_⟩) ?_
            · go_simp
            simp only [Act.put, List.setIfInBounds_toArray, List.set_cons_zero, List.set_cons_succ]
            refine takeA2 (v := Value.pointer (some ⟨b, 0, none⟩)) (by kernel_rfl) (by kernel_rfl) (by kernel_rfl) (fun _ _ _ h => h) (Or.inl ⟨by rfl, fun w' => ?_⟩) ?_
            · go_simp
            simp only [Act.put, List.setIfInBounds_toArray, List.set_cons_zero, List.set_cons_succ]
            refine takeA3 (v := Value.int .i64 ((i : Int))) (by kernel_rfl) (by kernel_rfl) (by kernel_rfl) (fun _ _ _ h => h) (Or.inl ⟨by rfl, fun w' => ?_⟩) ?_
            · go_simp
            simp only [Act.put, List.setIfInBounds_toArray, List.set_cons_zero, List.set_cons_succ]
            refine takeA4 (v := Value.pointer (some ⟨b, 0, none⟩)) (by kernel_rfl) (by kernel_rfl) (by kernel_rfl) (fun _ _ _ h => h) (Or.inl ⟨by rfl, fun w' => ?_⟩) ?_
            · go_simp
            simp only [Act.put, List.setIfInBounds_toArray, List.set_cons_zero, List.set_cons_succ]
            refine takeA5 (v := Value.pointer (some ⟨b, 26, none⟩)) (by kernel_rfl) (by kernel_rfl) (by kernel_rfl) (fun _ _ _ h => h) (Or.inl ⟨by rfl, fun w' => ?_⟩) ?_
            · go_simp
            simp only [Act.put, List.setIfInBounds_toArray, List.set_cons_zero, List.set_cons_succ]
            refine takeA6 (v := Value.pointer (some ⟨b, 26 + i, none⟩)) (by kernel_rfl) (by kernel_rfl) (by kernel_rfl) (fun _ _ _ h => h) (Or.inl ⟨by rfl, fun w' => ?_⟩) ?_
            · go_simp
            simp only [Act.put, List.setIfInBounds_toArray, List.set_cons_zero, List.set_cons_succ]
            refine takeA11 (v := Value.pointer (some ⟨b, 0, none⟩)) (by kernel_rfl) (by kernel_rfl) (by kernel_rfl) (fun _ _ _ h => h) (Or.inl ⟨by rfl, fun w' => ?_⟩) ?_
            · go_simp
            simp only [Act.put, List.setIfInBounds_toArray, List.set_cons_zero, List.set_cons_succ]
            refine takeA12 (v := Value.pointer (some ⟨b, 26, none⟩)) (by kernel_rfl) (by kernel_rfl) (by kernel_rfl) (fun _ _ _ h => h) (Or.inl ⟨by rfl, fun w' => ?_⟩) ?_
            · go_simp
            simp only [Act.put, List.setIfInBounds_toArray, List.set_cons_zero, List.set_cons_succ]
            refine wpAny_of_Z (S := (fun w' => w'.cell? ⟨b, 26 + i, none⟩ = some (Value.slice ao2 (ks2 i).length cap2) ∧ w'.cell? ⟨pb, 0, none⟩ = some (Value.int .i64 (max xv1 (xv2 - cost i))) ∧ w'.cell? ⟨pb, 1, none⟩ = some (Value.int .i64 (min xl1 (xl2 - cost i))) ∧ w'.cell? ⟨pb, 2, none⟩ = some (Value.int .i64 (pl (T.add L2 i t1 t2) (T.mk i t1 t2) : Nat)))) (z := 14) _ _ _ _ ?_
            have hHeld := HSK2.out _ (Kept.refl _ V).drew
            refine takeZ7 (v := Value.slice ao2 (ks2 i).length cap2) (by kernel_rfl) (by kernel_rfl) (by kernel_rfl) (by kernel_rfl) (fun _ _ _ h => h) (Or.inl ⟨by rfl, fun w' hSw => ?_⟩) hHeld ?_
            · go_simp
            simp only [Act.put, List.setIfInBounds_toArray, List.set_cons_zero, List.set_cons_succ]
            refine takeZ8 (v := Value.agg #[Value.int .i64 (max xv1 (xv2 - cost i)), Value.int .i64 (min xl1 (xl2 - cost i)), Value.int .i64 (pl (T.add L2 i t1 t2) (T.mk i t1 t2) : Nat)]) (by kernel_rfl) (by kernel_rfl) (by kernel_rfl) (by kernel_rfl) (fun _ _ _ h => h) (Or.inl ⟨by rfl, fun w' hSw => ?_⟩) hHeld ?_
            · go_simp
            simp only [Act.put, List.setIfInBounds_toArray, List.set_cons_zero, List.set_cons_succ]
            refine oneZ9 (by kernel_rfl) (fun K hK => ?_)
            go_simp
            refine hK.out _ _ (.inr (HSK2.out _ ((Kept.refl _ V).drew.alloc _))) ?_
            clear hK K hHeld
            try simp only [Act.put, List.setIfInBounds_toArray, List.set_cons_zero, List.set_cons_succ]
            refine oneZ10 (by kernel_rfl) (fun K hK => ?_)
            refine step_append_keep rfl (.tmp 102) (.tmp 104) 129 rfl 0 134 i0 (.agg #[.int .i64 0, .int .i64 0, .int .i64 0]) 3 24 Tryz.underlying129 hi0 jz0 jz1 jz2 rfl (by decide) _ _ _ rfl (owns_kept HROW.out (((Near.refl V).drew).alloc _) (fun _ _ h => h)) ⟨V.heap.size, 0, none⟩ 1 1 [Value.int .i64 (max xv1 (xv2 - cost i)), Value.int .i64 (min xl1 (xl2 - cost i)), Value.int .i64 (pl (T.add L2 i t1 t2) (T.mk i t1 t2) : Nat)] rfl rfl (cell_three_at rfl _ _ _ _) (by simp [Value.oneCell']) (by have := HNL.out; unfold maxLen; omega) (by have := HNL.out; omega) (Nat.zero_le _) ?_
            intro ao6 cap6 w6 hown6 hg6 hl6 _
            have HK6 := Lib.hid (Kept.grown ((Kept.refl (fun kk => (kv2 i).ownBlock = some kk) V).drew.alloc _) hg6 (fun kk e _ => by rw [HKV.out]; exact e))
            have HOW6 := Lib.hid hown6
            have HL6 := Lib.hid hl6
            have hh6 := HSK2.out _ HK6.out
            refine hK.out _ _ (.inr hh6) ?_
            clear hK K hown6 hg6 hl6
            try simp only [Act.put, List.setIfInBounds_toArray, List.set_cons_zero, List.set_cons_succ]
            have HPX := Lib.hid hh6
            clear hh6
            refine oneZ13 (by kernel_rfl) (fun K hK => ?_)
            go_simp
            refine hK.out _ _ (.inr HPX.out) ?_
            clear hK K
            try simp only [Act.put, List.setIfInBounds_toArray, List.set_cons_zero, List.set_cons_succ]
            have c6 := HPX.out.1
            have f6 := free1 ((HK6.out.block b (Nat.lt_of_lt_of_le HBL.out HK5.out.size) HNB.out).trans HI6.out.blk)
            refine oneZ14 (by kernel_rfl) (fun K hK => ?_)
            go_simp
            refine hK.out _ _ (.inl rfl) ?_
            clear hK K c6 f6
            try simp only [Act.put, List.setIfInBounds_toArray, List.set_cons_zero, List.set_cons_succ]
            refine wpAnyZ_done (by kernel_rfl) ?_
            refine NoPanic.normal ?_
            have hbl := HBL.out
            have hpb := HPB.out
            have hsz5 := HK5.out.size
            have hb6 := (HK6.out.block b (Nat.lt_of_lt_of_le HBL.out HK5.out.size) HNB.out).trans HI6.out.blk
            obtain ⟨hbox, hk7⟩ := HI6.out.app hi (y := spanOf (cost i) (pl (T.add L2 i t1 t2) (T.mk i t1 t2) : Nat) ⟨xv1, xl1, xp1⟩ ⟨xv2, xl2, xp2⟩) HOW6.out HK6.out (by rw [HKV.out]; exact HL6.out.imp id (fun e => ⟨_, e, by simp⟩)) (fun kk h => (HS3.out kk (Nat.le_trans HK5.out.size h)).1) _ rfl
            have hT7 := (Kept.setCell (S := fun kk => (kv2 i).ownBlock = some kk ∨ kk = b) (Kept.mono HK6.out (fun _ _ h => Or.inl h)) (p := ⟨b, 26 + i, none⟩) (fun _ => Or.inr rfl) (Value.slice ao6 ((ks2 i).length + 1) cap6)).block pb (Array.getElem?_eq_some_iff.1 HT.out).1 (fun h => h.elim (fun e => Nat.not_le.2 (HNP.out _ e) hpb) (fun e => Nat.not_le.2 hbl (e ▸ hpb)))
            replace hT7 := hT7.trans HT.out
            have hr3 := (Array.getElem?_eq_some_iff.1 HR3.out).1
            have hR5 := (HK5.out.block w.heap.size hr3 (fun h => h.1.1.2 rfl)).trans HR3.out
            have hR7 := (hk7.block w.heap.size (Nat.lt_of_lt_of_le hr3 hsz5) (fun h => h.1.2 rfl)).trans hR5
            have HBX := Lib.hid hbox
            have HK7 := Lib.hid hk7
            clear hbox hk7 hR5 hb6 hbl hpb hsz5 hr3
            generalize hW : w6.setCell ⟨b, 26 + i, none⟩ (Value.slice ao6 ((ks2 i).length + 1) cap6) = W7 at HBX HK7 hT7 hR7 ⊢
            clear hW
            have q0 := cell1 (o := 0) hT7 rfl
            have q1 := cell1 (o := 1) hT7 rfl
            have q2 := cell1 (o := 2) hT7 rfl
            have z0 := cell1 (o := 0) hR7 rfl
            have z1 := cell1 (o := 1) hR7 rfl
            have z2 := cell1 (o := 2) hR7 rfl
            have zf := free1 hR7
            have HR7 := Lib.hid hR7
            clear hT7 hR7
            go_wp2_with fail
            have hR8 := setCell_heap (setCell_heap (setCell_heap HR7.out 0 (Value.int .i64 (max xv1 (xv2 - cost i)))) 1 (Value.int .i64 (min xl1 (xl2 - cost i)))) 2 (Value.int .i64 (pl (T.add L2 i t1 t2) (T.mk i t1 t2) : Nat))
            simp only [List.setIfInBounds_toArray, List.set_cons_zero, List.set_cons_succ] at hR8
            have hk8 := Kept.setCell (S := fun kk => kk = w.heap.size) (Kept.setCell (S := fun kk => kk = w.heap.size) (Kept.setCell (S := fun kk => kk = w.heap.size) (Kept.refl (fun kk => kk = w.heap.size) W7) (p := ⟨w.heap.size, 0, none⟩) (fun _ => rfl) (Value.int .i64 (max xv1 (xv2 - cost i)))) (p := ⟨w.heap.size, 1, none⟩) (fun _ => rfl) (Value.int .i64 (min xl1 (xl2 - cost i)))) (p := ⟨w.heap.size, 2, none⟩) (fun _ => rfl) (Value.int .i64 (pl (T.add L2 i t1 t2) (T.mk i t1 t2) : Nat))
            generalize hW8 : ((W7.setCell ⟨w.heap.size, 0, none⟩ (Value.int .i64 (max xv1 (xv2 - cost i)))).setCell ⟨w.heap.size, 1, none⟩ (Value.int .i64 (min xl1 (xl2 - cost i)))).setCell ⟨w.heap.size, 2, none⟩ (Value.int .i64 (pl (T.add L2 i t1 t2) (T.mk i t1 t2) : Nat)) = W8 at hR8 hk8 ⊢
            have y0 := cell1 (o := 0) hR8 rfl
            have y1 := cell1 (o := 1) hR8 rfl
            have y2 := cell1 (o := 2) hR8 rfl
            have hbox8 := (HBX.out.keptOf hk8 (fun kk e h => h.1.2 e) (fun kk e e2 => Nat.lt_irrefl _ (e2 ▸ (HP.out.box.ends.lt kk e).2))).mono_lt (R := S) (fun kk _ h => h.1.1)
            have hk1 : Kept S w (w1.alloc (.cells #[.int .i64 xv1, .int .i64 xl1, .int .i64 xp1] 134)) := ((Kept.mono (HN1.out.trans HNr.out) (fun _ _ f => f.elim)).trans (Kept.mono HQ1.out.2.2.2.2.2.2.2.2 (fun _ _ h => h.1))).alloc _
            have hk3 : Kept S w W3 := (hk1.trans (Kept.mono HQ2.out.2.2.2.2.2.2.2.2 (fun _ _ h => h.1.1))).trans (Kept.mono HN3.out (fun _ _ f => f.elim))
            have hkept : Kept S w W8 := ((hk3.drew.trans (Kept.mono HK5.out (fun _ _ h => h.1.1.1))).trans (Kept.mono HK7.out (fun _ _ h => h.1.1))).trans (Kept.mono hk8 (fun kk _ e => HP.out.base kk (Nat.le_of_eq e.symm)))
            exact bodyPost_ret (v := .agg #[Value.int .i64 (max xv1 (xv2 - cost i)), Value.int .i64 (min xl1 (xl2 - cost i)), Value.int .i64 (pl (T.add L2 i t1 t2) (T.mk i t1 t2) : Nat)]) (by simp [results, Tryz.results90, go_sem, y0, y1, y2]) rfl (from_join hik rfl (HP.out.costs i) HQ1.out HQ2.out i1' HF1.out o1 l1 HF2.out o2 l2 HR1.out HR2.out hbox8 hkept)
          · exact AllReadyH.nil
        · exact AllReadyH.nil
      refine consH35 (fun K hK => ?_) ?_
      · go_simp
        refine hK.out _ _ (HSK.out _ (Kept.alloc (Kept.refl _ W3.drew) _)) (fun hHeld => ?_)
        clear hK K
        try simp only [Act.put, List.setIfInBounds_toArray, List.set_cons_zero, List.set_cons_succ]
        refine wpAnyH_ready (rs := [33]) (by kernel_rfl) (by simp) ?_
        refine consH33 (fun K hK => ?_) ?_
        · go_simp
          go_at_call 85; refine (node_calls (S := fun kk => (((S kk ∧ kk ≠ w.heap.size) ∧ kk ≠ w1.heap.size) ∧ ¬ Oth W3.drew kk) ∧ kk ≠ W3.drew.heap.size) HG.out i1' i2 hi hlen2 (fun kk hkk => ⟨HS3.out kk (Nat.le_trans (by simp) hkk), fun e => absurd hkk (by rw [e]; simp)⟩) ((HMk.out.mono_lt (fun kk hk hs => ⟨hs, Nat.ne_of_lt hk⟩)).near ((Near.refl W3.drew).alloc _)) rfl HE1.out HE2.out).mono ?_; rintro e w4 ⟨rfl, hm4, hk4⟩; have hb4 := (hk4.block W3.drew.heap.size (by simp) (fun h => h.2 rfl)).trans (heap_new_at rfl); have z0 : w4.cell? ⟨W3.heap.size, 0, none⟩ = some (.int .i64 0) := cell1 (o := 0) hb4 rfl; have z1 : w4.cell? ⟨W3.heap.size, 1, none⟩ = some (.int .i64 0) := cell1 (o := 1) hb4 rfl; have z2 : w4.cell? ⟨W3.heap.size, 2, none⟩ = some (.int .i64 0) := cell1 (o := 2) hb4 rfl; have zf : ∀ o, w4.frozen? ⟨W3.heap.size, o, none⟩ = false := free1 hb4; have HM5 := Lib.hid hm4; have HK4 := Lib.hid ((Kept.alloc (Kept.refl _ W3.drew) _).trans (Kept.mono hk4 (fun _ _ h => h.1))); clear hm4 hk4
          refine hK.out _ _ (HSK.out _ HK4.out) (fun hHeld => ?_)
          clear hK K
          try simp only [Act.put, List.setIfInBounds_toArray, List.set_cons_zero, List.set_cons_succ]
          refine takeH34 (v := Value.agg #[Value.int .i64 (max xv1 (xv2 - cost i)), Value.int .i64 (min xl1 (xl2 - cost i)), Value.int .i64 (pl (T.add L2 i t1 t2) (T.mk i t1 t2) : Nat)]) (by kernel_rfl) (by kernel_rfl) (by kernel_rfl) (fun _ _ _ h => h) (Or.inl ⟨by rfl, fun w' hSw => ?_⟩) hHeld ?_
          · go_simp
          simp only [Act.put, List.setIfInBounds_toArray, List.set_cons_zero, List.set_cons_succ]
          refine wpAnyH_ready (rs := [36]) (by kernel_rfl) (by simp) ?_
          refine consH36 (fun K hK => ?_) ?_
          · go_simp
            refine hK.out _ _ (HSK.out _ (Kept.setCell (Kept.setCell (Kept.setCell HK4.out (fun h => absurd h (Nat.lt_irrefl _)) _) (fun h => absurd h (Nat.lt_irrefl _)) _) (fun h => absurd h (Nat.lt_irrefl _)) _)) (fun hHeld => ?_)
            clear hK K
            try simp only [Act.put, List.setIfInBounds_toArray, List.set_cons_zero, List.set_cons_succ]
            refine wpAnyH_done (by kernel_rfl) ?_ _
            refine NoPanic.normal ?_
            have hb4' : w4.heap[W3.heap.size]? = some (.cells #[Value.int .i64 0, Value.int .i64 0, Value.int .i64 0] 134 (0, 0)) := hb4
            have hT := setCell_heap (setCell_heap (setCell_heap hb4' 0 (Value.int .i64 (max xv1 (xv2 - cost i)))) 1 (Value.int .i64 (min xl1 (xl2 - cost i)))) 2 (Value.int .i64 (pl (T.add L2 i t1 t2) (T.mk i t1 t2) : Nat))
            simp only [List.setIfInBounds_toArray, List.set_cons_zero, List.set_cons_succ] at hT
            have hkB := Kept.setCell (S := fun kk => kk = W3.heap.size) (Kept.setCell (S := fun kk => kk = W3.heap.size) (Kept.setCell (S := fun kk => kk = W3.heap.size) (Kept.refl (fun kk => kk = W3.heap.size) w4) (p := ⟨W3.heap.size, 0, none⟩) (fun _ => rfl) (Value.int .i64 (max xv1 (xv2 - cost i)))) (p := ⟨W3.heap.size, 1, none⟩) (fun _ => rfl) (Value.int .i64 (min xl1 (xl2 - cost i)))) (p := ⟨W3.heap.size, 2, none⟩) (fun _ => rfl) (Value.int .i64 (pl (T.add L2 i t1 t2) (T.mk i t1 t2) : Nat))
            have hm5 : IsMaker (((w4.setCell ⟨W3.heap.size, 0, none⟩ (Value.int .i64 (max xv1 (xv2 - cost i)))).setCell ⟨W3.heap.size, 1, none⟩ (Value.int .i64 (min xl1 (xl2 - cost i)))).setCell ⟨W3.heap.size, 2, none⟩ (Value.int .i64 (pl (T.add L2 i t1 t2) (T.mk i t1 t2) : Nat))) mb (fun kk => ((S kk ∧ kk ≠ w.heap.size) ∧ kk ≠ w1.heap.size) ∧ ¬ Oth W3.drew kk) (T.add L2 i t1 t2) := (HM5.out.of_kept hkB (fun _ _ h e => h.2 e)).mono (fun _ h => h.1)
            have hk5 := Kept.setCell (S := fun kk => ((S kk ∧ kk ≠ w.heap.size) ∧ kk ≠ w1.heap.size) ∧ ¬ Oth W3.drew kk) (Kept.setCell (S := fun kk => ((S kk ∧ kk ≠ w.heap.size) ∧ kk ≠ w1.heap.size) ∧ ¬ Oth W3.drew kk) (Kept.setCell (S := fun kk => ((S kk ∧ kk ≠ w.heap.size) ∧ kk ≠ w1.heap.size) ∧ ¬ Oth W3.drew kk) HK4.out (p := ⟨W3.heap.size, 0, none⟩) (fun h => absurd h (Nat.lt_irrefl _)) (Value.int .i64 (max xv1 (xv2 - cost i)))) (p := ⟨W3.heap.size, 1, none⟩) (fun h => absurd h (Nat.lt_irrefl _)) (Value.int .i64 (min xl1 (xl2 - cost i)))) (p := ⟨W3.heap.size, 2, none⟩) (fun h => absurd h (Nat.lt_irrefl _)) (Value.int .i64 (pl (T.add L2 i t1 t2) (T.mk i t1 t2) : Nat))
            have hp : W3.heap.size ≤ W3.heap.size := Nat.le_refl _
            clear z0 z1 z2 zf hHeld
            generalize hV : ((w4.setCell ⟨W3.heap.size, 0, none⟩ (Value.int .i64 (max xv1 (xv2 - cost i)))).setCell ⟨W3.heap.size, 1, none⟩ (Value.int .i64 (min xl1 (xl2 - cost i)))).setCell ⟨W3.heap.size, 2, none⟩ (Value.int .i64 (pl (T.add L2 i t1 t2) (T.mk i t1 t2) : Nat)) = V at hT hm5 hk5 ⊢
            have HT := Lib.hid hT
            have HM6 := Lib.hid hm5
            have HK5 := Lib.hid hk5
            clear hV hT hm5 hk5 hkB hb4 hb4'
            obtain ⟨pb, epb⟩ : ∃ x, x = W3.heap.size := ⟨_, rfl⟩
            rw [← epb] at HT ⊢
            replace hp : W3.heap.size ≤ pb := by rw [epb]; exact hp
            clear epb
            have HI6 := Lib.hid ((HI3.out.kept (Near.refl W3).drew).node (T.add_good HG.out i1' i2 hi (by omega) (by omega) o1 o2) HM6.out HK5.out)
            have hks : ks2 i = l := ((HQ2.out.2.2.2.2.2.2.1 i (by omega)).trans (HQ1.out.2.2.2.2.2.2.1 i (by omega))).trans HL.out
            have hnl : (ks2 i).length < 67108864 := by rw [hks]; exact hll
            have HNL := Lib.hid hnl
            obtain ⟨ao2, cap2, hkv⟩ := owns_form (HI6.out.rows i hi)
            have gkv := cell1 (o := 26 + i) HI6.out.blk (by rw [List.getElem?_toArray]; exact linCells_known hi)
            have hrow := HI6.out.rows i hi
            have HNB := Lib.hid (row_ne hrow HI6.out.blk (by decide))
            have HNP := Lib.hid (show ∀ kk, (kv2 i).ownBlock = some kk → kk < W3.heap.size from fun kk e => ((HI3.out.rows i hi).lt kk e).2)
            rw [hkv] at gkv hrow
            have HROW := Lib.hid hrow
            have HKV := Lib.hid hkv
            have u0 := cell1 (o := 0) HT.out rfl
            have u1 := cell1 (o := 1) HT.out rfl
            have u2 := cell1 (o := 2) HT.out rfl
            have HBL := Lib.hid (Array.getElem?_eq_some_iff.1 HI3.out.blk).1
            have HPB := Lib.hid hp
            have HSK2 := Lib.hid (show ∀ w', Kept (fun kk => (kv2 i).ownBlock = some kk) V w' → w'.cell? ⟨b, 26 + i, none⟩ = some (Value.slice ao2 (ks2 i).length cap2) ∧ w'.cell? ⟨pb, 0, none⟩ = some (Value.int .i64 (max xv1 (xv2 - cost i))) ∧ w'.cell? ⟨pb, 1, none⟩ = some (Value.int .i64 (min xl1 (xl2 - cost i))) ∧ w'.cell? ⟨pb, 2, none⟩ = some (Value.int .i64 (pl (T.add L2 i t1 t2) (T.mk i t1 t2) : Nat)) from fun w' hk => ⟨hk.cell gkv HNB.out, hk.cell u0 (fun e => Nat.not_le.2 (HNP.out _ e) HPB.out), hk.cell u1 (fun e => Nat.not_le.2 (HNP.out _ e) HPB.out), hk.cell u2 (fun e => Nat.not_le.2 (HNP.out _ e) HPB.out)⟩)
            clear hks hkv gkv hrow u0 u1 u2 hnl hp
            go_wp2_with fail
            refine wp_region_noPanic ?_
            refine wp_region_A (by kernel_rfl) ?_
            refine takeA0 (v := Value.pointer (some ⟨b, 0, none⟩)) (by kernel_rfl) (by kernel_rfl) (by kernel_rfl) (fun _ _ _ h => h) (Or.inl ⟨by rfl, fun w' => ?_⟩) ?_
            · go_simp
            simp only [Act.put, List.setIfInBounds_toArray, List.set_cons_zero, List.set_cons_succ]
            refine takeA1 (v := Value.int .i64 ((i : Int))) (by kernel_rfl) (by kernel_rfl) (by kernel_rfl) (fun _ _ _ h => h) (Or.inl ⟨by rfl, fun w' => ?_⟩) ?_
            · go_simp
            simp only [Act.put, List.setIfInBounds_toArray, List.set_cons_zero, List.set_cons_succ]
            refine takeA2 (v := Value.pointer (some ⟨b, 0, none⟩)) (by kernel_rfl) (by kernel_rfl) (by kernel_rfl) (fun _ _ _ h => h) (Or.inl ⟨by rfl, fun w' => ?_⟩) ?_
            · go_simp
            simp only [Act.put, List.setIfInBounds_toArray, List.set_cons_zero, List.set_cons_succ]
            refine takeA3 (v := Value.int .i64 ((i : Int))) (by kernel_rfl) (by kernel_rfl) (by kernel_rfl) (fun _ _ _ h => h) (Or.inl ⟨by rfl, fun w' => ?_⟩) ?_
            · go_simp
            simp only [Act.put, List.setIfInBounds_toArray, List.set_cons_zero, List.set_cons_succ]
            refine takeA4 (v := Value.pointer (some ⟨b, 0, none⟩)) (by kernel_rfl) (by kernel_rfl) (by kernel_rfl) (fun _ _ _ h => h) (Or.inl ⟨by rfl, fun w' => ?_⟩) ?_
            · go_simp
            simp only [Act.put, List.setIfInBounds_toArray, List.set_cons_zero, List.set_cons_succ]
            refine takeA5 (v := Value.pointer (some ⟨b, 26, none⟩)) (by kernel_rfl) (by kernel_rfl) (by kernel_rfl) (fun _ _ _ h => h) (Or.inl ⟨by rfl, fun w' => ?_⟩) ?_
            · go_simp
            simp only [Act.put, List.setIfInBounds_toArray, List.set_cons_zero, List.set_cons_succ]
            refine takeA6 (v := Value.pointer (some ⟨b, 26 + i, none⟩)) (by kernel_rfl) (by kernel_rfl) (by kernel_rfl) (fun _ _ _ h => h) (Or.inl ⟨by rfl, fun w' => ?_⟩) ?_
            · go_simp
            simp only [Act.put, List.setIfInBounds_toArray, List.set_cons_zero, List.set_cons_succ]
            refine takeA11 (v := Value.pointer (some ⟨b, 0, none⟩)) (by kernel_rfl) (by kernel_rfl) (by kernel_rfl) (fun _ _ _ h => h) (Or.inl ⟨by rfl, fun w' => ?_⟩) ?_
            · go_simp
            simp only [Act.put, List.setIfInBounds_toArray, List.set_cons_zero, List.set_cons_succ]
            refine takeA12 (v := Value.pointer (some ⟨b, 26, none⟩)) (by kernel_rfl) (by kernel_rfl) (by kernel_rfl) (fun _ _ _ h => h) (Or.inl ⟨by rfl, fun w' => ?_⟩) ?_
            · go_simp
            simp only [Act.put, List.setIfInBounds_toArray, List.set_cons_zero, List.set_cons_succ]
            refine wpAny_of_Z (S := (fun w' => w'.cell? ⟨b, 26 + i, none⟩ = some (Value.slice ao2 (ks2 i).length cap2) ∧ w'.cell? ⟨pb, 0, none⟩ = some (Value.int .i64 (max xv1 (xv2 - cost i))) ∧ w'.cell? ⟨pb, 1, none⟩ = some (Value.int .i64 (min xl1 (xl2 - cost i))) ∧ w'.cell? ⟨pb, 2, none⟩ = some (Value.int .i64 (pl (T.add L2 i t1 t2) (T.mk i t1 t2) : Nat)))) (z := 14) _ _ _ _ ?_
            have hHeld := HSK2.out _ (Kept.refl _ V).drew
            refine takeZ7 (v := Value.slice ao2 (ks2 i).length cap2) (by kernel_rfl) (by kernel_rfl) (by kernel_rfl) (by kernel_rfl) (fun _ _ _ h => h) (Or.inl ⟨by rfl, fun w' hSw => ?_⟩) hHeld ?_
            · go_simp
            simp only [Act.put, List.setIfInBounds_toArray, List.set_cons_zero, List.set_cons_succ]
            refine takeZ8 (v := Value.agg #[Value.int .i64 (max xv1 (xv2 - cost i)), Value.int .i64 (min xl1 (xl2 - cost i)), Value.int .i64 (pl (T.add L2 i t1 t2) (T.mk i t1 t2) : Nat)]) (by kernel_rfl) (by kernel_rfl) (by kernel_rfl) (by kernel_rfl) (fun _ _ _ h => h) (Or.inl ⟨by rfl, fun w' hSw => ?_⟩) hHeld ?_
            · go_simp
            simp only [Act.put, List.setIfInBounds_toArray, List.set_cons_zero, List.set_cons_succ]
            refine oneZ9 (by kernel_rfl) (fun K hK => ?_)
            go_simp
            refine hK.out _ _ (.inr (HSK2.out _ ((Kept.refl _ V).drew.alloc _))) ?_
            clear hK K hHeld
            try simp only [Act.put, List.setIfInBounds_toArray, List.set_cons_zero, List.set_cons_succ]
            refine oneZ10 (by kernel_rfl) (fun K hK => ?_)
            refine step_append_keep rfl (.tmp 102) (.tmp 104) 129 rfl 0 134 i0 (.agg #[.int .i64 0, .int .i64 0, .int .i64 0]) 3 24 Tryz.underlying129 hi0 jz0 jz1 jz2 rfl (by decide) _ _ _ rfl (owns_kept HROW.out (((Near.refl V).drew).alloc _) (fun _ _ h => h)) ⟨V.heap.size, 0, none⟩ 1 1 [Value.int .i64 (max xv1 (xv2 - cost i)), Value.int .i64 (min xl1 (xl2 - cost i)), Value.int .i64 (pl (T.add L2 i t1 t2) (T.mk i t1 t2) : Nat)] rfl rfl (cell_three_at rfl _ _ _ _) (by simp [Value.oneCell']) (by have := HNL.out; unfold maxLen; omega) (by have := HNL.out; omega) (Nat.zero_le _) ?_
            intro ao6 cap6 w6 hown6 hg6 hl6 _
            have HK6 := Lib.hid (Kept.grown ((Kept.refl (fun kk => (kv2 i).ownBlock = some kk) V).drew.alloc _) hg6 (fun kk e _ => by rw [HKV.out]; exact e))
            have HOW6 := Lib.hid hown6
            have HL6 := Lib.hid hl6
            have hh6 := HSK2.out _ HK6.out
            refine hK.out _ _ (.inr hh6) ?_
            clear hK K hown6 hg6 hl6
            try simp only [Act.put, List.setIfInBounds_toArray, List.set_cons_zero, List.set_cons_succ]
            have HPX := Lib.hid hh6
            clear hh6
            refine oneZ13 (by kernel_rfl) (fun K hK => ?_)
            go_simp
            refine hK.out _ _ (.inr HPX.out) ?_
            clear hK K
            try simp only [Act.put, List.setIfInBounds_toArray, List.set_cons_zero, List.set_cons_succ]
            have c6 := HPX.out.1
            have f6 := free1 ((HK6.out.block b (Nat.lt_of_lt_of_le HBL.out HK5.out.size) HNB.out).trans HI6.out.blk)
            refine oneZ14 (by kernel_rfl) (fun K hK => ?_)
            go_simp
            refine hK.out _ _ (.inl rfl) ?_
            clear hK K c6 f6
            try simp only [Act.put, List.setIfInBounds_toArray, List.set_cons_zero, List.set_cons_succ]
            refine wpAnyZ_done (by kernel_rfl) ?_
            refine NoPanic.normal ?_
            have hbl := HBL.out
            have hpb := HPB.out
            have hsz5 := HK5.out.size
            have hb6 := (HK6.out.block b (Nat.lt_of_lt_of_le HBL.out HK5.out.size) HNB.out).trans HI6.out.blk
            obtain ⟨hbox, hk7⟩ := HI6.out.app hi (y := spanOf (cost i) (pl (T.add L2 i t1 t2) (T.mk i t1 t2) : Nat) ⟨xv1, xl1, xp1⟩ ⟨xv2, xl2, xp2⟩) HOW6.out HK6.out (by rw [HKV.out]; exact HL6.out.imp id (fun e => ⟨_, e, by simp⟩)) (fun kk h => (HS3.out kk (Nat.le_trans HK5.out.size h)).1) _ rfl
            have hT7 := (Kept.setCell (S := fun kk => (kv2 i).ownBlock = some kk ∨ kk = b) (Kept.mono HK6.out (fun _ _ h => Or.inl h)) (p := ⟨b, 26 + i, none⟩) (fun _ => Or.inr rfl) (Value.slice ao6 ((ks2 i).length + 1) cap6)).block pb (Array.getElem?_eq_some_iff.1 HT.out).1 (fun h => h.elim (fun e => Nat.not_le.2 (HNP.out _ e) hpb) (fun e => Nat.not_le.2 hbl (e ▸ hpb)))
            replace hT7 := hT7.trans HT.out
            have hr3 := (Array.getElem?_eq_some_iff.1 HR3.out).1
            have hR5 := (HK5.out.block w.heap.size hr3 (fun h => h.1.1.2 rfl)).trans HR3.out
            have hR7 := (hk7.block w.heap.size (Nat.lt_of_lt_of_le hr3 hsz5) (fun h => h.1.2 rfl)).trans hR5
            have HBX := Lib.hid hbox
            have HK7 := Lib.hid hk7
            clear hbox hk7 hR5 hb6 hbl hpb hsz5 hr3
            generalize hW : w6.setCell ⟨b, 26 + i, none⟩ (Value.slice ao6 ((ks2 i).length + 1) cap6) = W7 at HBX HK7 hT7 hR7 ⊢
            clear hW
            have q0 := cell1 (o := 0) hT7 rfl
            have q1 := cell1 (o := 1) hT7 rfl
            have q2 := cell1 (o := 2) hT7 rfl
            have z0 := cell1 (o := 0) hR7 rfl
            have z1 := cell1 (o := 1) hR7 rfl
            have z2 := cell1 (o := 2) hR7 rfl
            have zf := free1 hR7
            have HR7 := Lib.hid hR7
            clear hT7 hR7
            go_wp2_with fail
            have hR8 := setCell_heap (setCell_heap (setCell_heap HR7.out 0 (Value.int .i64 (max xv1 (xv2 - cost i)))) 1 (Value.int .i64 (min xl1 (xl2 - cost i)))) 2 (Value.int .i64 (pl (T.add L2 i t1 t2) (T.mk i t1 t2) : Nat))
            simp only [List.setIfInBounds_toArray, List.set_cons_zero, List.set_cons_succ] at hR8
            have hk8 := Kept.setCell (S := fun kk => kk = w.heap.size) (Kept.setCell (S := fun kk => kk = w.heap.size) (Kept.setCell (S := fun kk => kk = w.heap.size) (Kept.refl (fun kk => kk = w.heap.size) W7) (p := ⟨w.heap.size, 0, none⟩) (fun _ => rfl) (Value.int .i64 (max xv1 (xv2 - cost i)))) (p := ⟨w.heap.size, 1, none⟩) (fun _ => rfl) (Value.int .i64 (min xl1 (xl2 - cost i)))) (p := ⟨w.heap.size, 2, none⟩) (fun _ => rfl) (Value.int .i64 (pl (T.add L2 i t1 t2) (T.mk i t1 t2) : Nat))
            generalize hW8 : ((W7.setCell ⟨w.heap.size, 0, none⟩ (Value.int .i64 (max xv1 (xv2 - cost i)))).setCell ⟨w.heap.size, 1, none⟩ (Value.int .i64 (min xl1 (xl2 - cost i)))).setCell ⟨w.heap.size, 2, none⟩ (Value.int .i64 (pl (T.add L2 i t1 t2) (T.mk i t1 t2) : Nat)) = W8 at hR8 hk8 ⊢
            have y0 := cell1 (o := 0) hR8 rfl
            have y1 := cell1 (o := 1) hR8 rfl
            have y2 := cell1 (o := 2) hR8 rfl
            have hbox8 := (HBX.out.keptOf hk8 (fun kk e h => h.1.2 e) (fun kk e e2 => Nat.lt_irrefl _ (e2 ▸ (HP.out.box.ends.lt kk e).2))).mono_lt (R := S) (fun kk _ h => h.1.1)
            have hk1 : Kept S w (w1.alloc (.cells #[.int .i64 xv1, .int .i64 xl1, .int .i64 xp1] 134)) := ((Kept.mono (HN1.out.trans HNr.out) (fun _ _ f => f.elim)).trans (Kept.mono HQ1.out.2.2.2.2.2.2.2.2 (fun _ _ h => h.1))).alloc _
            have hk3 : Kept S w W3 := (hk1.trans (Kept.mono HQ2.out.2.2.2.2.2.2.2.2 (fun _ _ h => h.1.1))).trans (Kept.mono HN3.out (fun _ _ f => f.elim))
            have hkept : Kept S w W8 := ((hk3.drew.trans (Kept.mono HK5.out (fun _ _ h => h.1.1.1))).trans (Kept.mono HK7.out (fun _ _ h => h.1.1))).trans (Kept.mono hk8 (fun kk _ e => HP.out.base kk (Nat.le_of_eq e.symm)))
            exact bodyPost_ret (v := .agg #[Value.int .i64 (max xv1 (xv2 - cost i)), Value.int .i64 (min xl1 (xl2 - cost i)), Value.int .i64 (pl (T.add L2 i t1 t2) (T.mk i t1 t2) : Nat)]) (by simp [results, Tryz.results90, go_sem, y0, y1, y2]) rfl (from_join hik rfl (HP.out.costs i) HQ1.out HQ2.out i1' HF1.out o1 l1 HF2.out o2 l2 HR1.out HR2.out hbox8 hkept)
          · exact AllReadyH.nil
        · exact AllReadyH.nil
      · exact AllReadyH.nil

end Go.Proofs.YtefclohjeompkaaGreat

/- LinH: what is needed of it. -/
namespace Go.Proofs.YtefclohjeompkaaGreat
open Go Go.RowKit Go.Proofs.Gen Go.Proofs.Bdd Go.Proofs.Bdd.T
theorem from_calls {b mb : Nat} {cost : Nat → Int} {g : Int → Bool} {ev : Value} {es : List Dec} : ∀ (k i : Nat) (w : World) (S : Nat → Prop) (L : List T) (kv : Nat → Value) (ks : Nat → List Dec) (s j : Int), i + k = 24 → FromPre w b mb S cost g ev kv es L ks k → j = (i : Int) →
    -(2147483648 * (i : Int)) ≤ s ∧ s ≤ 2147483648 * (i : Int) → Calls Tryz.prog 90 #[.pointer (some ⟨b, 0, none⟩), .int .i64 j, .int .i64 s] w (FromPost w b mb S cost g ev es L ks k s)
  | 0, i, w, S, L, kv, ks, s, j, hik, h, hj, hs => by
    obtain rfl : i = 24 := by omega
    subst hj
    exact from_zero h (by omega) (by omega)
  | k + 1, i, w, S, L, kv, ks, s, j, hik, h, hj, hs => by
    subst hj
    rcases first_span s (ks i) with ⟨q, x, hx, hin, hb⟩ | hno
    · have hi : i < 24 := by omega
      refine (from_known hi (cell1 (o := 25) h.box.blk (by rw [List.getElem?_toArray]; exact linCells_ends)) (cell1 (o := 26 + i) h.box.blk (by rw [List.getElem?_toArray]; exact linCells_known hi)) (RdDec.row (h.box.rows i hi))
        (by have := h.rooms i; have := Nat.one_le_two_pow (n := k + 1); omega) hx hin hb).mono ?_
      rintro e w' ⟨rfl, hn⟩
      refine h.same ?_ hin hn
      have := h.known i hi x (List.mem_of_getElem? hx)
      rwa [show 24 - i = k + 1 by omega] at this
    · exact from_new (by omega) h hs hno (fun w S L kv ks s j hp hj hs => from_calls k (i + 1) w S L kv ks s j (by omega) hp (by omega) (by omega))

def costOf (l : List Int) (i : Nat) : Int := l.getD i 0

theorem costOf_le {l : List Int} (h : CostsOk l) (i : Nat) : -2147483648 ≤ costOf l i ∧ costOf l i ≤ 2147483648 := by
  unfold costOf
  rw [List.getD_eq_getElem?_getD]
  cases hi : l[i]? with
  | none => simp
  | some x => exact h.2 x (List.mem_of_getElem? hi)

theorem sumFrom_le {cost : Nat → Int} (h : ∀ i, -2147483648 ≤ cost i ∧ cost i ≤ 2147483648) (c : Nat → Bool) : ∀ k : Nat, -(2147483648 * (k : Int)) ≤ sumFrom cost c k ∧ sumFrom cost c k ≤ 2147483648 * (k : Int)
  | 0 => by simp [sumFrom]
  | k + 1 => by
    have ih := sumFrom_le h c k
    have h1 := h (24 - (k + 1))
    rw [show sumFrom cost c (k + 1) = (if c (24 - (k + 1)) then cost (24 - (k + 1)) else 0) + sumFrom cost c k from rfl]
    split <;> omega

/-- A relation, and the places of the sums below, at and above a bound. -/
def relB (rel : Nat) (s b : Int) : Bool := if rel = 1 then decide (s ≤ b) else if rel = 2 then decide (b ≤ s) else decide (s = b)

def linF (l : List Int) (rel : Nat) (bound : Int) : F := fun c => relB rel (sumFrom (costOf l) c 24) bound

def LinOk (l : List Int) (rel : Nat) : Prop := CostsOk l ∧ 1 ≤ rel ∧ rel ≤ 3

instance (l : List Int) (rel : Nat) : Decidable (LinOk l rel) := by unfold LinOk; infer_instance

def clip (b : Int) : Int := min (max b (-17592186044416)) 17592186044416

theorem clip_le (b : Int) : -17592186044416 ≤ clip b ∧ clip b ≤ 17592186044416 := by unfold clip; omega

theorem relB_clip (rel : Nat) {s : Int} (b : Int) (h : -51539607552 ≤ s ∧ s ≤ 51539607552) : relB rel s (clip b) = relB rel s b := by
  unfold relB clip
  split
  · exact decide_eq_decide.2 (by omega)
  · split
    · exact decide_eq_decide.2 (by omega)
    · exact decide_eq_decide.2 (by omega)

/-- The three spans at the end. -/
def endsOf (bd : Int) (p : Bool × Bool × Bool) : List Dec := [⟨-35184372088832, bd - 1, p.1.toNat⟩, ⟨bd, bd, p.2.1.toNat⟩, ⟨bd + 1, 35184372088832, p.2.2.toNat⟩]

def placesOf (rel : Nat) : Bool × Bool × Bool := if rel = 1 then (true, true, false) else if rel = 2 then (false, true, true) else (false, true, false)

theorem relB_low {rel : Nat} {s bd : Int} (h : s < bd) : relB rel s bd = (placesOf rel).1 := by
  unfold relB placesOf
  split
  · simp; omega
  · split <;> simp <;> omega

theorem relB_at {rel : Nat} {bd : Int} : relB rel bd bd = (placesOf rel).2.1 := by
  unfold relB placesOf
  split
  · simp
  · split <;> simp

theorem relB_high {rel : Nat} {s bd : Int} (h : bd < s) : relB rel s bd = (placesOf rel).2.2 := by
  unfold relB placesOf
  split
  · simp; omega
  · split <;> simp <;> omega

theorem ends_ok (cost : Nat → Int) (rel : Nat) {bd : Int} (hb : -17592186044416 ≤ bd ∧ bd ≤ 17592186044416) : ∀ y ∈ endsOf bd (placesOf rel), SpanOk cost (fun s => relB rel s bd) [] 0 y := by
  intro y hy
  simp only [endsOf, List.mem_cons, List.not_mem_nil, or_false] at hy
  rcases hy with rfl | rfl | rfl
  · refine ⟨.leaf (placesOf rel).1, trivial, by cases (placesOf rel).1 <;> rfl, fun s h1 h2 => ?_, trivial, Nat.le_refl _, by simp only []; omega⟩
    show T.leaf (relB rel s bd) = _
    rw [relB_low (by simp only [] at h2; omega)]
  · refine ⟨.leaf (placesOf rel).2.1, trivial, by cases (placesOf rel).2.1 <;> rfl, fun s h1 h2 => ?_, trivial, Nat.le_refl _, by simp only []; omega⟩
    obtain rfl : s = bd := by simp only [] at h1 h2; omega
    show T.leaf (relB rel s s) = _
    rw [relB_at]
  · refine ⟨.leaf (placesOf rel).2.2, trivial, by cases (placesOf rel).2.2 <;> rfl, fun s h1 h2 => ?_, trivial, Nat.le_refl _, by simp only []; omega⟩
    show T.leaf (relB rel s bd) = _
    rw [relB_high (by simp only [] at h1; omega)]

theorem ends_all (rel : Nat) {bd : Int} (s : Int) (h1 : -35184372088832 ≤ s) (h2 : s ≤ 35184372088832) : ∃ y ∈ endsOf bd (placesOf rel), inSpan s y := by
  unfold inSpan
  by_cases h : s < bd
  · exact ⟨_, List.mem_cons_self, by simp only []; omega⟩
  · by_cases e : s = bd
    · exact ⟨_, List.mem_cons_of_mem _ List.mem_cons_self, by simp only []; omega⟩
    · exact ⟨_, List.mem_cons_of_mem _ (List.mem_cons_of_mem _ List.mem_cons_self), by simp only []; omega⟩

end Go.Proofs.YtefclohjeompkaaGreat
