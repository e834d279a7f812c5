/- Parts of a proof: Mem, Round, Takes, Each, EachB. -/
import Derived.RangeFuncNested
import Derived.RangeFuncBound
import Derived.RangeFuncCalls
import Derived.RangeFuncLeaves
import Derived.Shelf.Abstract
import Derived.Shelf.RegionOpen
import Derived.WalkKit
import Derived.OwnWalkIn
import Derived.TacticsInMore
import Derived.LoopNIn
import Derived.LoopIn
import Derived.Deep.RegionHeld3
import Derived.Test.YtefclohjeompkaaKRefP
/- The iterator members: a range over a function. -/
namespace Go.Proofs.Ytefclohjeompkaa
open Go Go.RowKit Go.Shelf Go.Proofs.Gen Go.Proofs.Bdd Go.Proofs.Bdd.T
attribute [local go_sem] Oper.semAt_some

/-- One cell is as it was. -/
def CellAs (B : Nat) (W W' : World) : Prop := W'.cell? ⟨B, 0, none⟩ = W.cell? ⟨B, 0, none⟩

theorem featsTo_prefix (f k : Nat) : ∀ d, featsTo f k <+: featsTo f (k + d)
  | 0 => List.prefix_rfl
  | d + 1 => by
    refine (featsTo_prefix f k d).trans ?_
    rw [← Nat.add_assoc, featsTo_succ]
    exact List.prefix_append _ _

set_option maxRecDepth 100000 in
set_option maxHeartbeats 1600000 in
theorem members1_in (n : Nat) (hn : 1 ≤ n) (l B f : Nat) (hf : f < 4294967296) (J Jx : List Nat → World → Prop)
    (hY : ∀ pre x W, J pre W → pre.length < 25 → YieldAt Fence.wide (n - 1) Try.prog l #[iv x] W fun e W' =>
      (e = .returned (.bool true) ∧ J (pre ++ [x]) W' ∧ CellAs B W W') ∨ (e = .returned (.bool false) ∧ Jx (pre ++ [x]) W'))
    (W : World) (hB : W.cell? ⟨B, 0, none⟩ = some (.int .u32 f)) (h0 : J [] W) :
    CallsIn Fence.wide n Try.prog 140 #[.func (.yield l) #[] #[], .pointer (some ⟨B, 0, none⟩)] W fun e W' => (∃ v, e = .returned v) ∧
      ((∃ ys, ys = feats f ∧ J ys W') ∨ (∃ pre, pre <+: feats f ∧ Jx pre W')) := by
  have HY := Lib.hid hY
  clear hY
  refine callsIn_of_wp Try.func140 rfl trivial ?_ rfl
  simp only [Try.ntmps140, List.size_toArray, List.length_cons, List.length_nil, Nat.reduceAdd, Nat.reduceSub, Array.replicate_succ, Array.replicate_zero, List.push_toArray, List.append_toArray, List.nil_append, List.cons_append]
  gi_wp2
  gi_loopw [4] (fun i wr => ∃ k : Nat, k ≤ 24 ∧ i = .int .i64 k ∧ J (featsTo f k) wr ∧ wr.cell? ⟨B, 0, none⟩ = some (.int .u32 f)) (fun i _ => 24 - (intOf i).toNat)
  case atStart => exact ⟨0, Nat.zero_le _, rfl, h0, hB⟩
  case round =>
    obtain ⟨k, hk, rfl, hJ, hc⟩ := hrel
    by_cases hlt : k < 24
    · have hbit := u32_bit' f k hf (by omega)
      have hlen := featsTo_len f k
      have hs := featsTo_succ f k
      have HS := Lib.hid hs
      have hk64 : (k : Int) < 64 := by omega
      have hk24 : (k : Int) < 24 := by omega
      clear hs
      cases hb : f.testBit k with
      | true =>
        rw [hb] at hbit
        have HB := Lib.hid hb
        clear hb
        obtain ⟨fn, tmps, assign, body, hy, hR⟩ := HY.out (featsTo f k) k wr hJ (by omega)
        simp only [iv] at hy
        gi_wp2
        refine hR.mono ?_
        rintro e W3 (⟨rfl, hJ3, hk3⟩ | ⟨rfl, hJx3⟩)
        · have hc3 : W3.cell? ⟨B, 0, none⟩ = some (.int .u32 f) := Eq.trans hk3 hc
          gi_wp2
          go_roundw
          case rel => exact ⟨k + 1, by omega, by go_num, by rw [HS.out, if_pos HB.out]; exact hJ3, hc3⟩
          case measure => simp [intOf]; omega
        · gi_wp2
          refine bodyPost_ret (results_none rfl _ _ _) rfl ?_
          refine ⟨⟨_, rfl⟩, .inr ⟨featsTo f k ++ [k], ?_, hJx3⟩⟩
          have := HS.out
          rw [if_pos HB.out] at this
          rw [← this]
          have hp := featsTo_prefix f (k + 1) (24 - (k + 1))
          rw [show k + 1 + (24 - (k + 1)) = 24 from by omega] at hp
          exact hp
      | false =>
        rw [hb] at hbit
        have HB := Lib.hid hb
        clear hb
        gi_wp2
        all_goals
          refine ⟨fun _ h => (by cases h), ?_⟩
          gi_wp2
          go_roundw
          case rel => exact ⟨k + 1, by omega, by go_num, by rw [HS.out, HB.out]; simpa using hJ, hc⟩
          case measure => simp [intOf]; omega
    · have hk24 : k = 24 := by omega
      subst hk24
      gi_wp2
      go_end0
      exact ⟨⟨_, rfl⟩, .inl ⟨_, rfl, hJ⟩⟩

theorem members_stops (n : Nat) (hn : 1 ≤ n) (B f : Nat) (hf : f < 4294967296) (w : World) (hB : w.cell? ⟨B, 0, none⟩ = some (.int .u32 f)) :
    SeqStopsK Fence.wide n Try.prog 140 #[.pointer (some ⟨B, 0, none⟩)] (fun i : Nat => #[iv i]) (CellAs B) (fun xs => xs = feats f) (fun pre => pre <+: feats f) 25 w := by
  intro l J Jx W hb _ _ hY h0
  have hlt := World.block_lt_of_cell? w _ hB
  exact members1_in n hn l B f hf J Jx hY W ((hb.cell (p := ⟨B, 0, none⟩) hlt).trans hB) h0

set_option maxRecDepth 100000 in
set_option maxHeartbeats 400000 in
theorem members_calls (f : Nat) (w : World) : Calls Try.prog 113 #[.int .u32 f] w fun e w' => e = .returned (.func (.func 140) #[] #[.pointer (some ⟨w.heap.size, 0, none⟩)]) ∧ w' = w.alloc (.cells #[.int .u32 f] 24) := by
  go_enter Try.func113, Try.ntmps113
  go_wp2
  go_ret
  exact ⟨rfl, rfl⟩

end Go.Proofs.Ytefclohjeompkaa

/- A region that draws its order, inside a round of a range over a function: by the held law. -/
namespace Go.Proofs.Ytefclohjeompkaa
open Go Go.RowKit Go.Shelf Go.Proofs.Gen Go.Proofs.Bdd Go.Proofs.Bdd.T

def noDefer (ops : Array Oper) : Bool := ops.all fun o => match o.op with | .defer _ => false | _ => true

theorem noDefer_at {ops : Array Oper} (h : noDefer ops = true) {i : Nat} {o : Oper} (ho : ops[i]? = some o) : ∀ c, o.op ≠ .defer c := by
  intro c hc
  obtain ⟨hlt, e⟩ := Array.getElem?_eq_some_iff.1 ho
  have := (Array.all_eq_true.1 h) i hlt
  rw [e, hc] at this
  cases this

theorem wpOpIn_round {l n : Nat} {P : Program} {ops : Array Oper} {Q : Exit → Act → World → Prop} (hd : noDefer ops = true) (hQ : ¬ LetsOut Q) {i : Nat} {K K' : Act → World → Prop} {a : Act} {w : World}
    (hK : ∀ a w, K a w → K' a w) (hh : wpOp P ops Q i K a w) : wpOpIn (Fence.wide.inRound l) n P ops Q i K' a w := by
  unfold wpOp at hh
  unfold wpOpIn
  split
  · rename_i ho
    simp only [ho] at hh
    exact hK _ _ hh
  · rename_i o ho
    simp only [ho] at hh
    split
    · rename_i hw
      simp only [hw, if_true] at hh
      rcases hh with hh | ⟨_, hh⟩
      · refine ⟨fun _ _ => trivial, ?_⟩
        rw [show (Fence.wide.inRound l).round = some l from rfl, Oper.semAt_some l _ _ (noDefer_at hd ho)]
        unfold Oper.wp at hh
        generalize (execOp a.eval o).run P w = r at *
        have hwd : ∀ m : Nat, (Fence.wide.inRound l).depth.isSome = true → 1 ≤ m := fun m h => by cases h
        cases r with
        | ok x w' =>
          cases x <;> simp only [Oper.upon, Oper.uponIn] at hh ⊢ <;>
            first
              | exact hK _ _ hh
              | exact ⟨hwd _, CallsIn.inRound l (callsIn_wide.2 (Calls.mono hh (fun e w'' he => by cases e <;> first | exact hK _ _ he | exact he)))⟩
              | exact ⟨hwd _, fun c cs hr => by
                  obtain ⟨v, w'', h1, h2⟩ := hh c cs
                  exact ⟨v, w'', hK _ _ h1, stepsIn_wide.2 h2⟩⟩
        | halt x w' => cases x <;> simp only [Oper.upon, Oper.uponIn] at hh ⊢ <;> exact hh
      · exact absurd hh hQ
    · rename_i hw
      simp only [hw] at hh
      exact ⟨fun _ _ => trivial, hK _ _ hh⟩

theorem wpAnyIn_round {l n : Nat} {P : Program} {md : Region.Mode} {ops : Array Oper} {Q : Exit → Act → World → Prop} (hd : noDefer ops = true) (hQ : ¬ LetsOut Q) :
    ∀ (fuel : Nat) (listed : Array Bool) (a : Act) (w : World), wpAny P md ops Q fuel listed a w → wpAnyIn (Fence.wide.inRound l) n P md ops Q fuel listed a w
  | 0, _, _, _, h => h
  | fuel + 1, _, _, _, h => ⟨h.1, fun i hi => wpOpIn_round hd hQ (fun a' w' h' => wpAnyIn_round hd hQ fuel _ a' w' h') (h.2 i hi)⟩

/-- Number z waits for every other operation that has not come up yet. -/
def lastOf (md : Region.Mode) (ops : Array Oper) (listed : Array Bool) (z : Nat) : Bool :=
  match ops[z]? with
  | none => false
  | some o => (List.range ops.size).all fun i => i == z || (listed.getD i false || o.after.any fun e => Region.binds md e && e.on == i)

theorem lastOf_more {md : Region.Mode} {ops : Array Oper} {listed : Array Bool} {z : Nat} (h : lastOf md ops listed z = true) (j : Nat) : lastOf md ops (listed.setIfInBounds j true) z = true := by
  unfold lastOf at h ⊢
  split at h
  · cases h
  · rename_i o ho
    refine List.all_eq_true.2 fun i hi => ?_
    have h1 := List.all_eq_true.1 h i hi
    rw [Bool.or_eq_true, Bool.or_eq_true] at h1 ⊢
    refine h1.imp id (Or.imp (fun h2 => ?_) id)
    by_cases e : j = i
    · subst e
      rcases Nat.lt_or_ge j listed.size with h' | h'
      · simp [h']
      · simp [Array.getElem?_eq_none h'] at h2
    · rw [getD_set_ne false e]
      exact h2

/-- Whatever order is picked, with S behind every operation but z. -/
def wpAnyZ (P : Program) (md : Region.Mode) (ops : Array Oper) (Q : Exit → Act → World → Prop) (S : World → Prop) (z : Nat) : Nat → Array Bool → Act → World → Prop
  | 0, listed, a, w => Region.ready md ops listed = [] ∧ Q .normal a w
  | fuel + 1, listed, a, w =>
    (Region.ready md ops listed = [] → Q .normal a w) ∧
    ∀ i ∈ Region.ready md ops listed, wpOp P ops Q i (fun a' w' => (i = z ∨ S w') ∧ wpAnyZ P md ops Q S z fuel (listed.setIfInBounds i true) a' w') a w

section
variable {P : Program} {ops : Array Oper} {Q : Exit → Act → World → Prop} {md : Region.Mode} {S : World → Prop} {z : Nat}

theorem wpAny_of_Z : ∀ (fuel : Nat) (listed : Array Bool) (a : Act) (w : World), wpAnyZ P md ops Q S z fuel listed a w → wpAny P md ops Q fuel listed a w
  | 0, _, _, _, h => h
  | fuel + 1, _, _, _, h => ⟨h.1, fun i hi => wpOp_mono (fun a' w' h' => wpAny_of_Z fuel _ a' w' h'.2) (h.2 i hi)⟩

/-- Where z comes up, nothing else does. -/
theorem lastOf_alone {listed : Array Bool} (hz : lastOf md ops listed z = true) {i : Nat} (hr : z ∈ Region.ready md ops listed) (hi : i ∈ Region.ready md ops listed) : i = z := by
  obtain ⟨hun, oi, hoi, -⟩ := mem_ready.1 hi
  obtain ⟨-, oz, hoz, hall⟩ := mem_ready.1 hr
  refine Classical.byContradiction fun hne => ?_
  unfold lastOf at hz
  rw [hoz] at hz
  have h1 := List.all_eq_true.1 hz i (List.mem_range.2 (Array.getElem?_eq_some_iff.1 hoi).1)
  rw [Bool.or_eq_true, Bool.or_eq_true, beq_iff_eq] at h1
  rcases h1 with h | h | h
  · exact hne h
  · rcases Nat.lt_or_ge i listed.size with h' | h'
    · simp [h'] at hun h; rw [h] at hun; cases hun
    · simp [Array.getElem?_eq_none h'] at hun
  · obtain ⟨k, hk, h⟩ := Array.any_eq_true.1 h
    rw [Bool.and_eq_true] at h
    obtain ⟨hb, he⟩ := h
    have h2 := hall _ (Array.getElem_mem hk) hb
    rw [show (oz.after[k]).on = i by simpa using he] at h2
    rcases Nat.lt_or_ge i listed.size with h' | h'
    · simp [h'] at hun h2; rw [h2] at hun; cases hun
    · simp [Array.getElem?_eq_none h'] at hun

/-- An operation that yields its value wherever S holds may be taken first. -/
theorem wpAnyZ_first {i : Nat} {oi : Oper} {v : Value} (hi : ops[i]? = some oi) (hsel : ∀ (j : Nat) (o : Oper) cs b, ops[j]? = some o → o.op ≠ .select cs b)
    (hQ : ∀ c a w, Q (.panic c) (a.put oi.dst v) w → Q (.panic c) a w) :
    ∀ (fuel : Nat) (listed : Array Bool) (a : Act) (w : World), lastOf md ops listed z = true →
      (∀ j oj, ops[j]? = some oj → j ≠ i → listed.getD j true = false → (∀ e ∈ oj.after, Region.binds md e = true → e.on ≠ i) → oi.apart ops oj = true) →
      i ∈ Region.ready md ops listed → YieldsIf P ops S oi v a → S w →
      wpAnyZ P md ops Q S z fuel (listed.setIfInBounds i true) (a.put oi.dst v) w → wpAnyZ P md ops Q S z (fuel + 1) listed a w
  | fuel, listed, a, w, hz, hfree, hr, hy, hS, H => by
    refine ⟨fun h => absurd hr (by rw [h]; exact List.not_mem_nil), fun j hj => ?_⟩
    by_cases hji : j = i
    · subst hji
      exact hy.wpOp hi hS ⟨.inr hS, H⟩
    · cases fuel with
      | zero => exact absurd (ready_mono hj hji) (by rw [H.1]; exact List.not_mem_nil)
      | succ fuel =>
        obtain ⟨hun, oj, hoj, hall⟩ := mem_ready.1 hj
        have hnot : ∀ e ∈ oj.after, Region.binds md e = true → e.on ≠ i := fun e he hb heq => by
          have h1 := hall e he hb
          have h0 := (mem_ready.1 hr).1
          rw [heq] at h1
          rcases Nat.lt_or_ge i listed.size with h' | h'
          · simp [h'] at h0 h1; rw [h0] at h1; cases h1
          · simp [Array.getElem?_eq_none h'] at h1
        refine wpOp_mono ?_ (wpOp_putIf hoj (hfree j oj hoj hji hun hnot) (fun cs b => hsel i oi cs b hi) (fun cs b => hsel j oj cs b hoj) hQ hy (H.2 j (ready_mono hj hji)))
        rintro a' w' ⟨hy', hs', H'⟩
        have hs : S w' := hs'.resolve_left fun e => hji (by
          subst e
          exact (lastOf_alone hz hj hr).symm)
        refine ⟨.inr hs, wpAnyZ_first hi hsel hQ fuel _ a' w' (lastOf_more hz j) (fun k ok hk hki hu hno => hfree k ok hk hki ?_ hno) (ready_mono hr (Ne.symm hji)) hy' hs ?_⟩
        · by_cases hjk : j = k
          · subst hjk; exact hun
          · rw [getD_set_ne true hjk] at hu; exact hu
        · rw [Array.setIfInBounds_comm _ _ hji]
          exact H'

theorem wpAnyZ_take {listed : Array Bool} (hz : lastOf md ops listed z = true) {i : Nat} {oi : Oper} {v : Value} {fuel : Nat} {a : Act} {w : World} (hi : ops[i]? = some oi)
    (hs : Region.noSelect ops = true) (hf : Region.free md ops listed i = true) (hr : (Region.ready md ops listed).contains i = true)
    (hQ : ∀ c a w, Q (.panic c) (a.put oi.dst v) w → Q (.panic c) a w) (hy : YieldsIf P ops S oi v a) (hS : S w)
    (h : wpAnyZ P md ops Q S z fuel (listed.setIfInBounds i true) (a.put oi.dst v) w) : wpAnyZ P md ops Q S z (fuel + 1) listed a w :=
  wpAnyZ_first hi (Region.noSelect_spec hs) hQ fuel listed a w hz (Region.free_spec hi hf) (by simpa using hr) hy hS h

/-- The one operation that may come up. -/
theorem wpAnyZ_one {i : Nat} {o : Oper} {fuel : Nat} {listed : Array Bool} {a : Act} {w : World} (hr : Region.ready md ops listed = [i]) (ho : ops[i]? = some o)
    (h : ∀ K' : Act → World → Prop, Shut (∀ a w, (i = z ∨ S w) → wpAnyZ P md ops Q S z fuel (listed.setIfInBounds i true) a w → K' a w) → if Region.wanted o (yielded ops a.tmps) = true then Oper.wp P o a w K' Q else K' (a.put o.dst undef) w) :
    wpAnyZ P md ops Q S z (fuel + 1) listed a w := by
  refine ⟨fun h => absurd h (by rw [hr]; simp), fun j hj => ?_⟩
  rw [hr] at hj
  cases List.mem_singleton.1 hj
  exact wpOp_step ho (fun K' hK => h K' (fun a w hS hW => hK a w ⟨hS, hW⟩))

theorem wpAnyZ_done {listed : Array Bool} {a : Act} {w : World} (hr : Region.ready md ops listed = []) (h : Q .normal a w) : wpAnyZ P md ops Q S z 0 listed a w := ⟨hr, h⟩
end

/-- The region's law in a round: S shown of the world behind the draw, and then the walk with S. -/
theorem wpIn_region_round {l n id : Nat} {P : Program} {ops : Array Oper} {Q : Exit → Act → World → Prop} {a : Act} {w : World} (hm : P.follows .mixedOrders = true) (hd : noDefer ops = true) (hQ : ¬ LetsOut Q)
    (S : World → Prop) (z : Nat) (hS : S w.drew) (h : S w.drew → wpAnyZ P .any ops Q S z ops.size (Array.replicate ops.size false) a w.drew) : (Code.region id ops true).wpIn (Fence.wide.inRound l) n P Q a w :=
  wpIn_region_any hm (wpAnyIn_round hd hQ _ _ _ _ (wpAny_of_Z _ _ _ _ (h hS)))

end Go.Proofs.Ytefclohjeompkaa

/- Moves in a region that draws its order: number k is taken first, or comes up; the operation is found by its place in the list. Over any program. -/
namespace Go.Proofs.Ytefclohjeompkaa
open Go Go.RowKit Go.Shelf Go.Proofs.Gen

theorem wp_region_Z {id : Nat} {P : Program} {ops : Array Oper} {Q : Exit → Act → World → Prop} {a : Act} {w : World} (hm : P.follows .mixedOrders = true)
    (S : World → Prop) (z : Nat) (hS : S w.drew) (h : S w.drew → wpAnyZ P .any ops Q S z ops.size (Array.replicate ops.size false) a w.drew) : (Code.region id ops true).wp P Q a w :=
  wp_region_any hm (wpAny_of_Z _ _ _ _ (h hS))
theorem wp_region_A {id : Nat} {P : Program} {ops : Array Oper} {Q : Exit → Act → World → Prop} {a : Act} {w : World} (hm : P.follows .mixedOrders = true)
    (h : wpAny P .any ops Q ops.size (Array.replicate ops.size false) a w.drew) : (Code.region id ops true).wp P Q a w :=
  wp_region_any hm h

section
variable {P : Program} {Q : Exit → Act → World → Prop} {md : Region.Mode} {S : World → Prop} {z fuel : Nat} {listed : Array Bool} {a : Act} {w : World} {v : Value} {oi : Oper} {r : List Oper}

def TakeH (P : Program) (md : Region.Mode) (Q : Exit → Act → World → Prop) (S : World → Prop) (fuel : Nat) (listed : Array Bool) (a : Act) (w : World) (v : Value) (oi : Oper) (i : Nat) (L : Array Oper) : Prop :=
  ∀ (_ : Region.noSelect L = true) (_ : Region.free md L listed i = true) (_ : (Region.ready md L listed).contains i = true) (_ : ∀ c a w, Q (.panic c) (a.put oi.dst v) w → Q (.panic c) a w) (_ : YieldsIf P L S oi v a) (_ : S w)
    (_ : wpAnyH P md L Q S fuel (listed.setIfInBounds i true) (a.put oi.dst v) w), wpAnyH P md L Q S (fuel + 1) listed a w
theorem takeH_ok {i : Nat} {L : Array Oper} (hi : L[i]? = some oi) : TakeH P md Q S fuel listed a w v oi i L := fun hs hf hr hQ hy hS h => wpAnyH_take (i := i) hi hs hf hr hQ hy hS h
def TakeZ (P : Program) (md : Region.Mode) (Q : Exit → Act → World → Prop) (S : World → Prop) (z fuel : Nat) (listed : Array Bool) (a : Act) (w : World) (v : Value) (oi : Oper) (i : Nat) (L : Array Oper) : Prop :=
  ∀ (_ : lastOf md L listed z = true) (_ : Region.noSelect L = true) (_ : Region.free md L listed i = true) (_ : (Region.ready md L listed).contains i = true) (_ : ∀ c a w, Q (.panic c) (a.put oi.dst v) w → Q (.panic c) a w) (_ : YieldsIf P L S oi v a) (_ : S w)
    (_ : wpAnyZ P md L Q S z fuel (listed.setIfInBounds i true) (a.put oi.dst v) w), wpAnyZ P md L Q S z (fuel + 1) listed a w
theorem takeZ_ok {i : Nat} {L : Array Oper} (hi : L[i]? = some oi) : TakeZ P md Q S z fuel listed a w v oi i L := fun hz hs hf hr hQ hy hS h => wpAnyZ_take (i := i) hz hi hs hf hr hQ hy hS h
def TakeA (P : Program) (md : Region.Mode) (Q : Exit → Act → World → Prop) (fuel : Nat) (listed : Array Bool) (a : Act) (w : World) (v : Value) (oi : Oper) (i : Nat) (L : Array Oper) : Prop :=
  ∀ (_ : Region.noSelect L = true) (_ : Region.free md L listed i = true) (_ : (Region.ready md L listed).contains i = true) (_ : ∀ c a w, Q (.panic c) (a.put oi.dst v) w → Q (.panic c) a w) (_ : Yields P L oi v a)
    (_ : wpAny P md L Q fuel (listed.setIfInBounds i true) (a.put oi.dst v) w), wpAny P md L Q (fuel + 1) listed a w
theorem takeA_ok {i : Nat} {L : Array Oper} (hi : L[i]? = some oi) : TakeA P md Q fuel listed a w v oi i L := fun hs hf hr hQ hy h => wpAny_take (i := i) hi hs hf hr hQ hy h
def OneZ (P : Program) (md : Region.Mode) (Q : Exit → Act → World → Prop) (S : World → Prop) (z fuel : Nat) (listed : Array Bool) (a : Act) (w : World) (oi : Oper) (i : Nat) (L : Array Oper) : Prop :=
  ∀ (_ : Region.ready md L listed = [i])
    (_ : ∀ K' : Act → World → Prop, Shut (∀ a w, (i = z ∨ S w) → wpAnyZ P md L Q S z fuel (listed.setIfInBounds i true) a w → K' a w) → if Region.wanted oi (yielded L a.tmps) = true then Oper.wp P oi a w K' Q else K' (a.put oi.dst undef) w), wpAnyZ P md L Q S z (fuel + 1) listed a w
theorem oneZ_ok {i : Nat} {L : Array Oper} (hi : L[i]? = some oi) : OneZ P md Q S z fuel listed a w oi i L := fun hr h => wpAnyZ_one hr hi h
def ConsH (P : Program) (md : Region.Mode) (Q : Exit → Act → World → Prop) (S : World → Prop) (fuel : Nat) (listed : Array Bool) (a : Act) (w : World) (oi : Oper) (rs : List Nat) (i : Nat) (L : Array Oper) : Prop :=
  ∀ (_ : ∀ K' : Act → World → Prop, Shut (∀ a w, S w → (S w → wpAnyH P md L Q S fuel (listed.setIfInBounds i true) a w) → K' a w) → if Region.wanted oi (yielded L a.tmps) = true then Oper.wp P oi a w K' Q else K' (a.put oi.dst undef) w)
    (_ : AllReadyH P md L Q S fuel listed a w rs), AllReadyH P md L Q S fuel listed a w (i :: rs)
theorem consH_ok {i : Nat} {L : Array Oper} {rs : List Nat} (hi : L[i]? = some oi) : ConsH P md Q S fuel listed a w oi rs i L := fun h hs => AllReadyH.cons hi h hs
theorem takeH0 : TakeH P md Q S fuel listed a w v oi 0 (List.toArray (oi :: r)) := takeH_ok rfl
theorem takeZ0 : TakeZ P md Q S z fuel listed a w v oi 0 (List.toArray (oi :: r)) := takeZ_ok rfl
theorem takeA0 : TakeA P md Q fuel listed a w v oi 0 (List.toArray (oi :: r)) := takeA_ok rfl
theorem takeH1 {x0 : Oper} : TakeH P md Q S fuel listed a w v oi 1 (List.toArray (x0 :: oi :: r)) := takeH_ok rfl
theorem takeZ1 {x0 : Oper} : TakeZ P md Q S z fuel listed a w v oi 1 (List.toArray (x0 :: oi :: r)) := takeZ_ok rfl
theorem takeA1 {x0 : Oper} : TakeA P md Q fuel listed a w v oi 1 (List.toArray (x0 :: oi :: r)) := takeA_ok rfl
theorem takeH2 {x0 x1 : Oper} : TakeH P md Q S fuel listed a w v oi 2 (List.toArray (x0 :: x1 :: oi :: r)) := takeH_ok rfl
theorem consH2 {x0 x1 : Oper} {rs : List Nat} : ConsH P md Q S fuel listed a w oi rs 2 (List.toArray (x0 :: x1 :: oi :: r)) := consH_ok rfl
theorem takeZ2 {x0 x1 : Oper} : TakeZ P md Q S z fuel listed a w v oi 2 (List.toArray (x0 :: x1 :: oi :: r)) := takeZ_ok rfl
theorem takeA2 {x0 x1 : Oper} : TakeA P md Q fuel listed a w v oi 2 (List.toArray (x0 :: x1 :: oi :: r)) := takeA_ok rfl
theorem takeH3 {x0 x1 x2 : Oper} : TakeH P md Q S fuel listed a w v oi 3 (List.toArray (x0 :: x1 :: x2 :: oi :: r)) := takeH_ok rfl
theorem takeA3 {x0 x1 x2 : Oper} : TakeA P md Q fuel listed a w v oi 3 (List.toArray (x0 :: x1 :: x2 :: oi :: r)) := takeA_ok rfl
theorem oneZ3 {x0 x1 x2 : Oper} : OneZ P md Q S z fuel listed a w oi 3 (List.toArray (x0 :: x1 :: x2 :: oi :: r)) := oneZ_ok rfl
theorem takeH4 {x0 x1 x2 x3 : Oper} : TakeH P md Q S fuel listed a w v oi 4 (List.toArray (x0 :: x1 :: x2 :: x3 :: oi :: r)) := takeH_ok rfl
theorem takeZ4 {x0 x1 x2 x3 : Oper} : TakeZ P md Q S z fuel listed a w v oi 4 (List.toArray (x0 :: x1 :: x2 :: x3 :: oi :: r)) := takeZ_ok rfl
theorem takeA4 {x0 x1 x2 x3 : Oper} : TakeA P md Q fuel listed a w v oi 4 (List.toArray (x0 :: x1 :: x2 :: x3 :: oi :: r)) := takeA_ok rfl
theorem takeH5 {x0 x1 x2 x3 x4 : Oper} : TakeH P md Q S fuel listed a w v oi 5 (List.toArray (x0 :: x1 :: x2 :: x3 :: x4 :: oi :: r)) := takeH_ok rfl
theorem consH5 {x0 x1 x2 x3 x4 : Oper} {rs : List Nat} : ConsH P md Q S fuel listed a w oi rs 5 (List.toArray (x0 :: x1 :: x2 :: x3 :: x4 :: oi :: r)) := consH_ok rfl
theorem takeZ5 {x0 x1 x2 x3 x4 : Oper} : TakeZ P md Q S z fuel listed a w v oi 5 (List.toArray (x0 :: x1 :: x2 :: x3 :: x4 :: oi :: r)) := takeZ_ok rfl
theorem takeA5 {x0 x1 x2 x3 x4 : Oper} : TakeA P md Q fuel listed a w v oi 5 (List.toArray (x0 :: x1 :: x2 :: x3 :: x4 :: oi :: r)) := takeA_ok rfl
theorem takeH6 {x0 x1 x2 x3 x4 x5 : Oper} : TakeH P md Q S fuel listed a w v oi 6 (List.toArray (x0 :: x1 :: x2 :: x3 :: x4 :: x5 :: oi :: r)) := takeH_ok rfl
theorem consH6 {x0 x1 x2 x3 x4 x5 : Oper} {rs : List Nat} : ConsH P md Q S fuel listed a w oi rs 6 (List.toArray (x0 :: x1 :: x2 :: x3 :: x4 :: x5 :: oi :: r)) := consH_ok rfl
theorem takeA6 {x0 x1 x2 x3 x4 x5 : Oper} : TakeA P md Q fuel listed a w v oi 6 (List.toArray (x0 :: x1 :: x2 :: x3 :: x4 :: x5 :: oi :: r)) := takeA_ok rfl
theorem oneZ6 {x0 x1 x2 x3 x4 x5 : Oper} : OneZ P md Q S z fuel listed a w oi 6 (List.toArray (x0 :: x1 :: x2 :: x3 :: x4 :: x5 :: oi :: r)) := oneZ_ok rfl
theorem takeH7 {x0 x1 x2 x3 x4 x5 x6 : Oper} : TakeH P md Q S fuel listed a w v oi 7 (List.toArray (x0 :: x1 :: x2 :: x3 :: x4 :: x5 :: x6 :: oi :: r)) := takeH_ok rfl
theorem consH7 {x0 x1 x2 x3 x4 x5 x6 : Oper} {rs : List Nat} : ConsH P md Q S fuel listed a w oi rs 7 (List.toArray (x0 :: x1 :: x2 :: x3 :: x4 :: x5 :: x6 :: oi :: r)) := consH_ok rfl
theorem takeZ7 {x0 x1 x2 x3 x4 x5 x6 : Oper} : TakeZ P md Q S z fuel listed a w v oi 7 (List.toArray (x0 :: x1 :: x2 :: x3 :: x4 :: x5 :: x6 :: oi :: r)) := takeZ_ok rfl
theorem oneZ7 {x0 x1 x2 x3 x4 x5 x6 : Oper} : OneZ P md Q S z fuel listed a w oi 7 (List.toArray (x0 :: x1 :: x2 :: x3 :: x4 :: x5 :: x6 :: oi :: r)) := oneZ_ok rfl
theorem takeH8 {x0 x1 x2 x3 x4 x5 x6 x7 : Oper} : TakeH P md Q S fuel listed a w v oi 8 (List.toArray (x0 :: x1 :: x2 :: x3 :: x4 :: x5 :: x6 :: x7 :: oi :: r)) := takeH_ok rfl
theorem consH8 {x0 x1 x2 x3 x4 x5 x6 x7 : Oper} {rs : List Nat} : ConsH P md Q S fuel listed a w oi rs 8 (List.toArray (x0 :: x1 :: x2 :: x3 :: x4 :: x5 :: x6 :: x7 :: oi :: r)) := consH_ok rfl
theorem takeZ8 {x0 x1 x2 x3 x4 x5 x6 x7 : Oper} : TakeZ P md Q S z fuel listed a w v oi 8 (List.toArray (x0 :: x1 :: x2 :: x3 :: x4 :: x5 :: x6 :: x7 :: oi :: r)) := takeZ_ok rfl
theorem oneZ8 {x0 x1 x2 x3 x4 x5 x6 x7 : Oper} : OneZ P md Q S z fuel listed a w oi 8 (List.toArray (x0 :: x1 :: x2 :: x3 :: x4 :: x5 :: x6 :: x7 :: oi :: r)) := oneZ_ok rfl
theorem takeH9 {x0 x1 x2 x3 x4 x5 x6 x7 x8 : Oper} : TakeH P md Q S fuel listed a w v oi 9 (List.toArray (x0 :: x1 :: x2 :: x3 :: x4 :: x5 :: x6 :: x7 :: x8 :: oi :: r)) := takeH_ok rfl
theorem consH9 {x0 x1 x2 x3 x4 x5 x6 x7 x8 : Oper} {rs : List Nat} : ConsH P md Q S fuel listed a w oi rs 9 (List.toArray (x0 :: x1 :: x2 :: x3 :: x4 :: x5 :: x6 :: x7 :: x8 :: oi :: r)) := consH_ok rfl
theorem oneZ9 {x0 x1 x2 x3 x4 x5 x6 x7 x8 : Oper} : OneZ P md Q S z fuel listed a w oi 9 (List.toArray (x0 :: x1 :: x2 :: x3 :: x4 :: x5 :: x6 :: x7 :: x8 :: oi :: r)) := oneZ_ok rfl
theorem takeH10 {x0 x1 x2 x3 x4 x5 x6 x7 x8 x9 : Oper} : TakeH P md Q S fuel listed a w v oi 10 (List.toArray (x0 :: x1 :: x2 :: x3 :: x4 :: x5 :: x6 :: x7 :: x8 :: x9 :: oi :: r)) := takeH_ok rfl
theorem oneZ10 {x0 x1 x2 x3 x4 x5 x6 x7 x8 x9 : Oper} : OneZ P md Q S z fuel listed a w oi 10 (List.toArray (x0 :: x1 :: x2 :: x3 :: x4 :: x5 :: x6 :: x7 :: x8 :: x9 :: oi :: r)) := oneZ_ok rfl
theorem takeH11 {x0 x1 x2 x3 x4 x5 x6 x7 x8 x9 x10 : Oper} : TakeH P md Q S fuel listed a w v oi 11 (List.toArray (x0 :: x1 :: x2 :: x3 :: x4 :: x5 :: x6 :: x7 :: x8 :: x9 :: x10 :: oi :: r)) := takeH_ok rfl
theorem takeA11 {x0 x1 x2 x3 x4 x5 x6 x7 x8 x9 x10 : Oper} : TakeA P md Q fuel listed a w v oi 11 (List.toArray (x0 :: x1 :: x2 :: x3 :: x4 :: x5 :: x6 :: x7 :: x8 :: x9 :: x10 :: oi :: r)) := takeA_ok rfl
theorem takeH12 {x0 x1 x2 x3 x4 x5 x6 x7 x8 x9 x10 x11 : Oper} : TakeH P md Q S fuel listed a w v oi 12 (List.toArray (x0 :: x1 :: x2 :: x3 :: x4 :: x5 :: x6 :: x7 :: x8 :: x9 :: x10 :: x11 :: oi :: r)) := takeH_ok rfl
theorem takeA12 {x0 x1 x2 x3 x4 x5 x6 x7 x8 x9 x10 x11 : Oper} : TakeA P md Q fuel listed a w v oi 12 (List.toArray (x0 :: x1 :: x2 :: x3 :: x4 :: x5 :: x6 :: x7 :: x8 :: x9 :: x10 :: x11 :: oi :: r)) := takeA_ok rfl
theorem takeH13 {x0 x1 x2 x3 x4 x5 x6 x7 x8 x9 x10 x11 x12 : Oper} : TakeH P md Q S fuel listed a w v oi 13 (List.toArray (x0 :: x1 :: x2 :: x3 :: x4 :: x5 :: x6 :: x7 :: x8 :: x9 :: x10 :: x11 :: x12 :: oi :: r)) := takeH_ok rfl
theorem oneZ13 {x0 x1 x2 x3 x4 x5 x6 x7 x8 x9 x10 x11 x12 : Oper} : OneZ P md Q S z fuel listed a w oi 13 (List.toArray (x0 :: x1 :: x2 :: x3 :: x4 :: x5 :: x6 :: x7 :: x8 :: x9 :: x10 :: x11 :: x12 :: oi :: r)) := oneZ_ok rfl
theorem takeH14 {x0 x1 x2 x3 x4 x5 x6 x7 x8 x9 x10 x11 x12 x13 : Oper} : TakeH P md Q S fuel listed a w v oi 14 (List.toArray (x0 :: x1 :: x2 :: x3 :: x4 :: x5 :: x6 :: x7 :: x8 :: x9 :: x10 :: x11 :: x12 :: x13 :: oi :: r)) := takeH_ok rfl
theorem oneZ14 {x0 x1 x2 x3 x4 x5 x6 x7 x8 x9 x10 x11 x12 x13 : Oper} : OneZ P md Q S z fuel listed a w oi 14 (List.toArray (x0 :: x1 :: x2 :: x3 :: x4 :: x5 :: x6 :: x7 :: x8 :: x9 :: x10 :: x11 :: x12 :: x13 :: oi :: r)) := oneZ_ok rfl
theorem takeH15 {x0 x1 x2 x3 x4 x5 x6 x7 x8 x9 x10 x11 x12 x13 x14 : Oper} : TakeH P md Q S fuel listed a w v oi 15 (List.toArray (x0 :: x1 :: x2 :: x3 :: x4 :: x5 :: x6 :: x7 :: x8 :: x9 :: x10 :: x11 :: x12 :: x13 :: x14 :: oi :: r)) := takeH_ok rfl
theorem takeH16 {x0 x1 x2 x3 x4 x5 x6 x7 x8 x9 x10 x11 x12 x13 x14 x15 : Oper} : TakeH P md Q S fuel listed a w v oi 16 (List.toArray (x0 :: x1 :: x2 :: x3 :: x4 :: x5 :: x6 :: x7 :: x8 :: x9 :: x10 :: x11 :: x12 :: x13 :: x14 :: x15 :: oi :: r)) := takeH_ok rfl
theorem takeH17 {x0 x1 x2 x3 x4 x5 x6 x7 x8 x9 x10 x11 x12 x13 x14 x15 x16 : Oper} : TakeH P md Q S fuel listed a w v oi 17 (List.toArray (x0 :: x1 :: x2 :: x3 :: x4 :: x5 :: x6 :: x7 :: x8 :: x9 :: x10 :: x11 :: x12 :: x13 :: x14 :: x15 :: x16 :: oi :: r)) := takeH_ok rfl
theorem takeH18 {x0 x1 x2 x3 x4 x5 x6 x7 x8 x9 x10 x11 x12 x13 x14 x15 x16 x17 : Oper} : TakeH P md Q S fuel listed a w v oi 18 (List.toArray (x0 :: x1 :: x2 :: x3 :: x4 :: x5 :: x6 :: x7 :: x8 :: x9 :: x10 :: x11 :: x12 :: x13 :: x14 :: x15 :: x16 :: x17 :: oi :: r)) := takeH_ok rfl
theorem takeH19 {x0 x1 x2 x3 x4 x5 x6 x7 x8 x9 x10 x11 x12 x13 x14 x15 x16 x17 x18 : Oper} : TakeH P md Q S fuel listed a w v oi 19 (List.toArray (x0 :: x1 :: x2 :: x3 :: x4 :: x5 :: x6 :: x7 :: x8 :: x9 :: x10 :: x11 :: x12 :: x13 :: x14 :: x15 :: x16 :: x17 :: x18 :: oi :: r)) := takeH_ok rfl
theorem takeH20 {x0 x1 x2 x3 x4 x5 x6 x7 x8 x9 x10 x11 x12 x13 x14 x15 x16 x17 x18 x19 : Oper} : TakeH P md Q S fuel listed a w v oi 20 (List.toArray (x0 :: x1 :: x2 :: x3 :: x4 :: x5 :: x6 :: x7 :: x8 :: x9 :: x10 :: x11 :: x12 :: x13 :: x14 :: x15 :: x16 :: x17 :: x18 :: x19 :: oi :: r)) := takeH_ok rfl
theorem takeH21 {x0 x1 x2 x3 x4 x5 x6 x7 x8 x9 x10 x11 x12 x13 x14 x15 x16 x17 x18 x19 x20 : Oper} : TakeH P md Q S fuel listed a w v oi 21 (List.toArray (x0 :: x1 :: x2 :: x3 :: x4 :: x5 :: x6 :: x7 :: x8 :: x9 :: x10 :: x11 :: x12 :: x13 :: x14 :: x15 :: x16 :: x17 :: x18 :: x19 :: x20 :: oi :: r)) := takeH_ok rfl
theorem takeH22 {x0 x1 x2 x3 x4 x5 x6 x7 x8 x9 x10 x11 x12 x13 x14 x15 x16 x17 x18 x19 x20 x21 : Oper} : TakeH P md Q S fuel listed a w v oi 22 (List.toArray (x0 :: x1 :: x2 :: x3 :: x4 :: x5 :: x6 :: x7 :: x8 :: x9 :: x10 :: x11 :: x12 :: x13 :: x14 :: x15 :: x16 :: x17 :: x18 :: x19 :: x20 :: x21 :: oi :: r)) := takeH_ok rfl
theorem takeH23 {x0 x1 x2 x3 x4 x5 x6 x7 x8 x9 x10 x11 x12 x13 x14 x15 x16 x17 x18 x19 x20 x21 x22 : Oper} : TakeH P md Q S fuel listed a w v oi 23 (List.toArray (x0 :: x1 :: x2 :: x3 :: x4 :: x5 :: x6 :: x7 :: x8 :: x9 :: x10 :: x11 :: x12 :: x13 :: x14 :: x15 :: x16 :: x17 :: x18 :: x19 :: x20 :: x21 :: x22 :: oi :: r)) := takeH_ok rfl
theorem takeH24 {x0 x1 x2 x3 x4 x5 x6 x7 x8 x9 x10 x11 x12 x13 x14 x15 x16 x17 x18 x19 x20 x21 x22 x23 : Oper} : TakeH P md Q S fuel listed a w v oi 24 (List.toArray (x0 :: x1 :: x2 :: x3 :: x4 :: x5 :: x6 :: x7 :: x8 :: x9 :: x10 :: x11 :: x12 :: x13 :: x14 :: x15 :: x16 :: x17 :: x18 :: x19 :: x20 :: x21 :: x22 :: x23 :: oi :: r)) := takeH_ok rfl
theorem takeH25 {x0 x1 x2 x3 x4 x5 x6 x7 x8 x9 x10 x11 x12 x13 x14 x15 x16 x17 x18 x19 x20 x21 x22 x23 x24 : Oper} : TakeH P md Q S fuel listed a w v oi 25 (List.toArray (x0 :: x1 :: x2 :: x3 :: x4 :: x5 :: x6 :: x7 :: x8 :: x9 :: x10 :: x11 :: x12 :: x13 :: x14 :: x15 :: x16 :: x17 :: x18 :: x19 :: x20 :: x21 :: x22 :: x23 :: x24 :: oi :: r)) := takeH_ok rfl
theorem takeH26 {x0 x1 x2 x3 x4 x5 x6 x7 x8 x9 x10 x11 x12 x13 x14 x15 x16 x17 x18 x19 x20 x21 x22 x23 x24 x25 : Oper} : TakeH P md Q S fuel listed a w v oi 26 (List.toArray (x0 :: x1 :: x2 :: x3 :: x4 :: x5 :: x6 :: x7 :: x8 :: x9 :: x10 :: x11 :: x12 :: x13 :: x14 :: x15 :: x16 :: x17 :: x18 :: x19 :: x20 :: x21 :: x22 :: x23 :: x24 :: x25 :: oi :: r)) := takeH_ok rfl
theorem takeH27 {x0 x1 x2 x3 x4 x5 x6 x7 x8 x9 x10 x11 x12 x13 x14 x15 x16 x17 x18 x19 x20 x21 x22 x23 x24 x25 x26 : Oper} : TakeH P md Q S fuel listed a w v oi 27 (List.toArray (x0 :: x1 :: x2 :: x3 :: x4 :: x5 :: x6 :: x7 :: x8 :: x9 :: x10 :: x11 :: x12 :: x13 :: x14 :: x15 :: x16 :: x17 :: x18 :: x19 :: x20 :: x21 :: x22 :: x23 :: x24 :: x25 :: x26 :: oi :: r)) := takeH_ok rfl
theorem takeH28 {x0 x1 x2 x3 x4 x5 x6 x7 x8 x9 x10 x11 x12 x13 x14 x15 x16 x17 x18 x19 x20 x21 x22 x23 x24 x25 x26 x27 : Oper} : TakeH P md Q S fuel listed a w v oi 28 (List.toArray (x0 :: x1 :: x2 :: x3 :: x4 :: x5 :: x6 :: x7 :: x8 :: x9 :: x10 :: x11 :: x12 :: x13 :: x14 :: x15 :: x16 :: x17 :: x18 :: x19 :: x20 :: x21 :: x22 :: x23 :: x24 :: x25 :: x26 :: x27 :: oi :: r)) := takeH_ok rfl
theorem takeH29 {x0 x1 x2 x3 x4 x5 x6 x7 x8 x9 x10 x11 x12 x13 x14 x15 x16 x17 x18 x19 x20 x21 x22 x23 x24 x25 x26 x27 x28 : Oper} : TakeH P md Q S fuel listed a w v oi 29 (List.toArray (x0 :: x1 :: x2 :: x3 :: x4 :: x5 :: x6 :: x7 :: x8 :: x9 :: x10 :: x11 :: x12 :: x13 :: x14 :: x15 :: x16 :: x17 :: x18 :: x19 :: x20 :: x21 :: x22 :: x23 :: x24 :: x25 :: x26 :: x27 :: x28 :: oi :: r)) := takeH_ok rfl
theorem takeH30 {x0 x1 x2 x3 x4 x5 x6 x7 x8 x9 x10 x11 x12 x13 x14 x15 x16 x17 x18 x19 x20 x21 x22 x23 x24 x25 x26 x27 x28 x29 : Oper} : TakeH P md Q S fuel listed a w v oi 30 (List.toArray (x0 :: x1 :: x2 :: x3 :: x4 :: x5 :: x6 :: x7 :: x8 :: x9 :: x10 :: x11 :: x12 :: x13 :: x14 :: x15 :: x16 :: x17 :: x18 :: x19 :: x20 :: x21 :: x22 :: x23 :: x24 :: x25 :: x26 :: x27 :: x28 :: x29 :: oi :: r)) := takeH_ok rfl
theorem takeH31 {x0 x1 x2 x3 x4 x5 x6 x7 x8 x9 x10 x11 x12 x13 x14 x15 x16 x17 x18 x19 x20 x21 x22 x23 x24 x25 x26 x27 x28 x29 x30 : Oper} : TakeH P md Q S fuel listed a w v oi 31 (List.toArray (x0 :: x1 :: x2 :: x3 :: x4 :: x5 :: x6 :: x7 :: x8 :: x9 :: x10 :: x11 :: x12 :: x13 :: x14 :: x15 :: x16 :: x17 :: x18 :: x19 :: x20 :: x21 :: x22 :: x23 :: x24 :: x25 :: x26 :: x27 :: x28 :: x29 :: x30 :: oi :: r)) := takeH_ok rfl
theorem takeH32 {x0 x1 x2 x3 x4 x5 x6 x7 x8 x9 x10 x11 x12 x13 x14 x15 x16 x17 x18 x19 x20 x21 x22 x23 x24 x25 x26 x27 x28 x29 x30 x31 : Oper} : TakeH P md Q S fuel listed a w v oi 32 (List.toArray (x0 :: x1 :: x2 :: x3 :: x4 :: x5 :: x6 :: x7 :: x8 :: x9 :: x10 :: x11 :: x12 :: x13 :: x14 :: x15 :: x16 :: x17 :: x18 :: x19 :: x20 :: x21 :: x22 :: x23 :: x24 :: x25 :: x26 :: x27 :: x28 :: x29 :: x30 :: x31 :: oi :: r)) := takeH_ok rfl
theorem consH33 {x0 x1 x2 x3 x4 x5 x6 x7 x8 x9 x10 x11 x12 x13 x14 x15 x16 x17 x18 x19 x20 x21 x22 x23 x24 x25 x26 x27 x28 x29 x30 x31 x32 : Oper} {rs : List Nat} : ConsH P md Q S fuel listed a w oi rs 33 (List.toArray (x0 :: x1 :: x2 :: x3 :: x4 :: x5 :: x6 :: x7 :: x8 :: x9 :: x10 :: x11 :: x12 :: x13 :: x14 :: x15 :: x16 :: x17 :: x18 :: x19 :: x20 :: x21 :: x22 :: x23 :: x24 :: x25 :: x26 :: x27 :: x28 :: x29 :: x30 :: x31 :: x32 :: oi :: r)) := consH_ok rfl
theorem takeH34 {x0 x1 x2 x3 x4 x5 x6 x7 x8 x9 x10 x11 x12 x13 x14 x15 x16 x17 x18 x19 x20 x21 x22 x23 x24 x25 x26 x27 x28 x29 x30 x31 x32 x33 : Oper} : TakeH P md Q S fuel listed a w v oi 34 (List.toArray (x0 :: x1 :: x2 :: x3 :: x4 :: x5 :: x6 :: x7 :: x8 :: x9 :: x10 :: x11 :: x12 :: x13 :: x14 :: x15 :: x16 :: x17 :: x18 :: x19 :: x20 :: x21 :: x22 :: x23 :: x24 :: x25 :: x26 :: x27 :: x28 :: x29 :: x30 :: x31 :: x32 :: x33 :: oi :: r)) := takeH_ok rfl
theorem consH35 {x0 x1 x2 x3 x4 x5 x6 x7 x8 x9 x10 x11 x12 x13 x14 x15 x16 x17 x18 x19 x20 x21 x22 x23 x24 x25 x26 x27 x28 x29 x30 x31 x32 x33 x34 : Oper} {rs : List Nat} : ConsH P md Q S fuel listed a w oi rs 35 (List.toArray (x0 :: x1 :: x2 :: x3 :: x4 :: x5 :: x6 :: x7 :: x8 :: x9 :: x10 :: x11 :: x12 :: x13 :: x14 :: x15 :: x16 :: x17 :: x18 :: x19 :: x20 :: x21 :: x22 :: x23 :: x24 :: x25 :: x26 :: x27 :: x28 :: x29 :: x30 :: x31 :: x32 :: x33 :: x34 :: oi :: r)) := consH_ok rfl
theorem consH36 {x0 x1 x2 x3 x4 x5 x6 x7 x8 x9 x10 x11 x12 x13 x14 x15 x16 x17 x18 x19 x20 x21 x22 x23 x24 x25 x26 x27 x28 x29 x30 x31 x32 x33 x34 x35 : Oper} {rs : List Nat} : ConsH P md Q S fuel listed a w oi rs 36 (List.toArray (x0 :: x1 :: x2 :: x3 :: x4 :: x5 :: x6 :: x7 :: x8 :: x9 :: x10 :: x11 :: x12 :: x13 :: x14 :: x15 :: x16 :: x17 :: x18 :: x19 :: x20 :: x21 :: x22 :: x23 :: x24 :: x25 :: x26 :: x27 :: x28 :: x29 :: x30 :: x31 :: x32 :: x33 :: x34 :: x35 :: oi :: r)) := consH_ok rfl
end

end Go.Proofs.Ytefclohjeompkaa

/- The contracts of Exists and Forall. -/
namespace Go.Proofs.Ytefclohjeompkaa
open Go Go.RowKit Go.Shelf Go.Proofs.Gen Go.Proofs.Bdd Go.Proofs.Bdd.T
attribute [local go_sem] Oper.semAt_some

/-- Features quantified, one after the other. -/
def qF (op : Bool → Bool → Bool) (xs : List Nat) (f : F) : F := xs.foldl (fun g (i : Nat) => fun c => op (g (updI c i false)) (g (updI c i true))) f

theorem qF_snoc (op : Bool → Bool → Bool) (xs : List Nat) (i : Nat) (f : F) (c : Nat → Bool) : qF op (xs ++ [i]) f c = op (qF op xs f (updI c i false)) (qF op xs f (updI c i true)) := by
  unfold qF
  rw [List.foldl_append]
  rfl

theorem IsF.turned {W W' : World} {v : Value} {f : F} {row : Option Nat} (h : IsF W v f) (hg : W.grownBy W' row) (hr : ∀ r, row = some r → ∃ o : Obj, W.heap[r]? = some o ∧ o.isCells = false) : IsF W' v f := by
  obtain ⟨t, ⟨ok, sv, rfl, hrow⟩, he⟩ := h
  refine ⟨t, ⟨ok, sv, rfl, ?_⟩, he⟩
  refine owns_kept (R := fun k => row = some k) hrow (Kept.grown (Kept.refl _ _) hg (fun k hk _ => hk)) (fun k hk hrk => ?_)
  obtain ⟨o, ho, hc⟩ := hr k hrk
  rcases hrow.2 with ⟨rfl, _⟩ | ⟨g, cap, cur, rfl, _, hgb, _⟩
  · cases hk
  · cases hk
    rw [hgb] at ho
    cases ho
    cases hc

theorem IsF.past {W W' : World} {v : Value} {f : F} {R : Nat → Prop} (h : IsF W v f) (hk : Kept R W W') (hr : ∀ r, R r → ∃ o : Obj, W.heap[r]? = some o ∧ o.isCells = false) : IsF W' v f := by
  obtain ⟨t, ⟨ok, sv, rfl, hrow⟩, he⟩ := h
  refine ⟨t, ⟨ok, sv, rfl, owns_kept hrow hk (fun k hk hrk => ?_)⟩, he⟩
  obtain ⟨o, ho, hc⟩ := hr k hrk
  rcases hrow.2 with ⟨rfl, _⟩ | ⟨g, cap, cur, rfl, _, hgb, _⟩
  · cases hk
  · cases hk
    rw [hgb] at ho
    cases ho
    cases hc

theorem kept_putObj (W : World) (D : Nat) (o : Obj) : Kept (fun b => b = D) W (W.putObj D o) :=
  ⟨rfl, rfl, rfl, by simp [World.putObj], fun _ _ h => World.putObj_heap_other (fun e => h (by first | exact e | exact e.symm))⟩

/-- The state of 'each' between two rounds: the set so far. -/
def EachI (w W0 : World) (op : Bool → Bool → Bool) (f : F) (pre : List Nat) (W : World) : Prop :=
  ∃ u1 u2 u3 u4, W.heap[w.heap.size]? = some (.cells #[.slice u1 u2 u3, .int .i64 u4] 31 (0, 0)) ∧ IsF W (.agg #[.slice u1 u2 u3, .int .i64 u4]) (qF op pre f) ∧ Kept (fun b => b = w.heap.size) W0 W

theorem eachI_own {w W0 : World} {op : Bool → Bool → Bool} {f : F} : OwnFrom W0.heap.size (EachI w W0 op f) := by
  intro pre W W' row ⟨u1, u2, u3, u4, he, hf, hk⟩ hg hr
  have hne : ∀ r, row = some r → r ≠ w.heap.size := fun r e h => by
    obtain ⟨_, o, ho, hc⟩ := hr r e
    rw [h, he] at ho
    cases ho
    cases hc
  refine ⟨u1, u2, u3, u4, ?_, hf.turned hg (fun r e => (hr r e).2), hk.grown hg (fun r e hlt => absurd (hr r e).1 (by omega))⟩
  exact (hg.block _ (Array.getElem?_eq_some_iff.1 he).1 (fun e => hne _ e.symm rfl)).trans he

/-- The set stored behind a round. -/
theorem each_step {w w1 W0 W z : World} {op : Bool → Bool → Bool} {f g : F} {pre : List Nat} {x : Nat} {u1 y1 : Option Addr} {u2 u3 y2 y3 : Nat} {u4 y4 : Int} (hz0 : W0.heap.size = w1.heap.size + 1) (hsz : w.heap.size + 3 ≤ w1.heap.size)
    (hk : Kept (fun b => b = w.heap.size) W0 W) (hn : Near W z) (he : z.heap[w.heap.size]? = some (.cells #[.slice u1 u2 u3, .int .i64 u4] 31 (0, 0)))
    (hv : IsF z (.agg #[.slice y1 y2 y3, .int .i64 y4]) g) (hg : ∀ c, g c = qF op (pre ++ [x]) f c) :
    ∀ W', W' = (z.setCell ⟨w.heap.size, 0, none⟩ (.slice y1 y2 y3)).setCell ⟨w.heap.size, 1, none⟩ (.int .i64 y4) → KeepsFrom W0.heap.size W W' ∧ CellAs w1.heap.size W W' ∧ EachI w W0 op f (pre ++ [x]) W' := by
  rintro W' rfl
  have hs := isF_store hv he
  have hk' : Kept (fun b => b = w.heap.size) W ((z.setCell ⟨w.heap.size, 0, none⟩ (.slice y1 y2 y3)).setCell ⟨w.heap.size, 1, none⟩ (.int .i64 y4)) :=
    Kept.setCell (Kept.setCell (S := fun b => b = w.heap.size) hn.kept (p := ⟨w.heap.size, 0, none⟩) (fun _ => rfl) _) (p := ⟨w.heap.size, 1, none⟩) (fun _ => rfl) _
  have hh := setCell_heap (setCell_heap he 0 (.slice y1 y2 y3)) 1 (.int .i64 y4)
  have hsz2 := hk.size
  generalize (z.setCell ⟨w.heap.size, 0, none⟩ (.slice y1 y2 y3)).setCell ⟨w.heap.size, 1, none⟩ (.int .i64 y4) = W' at *
  refine ⟨⟨hk'.size, fun k o hB hb _ => (hk'.block k (Array.getElem?_eq_some_iff.1 hb).1 (by omega)).trans hb⟩, World.cell?_of_block (hk'.block w1.heap.size (by omega) (by omega)), y1, y2, y3, y4, hh, hs.congr hg, hk.trans hk'⟩

set_option maxRecDepth 100000 in
set_option maxHeartbeats 3200000 in
theorem each_or {w : World} {v : Value} {t : T} (h : IsD w v t) {m : Nat} (hm : m < 4294967296) :
    Calls Try.prog 98 #[v, .int .u32 m, .func (.func 33) #[] #[]] w (FPost w (qF (fun x y => x || y) (feats (m &&& sup (nodes t))) t.ev)) := by
  obtain ⟨ao, k, cap, rfl, -⟩ := h.form
  have hs : sup (nodes t) < 16777216 := sup_lt fun s hs => by
    have hm := (nodes_good h.1).all s hs
    cases s with
    | leaf b => exact hm.1.elim
    | node j l' h' => exact hm.2.1
  have ha : bits .and .u32 (m : Int) (sup (nodes t) : Nat) = ((m &&& sup (nodes t) : Nat) : Int) := Go.Proofs.Gen.u32_and m (sup (nodes t)) hm (by omega)
  have hx : m &&& sup (nodes t) < 4294967296 := Nat.lt_of_le_of_lt Nat.and_le_right (by omega)
  have HA := Lib.hid ha
  have HD := Lib.hid h
  have HS := Lib.hid (support_calls (w := (((w.alloc (.cells #[.slice ao k cap, .int .i64 (pl (nodes t) t : Nat)] 31)).alloc (.cells #[.func (.func 33) #[] #[]] 72)).alloc (.cells #[.slice none 0 0, .int .i64 0] 31))) (h.near ((((Near.refl w).alloc _).alloc _).alloc _)))
  clear ha h
  refine (callsIn_wide (n := 6)).1 ?_
  refine callsIn_of_wp_marks Try.func98 rfl trivial ?_ rfl
  simp only [Try.ntmps98, List.size_toArray, List.length_cons, List.length_nil, Nat.reduceAdd, Nat.reduceSub, Array.replicate_succ, Array.replicate_zero, List.push_toArray, List.append_toArray, List.nil_append, List.cons_append]
  gi_wp2_with (first
    | (refine ⟨trivial, ?_⟩; gi_at_call 44; refine (callsIn_wide.2 HS.out).mono ?_; rintro e w1 ⟨rfl, n1⟩)
    | (refine ⟨trivial, ?_⟩; gi_at_call 113; rw [HA.out]; refine (callsIn_wide.2 (members_calls _ _)).mono ?_; rintro e w2 ⟨rfl, rfl⟩))
  have facts : ∀ W, W = (((w.alloc (Obj.cells #[Value.slice ao k cap, Value.int IntKind.i64 (pl (nodes t) t : Nat)] 31)).alloc (Obj.cells #[Value.func (Fn.func 33) #[] #[]] 72)).alloc (Obj.cells #[Value.slice none 0 0, Value.int IntKind.i64 0] 31)) →
      Near w W ∧ W.heap.size = w.heap.size + 3 ∧ W.heap[w.heap.size]? = some (.cells #[.slice ao k cap, .int .i64 (pl (nodes t) t : Nat)] 31 (0, 0)) ∧ W.heap[w.heap.size + 1]? = some (.cells #[.func (.func 33) #[] #[]] 72 (0, 0)) ∧ W.heap[w.heap.size + 1 + 1]? = some (.cells #[.slice none 0 0, .int .i64 0] 31 (0, 0)) := by
    rintro W rfl
    refine ⟨(((Near.refl w).alloc _).alloc _).alloc _, by simp, ?_, ?_, ?_⟩
    all_goals
      repeat (first | exact heap_new_at (by simp; done) | refine (heap_old_at (by simp <;> omega)).trans ?_)
  obtain ⟨k1, k2, k3, k4, k5⟩ := facts _ rfl
  have N0 : Near w (w1.alloc (Obj.cells #[Value.int IntKind.u32 (m &&& sup (nodes t) : Nat)] 24)) := (k1.trans n1).alloc _
  have hsz1 := n1.size'
  rw [k2] at hsz1
  have hW0 : ∀ W0, W0 = w1.alloc (Obj.cells #[Value.int IntKind.u32 (m &&& sup (nodes t) : Nat)] 24) → W0.heap.size = w1.heap.size + 1 ∧ EachI w W0 (fun x y => x || y) t.ev [] W0 ∧ W0.heap[w.heap.size + 1]? = some (.cells #[.func (.func 33) #[] #[]] 72 (0, 0)) ∧ W0.heap[w.heap.size + 1 + 1]? = some (.cells #[.slice none 0 0, .int .i64 0] 31 (0, 0)) ∧ W0.cell? ⟨w1.heap.size, 0, none⟩ = some (.int .u32 (m &&& sup (nodes t) : Nat)) := by
    rintro W0 rfl
    exact ⟨by simp, ⟨ao, k, cap, _, keepN (n1.alloc _) k3, ⟨t, HD.out.near N0, fun c => rfl⟩, Kept.refl _ _⟩, keepN (n1.alloc _) k4, keepN (n1.alloc _) k5, by simp⟩
  have hW0' := hW0 _ rfl
  generalize w1.alloc (Obj.cells #[Value.int IntKind.u32 (m &&& sup (nodes t) : Nat)] 24) = W0 at hW0' N0 ⊢
  clear hW0 facts k1 k2 k3 k4 k5 n1 HS HA
  obtain ⟨hz0, hi0, hfn, hres, hcell⟩ := hW0'
  have HZ0 := Lib.hid hz0
  have HFn := Lib.hid hfn
  have HRes := Lib.hid hres
  have HN0 := Lib.hid N0
  refine wpIn_rangeFunc_ownG rfl (by omega) (gf := 140) (lb := #[.pointer (some ⟨w1.heap.size, 0, none⟩)]) rfl trivial (enters_of Try.func140 (by kernel_rfl) rfl)
    (members_stops (6 - 1) (by omega) w1.heap.size (m &&& sup (nodes t)) hx W0 hcell) (fun h k => Eq.trans k h) ?hKb (Below.refl _ _) (fun _ => rfl)
    (EachI w W0 (fun x y => x || y) t.ev) (fun _ _ _ => False) eachI_own (fun _ _ _ _ _ hs _ _ => hs) hi0
    (fun x => { tmps := #[Value.agg #[Value.slice ao k cap, Value.int IntKind.i64 (pl (nodes t) t : Nat)], Value.int IntKind.u32 m, Value.func (Fn.func 33) #[] #[], Value.pointer (some ⟨w.heap.size, 0, none⟩), undef, Value.pointer (some ⟨w.heap.size + 1, 0, none⟩), Value.pointer (some ⟨w.heap.size + 1 + 1, 0, none⟩), Value.int IntKind.i64 x, Value.int IntKind.u32 m,
      Value.agg #[Value.slice ao k cap, Value.int IntKind.i64 (pl (nodes t) t : Nat)], Value.int IntKind.u32 (sup (nodes t) : Nat), Value.int IntKind.u32 (m &&& sup (nodes t) : Nat), Value.func (Fn.func 140) #[] #[Value.pointer (some ⟨w1.heap.size, 0, none⟩)], Value.int IntKind.i64 x, undef, undef, undef, undef, undef, undef, undef, undef, undef], defers := [] }) ?assign ?body ?done ?stop
  case hKb =>
    intro W l o o' hl ho _ _
    exact World.cell?_of_block (World.putObj_heap_other (by have := HZ0.out; show w1.heap.size ≠ l; omega))
  case assign =>
    intro l x W K hK
    gi_wp2
    exact hK
  case body =>
    rintro l pre x W ⟨u1, u2, u3, u4, he, hf, hk⟩ _
    have HE := Lib.hid he
    have HF := Lib.hid hf
    have HK := Lib.hid hk
    have c0 : W.cell? ⟨w.heap.size, 0, none⟩ = some (.slice u1 u2 u3) := cell1 (o := 0) he rfl
    have c1 : W.cell? ⟨w.heap.size, 1, none⟩ = some (.int .i64 u4) := cell1 (o := 1) he rfl
    have hfW := Lib.hid ((hk.block (w.heap.size + 1) (by have := HZ0.out; omega) (by omega)).trans HFn.out)
    have c2 : W.cell? ⟨w.heap.size + 1, 0, none⟩ = some (.func (.func 33) #[] #[]) := cell1 (o := 0) hfW.out rfl
    clear he hf hk
    have hd : 1 ≤ 6 - 1 - 1 := by omega
    have hmx : Try.prog.follows .mixedOrders = true := by kernel_rfl
    have HFd := Lib.hid (HF.out.near ((Near.refl W).drew))
    gi_wp2
    refine wpIn_region_round hmx (by kernel_rfl) (fun ⟨_, _, h⟩ => h) (fun W' => W'.cell? ⟨w.heap.size, 0, none⟩ = some (.slice u1 u2 u3) ∧ W'.cell? ⟨w.heap.size, 1, none⟩ = some (.int .i64 u4) ∧ W'.cell? ⟨w.heap.size + 1, 0, none⟩ = some (.func (.func 33) #[] #[])) 8
      ⟨by simpa using c0, by simpa using c1, by simpa using c2⟩ (fun hS => ?_)
    refine takeZ0 (v := Value.func (Fn.func 33) #[] #[]) (by kernel_rfl) (by kernel_rfl) (by kernel_rfl) (by kernel_rfl) (fun _ _ _ h => h) (Or.inl ⟨by rfl, fun w' hS' => by dsimp only at hS'; obtain ⟨q0, q1, q2⟩ := hS'; go_simp⟩) hS ?_
    try simp only [Act.put, List.setIfInBounds_toArray, List.set_cons_zero, List.set_cons_succ]
    refine takeZ1 (v := Value.agg #[Value.slice u1 u2 u3, Value.int IntKind.i64 u4]) (by kernel_rfl) (by kernel_rfl) (by kernel_rfl) (by kernel_rfl) (fun _ _ _ h => h) (Or.inl ⟨by rfl, fun w' hS' => by dsimp only at hS'; obtain ⟨q0, q1, q2⟩ := hS'; go_simp⟩) hS ?_
    try simp only [Act.put, List.setIfInBounds_toArray, List.set_cons_zero, List.set_cons_succ]
    refine takeZ2 (v := Value.int IntKind.i64 x) (by kernel_rfl) (by kernel_rfl) (by kernel_rfl) (by kernel_rfl) (fun _ _ _ h => h) (Or.inl ⟨by rfl, fun w' hS' => by dsimp only at hS'; obtain ⟨q0, q1, q2⟩ := hS'; go_simp⟩) hS ?_
    try simp only [Act.put, List.setIfInBounds_toArray, List.set_cons_zero, List.set_cons_succ]
    refine takeZ4 (v := Value.agg #[Value.slice u1 u2 u3, Value.int IntKind.i64 u4]) (by kernel_rfl) (by kernel_rfl) (by kernel_rfl) (by kernel_rfl) (fun _ _ _ h => h) (Or.inl ⟨by rfl, fun w' hS' => by dsimp only at hS'; obtain ⟨q0, q1, q2⟩ := hS'; go_simp⟩) hS ?_
    try simp only [Act.put, List.setIfInBounds_toArray, List.set_cons_zero, List.set_cons_succ]
    refine takeZ5 (v := Value.int IntKind.i64 x) (by kernel_rfl) (by kernel_rfl) (by kernel_rfl) (by kernel_rfl) (fun _ _ _ h => h) (Or.inl ⟨by rfl, fun w' hS' => by dsimp only at hS'; obtain ⟨q0, q1, q2⟩ := hS'; go_simp⟩) hS ?_
    try simp only [Act.put, List.setIfInBounds_toArray, List.set_cons_zero, List.set_cons_succ]
    refine oneZ3 (by kernel_rfl) (fun K hK => ?_)
    go_simp
    go_wp2_with (go_at_call 41; refine (with_f HFd.out _ _).mono ?_; rintro e z1 ⟨v1, rfl, hv1, n1⟩)
    refine hK.out _ _ (Or.inr ⟨n1.cell hS.1, n1.cell hS.2.1, n1.cell hS.2.2⟩) ?_
    clear hK K
    try simp only [Act.put, List.setIfInBounds_toArray, List.set_cons_zero, List.set_cons_succ]
    refine oneZ6 (by kernel_rfl) (fun K hK => ?_)
    go_simp
    go_wp2_with (go_at_call 41; refine (with_f (HFd.out.near n1) _ _).mono ?_; rintro e z2 ⟨v2, rfl, hv2, n2⟩)
    have n2' := n1.trans n2
    refine hK.out _ _ (Or.inr ⟨n2'.cell hS.1, n2'.cell hS.2.1, n2'.cell hS.2.2⟩) ?_
    clear hK K
    try simp only [Act.put, List.setIfInBounds_toArray, List.set_cons_zero, List.set_cons_succ]
    refine oneZ7 (by kernel_rfl) (fun K hK => ?_)
    go_simp
    go_wp2_with (go_at_call 33; refine (or_f (hv1.near n2) hv2).mono ?_; rintro e z3 ⟨v3, rfl, hv3, n3⟩)
    have n3' := n2'.trans n3
    refine hK.out _ _ (Or.inr ⟨n3'.cell hS.1, n3'.cell hS.2.1, n3'.cell hS.2.2⟩) ?_
    clear hK K
    obtain ⟨y1, y2, y3, y4, rfl⟩ := hv3.form
    have N3 := (Near.refl W).drew.trans n3'
    have he3 := keepN N3 HE.out
    have e0 := cell1 (o := 0) he3 rfl
    have e1 := cell1 (o := 1) he3 rfl
    have ef := free1 he3
    try simp only [Act.put, List.setIfInBounds_toArray, List.set_cons_zero, List.set_cons_succ]
    refine oneZ8 (by kernel_rfl) (fun K hK => ?_)
    go_simp
    refine hK.out _ _ (Or.inl rfl) ?_
    refine wpAnyZ_done (by kernel_rfl) ?_
    exact each_step HZ0.out hsz1 HK.out N3 he3 hv3 (fun c => (qF_snoc _ _ _ _ _).symm) _ rfl
  case done =>
    rintro D xs W hD rfl ⟨u1, u2, u3, u4, he, hf, hk⟩ hDef
    have HK := Lib.hid hk
    have HF := Lib.hid hf
    have HD2 := Lib.hid hDef
    have hlt0 := hk.size
    have HR := Lib.hid ((hk.block (w.heap.size + 1 + 1) (by have := HZ0.out; omega) (by omega)).trans HRes.out)
    have c0 : W.cell? ⟨w.heap.size, 0, none⟩ = some (.slice u1 u2 u3) := cell1 (o := 0) he rfl
    have c1 : W.cell? ⟨w.heap.size, 1, none⟩ = some (.int .i64 u4) := cell1 (o := 1) he rfl
    have d0 := cell1 (o := 0) HR.out rfl
    have d1 := cell1 (o := 1) HR.out rfl
    have df := free1 HR.out
    clear hk hf hDef he
    gi_wp2
    have hk2 := Kept.setCell (Kept.setCell (S := fun b => b = w.heap.size + 1 + 1) (Kept.refl _ W) (p := ⟨w.heap.size + 1 + 1, 0, none⟩) (fun _ => rfl) (.slice u1 u2 u3)) (p := ⟨w.heap.size + 1 + 1, 1, none⟩) (fun _ => rfl) (.int .i64 u4)
    have hs := isF_store HF.out HR.out
    have q0 := cell1 (o := 0) (setCell_heap (setCell_heap HR.out 0 (.slice u1 u2 u3)) 1 (.int .i64 u4)) rfl
    have q1 := cell1 (o := 1) (setCell_heap (setCell_heap HR.out 0 (.slice u1 u2 u3)) 1 (.int .i64 u4)) rfl
    have hN : Near w ((W.setCell ⟨w.heap.size + 1 + 1, 0, none⟩ (.slice u1 u2 u3)).setCell ⟨w.heap.size + 1 + 1, 1, none⟩ (.int .i64 u4)) :=
      Kept.mono ((HN0.out.kept.trans (Kept.mono HK.out (fun _ _ h => Or.inl h))).trans (Kept.mono hk2 (fun _ _ h => Or.inr h))) (fun b hb h => by rcases h with h | h <;> omega)
    have hDf : ((W.setCell ⟨w.heap.size + 1 + 1, 0, none⟩ (.slice u1 u2 u3)).setCell ⟨w.heap.size + 1 + 1, 1, none⟩ (.int .i64 u4)).heap[D]? = some (.deferred (some [])) :=
      (hk2.block D (Array.getElem?_eq_some_iff.1 HD2.out).1 (by have := HZ0.out; omega)).trans HD2.out
    generalize (W.setCell ⟨w.heap.size + 1 + 1, 0, none⟩ (.slice u1 u2 u3)).setCell ⟨w.heap.size + 1 + 1, 1, none⟩ (.int .i64 u4) = W2 at *
    refine ⟨by simp, .inl ⟨_, _, rfl, run_takeDeferred hDf, ?_⟩⟩
    have hk3 := kept_putObj W2 D (Obj.deferred none)
    have hs3 := hs.past hk3 (fun r e => ⟨.deferred (some []), (congrArg (fun b => W2.heap[b]?) e).trans hDf, rfl⟩)
    have hsz3 := HN0.out.size'
    have hN3 : Near w (W2.putObj D (Obj.deferred none)) := Kept.mono (hN.kept.trans hk3) (fun b hb h => by have := HZ0.out; omega)
    have r0 := hk3.cell q0 (by have := HZ0.out; show ¬ (w.heap.size + 1 + 1 = D); omega)
    have r1 := hk3.cell q1 (by have := HZ0.out; show ¬ (w.heap.size + 1 + 1 = D); omega)
    generalize W2.putObj D (Obj.deferred none) = W3 at *
    refine ⟨.agg #[.slice u1 u2 u3, .int .i64 u4], ?_, _, rfl, hs3, hN3⟩
    simp [results, Try.results98, go_sem, r0, r1]
  case stop =>
    rintro D c pre W _ _ h _
    exact h.elim

end Go.Proofs.Ytefclohjeompkaa

/- The contract of 'each' with And (printed from Each's text by gen_each.py). -/
namespace Go.Proofs.Ytefclohjeompkaa
open Go Go.RowKit Go.Shelf Go.Proofs.Gen Go.Proofs.Bdd Go.Proofs.Bdd.T
attribute [local go_sem] Oper.semAt_some

set_option maxRecDepth 100000 in
set_option maxHeartbeats 3200000 in
theorem each_and {w : World} {v : Value} {t : T} (h : IsD w v t) {m : Nat} (hm : m < 4294967296) :
    Calls Try.prog 98 #[v, .int .u32 m, .func (.func 34) #[] #[]] w (FPost w (qF (fun x y => x && y) (feats (m &&& sup (nodes t))) t.ev)) := by
  obtain ⟨ao, k, cap, rfl, -⟩ := h.form
  have hs : sup (nodes t) < 16777216 := sup_lt fun s hs => by
    have hm := (nodes_good h.1).all s hs
    cases s with
    | leaf b => exact hm.1.elim
    | node j l' h' => exact hm.2.1
  have ha : bits .and .u32 (m : Int) (sup (nodes t) : Nat) = ((m &&& sup (nodes t) : Nat) : Int) := Go.Proofs.Gen.u32_and m (sup (nodes t)) hm (by omega)
  have hx : m &&& sup (nodes t) < 4294967296 := Nat.lt_of_le_of_lt Nat.and_le_right (by omega)
  have HA := Lib.hid ha
  have HD := Lib.hid h
  have HS := Lib.hid (support_calls (w := (((w.alloc (.cells #[.slice ao k cap, .int .i64 (pl (nodes t) t : Nat)] 31)).alloc (.cells #[.func (.func 34) #[] #[]] 72)).alloc (.cells #[.slice none 0 0, .int .i64 0] 31))) (h.near ((((Near.refl w).alloc _).alloc _).alloc _)))
  clear ha h
  refine (callsIn_wide (n := 6)).1 ?_
  refine callsIn_of_wp_marks Try.func98 rfl trivial ?_ rfl
  simp only [Try.ntmps98, List.size_toArray, List.length_cons, List.length_nil, Nat.reduceAdd, Nat.reduceSub, Array.replicate_succ, Array.replicate_zero, List.push_toArray, List.append_toArray, List.nil_append, List.cons_append]
  gi_wp2_with (first
    | (refine ⟨trivial, ?_⟩; gi_at_call 44; refine (callsIn_wide.2 HS.out).mono ?_; rintro e w1 ⟨rfl, n1⟩)
    | (refine ⟨trivial, ?_⟩; gi_at_call 113; rw [HA.out]; refine (callsIn_wide.2 (members_calls _ _)).mono ?_; rintro e w2 ⟨rfl, rfl⟩))
  have facts : ∀ W, W = (((w.alloc (Obj.cells #[Value.slice ao k cap, Value.int IntKind.i64 (pl (nodes t) t : Nat)] 31)).alloc (Obj.cells #[Value.func (Fn.func 34) #[] #[]] 72)).alloc (Obj.cells #[Value.slice none 0 0, Value.int IntKind.i64 0] 31)) →
      Near w W ∧ W.heap.size = w.heap.size + 3 ∧ W.heap[w.heap.size]? = some (.cells #[.slice ao k cap, .int .i64 (pl (nodes t) t : Nat)] 31 (0, 0)) ∧ W.heap[w.heap.size + 1]? = some (.cells #[.func (.func 34) #[] #[]] 72 (0, 0)) ∧ W.heap[w.heap.size + 1 + 1]? = some (.cells #[.slice none 0 0, .int .i64 0] 31 (0, 0)) := by
    rintro W rfl
    refine ⟨(((Near.refl w).alloc _).alloc _).alloc _, by simp, ?_, ?_, ?_⟩
    all_goals
      repeat (first | exact heap_new_at (by simp; done) | refine (heap_old_at (by simp <;> omega)).trans ?_)
  obtain ⟨k1, k2, k3, k4, k5⟩ := facts _ rfl
  have N0 : Near w (w1.alloc (Obj.cells #[Value.int IntKind.u32 (m &&& sup (nodes t) : Nat)] 24)) := (k1.trans n1).alloc _
  have hsz1 := n1.size'
  rw [k2] at hsz1
  have hW0 : ∀ W0, W0 = w1.alloc (Obj.cells #[Value.int IntKind.u32 (m &&& sup (nodes t) : Nat)] 24) → W0.heap.size = w1.heap.size + 1 ∧ EachI w W0 (fun x y => x && y) t.ev [] W0 ∧ W0.heap[w.heap.size + 1]? = some (.cells #[.func (.func 34) #[] #[]] 72 (0, 0)) ∧ W0.heap[w.heap.size + 1 + 1]? = some (.cells #[.slice none 0 0, .int .i64 0] 31 (0, 0)) ∧ W0.cell? ⟨w1.heap.size, 0, none⟩ = some (.int .u32 (m &&& sup (nodes t) : Nat)) := by
    rintro W0 rfl
    exact ⟨by simp, ⟨ao, k, cap, _, keepN (n1.alloc _) k3, ⟨t, HD.out.near N0, fun c => rfl⟩, Kept.refl _ _⟩, keepN (n1.alloc _) k4, keepN (n1.alloc _) k5, by simp⟩
  have hW0' := hW0 _ rfl
  generalize w1.alloc (Obj.cells #[Value.int IntKind.u32 (m &&& sup (nodes t) : Nat)] 24) = W0 at hW0' N0 ⊢
  clear hW0 facts k1 k2 k3 k4 k5 n1 HS HA
  obtain ⟨hz0, hi0, hfn, hres, hcell⟩ := hW0'
  have HZ0 := Lib.hid hz0
  have HFn := Lib.hid hfn
  have HRes := Lib.hid hres
  have HN0 := Lib.hid N0
  refine wpIn_rangeFunc_ownG rfl (by omega) (gf := 140) (lb := #[.pointer (some ⟨w1.heap.size, 0, none⟩)]) rfl trivial (enters_of Try.func140 (by kernel_rfl) rfl)
    (members_stops (6 - 1) (by omega) w1.heap.size (m &&& sup (nodes t)) hx W0 hcell) (fun h k => Eq.trans k h) ?hKb (Below.refl _ _) (fun _ => rfl)
    (EachI w W0 (fun x y => x && y) t.ev) (fun _ _ _ => False) eachI_own (fun _ _ _ _ _ hs _ _ => hs) hi0
    (fun x => { tmps := #[Value.agg #[Value.slice ao k cap, Value.int IntKind.i64 (pl (nodes t) t : Nat)], Value.int IntKind.u32 m, Value.func (Fn.func 34) #[] #[], Value.pointer (some ⟨w.heap.size, 0, none⟩), undef, Value.pointer (some ⟨w.heap.size + 1, 0, none⟩), Value.pointer (some ⟨w.heap.size + 1 + 1, 0, none⟩), Value.int IntKind.i64 x, Value.int IntKind.u32 m,
      Value.agg #[Value.slice ao k cap, Value.int IntKind.i64 (pl (nodes t) t : Nat)], Value.int IntKind.u32 (sup (nodes t) : Nat), Value.int IntKind.u32 (m &&& sup (nodes t) : Nat), Value.func (Fn.func 140) #[] #[Value.pointer (some ⟨w1.heap.size, 0, none⟩)], Value.int IntKind.i64 x, undef, undef, undef, undef, undef, undef, undef, undef, undef], defers := [] }) ?assign ?body ?done ?stop
  case hKb =>
    intro W l o o' hl ho _ _
    exact World.cell?_of_block (World.putObj_heap_other (by have := HZ0.out; show w1.heap.size ≠ l; omega))
  case assign =>
    intro l x W K hK
    gi_wp2
    exact hK
  case body =>
    rintro l pre x W ⟨u1, u2, u3, u4, he, hf, hk⟩ _
    have HE := Lib.hid he
    have HF := Lib.hid hf
    have HK := Lib.hid hk
    have c0 : W.cell? ⟨w.heap.size, 0, none⟩ = some (.slice u1 u2 u3) := cell1 (o := 0) he rfl
    have c1 : W.cell? ⟨w.heap.size, 1, none⟩ = some (.int .i64 u4) := cell1 (o := 1) he rfl
    have hfW := Lib.hid ((hk.block (w.heap.size + 1) (by have := HZ0.out; omega) (by omega)).trans HFn.out)
    have c2 : W.cell? ⟨w.heap.size + 1, 0, none⟩ = some (.func (.func 34) #[] #[]) := cell1 (o := 0) hfW.out rfl
    clear he hf hk
    have hd : 1 ≤ 6 - 1 - 1 := by omega
    have hmx : Try.prog.follows .mixedOrders = true := by kernel_rfl
    have HFd := Lib.hid (HF.out.near ((Near.refl W).drew))
    gi_wp2
    refine wpIn_region_round hmx (by kernel_rfl) (fun ⟨_, _, h⟩ => h) (fun W' => W'.cell? ⟨w.heap.size, 0, none⟩ = some (.slice u1 u2 u3) ∧ W'.cell? ⟨w.heap.size, 1, none⟩ = some (.int .i64 u4) ∧ W'.cell? ⟨w.heap.size + 1, 0, none⟩ = some (.func (.func 34) #[] #[])) 8
      ⟨by simpa using c0, by simpa using c1, by simpa using c2⟩ (fun hS => ?_)
    refine takeZ0 (v := Value.func (Fn.func 34) #[] #[]) (by kernel_rfl) (by kernel_rfl) (by kernel_rfl) (by kernel_rfl) (fun _ _ _ h => h) (Or.inl ⟨by rfl, fun w' hS' => by dsimp only at hS'; obtain ⟨q0, q1, q2⟩ := hS'; go_simp⟩) hS ?_
    try simp only [Act.put, List.setIfInBounds_toArray, List.set_cons_zero, List.set_cons_succ]
    refine takeZ1 (v := Value.agg #[Value.slice u1 u2 u3, Value.int IntKind.i64 u4]) (by kernel_rfl) (by kernel_rfl) (by kernel_rfl) (by kernel_rfl) (fun _ _ _ h => h) (Or.inl ⟨by rfl, fun w' hS' => by dsimp only at hS'; obtain ⟨q0, q1, q2⟩ := hS'; go_simp⟩) hS ?_
    try simp only [Act.put, List.setIfInBounds_toArray, List.set_cons_zero, List.set_cons_succ]
    refine takeZ2 (v := Value.int IntKind.i64 x) (by kernel_rfl) (by kernel_rfl) (by kernel_rfl) (by kernel_rfl) (fun _ _ _ h => h) (Or.inl ⟨by rfl, fun w' hS' => by dsimp only at hS'; obtain ⟨q0, q1, q2⟩ := hS'; go_simp⟩) hS ?_
    try simp only [Act.put, List.setIfInBounds_toArray, List.set_cons_zero, List.set_cons_succ]
    refine takeZ4 (v := Value.agg #[Value.slice u1 u2 u3, Value.int IntKind.i64 u4]) (by kernel_rfl) (by kernel_rfl) (by kernel_rfl) (by kernel_rfl) (fun _ _ _ h => h) (Or.inl ⟨by rfl, fun w' hS' => by dsimp only at hS'; obtain ⟨q0, q1, q2⟩ := hS'; go_simp⟩) hS ?_
    try simp only [Act.put, List.setIfInBounds_toArray, List.set_cons_zero, List.set_cons_succ]
    refine takeZ5 (v := Value.int IntKind.i64 x) (by kernel_rfl) (by kernel_rfl) (by kernel_rfl) (by kernel_rfl) (fun _ _ _ h => h) (Or.inl ⟨by rfl, fun w' hS' => by dsimp only at hS'; obtain ⟨q0, q1, q2⟩ := hS'; go_simp⟩) hS ?_
    try simp only [Act.put, List.setIfInBounds_toArray, List.set_cons_zero, List.set_cons_succ]
    refine oneZ3 (by kernel_rfl) (fun K hK => ?_)
    go_simp
    go_wp2_with (go_at_call 41; refine (with_f HFd.out _ _).mono ?_; rintro e z1 ⟨v1, rfl, hv1, n1⟩)
    refine hK.out _ _ (Or.inr ⟨n1.cell hS.1, n1.cell hS.2.1, n1.cell hS.2.2⟩) ?_
    clear hK K
    try simp only [Act.put, List.setIfInBounds_toArray, List.set_cons_zero, List.set_cons_succ]
    refine oneZ6 (by kernel_rfl) (fun K hK => ?_)
    go_simp
    go_wp2_with (go_at_call 41; refine (with_f (HFd.out.near n1) _ _).mono ?_; rintro e z2 ⟨v2, rfl, hv2, n2⟩)
    have n2' := n1.trans n2
    refine hK.out _ _ (Or.inr ⟨n2'.cell hS.1, n2'.cell hS.2.1, n2'.cell hS.2.2⟩) ?_
    clear hK K
    try simp only [Act.put, List.setIfInBounds_toArray, List.set_cons_zero, List.set_cons_succ]
    refine oneZ7 (by kernel_rfl) (fun K hK => ?_)
    go_simp
    go_wp2_with (go_at_call 34; refine (and_f (hv1.near n2) hv2).mono ?_; rintro e z3 ⟨v3, rfl, hv3, n3⟩)
    have n3' := n2'.trans n3
    refine hK.out _ _ (Or.inr ⟨n3'.cell hS.1, n3'.cell hS.2.1, n3'.cell hS.2.2⟩) ?_
    clear hK K
    obtain ⟨y1, y2, y3, y4, rfl⟩ := hv3.form
    have N3 := (Near.refl W).drew.trans n3'
    have he3 := keepN N3 HE.out
    have e0 := cell1 (o := 0) he3 rfl
    have e1 := cell1 (o := 1) he3 rfl
    have ef := free1 he3
    try simp only [Act.put, List.setIfInBounds_toArray, List.set_cons_zero, List.set_cons_succ]
    refine oneZ8 (by kernel_rfl) (fun K hK => ?_)
    go_simp
    refine hK.out _ _ (Or.inl rfl) ?_
    refine wpAnyZ_done (by kernel_rfl) ?_
    exact each_step HZ0.out hsz1 HK.out N3 he3 hv3 (fun c => (qF_snoc _ _ _ _ _).symm) _ rfl
  case done =>
    rintro D xs W hD rfl ⟨u1, u2, u3, u4, he, hf, hk⟩ hDef
    have HK := Lib.hid hk
    have HF := Lib.hid hf
    have HD2 := Lib.hid hDef
    have hlt0 := hk.size
    have HR := Lib.hid ((hk.block (w.heap.size + 1 + 1) (by have := HZ0.out; omega) (by omega)).trans HRes.out)
    have c0 : W.cell? ⟨w.heap.size, 0, none⟩ = some (.slice u1 u2 u3) := cell1 (o := 0) he rfl
    have c1 : W.cell? ⟨w.heap.size, 1, none⟩ = some (.int .i64 u4) := cell1 (o := 1) he rfl
    have d0 := cell1 (o := 0) HR.out rfl
    have d1 := cell1 (o := 1) HR.out rfl
    have df := free1 HR.out
    clear hk hf hDef he
    gi_wp2
    have hk2 := Kept.setCell (Kept.setCell (S := fun b => b = w.heap.size + 1 + 1) (Kept.refl _ W) (p := ⟨w.heap.size + 1 + 1, 0, none⟩) (fun _ => rfl) (.slice u1 u2 u3)) (p := ⟨w.heap.size + 1 + 1, 1, none⟩) (fun _ => rfl) (.int .i64 u4)
    have hs := isF_store HF.out HR.out
    have q0 := cell1 (o := 0) (setCell_heap (setCell_heap HR.out 0 (.slice u1 u2 u3)) 1 (.int .i64 u4)) rfl
    have q1 := cell1 (o := 1) (setCell_heap (setCell_heap HR.out 0 (.slice u1 u2 u3)) 1 (.int .i64 u4)) rfl
    have hN : Near w ((W.setCell ⟨w.heap.size + 1 + 1, 0, none⟩ (.slice u1 u2 u3)).setCell ⟨w.heap.size + 1 + 1, 1, none⟩ (.int .i64 u4)) :=
      Kept.mono ((HN0.out.kept.trans (Kept.mono HK.out (fun _ _ h => Or.inl h))).trans (Kept.mono hk2 (fun _ _ h => Or.inr h))) (fun b hb h => by rcases h with h | h <;> omega)
    have hDf : ((W.setCell ⟨w.heap.size + 1 + 1, 0, none⟩ (.slice u1 u2 u3)).setCell ⟨w.heap.size + 1 + 1, 1, none⟩ (.int .i64 u4)).heap[D]? = some (.deferred (some [])) :=
      (hk2.block D (Array.getElem?_eq_some_iff.1 HD2.out).1 (by have := HZ0.out; omega)).trans HD2.out
    generalize (W.setCell ⟨w.heap.size + 1 + 1, 0, none⟩ (.slice u1 u2 u3)).setCell ⟨w.heap.size + 1 + 1, 1, none⟩ (.int .i64 u4) = W2 at *
    refine ⟨by simp, .inl ⟨_, _, rfl, run_takeDeferred hDf, ?_⟩⟩
    have hk3 := kept_putObj W2 D (Obj.deferred none)
    have hs3 := hs.past hk3 (fun r e => ⟨.deferred (some []), (congrArg (fun b => W2.heap[b]?) e).trans hDf, rfl⟩)
    have hsz3 := HN0.out.size'
    have hN3 : Near w (W2.putObj D (Obj.deferred none)) := Kept.mono (hN.kept.trans hk3) (fun b hb h => by have := HZ0.out; omega)
    have r0 := hk3.cell q0 (by have := HZ0.out; show ¬ (w.heap.size + 1 + 1 = D); omega)
    have r1 := hk3.cell q1 (by have := HZ0.out; show ¬ (w.heap.size + 1 + 1 = D); omega)
    generalize W2.putObj D (Obj.deferred none) = W3 at *
    refine ⟨.agg #[.slice u1 u2 u3, .int .i64 u4], ?_, _, rfl, hs3, hN3⟩
    simp [results, Try.results98, go_sem, r0, r1]
  case stop =>
    rintro D c pre W _ _ h _
    exact h.elim

end Go.Proofs.Ytefclohjeompkaa
