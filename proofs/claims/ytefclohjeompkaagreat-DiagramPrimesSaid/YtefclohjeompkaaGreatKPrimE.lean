/- Parts of a proof: StepsB, PrimC, PrimD, PrimE. -/
import Derived.Maps.OwnSet
import Derived.WalkKit
import Derived.Deep.QuietTactic
import Derived.Test.YtefclohjeompkaaGreatProg
import Derived.KernelRfl
import Derived.DeepKeys4
import Derived.Deep.RegionLaw
import Derived.StillTailTactics
import Derived.Maps.AppendAt
import Derived.WalkSpells
import Derived.WalkLawsBesides
import Derived.BigQuiet
import Derived.Lib.Hide
import Derived.Deep.DeepCutAuto
import Derived.Laws.EntriesVeiled
import Derived.Deep.RegionHeld3
import Derived.Laws.OwnMore
import Derived.Deep.Slices
import Derived.RangeFuncNested
import Derived.RangeFuncBound
import Derived.RangeFuncCalls
import Derived.RangeFuncLeaves
import Derived.Shelf.Abstract
import Derived.Shelf.RegionOpen
import Derived.OwnWalkIn
import Derived.TacticsInMore
import Derived.LoopNIn
import Derived.LoopIn
import Derived.Lib.BitFns
import Derived.IntWalk
import Derived.Laws.CopyOwn
import Derived.Laws.BitsAllLaws
import Derived.RangeFuncWrites
import Derived.Deep.Onto
import Derived.Test.YtefclohjeompkaaGreatKTreeC
import Derived.Test.YtefclohjeompkaaGreatKRep
import Derived.Test.YtefclohjeompkaaGreatKJoinD
import Derived.Test.YtefclohjeompkaaGreatKCmpA
import Derived.Test.YtefclohjeompkaaGreatKRefH
import Derived.Test.YtefclohjeompkaaGreatKOfB
import Derived.Test.YtefclohjeompkaaGreatKAlike
import Derived.Test.YtefclohjeompkaaGreatKBetA
import Derived.Test.YtefclohjeompkaaGreatKLinH
import Derived.Test.YtefclohjeompkaaGreatKSaidB
import Derived.Test.YtefclohjeompkaaGreatKTwoF
import Derived.Test.YtefclohjeompkaaGreatKBetB
import Derived.Test.YtefclohjeompkaaGreatKLinF
import Derived.Test.YtefclohjeompkaaGreatKLinJ
import Derived.Test.YtefclohjeompkaaGreatKSteps3
import Derived.Test.YtefclohjeompkaaGreatKFAll
import Derived.Test.YtefclohjeompkaaGreatKOpenA
import Derived.Test.YtefclohjeompkaaGreatKColl
import Derived.Test.YtefclohjeompkaaGreatKRefW
import Derived.Test.YtefclohjeompkaaGreatKPrimB
/- StepsB: what is needed of it. -/
namespace Go.Proofs.YtefclohjeompkaaGreat
open Go Go.RowKit Go.Shelf Go.Proofs.Gen
/-- A call of a function, as one step. -/
theorem step_call {P : Program} {w : World} {ops : Array Oper} {o : Oper} {a : Act} {K : Act → World → Prop} {Q : Exit → Act → World → Prop} {E : Prop}
    (hg : o.guard = none) (f : FuncId) (args : Array Operand) (tys : Array TypeId) (hop : o.op = Op.call { callee := Callee.value (Operand.func f), args := args, argTypes := tys })
    (hent : ∀ (vs : Array Value) (w : World), (callFunc f vs).run P w = .ok (.enter f vs) w) (vs : Array Value) (hvs : args.map a.eval = vs) {R : Value → World → Prop}
    (hcall : Calls P f vs w fun e w' => ∃ v, e = .returned v ∧ R v w') (hK : ∀ v w', R v w' → K (a.put o.dst v) w') :
    if Region.wanted o (yielded ops a.tmps) = true then Oper.wp P o a w K Q else E := by
  have hw : Region.wanted o (yielded ops a.tmps) = true := by simp [Region.wanted, hg]
  rw [if_pos hw]
  have he : (execOp a.eval o).run P w = .ok (.enter f vs) w := by
    unfold execOp
    simp only [hop, resolve, Deferred.ofValue, hvs, Act.eval, invoke, Sem.run_bind, Sem.run_pure, Result.andThen_ok, hent, Array.append_empty, Array.empty_append]
  unfold Oper.wp
  rw [he, Oper.upon_enter]
  refine hcall.mono ?_
  rintro e w' ⟨v, rfl, h⟩
  exact hK v w' h

/-- A slot's value, as the walk reads it. -/
theorem slot_of {a : Act} {s : Nat} {v : Value} (h : a.eval (.tmp s) = v) : a.tmps[s]?.getD undef = v := by
  rw [← h]
  simp [Act.eval]

end Go.Proofs.YtefclohjeompkaaGreat

/- PrimC: what is needed of it. -/
namespace Go.Proofs.YtefclohjeompkaaGreat
open Go Go.RowKit Go.Shelf Go.Proofs.Gen Go.Proofs.Bdd Go.Proofs.Bdd.T
theorem full_is {w : World} {v : Value} {f : F} {b : Bool} (h : IsF w v f) (hb : everyF f = b) : Calls Tryz.prog 72 #[v] w fun e w' => e = .returned (.bool b) ∧ Near w w' := by
  obtain ⟨t, hd, he⟩ := h
  have e : decide (t = leaf true) = b := by
    rw [← hb, everyF, decide_eq_decide]
    constructor
    · rintro rfl c
      rw [← he]
      rfl
    · intro hc
      exact canon hd.1 trivial fun c => (he c).trans (hc c)
  rw [← e]
  exact full_calls hd

set_option maxRecDepth 100000 in
set_option maxHeartbeats 3200000 in
theorem cubes_const {w : World} {v : Value} {f : F} {b : Bool} (h : IsF w v f) (hb : ∀ c, f c = b) {m : Nat} (hm : m ≤ 12) {B base : Nat} {L : List Bool} (hI : BI B base L w) (hbs : base ≤ w.heap.size) (hL : L.length ≤ 1000000000) (fo : Option Addr) (n cap : Nat) :
    Calls Tryz.prog 27 #[v, .slice fo n cap, .int .i64 ((m : Int) - 1), .func (.func 28) #[] #[.pointer (some ⟨B, 0, none⟩)]] w fun e w' => e = .returned (.tuple #[]) ∧ BI B base (L ++ List.replicate (3 ^ m) b) w' ∧ KB B base w w' := by
  have HF := Lib.hid h
  have hBlt := hI.lt
  obtain ⟨a1, a2, a3, a4, rfl⟩ := h.form
  have hN : Near w (w.alloc (.cells #[.slice a1 a2 a3, .int .i64 a4] 34)) := (Near.refl w).alloc _
  have hA : (w.alloc (.cells #[.slice a1 a2 a3, .int .i64 a4] 34)).heap[w.heap.size]? = some (.cells #[.slice a1 a2 a3, .int .i64 a4] 34 (0, 0)) := heap_new_at rfl
  have hev : everyF f = b := by
    cases b with
    | true => exact everyF_iff.2 hb
    | false => exact Bool.eq_false_iff.2 fun he => by have := everyF_iff.1 he fun _ => false; rw [hb] at this; cases this
  have hno : nowhere f = !b := by
    cases b with
    | true => exact Bool.eq_false_iff.2 fun he => by have := nowhere_iff.1 he fun _ => false; rw [hb] at this; cases this
    | false => exact nowhere_iff.2 hb
  have HEm := Lib.hid (fun (w' : World) (hn : Near w w') => empty_isP (HF.out.near hn) hno)
  have HEv := Lib.hid hev
  have HN := Lib.hid hN
  have HA := Lib.hid hA
  have HI := Lib.hid (hI.near hN)
  have hp3 : 3 ^ m ≤ 531441 := by
    have h1 : 3 ^ m ≤ 3 ^ 12 := Nat.pow_le_pow_right (by omega) hm
    have h2 : (3 : Nat) ^ 12 = 531441 := by decide
    omega
  have hw1 : IntKind.i64.wrap ((m : Int) - 1 + 1) = m := by rw [IntWalk.i64_in _ (by omega)]; omega
  have hszA : (w.alloc (.cells #[.slice a1 a2 a3, .int .i64 a4] 34)).heap.size = w.heap.size + 1 := by simp
  clear h hb hev hno hN hA hI
  go_enter Tryz.func27, Tryz.ntmps27
  go_upto_region 1 with fail
  generalize (w.alloc (.cells #[.slice a1 a2 a3, .int .i64 a4] 34)) = W1 at HN HA HI hszA ⊢
  obtain ⟨c0, c1⟩ : W1.cell? ⟨w.heap.size, 0, none⟩ = some (.slice a1 a2 a3) ∧ W1.cell? ⟨w.heap.size, 1, none⟩ = some (.int .i64 a4) := ⟨cell1 (o := 0) HA.out rfl, cell1 (o := 1) HA.out rfl⟩
  cases b with
  | true =>
    go_upto_region 4 with (first
      | (go_at_call 19; refine (HEm.out _ HN.out).mono ?_; rintro e w2 ⟨rfl, n2⟩; have HN2 := Lib.hid n2; replace c0 := n2.cell c0; replace c1 := n2.cell c1; clear n2)
      | (go_at_call 72; refine (full_is (HF.out.near (HN.out.trans HN2.out)) HEv.out).mono ?_; rintro e w3 ⟨rfl, n3⟩; have HN3 := Lib.hid (HN2.out.trans n3); clear n3))
    clear c0 c1
    go_loopw [8, 19] (fun q i wr => ∃ k p : Nat, k ≤ m ∧ 3 ^ k = p ∧ i = .int .i64 k ∧ q = .int .i64 p ∧ Near W1 wr) (fun _ i _ => m - (intOf i).toNat)
    case atStart => exact ⟨0, 1, Nat.zero_le _, rfl, rfl, rfl, HN3.out⟩
    case round =>
      obtain ⟨k, p, hk, hp, rfl, rfl, hn⟩ := hrel
      have HNr := Lib.hid hn
      have hpb : p ≤ 3 ^ m := hp ▸ Nat.pow_le_pow_right (by omega) hk
      have HPw := Lib.hid hp
      clear hn hp
      by_cases hlt : k < m
      · have hlt' : (k : Int) < m := by omega
        have hwp : IntKind.i64.wrap ((p : Int) * 3) = (p : Int) * 3 := IntWalk.i64_in _ (by omega)
        clear hpb
        go_wp2_with fail
        exact ⟨⟨k + 1, p * 3, by omega, by rw [Nat.pow_succ, HPw.out], by go_num, by simp, HNr.out⟩, by simp [intOf]; omega⟩
      · have hkm : k = m := by omega
        have hlt' : ¬ ((k : Int) < m) := by omega
        have HPm := Lib.hid (show p = 3 ^ m by rw [← HPw.out, hkm])
        rw [← hkm, HPw.out] at hp3
        clear hpb hkm hlt
        go_upto_region 8 with fail
        go_loopw [25] (fun i wz => ∃ j : Nat, j ≤ p ∧ i = .int .i64 j ∧ BI B base (L ++ List.replicate j true) wz ∧ KB B base W1 wz) (fun i _ => p - (intOf i).toNat)
        case atStart => exact ⟨0, Nat.zero_le _, rfl, by simpa using HI.out.near HNr.out, HNr.out.kb⟩
        case round =>
          obtain ⟨j, hj, rfl, hbi, hkb⟩ := hrel
          have HBi := Lib.hid hbi
          have HKb := Lib.hid hkb
          have hA2 := hkb.block' HA.out (by omega) (fun cur fr e => by cases e)
          have c0 : wr.cell? ⟨w.heap.size, 0, none⟩ = some (.slice a1 a2 a3) := cell1 (o := 0) hA2 rfl
          have c1 : wr.cell? ⟨w.heap.size, 1, none⟩ = some (.int .i64 a4) := cell1 (o := 1) hA2 rfl
          have HFz := Lib.hid ((HF.out.near HN.out).kb HI.out hkb)
          have hsz := hkb.size
          have hlen : (L ++ List.replicate j true).length ≤ 1099511627775 := by simp; omega
          have HLn := Lib.hid hlen
          clear hbi hkb hA2 hlen
          by_cases hjl : j < p
          · have hjl' : (j : Int) < p := by omega
            go_wp2_with (first
              | (go_at_call 72; refine (full_is HFz.out HEv.out).mono ?_; rintro e w4 ⟨rfl, n4⟩; have HN4 := Lib.hid n4; have hsz4 := n4.size'; clear n4)
              | (go_at_call 28; refine (tell_calls (HBi.out.near HN4.out) (by omega) (by have := HLn.out; omega) true).mono ?_; rintro e w5 ⟨rfl, hi5, hk5⟩; have HI5 := Lib.hid hi5; have HK5 := Lib.hid hk5; clear hi5 hk5))
            exact ⟨⟨j + 1, by omega, by go_num, by rw [List.replicate_succ', ← List.append_assoc]; exact HI5.out, HKb.out.trans (HN4.out.kb.trans HK5.out)⟩, by simp [intOf]; omega⟩
          · have hjp : j = p := by omega
            have hjl' : ¬ ((j : Int) < p) := by omega
            subst hjp
            go_wp2_with fail
            refine bodyPost_ret (results_none rfl _ _ _) rfl ?_
            exact ⟨rfl, by rw [← HPm.out]; exact HBi.out, HN.out.kb.trans HKb.out⟩
  | false =>
    go_upto_region 4 with (first
      | (go_at_call 19; refine (HEm.out _ HN.out).mono ?_; rintro e w2 ⟨rfl, n2⟩; have HN2 := Lib.hid n2; replace c0 := n2.cell c0; replace c1 := n2.cell c1; clear n2)
      | (go_at_call 72; refine (full_is (HF.out.near (HN.out.trans HN2.out)) HEv.out).mono ?_; rintro e w3 ⟨rfl, n3⟩; have HN3 := Lib.hid (HN2.out.trans n3); clear n3))
    clear c0 c1
    go_loopw [8, 19] (fun q i wr => ∃ k p : Nat, k ≤ m ∧ 3 ^ k = p ∧ i = .int .i64 k ∧ q = .int .i64 p ∧ Near W1 wr) (fun _ i _ => m - (intOf i).toNat)
    case atStart => exact ⟨0, 1, Nat.zero_le _, rfl, rfl, rfl, HN2.out⟩
    case round =>
      obtain ⟨k, p, hk, hp, rfl, rfl, hn⟩ := hrel
      have HNr := Lib.hid hn
      have hpb : p ≤ 3 ^ m := hp ▸ Nat.pow_le_pow_right (by omega) hk
      have HPw := Lib.hid hp
      clear hn hp
      by_cases hlt : k < m
      · have hlt' : (k : Int) < m := by omega
        have hwp : IntKind.i64.wrap ((p : Int) * 3) = (p : Int) * 3 := IntWalk.i64_in _ (by omega)
        clear hpb
        go_wp2_with fail
        exact ⟨⟨k + 1, p * 3, by omega, by rw [Nat.pow_succ, HPw.out], by go_num, by simp, HNr.out⟩, by simp [intOf]; omega⟩
      · have hkm : k = m := by omega
        have hlt' : ¬ ((k : Int) < m) := by omega
        have HPm := Lib.hid (show p = 3 ^ m by rw [← HPw.out, hkm])
        rw [← hkm, HPw.out] at hp3
        clear hpb hkm hlt
        go_upto_region 8 with fail
        go_loopw [25] (fun i wz => ∃ j : Nat, j ≤ p ∧ i = .int .i64 j ∧ BI B base (L ++ List.replicate j false) wz ∧ KB B base W1 wz) (fun i _ => p - (intOf i).toNat)
        case atStart => exact ⟨0, Nat.zero_le _, rfl, by simpa using HI.out.near HNr.out, HNr.out.kb⟩
        case round =>
          obtain ⟨j, hj, rfl, hbi, hkb⟩ := hrel
          have HBi := Lib.hid hbi
          have HKb := Lib.hid hkb
          have hA2 := hkb.block' HA.out (by omega) (fun cur fr e => by cases e)
          have c0 : wr.cell? ⟨w.heap.size, 0, none⟩ = some (.slice a1 a2 a3) := cell1 (o := 0) hA2 rfl
          have c1 : wr.cell? ⟨w.heap.size, 1, none⟩ = some (.int .i64 a4) := cell1 (o := 1) hA2 rfl
          have HFz := Lib.hid ((HF.out.near HN.out).kb HI.out hkb)
          have hsz := hkb.size
          have hlen : (L ++ List.replicate j false).length ≤ 1099511627775 := by simp; omega
          have HLn := Lib.hid hlen
          clear hbi hkb hA2 hlen
          by_cases hjl : j < p
          · have hjl' : (j : Int) < p := by omega
            go_wp2_with (first
              | (go_at_call 72; refine (full_is HFz.out HEv.out).mono ?_; rintro e w4 ⟨rfl, n4⟩; have HN4 := Lib.hid n4; have hsz4 := n4.size'; clear n4)
              | (go_at_call 28; refine (tell_calls (HBi.out.near HN4.out) (by omega) (by have := HLn.out; omega) false).mono ?_; rintro e w5 ⟨rfl, hi5, hk5⟩; have HI5 := Lib.hid hi5; have HK5 := Lib.hid hk5; clear hi5 hk5))
            exact ⟨⟨j + 1, by omega, by go_num, by rw [List.replicate_succ', ← List.append_assoc]; exact HI5.out, HKb.out.trans (HN4.out.kb.trans HK5.out)⟩, by simp [intOf]; omega⟩
          · have hjp : j = p := by omega
            have hjl' : ¬ ((j : Int) < p) := by omega
            subst hjp
            go_wp2_with fail
            refine bodyPost_ret (results_none rfl _ _ _) rfl ?_
            exact ⟨rfl, by rw [← HPm.out]; exact HBi.out, HN.out.kb.trans HKb.out⟩

/-- What a call of cubes comes to. -/
def CubesPost (B base : Nat) (L R : List Bool) (w : World) (e : Ending) (w' : World) : Prop := e = .returned (.tuple #[]) ∧ BI B base (L ++ R) w' ∧ KB B base w w'

set_option maxRecDepth 100000 in
set_option maxHeartbeats 6400000 in
theorem cubes_step {w : World} {v : Value} {f : F} (h : IsF w v f) (hn1 : nowhere f = false) (hn2 : everyF f = false) {m : Nat} (hm : m < 12) {B base : Nat} {L R0 R1 R2 : List Bool} (hI : BI B base L w) {g n cap x : Nat} (hmn : m < n) (hx : w.cell? ⟨g, m, none⟩ = some (.int .i64 x))
    (i0 : ∀ v' w', Near w w' → IsF w' v' (digF f x 0) → Calls Tryz.prog 27 #[v', .slice (some ⟨g, 0, none⟩) n cap, .int .i64 ((m : Int) - 1), .func (.func 28) #[] #[.pointer (some ⟨B, 0, none⟩)]] w' (CubesPost B base L R0 w'))
    (i1 : ∀ v' w', KB B base w w' → BI B base (L ++ R0) w' → IsF w' v' (digF f x 1) → Calls Tryz.prog 27 #[v', .slice (some ⟨g, 0, none⟩) n cap, .int .i64 ((m : Int) - 1), .func (.func 28) #[] #[.pointer (some ⟨B, 0, none⟩)]] w' (CubesPost B base (L ++ R0) R1 w'))
    (i2 : ∀ v' w', KB B base w w' → BI B base (L ++ R0 ++ R1) w' → IsF w' v' (digF f x 2) → Calls Tryz.prog 27 #[v', .slice (some ⟨g, 0, none⟩) n cap, .int .i64 ((m : Int) - 1), .func (.func 28) #[] #[.pointer (some ⟨B, 0, none⟩)]] w' (CubesPost B base (L ++ R0 ++ R1) R2 w')) :
    Calls Tryz.prog 27 #[v, .slice (some ⟨g, 0, none⟩) n cap, .int .i64 m, .func (.func 28) #[] #[.pointer (some ⟨B, 0, none⟩)]] w (CubesPost B base L (R0 ++ R1 ++ R2) w) := by
  have HF := Lib.hid h
  have hBlt := hI.lt
  obtain ⟨a1, a2, a3, a4, rfl⟩ := h.form
  have hN : Near w (w.alloc (.cells #[.slice a1 a2 a3, .int .i64 a4] 34)) := (Near.refl w).alloc _
  have hA : (w.alloc (.cells #[.slice a1 a2 a3, .int .i64 a4] 34)).heap[w.heap.size]? = some (.cells #[.slice a1 a2 a3, .int .i64 a4] 34 (0, 0)) := heap_new_at rfl
  have HEm := Lib.hid (fun (w' : World) (hn : Near w w') => empty_isP (HF.out.near hn) hn1)
  have HEv := Lib.hid (fun (w' : World) (hn : Near w w') => full_is (HF.out.near hn) hn2)
  have HN := Lib.hid hN
  have HA := Lib.hid hA
  have HI := Lib.hid hI
  have HX := Lib.hid hx
  have H0 := Lib.hid i0
  have H1 := Lib.hid i1
  have H2 := Lib.hid i2
  have hw1 : IntKind.i64.wrap ((m : Int) - 1) = (m : Int) - 1 := IntWalk.i64_in _ (by omega)
  have hmn' : (m : Int) < n := by omega
  have hm0 : (0 : Int) ≤ m := by omega
  clear h hn1 hn2 hN hA hI hx i0 i1 i2
  go_enter Tryz.func27, Tryz.ntmps27
  go_upto_region 1 with fail
  generalize (w.alloc (.cells #[.slice a1 a2 a3, .int .i64 a4] 34)) = W1 at HN HA ⊢
  obtain ⟨c0, c1⟩ : W1.cell? ⟨w.heap.size, 0, none⟩ = some (.slice a1 a2 a3) ∧ W1.cell? ⟨w.heap.size, 1, none⟩ = some (.int .i64 a4) := ⟨cell1 (o := 0) HA.out rfl, cell1 (o := 1) HA.out rfl⟩
  go_upto_region 11 with (first
    | (go_at_call 19; refine (HEm.out _ HN.out).mono ?_; rintro e w2 ⟨rfl, n2⟩; have HN2 := Lib.hid n2; replace c0 := n2.cell c0; replace c1 := n2.cell c1; clear n2)
    | (go_at_call 72; refine (HEv.out _ (HN.out.trans HN2.out)).mono ?_; rintro e w3 ⟨rfl, n3⟩; have HN3 := Lib.hid (HN2.out.trans n3); clear n3))
  clear c0 c1
  have HSK := Lib.hid (show ∀ w', Near w3 w' → w'.cell? ⟨w.heap.size, 0, none⟩ = some (.slice a1 a2 a3) ∧ w'.cell? ⟨w.heap.size, 1, none⟩ = some (.int .i64 a4) ∧ w'.cell? ⟨g, m, none⟩ = some (.int .i64 x) from fun w' h => ⟨cell1 (o := 0) (keepN (HN3.out.trans h) HA.out) rfl, cell1 (o := 1) (keepN (HN3.out.trans h) HA.out) rfl, (HN.out.trans (HN3.out.trans h)).cell HX.out⟩)
  have HF3 := Lib.hid (HF.out.near (HN.out.trans HN3.out))
  refine wp_region_noPanic ?_
  refine wp_region_Z (by kernel_rfl) (fun w' => w'.cell? ⟨w.heap.size, 0, none⟩ = some (.slice a1 a2 a3) ∧ w'.cell? ⟨w.heap.size, 1, none⟩ = some (.int .i64 a4) ∧ w'.cell? ⟨g, m, none⟩ = some (.int .i64 x)) 15 (HSK.out _ (Near.refl _).drew) (fun hS => ?_)
  refine takeZ0 (v := Value.agg #[.slice a1 a2 a3, .int .i64 a4]) (by kernel_rfl) (by kernel_rfl) (by kernel_rfl) (by kernel_rfl) (fun _ _ _ h => h) (Or.inl ⟨by rfl, fun w' hS' => by dsimp only at hS'; obtain ⟨s0, s1, s2⟩ := hS'; go_simp⟩) hS ?_
  try simp only [Act.put, List.setIfInBounds_toArray, List.set_cons_zero, List.set_cons_succ]
  refine takeZ1 (v := Value.slice (some ⟨g, 0, none⟩) n cap) (by kernel_rfl) (by kernel_rfl) (by kernel_rfl) (by kernel_rfl) (fun _ _ _ h => h) (Or.inl ⟨by rfl, fun w' hS' => by dsimp only at hS'; obtain ⟨s0, s1, s2⟩ := hS'; go_simp⟩) hS ?_
  try simp only [Act.put, List.setIfInBounds_toArray, List.set_cons_zero, List.set_cons_succ]
  refine takeZ2 (v := Value.int .i64 m) (by kernel_rfl) (by kernel_rfl) (by kernel_rfl) (by kernel_rfl) (fun _ _ _ h => h) (Or.inl ⟨by rfl, fun w' hS' => by dsimp only at hS'; obtain ⟨s0, s1, s2⟩ := hS'; go_simp⟩) hS ?_
  try simp only [Act.put, List.setIfInBounds_toArray, List.set_cons_zero, List.set_cons_succ]
  refine takeZ3 (v := Value.pointer (some ⟨g, m, none⟩)) (by kernel_rfl) (by kernel_rfl) (by kernel_rfl) (by kernel_rfl) (fun _ _ _ h => h) (Or.inl ⟨by rfl, fun w' hS' => by dsimp only at hS'; obtain ⟨s0, s1, s2⟩ := hS'; go_simp⟩) hS ?_
  try simp only [Act.put, List.setIfInBounds_toArray, List.set_cons_zero, List.set_cons_succ]
  refine takeZ4 (v := Value.int .i64 x) (by kernel_rfl) (by kernel_rfl) (by kernel_rfl) (by kernel_rfl) (fun _ _ _ h => h) (Or.inl ⟨by rfl, fun w' hS' => by dsimp only at hS'; obtain ⟨s0, s1, s2⟩ := hS'; go_simp⟩) hS ?_
  try simp only [Act.put, List.setIfInBounds_toArray, List.set_cons_zero, List.set_cons_succ]
  refine takeZ6 (v := Value.agg #[.slice a1 a2 a3, .int .i64 a4]) (by kernel_rfl) (by kernel_rfl) (by kernel_rfl) (by kernel_rfl) (fun _ _ _ h => h) (Or.inl ⟨by rfl, fun w' hS' => by dsimp only at hS'; obtain ⟨s0, s1, s2⟩ := hS'; go_simp⟩) hS ?_
  try simp only [Act.put, List.setIfInBounds_toArray, List.set_cons_zero, List.set_cons_succ]
  refine takeZ7 (v := Value.slice (some ⟨g, 0, none⟩) n cap) (by kernel_rfl) (by kernel_rfl) (by kernel_rfl) (by kernel_rfl) (fun _ _ _ h => h) (Or.inl ⟨by rfl, fun w' hS' => by dsimp only at hS'; obtain ⟨s0, s1, s2⟩ := hS'; go_simp⟩) hS ?_
  try simp only [Act.put, List.setIfInBounds_toArray, List.set_cons_zero, List.set_cons_succ]
  refine takeZ8 (v := Value.int .i64 m) (by kernel_rfl) (by kernel_rfl) (by kernel_rfl) (by kernel_rfl) (fun _ _ _ h => h) (Or.inl ⟨by rfl, fun w' hS' => by dsimp only at hS'; obtain ⟨s0, s1, s2⟩ := hS'; go_simp⟩) hS ?_
  try simp only [Act.put, List.setIfInBounds_toArray, List.set_cons_zero, List.set_cons_succ]
  refine takeZ9 (v := Value.pointer (some ⟨g, m, none⟩)) (by kernel_rfl) (by kernel_rfl) (by kernel_rfl) (by kernel_rfl) (fun _ _ _ h => h) (Or.inl ⟨by rfl, fun w' hS' => by dsimp only at hS'; obtain ⟨s0, s1, s2⟩ := hS'; go_simp⟩) hS ?_
  try simp only [Act.put, List.setIfInBounds_toArray, List.set_cons_zero, List.set_cons_succ]
  refine takeZ10 (v := Value.int .i64 x) (by kernel_rfl) (by kernel_rfl) (by kernel_rfl) (by kernel_rfl) (fun _ _ _ h => h) (Or.inl ⟨by rfl, fun w' hS' => by dsimp only at hS'; obtain ⟨s0, s1, s2⟩ := hS'; go_simp⟩) hS ?_
  try simp only [Act.put, List.setIfInBounds_toArray, List.set_cons_zero, List.set_cons_succ]
  refine wpAnyZ_inv2 [(5, some 37), (11, some 43), (12, some 9), (13, some 10), (14, none), (15, none)] (TwoF 5 11 12 13 14 15 w3 (fun c => f (updI c x false)) (fun c => f (updI c x true))) (fun _ => undef) (by kernel_rfl) (by kernel_rfl) ?start ?rest
  case start =>
    intro p hp
    simp only [List.all_cons, List.all_nil, Bool.and_true, Bool.and_eq_true, Bool.not_eq_true'] at hp
    exact TwoF.start ⟨hp.1, hp.2.1, hp.2.2.1, hp.2.2.2.1, hp.2.2.2.2.1, hp.2.2.2.2.2⟩ (Near.refl _).drew
  case rest =>
    intro A0 hA0
    have e1 := Lib.hid (show A0.eval (.tmp 32) = .agg #[.slice a1 a2 a3, .int .i64 a4] by rw [hA0]; rfl)
    have e2 := Lib.hid (show A0.eval (.tmp 36) = .int .i64 x by rw [hA0]; rfl)
    have e3 := Lib.hid (show A0.eval (.tmp 38) = .agg #[.slice a1 a2 a3, .int .i64 a4] by rw [hA0]; rfl)
    have e4 := Lib.hid (show A0.eval (.tmp 42) = .int .i64 x by rw [hA0]; rfl)
    have hsz := Lib.hid (show A0.tmps.size = 64 by rw [hA0]; rfl)
    have HA0 := Lib.hid hA0
    clear hA0
    refine ⟨stepI5 [] (by kernel_rfl) ?s5 (stepI11 [5] (by kernel_rfl) ?s11 (stepI12 [] (by kernel_rfl) ?s12 (stepI13 [] (by kernel_rfl) ?s13 (stepI14 [12, 5, 11, 13] (by kernel_rfl) ?s14 (stepI15 [13, 11, 14, 12, 5] (by kernel_rfl) ?s15 StepsI.nil))))), ?fin⟩
    case s5 =>
      intro p env w5 hp hd hI K hK
      have x1 := (actOf_base (p := p) (env := env) (a := A0) (ds := [(5, some 37), (11, some 43), (12, some 9), (13, some 10), (14, none), (15, none)]) (s := 32) rfl).trans e1.out
      have x2 := (actOf_base (p := p) (env := env) (a := A0) (ds := [(5, some 37), (11, some 43), (12, some 9), (13, some 10), (14, none), (15, none)]) (s := 36) rfl).trans e2.out
      refine step_call rfl 53 #[.tmp 32, .tmp 36, .const (.bool false)] #[34, 3, 4] rfl (fun vs w => call_enters Tryz.func53 (by kernel_rfl) rfl vs w) #[.agg #[.slice a1 a2 a3, .int .i64 a4], .int .i64 x, .bool false] ?_ (with_f (HF3.out.near hI.near) x false) ?_
      · simp only [List.map_toArray, List.map_cons, List.map_nil, x1, x2]
        rfl
      rintro v w5 ⟨hv, n⟩
      exact hK.out _ _ (Or.inr (HSK.out _ (hI.near.trans n))) (hI.c1 hp hv n)
    case s11 =>
      intro p env w5 hp hd hI K hK
      have x1 := (actOf_base (p := p) (env := env) (a := A0) (ds := [(5, some 37), (11, some 43), (12, some 9), (13, some 10), (14, none), (15, none)]) (s := 38) rfl).trans e3.out
      have x2 := (actOf_base (p := p) (env := env) (a := A0) (ds := [(5, some 37), (11, some 43), (12, some 9), (13, some 10), (14, none), (15, none)]) (s := 42) rfl).trans e4.out
      refine step_call rfl 53 #[.tmp 38, .tmp 42, .const (.bool true)] #[34, 3, 4] rfl (fun vs w => call_enters Tryz.func53 (by kernel_rfl) rfl vs w) #[.agg #[.slice a1 a2 a3, .int .i64 a4], .int .i64 x, .bool true] ?_ (with_f (HF3.out.near hI.near) x true) ?_
      · simp only [List.map_toArray, List.map_cons, List.map_nil, x1, x2]
        rfl
      rintro v w5 ⟨hv, n⟩
      exact hK.out _ _ (Or.inr (HSK.out _ (hI.near.trans n))) (hI.c2 hp hv n)
    case s12 =>
      intro p env w5 hp hd hI K hK
      generalize actOf [(5, some 37), (11, some 43), (12, some 9), (13, some 10), (14, none), (15, none)] p env A0 = A at hK ⊢
      go_simp
      exact hK.out _ _ (Or.inr (HSK.out _ (hI.a hp).near)) (hI.a hp)
    case s13 =>
      intro p env w5 hp hd hI K hK
      generalize actOf [(5, some 37), (11, some 43), (12, some 9), (13, some 10), (14, none), (15, none)] p env A0 = A at hK ⊢
      go_simp
      exact hK.out _ _ (Or.inr (HSK.out _ (hI.b hp).near)) (hI.b hp)
    case s14 =>
      intro p env w5 hp hd hI K hK
      simp only [List.all_cons, List.all_nil, Bool.and_true, Bool.and_eq_true] at hd
      obtain ⟨h6, h2, h5, h7⟩ := hd
      have h9 : p 15 = false := by
        cases h9 : p 15 with
        | false => rfl
        | true => rw [hI.chain h9] at hp; cases hp
      obtain ⟨b, q1, q2, q3, q4, y1, y2, y3, y4, y5⟩ := hI.s1 h6 h2 h5 h7 hp h9
      have t1 := slot_of ((actOf_eval (p := p) (env := env) (a := A0) (i := 12) (s := 9) h6 (by rw [hsz.out]; decide) (ds := [(5, some 37), (11, some 43), (12, some 9), (13, some 10), (14, none), (15, none)]) rfl (by simp)).trans y1)
      have t2 := slot_of ((actOf_eval (p := p) (env := env) (a := A0) (i := 5) (s := 37) h2 (by rw [hsz.out]; decide) (ds := [(5, some 37), (11, some 43), (12, some 9), (13, some 10), (14, none), (15, none)]) rfl (by simp)).trans y2)
      generalize actOf [(5, some 37), (11, some 43), (12, some 9), (13, some 10), (14, none), (15, none)] p env A0 = A at t1 t2 hK ⊢
      have z0 := cell1 (o := 0) y3 rfl
      have z1 := cell1 (o := 1) y3 rfl
      have zf := free1 y3
      go_simp
      exact hK.out undef _ (Or.inr (HSK.out _ y4)) (y5 undef)
    case s15 =>
      intro p env w5 hp hd hI K hK
      simp only [List.all_cons, List.all_nil, Bool.and_true, Bool.and_eq_true] at hd
      obtain ⟨h7, h5, h8, h6, h2⟩ := hd
      obtain ⟨b, q1, q2, q3, q4, y1, y2, y3, y4⟩ := hI.s2 h6 h2 h5 h7 h8 hp
      have t1 := slot_of ((actOf_eval (p := p) (env := env) (a := A0) (i := 13) (s := 10) h7 (by rw [hsz.out]; decide) (ds := [(5, some 37), (11, some 43), (12, some 9), (13, some 10), (14, none), (15, none)]) rfl (by simp)).trans y1)
      have t2 := slot_of ((actOf_eval (p := p) (env := env) (a := A0) (i := 11) (s := 43) h5 (by rw [hsz.out]; decide) (ds := [(5, some 37), (11, some 43), (12, some 9), (13, some 10), (14, none), (15, none)]) rfl (by simp)).trans y2)
      generalize actOf [(5, some 37), (11, some 43), (12, some 9), (13, some 10), (14, none), (15, none)] p env A0 = A at t1 t2 hK ⊢
      have z0 := cell1 (o := 0) y3 rfl
      have z1 := cell1 (o := 1) y3 rfl
      have zf := free1 y3
      go_simp
      exact hK.out undef _ (Or.inl rfl) (y4 undef)
    case fin =>
      intro p env w5 hp hI
      simp only [List.all_cons, List.all_nil, Bool.and_true, Bool.and_eq_true] at hp
      obtain ⟨h2, h5, h6, h7, h8, h9⟩ := hp
      obtain ⟨ba, bb, x1, x2, x3, x4, y1, y2, y3, y4, z1, z2, z3, z4, z5, z6, z7, z8, z9⟩ := hI.fin h6 h2 h5 h7 h8 h9
      refine NoPanic.normal ?_
      rw [HA0.out]
      simp only [actOf, h2, h5, h6, h7, h8, h9, if_true, Act.put, List.setIfInBounds_toArray, List.set_cons_zero, List.set_cons_succ]
      rw [z1, z2]
      clear hI h2 h5 h6 h7 h8 h9 HSK HA0 hS
      have hwl := HN.out.size'
      have hw3 := HN3.out.size'
      have NA := Lib.hid ((HN.out.trans HN3.out).trans z9)
      have HBA := Lib.hid z5
      have HBB := Lib.hid z6
      have HLO := Lib.hid z7
      have HHI := Lib.hid z8
      obtain ⟨c0, c1⟩ : w5.cell? ⟨ba, 0, none⟩ = some (.slice x1 x2 x3) ∧ w5.cell? ⟨ba, 1, none⟩ = some (.int .i64 x4) := ⟨cell1 (o := 0) z5 rfl, cell1 (o := 1) z5 rfl⟩
      obtain ⟨d0, d1⟩ : w5.cell? ⟨bb, 0, none⟩ = some (.slice y1 y2 y3) ∧ w5.cell? ⟨bb, 1, none⟩ = some (.int .i64 y4) := ⟨cell1 (o := 0) z6 rfl, cell1 (o := 1) z6 rfl⟩
      clear z1 z2 z5 z6 z7 z8 z9 HF3 HEm HEv
      go_upto_region 13 with (first
        | (go_at_call 13; refine (and_f HLO.out HHI.out).mono ?_; rintro e w6 ⟨v6, rfl, k6, n6⟩; obtain ⟨r1, r2, r3, r4, rfl⟩ := k6.form; have HD6 := Lib.hid k6; have HN6 := Lib.hid n6; clear k6 n6)
        | (go_at_call 27; refine (H0.out _ _ (NA.out.trans HN6.out) (HD6.out.fixP fun c => rfl)).mono ?_; rintro e w7 ⟨rfl, k7, n7⟩; have HI7 := Lib.hid k7; have HK7 := Lib.hid n7; clear k7 n7))
      clear c0 c1 d0 d1
      have hA7 := HK7.out.block' (keepN HN6.out HBA.out) (by omega) (fun cur fr e => by cases e)
      have hB7 := HK7.out.block' (keepN HN6.out HBB.out) (by omega) (fun cur fr e => by cases e)
      have HA7 := Lib.hid hA7
      have HB7 := Lib.hid hB7
      have HL7 := Lib.hid ((HLO.out.near HN6.out).kb (HI.out.near (NA.out.trans HN6.out)) HK7.out)
      have HH7 := Lib.hid ((HHI.out.near HN6.out).kb (HI.out.near (NA.out.trans HN6.out)) HK7.out)
      have KW7 := Lib.hid ((NA.out.trans HN6.out).kb.trans HK7.out)
      obtain ⟨c0, c1⟩ : w7.cell? ⟨ba, 0, none⟩ = some (.slice x1 x2 x3) ∧ w7.cell? ⟨ba, 1, none⟩ = some (.int .i64 x4) := ⟨cell1 (o := 0) hA7 rfl, cell1 (o := 1) hA7 rfl⟩
      clear hA7 hB7
      go_upto_region 14 with (go_at_call 27; refine (H1.out _ _ KW7.out HI7.out (HL7.out.fixP fun c => rfl)).mono ?_; rintro e w8 ⟨rfl, k8, n8⟩; have HI8 := Lib.hid k8; have HK8 := Lib.hid n8; clear k8 n8)
      clear c0 c1
      have hB8 := HK8.out.block' HB7.out (by omega) (fun cur fr e => by cases e)
      have HH8 := Lib.hid (HH7.out.kb HI7.out HK8.out)
      have KW8 := Lib.hid (KW7.out.trans HK8.out)
      obtain ⟨d0, d1⟩ : w8.cell? ⟨bb, 0, none⟩ = some (.slice y1 y2 y3) ∧ w8.cell? ⟨bb, 1, none⟩ = some (.int .i64 y4) := ⟨cell1 (o := 0) hB8 rfl, cell1 (o := 1) hB8 rfl⟩
      clear hB8
      go_wp2_with (go_at_call 27; refine (H2.out _ _ KW8.out HI8.out (HH8.out.fixP fun c => rfl)).mono ?_; rintro e w9 ⟨rfl, k9, n9⟩; have HI9 := Lib.hid k9; have HK9 := Lib.hid n9; clear k9 n9)
      go_end0
      exact ⟨rfl, by rw [← List.append_assoc, ← List.append_assoc]; exact HI9.out, KW8.out.trans HK9.out⟩

theorem cubes_calls {V : List Nat} (hV : V.length ≤ 12) {fo : Option Addr} {cap : Nat} {B base : Nat} :
    ∀ (m : Nat), m ≤ V.length → ∀ (f : F) (v : Value) (w : World) (L : List Bool), IsF w v f → OnV V m f → RdV w fo V → BI B base L w → base ≤ w.heap.size → L.length + 3 ^ m ≤ 600000000 →
      Calls Tryz.prog 27 #[v, .slice fo V.length cap, .int .i64 ((m : Int) - 1), .func (.func 28) #[] #[.pointer (some ⟨B, 0, none⟩)]] w (CubesPost B base L (inL V m f) w) := by
  intro m
  induction m with
  | zero =>
    intro _ f v w L hf ho hg hI hbs hL
    obtain ⟨b, hb⟩ := ho.zero
    rw [inL_const V 0 hb]
    exact cubes_const hf hb (m := 0) (by omega) hI hbs (by omega) _ _ _
  | succ m ih =>
    intro hm f v w L hf ho hg hI hbs hL
    have hp : (3 : Nat) ^ (m + 1) = 3 ^ m + 3 ^ m + 3 ^ m := by rw [Nat.pow_succ]; omega
    have hp0 : 0 < 3 ^ m := Nat.pow_pos (by omega)
    by_cases hc : ∃ b, ∀ c, f c = b
    · obtain ⟨b, hb⟩ := hc
      rw [inL_const V (m + 1) hb]
      exact cubes_const hf hb (m := m + 1) (by omega) hI hbs (by omega) _ _ _
    · have hn1 : nowhere f = false := Bool.eq_false_iff.2 fun h => hc ⟨false, nowhere_iff.1 h⟩
      have hn2 : everyF f = false := Bool.eq_false_iff.2 fun h => hc ⟨true, everyF_iff.1 h⟩
      rw [inL_succ, show (((m + 1 : Nat) : Int) - 1) = (m : Int) by omega]
      have l0 := inL_len V m (digF f (V.getD m 0) 0)
      have l1 := inL_len V m (digF f (V.getD m 0) 1)
      obtain ⟨g, hgo, hgc, -⟩ := hg m (by omega)
      have hg' := hg
      rw [hgo] at hg' ⊢
      refine cubes_step hf hn1 hn2 (m := m) (by omega) hI (by omega) hgc ?_ ?_ ?_
      · intro v' w' hn hv
        have := hn.size'
        rw [← hgo]
        exact ih (by omega) _ v' w' L hv (ho.dig 0) (hg.near hn) (hI.near hn) (by omega) (by omega)
      · intro v' w' hk hi hv
        have := hk.size
        rw [← hgo]
        exact ih (by omega) _ v' w' _ hv (ho.dig 1) (hg.kb hI hk) hi (by omega) (by rw [List.length_append]; omega)
      · intro v' w' hk hi hv
        have := hk.size
        rw [← hgo]
        exact ih (by omega) _ v' w' _ hv (ho.dig 2) (hg.kb hI hk) hi (by omega) (by rw [List.length_append, List.length_append]; omega)

end Go.Proofs.YtefclohjeompkaaGreat

/- PrimD: what is needed of it. -/
namespace Go.Proofs.YtefclohjeompkaaGreat
open Go Go.RowKit Go.Shelf Go.Proofs.Gen Go.Proofs.Bdd Go.Proofs.Bdd.T
/-- Is no cube that fixes one feature less in the set? -/
def primeB (L : List Bool) (k n : Nat) : Bool := (List.range n).all fun j => !(decide (0 < dig k j) && L.getD (k - dig k j * 3 ^ j) false)

theorem primeB_no {L : List Bool} {k n j : Nat} (hj : j < n) (h1 : 0 < dig k j) (h2 : L.getD (k - dig k j * 3 ^ j) false = true) : primeB L k n = false := by
  refine Bool.eq_false_iff.2 fun h => ?_
  have := List.all_eq_true.1 h j (List.mem_range.2 hj)
  rw [h2, decide_eq_true h1] at this
  cases this

theorem primeB_yes {L : List Bool} {k n : Nat} (h : ∀ j, j < n → 0 < dig k j → L.getD (k - dig k j * 3 ^ j) false = false) : primeB L k n = true := by
  refine List.all_eq_true.2 fun j hj => ?_
  by_cases h1 : 0 < dig k j
  · rw [h j (List.mem_range.1 hj) h1]
    simp
  · rw [decide_eq_false h1]
    rfl

theorem dig_lt (k j : Nat) : dig k j < 3 := Nat.mod_lt _ (by omega)

theorem dig_le (k j : Nat) : dig k j * 3 ^ j ≤ k := by
  unfold dig
  exact Nat.le_trans (Nat.mul_le_mul_right _ (Nat.mod_le _ _)) (Nat.div_mul_le_self _ _)

set_option maxRecDepth 100000 in
set_option maxHeartbeats 3200000 in
theorem prime_calls {w : World} {base : Nat} {ao : Option Addr} {cap : Nat} {L : List Bool} (hr : w.ownsRow base 4 1 (.slice ao L.length cap) L.length (L.map bv)) {k n : Nat} (hk : k < L.length) (hn : n ≤ 12) (hL : L.length ≤ 531441) :
    Calls Tryz.prog 29 #[.slice ao L.length cap, .int .i64 k, .int .i64 n] w fun e w' => e = .returned (.bool (primeB L k n)) ∧ Near w w' := by
  have HR := Lib.hid hr
  clear hr
  obtain ⟨r, hrr⟩ : ∃ r, primeB L k n = r := ⟨_, rfl⟩
  rw [hrr]
  have HRR := Lib.hid hrr
  clear hrr
  go_enter Tryz.func29, Tryz.ntmps29
  go_wp2_with fail
  go_loopw [7, 10] (fun q i wr => ∃ j p : Nat, j ≤ n ∧ 3 ^ j = p ∧ i = .int .i64 j ∧ q = .int .i64 p ∧ (∀ a, a < j → 0 < dig k a → L.getD (k - dig k a * 3 ^ a) false = false) ∧ Near w wr) (fun _ i _ => n - (intOf i).toNat)
  case atStart => exact ⟨0, 1, Nat.zero_le _, rfl, rfl, rfl, fun a ha => by omega, Near.refl _⟩
  case round =>
    obtain ⟨j, p, hj, hp, rfl, rfl, hall, hn'⟩ := hrel
    have HAll := Lib.hid hall
    have HNr := Lib.hid hn'
    have HP := Lib.hid hp
    have hpp : 0 < p := hp ▸ Nat.pow_pos (by omega)
    have hpb : p ≤ 531441 := by
      have h1 : (3 : Nat) ^ j ≤ 3 ^ 12 := Nat.pow_le_pow_right (by omega) (by omega)
      have h2 : (3 : Nat) ^ 12 = 531441 := by decide
      omega
    clear hall hn'
    by_cases hlt : j < n
    · have hlt' : (j : Int) < n := by omega
      have hp0 : ¬ (p = 0) := by omega
      have hp0' : ¬ ((p : Int) = 0) := by omega
      have hd : dig k j = k / p % 3 := by unfold dig; rw [hp]
      have hdl := dig_lt k j
      have hdk := dig_le k j
      rw [hp] at hdk
      have HD := Lib.hid hd
      have hno := primeB_no (L := L) (k := k) hlt
      have hnext : (0 < dig k j → L.getD (k - dig k j * 3 ^ j) false = false) → ∀ a, a < j + 1 → 0 < dig k a → L.getD (k - dig k a * 3 ^ a) false = false := fun h a ha h0 => by
        by_cases e : a = j
        · subst e
          exact h h0
        · exact HAll.out a (by omega) h0
      rw [hp] at hno hnext
      have HNo := Lib.hid hno
      have HNext := Lib.hid hnext
      clear hp hd hno hnext
      generalize dig k j = d at hdl hdk HD HNo HNext
      have e1 : ((k : Int) / p) = ((k / p : Nat) : Int) := by simp
      have hle := Nat.div_le_self k p
      have hwd : IntKind.i64.wrap ((k : Int) / p) = (k : Int) / p := by
        rw [e1]
        generalize k / p = q at hle
        exact IntWalk.i64_in _ (by omega)
      have htm : ((k : Int) / p).tmod 3 = (d : Int) := by
        rw [e1, HD.out]
        rfl
      have hwt : IntKind.i64.wrap (d : Int) = (d : Int) := IntWalk.i64_in _ (by omega)
      clear e1 hle
      by_cases hd0 : d = 0
      · subst hd0
        go_wp2_with fail
        exact ⟨⟨j + 1, p * 3, by omega, by rw [Nat.pow_succ, HP.out], by go_num, by go_num, HNext.out (fun h => by omega), HNr.out⟩, by simp [intOf]; omega⟩
      · have hd1 : (0 : Int) < d := by omega
        obtain ⟨dp, hdp⟩ : ∃ dp, d * p = dp := ⟨_, rfl⟩
        have hno := HNo.out (by omega)
        have hnext := HNext.out
        rw [hdp] at hdk hno hnext
        have hm1 : (d : Int) * p = (dp : Int) := by rw [← hdp]; simp
        have hm2 : IntKind.i64.wrap (dp : Int) = (dp : Int) := IntWalk.i64_in _ (by omega)
        obtain ⟨z, hz⟩ : ∃ z, k - dp = z := ⟨_, rfl⟩
        have hs1 : (k : Int) - dp = (z : Int) := by omega
        have hs2 : IntKind.i64.wrap (z : Int) = (z : Int) := IntWalk.i64_in _ (by omega)
        have hzl : (z : Int) < L.length := by omega
        rw [hz] at hno hnext
        obtain ⟨b, hb⟩ : ∃ b, L.getD z false = b := ⟨_, rfl⟩
        have hLz : L[z]? = some b := by rw [← hb, List.getD_eq_getElem?_getD, List.getElem?_eq_getElem (by omega)]; rfl
        obtain ⟨g, cap', ev, x0, -⟩ := row1 HR.out (k := z) (u := bv b) (by rw [List.getElem?_map, hLz]; rfl) (by omega)
        cases ev
        have x1 : wr.cell? ⟨g, z, none⟩ = some (.bool b) := HNr.out.cell x0
        rw [hb] at hno hnext
        have HNo2 := Lib.hid hno
        have HNext2 := Lib.hid hnext
        have hwp : IntKind.i64.wrap ((p : Int) * 3) = (p : Int) * 3 := IntWalk.i64_in _ (by omega)
        clear hb hLz hdp hz x0 hno hnext HNo HNext
        cases b
        · go_wp2_with fail
          exact ⟨⟨j + 1, p * 3, by omega, by rw [Nat.pow_succ, HP.out], by go_num, by go_num, HNext2.out (fun _ => rfl), HNr.out⟩, by simp [intOf]; omega⟩
        · have hr' : r = false := HRR.out.symm.trans (HNo2.out rfl)
          subst hr'
          go_wp2_with fail
          exact bodyPost_ret (v := .bool false) (by simp [results, Tryz.results29, go_sem]) rfl ⟨rfl, HNr.out⟩
    · have hjn : j = n := by omega
      have hlt' : ¬ ((j : Int) < n) := by omega
      subst hjn
      have hr' : r = true := HRR.out.symm.trans (primeB_yes HAll.out)
      subst hr'
      go_wp2_with fail
      exact bodyPost_ret (v := .bool true) (by simp [results, Tryz.results29, go_sem]) rfl ⟨rfl, HNr.out⟩

end Go.Proofs.YtefclohjeompkaaGreat

/- PrimE: what is needed of it. -/
namespace Go.Proofs.YtefclohjeompkaaGreat
open Go Go.RowKit Go.Shelf Go.Proofs.Gen Go.Proofs.Bdd Go.Proofs.Bdd.T
/-- What a cube with a number has, and what it has not; of the first m features. -/
def kOn (V : List Nat) (k : Nat) : Nat → Nat
  | 0 => 0
  | m + 1 => if dig k m = 2 then kOn V k m ||| 2 ^ V.getD m 0 else kOn V k m

def kOff (V : List Nat) (k : Nat) : Nat → Nat
  | 0 => 0
  | m + 1 => if dig k m = 1 then kOff V k m ||| 2 ^ V.getD m 0 else kOff V k m

theorem kOn_lt {V : List Nat} (hV : ∀ j, V.getD j 0 < 24) (k : Nat) : ∀ m, kOn V k m < 16777216
  | 0 => by simp [kOn]
  | m + 1 => by
    have ih := kOn_lt hV k m
    unfold kOn
    split
    · exact Nat.or_lt_two_pow (n := 24) ih (Nat.pow_lt_pow_right (by omega) (hV m))
    · exact ih

theorem kOff_lt {V : List Nat} (hV : ∀ j, V.getD j 0 < 24) (k : Nat) : ∀ m, kOff V k m < 16777216
  | 0 => by simp [kOff]
  | m + 1 => by
    have ih := kOff_lt hV k m
    unfold kOff
    split
    · exact Nat.or_lt_two_pow (n := 24) ih (Nat.pow_lt_pow_right (by omega) (hV m))
    · exact ih

theorem dig_div (k j : Nat) : k / 3 ^ j / 3 = k / 3 ^ (j + 1) := by rw [Nat.div_div_eq_div_mul, Nat.pow_succ]

set_option maxRecDepth 100000 in
set_option maxHeartbeats 3200000 in
theorem cube_calls {w : World} {V : List Nat} (hV : ∀ j, V.getD j 0 < 24) (hVl : V.length ≤ 24) {fo : Option Addr} {cap : Nat} (hg : RdV w fo V) {k : Nat} (hk : k < 1000000000) :
    Calls Tryz.prog 30 #[.slice fo V.length cap, .int .i64 k] w fun e w' => e = .returned (.agg #[.int .u32 (kOn V k V.length : Nat), .int .u32 (kOff V k V.length : Nat)]) ∧ Near w w' := by
  have HG := Lib.hid hg
  have HV := Lib.hid hV
  clear hg hV
  have facts : ∀ W, W = (w.alloc (.cells #[.int .u32 0, .int .u32 0] 42)).alloc (.cells #[.int .u32 0, .int .u32 0] 42) → Near w W ∧ W.heap.size = w.heap.size + 1 + 1 ∧ W.heap[w.heap.size]? = some (.cells #[.int .u32 0, .int .u32 0] 42 (0, 0)) ∧ W.heap[w.heap.size + 1]? = some (.cells #[.int .u32 0, .int .u32 0] 42 (0, 0)) := by
    rintro W rfl
    exact ⟨((Near.refl w).alloc _).alloc _, by simp, (heap_old_at (by simp)).trans (heap_new_at rfl), heap_new_at (by simp)⟩
  go_enter Tryz.func30, Tryz.ntmps30
  go_upto_region 2 with fail
  have hf := facts _ rfl
  generalize (w.alloc (.cells #[.int .u32 0, .int .u32 0] 42)).alloc (.cells #[.int .u32 0, .int .u32 0] 42) = W at hf ⊢
  clear facts
  obtain ⟨hN, hS, hR, hX⟩ := hf
  have HN := Lib.hid hN
  have HR := Lib.hid hR
  have HX := Lib.hid hX
  have HSz := Lib.hid hS
  clear hN hR hX hS
  go_wp2_with fail
  go_loopw [1, 10] (fun q i wr => ∃ j y : Nat, j ≤ V.length ∧ k / 3 ^ j = y ∧ i = .int .i64 j ∧ q = .int .i64 y ∧ wr.heap[w.heap.size + 1]? = some (.cells #[.int .u32 (kOn V k j : Nat), .int .u32 (kOff V k j : Nat)] 42 (0, 0)) ∧ Kept (fun b => b = w.heap.size + 1) W wr) (fun _ i _ => V.length - (intOf i).toNat)
  case atStart => exact ⟨0, k, Nat.zero_le _, by simp, rfl, rfl, HX.out, Kept.refl _ _⟩
  case round =>
    obtain ⟨j, y, hj, hy, rfl, rfl, hx, hkp⟩ := hrel
    have HXr := Lib.hid hx
    have HK := Lib.hid hkp
    have HY := Lib.hid hy
    have hyk : y ≤ k := hy ▸ Nat.div_le_self _ _
    clear hx hkp
    by_cases hlt : j < V.length
    · have hlt' : (j : Int) < V.length := by omega
      have hxlt := HV.out j
      obtain ⟨g, hfo, hgc, -⟩ := HG.out j hlt
      subst hfo
      have hgb : g < w.heap.size := World.block_lt_of_cell? w _ hgc
      have x0 : wr.cell? ⟨g, j, none⟩ = some (.int .i64 (V.getD j 0 : Nat)) := HK.out.cell (HN.out.cell hgc) (by show ¬ g = w.heap.size + 1; omega)
      clear hgc
      have hon := kOn_lt HV.out k j
      have hoff := kOff_lt HV.out k j
      have s1 : kOn V k (j + 1) = if dig k j = 2 then kOn V k j ||| 2 ^ V.getD j 0 else kOn V k j := rfl
      have s2 : kOff V k (j + 1) = if dig k j = 1 then kOff V k j ||| 2 ^ V.getD j 0 else kOff V k j := rfl
      have hd : dig k j = y % 3 := by unfold dig; rw [hy]
      have hny : y / 3 = k / 3 ^ (j + 1) := by rw [← hy, dig_div]
      rw [hd] at s1 s2
      have S1 := Lib.hid s1
      have S2 := Lib.hid s2
      have HNy := Lib.hid hny
      have c0 : wr.cell? ⟨w.heap.size + 1, 0, none⟩ = some (.int .u32 (kOn V k j : Nat)) := cell1 (o := 0) HXr.out rfl
      have c1 : wr.cell? ⟨w.heap.size + 1, 1, none⟩ = some (.int .u32 (kOff V k j : Nat)) := cell1 (o := 1) HXr.out rfl
      have cf := free1 HXr.out
      clear hd hny s1 s2 hy
      generalize V.getD j 0 = x at x0 hxlt S1 S2
      generalize kOn V k j = on at c0 hon S1 HXr
      generalize kOff V k j = off at c1 hoff S2 HXr
      have hpk : 2 ^ x < 16777216 := Nat.lt_of_lt_of_le (Nat.pow_lt_pow_right (a := 2) (by omega) hxlt) (by decide)
      have hcast : ((2 ^ x : Nat) : Int) = (2 : Int) ^ x := by simp
      have hsh : IntKind.u32.wrap ((2 : Int) ^ x) = (2 : Int) ^ x := by rw [← hcast]; generalize 2 ^ x = p at hpk; exact IntWalk.u32_in _ (by omega)
      have ho1 : bits .or .u32 (on : Int) ((2 : Int) ^ x) = ((on ||| 2 ^ x : Nat) : Int) := by rw [← hcast]; generalize 2 ^ x = p at hpk; exact Go.Proofs.Gen.u32_or on p (by omega) (by omega)
      have ho2 : bits .or .u32 (off : Int) ((2 : Int) ^ x) = ((off ||| 2 ^ x : Nat) : Int) := by rw [← hcast]; generalize 2 ^ x = p at hpk; exact Go.Proofs.Gen.u32_or off p (by omega) (by omega)
      have hx0 : (0 : Int) ≤ x := by omega
      have htm : (y : Int).tmod 3 = ((y % 3 : Nat) : Int) := rfl
      clear hcast hpk
      have hy3 : y % 3 < 3 := Nat.mod_lt _ (by omega)
      obtain h0 | h1 | h2 : y % 3 = 0 ∨ y % 3 = 1 ∨ y % 3 = 2 := by omega
      · rw [h0] at htm
        go_wp2_with fail
        refine ⟨⟨j + 1, y / 3, by omega, HNy.out.symm, by go_num, by simp, ?_, HK.out⟩, by simp [intOf]; omega⟩
        rw [S1.out, S2.out, if_neg (by omega), if_neg (by omega)]
        exact HXr.out
      · rw [h1] at htm
        go_upto_region 7 with fail
        go_still_tail 6, (by kernel_rfl)
        change wpList _ _ _ _ _ wr.drew
        go_wp2_with fail
        refine ⟨⟨j + 1, y / 3, by omega, HNy.out.symm, by go_num, by simp, ?_, (HK.out.setCell (p := ⟨w.heap.size + 1, _, none⟩) (fun _ => rfl) _).drew⟩, by simp [intOf]; omega⟩
        rw [S1.out, S2.out, if_neg (by omega), if_pos h1]
        have := setCell_heap HXr.out 1 (.int .u32 ((off ||| 2 ^ x : Nat) : Int))
        simp at this
        exact this
      · rw [h2] at htm
        go_upto_region 9 with fail
        go_still_tail 6, (by kernel_rfl)
        change wpList _ _ _ _ _ wr.drew
        go_wp2_with fail
        refine ⟨⟨j + 1, y / 3, by omega, HNy.out.symm, by go_num, by simp, ?_, (HK.out.setCell (p := ⟨w.heap.size + 1, _, none⟩) (fun _ => rfl) _).drew⟩, by simp [intOf]; omega⟩
        rw [S1.out, S2.out, if_pos h2, if_neg (by omega)]
        have := setCell_heap HXr.out 0 (.int .u32 ((on ||| 2 ^ x : Nat) : Int))
        simp at this
        exact this
    · have hjn : j = V.length := by omega
      have hlt' : ¬ ((j : Int) < V.length) := by omega
      subst hjn
      have hRr := (HK.out.block w.heap.size (Array.getElem?_eq_some_iff.1 HR.out).1 (by omega)).trans HR.out
      obtain ⟨c0, c1⟩ : wr.cell? ⟨w.heap.size + 1, 0, none⟩ = some (.int .u32 (kOn V k V.length : Nat)) ∧ wr.cell? ⟨w.heap.size + 1, 1, none⟩ = some (.int .u32 (kOff V k V.length : Nat)) := ⟨cell1 (o := 0) HXr.out rfl, cell1 (o := 1) HXr.out rfl⟩
      have z0 := cell1 (o := 0) hRr rfl
      have z1 := cell1 (o := 1) hRr rfl
      have zf := free1 hRr
      have HRr := Lib.hid hRr
      obtain ⟨on, hon⟩ : ∃ on, kOn V k V.length = on := ⟨_, rfl⟩
      obtain ⟨off, hoff⟩ : ∃ off, kOff V k V.length = off := ⟨_, rfl⟩
      rw [hon] at c0
      rw [hoff] at c1
      have HOn := Lib.hid hon
      have HOff := Lib.hid hoff
      clear hRr hon hoff
      go_wp2_with fail
      have q := box31 HRr.out (.int .u32 on) (.int .u32 off)
      have q0 := cell1 (o := 0) q rfl
      have q1 := cell1 (o := 1) q rfl
      have hk2 := two_keptP (w := wr) (b := w.heap.size) (.int .u32 on) (.int .u32 off)
      have kk : Kept (fun b => w.heap.size ≤ b) w ((wr.setCell ⟨w.heap.size, 0, none⟩ (.int .u32 on)).setCell ⟨w.heap.size, 1, none⟩ (.int .u32 off)) :=
        (HN.out.kept.trans (Kept.mono HK.out (fun b _ e => by omega))).trans (Kept.mono hk2 (fun b _ e => by omega))
      exact bodyPost_ret (v := .agg #[.int .u32 on, .int .u32 off]) (by simp [results, Tryz.results30, go_sem, q0, q1]) rfl ⟨by rw [HOn.out, HOff.out], Kept.mono kk (fun b hb e => by omega)⟩

end Go.Proofs.YtefclohjeompkaaGreat
