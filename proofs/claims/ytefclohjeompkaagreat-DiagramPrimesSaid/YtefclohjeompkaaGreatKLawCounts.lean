/- Parts of a proof: MentA, LawCounts. -/
import Derived.Maps.OwnSet
import Derived.WalkKit
import Derived.Deep.QuietTactic
import Derived.Test.YtefclohjeompkaaGreatProg
import Derived.KernelRfl
import Derived.DeepKeys4
import Derived.Deep.RegionLaw
import Derived.StillTailTactics
import Derived.Maps.AppendAt
import Derived.WalkSpells
import Derived.WalkLawsBesides
import Derived.BigQuiet
import Derived.Lib.Hide
import Derived.Deep.DeepCutAuto
import Derived.Laws.EntriesVeiled
import Derived.Deep.RegionHeld3
import Derived.Laws.OwnMore
import Derived.Deep.Slices
import Derived.Lib.BitFns
import Derived.IntWalk
import Derived.RangeFuncNested
import Derived.RangeFuncBound
import Derived.RangeFuncCalls
import Derived.RangeFuncLeaves
import Derived.Shelf.Abstract
import Derived.Shelf.RegionOpen
import Derived.OwnWalkIn
import Derived.TacticsInMore
import Derived.LoopNIn
import Derived.LoopIn
import Derived.Laws.CopyOwn
import Derived.Laws.BitsAllLaws
import Derived.Test.YtefclohjeompkaaGreatKTreeC
import Derived.Test.YtefclohjeompkaaGreatKRep
import Derived.Test.YtefclohjeompkaaGreatKJoinD
import Derived.Test.YtefclohjeompkaaGreatKCmpA
import Derived.Test.YtefclohjeompkaaGreatKRefH
import Derived.Test.YtefclohjeompkaaGreatKOfB
import Derived.Test.YtefclohjeompkaaGreatKAlike
import Derived.Test.YtefclohjeompkaaGreatKBetA
import Derived.Test.YtefclohjeompkaaGreatKBetB
import Derived.Test.YtefclohjeompkaaGreatKLinF
import Derived.Test.YtefclohjeompkaaGreatKLinH
import Derived.Test.YtefclohjeompkaaGreatKLinJ
import Derived.Test.YtefclohjeompkaaGreatKSteps3
import Derived.Test.YtefclohjeompkaaGreatKFAll
import Derived.Test.YtefclohjeompkaaGreatKOpenA
import Derived.Test.YtefclohjeompkaaGreatKRefW
import Derived.Test.YtefclohjeompkaaGreatKColl
import Derived.Test.YtefclohjeompkaaGreatKPrimB
import Derived.Test.YtefclohjeompkaaGreatKSaidB
import Derived.Test.YtefclohjeompkaaGreatKBothA
import Derived.Test.YtefclohjeompkaaGreatKCntB
/- MentA: what is needed of it. -/
namespace Go.Proofs.YtefclohjeompkaaGreat
open Go Go.RowKit Go.Proofs.Gen Go.Proofs.Bdd Go.Proofs.Bdd.T
/-- The features that a step names, three kinds of steps. -/
def ment2 (x : SOp) (f : Nat) : Nat := if x.op = 2 ∧ 0 ≤ x.i ∧ x.i < 24 then f ||| 2 ^ x.i.toNat else f

def ment3 (x : SOp) (f : Nat) : Nat := if x.op = 3 then (f ||| x.f) ||| x.g else f

def ment12 (x : SOp) (f : Nat) : Nat := if x.op = 12 then f ||| x.f else f

/-- The features of costs that are not 0, of the first k. -/
def ment13 (x : SOp) (f : Nat) : Nat → Nat
  | 0 => f
  | k + 1 => if x.ls.getD k 0 = 0 then ment13 x f k else ment13 x f k ||| 2 ^ k

def mentAll (x : SOp) (f : Nat) : Nat := if x.op = 13 then ment13 x (ment12 x (ment3 x (ment2 x f))) (min x.ls.length 24) else ment12 x (ment3 x (ment2 x f))

/-- Does a script name few features, and is it short? -/
def mentB (l : List SOp) : Bool := decide (l.length ≤ 12) && l.all (fun x => decide (x.ls.length ≤ 40)) && decide ((feats (l.foldl (fun f x => mentAll x f) 0)).length ≤ 7)

theorem ment13_lt {x : SOp} {f : Nat} (h : f < 4294967296) : ∀ {k : Nat}, k ≤ 24 → ment13 x f k < 4294967296
  | 0, _ => h
  | k + 1, hk => by
    have ih := ment13_lt (x := x) h (k := k) (by omega)
    unfold ment13
    split
    · exact ih
    · have hp : 2 ^ k < 2 ^ 32 := Nat.pow_lt_pow_right (by omega) (by omega)
      exact Nat.or_lt_two_pow (n := 32) ih hp

theorem mentB_long {l : List SOp} (h : ¬ l.length ≤ 12) : mentB l = false := by simp [mentB, h]

theorem mentB_wide {l : List SOp} {x : SOp} (hx : x ∈ l) (h : ¬ x.ls.length ≤ 40) : mentB l = false := by
  have : l.all (fun x => decide (x.ls.length ≤ 40)) = false := by
    rw [List.all_eq_false]
    exact ⟨x, hx, by simpa using h⟩
  simp [mentB, this]

theorem mentB_ok {l : List SOp} (h : mentB l = true) : l.length ≤ 12 ∧ ∀ x ∈ l, x.ls.length ≤ 40 := by
  simp only [mentB, Bool.and_eq_true, decide_eq_true_eq, List.all_eq_true] at h
  exact h.1

set_option maxRecDepth 100000 in
set_option maxHeartbeats 3200000 in
theorem ment_calls {w : World} {v : Value} {l : List SOp} (h : RdOps w v l) : Calls Tryz.prog 9 #[v] w fun e w' => e = .returned (.bool (mentB l)) ∧ Near w w' := by
  have HL := Lib.hid h
  obtain ⟨ao, cap, rfl, -⟩ := h
  by_cases h12 : l.length ≤ 12
  · have h12' : ¬ (12 : Int) < l.length := by omega
    go_enter Tryz.func9, Tryz.ntmps9
    go_wp2_with fail
    go_loopw [3, 4] (fun s i wr => ∃ k : Nat, k ≤ l.length ∧ i = .int .i64 k ∧ s = .int .u32 ((l.take k).foldl (fun f x => mentAll x f) 0 : Nat) ∧ ((l.take k).foldl (fun f x => mentAll x f) 0) < 4294967296 ∧ (∀ x ∈ l.take k, x.ls.length ≤ 40) ∧ Near w wr) (fun _ i _ => l.length - (intOf i).toNat)
    case atStart => exact ⟨0, Nat.zero_le _, rfl, rfl, (by show 0 < 4294967296; omega), by simp, Near.refl _⟩
    case round =>
      obtain ⟨k, hk, rfl, rfl, hlt32, h40, hn⟩ := hrel
      have H40 := Lib.hid h40
      have HN := Lib.hid hn
      clear h40 hn
      by_cases hlt : k < l.length
      · have hlt' : (k : Int) < l.length := by omega
        obtain ⟨ao', cap', e, hc⟩ := HL.out
        cases e
        obtain ⟨okx, b, off, rfl, hcells⟩ := hc k _ (List.getElem?_eq_getElem hlt)
        have hmem := List.getElem_mem hlt
        have htk : l.take (k + 1) = l.take k ++ [l[k]] := List.take_succ_eq_append_getElem hlt
        have hfold : (l.take (k + 1)).foldl (fun f x => mentAll x f) 0 = mentAll l[k] ((l.take k).foldl (fun f x => mentAll x f) 0) := by rw [htk, List.foldl_append]; rfl
        generalize (l.take k).foldl (fun f x => mentAll x f) 0 = F at hfold hlt32 ⊢
        generalize l[k] = x at hmem htk hfold okx hcells
        obtain ⟨xop, xrel, xa, xb, xc, xi, xj, xon, xf, xg, xlv, xls, xbound⟩ := x
        have c0 : wr.cell? ⟨b, off + k * 12, none⟩ = some (.int .u8 xop) := HN.out.cell (hcells 0 _ rfl)
        have c1 := HN.out.cell (hcells 1 _ rfl)
        have c2 := HN.out.cell (hcells 2 _ rfl)
        have c3 := HN.out.cell (hcells 3 _ rfl)
        have c4 := HN.out.cell (hcells 4 _ rfl)
        have c5 := HN.out.cell (hcells 5 _ rfl)
        have c6 := HN.out.cell (hcells 6 _ rfl)
        have c7 := HN.out.cell (hcells 7 _ rfl)
        have c8 := HN.out.cell (hcells 8 _ rfl)
        have c9 := HN.out.cell (hcells 9 _ rfl)
        have c10 := HN.out.cell (hcells 10 _ rfl)
        have c11 := HN.out.cell (hcells 11 _ rfl)
        have hxf : xf < 4294967296 := okx.f
        have hxg : xg < 4294967296 := okx.g
        have hls := (show RdInts w xlv xls from okx.list)
        have HLs0 := hls
        obtain ⟨lo, lc, rfl, -⟩ := HLs0
        have HLs := Lib.hid hls
        clear hls
        have HMem := Lib.hid hmem
        have HTk := Lib.hid htk
        have HFold := Lib.hid hfold
        clear hmem htk hfold okx hcells hc
        go_upto_region 8 with fail
        have hB : (wr.alloc (.cells #[.int .u8 xop, .int .u8 xrel, .int .u8 xa, .int .u8 xb, .int .u8 xc, .int .i64 xi, .int .i64 xj, .bool xon, .int .u32 xf, .int .u32 xg, (.slice lo xls.length lc), .int .i64 xbound] 58)).heap[wr.heap.size]? = some (.cells #[.int .u8 xop, .int .u8 xrel, .int .u8 xa, .int .u8 xb, .int .u8 xc, .int .i64 xi, .int .i64 xj, .bool xon, .int .u32 xf, .int .u32 xg, (.slice lo xls.length lc), .int .i64 xbound] 58 (0, 0)) := heap_new_at rfl
        have hnW := HN.out.alloc (.cells #[.int .u8 xop, .int .u8 xrel, .int .u8 xa, .int .u8 xb, .int .u8 xc, .int .i64 xi, .int .i64 xj, .bool xon, .int .u32 xf, .int .u32 xg, (.slice lo xls.length lc), .int .i64 xbound] 58)
        generalize hW : wr.alloc (.cells #[.int .u8 xop, .int .u8 xrel, .int .u8 xa, .int .u8 xb, .int .u8 xc, .int .i64 xi, .int .i64 xj, .bool xon, .int .u32 xf, .int .u32 xg, (.slice lo xls.length lc), .int .i64 xbound] 58) = W at hB hnW ⊢
        clear hW c0 c1 c2 c3 c4 c5 c6 c7 c8 c9 c10 c11
        have x0 : W.cell? ⟨wr.heap.size, 0, none⟩ = some (.int .u8 xop) := cell1 (o := 0) hB rfl
        have x5 : W.cell? ⟨wr.heap.size, 5, none⟩ = some (.int .i64 xi) := cell1 (o := 5) hB rfl
        have x8 : W.cell? ⟨wr.heap.size, 8, none⟩ = some (.int .u32 xf) := cell1 (o := 8) hB rfl
        have x9 : W.cell? ⟨wr.heap.size, 9, none⟩ = some (.int .u32 xg) := cell1 (o := 9) hB rfl
        have x10 : W.cell? ⟨wr.heap.size, 10, none⟩ = some (.slice lo xls.length lc) := cell1 (o := 10) hB rfl
        have HNW := Lib.hid hnW
        clear hB hnW
        obtain ⟨X, hX⟩ : ∃ X : SOp, X = ⟨xop, xrel, xa, xb, xc, xi, xj, xon, xf, xg, (.slice lo xls.length lc), xls, xbound⟩ := ⟨_, rfl⟩
        rw [← hX] at HFold HTk HMem
        have HX := Lib.hid hX
        clear hX
        have HF32 := Lib.hid hlt32
        have hmx := HX.out
        rcases (show (xop = 2 ∧ 0 ≤ xi ∧ xi < 24) ∨ (xop = 2 ∧ xi < 0) ∨ (xop = 2 ∧ 24 ≤ xi) ∨ (xop = 3) ∨ (xop = 12) ∨ (xop = 13) ∨ ((xop = 0 ∨ xop = 1 ∨ 4 ≤ xop ∧ xop < 12 ∨ 13 < xop)) by omega) with ⟨rfl, h0, h1⟩ | ⟨rfl, h0⟩ | ⟨rfl, h0⟩ | rfl | rfl | rfl | hot
        · obtain ⟨m, rfl⟩ : ∃ m : Nat, xi = m := ⟨xi.toNat, by omega⟩
          have hm64 : (m : Int) < 64 := by omega
          have hor := u32_or_bit F m (by omega) (by omega)
          have HV := Lib.hid (show mentAll X F = F ||| 2 ^ m by rw [hmx]; simp [mentAll, ment2, ment3, ment12]; omega)
          have HVlt := Lib.hid (show F ||| 2 ^ m < 4294967296 from Nat.or_lt_two_pow (n := 32) hlt32 (Nat.pow_lt_pow_right (by omega) (by omega)))
          clear hmx hlt32
          by_cases h40 : xls.length ≤ 40
          · have h40' : ¬ (40 : Int) < xls.length := by omega
            have hx40 : ∀ x ∈ l.take (k + 1), x.ls.length ≤ 40 := fun x hx => by
              rw [HTk.out] at hx
              rcases List.mem_append.1 hx with hx | hx
              · exact H40.out x hx
              · rw [List.mem_singleton.1 hx, HX.out]
                exact h40
            have HX40 := Lib.hid hx40
            clear hx40
            go_wp2_with fail
            go_loopw [3, 6] (fun s j wi => s = .int .u32 (F ||| 2 ^ m : Nat) ∧ j = .int .i64 0 ∧ wi = W) (fun _ _ _ => 0)
            case atStart => exact ⟨rfl, rfl, rfl⟩
            case round =>
              obtain ⟨rfl, rfl, rfl⟩ := hrel
              by_cases hz : 0 < xls.length
              · have hz' : (0 : Int) < xls.length := by omega
                go_wp2_with fail
                exact ⟨⟨k + 1, by omega, by go_num, by rw [HFold.out, HV.out], by rw [HFold.out, HV.out]; exact HVlt.out, HX40.out, HNW.out⟩, by simp [intOf]; omega⟩
              · have hz' : ¬ (0 : Int) < xls.length := by omega
                go_wp2_with fail
                exact ⟨⟨k + 1, by omega, by go_num, by rw [HFold.out, HV.out], by rw [HFold.out, HV.out]; exact HVlt.out, HX40.out, HNW.out⟩, by simp [intOf]; omega⟩
          · have h40' : (40 : Int) < xls.length := by omega
            have hmb : mentB l = false := mentB_wide HMem.out (by rw [HX.out]; exact h40)
            have HMb := Lib.hid hmb
            clear hmb
            go_wp2_with fail
            exact bodyPost_ret (v := .bool false) (by simp [results, Tryz.results9, go_sem]) rfl ⟨by rw [HMb.out], HNW.out⟩
        · have hn0 : ¬ 0 ≤ xi := by omega
          have HV := Lib.hid (show mentAll X F = F by rw [hmx]; simp [mentAll, ment2, ment3, ment12]; omega)
          have HVlt := Lib.hid hlt32
          clear hmx hlt32
          by_cases h40 : xls.length ≤ 40
          · have h40' : ¬ (40 : Int) < xls.length := by omega
            have hx40 : ∀ x ∈ l.take (k + 1), x.ls.length ≤ 40 := fun x hx => by
              rw [HTk.out] at hx
              rcases List.mem_append.1 hx with hx | hx
              · exact H40.out x hx
              · rw [List.mem_singleton.1 hx, HX.out]
                exact h40
            have HX40 := Lib.hid hx40
            clear hx40
            go_wp2_with fail
            go_loopw [3, 6] (fun s j wi => s = .int .u32 (F : Nat) ∧ j = .int .i64 0 ∧ wi = W) (fun _ _ _ => 0)
            case atStart => exact ⟨rfl, rfl, rfl⟩
            case round =>
              obtain ⟨rfl, rfl, rfl⟩ := hrel
              by_cases hz : 0 < xls.length
              · have hz' : (0 : Int) < xls.length := by omega
                go_wp2_with fail
                exact ⟨⟨k + 1, by omega, by go_num, by rw [HFold.out, HV.out], by rw [HFold.out, HV.out]; exact HVlt.out, HX40.out, HNW.out⟩, by simp [intOf]; omega⟩
              · have hz' : ¬ (0 : Int) < xls.length := by omega
                go_wp2_with fail
                exact ⟨⟨k + 1, by omega, by go_num, by rw [HFold.out, HV.out], by rw [HFold.out, HV.out]; exact HVlt.out, HX40.out, HNW.out⟩, by simp [intOf]; omega⟩
          · have h40' : (40 : Int) < xls.length := by omega
            have hmb : mentB l = false := mentB_wide HMem.out (by rw [HX.out]; exact h40)
            have HMb := Lib.hid hmb
            clear hmb
            go_wp2_with fail
            exact bodyPost_ret (v := .bool false) (by simp [results, Tryz.results9, go_sem]) rfl ⟨by rw [HMb.out], HNW.out⟩
        · have hn0 : 0 ≤ xi := by omega
          have hn1 : ¬ xi < 24 := by omega
          have HV := Lib.hid (show mentAll X F = F by rw [hmx]; simp [mentAll, ment2, ment3, ment12]; omega)
          have HVlt := Lib.hid hlt32
          clear hmx hlt32
          by_cases h40 : xls.length ≤ 40
          · have h40' : ¬ (40 : Int) < xls.length := by omega
            have hx40 : ∀ x ∈ l.take (k + 1), x.ls.length ≤ 40 := fun x hx => by
              rw [HTk.out] at hx
              rcases List.mem_append.1 hx with hx | hx
              · exact H40.out x hx
              · rw [List.mem_singleton.1 hx, HX.out]
                exact h40
            have HX40 := Lib.hid hx40
            clear hx40
            go_wp2_with fail
            go_loopw [3, 6] (fun s j wi => s = .int .u32 (F : Nat) ∧ j = .int .i64 0 ∧ wi = W) (fun _ _ _ => 0)
            case atStart => exact ⟨rfl, rfl, rfl⟩
            case round =>
              obtain ⟨rfl, rfl, rfl⟩ := hrel
              by_cases hz : 0 < xls.length
              · have hz' : (0 : Int) < xls.length := by omega
                go_wp2_with fail
                exact ⟨⟨k + 1, by omega, by go_num, by rw [HFold.out, HV.out], by rw [HFold.out, HV.out]; exact HVlt.out, HX40.out, HNW.out⟩, by simp [intOf]; omega⟩
              · have hz' : ¬ (0 : Int) < xls.length := by omega
                go_wp2_with fail
                exact ⟨⟨k + 1, by omega, by go_num, by rw [HFold.out, HV.out], by rw [HFold.out, HV.out]; exact HVlt.out, HX40.out, HNW.out⟩, by simp [intOf]; omega⟩
          · have h40' : (40 : Int) < xls.length := by omega
            have hmb : mentB l = false := mentB_wide HMem.out (by rw [HX.out]; exact h40)
            have HMb := Lib.hid hmb
            clear hmb
            go_wp2_with fail
            exact bodyPost_ret (v := .bool false) (by simp [results, Tryz.results9, go_sem]) rfl ⟨by rw [HMb.out], HNW.out⟩
        · have o1 := Go.Proofs.Gen.u32_or F xf hlt32 hxf
          have hlt2 : F ||| xf < 4294967296 := Nat.or_lt_two_pow (n := 32) hlt32 hxf
          have o2 := Go.Proofs.Gen.u32_or (F ||| xf) xg hlt2 hxg
          have HV := Lib.hid (show mentAll X F = (F ||| xf) ||| xg by rw [hmx]; simp [mentAll, ment2, ment3, ment12])
          have HVlt := Lib.hid (show (F ||| xf) ||| xg < 4294967296 from Nat.or_lt_two_pow (n := 32) hlt2 hxg)
          clear hmx hlt32
          by_cases h40 : xls.length ≤ 40
          · have h40' : ¬ (40 : Int) < xls.length := by omega
            have hx40 : ∀ x ∈ l.take (k + 1), x.ls.length ≤ 40 := fun x hx => by
              rw [HTk.out] at hx
              rcases List.mem_append.1 hx with hx | hx
              · exact H40.out x hx
              · rw [List.mem_singleton.1 hx, HX.out]
                exact h40
            have HX40 := Lib.hid hx40
            clear hx40
            go_wp2_with fail
            go_loopw [3, 6] (fun s j wi => s = .int .u32 ((F ||| xf) ||| xg : Nat) ∧ j = .int .i64 0 ∧ wi = W) (fun _ _ _ => 0)
            case atStart => exact ⟨rfl, rfl, rfl⟩
            case round =>
              obtain ⟨rfl, rfl, rfl⟩ := hrel
              by_cases hz : 0 < xls.length
              · have hz' : (0 : Int) < xls.length := by omega
                go_wp2_with fail
                exact ⟨⟨k + 1, by omega, by go_num, by rw [HFold.out, HV.out], by rw [HFold.out, HV.out]; exact HVlt.out, HX40.out, HNW.out⟩, by simp [intOf]; omega⟩
              · have hz' : ¬ (0 : Int) < xls.length := by omega
                go_wp2_with fail
                exact ⟨⟨k + 1, by omega, by go_num, by rw [HFold.out, HV.out], by rw [HFold.out, HV.out]; exact HVlt.out, HX40.out, HNW.out⟩, by simp [intOf]; omega⟩
          · have h40' : (40 : Int) < xls.length := by omega
            have hmb : mentB l = false := mentB_wide HMem.out (by rw [HX.out]; exact h40)
            have HMb := Lib.hid hmb
            clear hmb
            go_wp2_with fail
            exact bodyPost_ret (v := .bool false) (by simp [results, Tryz.results9, go_sem]) rfl ⟨by rw [HMb.out], HNW.out⟩
        · have o1 := Go.Proofs.Gen.u32_or F xf hlt32 hxf
          have HV := Lib.hid (show mentAll X F = F ||| xf by rw [hmx]; simp [mentAll, ment2, ment3, ment12])
          have HVlt := Lib.hid (show F ||| xf < 4294967296 from Nat.or_lt_two_pow (n := 32) hlt32 hxf)
          clear hmx hlt32
          by_cases h40 : xls.length ≤ 40
          · have h40' : ¬ (40 : Int) < xls.length := by omega
            have hx40 : ∀ x ∈ l.take (k + 1), x.ls.length ≤ 40 := fun x hx => by
              rw [HTk.out] at hx
              rcases List.mem_append.1 hx with hx | hx
              · exact H40.out x hx
              · rw [List.mem_singleton.1 hx, HX.out]
                exact h40
            have HX40 := Lib.hid hx40
            clear hx40
            go_wp2_with fail
            go_loopw [3, 6] (fun s j wi => s = .int .u32 (F ||| xf : Nat) ∧ j = .int .i64 0 ∧ wi = W) (fun _ _ _ => 0)
            case atStart => exact ⟨rfl, rfl, rfl⟩
            case round =>
              obtain ⟨rfl, rfl, rfl⟩ := hrel
              by_cases hz : 0 < xls.length
              · have hz' : (0 : Int) < xls.length := by omega
                go_wp2_with fail
                exact ⟨⟨k + 1, by omega, by go_num, by rw [HFold.out, HV.out], by rw [HFold.out, HV.out]; exact HVlt.out, HX40.out, HNW.out⟩, by simp [intOf]; omega⟩
              · have hz' : ¬ (0 : Int) < xls.length := by omega
                go_wp2_with fail
                exact ⟨⟨k + 1, by omega, by go_num, by rw [HFold.out, HV.out], by rw [HFold.out, HV.out]; exact HVlt.out, HX40.out, HNW.out⟩, by simp [intOf]; omega⟩
          · have h40' : (40 : Int) < xls.length := by omega
            have hmb : mentB l = false := mentB_wide HMem.out (by rw [HX.out]; exact h40)
            have HMb := Lib.hid hmb
            clear hmb
            go_wp2_with fail
            exact bodyPost_ret (v := .bool false) (by simp [results, Tryz.results9, go_sem]) rfl ⟨by rw [HMb.out], HNW.out⟩
        · have HV := Lib.hid (show mentAll X F = ment13 X F (min xls.length 24) by rw [hmx]; simp [mentAll, ment2, ment3, ment12])
          clear hmx hlt32
          by_cases h40 : xls.length ≤ 40
          · have h40' : ¬ (40 : Int) < xls.length := by omega
            have hx40 : ∀ x ∈ l.take (k + 1), x.ls.length ≤ 40 := fun x hx => by
              rw [HTk.out] at hx
              rcases List.mem_append.1 hx with hx | hx
              · exact H40.out x hx
              · rw [List.mem_singleton.1 hx, HX.out]
                exact h40
            have HX40 := Lib.hid hx40
            clear hx40
            go_wp2_with fail
            go_loopw [3, 6] (fun s j wi => ∃ q : Nat, q ≤ min xls.length 24 ∧ j = .int .i64 q ∧ s = .int .u32 (ment13 X F q : Nat) ∧ wi = W) (fun _ j _ => 24 - (intOf j).toNat)
            case atStart => exact ⟨0, Nat.zero_le _, rfl, rfl, rfl⟩
            case round =>
              obtain ⟨q, hq, rfl, rfl, rfl⟩ := hrel
              have hqlt := ment13_lt (x := X) HF32.out (k := q) (by omega)
              by_cases hql : q < xls.length
              · have hql' : (q : Int) < xls.length := by omega
                by_cases hq24 : q < 24
                · have hq24' : (q : Int) < 24 := by omega
                  have hq64 : (q : Int) < 64 := by omega
                  obtain ⟨lo', lc', e, hcl⟩ := HLs.out
                  cases e
                  obtain ⟨g, off', rfl, y0⟩ := hcl q _ (List.getElem?_eq_getElem hql)
                  have y0 := HNW.out.cell y0
                  have hs : ment13 X F (q + 1) = if xls[q] = 0 then ment13 X F q else ment13 X F q ||| 2 ^ q := by
                    have hd : X.ls.getD q 0 = xls[q] := by rw [HX.out, List.getD_eq_getElem?_getD, List.getElem?_eq_getElem hql]; rfl
                    rw [ment13, hd]
                  generalize xls[q] = d at y0 hs
                  have hor := Lib.hid (u32_or_bit (ment13 X F q) q hqlt (by omega))
                  have HS := Lib.hid hs
                  obtain ⟨z, hz⟩ : ∃ z, z = ment13 X F q := ⟨_, rfl⟩
                  rw [← hz] at HS hor ⊢
                  clear hs hz hqlt
                  by_cases hd0 : d = 0
                  · subst hd0
                    go_wp2_with fail
                    exact ⟨⟨q + 1, by omega, by go_num, by rw [HS.out]; rfl, trivial⟩, by simp [intOf]; omega⟩
                  · have hd0' : (d != 0) = true := by simpa using hd0
                    have HD0 := Lib.hid hd0
                    clear hd0
                    go_wp2_with fail
                    exact ⟨⟨q + 1, by omega, by go_num, by rw [HS.out, if_neg HD0.out, hor.out], trivial⟩, by simp [intOf]; omega⟩
                · have hq24' : ¬ (q : Int) < 24 := by omega
                  have hqe : q = min xls.length 24 := by omega
                  have hv : mentAll X F = ment13 X F q := by rw [hqe]; exact HV.out
                  have HV2 := Lib.hid hv
                  clear hqe hv
                  go_wp2_with fail
                  exact ⟨⟨k + 1, by omega, by go_num, by rw [HFold.out, HV2.out], by rw [HFold.out, HV2.out]; exact hqlt, HX40.out, HNW.out⟩, by simp [intOf]; omega⟩
              · have hql' : ¬ (q : Int) < xls.length := by omega
                have hqe : q = min xls.length 24 := by omega
                have hv : mentAll X F = ment13 X F q := by rw [hqe]; exact HV.out
                have HV2 := Lib.hid hv
                clear hqe hv
                go_wp2_with fail
                exact ⟨⟨k + 1, by omega, by go_num, by rw [HFold.out, HV2.out], by rw [HFold.out, HV2.out]; exact hqlt, HX40.out, HNW.out⟩, by simp [intOf]; omega⟩
          · have h40' : (40 : Int) < xls.length := by omega
            have hmb : mentB l = false := mentB_wide HMem.out (by rw [HX.out]; exact h40)
            have HMb := Lib.hid hmb
            clear hmb
            go_wp2_with fail
            exact bodyPost_ret (v := .bool false) (by simp [results, Tryz.results9, go_sem]) rfl ⟨by rw [HMb.out], HNW.out⟩
        · have e2 : ((xop : Int) == 2) = false := beq_eq_false_iff_ne.2 (by omega)
          have e3 : ((xop : Int) == 3) = false := beq_eq_false_iff_ne.2 (by omega)
          have e12 : ((xop : Int) == 12) = false := beq_eq_false_iff_ne.2 (by omega)
          have e13 : ((xop : Int) == 13) = false := beq_eq_false_iff_ne.2 (by omega)
          have n2 : xop ≠ 2 := by omega
          have n3 : xop ≠ 3 := by omega
          have n12 : xop ≠ 12 := by omega
          have n13 : xop ≠ 13 := by omega
          have HV := Lib.hid (show mentAll X F = F by rw [hmx]; simp [mentAll, ment2, ment3, ment12, n2, n3, n12, n13])
          have HVlt := Lib.hid hlt32
          clear n2 n3 n12 n13 hot
          clear hmx hlt32
          by_cases h40 : xls.length ≤ 40
          · have h40' : ¬ (40 : Int) < xls.length := by omega
            have hx40 : ∀ x ∈ l.take (k + 1), x.ls.length ≤ 40 := fun x hx => by
              rw [HTk.out] at hx
              rcases List.mem_append.1 hx with hx | hx
              · exact H40.out x hx
              · rw [List.mem_singleton.1 hx, HX.out]
                exact h40
            have HX40 := Lib.hid hx40
            clear hx40
            go_wp2_with fail
            go_loopw [3, 6] (fun s j wi => s = .int .u32 (F : Nat) ∧ j = .int .i64 0 ∧ wi = W) (fun _ _ _ => 0)
            case atStart => exact ⟨rfl, rfl, rfl⟩
            case round =>
              obtain ⟨rfl, rfl, rfl⟩ := hrel
              by_cases hz : 0 < xls.length
              · have hz' : (0 : Int) < xls.length := by omega
                go_wp2_with fail
                exact ⟨⟨k + 1, by omega, by go_num, by rw [HFold.out, HV.out], by rw [HFold.out, HV.out]; exact HVlt.out, HX40.out, HNW.out⟩, by simp [intOf]; omega⟩
              · have hz' : ¬ (0 : Int) < xls.length := by omega
                go_wp2_with fail
                exact ⟨⟨k + 1, by omega, by go_num, by rw [HFold.out, HV.out], by rw [HFold.out, HV.out]; exact HVlt.out, HX40.out, HNW.out⟩, by simp [intOf]; omega⟩
          · have h40' : (40 : Int) < xls.length := by omega
            have hmb : mentB l = false := mentB_wide HMem.out (by rw [HX.out]; exact h40)
            have HMb := Lib.hid hmb
            clear hmb
            go_wp2_with fail
            exact bodyPost_ret (v := .bool false) (by simp [results, Tryz.results9, go_sem]) rfl ⟨by rw [HMb.out], HNW.out⟩
      · have hkl : k = l.length := by omega
        subst hkl
        have hend : mentB l = decide (((feats (l.foldl (fun f x => mentAll x f) 0)).length : Int) ≤ 7) := by
          have h1 := H40.out
          rw [List.take_length] at h1
          have h2 : l.all (fun x => decide (x.ls.length ≤ 40)) = true := List.all_eq_true.2 fun x hx => by simpa using h1 x hx
          have h3 : decide (((feats (l.foldl (fun f x => mentAll x f) 0)).length : Int) ≤ 7) = decide ((feats (l.foldl (fun f x => mentAll x f) 0)).length ≤ 7) := decide_eq_decide.2 (by omega)
          rw [h3, mentB, h2, decide_eq_true h12]
          rfl
        have HEnd := Lib.hid hend
        rw [List.take_length] at hlt32 ⊢
        clear hend
        generalize l.foldl (fun f x => mentAll x f) 0 = F at hlt32 HEnd ⊢
        go_wp2_with (go_at_call 10; refine (features_calls F hlt32 _).mono ?_; rintro e w5 ⟨v5, rfl, r5, n5⟩; have HR5 := Lib.hid r5; obtain ⟨bo, bc, rfl⟩ := owns_form r5; clear r5)
        exact bodyPost_ret (v := .bool (decide (((feats F).length : Int) ≤ 7))) (by simp [results, Tryz.results9, go_sem]) rfl ⟨by rw [HEnd.out], HN.out.trans n5⟩
  · have h12' : (12 : Int) < l.length := by omega
    rw [mentB_long h12]
    go_enter Tryz.func9, Tryz.ntmps9
    go_wp2_with fail
    exact bodyPost_ret (v := .bool false) (by simp [results, Tryz.results9, go_sem]) rfl ⟨rfl, Near.refl _⟩

end Go.Proofs.YtefclohjeompkaaGreat

/- LawCounts: what is needed of it. -/
namespace Go.Proofs.YtefclohjeompkaaGreat
open Go Go.RowKit Go.Proofs.Gen Go.Proofs.Bdd Go.Proofs.Bdd.T
/-- The last set of a script. -/
def lastF (l : List SOp) : F := (makeF l).getD l.length fun _ => false

/-- The last one of a row of sets. -/
theorem Sets.last {e : TypeId} {Is : World → Value → F → Prop} {b : Nat} {w : World} {x : Value} {l : List SOp} (h : Sets e Is b w x (makeF l)) :
    ∃ g cap u v, x = .slice (some ⟨g, 0, none⟩) (l.length + 1) cap ∧ w.cell? ⟨g, l.length * 2, none⟩ = some u ∧ w.cell? ⟨g, l.length * 2 + 1, none⟩ = some v ∧ Is w (.agg #[u, v]) (lastF l) := by
  obtain ⟨g, cap, u, v, hx, -, h1, h2, h3⟩ := h.nth (j := l.length) (by rw [makeF_len]; omega)
  rw [makeF_len] at hx
  exact ⟨g, cap, u, v, hx, h1, h2, h3⟩

end Go.Proofs.YtefclohjeompkaaGreat
