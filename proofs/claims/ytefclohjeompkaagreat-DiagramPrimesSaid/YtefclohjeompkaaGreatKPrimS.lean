/- Parts of a proof: PrimP, PrimQ, PrimR, PrimS. -/
import Derived.Maps.OwnSet
import Derived.WalkKit
import Derived.Deep.QuietTactic
import Derived.Test.YtefclohjeompkaaGreatProg
import Derived.KernelRfl
import Derived.DeepKeys4
import Derived.Deep.RegionLaw
import Derived.StillTailTactics
import Derived.Maps.AppendAt
import Derived.WalkSpells
import Derived.WalkLawsBesides
import Derived.BigQuiet
import Derived.Lib.Hide
import Derived.Deep.DeepCutAuto
import Derived.Laws.EntriesVeiled
import Derived.Deep.RegionHeld3
import Derived.Laws.OwnMore
import Derived.Deep.Slices
import Derived.Lib.BitFns
import Derived.IntWalk
import Derived.RangeFuncNested
import Derived.RangeFuncBound
import Derived.RangeFuncCalls
import Derived.RangeFuncLeaves
import Derived.Shelf.Abstract
import Derived.Shelf.RegionOpen
import Derived.OwnWalkIn
import Derived.TacticsInMore
import Derived.LoopNIn
import Derived.LoopIn
import Derived.Laws.CopyOwn
import Derived.Laws.BitsAllLaws
import Derived.RangeFuncWrites
import Derived.Deep.Onto
import Derived.Shelf.SlSortCmp.WholeK
import Derived.Ground.SlsfProg
import Derived.Test.YtefclohjeompkaaGreatKTreeC
import Derived.Test.YtefclohjeompkaaGreatKRep
import Derived.Test.YtefclohjeompkaaGreatKJoinD
import Derived.Test.YtefclohjeompkaaGreatKCmpA
import Derived.Test.YtefclohjeompkaaGreatKRefH
import Derived.Test.YtefclohjeompkaaGreatKOfB
import Derived.Test.YtefclohjeompkaaGreatKAlike
import Derived.Test.YtefclohjeompkaaGreatKBetA
import Derived.Test.YtefclohjeompkaaGreatKBetB
import Derived.Test.YtefclohjeompkaaGreatKLinF
import Derived.Test.YtefclohjeompkaaGreatKLinH
import Derived.Test.YtefclohjeompkaaGreatKLinJ
import Derived.Test.YtefclohjeompkaaGreatKSteps3
import Derived.Test.YtefclohjeompkaaGreatKFAll
import Derived.Test.YtefclohjeompkaaGreatKOpenA
import Derived.Test.YtefclohjeompkaaGreatKColl
import Derived.Test.YtefclohjeompkaaGreatKRefW
import Derived.Test.YtefclohjeompkaaGreatKPrimB
import Derived.Test.YtefclohjeompkaaGreatKSaidB
import Derived.Test.YtefclohjeompkaaGreatKTwoF
import Derived.Test.YtefclohjeompkaaGreatKPrimE
import Derived.Test.YtefclohjeompkaaGreatKPrimI
import Derived.Test.YtefclohjeompkaaGreatKClrB
import Derived.Test.YtefclohjeompkaaGreatKCntB
import Derived.Test.YtefclohjeompkaaGreatKBothA
import Derived.Test.YtefclohjeompkaaGreatKLawCounts
/- PrimP: what is needed of it. -/
namespace Go.Proofs.YtefclohjeompkaaGreat
open Go Go.RowKit Go.Shelf Go.Sort Go.Proofs.Gen Go.Proofs.Bdd Go.Proofs.Bdd.T
set_option maxRecDepth 100000 in
set_option maxHeartbeats 3200000 in
theorem inside_g {w : World} {v : Value} {f : F} (h : IsG w v f) {on off : Nat} (h1 : on < 4294967296) (h2 : off < 4294967296) :
    Calls Tryz.prog 38 #[v, .agg #[.int .u32 on, .int .u32 off]] w fun e w' => e = .returned (.bool (insB f on off)) ∧ Near w w' := by
  have HF := Lib.hid h
  obtain ⟨a1, a2, a3, a4, a5, a6, rfl⟩ := h.form
  have hN : Near w ((w.alloc (.cells #[.slice a1 a2 a3, .slice a4 a5 a6] 39)).alloc (.cells #[.int .u32 on, .int .u32 off] 42)) := ((Near.refl w).alloc _).alloc _
  have EA : ((w.alloc (.cells #[.slice a1 a2 a3, .slice a4 a5 a6] 39)).alloc (.cells #[.int .u32 on, .int .u32 off] 42)).heap[w.heap.size]? = some (.cells #[.slice a1 a2 a3, .slice a4 a5 a6] 39 (0, 0)) := by
    rw [heap_old_at (by simp), heap_new_at rfl]
  have EB : ((w.alloc (.cells #[.slice a1 a2 a3, .slice a4 a5 a6] 39)).alloc (.cells #[.int .u32 on, .int .u32 off] 42)).heap[w.heap.size + 1]? = some (.cells #[.int .u32 on, .int .u32 off] 42 (0, 0)) := heap_new_at (by simp)
  have HEA := Lib.hid EA
  have HEB := Lib.hid EB
  have HN := Lib.hid hN
  clear h EA EB hN
  go_enter Tryz.func38, Tryz.ntmps38
  go_upto_region 1 with fail
  generalize ((w.alloc (.cells #[.slice a1 a2 a3, .slice a4 a5 a6] 39)).alloc (.cells #[.int .u32 on, .int .u32 off] 42)) = W at *
  have sOf : ∀ w', Near W w' → w'.cell? ⟨w.heap.size, 0, none⟩ = some (.slice a1 a2 a3) ∧ w'.cell? ⟨w.heap.size, 1, none⟩ = some (.slice a4 a5 a6) ∧ w'.cell? ⟨w.heap.size + 1, 0, none⟩ = some (.int .u32 on) ∧ w'.cell? ⟨w.heap.size + 1, 1, none⟩ = some (.int .u32 off) :=
    fun w' h => ⟨cell1 (keepN h HEA.out) rfl, cell1 (keepN h HEA.out) rfl, cell1 (keepN h HEB.out) rfl, cell1 (keepN h HEB.out) rfl⟩
  have HF' := Lib.hid (HF.out.near HN.out)
  go_region_held3 (fun w' => w'.cell? ⟨w.heap.size, 0, none⟩ = some (.slice a1 a2 a3) ∧ w'.cell? ⟨w.heap.size, 1, none⟩ = some (.slice a4 a5 a6) ∧ w'.cell? ⟨w.heap.size + 1, 0, none⟩ = some (.int .u32 on) ∧ w'.cell? ⟨w.heap.size + 1, 1, none⟩ = some (.int .u32 off))
    ((refine sOf _ ?_; first | exact z4 | exact z3 | exact z2 | exact z1 | exact (Near.refl _).drew))
    (first
      | (go_at_call 61; refine (cube_g h1 h2).mono ?_; rintro e v1 ⟨x1, rfl, s1, m1⟩; have S1 := Lib.hid s1; obtain ⟨x11, x12, x13, x14, x15, x16, rfl⟩ := s1.form; clear s1; have z1 : Near W v1 := (Near.refl _).drew.trans m1)
      | (go_at_call 62; refine (not_g (HF'.out.near z1)).mono ?_; rintro e v2 ⟨x2, rfl, s2, m2⟩; have S2 := Lib.hid s2; obtain ⟨x21, x22, x23, x24, x25, x26, rfl⟩ := s2.form; clear s2; have z2 : Near W v2 := z1.trans m2)
      | (go_at_call 63; refine (and_g (S1.out.near m2) S2.out).mono ?_; rintro e v3 ⟨x3, rfl, s3, m3⟩; have S3 := Lib.hid s3; obtain ⟨x31, x32, x33, x34, x35, x36, rfl⟩ := s3.form; clear s3; have z3 : Near W v3 := z2.trans m3)
      | (go_at_call 77; refine (rempty_g (b := insB f on off) S3.out rfl).mono ?_; rintro e v4 ⟨rfl, m4⟩; have z4 : Near W v4 := z3.trans m4))
  all_goals
    go_wp2_with fail
    go_ret
    exact ⟨rfl, HN.out.trans z4⟩

set_option maxRecDepth 100000 in
set_option maxHeartbeats 3200000 in
theorem before_calls (x y : Cub) (w : World) :
    Calls Tryz.prog 78 #[.agg #[.int .u32 x.on, .int .u32 x.off], .agg #[.int .u32 y.on, .int .u32 y.off]] w fun e w' => e = .returned (.bool (decide (cubLt x y))) ∧ Near w w' := by
  obtain ⟨x1, x2, hx1, hx2⟩ := x
  obtain ⟨y1, y2, hy1, hy2⟩ := y
  have hq : decide (cubLt ⟨x1, x2, hx1, hx2⟩ ⟨y1, y2, hy1, hy2⟩) = decide ((feats (x1 ||| x2)).length < (feats (y1 ||| y2)).length ∨ (feats (x1 ||| x2)).length = (feats (y1 ||| y2)).length ∧ (x1 < y1 ∨ x1 = y1 ∧ x2 < y2)) := rfl
  rw [hq]
  clear hq
  show Calls Tryz.prog 78 #[.agg #[.int .u32 x1, .int .u32 x2], .agg #[.int .u32 y1, .int .u32 y2]] w _
  have hN : Near w ((w.alloc (.cells #[.int .u32 x1, .int .u32 x2] 42)).alloc (.cells #[.int .u32 y1, .int .u32 y2] 42)) := ((Near.refl w).alloc _).alloc _
  have EA : ((w.alloc (.cells #[.int .u32 x1, .int .u32 x2] 42)).alloc (.cells #[.int .u32 y1, .int .u32 y2] 42)).heap[w.heap.size]? = some (.cells #[.int .u32 x1, .int .u32 x2] 42 (0, 0)) := by
    rw [heap_old_at (by simp), heap_new_at rfl]
  have EB : ((w.alloc (.cells #[.int .u32 x1, .int .u32 x2] 42)).alloc (.cells #[.int .u32 y1, .int .u32 y2] 42)).heap[w.heap.size + 1]? = some (.cells #[.int .u32 y1, .int .u32 y2] 42 (0, 0)) := heap_new_at (by simp)
  have e1 : bits .or .u32 (x1 : Int) (x2 : Int) = ((x1 ||| x2 : Nat) : Int) := Go.Proofs.Gen.u32_or _ _ (by omega) (by omega)
  have e2 : bits .or .u32 (y1 : Int) (y2 : Int) = ((y1 ||| y2 : Nat) : Int) := Go.Proofs.Gen.u32_or _ _ (by omega) (by omega)
  have b1 : x1 ||| x2 < 4294967296 := Nat.lt_of_lt_of_le (Nat.or_lt_two_pow (n := 24) hx1 hx2) (by decide)
  have b2 : y1 ||| y2 < 4294967296 := Nat.lt_of_lt_of_le (Nat.or_lt_two_pow (n := 24) hy1 hy2) (by decide)
  have f1 : ∀ w', Calls Tryz.prog 10 #[.int .u32 (x1 ||| x2 : Nat)] w' fun e w'' => ∃ ao cap, e = .returned (.slice ao (feats (x1 ||| x2)).length cap) ∧ Near w' w'' := fun w' =>
    (features_calls _ b1 w').mono fun _ _ ⟨v, he, r, n⟩ => let ⟨ao, cap, hv⟩ := owns_form r; ⟨ao, cap, hv ▸ he, n⟩
  have f2 : ∀ w', Calls Tryz.prog 10 #[.int .u32 (y1 ||| y2 : Nat)] w' fun e w'' => ∃ ao cap, e = .returned (.slice ao (feats (y1 ||| y2)).length cap) ∧ Near w' w'' := fun w' =>
    (features_calls _ b2 w').mono fun _ _ ⟨v, he, r, n⟩ => let ⟨ao, cap, hv⟩ := owns_form r; ⟨ao, cap, hv ▸ he, n⟩
  have l1 : (feats (x1 ||| x2)).length ≤ 24 := featsTo_len _ 24
  have l2 : (feats (y1 ||| y2)).length ≤ 24 := featsTo_len _ 24
  generalize (feats (x1 ||| x2)).length = n1 at f1 l1 ⊢
  generalize (feats (y1 ||| y2)).length = n2 at f2 l2 ⊢
  generalize x1 ||| x2 = s1 at e1 f1
  generalize y1 ||| y2 = s2 at e2 f2
  have HF1 := Lib.hid f1
  have HF2 := Lib.hid f2
  have HEA := Lib.hid EA
  have HEB := Lib.hid EB
  have HN := Lib.hid hN
  clear EA EB hN f1 f2 b1 b2
  obtain ⟨b, hb⟩ : ∃ b, b = decide (n1 < n2 ∨ n1 = n2 ∧ (x1 < y1 ∨ x1 = y1 ∧ x2 < y2)) := ⟨_, rfl⟩
  rw [← hb]
  have hcase : (((n1 : Int) != (n2 : Int)) = true ∧ Hid (decide ((n1 : Int) < n2) = b)) ∨ (((n1 : Int) != (n2 : Int)) = false ∧ ((x1 : Int) != (y1 : Int)) = true ∧ Hid (decide ((x1 : Int) < y1) = b)) ∨ (((n1 : Int) != (n2 : Int)) = false ∧ ((x1 : Int) != (y1 : Int)) = false ∧ Hid (decide ((x2 : Int) < y2) = b)) := by
    by_cases hn : n1 = n2
    · by_cases hx : x1 = y1
      · exact .inr (.inr ⟨by rw [hn]; simp, by rw [hx]; simp, Lib.hid (by rw [hb]; exact decide_eq_decide.2 (by omega))⟩)
      · exact .inr (.inl ⟨by rw [hn]; simp, by rw [bne_iff_ne]; omega, Lib.hid (by rw [hb]; exact decide_eq_decide.2 (by omega))⟩)
    · exact .inl ⟨by rw [bne_iff_ne]; omega, Lib.hid (by rw [hb]; exact decide_eq_decide.2 (by omega))⟩
  clear hb hx1 hx2 hy1 hy2
  rcases hcase with ⟨hK, HB⟩ | ⟨hK, hK2, HB⟩ | ⟨hK, hK2, HB⟩
  all_goals
    go_enter Tryz.func78, Tryz.ntmps78
    go_upto_region 1 with fail
    generalize ((w.alloc (.cells #[.int .u32 x1, .int .u32 x2] 42)).alloc (.cells #[.int .u32 y1, .int .u32 y2] 42)) = W at *
    have sOf : ∀ w', Near W w' → w'.cell? ⟨w.heap.size, 0, none⟩ = some (.int .u32 x1) ∧ w'.cell? ⟨w.heap.size, 1, none⟩ = some (.int .u32 x2) ∧ w'.cell? ⟨w.heap.size + 1, 0, none⟩ = some (.int .u32 y1) ∧ w'.cell? ⟨w.heap.size + 1, 1, none⟩ = some (.int .u32 y2) :=
      fun w' h => ⟨cell1 (keepN h HEA.out) rfl, cell1 (keepN h HEA.out) rfl, cell1 (keepN h HEB.out) rfl, cell1 (keepN h HEB.out) rfl⟩
    go_region_held3 (fun w' => w'.cell? ⟨w.heap.size, 0, none⟩ = some (.int .u32 x1) ∧ w'.cell? ⟨w.heap.size, 1, none⟩ = some (.int .u32 x2) ∧ w'.cell? ⟨w.heap.size + 1, 0, none⟩ = some (.int .u32 y1) ∧ w'.cell? ⟨w.heap.size + 1, 1, none⟩ = some (.int .u32 y2))
      ((refine sOf _ ?_; first | exact z2 | exact z1 | exact (Near.refl _).drew))
      (first
        | (go_at_call_of 10 (Value.int IntKind.u32 (s1 : Nat)); refine (HF1.out _).mono ?_; rintro e v1 ⟨o1, p1, rfl, m1⟩; have z1 : Near W v1 := (Near.refl _).drew.trans m1)
        | (go_at_call_of 10 (Value.int IntKind.u32 (s2 : Nat)); refine (HF2.out _).mono ?_; rintro e v2 ⟨o2, p2, rfl, m2⟩; have z2 : Near W v2 := z1.trans m2))
    obtain ⟨d0, d1, d2, d3⟩ := sOf _ z2
    go_wp2_with fail
    refine bodyPost_ret (v := .bool b) ?_ rfl ⟨rfl, HN.out.trans z2⟩
    rw [← HB.out]
    simp [results, Tryz.results78, go_sem]

end Go.Proofs.YtefclohjeompkaaGreat

/- PrimQ: what is needed of it. -/
namespace Go.Proofs.YtefclohjeompkaaGreat
open Go Go.RowKit Go.Shelf Go.Sort Go.Proofs.Gen Go.Proofs.Bdd Go.Proofs.Bdd.T
theorem rdC_row {w : World} {base cap : Nat} {ao : Option Addr} {l : List Cub} (h : w.ownsRow base 42 2 (.slice ao l.length cap) l.length (flatC l)) : RdC w ao l := by
  rcases h.2 with ⟨_, e⟩ | ⟨g, cap', cur, e, _⟩
  · intro i x hx
    have hi : i < l.length := (List.getElem?_eq_some_iff.1 hx).1
    have e' : l.length = 0 := e
    omega
  · cases e
    exact rdC_holds (holds_row h)

theorem flatC_append (a b : List Cub) : flatC (a ++ b) = flatC a ++ flatC b := by simp [flatC]

theorem flatC_len : ∀ l : List Cub, (flatC l).length = l.length * 2
  | [] => rfl
  | x :: l => by
    have e : flatC (x :: l) = encB x ++ flatC l := rfl
    have hl : (encB x).length = 2 := rfl
    rw [e, List.length_append, flatC_len l, hl, List.length_cons]
    omega

theorem flatC_one (l : List Cub) : ∀ u ∈ flatC l, u.oneCell' = true := by
  intro u hu
  unfold flatC at hu
  obtain ⟨x, _, hx⟩ := List.mem_flatMap.1 hu
  simp [encB] at hx
  rcases hx with rfl | rfl <;> rfl

theorem src_take {w : World} {base g cap k j : Nat} {S : List Cub} (h : w.ownsRow base 42 2 (.slice (some ⟨g, 0, none⟩) k cap) k (flatC S)) (hS : S.length = k) (hj : j ≤ k) (c : Nat) : SrcOf w 2 j (.slice (some ⟨g, 0, none⟩) j c) (flatC (S.take j)) := by
  refine ⟨by rw [flatC_len, List.length_take]; omega, .inr ⟨_, _, rfl, fun i u hu => ?_⟩⟩
  refine h.cells rfl i u ?_
  conv => lhs; rw [← List.take_append_drop j S, flatC_append]
  rw [List.getElem?_append_left (by have := (List.getElem?_eq_some_iff.1 hu).1; exact this)]
  exact hu

theorem src_drop {w : World} {base g cap k j o : Nat} {S : List Cub} (h : w.ownsRow base 42 2 (.slice (some ⟨g, 0, none⟩) k cap) k (flatC S)) (hS : S.length = k) (hj : j ≤ k) (ho : o = j * 2 ∨ j = k) (c : Nat) : SrcOf w 2 (k - j) (.slice (some ⟨g, o, none⟩) (k - j) c) (flatC (S.drop j)) := by
  refine ⟨by rw [flatC_len, List.length_drop]; omega, .inr ⟨_, _, rfl, fun i u hu => ?_⟩⟩
  have hi := (List.getElem?_eq_some_iff.1 hu).1
  rw [flatC_len, List.length_drop] at hi
  obtain rfl : o = j * 2 := by omega
  have := h.cells rfl (j * 2 + i) u (by
    conv => lhs; rw [← List.take_append_drop j S, flatC_append]
    have hl : (flatC (S.take j)).length = j * 2 := by rw [flatC_len, List.length_take]; omega
    rw [List.getElem?_append_right (by omega), hl, show j * 2 + i - j * 2 = i from by omega]
    exact hu)
  rw [Addr.add_lit] at this ⊢
  rw [show j * 2 + i = 0 + (j * 2 + i) from by omega]
  exact this

theorem row_in {w : World} {base base' j k c : Nat} {b : Option Addr} {S T : List Cub} {x : Cub} (h : w.ownsRow base 42 2 (.slice b (j + 1 + (k - j)) c) (j + 1 + (k - j)) (flatC (S.take j) ++ [.int .u32 x.on, .int .u32 x.off] ++ flatC (S.drop j))) (hj : j ≤ k) (hb : base' ≤ base) (hT : T = S.take j ++ x :: S.drop j) :
    w.ownsRow base' 42 2 (.slice b (j + 1 + (k - j)) c) (k + 1) (flatC T) := by
  have e : flatC T = flatC (S.take j) ++ [.int .u32 x.on, .int .u32 x.off] ++ flatC (S.drop j) := by
    rw [hT, flatC_append, List.append_assoc]
    rfl
  rw [e, show k + 1 = j + 1 + (k - j) from by omega]
  exact ownsRow_low h hb

theorem info42 : (Tryz.prog.info? 42).map (fun i => (i.zero, i.size, i.bytes)) = some (some (.agg #[.int .u32 0, .int .u32 0]), 2, 8) := info99

set_option maxRecDepth 100000 in
set_option maxHeartbeats 6400000 in
theorem sorted_calls {w : World} {ao : Option Addr} {cap : Nat} {L : List Cub} (h : RdC w ao L) (hL : L.length ≤ 16777216) :
    Calls Tryz.prog 39 #[.slice ao L.length cap] w fun e w' => ∃ bo bcap, e = .returned (.slice bo L.length bcap) ∧ RdC w' bo (sortL L) ∧ Near w w' := by
  have HL := Lib.hid h
  obtain ⟨i0, hi0, hz0, hz1, hz2⟩ := info_parts info42
  clear h
  go_enter Tryz.func39, Tryz.ntmps39
  go_wp2_with fail
  go_loopw [3, 4] (fun v i wr => ∃ k : Nat, k ≤ L.length ∧ i = .int .i64 k ∧ wr.ownsRow w.heap.size 42 2 v k (flatC (sortL (L.take k))) ∧ Near w wr) (fun _ i _ => L.length - (intOf i).toNat)
  case atStart => exact ⟨0, Nat.zero_le _, rfl, ⟨rfl, .inl ⟨rfl, rfl⟩⟩, Near.refl _⟩
  case round =>
    obtain ⟨k, hk, rfl, hown, hnr⟩ := hrel
    obtain ⟨so, scap, rfl⟩ := owns_form hown
    by_cases hlt : k < L.length
    · have hlt' : (k : Int) < L.length := by omega
      have hSl : (sortL (L.take k)).length = k := by rw [sortL_len, List.length_take]; omega
      have hx : L[k]? = some (L.getD k default) := by rw [List.getD_eq_getElem?_getD, List.getElem?_eq_getElem hlt]; rfl
      have hst := sortL_take hlt
      obtain ⟨S, hS⟩ : ∃ S, S = sortL (L.take k) := ⟨_, rfl⟩
      rw [← hS] at hown hSl hst
      generalize L.getD k default = x at hx hst
      have HST := Lib.hid hst
      obtain ⟨g, rfl, x0, x1⟩ := HL.out k x hx
      have HX := Lib.hid (fun (w' : World) (h' : Near w w') => (⟨h'.cell x0, h'.cell x1⟩ : w'.cell? ⟨g, k * 2, none⟩ = some (.int .u32 x.on) ∧ w'.cell? ⟨g, k * 2 + 1, none⟩ = some (.int .u32 x.off)))
      have hrd : RdC wr so S := rdC_row (cap := scap) (base := w.heap.size) (by rw [hSl]; exact hown)
      have HRD := Lib.hid (fun (w' : World) (h' : Near wr w') (j : Nat) (hj : j < k) => (by
        obtain ⟨g', e, y0, y1⟩ := hrd j (S.getD j default) (by rw [List.getD_eq_getElem?_getD, List.getElem?_eq_getElem (by omega)]; rfl)
        exact ⟨g', e, h'.cell y0, h'.cell y1⟩ : ∃ g', so = some ⟨g', 0, none⟩ ∧ w'.cell? ⟨g', j * 2, none⟩ = some (.int .u32 (S.getD j default).on) ∧ w'.cell? ⟨g', j * 2 + 1, none⟩ = some (.int .u32 (S.getD j default).off)))
      have HNR := Lib.hid hnr
      have HO := Lib.hid hown
      have HSl := Lib.hid hSl
      clear hSl hx hst hS x0 x1 hrd hnr hown
      go_wp2_with fail
      obtain ⟨wo, rfl⟩ : ∃ wo : World, wo = wr := ⟨_, rfl⟩
      go_loopw [5] (fun a wn => ∃ j : Nat, j ≤ k ∧ a = .int .i64 j ∧ (∀ i, i < j → cubLt (S.getD i default) x) ∧ Near wo wn) (fun a _ => k - (intOf a).toNat)
      case atStart => exact ⟨0, Nat.zero_le _, rfl, fun i hi => by omega, Near.refl _⟩
      case round =>
        obtain ⟨j, hj, rfl, hall, hnn⟩ := hrel
        have HNn := Lib.hid hnn
        have HAll := Lib.hid hall
        clear hnn hall
        by_cases hgo : j < k ∧ cubLt (S.getD j default) x
        · obtain ⟨hjk, hclt⟩ := hgo
          have hjk' : (j : Int) < k := by omega
          obtain ⟨g', rfl, y0, y1⟩ := HRD.out wr HNn.out j hjk
          obtain ⟨x0, x1⟩ := HX.out wr (HNR.out.trans HNn.out)
          have HJ := Lib.hid (show ∀ i, i < j + 1 → cubLt (S.getD i default) x from fun i hi => by
            by_cases e : i = j
            · rw [e]; exact hclt
            · exact HAll.out i (by omega))
          have hbc := fun w' => before_calls (S.getD j default) x w'
          rw [decide_eq_true hclt] at hbc
          have HBC := Lib.hid hbc
          clear hclt hbc
          obtain ⟨y, hy⟩ : ∃ y, y = S.getD j default := ⟨_, rfl⟩
          rw [← hy] at HBC y0 y1
          clear hy
          have HHd := Lib.hid (show ∀ w', Near wr w' → w'.cell? ⟨g', j * 2, none⟩ = some (.int .u32 y.on) ∧ w'.cell? ⟨g', j * 2 + 1, none⟩ = some (.int .u32 y.off) ∧ w'.cell? ⟨g, k * 2, none⟩ = some (.int .u32 x.on) ∧ w'.cell? ⟨g, k * 2 + 1, none⟩ = some (.int .u32 x.off) from
            fun w' h' => ⟨h'.cell y0, h'.cell y1, h'.cell x0, h'.cell x1⟩)
          go_wp2_with fail
          go_region_held3 (fun w' => w'.cell? ⟨g', j * 2, none⟩ = some (.int .u32 y.on) ∧ w'.cell? ⟨g', j * 2 + 1, none⟩ = some (.int .u32 y.off) ∧ w'.cell? ⟨g, k * 2, none⟩ = some (.int .u32 x.on) ∧ w'.cell? ⟨g, k * 2 + 1, none⟩ = some (.int .u32 x.off))
            ((refine HHd.out _ ?_; first | exact z1 | exact (Near.refl _).drew))
            ((go_at_call 78; refine (HBC.out _).mono ?_; rintro e v1 ⟨rfl, m1⟩; have z1 : Near wr v1 := (Near.refl _).drew.trans m1))
          go_wp2_with fail
          exact ⟨⟨j + 1, by omega, by go_num, HJ.out, HNn.out.trans z1⟩, by simp [intOf]; omega⟩
        · have HI := Lib.hid (show insC x S = S.take j ++ x :: S.drop j from insC_at x S j (by rw [HSl.out]; exact hj) HAll.out (fun h hc => hgo ⟨by rw [HSl.out] at h; exact h, hc⟩))
          go_wp2_with fail
          go_cut [27] (fun b wx => b = .bool false ∧ Near wr wx)
          case first =>
            by_cases hjk : j < k
            · have hjk' : (j : Int) < k := by omega
              obtain ⟨g', rfl, y0, y1⟩ := HRD.out wr HNn.out j hjk
              obtain ⟨x0, x1⟩ := HX.out wr (HNR.out.trans HNn.out)
              have hbc := fun w' => before_calls (S.getD j default) x w'
              rw [decide_eq_false (fun hc => hgo ⟨hjk, hc⟩)] at hbc
              have HBC := Lib.hid hbc
              clear hbc hgo
              obtain ⟨y, hy⟩ : ∃ y, y = S.getD j default := ⟨_, rfl⟩
              rw [← hy] at HBC y0 y1
              clear hy
              have HHd := Lib.hid (show ∀ w', Near wr w' → w'.cell? ⟨g', j * 2, none⟩ = some (.int .u32 y.on) ∧ w'.cell? ⟨g', j * 2 + 1, none⟩ = some (.int .u32 y.off) ∧ w'.cell? ⟨g, k * 2, none⟩ = some (.int .u32 x.on) ∧ w'.cell? ⟨g, k * 2 + 1, none⟩ = some (.int .u32 x.off) from
                fun w' h' => ⟨h'.cell y0, h'.cell y1, h'.cell x0, h'.cell x1⟩)
              go_region_held3 (fun w' => w'.cell? ⟨g', j * 2, none⟩ = some (.int .u32 y.on) ∧ w'.cell? ⟨g', j * 2 + 1, none⟩ = some (.int .u32 y.off) ∧ w'.cell? ⟨g, k * 2, none⟩ = some (.int .u32 x.on) ∧ w'.cell? ⟨g, k * 2 + 1, none⟩ = some (.int .u32 x.off))
                ((refine HHd.out _ ?_; first | exact z1 | exact (Near.refl _).drew))
                ((go_at_call 78; refine (HBC.out _).mono ?_; rintro e v1 ⟨rfl, m1⟩; have z1 : Near wr v1 := (Near.refl _).drew.trans m1))
              go_wp2_with fail
              go_meet
              exact ⟨rfl, z1⟩
            · have hjk' : decide ((j : Int) < k) = false := decide_eq_false (by omega)
              clear hgo
              go_quiet (fail)
              go_wp2_with fail
              go_meet
              exact ⟨rfl, (Near.refl _).drewN _⟩
          case rest =>
            obtain ⟨rfl, hnc⟩ := hcut
            have HNC := Lib.hid (HNn.out.trans hnc)
            clear hnc hgo
            have HOc := Lib.hid (owns_kept HO.out HNC.out (R := fun _ => False) (fun _ _ h => h))
            have HXc := Lib.hid (fun (w' : World) (h' : Near wc w') => HX.out w' ((HNR.out.trans HNC.out).trans h'))
            have hso : (so = none ∧ k = 0 ∧ scap = 0) ∨ ∃ g', so = some ⟨g', 0, none⟩ ∧ k ≤ scap := by
              rcases HO.out.2 with ⟨e, _⟩ | ⟨g', cap', cur, e, _, _, hc, _⟩
              · simp only [Value.slice.injEq] at e
                exact .inl e
              · simp only [Value.slice.injEq] at e
                obtain ⟨rfl, _, rfl⟩ := e
                exact .inr ⟨g', rfl, hc⟩
            clear HO HRD HX HL
            rcases hso with ⟨rfl, rfl, rfl⟩ | ⟨g', rfl, hkc⟩
            · obtain rfl : j = 0 := by omega
              go_wp2_with (first
                | (at_builtin; refine wpList_append_more rfl (.const (.slice none 0 0)) (.tmp 32) 29 rfl wc.heap.size 42 i0 (.agg #[.int .u32 0, .int .u32 0]) 2 8 Tryz.underlying29 hi0 hz0 hz1 hz2 rfl (by decide) (.slice none 0 0) 0 [] rfl (World.ownsRow_nil _ _ _ _) (.slice none 0 0) 0 [] rfl ⟨rfl, .inl ⟨rfl, rfl⟩⟩ (by simp) (by unfold maxLen; omega) (by omega) (Nat.le_refl _) ?_; intro bo bc w2 hown2 hg2; simp only [Nat.zero_add, List.nil_append] at hown2; have hn2 : Near wc w2 := Kept.grown (Near.refl wc) hg2 (fun k e => by cases e); obtain ⟨x0, x1⟩ := HXc.out w2 hn2; have HN2 := Lib.hid hn2; clear hg2 hn2)
                | (at_builtin; refine wpList_append_more rfl (.tmp 34) (.tmp 39) 29 rfl wc.heap.size 42 i0 (.agg #[.int .u32 0, .int .u32 0]) 2 8 Tryz.underlying29 hi0 hz0 hz1 hz2 rfl (by decide) (.slice bo 0 bc) 0 [] rfl (hown2.alloc _) _ 1 [.int .u32 x.on, .int .u32 x.off] rfl ⟨rfl, .inr ⟨_, 1, rfl, cell_two_at (by simp) _ _ _⟩⟩ (by simp [Value.oneCell']) (by unfold maxLen; omega) (by omega) (by have := HN2.out.size; simp; omega) ?_; intro b3 c3 w3 hown3 hg3; have hn3 : Near wc w3 := Kept.grown (HN2.out.alloc _) hg3 (fun k e hlt => by have := (own_blockP hown2 e).1; omega); have HN3 := Lib.hid hn3; have HO3 := Lib.hid hown3; clear hg3 hn3 hown3)
                | (at_builtin; refine wpList_append_more rfl (.tmp 41) (.tmp 44) 29 rfl wc.heap.size 42 i0 (.agg #[.int .u32 0, .int .u32 0]) 2 8 Tryz.underlying29 hi0 hz0 hz1 hz2 rfl (by decide) _ (0 + 1) _ rfl HO3.out (.slice none 0 0) 0 [] rfl ⟨rfl, .inl ⟨rfl, rfl⟩⟩ (by simp) (by unfold maxLen; omega) (by omega) (by have := HN3.out.size; omega) ?_; intro b4 c4 w4 hown4 hg4; have hn4 : Near wc w4 := Kept.grown HN3.out hg4 (fun k e hlt => by have := (own_blockP HO3.out e).1; omega); have HO4 := Lib.hid hown4; have HN4 := Lib.hid hn4; clear hown4 hg4 hn4))
              obtain rfl : S = [] := List.eq_nil_of_length_eq_zero HSl.out
              exact ⟨⟨1, by omega, rfl, row_in (S := []) HO4.out (Nat.le_refl 0) (by have := HNR.out.size; have := HNC.out.size; omega) (by rw [HST.out]; rfl), (HNR.out.trans HNC.out).trans HN4.out⟩, by simp [intOf]; omega⟩
            · have hT := fun (w' : World) (h' : Near wc w') => src_take (owns_kept HOc.out h' (R := fun _ => False) (fun _ _ h => h)) HSl.out hj scap
              have HT := Lib.hid hT
              clear hT
              have hjs : (j : Int) ≤ scap := by omega
              have hjk : (j : Int) ≤ k := by omega
              go_upto_region 9 with (at_builtin; refine wpList_append_more rfl (.const (.slice none 0 0)) (.tmp 32) 29 rfl wc.heap.size 42 i0 (.agg #[.int .u32 0, .int .u32 0]) 2 8 Tryz.underlying29 hi0 hz0 hz1 hz2 rfl (by decide) (.slice none 0 0) 0 [] rfl (World.ownsRow_nil _ _ _ _) _ j (flatC (S.take j)) rfl (HT.out _ (Near.refl _)) (flatC_one _) (by unfold maxLen; omega) (by omega) (Nat.le_refl _) ?_; intro bo bc w2 hown2 hg2; simp only [Nat.zero_add, List.nil_append] at hown2)
              have hn2 : Near wc w2 := Kept.grown (Near.refl wc) hg2 (fun k e => by cases e)
              obtain ⟨x0, x1⟩ := HXc.out w2 hn2
              have HN2 := Lib.hid hn2
              clear hg2 hn2
              go_upto_region 10 with (at_builtin; refine wpList_append_more rfl (.tmp 34) (.tmp 39) 29 rfl wc.heap.size 42 i0 (.agg #[.int .u32 0, .int .u32 0]) 2 8 Tryz.underlying29 hi0 hz0 hz1 hz2 rfl (by decide) (.slice bo j bc) j (flatC (S.take j)) rfl (hown2.alloc _) _ 1 [.int .u32 x.on, .int .u32 x.off] rfl ⟨rfl, .inr ⟨_, 1, rfl, cell_two_at (by simp) _ _ _⟩⟩ (by simp [Value.oneCell']) (by unfold maxLen; omega) (by omega) (by have := HN2.out.size; simp; omega) ?_; intro b3 c3 w3 hown3 hg3)
              have hn3 : Near wc w3 := Kept.grown (HN2.out.alloc _) hg3 (fun k e hlt => by have := (own_blockP hown2 e).1; omega)
              have HD := Lib.hid (fun o ho c => src_drop (o := o) (owns_kept HOc.out hn3 (R := fun _ => False) (fun _ _ h => h)) HSl.out hj ho c)
              have HN3 := Lib.hid hn3
              have HO3 := Lib.hid hown3
              clear hg3 hn3 hown2 x0 x1
              by_cases hjc : scap = j
              · have HJC := Lib.hid hjc
                go_wp2_with (at_builtin; refine wpList_append_more rfl (.tmp 41) (.tmp 44) 29 rfl wc.heap.size 42 i0 (.agg #[.int .u32 0, .int .u32 0]) 2 8 Tryz.underlying29 hi0 hz0 hz1 hz2 rfl (by decide) _ (j + 1) _ rfl HO3.out _ (k - j) (flatC (S.drop j)) rfl (HD.out 0 (.inr (by have := HJC.out; omega)) _) (flatC_one _) (by unfold maxLen; omega) (by omega) (by have := HN3.out.size; omega) ?_; intro b4 c4 w4 hown4 hg4; have hn4 : Near wc w4 := Kept.grown HN3.out hg4 (fun k e hlt => by have := (own_blockP HO3.out e).1; omega); have HO4 := Lib.hid hown4; have HN4 := Lib.hid hn4; clear hown4 hg4 hn4)
                exact ⟨⟨k + 1, hlt, by go_num, row_in HO4.out hj (by have := HNR.out.size; have := HNC.out.size; omega) (by rw [HST.out, HI.out]), (HNR.out.trans HNC.out).trans HN4.out⟩, by simp [intOf]; omega⟩
              · go_wp2_with (at_builtin; refine wpList_append_more rfl (.tmp 41) (.tmp 44) 29 rfl wc.heap.size 42 i0 (.agg #[.int .u32 0, .int .u32 0]) 2 8 Tryz.underlying29 hi0 hz0 hz1 hz2 rfl (by decide) _ (j + 1) _ rfl HO3.out _ (k - j) (flatC (S.drop j)) rfl (HD.out (j * 2) (.inl rfl) _) (flatC_one _) (by unfold maxLen; omega) (by omega) (by have := HN3.out.size; omega) ?_; intro b4 c4 w4 hown4 hg4; have hn4 : Near wc w4 := Kept.grown HN3.out hg4 (fun k e hlt => by have := (own_blockP HO3.out e).1; omega); have HO4 := Lib.hid hown4; have HN4 := Lib.hid hn4; clear hown4 hg4 hn4)
                exact ⟨⟨k + 1, hlt, by go_num, row_in HO4.out hj (by have := HNR.out.size; have := HNC.out.size; omega) (by rw [HST.out, HI.out]), (HNR.out.trans HNC.out).trans HN4.out⟩, by simp [intOf]; omega⟩
    · obtain rfl : k = L.length := by omega
      rw [List.take_length] at hown
      have hrd : RdC wr so (sortL L) := rdC_row (cap := scap) (base := w.heap.size) (by rw [sortL_len]; exact hown)
      have HO := Lib.hid hrd
      have HNR := Lib.hid hnr
      clear hrd hown hnr
      go_wp2_with fail
      exact bodyPost_ret (v := .slice so L.length scap) (by simp [results, Tryz.results39, go_sem]) rfl ⟨so, scap, rfl, HO.out, HNR.out⟩

end Go.Proofs.YtefclohjeompkaaGreat

/- PrimR: what is needed of it. -/
namespace Go.Proofs.YtefclohjeompkaaGreat
open Go Go.RowKit Go.Shelf Go.Sort Go.Proofs.Gen Go.Proofs.Bdd Go.Proofs.Bdd.T
theorem row_snoc {w : World} {base c : Nat} {b : Option Addr} {ll : List Cub} {x : Cub} {on off : Nat} (h : w.ownsRow base 42 2 (.slice b (ll.length + 1) c) (ll.length + 1) (flatC ll ++ [.int .u32 on, .int .u32 off])) (h1 : on = x.on) (h2 : off = x.off) :
    w.ownsRow base 42 2 (.slice b (ll.length + 1) c) (ll ++ [x]).length (flatC (ll ++ [x])) := by
  subst h1
  subst h2
  rw [flatC_append, List.length_append]
  exact h

set_option maxRecDepth 100000 in
set_option maxHeartbeats 12800000 in
theorem rprimes_calls {w : World} {v : Value} {f : F} (h : IsG w v f) {s : Nat} (hs24 : s < 16777216) (hs : ∀ i, s.testBit i = dep f i) (hV : (feats s).length ≤ 12) :
    Calls Tryz.prog 8 #[v] w fun e w' => ∃ bo bcap, e = .returned (.tuple #[.slice bo (listR s f (2 ^ (feats s).length)).length bcap, .int .i64 0]) ∧ RdC w' bo (sortL (listR s f (2 ^ (feats s).length))) ∧ Near w w' := by
  have HF := Lib.hid h
  have HS := Lib.hid (fun (w' : World) (hn : Near w w') => rsupp_says (HF.out.near hn) hs)
  have HFe := Lib.hid (fun (w' : World) => features_calls s (by omega) w')
  obtain ⟨i0, hi0, hz0, hz1, hz2⟩ := info_parts info42
  obtain ⟨a1, a2, a3, a4, a5, a6, rfl⟩ := h.form
  have hN : Near w (w.alloc (.cells #[.slice a1 a2 a3, .slice a4 a5 a6] 39)) := (Near.refl w).alloc _
  have hA : (w.alloc (.cells #[.slice a1 a2 a3, .slice a4 a5 a6] 39)).heap[w.heap.size]? = some (.cells #[.slice a1 a2 a3, .slice a4 a5 a6] 39 (0, 0)) := heap_new_at rfl
  have HN := Lib.hid hN
  have HA := Lib.hid hA
  have hv12 : ¬ ((12 : Int) < (feats s).length) := by omega
  clear h hs hN hA
  go_enter Tryz.func8, Tryz.ntmps8
  go_upto_region 1 with fail
  generalize (w.alloc (.cells #[.slice a1 a2 a3, .slice a4 a5 a6] 39)) = W1 at HN HA ⊢
  obtain ⟨c0, c1⟩ : W1.cell? ⟨w.heap.size, 0, none⟩ = some (.slice a1 a2 a3) ∧ W1.cell? ⟨w.heap.size, 1, none⟩ = some (.slice a4 a5 a6) := ⟨cell1 (o := 0) HA.out rfl, cell1 (o := 1) HA.out rfl⟩
  go_wp2_with (first
    | (go_at_call 10; refine (HFe.out _).mono ?_; rintro e w3 ⟨fv, rfl, r3, n3⟩; obtain ⟨fo, fcap, rfl⟩ := owns_form r3; have HR3 := Lib.hid r3; have HN3 := Lib.hid (HN2.out.trans n3); have HB3 := Lib.hid n3; clear r3 n3)
    | (go_at_call 11; refine (HS.out _ HN.out).mono ?_; rintro e w2 ⟨rfl, n2⟩; have HN2 := Lib.hid (HN.out.trans n2); have HB2 := Lib.hid n2; clear n2))
  have HB3 := Lib.hid (fun (w' : World) (h' : Near w3 w') => (by
    have hb := (HB2.out.trans HB3.out).trans h'
    exact ⟨cell1 (o := 0) (keepN hb HA.out) rfl, cell1 (o := 1) (keepN hb HA.out) rfl⟩ : w'.cell? ⟨w.heap.size, 0, none⟩ = some (.slice a1 a2 a3) ∧ w'.cell? ⟨w.heap.size, 1, none⟩ = some (.slice a4 a5 a6)))
  have HCfg := Lib.hid (fun (w' : World) (h' : Near w3 w') (q : Nat) (hq : q < 4097) => config_calls (feats_rising s) (by omega) (ownsRow_low (owns_kept HR3.out h' (R := fun _ => False) (fun _ _ h => h)) (Nat.zero_le _)) q (by omega))
  obtain ⟨N, hN⟩ : ∃ N, N = 2 ^ (feats s).length := ⟨_, rfl⟩
  have hN4 : N ≤ 4096 := by
    rw [hN, show 4096 = 2 ^ 12 from rfl]
    exact Nat.pow_le_pow_right (by omega) hV
  have hNw : wrap64 (2 ^ (feats s).length) = (N : Int) := by
    have e : ((2 : Int) ^ (feats s).length) = ((N : Nat) : Int) := by rw [hN]; simp
    rw [e]
    simp only [wrap64]
    omega
  have HNe := Lib.hid hN
  clear hN
  go_loopw [5, 6] (fun v k wr => ∃ q : Nat, q ≤ N ∧ k = .int .i64 q ∧ wr.ownsRow w3.heap.size 42 2 v (listR s f q).length (flatC (listR s f q)) ∧ Near w3 wr) (fun _ k _ => N - (intOf k).toNat)
  case atStart => exact ⟨0, Nat.zero_le _, rfl, World.ownsRow_nil _ _ _ _, Near.refl _⟩
  case round =>
    obtain ⟨q, hq, rfl, hown, hnr⟩ := hrel
    obtain ⟨vo, vcap, rfl⟩ := owns_form hown
    have HO := Lib.hid hown
    have HNR := Lib.hid hnr
    have HC := Lib.hid (HCfg.out wr hnr q (by omega))
    clear hown hnr
    by_cases hlt : q < N
    · have hlt' : (q : Int) < N := by omega
      obtain ⟨on, hon⟩ : ∃ on, on = cfg (feats s) q := ⟨_, rfl⟩
      have hon24 : on < 16777216 := by rw [hon]; exact cfg_lt (feats_rising s) q
      rw [← hon] at HC
      have HOn := Lib.hid hon
      clear hon
      go_wp2_with (go_at_call 37; refine HC.out.mono ?_; rintro e w4 ⟨rfl, n4⟩; have HN4 := Lib.hid (HNR.out.trans n4); have HO4 := Lib.hid (owns_kept HO.out n4 (R := fun _ => False) (fun _ _ h => h)); clear n4)
      clear HC
      obtain ⟨wo, rfl⟩ : ∃ wo : World, wo = w4 := ⟨_, rfl⟩
      go_loopw [5, 8] (fun v k wr => ∃ (m : Nat) (ll : List Cub), m ≤ N ∧ k = .int .i64 m ∧ Hid (ll = listR s f q ++ rowR s f q m) ∧ wr.ownsRow w3.heap.size 42 2 v ll.length (flatC ll) ∧ Near w3 wr) (fun _ k _ => N - (intOf k).toNat)
      case atStart => exact ⟨0, listR s f q, Nat.zero_le _, rfl, Lib.hid (by rw [rowR_zero, List.append_nil]), HO4.out, HN4.out⟩
      case round =>
        clear HN4 HO4 HO HNR
        obtain ⟨m, ll, hm, rfl, HLL, hown, hnr⟩ := hrel
        obtain ⟨uo, ucap, rfl⟩ := owns_form hown
        have hll4 : ll.length ≤ 16777216 := by
          rw [HLL.out, List.length_append]
          have h1 := listR_len s f q
          have h2 := rowR_len s f q m
          have h3 : q * 2 ^ (feats s).length ≤ 4095 * 4096 := Nat.mul_le_mul (by omega) (by rw [← HNe.out]; exact hN4)
          omega
        have HO := Lib.hid hown
        have HNR := Lib.hid hnr
        have HC := Lib.hid (HCfg.out wr hnr m (by omega))
        clear hown hnr
        by_cases hmlt : m < N
        · have hmlt' : (m : Int) < N := by omega
          obtain ⟨off, hoff⟩ : ∃ off, off = cfg (feats s) m := ⟨_, rfl⟩
          have hoff24 : off < 16777216 := by rw [hoff]; exact cfg_lt (feats_rising s) m
          rw [← hoff] at HC
          have HOff := Lib.hid hoff
          clear hoff
          have hand : bits .and .u32 (on : Int) (off : Int) = ((on &&& off : Nat) : Int) := Go.Proofs.Gen.u32_and _ _ (by omega) (by omega)
          go_upto_region 14 with (go_at_call 37; refine HC.out.mono ?_; rintro e w5 ⟨rfl, n5⟩; have HN5 := Lib.hid (HNR.out.trans n5); have HO5 := Lib.hid (owns_kept HO.out n5 (R := fun _ => False) (fun _ _ h => h)); clear n5)
          have HKp := Lib.hid (show keepR (feats s) f q m = (decide (on &&& off = 0) && insB f on off && leastTo (feats s) f on off (feats s).length) by rw [HOn.out, HOff.out]; rfl)
          have HNo := Lib.hid (show keepR (feats s) f q m = false → ll = listR s f q ++ rowR s f q (m + 1) from fun hk => by
            rw [rowR_succ, hk, if_neg (by decide), List.append_nil, ← HLL.out])
          have HOw := Lib.hid (show ∀ w', Near w5 w' → w'.ownsRow w3.heap.size 42 2 (.slice uo ll.length ucap) ll.length (flatC ll) from fun w' h' => owns_kept HO5.out h' (R := fun _ => False) (fun _ _ h => h))
          have hW : ∀ W, W = w5.alloc (.cells #[.int .u32 on, .int .u32 off] 42) → Near w5 W ∧ W.heap[w5.heap.size]? = some (.cells #[.int .u32 on, .int .u32 off] 42 (0, 0)) := by
            rintro W rfl
            exact ⟨(Near.refl w5).alloc _, heap_new_at rfl⟩
          have h6 := hW _ rfl
          generalize w5.alloc (.cells #[.int .u32 on, .int .u32 off] 42) = w6 at h6 ⊢
          obtain ⟨n6, hx6⟩ := h6
          have HN6 := Lib.hid n6
          have HX6 := Lib.hid hx6
          clear hW n6 hx6 HC
          by_cases hap : on &&& off = 0
          · rw [hap] at hand
            obtain ⟨d0, d1⟩ := HB3.out w6 (HN5.out.trans HN6.out)
            obtain ⟨d2, d3⟩ : w6.cell? ⟨w5.heap.size, 0, none⟩ = some (.int .u32 on) ∧ w6.cell? ⟨w5.heap.size, 1, none⟩ = some (.int .u32 off) := ⟨cell1 (o := 0) HX6.out rfl, cell1 (o := 1) HX6.out rfl⟩
            have HIn := Lib.hid (inside_g (HF.out.near ((HN3.out.trans HN5.out).trans HN6.out)) (on := on) (off := off) (by omega) (by omega))
            have HAp := Lib.hid hap
            clear hap
            obtain ⟨ib, hib⟩ : ∃ ib, ib = insB f on off := ⟨_, rfl⟩
            rw [← hib] at HIn
            have HIb := Lib.hid hib
            clear hib
            cases ib with
            | false =>
              go_wp2_with (go_at_call 38; refine HIn.out.mono ?_; rintro e w7 ⟨rfl, n7⟩; have HN7 := Lib.hid (HN6.out.trans n7); clear n7)
              exact ⟨⟨m + 1, ll, by omega, by go_num, Lib.hid (HNo.out (by rw [HKp.out, ← HIb.out]; simp)), HOw.out _ HN7.out, HN5.out.trans HN7.out⟩, by simp [intOf]; omega⟩
            | true =>
              go_wp2_with (go_at_call 38; refine HIn.out.mono ?_; rintro e w7 ⟨rfl, n7⟩; have HNi := Lib.hid (HN6.out.trans n7); have HX7 := Lib.hid (keepN n7 HX6.out); clear n7)
              obtain ⟨wi, rfl⟩ : ∃ wi : World, wi = w7 := ⟨_, rfl⟩
              clear d0 d1 d2 d3 HIn
              go_loopw [11, 12] (fun lv jv wj => ∃ j : Nat, j ≤ (feats s).length ∧ jv = .int .i64 j ∧ lv = .bool (leastTo (feats s) f on off j) ∧ Near wi wj) (fun _ jv _ => (feats s).length - (intOf jv).toNat)
              case atStart => exact ⟨0, Nat.zero_le _, rfl, rfl, Near.refl _⟩
              case round =>
                obtain ⟨j, hj, rfl, rfl, hnj⟩ := hrel
                have HNj := Lib.hid hnj
                clear hnj
                by_cases hjl : j < (feats s).length
                · have hjl' : (j : Int) < (feats s).length := by omega
                  obtain ⟨g, rfl, hcv, -⟩ := rdV_row HR3.out j hjl
                  have hcj := (HN5.out.trans (HNi.out.trans HNj.out)).cell hcv
                  have hi24 : (feats s).getD j 0 < 24 := feats_at_lt s j
                  have HLs := Lib.hid (leastTo_succ (feats s) f on off j)
                  obtain ⟨i, hi⟩ : ∃ i, i = (feats s).getD j 0 := ⟨_, rfl⟩
                  rw [← hi] at hi24 HLs hcj
                  obtain ⟨p, hp⟩ : ∃ p, p = 2 ^ i := ⟨_, rfl⟩
                  have hp32 : p < 4294967296 := by
                    rw [hp]
                    exact Nat.lt_of_lt_of_le (Nat.pow_lt_pow_right (by omega) hi24) (by decide)
                  have hsh : (2 : Int) ^ i % 4294967296 = (p : Int) := by
                    have e : (2 : Int) ^ i = ((p : Nat) : Int) := by rw [hp]; simp
                    rw [e]
                    omega
                  have h1 : bits .or .u32 (on : Int) (off : Int) = ((on ||| off : Nat) : Int) := Go.Proofs.Gen.u32_or _ _ (by omega) (by omega)
                  have hu : on ||| off < 4294967296 := Nat.lt_of_lt_of_le (Nat.or_lt_two_pow (n := 24) hon24 hoff24) (by decide)
                  have h2 : decide ((0 : Int) < bits .and .u32 ((on ||| off : Nat) : Int) (p : Int)) = (on ||| off).testBit i := by rw [hp]; exact and_bit_pos hu (by omega)
                  have h3 : bits .andNot .u32 (on : Int) (p : Int) = ((clr on i : Nat) : Int) := by rw [hp]; exact andNot_bit (by omega) (by omega)
                  have h4 : bits .andNot .u32 (off : Int) (p : Int) = ((clr off i : Nat) : Int) := by rw [hp]; exact andNot_bit (by omega) (by omega)
                  have l3 : clr on i < 4294967296 := Nat.lt_of_lt_of_le (clr_lt (n := 24) hon24) (by decide)
                  have l4 : clr off i < 4294967296 := Nat.lt_of_lt_of_le (clr_lt (n := 24) hoff24) (by decide)
                  have HI2 := Lib.hid (inside_g (HF.out.near (((HN3.out.trans HN5.out).trans HNi.out).trans HNj.out)) (on := clr on i) (off := clr off i) l3 l4)
                  obtain ⟨d0, d1⟩ := HB3.out wr ((HN5.out.trans HNi.out).trans HNj.out)
                  generalize insB f (clr on i) (clr off i) = ib2 at HLs HI2
                  generalize (on ||| off).testBit i = tb at HLs h2
                  generalize on ||| off = u at h1 h2 hu
                  generalize clr on i = c1 at h3 l3 HI2
                  generalize clr off i = c2 at h4 l4 HI2
                  generalize leastTo (feats s) f on off j = lj at HLs ⊢
                  clear hi hp hcv
                  cases tb with
                  | false =>
                    rw [Bool.false_and, Bool.not_false, Bool.and_true] at HLs
                    go_wp2_with fail
                    exact ⟨⟨j + 1, by omega, by go_num, by rw [HLs.out], HNj.out⟩, by simp [intOf]; omega⟩
                  | true =>
                    rw [Bool.true_and] at HLs
                    cases ib2 with
                    | false =>
                      rw [Bool.not_false, Bool.and_true] at HLs
                      go_wp2_with (go_at_call 38; refine HI2.out.mono ?_; rintro e w8 ⟨rfl, n8⟩)
                      exact ⟨⟨j + 1, by omega, by go_num, by rw [HLs.out], HNj.out.trans n8⟩, by simp [intOf]; omega⟩
                    | true =>
                      rw [Bool.not_true, Bool.and_false] at HLs
                      go_wp2_with (go_at_call 38; refine HI2.out.mono ?_; rintro e w8 ⟨rfl, n8⟩)
                      exact ⟨⟨j + 1, by omega, by go_num, by rw [HLs.out], HNj.out.trans n8⟩, by simp [intOf]; omega⟩
                · obtain rfl : j = (feats s).length := by omega
                  generalize hlt2 : leastTo (feats s) f on off (feats s).length = lt at HKp ⊢
                  clear hlt2
                  cases lt with
                  | false =>
                    go_wp2_with fail
                    exact ⟨⟨m + 1, ll, by omega, by go_num, Lib.hid (HNo.out (by rw [HKp.out]; simp)), HOw.out _ (HNi.out.trans HNj.out), HN5.out.trans (HNi.out.trans HNj.out)⟩, by simp [intOf]; omega⟩
                  | true =>
                    obtain ⟨e0, e1⟩ : wr.cell? ⟨w5.heap.size, 0, none⟩ = some (.int .u32 on) ∧ wr.cell? ⟨w5.heap.size, 1, none⟩ = some (.int .u32 off) := ⟨cell1 (o := 0) (keepN HNj.out HX7.out) rfl, cell1 (o := 1) (keepN HNj.out HX7.out) rfl⟩
                    have HR8 := Lib.hid (HOw.out _ (HNi.out.trans HNj.out))
                    have HN8 := Lib.hid (HN5.out.trans (HNi.out.trans HNj.out))
                    go_wp2_with (at_builtin; refine wpList_append_more rfl (.tmp 85) (.tmp 87) 29 rfl w3.heap.size 42 i0 (.agg #[.int .u32 0, .int .u32 0]) 2 8 Tryz.underlying29 hi0 hz0 hz1 hz2 rfl (by decide) (.slice uo ll.length ucap) ll.length (flatC ll) rfl (HR8.out.alloc _) _ 1 [.int .u32 on, .int .u32 off] rfl ⟨rfl, .inr ⟨_, 1, rfl, cell_two_at (by simp) _ _ _⟩⟩ (by simp [Value.oneCell']) (by unfold maxLen; omega) (by omega) (by have := HN8.out.size; simp; omega) ?_; intro b9 c9 w9 hown9 hg9; have hn9 : Near w3 w9 := Kept.grown (HN8.out.alloc _) hg9 (fun k e hlt => by have := (own_blockP HR8.out e).1; omega); have HO9 := Lib.hid hown9; have HN9 := Lib.hid hn9; clear hown9 hg9 hn9)
                    exact ⟨⟨m + 1, ll ++ [cubR s q m], by omega, by go_num, Lib.hid (by rw [rowR_succ, HKp.out, HAp.out, ← HIb.out, HLL.out]; simp), row_snoc HO9.out HOn.out HOff.out, HN9.out⟩, by simp [intOf]; omega⟩
          · have hpos : (0 : Int) < ((on &&& off : Nat) : Int) := by omega
            have HAp := Lib.hid hap
            clear hap
            go_wp2_with fail
            exact ⟨⟨m + 1, ll, by omega, by go_num, Lib.hid (HNo.out (by rw [HKp.out, decide_eq_false HAp.out]; simp)), HOw.out _ HN6.out, HN5.out.trans HN6.out⟩, by simp [intOf]; omega⟩
        · go_wp2_with fail
          obtain rfl : m = N := by omega
          have hl : listR s f (q + 1) = ll := by rw [listR_succ, HLL.out, ← HNe.out]
          exact ⟨⟨q + 1, by omega, by go_num, by rw [hl]; exact HO.out, HNR.out⟩, by simp [intOf]; omega⟩
    · obtain rfl : q = N := by omega
      have hrd := rdC_row HO.out
      rw [HNe.out] at hrd
      have hlen : (listR s f (2 ^ (feats s).length)).length ≤ 16777216 := by
        have h1 := listR_len s f (2 ^ (feats s).length)
        rw [← HNe.out] at h1 ⊢
        have h3 : q * q ≤ 4096 * 4096 := Nat.mul_le_mul hN4 hN4
        omega
      have HS := Lib.hid (fun c => sorted_calls (cap := c) hrd hlen)
      have e : listR s f q = listR s f (2 ^ (feats s).length) := by rw [HNe.out]
      rw [e]
      clear hrd hlen HO HC e
      go_wp2_with (go_at_call 39; refine (HS.out _).mono ?_; rintro e w9 ⟨bo, bcap, rfl, hr9, n9⟩; have HR9 := Lib.hid hr9; have HN9 := Lib.hid n9; clear hr9 n9)
      exact bodyPost_ret (v := .tuple #[.slice bo (listR s f (2 ^ (feats s).length)).length bcap, .int .i64 0]) (by simp [results, Tryz.results8, go_sem]) rfl ⟨bo, bcap, rfl, HR9.out, (HN3.out.trans HNR.out).trans HN9.out⟩

end Go.Proofs.YtefclohjeompkaaGreat

/- PrimS: what is needed of it. -/
namespace Go.Proofs.YtefclohjeompkaaGreat
open Go Go.RowKit Go.Shelf Go.Sort Go.Proofs.Gen Go.Proofs.Bdd Go.Proofs.Bdd.T
open Classical in
/-- Does a script mention few features, and does its last set depend on at most n? -/
noncomputable def fewB (l : List SOp) (n : Int) : Bool := mentB l && decide (∀ s : Nat, (∀ i, s.testBit i = dep (lastF l) i) → ((feats s).length : Int) ≤ n)

set_option maxRecDepth 100000 in
set_option maxHeartbeats 3200000 in
theorem few_calls {w : World} {v : Value} {l : List SOp} (h : RdOps w v l) (n : Int) : Calls Tryz.prog 4 #[v, .int .i64 n] w fun e w' => e = .returned (.bool (fewB l n)) ∧ Near w w' := by
  have HM := Lib.hid (ment_calls h)
  cases hb : mentB l with
  | false =>
    have HB := Lib.hid hb
    obtain ⟨ao, cap, rfl, -⟩ := h
    clear hb
    go_enter Tryz.func4, Tryz.ntmps4
    go_wp2_with (go_at_call 9; refine HM.out.mono ?_; rintro e w1 ⟨rfl, n1⟩; rw [HB.out])
    exact bodyPost_ret (v := .bool false) (by simp [results, Tryz.results4, go_sem]) rfl ⟨by rw [fewB, HB.out]; rfl, n1⟩
  | true =>
    have HB := Lib.hid hb
    have hok := mentB_ok hb
    have hl12 := hok.1
    have h40 := Lib.hid hok.2
    have HL := Lib.hid h
    obtain ⟨ao, cap, rfl, -⟩ := h
    clear hb hok
    go_enter Tryz.func4, Tryz.ntmps4
    go_upto_region 4 with (first
      | (go_at_call 9; refine HM.out.mono ?_; rintro e w1 ⟨rfl, n1⟩; rw [HB.out])
      | (go_at_call 6; refine (both_calls2 (HL.out.near n1) (by omega) h40.out).mono ?_; rintro e w2 ⟨sv, tv, rfl, s2, t2, n2⟩; obtain ⟨g, sc, u0, u1, rfl, x0, x1, hi⟩ := s2.last; obtain ⟨g', tc, v0, v1, rfl, y0, y1, hi'⟩ := t2.last; obtain ⟨p1, p2, p3, p4, hpe⟩ := hi.form; obtain ⟨q1, q2, q3, q4, q5, q6, hqe⟩ := hi'.form; simp only [Value.agg.injEq, Array.mk.injEq, List.cons.injEq, and_true] at hpe hqe; obtain ⟨rfl, rfl⟩ := hpe; obtain ⟨rfl, rfl⟩ := hqe; have HN := Lib.hid (n1.trans n2); clear s2 t2 n1 n2))
    obtain ⟨s, hs24, hs, -⟩ := support_f hi
    have HS := Lib.hid hs
    have HD := Lib.hid (rsupp_says hi' hs)
    have HFe := Lib.hid (fun (w' : World) => features_calls s (by omega) w')
    clear hi hi' hs
    go_wp2_with (first
      | (go_at_call 11; refine HD.out.mono ?_; rintro e w3 ⟨rfl, n3⟩)
      | (go_at_call 10; refine (HFe.out _).mono ?_; rintro e w4 ⟨v4, rfl, r4, n4⟩; obtain ⟨o4, c4, rfl⟩ := owns_form r4; clear r4))
    refine bodyPost_ret (v := .bool (decide (((feats s).length : Int) ≤ n))) (by simp [results, Tryz.results4, go_sem]) rfl ⟨?_, (HN.out.trans n3).trans n4⟩
    rw [fewB, HB.out, Bool.true_and]
    congr 2
    refine decide_eq_decide.2 ⟨fun h s' hs' => ?_, fun h => h s HS.out⟩
    obtain rfl : s' = s := Nat.eq_of_testBit_eq fun i => (hs' i).trans (HS.out i).symm
    exact h

set_option maxRecDepth 100000 in
set_option maxHeartbeats 6400000 in
theorem law_primes {w : World} {v : Value} {l : List SOp} (h : RdOps w v l) : Calls Tryz.prog 3 #[v] w fun e w' => e = .returned (.bool true) ∧ Near w w' := by
  have HF := Lib.hid (few_calls h 5)
  have HL := Lib.hid h
  cases hb : fewB l 5 with
  | false =>
    rw [hb] at HF
    obtain ⟨ao, cap, rfl, -⟩ := h
    clear hb
    go_enter Tryz.func3, Tryz.ntmps3
    go_wp2_with (first
      | (go_at_call 4; refine HF.out.mono ?_; rintro e w1 ⟨rfl, n1⟩)
      | (go_at_call 5; refine (wakes_calls _).mono ?_; rintro e w2 ⟨rfl, n2⟩))
    go_ret
    exact ⟨rfl, n1.trans n2⟩
  | true =>
    rw [hb] at HF
    rw [fewB, Bool.and_eq_true] at hb
    obtain ⟨hb, hfe⟩ := hb
    have hfe := @of_decide_eq_true _ (Classical.propDecidable _) hfe
    have hok := mentB_ok hb
    have hl12 := hok.1
    have h40 := Lib.hid hok.2
    obtain ⟨ao, cap, rfl, -⟩ := h
    have HFe := Lib.hid hfe
    clear hb hok hfe
    go_enter Tryz.func3, Tryz.ntmps3
    go_upto_region 4 with (first
      | (go_at_call 4; refine HF.out.mono ?_; rintro e w1 ⟨rfl, n1⟩)
      | (go_at_call 6; refine (both_calls2 (HL.out.near n1) (by omega) h40.out).mono ?_; rintro e w2 ⟨sv, tv, rfl, s2, t2, n2⟩; obtain ⟨g, sc, u0, u1, rfl, x0, x1, hi⟩ := s2.last; obtain ⟨g', tc, v0, v1, rfl, y0, y1, hi'⟩ := t2.last; obtain ⟨p1, p2, p3, p4, hpe⟩ := hi.form; obtain ⟨q1, q2, q3, q4, q5, q6, hqe⟩ := hi'.form; simp only [Value.agg.injEq, Array.mk.injEq, List.cons.injEq, and_true] at hpe hqe; obtain ⟨rfl, rfl⟩ := hpe; obtain ⟨rfl, rfl⟩ := hqe; have HN := Lib.hid (n1.trans n2); clear s2 t2 n1 n2))
    obtain ⟨s, hs24, hs, -⟩ := support_f hi
    have hV : (feats s).length ≤ 5 := by have := HFe.out s hs; omega
    have HP := Lib.hid (primes_walk hi hs24 hs (by omega))
    have HR := Lib.hid (fun (w' : World) (hn : Near w2 w') => rprimes_calls (hi'.near hn) hs24 hs (by omega))
    clear hi hi' hs HFe
    go_upto_region 6 with (first
      | (go_at_call 7; refine HP.out.mono ?_; rintro e w3 ⟨bo, bcap, d, rfl, hrd, hpm, hso, n3⟩; have hsm := primes_same hpm hso; obtain ⟨dn, hdn⟩ : ∃ dn, dn = d.size := ⟨_, rfl⟩; have HRd := Lib.hid hrd; have HSm := Lib.hid hsm; have HDn := Lib.hid hdn; rw [← hdn]; have z0 := n3.cell y0; have z1 := n3.cell y1; have HN3 := Lib.hid n3; clear hrd hpm hso hsm hdn n3)
      | (go_at_call 8; refine (HR.out _ HN3.out).mono ?_; rintro e w4 ⟨co, ccap, rfl, hrc, n4⟩; have HRc := Lib.hid hrc; have HN4 := Lib.hid n4; clear hrc n4))
    obtain ⟨X, hX⟩ : ∃ X, X = sortL (listR s (lastF l) (2 ^ (feats s).length)) := ⟨_, rfl⟩
    have hXl : (listR s (lastF l) (2 ^ (feats s).length)).length = X.length := by rw [hX, sortL_len]
    have hXd : X.length = dn := by rw [HDn.out, hX, ← HSm.out]; simp
    rw [hXl, hXd]
    have hr1 := HRd.out
    have hr2 := HRc.out
    rw [HSm.out, ← hX] at hr1
    rw [← hX] at hr2
    have HR1 := Lib.hid hr1
    have HR2 := Lib.hid hr2
    have HXd := Lib.hid hXd
    have hd63 : dn < 9223372036854775808 := by
      have h1 := listR_len s (lastF l) (2 ^ (feats s).length)
      have h2 : 2 ^ (feats s).length ≤ 2 ^ 5 := Nat.pow_le_pow_right (by omega) hV
      have h3 : 2 ^ (feats s).length * 2 ^ (feats s).length ≤ 2 ^ 5 * 2 ^ 5 := Nat.mul_le_mul h2 h2
      omega
    clear hr1 hr2 hX hXl hXd HRd HRc HSm HDn HP HR HF x0 x1 y0 y1 z0 z1
    go_wp2_with fail
    go_loopw [10] (fun i wr => ∃ k : Nat, k ≤ dn ∧ i = .int .i64 k ∧ Near w4 wr) (fun i _ => dn - (intOf i).toNat)
    case atStart => exact ⟨0, Nat.zero_le _, rfl, Near.refl _⟩
    case round =>
      obtain ⟨k, hk, rfl, hnr⟩ := hrel
      have HNr := Lib.hid hnr
      clear hnr
      by_cases hlt : k < dn
      · have hlt' : (k : Int) < dn := by omega
        obtain ⟨x, hx⟩ : ∃ x, X[k]? = some x := ⟨_, List.getElem?_eq_getElem (by rw [HXd.out]; exact hlt)⟩
        obtain ⟨gb, rfl, b0, b1⟩ := HR1.out k x hx
        obtain ⟨gc, rfl, c0, c1⟩ := HR2.out k x hx
        have e0 := HNr.out.cell (HN4.out.cell b0)
        have e1 := HNr.out.cell (HN4.out.cell b1)
        have e2 := HNr.out.cell c0
        have e3 := HNr.out.cell c1
        clear b0 b1 c0 c1 hx
        go_wp2_with fail
        go_quiet (fail)
        go_wp2_with fail
        exact ⟨⟨k + 1, by omega, by go_num, HNr.out.drewN _⟩, by simp [intOf]; omega⟩
      · go_wp2_with (go_at_call 5; refine (wakes_calls _).mono ?_; rintro e w9 ⟨rfl, n9⟩)
        go_ret
        exact ⟨rfl, ((((HN.out.trans HN3.out).trans HN4.out).trans HNr.out).trans n9)⟩

end Go.Proofs.YtefclohjeompkaaGreat
