/- Parts of a proof: PrimG, PrimM, PrimN, PrimO, ClrB. -/
import Derived.Maps.OwnSet
import Derived.WalkKit
import Derived.Deep.QuietTactic
import Derived.Test.YtefclohjeompkaaGreatProg
import Derived.KernelRfl
import Derived.DeepKeys4
import Derived.Deep.RegionLaw
import Derived.StillTailTactics
import Derived.Maps.AppendAt
import Derived.WalkSpells
import Derived.WalkLawsBesides
import Derived.BigQuiet
import Derived.Lib.Hide
import Derived.Deep.DeepCutAuto
import Derived.Laws.EntriesVeiled
import Derived.Deep.RegionHeld3
import Derived.Laws.OwnMore
import Derived.Deep.Slices
import Derived.Lib.BitFns
import Derived.IntWalk
import Derived.RangeFuncNested
import Derived.RangeFuncBound
import Derived.RangeFuncCalls
import Derived.RangeFuncLeaves
import Derived.Shelf.Abstract
import Derived.Shelf.RegionOpen
import Derived.OwnWalkIn
import Derived.TacticsInMore
import Derived.LoopNIn
import Derived.LoopIn
import Derived.Laws.CopyOwn
import Derived.Laws.BitsAllLaws
import Derived.RangeFuncWrites
import Derived.Deep.Onto
import Derived.Shelf.SlSortCmp.WholeK
import Derived.Ground.SlsfProg
import Derived.Test.YtefclohjeompkaaGreatKTreeC
import Derived.Test.YtefclohjeompkaaGreatKRep
import Derived.Test.YtefclohjeompkaaGreatKJoinD
import Derived.Test.YtefclohjeompkaaGreatKCmpA
import Derived.Test.YtefclohjeompkaaGreatKRefH
import Derived.Test.YtefclohjeompkaaGreatKOfB
import Derived.Test.YtefclohjeompkaaGreatKAlike
import Derived.Test.YtefclohjeompkaaGreatKBetA
import Derived.Test.YtefclohjeompkaaGreatKBetB
import Derived.Test.YtefclohjeompkaaGreatKLinF
import Derived.Test.YtefclohjeompkaaGreatKLinH
import Derived.Test.YtefclohjeompkaaGreatKLinJ
import Derived.Test.YtefclohjeompkaaGreatKSteps3
import Derived.Test.YtefclohjeompkaaGreatKFAll
import Derived.Test.YtefclohjeompkaaGreatKOpenA
import Derived.Test.YtefclohjeompkaaGreatKColl
import Derived.Test.YtefclohjeompkaaGreatKRefW
import Derived.Test.YtefclohjeompkaaGreatKPrimB
import Derived.Test.YtefclohjeompkaaGreatKSaidB
import Derived.Test.YtefclohjeompkaaGreatKTwoF
import Derived.Test.YtefclohjeompkaaGreatKPrimE
import Derived.Test.YtefclohjeompkaaGreatKPrimI
/- PrimG: what is needed of it. -/
namespace Go.Proofs.YtefclohjeompkaaGreat
open Go Go.RowKit Go.Shelf Go.Sort Go.Proofs.Gen Go.Proofs.Bdd Go.Proofs.Bdd.T
theorem sort_row {W : World} {base bs cap n : Nat} {oo : Option Addr} {l : List Cub} (hn : l.length = n) (h : W.ownsRow base 42 2 (.slice oo n cap) n (flatC l)) (hb : W.cell? ⟨bs, 0, none⟩ = some (.func (.func 31) #[] #[])) (hne : ∀ g, oo = some ⟨g, 0, none⟩ → bs ≠ g) (hsz : l.length < 4611686018427387904) :
    Calls Tryz.prog 32 #[.slice oo n cap, .func (.func 33) #[] #[.pointer (some ⟨bs, 0, none⟩)]] W fun e w' => e = .returned (.tuple #[]) ∧ ∃ d' : Array Cub, d'.size = n ∧ d'.toList.Perm l ∧ SortedIn (ltOf cmpC) 0 n d' ∧ RdC w' oo d'.toList ∧ Kept (fun b => base ≤ b) W w' := by
  subst hn
  rcases h.2 with ⟨e, e0⟩ | ⟨g, cap', cur, e, hbg, hg, _⟩
  · have hl : l = [] := List.eq_nil_of_length_eq_zero e0
    subst hl
    cases e
    refine (sort_nil W _).mono ?_
    rintro e w' ⟨rfl, n1⟩
    refine ⟨rfl, #[], rfl, List.Perm.refl _, fun i j _ _ hj => by simp at hj, fun i x hx => by simp at hx, Kept.mono n1 (fun b _ hf => hf.elim)⟩
  · obtain ⟨rfl, -, rfl⟩ : oo = some ⟨g, 0, none⟩ ∧ l.length = l.length ∧ cap = cap' := by
      injection e with e1 e2 e3
      exact ⟨e1, rfl, e3⟩
    refine (show Calls Tryz.prog 32 #[.slice (some ⟨g, 0, none⟩) l.toArray.size cap, .func (.func 33) #[] #[.pointer (some ⟨bs, 0, none⟩)]] W _ from sortc_calls (cap := cap) hb (hne g rfl) (holds_row h) (Array.getElem?_eq_some_iff.1 hg).1 (by simpa using hsz)).mono ?_
    rintro e w' ⟨rfl, d', h1, h2, h3, h4, h5⟩
    refine ⟨rfl, d', h1, h2, h3, rdC_holds h4, Kept.mono h5 (fun b _ hf => by subst hf; exact hbg)⟩

set_option maxRecDepth 100000 in
set_option maxHeartbeats 6400000 in
theorem primes_walk {w : World} {v : Value} {f : F} (h : IsF w v f) {s : Nat} (hs24 : s < 16777216) (hs : ∀ i, s.testBit i = dep f i) (hV : (feats s).length ≤ 12) :
    Calls Tryz.prog 7 #[v] w fun e w' => ∃ (ao : Option Addr) (cap : Nat) (d : Array Cub), e = .returned (.tuple #[.slice ao d.size cap, .int .i64 0]) ∧ RdC w' ao d.toList ∧ d.toList.Perm ((pks s f (3 ^ (feats s).length)).map (cubK s)) ∧ SortedIn (ltOf cmpC) 0 d.size d ∧ Near w w' := by
  have HF := Lib.hid h
  have HSup := Lib.hid (fun (w' : World) (hn : Near w w') => supp_at (HF.out.near hn) hs)
  have HOn := Lib.hid (onV_feats h.low hs)
  obtain ⟨a1, a2, a3, a4, rfl⟩ := h.form
  have hN : Near w (w.alloc (.cells #[.slice a1 a2 a3, .int .i64 a4] 34)) := (Near.refl w).alloc _
  have hA : (w.alloc (.cells #[.slice a1 a2 a3, .int .i64 a4] 34)).heap[w.heap.size]? = some (.cells #[.slice a1 a2 a3, .int .i64 a4] 34 (0, 0)) := heap_new_at rfl
  have HN := Lib.hid hN
  have HA := Lib.hid hA
  have hv12 : ¬ ((12 : Int) < (feats s).length) := by omega
  clear h hs hN hA
  go_enter Tryz.func7, Tryz.ntmps7
  go_upto_region 1 with fail
  generalize (w.alloc (.cells #[.slice a1 a2 a3, .int .i64 a4] 34)) = W1 at HN HA ⊢
  obtain ⟨c0, c1⟩ : W1.cell? ⟨w.heap.size, 0, none⟩ = some (.slice a1 a2 a3) ∧ W1.cell? ⟨w.heap.size, 1, none⟩ = some (.int .i64 a4) := ⟨cell1 (o := 0) HA.out rfl, cell1 (o := 1) HA.out rfl⟩
  go_upto_region 5 with (first
    | (go_at_call 25; refine (collect_calls (b0 := w3.heap.size) (f := s) (by omega) (by simp)).mono ?_; rintro e w5 ⟨fv, rfl, r5, n5⟩; obtain ⟨fo, fcap, rfl⟩ := owns_form r5; have HR5 := Lib.hid (rdV_row r5); have HN5 := Lib.hid ((HN3.out.alloc _).trans n5); have HB5 := Lib.hid ((HB3.out.alloc _).trans n5); clear r5 n5)
    | (go_at_call 26; refine (members_calls s _).mono ?_; rintro e w4 ⟨rfl, rfl⟩)
    | (go_at_call 24; refine (ones_calls hs24 _).mono ?_; rintro e w3 ⟨rfl, n3⟩; have HN3 := Lib.hid (HN2.out.trans n3); have HB3 := Lib.hid (HB2.out.trans n3); clear n3)
    | (go_at_call 23; refine (HSup.out _ HN.out).mono ?_; rintro e w2 ⟨rfl, n2⟩; have HN2 := Lib.hid (HN.out.trans n2); have HB2 := Lib.hid n2; clear n2))
  go_upto_region 6 with fail
  obtain ⟨i0, hi0, hz0, hz1, hz2⟩ := info_parts info99
  have hwn : IntKind.i64.wrap (((feats s).length : Int) - 1) = ((feats s).length : Int) - 1 := IntWalk.i64_in _ (by omega)
  have hfacts : ∀ W6, W6 = (w5.alloc (.cells #[] 4)).alloc (.cells #[.slice (some ⟨w5.heap.size, 0, none⟩) 0 0] 37) → Near w5 W6 ∧ W6.heap.size = w5.heap.size + 1 + 1 ∧ BI (w5.heap.size + 1) w5.heap.size [] W6 := by
    rintro W6 rfl
    exact ⟨((Near.refl w5).alloc _).alloc _, by simp, some ⟨w5.heap.size, 0, none⟩, 0, heap_new_at (by simp), rfl, .inr ⟨w5.heap.size, 0, #[], rfl, Nat.le_refl _, (heap_old_at (by simp)).trans (heap_new_at rfl), Nat.le_refl _, by unfold maxLen; omega, rfl, rfl⟩⟩
  have hf6 := hfacts _ rfl
  generalize (w5.alloc (.cells #[] 4)).alloc (.cells #[.slice (some ⟨w5.heap.size, 0, none⟩) 0 0] 37) = W6 at hf6 ⊢
  clear hfacts
  obtain ⟨hn6, hs6, hi6⟩ := hf6
  have HN6 := Lib.hid (HN5.out.trans hn6)
  have HR6 := Lib.hid (HR5.out.near hn6)
  have HI6 := Lib.hid hi6
  have h5w := HN5.out.size'
  have N56 := Lib.hid hn6
  generalize w5.heap.size = b5 at *
  have HA6 := Lib.hid (keepN (HB5.out.trans hn6) HA.out)
  have hwlt := (Array.getElem?_eq_some_iff.1 HA.out).1
  obtain ⟨d0, d1⟩ : W6.cell? ⟨w.heap.size, 0, none⟩ = some (.slice a1 a2 a3) ∧ W6.cell? ⟨w.heap.size, 1, none⟩ = some (.int .i64 a4) := ⟨cell1 (o := 0) HA6.out rfl, cell1 (o := 1) HA6.out rfl⟩
  have hp3 : 3 ^ (feats s).length ≤ 531441 := by
    have h1 : 3 ^ (feats s).length ≤ 3 ^ 12 := Nat.pow_le_pow_right (by omega) hV
    have h2 : (3 : Nat) ^ 12 = 531441 := by decide
    omega
  have HCu := Lib.hid (cubes_calls (V := feats s) hV (fo := fo) (cap := fcap) (B := b5 + 1) (base := b5) (feats s).length (Nat.le_refl _) f _ W6 [] (HF.out.near HN6.out) HOn.out HR6.out HI6.out (by omega) (by simpa using (show 3 ^ (feats s).length ≤ 600000000 by omega)))
  have hLl := inL_len (feats s) (feats s).length f
  have hLk : ∀ k, k < 3 ^ (feats s).length → (inL (feats s) (feats s).length f)[k]? = some (inK (feats s) (feats s).length f k) := fun k hk => by
    unfold inL
    rw [List.getElem?_map, List.getElem?_range hk]
    rfl
  have HLk := Lib.hid hLk
  have HPk := Lib.hid (fun k => pks_succ s f k)
  clear hn6 hi6 c0 c1 hLk
  obtain ⟨L, hL⟩ : ∃ L, inL (feats s) (feats s).length f = L := ⟨_, rfl⟩
  rw [hL] at HCu hLl HLk HPk
  have HPr := Lib.hid (fun (w' : World) (ao : Option Addr) (cap : Nat) (base : Nat) (hr : w'.ownsRow base 4 1 (.slice ao L.length cap) L.length (L.map bv)) (k : Nat) (hk : k < L.length) => prime_calls hr hk hV (by omega))
  have HKu := Lib.hid (fun (w' : World) (hr : RdV w' fo (feats s)) (k : Nat) (hk : k < 1000000000) => show Calls Tryz.prog 30 #[.slice fo (feats s).length fcap, .int .i64 k] w' (fun e w'' => e = .returned (.agg #[.int .u32 (cubK s k).on, .int .u32 (cubK s k).off]) ∧ Near w' w'') from cube_calls (feats_at_lt s) (by omega) hr hk)
  obtain ⟨P, hP⟩ : ∃ P, 3 ^ (feats s).length = P := ⟨_, rfl⟩
  rw [hP] at hp3 hLl HLk
  have HPP := Lib.hid hP
  clear hL hP
  go_upto_region 9 with (go_at_call 27; refine HCu.out.mono ?_; rintro e w7 ⟨rfl, hi7, hk7⟩; obtain ⟨ao7, cap7, hb7, ho7⟩ := hi7; simp only [List.nil_append] at hb7 ho7; have HB7 := Lib.hid hb7; have HO7 := Lib.hid ho7; have HK7 := Lib.hid hk7; have e0 := cell1 (o := 0) hb7 rfl; clear hb7 ho7 hk7)
  have HR7 := Lib.hid (HR6.out.kb HI6.out HK7.out)
  have h67 := HK7.out.size
  have NW7 := Lib.hid (HK7.out.near HN6.out (by omega) (by omega))
  clear d0 d1 HCu
  go_loopw [7, 29] (fun o i wr => ∃ k : Nat, k ≤ P ∧ i = .int .i64 k ∧ wr.ownsRow w7.heap.size 42 2 o (pks s f k).length (flatC ((pks s f k).map (cubK s))) ∧ Kept (fun b => w7.heap.size ≤ b) w7 wr) (fun _ i _ => P - (intOf i).toNat)
  case atStart => exact ⟨0, Nat.zero_le _, rfl, World.ownsRow_nil _ _ _ _, Kept.refl _ _⟩
  case round =>
    obtain ⟨k, hk, rfl, hown, hkp⟩ := hrel
    obtain ⟨oo, ocap, rfl⟩ := owns_form hown
    have HO := Lib.hid hown
    have HK := Lib.hid hkp
    have hsz := hkp.size
    have N7r := Lib.hid (show Near w7 wr from Kept.mono hkp (fun b hb h => by have h' : w7.heap.size ≤ b := h; omega))
    clear hown hkp
    by_cases hlt : k < P
    · have hlt' : (k : Int) < L.length := by omega
      have hlk := HLk.out k hlt
      have hpk := HPk.out k
      have hln : (pks s f k).length ≤ k := by unfold pks; exact Nat.le_trans (List.length_filter_le _ _) (by simp)
      obtain ⟨g7, cap7', ev, x0, -⟩ := row1 HO7.out (k := k) (u := bv (inK (feats s) (feats s).length f k)) (by rw [List.getElem?_map, hlk]; rfl) (by omega)
      cases ev
      have x1 : wr.cell? ⟨g7, k, none⟩ = some (.bool (inK (feats s) (feats s).length f k)) := N7r.out.cell x0
      have HPkk := Lib.hid hpk
      have HPr2 := Lib.hid (fun (w' : World) (hn : Near wr w') => HPr.out w' _ _ _ (owns_kept HO7.out (N7r.out.trans hn) (R := fun _ => False) (fun _ _ x => x)) k (by omega))
      have HKu2 := Lib.hid (fun (w' : World) (hn : Near wr w') => HKu.out w' (HR7.out.near (N7r.out.trans hn)) k (by omega))
      have hb6 := keepN N7r.out HB7.out
      have c0 : wr.cell? ⟨b5 + 1, 0, none⟩ = some (.slice (some ⟨g7, 0, none⟩) L.length cap7) := cell1 (o := 0) hb6 rfl
      rw [hLl] at HPr2 c0
      clear hlk x0 hpk hb6 e0
      generalize inK (feats s) (feats s).length f k = b1 at x1 HPkk
      generalize primeB L k (feats s).length = b2 at HPkk HPr2
      cases b1 with
      | false =>
        have hpk' : pks s f (k + 1) = pks s f k := by rw [HPkk.out]; simp
        have HP' := Lib.hid hpk'
        clear hpk'
        go_wp2_with fail
        refine ⟨⟨k + 1, by omega, by go_num, ?_, HK.out⟩, by simp [intOf]; omega⟩
        rw [HP'.out]
        exact HO.out
      | true =>
        cases b2 with
        | false =>
          have hpk' : pks s f (k + 1) = pks s f k := by rw [HPkk.out]; simp
          have HP' := Lib.hid hpk'
          clear hpk'
          go_wp2_with (go_at_call 29; refine (HPr2.out _ (by exact Near.refl _)).mono ?_; rintro e w2 ⟨rfl, n2⟩; have N2 := Lib.hid n2; have HO2 := Lib.hid (owns_kept HO.out n2 (R := fun _ => False) (fun _ _ x => x)); clear n2)
          refine ⟨⟨k + 1, by omega, by go_num, ?_, HK.out.trans N2.out.kept⟩, by simp [intOf]; omega⟩
          rw [HP'.out]
          exact HO2.out
        | true =>
          have hpk' : pks s f (k + 1) = pks s f k ++ [k] := by rw [HPkk.out]; simp
          have HP' := Lib.hid hpk'
          clear hpk'
          go_wp2_with (first
            | (go_at_call 29; refine (HPr2.out _ (by exact Near.refl _)).mono ?_; rintro e w2 ⟨rfl, n2⟩; have N2 := Lib.hid n2; have HO2 := Lib.hid (owns_kept HO.out n2 (R := fun _ => False) (fun _ _ x => x)); have hsz2 := n2.size'; clear n2)
            | (go_at_call 30; refine (HKu2.out _ (by exact N2.out)).mono ?_; rintro e w3 ⟨rfl, n3⟩; have N3 := Lib.hid (N2.out.trans n3); have HO3 := Lib.hid (owns_kept HO2.out n3 (R := fun _ => False) (fun _ _ x => x)); have hsz3 := n3.size'; clear n3)
            | (at_builtin; refine wpList_append_in rfl (.tmp 42) (.tmp 46) 29 rfl w7.heap.size 42 i0 (.agg #[.int .u32 0, .int .u32 0]) 2 8 Tryz.underlying29 hi0 hz0 hz1 hz2 rfl (by decide) _ _ _ rfl (by exact HO3.out.alloc _) ⟨w3.heap.size, 0, none⟩ 1 1 [.int .u32 (cubK s k).on, .int .u32 (cubK s k).off] rfl rfl (by exact cell_two_at rfl _ _ _) (by simp [Value.oneCell']) (by unfold maxLen; omega) (by omega) (by simp <;> omega) ?_; intro ao' cap' w4 hown4 hg4 hl4))
          refine ⟨⟨k + 1, by omega, by go_num, ?_, ((HK.out.trans N3.out.kept).alloc _).grown hg4 (ownsRow_base HO3.out)⟩, by simp [intOf]; omega⟩
          rw [HP'.out, List.length_append, List.map_append]
          have hfl : flatC ((pks s f k).map (cubK s) ++ [k].map (cubK s)) = flatC ((pks s f k).map (cubK s)) ++ [.int .u32 (cubK s k).on, .int .u32 (cubK s k).off] := by simp [flatC, encB]
          rw [hfl]
          exact hown4
    · have hkP : k = P := by omega
      have hlt' : ¬ (k : Int) < P := by omega
      subst hkP
      have hlen : ((pks s f k).map (cubK s)).length = (pks s f k).length := by simp
      have hle : (pks s f k).length ≤ k := by unfold pks; exact Nat.le_trans (List.length_filter_le _ _) (by simp)
      obtain ⟨l, hl⟩ : ∃ l, (pks s f k).map (cubK s) = l := ⟨_, rfl⟩
      obtain ⟨n, hn⟩ : ∃ n, (pks s f k).length = n := ⟨_, rfl⟩
      rw [hl, hn] at HO hlen
      rw [hn]
      have HS := Lib.hid (show ∀ w', w' = wr.alloc (.cells #[.func (.func 31) #[] #[]] 70) → Calls Tryz.prog 32 #[.slice oo n ocap, .func (.func 33) #[] #[.pointer (some ⟨wr.heap.size, 0, none⟩)]] w' fun e w'' => e = .returned (.tuple #[]) ∧ ∃ d' : Array Cub, d'.size = n ∧ d'.toList.Perm l ∧ SortedIn (ltOf cmpC) 0 n d' ∧ RdC w'' oo d'.toList ∧ Kept (fun b => w7.heap.size ≤ b) w' w'' from by
        rintro w' rfl
        refine sort_row hlen (HO.out.alloc _) (cell1 (o := 0) (heap_new_at rfl) rfl) ?_ (by omega)
        rintro g rfl
        rcases HO.out.2 with ⟨e, _⟩ | ⟨g', _, _, e, _, hg, _⟩
        · cases e
        · cases e
          have := (Array.getElem?_eq_some_iff.1 hg).1
          omega)
      have HL := Lib.hid hl
      have HN' := Lib.hid hn
      clear hl hn hle e0
      go_wp2_with (go_at_call 32; refine (HS.out _ rfl).mono ?_; rintro e w9 ⟨rfl, d', hd1, hd2, hd3, hd4, hd5⟩)
      subst hd1
      refine bodyPost_ret (v := .tuple #[.slice oo d'.size ocap, .int .i64 0]) (by simp [results, Tryz.results7, go_sem]) rfl ⟨oo, ocap, d', rfl, hd4, ?_, hd3, NW7.out.trans (Kept.mono ((HK.out.alloc _).trans hd5) (fun b hb h => by have h' : w7.heap.size ≤ b := h; omega))⟩
      rw [HPP.out, HL.out]
      exact hd2

end Go.Proofs.YtefclohjeompkaaGreat

/- PrimM: what is needed of it. -/
namespace Go.Proofs.YtefclohjeompkaaGreat
open Go Go.RowKit Go.Shelf Go.Sort Go.Proofs.Gen Go.Proofs.Bdd Go.Proofs.Bdd.T
theorem mtK_sub {s k1 k2 : Nat} (h : ∀ j, j < (feats s).length → dig k2 j ≠ 0 → dig k1 j = dig k2 j) {c : Nat → Bool} (hc : mtK (feats s) (feats s).length k1 c) : mtK (feats s) (feats s).length k2 c := fun j hj => by
  refine ⟨fun h1 => (hc j hj).1 ?_, fun h1 => (hc j hj).2 ?_⟩
  · rw [h j hj (by omega), h1]
  · rw [h j hj (by omega), h1]

/-- The configuration of a cube that has all else on. -/
theorem mtK_max (s k : Nat) : mtK (feats s) (feats s).length k fun i => !(kOff (feats s) k (feats s).length).testBit i := by
  intro j hj
  constructor
  · intro h1
    have : (kOff (feats s) k (feats s).length).testBit ((feats s).getD j 0) = true := (kOff_bit _ _).2 ⟨j, hj, h1, rfl⟩
    simp only [this, Bool.not_true]
  · intro h1
    have : (kOff (feats s) k (feats s).length).testBit ((feats s).getD j 0) = false := by
      refine Bool.eq_false_iff.2 fun hb => ?_
      obtain ⟨j', hj', h2, e⟩ := (kOff_bit _ _).1 hb
      obtain rfl := feats_inj hj' hj e
      omega
    simp only [this, Bool.not_false]

theorem mtK_all {s k1 k2 : Nat} (h : ∀ c, mtK (feats s) (feats s).length k1 c → mtK (feats s) (feats s).length k2 c) : ∀ j, j < (feats s).length → dig k2 j ≠ 0 → dig k1 j = dig k2 j := by
  intro j hj h0
  have h3 := dig_lt3 k2 j
  by_cases h2 : dig k2 j = 2
  · have h4 := ((h _ (mtK_min s k1)) j hj).2 h2
    obtain ⟨j', hj', h5, e⟩ := (kOn_bit _ _).1 h4
    obtain rfl := feats_inj hj' hj e
    rw [h5, h2]
  · have h1 : dig k2 j = 1 := by omega
    have h4 := ((h _ (mtK_max s k1)) j hj).1 h1
    have h4' : (kOff (feats s) k1 (feats s).length).testBit ((feats s).getD j 0) = true := by simpa using h4
    obtain ⟨j', hj', h5, e⟩ := (kOff_bit _ _).1 h4'
    obtain rfl := feats_inj hj' hj e
    rw [h5, h1]

/-- Two prime cubes: neither lies in the other. -/
theorem prime_apart {s : Nat} {f : F} {k1 k2 : Nat} (h1 : k1 ∈ pks s f (3 ^ (feats s).length)) (h2 : k2 ∈ pks s f (3 ^ (feats s).length)) (hne : k1 ≠ k2) : ∃ c, mtK (feats s) (feats s).length k1 c ∧ ¬ mtK (feats s) (feats s).length k2 c := by
  refine Classical.byContradiction fun hno => ?_
  have hall : ∀ c, mtK (feats s) (feats s).length k1 c → mtK (feats s) (feats s).length k2 c := fun c hc => Classical.byContradiction fun hn => hno ⟨c, hc, hn⟩
  have hd := mtK_all hall
  obtain ⟨l1, i1, p1⟩ := mem_pks.1 h1
  obtain ⟨l2, i2, p2⟩ := mem_pks.1 h2
  have hex : ∃ j, j < (feats s).length ∧ dig k1 j ≠ dig k2 j := Classical.byContradiction fun hn => hne (dig_ext l1 l2 fun j hj => Classical.byContradiction fun he => hn ⟨j, hj, he⟩)
  obtain ⟨j, hj, hdj⟩ := hex
  have h20 : dig k2 j = 0 := Classical.byContradiction fun h => hdj (hd j hj h)
  refine p1 j hj (by omega) fun c hc => i2 c (mtK_sub (fun i hi h0 => ?_) hc)
  rw [dig_numOf (dropD_lt3 _ _) _ i hi, dropD, if_neg (fun e => h0 (by rw [e, h20]))]
  exact hd i hi h0

end Go.Proofs.YtefclohjeompkaaGreat

/- PrimN: what is needed of it. -/
namespace Go.Proofs.YtefclohjeompkaaGreat
open Go Go.RowKit Go.Shelf Go.Sort Go.Proofs.Gen Go.Proofs.Bdd Go.Proofs.Bdd.T
/-- A bit taken away. -/
def clr (a i : Nat) : Nat := a ^^^ (a &&& 2 ^ i)

theorem clr_bit (a i j : Nat) : (clr a i).testBit j = (a.testBit j && !decide (i = j)) := by
  unfold clr
  rw [Nat.testBit_xor, Nat.testBit_and, Nat.testBit_two_pow]
  cases a.testBit j <;> cases decide (i = j) <;> rfl

/-- Some features of a list alone. -/
def OfV (s a : Nat) : Prop := ∀ i, a.testBit i = true → i ∈ feats s

/-- The digits of a cube. -/
def digX (s on off : Nat) : Nat → Nat := fun j => if on.testBit ((feats s).getD j 0) = true then 2 else if off.testBit ((feats s).getD j 0) = true then 1 else 0

theorem digX_lt3 (s on off j : Nat) : digX s on off j < 3 := by
  unfold digX
  split
  · omega
  · split <;> omega

/-- The number of a cube. -/
def numX (s on off : Nat) : Nat := numOf (digX s on off) (feats s).length

theorem numX_lt (s on off : Nat) : numX s on off < 3 ^ (feats s).length := numOf_lt (digX_lt3 s on off) _

theorem kOn_numX {s on off : Nat} (h1 : OfV s on) : kOn (feats s) (numX s on off) (feats s).length = on := by
  refine Nat.eq_of_testBit_eq fun i => Bool.eq_iff_iff.2 ?_
  rw [kOn_bit]
  constructor
  · rintro ⟨j, hj, hd, rfl⟩
    rw [numX, dig_numOf (digX_lt3 s on off) _ j hj] at hd
    unfold digX at hd
    split at hd
    · assumption
    · split at hd <;> cases hd
  · intro hb
    obtain ⟨j, hj, rfl⟩ := List.mem_iff_getElem.1 (h1 i hb) |> fun ⟨j, hj, e⟩ => (⟨j, hj, by rw [List.getD_eq_getElem?_getD, List.getElem?_eq_getElem hj]; simpa using e⟩ : ∃ j, j < (feats s).length ∧ (feats s).getD j 0 = i)
    exact ⟨j, hj, by rw [numX, dig_numOf (digX_lt3 s on off) _ j hj, digX, if_pos hb], rfl⟩

theorem kOff_numX {s on off : Nat} (h2 : OfV s off) (h3 : ∀ i, on.testBit i = true → off.testBit i = false) : kOff (feats s) (numX s on off) (feats s).length = off := by
  refine Nat.eq_of_testBit_eq fun i => Bool.eq_iff_iff.2 ?_
  rw [kOff_bit]
  constructor
  · rintro ⟨j, hj, hd, rfl⟩
    rw [numX, dig_numOf (digX_lt3 s on off) _ j hj] at hd
    unfold digX at hd
    split at hd
    · cases hd
    · split at hd
      · assumption
      · cases hd
  · intro hb
    obtain ⟨j, hj, rfl⟩ := List.mem_iff_getElem.1 (h2 i hb) |> fun ⟨j, hj, e⟩ => (⟨j, hj, by rw [List.getD_eq_getElem?_getD, List.getElem?_eq_getElem hj]; simpa using e⟩ : ∃ j, j < (feats s).length ∧ (feats s).getD j 0 = i)
    refine ⟨j, hj, ?_, rfl⟩
    rw [numX, dig_numOf (digX_lt3 s on off) _ j hj, digX, if_neg, if_pos hb]
    intro h
    rw [h3 _ h] at hb
    cases hb

/-- A prime cube, as the document says it. -/
def PrimeX (s : Nat) (f : F) (on off : Nat) : Prop :=
  (∀ c, cubeF on off c = true → f c = true) ∧ ∀ j, j < (feats s).length → (on.testBit ((feats s).getD j 0) = true ∨ off.testBit ((feats s).getD j 0) = true) → ¬ ∀ c, cubeF (clr on ((feats s).getD j 0)) (clr off ((feats s).getD j 0)) c = true → f c = true

theorem ofV_k (s k : Nat) : OfV s (kOn (feats s) k (feats s).length) ∧ OfV s (kOff (feats s) k (feats s).length) := by
  constructor
  · intro i hb
    obtain ⟨j, hj, _, rfl⟩ := (kOn_bit _ _).1 hb
    exact feats_at hj
  · intro i hb
    obtain ⟨j, hj, _, rfl⟩ := (kOff_bit _ _).1 hb
    exact feats_at hj

theorem k_apart (s k i : Nat) (h : (kOn (feats s) k (feats s).length).testBit i = true) : (kOff (feats s) k (feats s).length).testBit i = false := by
  obtain ⟨j, hj, hd, rfl⟩ := (kOn_bit _ _).1 h
  refine Bool.eq_false_iff.2 fun hb => ?_
  obtain ⟨j', hj', hd', e⟩ := (kOff_bit _ _).1 hb
  obtain rfl := feats_inj hj' hj e
  omega

theorem on_drop {s k j : Nat} (hj : j < (feats s).length) : kOn (feats s) (numOf (dropD (dig k) j) (feats s).length) (feats s).length = clr (kOn (feats s) k (feats s).length) ((feats s).getD j 0) := by
  refine Nat.eq_of_testBit_eq fun i => Bool.eq_iff_iff.2 ?_
  rw [kOn_bit, clr_bit, Bool.and_eq_true, kOn_bit]
  constructor
  · rintro ⟨m, hm, hd, rfl⟩
    rw [dig_numOf (dropD_lt3 _ _) _ m hm, dropD] at hd
    split at hd
    · cases hd
    · rename_i hne
      refine ⟨⟨m, hm, hd, rfl⟩, ?_⟩
      simp only [Bool.not_eq_true', decide_eq_false_iff_not]
      exact fun e => hne (feats_inj hj hm e).symm
  · rintro ⟨⟨m, hm, hd, rfl⟩, hne⟩
    simp only [Bool.not_eq_true', decide_eq_false_iff_not] at hne
    refine ⟨m, hm, ?_, rfl⟩
    rw [dig_numOf (dropD_lt3 _ _) _ m hm, dropD, if_neg (fun e => hne (by rw [e])), hd]

theorem off_drop {s k j : Nat} (hj : j < (feats s).length) : kOff (feats s) (numOf (dropD (dig k) j) (feats s).length) (feats s).length = clr (kOff (feats s) k (feats s).length) ((feats s).getD j 0) := by
  refine Nat.eq_of_testBit_eq fun i => Bool.eq_iff_iff.2 ?_
  rw [kOff_bit, clr_bit, Bool.and_eq_true, kOff_bit]
  constructor
  · rintro ⟨m, hm, hd, rfl⟩
    rw [dig_numOf (dropD_lt3 _ _) _ m hm, dropD] at hd
    split at hd
    · cases hd
    · rename_i hne
      refine ⟨⟨m, hm, hd, rfl⟩, ?_⟩
      simp only [Bool.not_eq_true', decide_eq_false_iff_not]
      exact fun e => hne (feats_inj hj hm e).symm
  · rintro ⟨⟨m, hm, hd, rfl⟩, hne⟩
    simp only [Bool.not_eq_true', decide_eq_false_iff_not] at hne
    refine ⟨m, hm, ?_, rfl⟩
    rw [dig_numOf (dropD_lt3 _ _) _ m hm, dropD, if_neg (fun e => hne (by rw [e])), hd]

theorem inC_cub {s k : Nat} {f : F} : InC s f k ↔ ∀ c, cubeF (kOn (feats s) k (feats s).length) (kOff (feats s) k (feats s).length) c = true → f c = true := by
  unfold InC
  exact forall_congr' fun c => imp_congr (mtK_cub c).symm Iff.rfl

theorem pks_primeX {s : Nat} {f : F} {k : Nat} (hk : k < 3 ^ (feats s).length) : k ∈ pks s f (3 ^ (feats s).length) ↔ PrimeX s f (kOn (feats s) k (feats s).length) (kOff (feats s) k (feats s).length) := by
  rw [mem_pks, inC_cub]
  unfold PrimeX
  constructor
  · rintro ⟨-, h1, h2⟩
    refine ⟨h1, fun j hj hb hin => h2 j hj ?_ ?_⟩
    · rcases hb with hb | hb
      · obtain ⟨m, hm, hd, e⟩ := (kOn_bit _ _).1 hb
        obtain rfl := feats_inj hm hj e
        omega
      · obtain ⟨m, hm, hd, e⟩ := (kOff_bit _ _).1 hb
        obtain rfl := feats_inj hm hj e
        omega
    · rw [inC_cub, on_drop hj, off_drop hj]
      exact hin
  · rintro ⟨h1, h2⟩
    refine ⟨hk, h1, fun j hj h0 hin => h2 j hj ?_ ?_⟩
    · have := dig_lt3 k j
      by_cases e : dig k j = 2
      · exact .inl ((kOn_bit _ _).2 ⟨j, hj, e, rfl⟩)
      · exact .inr ((kOff_bit _ _).2 ⟨j, hj, by omega, rfl⟩)
    · rw [inC_cub, on_drop hj, off_drop hj] at hin
      exact hin

/-- A cube is listed if and only if the document says so. -/
theorem mem_cubs {s : Nat} {f : F} {x : Cub} : x ∈ (pks s f (3 ^ (feats s).length)).map (cubK s) ↔ OfV s x.on ∧ OfV s x.off ∧ (∀ i, x.on.testBit i = true → x.off.testBit i = false) ∧ PrimeX s f x.on x.off := by
  rw [List.mem_map]
  constructor
  · rintro ⟨k, hk, rfl⟩
    exact ⟨(ofV_k s k).1, (ofV_k s k).2, fun i => k_apart s k i, (pks_primeX (mem_pks.1 hk).1).1 hk⟩
  · rintro ⟨h1, h2, h3, h4⟩
    refine ⟨numX s x.on x.off, (pks_primeX (numX_lt _ _ _)).2 ?_, ?_⟩
    · rw [kOn_numX h1, kOff_numX h2 h3]
      exact h4
    · exact Cub.eq (kOn_numX h1) (kOff_numX h2 h3)

theorem cubs_nodup (s : Nat) (f : F) : ((pks s f (3 ^ (feats s).length)).map (cubK s)).Nodup := by
  rw [List.Nodup, List.pairwise_map]
  refine List.Pairwise.imp_of_mem ?_ (pks_nodup s f (3 ^ (feats s).length))
  intro a b ha hb hne e
  obtain ⟨c, h1, h2⟩ := prime_apart ha hb hne
  rw [← mtK_cub, e, mtK_cub] at h1
  exact h2 h1

end Go.Proofs.YtefclohjeompkaaGreat

/- PrimO: what is needed of it. -/
namespace Go.Proofs.YtefclohjeompkaaGreat
open Go Go.RowKit Go.Shelf Go.Sort Go.Proofs.Gen Go.Proofs.Bdd Go.Proofs.Bdd.T
/-- A cube put in its place. -/
def insC (x : Cub) : List Cub → List Cub
  | [] => [x]
  | y :: l => if cubLt y x then y :: insC x l else x :: y :: l

/-- Cubes, each put in its place. -/
def sortL (l : List Cub) : List Cub := l.foldl (fun o x => insC x o) []

theorem insC_perm (x : Cub) : ∀ l, (insC x l).Perm (x :: l)
  | [] => .refl _
  | y :: l => by
    unfold insC
    split
    · exact ((insC_perm x l).cons y).trans (.swap x y l)
    · exact .refl _

theorem insC_sorted (x : Cub) : ∀ l : List Cub, l.Pairwise (fun a b => ¬ cubLt b a) → (insC x l).Pairwise (fun a b => ¬ cubLt b a)
  | [], _ => by simp [insC]
  | y :: l, h => by
    rw [List.pairwise_cons] at h
    unfold insC
    split
    · rename_i hy
      rw [List.pairwise_cons]
      refine ⟨fun b hb => ?_, insC_sorted x l h.2⟩
      rcases List.mem_cons.1 ((insC_perm x l).mem_iff.1 hb) with rfl | hb
      · unfold cubLt at *; omega
      · exact h.1 b hb
    · rename_i hy
      rw [List.pairwise_cons]
      refine ⟨fun b hb => ?_, List.pairwise_cons.2 h⟩
      rcases List.mem_cons.1 hb with rfl | hb
      · exact hy
      · have := h.1 b hb
        unfold cubLt at *; omega

theorem insC_at (x : Cub) : ∀ (l : List Cub) (n : Nat), n ≤ l.length → (∀ j, j < n → cubLt (l.getD j default) x) → (n < l.length → ¬ cubLt (l.getD n default) x) → insC x l = l.take n ++ x :: l.drop n
  | [], n, h, _, _ => by
    obtain rfl : n = 0 := by simpa using h
    rfl
  | y :: l, 0, _, _, h2 => by
    have : ¬ cubLt y x := h2 (by simp)
    simp [insC, this]
  | y :: l, n + 1, h, h1, h2 => by
    have h0 : cubLt y x := h1 0 (by omega)
    have ih := insC_at x l n (by simpa using h) (fun j hj => h1 (j + 1) (by omega)) (fun hn => h2 (by simpa using hn))
    simp [insC, h0, ih]

theorem foldI_perm : ∀ (l o : List Cub), (l.foldl (fun o x => insC x o) o).Perm (o ++ l)
  | [], o => by simp
  | x :: l, o => by
    rw [List.foldl_cons]
    refine (foldI_perm l (insC x o)).trans (((insC_perm x o).append_right l).trans ?_)
    exact (List.perm_middle (l₁ := o)).symm

theorem foldI_sorted : ∀ (l o : List Cub), o.Pairwise (fun a b => ¬ cubLt b a) → (l.foldl (fun o x => insC x o) o).Pairwise (fun a b => ¬ cubLt b a)
  | [], o, h => h
  | x :: l, o, h => by
    rw [List.foldl_cons]
    exact foldI_sorted l _ (insC_sorted x o h)

theorem sortL_perm (l : List Cub) : (sortL l).Perm l := foldI_perm l []

theorem sortL_sorted (l : List Cub) : (sortL l).Pairwise (fun a b => ¬ cubLt b a) := foldI_sorted l [] .nil

theorem sortL_take {l : List Cub} {n : Nat} (h : n < l.length) : sortL (l.take (n + 1)) = insC (l.getD n default) (sortL (l.take n)) := by
  unfold sortL
  rw [List.take_add_one, List.foldl_append, List.getElem?_eq_getElem h, List.getD_eq_getElem?_getD, List.getElem?_eq_getElem h]
  rfl

theorem sortL_len (l : List Cub) : (sortL l).length = l.length := (sortL_perm l).length_eq

/-- Does a cube lie in a set? -/
noncomputable def insB (f : F) (on off : Nat) : Bool := nowhere (fun c => cubeF on off c && !f c)

theorem insB_iff {f : F} {on off : Nat} : insB f on off = true ↔ ∀ c, cubeF on off c = true → f c = true := by
  unfold insB
  rw [nowhere_iff]
  refine forall_congr' fun c => ?_
  cases cubeF on off c <;> cases f c <;> simp

/-- Does none lie in it that has one feature less, of the first ones? -/
noncomputable def leastTo (V : List Nat) (f : F) (on off j : Nat) : Bool := (List.range j).all fun i => !((on ||| off).testBit (V.getD i 0) && insB f (clr on (V.getD i 0)) (clr off (V.getD i 0)))

theorem leastTo_succ (V : List Nat) (f : F) (on off j : Nat) : leastTo V f on off (j + 1) = (leastTo V f on off j && !((on ||| off).testBit (V.getD j 0) && insB f (clr on (V.getD j 0)) (clr off (V.getD j 0)))) := by
  unfold leastTo
  rw [List.range_succ, List.all_append]
  simp

theorem leastTo_iff {V : List Nat} {f : F} {on off j : Nat} : leastTo V f on off j = true ↔ ∀ i, i < j → (on.testBit (V.getD i 0) = true ∨ off.testBit (V.getD i 0) = true) → ¬ ∀ c, cubeF (clr on (V.getD i 0)) (clr off (V.getD i 0)) c = true → f c = true := by
  unfold leastTo
  rw [List.all_eq_true]
  refine forall_congr' fun i => ?_
  rw [List.mem_range, Bool.not_eq_true', Bool.and_eq_false_iff, Nat.testBit_or]
  refine imp_congr_right fun _ => ?_
  rw [← insB_iff, Bool.not_eq_true, Bool.or_eq_false_iff]
  constructor
  · rintro (⟨h1, h2⟩ | h) (h3 | h3)
    · rw [h1] at h3; cases h3
    · rw [h2] at h3; cases h3
    · exact h
    · exact h
  · intro h
    by_cases h1 : on.testBit (V.getD i 0) = true
    · exact .inr (h (.inl h1))
    · by_cases h2 : off.testBit (V.getD i 0) = true
      · exact .inr (h (.inr h2))
      · exact .inl ⟨by simpa using h1, by simpa using h2⟩

/-- Is a pair listed? -/
noncomputable def keepR (V : List Nat) (f : F) (k m : Nat) : Bool := decide (cfg V k &&& cfg V m = 0) && insB f (cfg V k) (cfg V m) && leastTo V f (cfg V k) (cfg V m) V.length

/-- The cube of a pair. -/
def cubR (s k m : Nat) : Cub := ⟨cfg (feats s) k, cfg (feats s) m, cfg_lt (feats_rising s) k, cfg_lt (feats_rising s) m⟩

noncomputable def rowR (s : Nat) (f : F) (k m : Nat) : List Cub := ((List.range m).filter (keepR (feats s) f k)).map fun m => cubR s k m

noncomputable def listR (s : Nat) (f : F) (K : Nat) : List Cub := (List.range K).flatMap fun k => rowR s f k (2 ^ (feats s).length)

theorem rowR_zero (s : Nat) (f : F) (k : Nat) : rowR s f k 0 = [] := rfl

theorem rowR_succ (s : Nat) (f : F) (k m : Nat) : rowR s f k (m + 1) = rowR s f k m ++ if keepR (feats s) f k m = true then [cubR s k m] else [] := by
  unfold rowR
  rw [List.range_succ, List.filter_append, List.map_append]
  congr 1
  simp only [List.filter_cons, List.filter_nil]
  split <;> rfl

theorem listR_succ (s : Nat) (f : F) (K : Nat) : listR s f (K + 1) = listR s f K ++ rowR s f K (2 ^ (feats s).length) := by
  unfold listR
  rw [List.range_succ, List.flatMap_append]
  simp

theorem rowR_len (s : Nat) (f : F) (k m : Nat) : (rowR s f k m).length ≤ m := by
  unfold rowR
  rw [List.length_map]
  exact Nat.le_trans (List.length_filter_le _ _) (by simp)

theorem listR_len (s : Nat) (f : F) : ∀ K, (listR s f K).length ≤ K * 2 ^ (feats s).length
  | 0 => by simp [listR]
  | K + 1 => by
    have := listR_len s f K
    have := rowR_len s f K (2 ^ (feats s).length)
    rw [listR_succ, List.length_append, Nat.succ_mul]
    omega

theorem apart_iff {a b : Nat} : a &&& b = 0 ↔ ∀ i, a.testBit i = true → b.testBit i = false := by
  constructor
  · intro h i hi
    have : (a &&& b).testBit i = false := by rw [h]; simp
    rw [Nat.testBit_and, hi] at this
    simpa using this
  · intro h
    refine Nat.eq_of_testBit_eq fun i => ?_
    rw [Nat.testBit_and, Nat.zero_testBit]
    cases hi : a.testBit i
    · rfl
    · rw [h i hi]; rfl

theorem cfg_ofV (s : Nat) {k : Nat} (hk : k < 2 ^ (feats s).length) : OfV s (cfg (feats s) k) := by
  intro i hi
  rw [cfg_bit (feats_rising s), ← idx_cfg (feats_rising s) hk, bitOf_idx, Bool.and_eq_true] at hi
  simpa using hi.1

theorem ofV_cfg {s a : Nat} (h : OfV s a) : cfg (feats s) (idx (feats s) a.testBit) = a := by
  refine Nat.eq_of_testBit_eq fun i => ?_
  rw [cfg_bit (feats_rising s), bitOf_idx]
  cases hi : a.testBit i
  · simp
  · simp [h i hi]

theorem keepR_iff {s : Nat} {f : F} {k m : Nat} : keepR (feats s) f k m = true ↔ (∀ i, (cfg (feats s) k).testBit i = true → (cfg (feats s) m).testBit i = false) ∧ PrimeX s f (cfg (feats s) k) (cfg (feats s) m) := by
  unfold keepR PrimeX
  rw [Bool.and_eq_true, Bool.and_eq_true, decide_eq_true_iff, apart_iff, insB_iff, leastTo_iff, and_assoc]

theorem mem_listR {s : Nat} {f : F} {x : Cub} : x ∈ listR s f (2 ^ (feats s).length) ↔ OfV s x.on ∧ OfV s x.off ∧ (∀ i, x.on.testBit i = true → x.off.testBit i = false) ∧ PrimeX s f x.on x.off := by
  unfold listR rowR
  simp only [List.mem_flatMap, List.mem_map, List.mem_filter, List.mem_range]
  constructor
  · rintro ⟨k, hk, m, ⟨hm, hkeep⟩, rfl⟩
    exact ⟨cfg_ofV s hk, cfg_ofV s hm, (keepR_iff.1 hkeep).1, (keepR_iff.1 hkeep).2⟩
  · rintro ⟨h1, h2, h3, h4⟩
    have e1 := ofV_cfg h1
    have e2 := ofV_cfg h2
    refine ⟨_, idx_lt _ _, _, ⟨idx_lt _ _, keepR_iff.2 ?_⟩, Cub.eq e1 e2⟩
    rw [e1, e2]
    exact ⟨h3, h4⟩

theorem cfg_inj {s k m : Nat} (hk : k < 2 ^ (feats s).length) (hm : m < 2 ^ (feats s).length) (h : cfg (feats s) k = cfg (feats s) m) : k = m := by
  rw [← idx_cfg (feats_rising s) hk, ← idx_cfg (feats_rising s) hm, h]

theorem listR_nodup (s : Nat) (f : F) : (listR s f (2 ^ (feats s).length)).Nodup := by
  unfold listR
  rw [List.Nodup, List.pairwise_flatMap]
  constructor
  · intro k _
    unfold rowR
    rw [List.pairwise_map]
    refine List.Pairwise.imp_of_mem ?_ (List.Pairwise.filter _ (List.nodup_range (n := 2 ^ (feats s).length)))
    intro a b ha hb hne e
    refine hne (cfg_inj (by simpa using (List.mem_filter.1 ha).1) (by simpa using (List.mem_filter.1 hb).1) ?_)
    exact congrArg Cub.off e
  · refine List.Pairwise.imp_of_mem ?_ (List.nodup_range (n := 2 ^ (feats s).length))
    intro a b ha hb hne x hx y hy e
    unfold rowR at hx hy
    obtain ⟨m, _, rfl⟩ := List.mem_map.1 hx
    obtain ⟨m', _, e'⟩ := List.mem_map.1 hy
    refine hne (cfg_inj (by simpa using ha) (by simpa using hb) ?_)
    have := congrArg Cub.on (e.trans e'.symm)
    exact this

/-- The program's list is the reference's. -/
theorem primes_same {s : Nat} {f : F} {d : Array Cub} (hp : d.toList.Perm ((pks s f (3 ^ (feats s).length)).map (cubK s))) (hs : SortedIn (ltOf cmpC) 0 d.size d) : d.toList = sortL (listR s f (2 ^ (feats s).length)) := by
  refine sorted_only (hp.trans (List.Perm.trans ?_ (sortL_perm _).symm)) hs (sortL_sorted _)
  exact (List.perm_ext_iff_of_nodup (cubs_nodup s f) (listR_nodup s f)).2 fun x => mem_cubs.trans mem_listR.symm

end Go.Proofs.YtefclohjeompkaaGreat

/- ClrB: what is needed of it. -/
namespace Go.Proofs.YtefclohjeompkaaGreat
open Go Go.RowKit Go.Shelf Go.Sort Go.Proofs.Gen Go.Proofs.Bdd Go.Proofs.Bdd.T
theorem clr_lt {a i n : Nat} (h : a < 2 ^ n) : clr a i < 2 ^ n := by
  refine Nat.lt_pow_two_of_testBit _ fun j hj => ?_
  rw [clr_bit, Nat.testBit_lt_two_pow (Nat.lt_of_lt_of_le h (Nat.pow_le_pow_right (by omega) hj))]
  rfl

theorem andNot_bit {a i : Nat} (ha : a < 4294967296) (hi : i < 32) : bits .andNot .u32 (a : Int) ((2 ^ i : Nat) : Int) = ((clr a i : Nat) : Int) := by
  have hp : 2 ^ i < 4294967296 := by
    have : 2 ^ i < 2 ^ 32 := Nat.pow_lt_pow_right (by omega) hi
    simpa using this
  rw [u32_andNot_nat a (2 ^ i) ha hp]
  congr 1
  refine Nat.eq_of_testBit_eq fun j => ?_
  rw [Nat.testBit_and, clr_bit, show 4294967295 - 2 ^ i = 2 ^ 32 - (2 ^ i + 1) by omega, Nat.testBit_two_pow_sub_succ (by simpa using hp), Nat.testBit_two_pow]
  by_cases hj : j < 32
  · simp [hj]
  · have : a.testBit j = false := Nat.testBit_lt_two_pow (Nat.lt_of_lt_of_le ha (by rw [show 4294967296 = 2 ^ 32 from rfl]; exact Nat.pow_le_pow_right (by omega) (by omega)))
    simp [this]

theorem and_bit_pos {s i : Nat} (hs : s < 4294967296) (hi : i < 32) : decide ((0 : Int) < bits .and .u32 (s : Int) ((2 ^ i : Nat) : Int)) = s.testBit i := by
  have hp : 2 ^ i < 4294967296 := by
    have : 2 ^ i < 2 ^ 32 := Nat.pow_lt_pow_right (by omega) hi
    simpa using this
  have e : s &&& 2 ^ i = if s.testBit i = true then 2 ^ i else 0 := by
    refine Nat.eq_of_testBit_eq fun j => ?_
    rw [Nat.testBit_and, Nat.testBit_two_pow]
    by_cases h : i = j
    · subst h
      cases s.testBit i <;> simp
    · have : (if s.testBit i = true then 2 ^ i else 0).testBit j = false := by split <;> simp [h]
      rw [this]
      simp [h]
  rw [Go.Proofs.Gen.u32_and s (2 ^ i) hs hp, e]
  have := Nat.two_pow_pos i
  cases s.testBit i
  · simp
  · simp only [if_true, decide_eq_true_eq]
    omega

end Go.Proofs.YtefclohjeompkaaGreat
