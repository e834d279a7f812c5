/- Parts of a proof: SeqB, BothA. -/
import Derived.Maps.OwnSet
import Derived.WalkKit
import Derived.Deep.QuietTactic
import Derived.Test.YtefclohjeompkaaGreatProg
import Derived.KernelRfl
import Derived.DeepKeys4
import Derived.Deep.RegionLaw
import Derived.StillTailTactics
import Derived.Maps.AppendAt
import Derived.WalkSpells
import Derived.WalkLawsBesides
import Derived.BigQuiet
import Derived.Lib.Hide
import Derived.Deep.DeepCutAuto
import Derived.Laws.EntriesVeiled
import Derived.Deep.RegionHeld3
import Derived.Laws.OwnMore
import Derived.Deep.Slices
import Derived.Lib.BitFns
import Derived.IntWalk
import Derived.RangeFuncNested
import Derived.RangeFuncBound
import Derived.RangeFuncCalls
import Derived.RangeFuncLeaves
import Derived.Shelf.Abstract
import Derived.Shelf.RegionOpen
import Derived.OwnWalkIn
import Derived.TacticsInMore
import Derived.LoopNIn
import Derived.LoopIn
import Derived.Laws.CopyOwn
import Derived.Laws.BitsAllLaws
import Derived.Test.YtefclohjeompkaaGreatKTreeC
import Derived.Test.YtefclohjeompkaaGreatKRep
import Derived.Test.YtefclohjeompkaaGreatKJoinD
import Derived.Test.YtefclohjeompkaaGreatKCmpA
import Derived.Test.YtefclohjeompkaaGreatKRefH
import Derived.Test.YtefclohjeompkaaGreatKOfB
import Derived.Test.YtefclohjeompkaaGreatKAlike
import Derived.Test.YtefclohjeompkaaGreatKColl
import Derived.Test.YtefclohjeompkaaGreatKBetA
import Derived.Test.YtefclohjeompkaaGreatKBetB
import Derived.Test.YtefclohjeompkaaGreatKLinF
import Derived.Test.YtefclohjeompkaaGreatKLinH
import Derived.Test.YtefclohjeompkaaGreatKLinJ
import Derived.Test.YtefclohjeompkaaGreatKSteps3
import Derived.Test.YtefclohjeompkaaGreatKFAll
import Derived.Test.YtefclohjeompkaaGreatKOpenA
import Derived.Test.YtefclohjeompkaaGreatKRefW
import Derived.Test.YtefclohjeompkaaGreatKPrimB
import Derived.Test.YtefclohjeompkaaGreatKSaidB
/- SeqB: what is needed of it. -/
namespace Go.Proofs.YtefclohjeompkaaGreat
open Go Go.RowKit Go.Proofs.Gen Go.Proofs.Bdd Go.Proofs.Bdd.T
theorem OnlyOf.block {e e' : TypeId} {w w' : World} {b : Nat} {cs : Array Value} {fr : Nat × Nat} (h : OnlyOf e w w') (hb : w.heap[b]? = some (.cells cs e' fr)) (hne : e' ≠ e) : w'.heap[b]? = some (.cells cs e' fr) := by
  obtain ⟨R, hk, hR⟩ := h
  refine (hk.block b (Array.getElem?_eq_some_iff.1 hb).1 fun hr => ?_).trans hb
  obtain ⟨cur, fr', hc⟩ := hR b (Array.getElem?_eq_some_iff.1 hb).1 hr
  rw [hb] at hc
  cases hc
  exact hne rfl

theorem Sets.only {e e' : TypeId} {Is : World → Value → F → Prop} {b : Nat} {w w' : World} {x : Value} {fs : List F} (h : Sets e Is b w x fs) (ho : OnlyOf e' w w') (hne : e ≠ e') (hi : ∀ v f, Is w v f → Is w' v f) : Sets e Is b w' x fs := by
  obtain ⟨vs, hr, hl, his⟩ := h
  exact ⟨vs, ho.owns hne hr, hl, fun j f p h1 h2 => hi _ _ (his j f p h1 h2)⟩

end Go.Proofs.YtefclohjeompkaaGreat

/- BothA: what is needed of it. -/
namespace Go.Proofs.YtefclohjeompkaaGreat
open Go Go.RowKit Go.Proofs.Gen Go.Proofs.Bdd Go.Proofs.Bdd.T
set_option maxRecDepth 100000 in
set_option maxHeartbeats 6400000 in
theorem both_calls2 {w : World} {v : Value} {l : List SOp} (h : RdOps w v l) (hl : l.length ≤ 1000) (h40 : ∀ x ∈ l, x.ls.length ≤ 40) :
    Calls Tryz.prog 6 #[v] w fun e w' => ∃ sv tv, e = .returned (.tuple #[sv, tv, .bool true]) ∧ Sets 34 IsF w.heap.size w' sv (makeF l) ∧ Sets 39 IsG w.heap.size w' tv (makeF l) ∧ Near w w' := by
  obtain ⟨i0, hi0, hz0, hz1, hz2⟩ := info_parts info31
  obtain ⟨i7, hi7, hy0, hy1, hy2⟩ := info_parts info37
  have HL := Lib.hid h
  have H40 := Lib.hid h40
  obtain ⟨ao, cap, rfl, -⟩ := h
  clear h40
  go_enter Tryz.func6, Tryz.ntmps6
  go_wp2_with (go_at_call 20; refine (const_g false _).mono ?_; rintro e w1 ⟨v1, rfl, d1, n1⟩; obtain ⟨r1, r2, r3, r4, r5, r6, rfl⟩ := d1.form; have HD1 := Lib.hid d1; have HN1 := Lib.hid n1; clear d1 n1)
  have hs0 : Sets 34 IsF w.heap.size (w.alloc (.cells #[.slice none 0 0, .int .i64 0] 34)) (.slice (some ⟨w.heap.size, 0, none⟩) 1 1) (makeF (l.take 0)) := by
    refine ⟨[(.slice none 0 0, .int .i64 0)], ⟨rfl, .inr ⟨w.heap.size, 1, #[.slice none 0 0, .int .i64 0], rfl, Nat.le_refl _, heap_new_at rfl, Nat.le_refl _, by unfold maxLen; omega, rfl, rfl⟩⟩, rfl, fun j f p h1 h2 => ?_⟩
    match j, h1, h2 with
    | 0, h1, h2 =>
      simp [makeF] at h1 h2
      subst h1
      subst h2
      exact ⟨.leaf false, ⟨trivial, .slice none 0 0, rfl, World.ownsRow_nil _ _ _ _⟩, fun _ => rfl⟩
    | j + 1, h1, h2 => simp at h2
  have hs1 := hs0.map (HN1.out.alloc (.cells #[.slice r1 r2 r3, .slice r4 r5 r6] 39)) (fun _ _ h => h.near (HN1.out.alloc _))
  have ht0 : Sets 39 IsG w.heap.size (w1.alloc (.cells #[.slice r1 r2 r3, .slice r4 r5 r6] 39)) (.slice (some ⟨w1.heap.size, 0, none⟩) 1 1) (makeF (l.take 0)) := by
    have hsz : w.heap.size ≤ w1.heap.size := by have := HN1.out.size'; simp at this; omega
    refine ⟨[(.slice r1 r2 r3, .slice r4 r5 r6)], ⟨rfl, .inr ⟨w1.heap.size, 1, #[.slice r1 r2 r3, .slice r4 r5 r6], rfl, hsz, heap_new_at rfl, Nat.le_refl _, by unfold maxLen; omega, rfl, rfl⟩⟩, rfl, fun j f p h1 h2 => ?_⟩
    match j, h1, h2 with
    | 0, h1, h2 =>
      simp [makeF] at h1 h2
      subst h1
      subst h2
      exact HD1.out.near ((Near.refl _).alloc _)
    | j + 1, h1, h2 => simp at h2
  have hn0 : Near w (w1.alloc (.cells #[.slice r1 r2 r3, .slice r4 r5 r6] 39)) := (((Near.refl w).alloc _).trans HN1.out).alloc _
  clear hs0
  generalize w1.alloc (.cells #[.slice r1 r2 r3, .slice r4 r5 r6] 39) = W0 at hs1 ht0 hn0 ⊢
  have HS0 := Lib.hid hs1
  have HT0 := Lib.hid ht0
  have HN0 := Lib.hid hn0
  clear hs1 ht0 hn0
  go_loopw [5, 6, 7, 8] (fun s t b i wr => ∃ k : Nat, k ≤ l.length ∧ i = .int .i64 k ∧ b = .bool true ∧ Sets 34 IsF w.heap.size wr s (makeF (l.take k)) ∧ Sets 39 IsG w.heap.size wr t (makeF (l.take k)) ∧ Near w wr) (fun _ _ _ i _ => l.length - (intOf i).toNat)
  case atStart => exact ⟨0, Nat.zero_le _, rfl, rfl, HS0.out, HT0.out, HN0.out⟩
  case round =>
    obtain ⟨k, hk, rfl, rfl, hs, ht, hn⟩ := hrel
    by_cases hlt : k < l.length
    · have hlt' : (k : Int) < l.length := by omega
      obtain ⟨ao', cap', e, hc⟩ := HL.out
      cases e
      obtain ⟨okx, b, off, rfl, hcells⟩ := hc k _ (List.getElem?_eq_getElem hlt)
      have hx := List.getElem?_eq_getElem hlt
      have h40 := H40.out _ (List.getElem_mem hlt)
      generalize l[k] = x at hx h40 okx hcells
      have hmk := makeF_take hx
      have hml : (makeF (l.take k)).length = k + 1 := by rw [makeF_len, List.length_take]; omega
      obtain ⟨xop, xrel, xa, xb, xc, xi, xj, xon, xf, xg, xlv, xls, xbound⟩ := x
      have c0 : wr.cell? ⟨b, off + k * 12, none⟩ = some (.int .u8 xop) := hn.cell (hcells 0 _ rfl)
      have c1 := hn.cell (hcells 1 _ rfl)
      have c2 := hn.cell (hcells 2 _ rfl)
      have c3 := hn.cell (hcells 3 _ rfl)
      have c4 := hn.cell (hcells 4 _ rfl)
      have c5 := hn.cell (hcells 5 _ rfl)
      have c6 := hn.cell (hcells 6 _ rfl)
      have c7 := hn.cell (hcells 7 _ rfl)
      have c8 := hn.cell (hcells 8 _ rfl)
      have c9 := hn.cell (hcells 9 _ rfl)
      have c10 := hn.cell (hcells 10 _ rfl)
      have c11 := hn.cell (hcells 11 _ rfl)
      have HOK := Lib.hid (okx.near hn)
      have HS := Lib.hid hs
      have HT := Lib.hid ht
      have HN := Lib.hid hn
      have HMK := Lib.hid hmk
      have HML := Lib.hid hml
      have H40x := Lib.hid h40
      obtain ⟨so, sc, rfl⟩ := hs.form
      obtain ⟨tq, tc, rfl⟩ := ht.form
      obtain ⟨vs, hrow, hvl, his⟩ := hs
      obtain ⟨ts, trow, tvl, tis⟩ := ht
      rw [hml] at HS HT ⊢
      rw [hml] at hrow hvl trow tvl
      have HROW := Lib.hid hrow
      have HVL := Lib.hid hvl
      have HIS := Lib.hid his
      have TROW := Lib.hid trow
      have TVL := Lib.hid tvl
      have TIS := Lib.hid tis
      clear hn hmk hml h40 okx hcells hc hx hrow hvl his trow tvl tis
      go_wp2_with (first
        | (go_at_call 22; refine (said_calls (x := ⟨xop, xrel, xa, xb, xc, xi, xj, xon, xf, xg, xlv, xls, xbound⟩) (HOK.out.near HN3.out) H40x.out (HT.out.map HN3.out (fun _ _ h => h.near HN3.out)) (by rw [HML.out]; omega) (by rw [HML.out]; omega)).mono ?_; rintro e w5 ⟨v5, rfl, d5, n5⟩; obtain ⟨q1, q2, q3, q4, q5, q6, rfl⟩ := d5.form; have y0 := (n5.alloc (.cells #[.slice q1 q2 q3, .slice q4 q5 q6] 39)).cell Y0.out; have y1 := (n5.alloc (.cells #[.slice q1 q2 q3, .slice q4 q5 q6] 39)).cell Y1.out; have HD5 := Lib.hid d5; have HN5 := Lib.hid n5; clear d5 n5)
        | (go_at_call 21; refine (one_calls (x := ⟨xop, xrel, xa, xb, xc, xi, xj, xon, xf, xg, xlv, xls, xbound⟩) HOK.out H40x.out HS.out (by rw [HML.out]; omega) (by rw [HML.out]; omega)).mono ?_; rintro e w3 ⟨v3, rfl, d3, n3⟩; obtain ⟨r1, r2, r3, r4, rfl⟩ := d3.form; have HD3 := Lib.hid d3; have HN3 := Lib.hid (n3.alloc (.cells #[.slice r1 r2 r3, .int .i64 r4] 34));
            have Y0 := Lib.hid (show (w3.alloc (.cells #[.slice r1 r2 r3, .int .i64 r4] 34)).cell? ⟨w3.heap.size, 0, none⟩ = some (.slice r1 r2 r3) by simp);
            have Y1 := Lib.hid (show (w3.alloc (.cells #[.slice r1 r2 r3, .int .i64 r4] 34)).cell? ⟨w3.heap.size, 1, none⟩ = some (.int .i64 r4) by simp);
            replace c0 := HN3.out.cell c0; replace c1 := HN3.out.cell c1; replace c2 := HN3.out.cell c2; replace c3 := HN3.out.cell c3; replace c4 := HN3.out.cell c4; replace c5 := HN3.out.cell c5; replace c6 := HN3.out.cell c6; replace c7 := HN3.out.cell c7; replace c8 := HN3.out.cell c8; replace c9 := HN3.out.cell c9; replace c10 := HN3.out.cell c10; replace c11 := HN3.out.cell c11; clear d3 n3)
        | (at_builtin; refine wpList_append_more rfl (.tmp 51) (.tmp 53) 26 rfl w.heap.size 39 i7 (.agg #[.slice none 0 0, .slice none 0 0]) 2 48 Tryz.underlying26 hi7 hy0 hy1 hy2 rfl (by decide) (.slice tq (k + 1) tc) (k + 1) (flat2 ts) rfl (owns_kept (O6.out.owns (by decide) (owns_kept TROW.out ((HN3.out.trans HN5.out).alloc _) (fun _ _ h => h))) ((Near.refl w6).alloc _) (fun _ _ h => h)) _ 1 [.slice q1 q2 q3, .slice q4 q5 q6] rfl ⟨rfl, .inr ⟨_, 1, rfl, cell_two_at (by simp) _ _ _⟩⟩ (by simp [Value.oneCell']) (by unfold maxLen; omega) (by omega) (by have := K6.out.size'; simp; omega) ?_; intro bo2 bcp2 w7 hown7 hg7; have HO7 := Lib.hid hown7; have HG7 := Lib.hid hg7; clear hown7 hg7)
        | (at_builtin; refine wpList_append_more rfl (.tmp 47) (.tmp 49) 25 rfl w.heap.size 34 i0 (.agg #[.slice none 0 0, .int .i64 0]) 2 32 Tryz.underlying25 hi0 hz0 hz1 hz2 rfl (by decide) (.slice so (k + 1) sc) (k + 1) (flat2 vs) rfl (owns_kept HROW.out (((HN3.out.trans HN5.out).alloc _).alloc _) (fun _ _ h => h)) _ 1 [.slice r1 r2 r3, .int .i64 r4] rfl ⟨rfl, .inr ⟨_, 1, rfl, cell_two_at (by simp) _ _ _⟩⟩ (by simp [Value.oneCell']) (by unfold maxLen; omega) (by omega) (by have := ((HN.out.trans HN3.out).trans HN5.out).size'; simp; omega) ?_; intro bo bcp w6 hown6 hg6; have HO6 := Lib.hid hown6; have HG6 := Lib.hid hg6; clear hown6 hg6;
            have O6 := Lib.hid (only_grown (owns_kept HROW.out ((HN3.out.trans HN5.out).alloc _) (fun _ _ h => h)) HG6.out);
            have hb11 := O6.out.block (heap_new_at (w := w5) rfl) (by decide);
            have u0 := cell1 (o := 0) hb11 rfl; have u1 := cell1 (o := 1) hb11 rfl; clear hb11;
            have K6 := Lib.hid (show Near w w6 from Kept.grown ((((HN.out.trans HN3.out).trans HN5.out).alloc _).alloc _) HG6.out (fun kk hk hlt => absurd (HROW.out.lt kk hk).1 (by omega)))))
      have O7 : OnlyOf 39 w6 w7 := only_grown (O6.out.owns (by decide) (owns_kept TROW.out ((HN3.out.trans HN5.out).alloc _) (fun _ _ h => h))) HG7.out
      have N35 : Near wr (w5.alloc (.cells #[.slice q1 q2 q3, .slice q4 q5 q6] 39)) := (HN3.out.trans HN5.out).alloc _
      have N5 : Near w3 (w5.alloc (.cells #[.slice q1 q2 q3, .slice q4 q5 q6] 39)) := (((Near.refl w3).alloc _).trans HN5.out).alloc _
      have hpush := Sets.push (w := w5.alloc (.cells #[.slice q1 q2 q3, .slice q4 q5 q6] 39)) (w' := w6) (HVL.out.trans HML.out.symm) (fun j f p hj hp => (HIS.out j f p hj hp).near N35) (HD3.out.near N5) (fun v f h => h.only O6.out (by decide)) (by rw [HML.out]; exact HO6.out)
      have tpush := Sets.push (w := w5.alloc (.cells #[.slice q1 q2 q3, .slice q4 q5 q6] 39)) (w' := w7) (TVL.out.trans HML.out.symm) (fun j f p hj hp => (TIS.out j f p hj hp).near N35) (HD5.out.near ((Near.refl w5).alloc _)) (fun v f h => (h.only O6.out (by decide) (by decide)).only O7 (by decide) (by decide)) (by rw [HML.out]; exact HO7.out)
      have hpush7 := hpush.only O7 (by decide) (fun v f h => h.only O7 (by decide))
      rw [← HMK.out] at hpush7 tpush
      have hn7 : Near w w7 := Kept.grown (K6.out.alloc _) HG7.out (fun kk hk hlt => absurd (TROW.out.lt kk hk).1 (by omega))
      exact ⟨⟨k + 1, by omega, by go_num, rfl, hpush7, tpush, hn7⟩, by simp [intOf]; omega⟩
    · have hke : k = l.length := by omega
      have hlt' : ¬ (k : Int) < l.length := by omega
      have HS := Lib.hid hs
      have HT := Lib.hid ht
      have HN := Lib.hid hn
      obtain ⟨so, sc, rfl⟩ := hs.form
      obtain ⟨tq, tc, rfl⟩ := ht.form
      clear hs ht hn
      go_wp2_with fail
      go_ret3
      have e : l.take k = l := by rw [hke]; exact List.take_length
      have hs := HS.out
      have ht := HT.out
      rw [e] at hs ht
      rw [makeF_len] at hs ht ⊢
      exact ⟨_, _, rfl, hs, ht, HN.out⟩

end Go.Proofs.YtefclohjeompkaaGreat
