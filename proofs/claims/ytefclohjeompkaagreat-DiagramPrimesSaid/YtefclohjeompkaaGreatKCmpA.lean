/- Parts of a proof: With, Ops, CmpA. -/
import Derived.Maps.OwnSet
import Derived.WalkKit
import Derived.Deep.QuietTactic
import Derived.Test.YtefclohjeompkaaGreatProg
import Derived.KernelRfl
import Derived.DeepKeys4
import Derived.Deep.RegionLaw
import Derived.StillTailTactics
import Derived.Maps.AppendAt
import Derived.WalkSpells
import Derived.WalkLawsBesides
import Derived.BigQuiet
import Derived.Lib.Hide
import Derived.Deep.DeepCutAuto
import Derived.Laws.EntriesVeiled
import Derived.Deep.RegionHeld3
import Derived.Test.YtefclohjeompkaaGreatKTreeC
import Derived.Test.YtefclohjeompkaaGreatKRep
import Derived.Test.YtefclohjeompkaaGreatKJoinD
/- With: what is needed of it. -/
namespace Go.Proofs.YtefclohjeompkaaGreat
open Go Go.RowKit Go.Proofs.Gen Go.Proofs.Bdd Go.Proofs.Bdd.T
/-- What the set-up of two sets leaves. -/
def Setup (w : World) (asv bsv : Value) (ra rb : Int) (s7 : Value) (wx : World) : Prop :=
  ∃ pb mb kb sk, s7 = .pointer (some ⟨pb, 0, none⟩) ∧ wx.heap[pb]? = some (.cells #[.pointer (some ⟨mb, 0, none⟩), asv, .int .i64 ra, bsv, .int .i64 rb, .map (some sk)] 118 (0, 0)) ∧
    wx.heap[mb]? = some (.cells #[.slice none 0 0, .map (some kb)] 149 (0, 0)) ∧ wx.heap[kb]? = some (.map #[] 0) ∧ wx.heap[sk]? = some (.map #[] 0) ∧ kb ≠ sk ∧ Near w wx ∧
    w.heap.size ≤ pb ∧ w.heap.size ≤ mb ∧ w.heap.size ≤ kb ∧ w.heap.size ≤ sk

/-- What 'with' hands back. -/
def WOut (w : World) (Fin : Value → Int → World → Prop) (e : Ending) (w' : World) : Prop :=
  ∃ sv r w4 b, e = .returned (.agg #[sv, .int .i64 r]) ∧ Fin sv r w4 ∧ w.heap.size ≤ b ∧ w4.heap[b]? = some (.cells #[.slice none 0 0, .int .i64 0] 34 (0, 0)) ∧ w' = (w4.setCell ⟨b, 0, none⟩ sv).setCell ⟨b, 1, none⟩ (.int .i64 r)

set_option maxRecDepth 100000 in
set_option maxHeartbeats 1000000 in
theorem with_walk (F : Nat) (asv bsv : Value) (ra rb : Int) (w : World) (Fin : Value → Int → World → Prop)
    (H : ∀ w1 pb mb kb sk, Near w w1 → w1.heap[pb]? = some (.cells #[.pointer (some ⟨mb, 0, none⟩), asv, .int .i64 ra, bsv, .int .i64 rb, .map (some sk)] 118 (0, 0)) →
      w1.heap[mb]? = some (.cells #[.slice none 0 0, .map (some kb)] 149 (0, 0)) → w1.heap[kb]? = some (.map #[] 0) → w1.heap[sk]? = some (.map #[] 0) → kb ≠ sk →
      w.heap.size ≤ pb → w.heap.size ≤ mb → w.heap.size ≤ kb → w.heap.size ≤ sk →
      RetI 84 #[.pointer (some ⟨pb, 0, none⟩), .int .i64 ra, .int .i64 rb, .func (.func F) #[] #[]] w1 fun r w2 => Kept (fun k => k = mb ∨ k = kb ∨ k = sk ∨ w1.heap.size ≤ k) w1 w2 ∧
      ∀ w3, Near w2 w3 → Calls Tryz.prog 83 #[.pointer (some ⟨mb, 0, none⟩), .int .i64 r] w3 fun e w4 => ∃ ao n cap rr, e = .returned (.agg #[.slice ao n cap, .int .i64 rr]) ∧ Near w3 w4 ∧ ∀ w5, Near w4 w5 → Fin (.slice ao n cap) rr w5) :
    Calls Tryz.prog 43 #[.agg #[asv, .int .i64 ra], .agg #[bsv, .int .i64 rb], .func (.func F) #[] #[]] w (WOut w Fin) := by
  have hmm := @run_makeMap Tryz.prog
  have HH := Lib.hid H
  clear H
  go_enter Tryz.func43, Tryz.ntmps43
  go_upto_region 1 with fail
  have hA : (((w.alloc (.cells #[asv, .int .i64 ra] 34)).alloc (.cells #[bsv, .int .i64 rb] 34)).alloc (.cells #[.slice none 0 0, .int .i64 0] 34)).heap[w.heap.size]? = some (.cells #[asv, .int .i64 ra] 34 (0, 0)) :=
    (heap_old_at (by simp <;> omega)).trans ((heap_old_at (by simp)).trans (heap_new_at rfl))
  have hB : (((w.alloc (.cells #[asv, .int .i64 ra] 34)).alloc (.cells #[bsv, .int .i64 rb] 34)).alloc (.cells #[.slice none 0 0, .int .i64 0] 34)).heap[w.heap.size + 1]? = some (.cells #[bsv, .int .i64 rb] 34 (0, 0)) :=
    (heap_old_at (by simp)).trans (heap_new_at (by simp))
  have hC : (((w.alloc (.cells #[asv, .int .i64 ra] 34)).alloc (.cells #[bsv, .int .i64 rb] 34)).alloc (.cells #[.slice none 0 0, .int .i64 0] 34)).heap[w.heap.size + 1 + 1]? = some (.cells #[.slice none 0 0, .int .i64 0] 34 (0, 0)) :=
    heap_new_at (by simp)
  have hN : Near w (((w.alloc (.cells #[asv, .int .i64 ra] 34)).alloc (.cells #[bsv, .int .i64 rb] 34)).alloc (.cells #[.slice none 0 0, .int .i64 0] 34)) := (((Near.refl w).alloc _).alloc _).alloc _
  have hsz : w.heap.size + 1 + 1 < (((w.alloc (.cells #[asv, .int .i64 ra] 34)).alloc (.cells #[bsv, .int .i64 rb] 34)).alloc (.cells #[.slice none 0 0, .int .i64 0] 34)).heap.size := by simp
  generalize (((w.alloc (.cells #[asv, .int .i64 ra] 34)).alloc (.cells #[bsv, .int .i64 rb] 34)).alloc (.cells #[.slice none 0 0, .int .i64 0] 34)) = W at hA hB hC hN hsz ⊢
  have a0 : W.cell? ⟨w.heap.size, 0, none⟩ = some asv := cell1 hA rfl
  have a1 : W.cell? ⟨w.heap.size, 1, none⟩ = some (.int .i64 ra) := cell1 hA rfl
  have b0 : W.cell? ⟨w.heap.size + 1, 0, none⟩ = some bsv := cell1 hB rfl
  have b1 : W.cell? ⟨w.heap.size + 1, 1, none⟩ = some (.int .i64 rb) := cell1 hB rfl
  have HC := Lib.hid hC
  clear hA hB hC
  have sOf : ∀ w', Near W w' → w'.cell? ⟨w.heap.size, 0, none⟩ = some asv ∧ w'.cell? ⟨w.heap.size, 1, none⟩ = some (.int .i64 ra) ∧ w'.cell? ⟨w.heap.size + 1, 0, none⟩ = some bsv ∧ w'.cell? ⟨w.heap.size + 1, 1, none⟩ = some (.int .i64 rb) ∧ Near W w' :=
    fun w' h => ⟨h.cell a0, h.cell a1, h.cell b0, h.cell b1, h⟩
  go_cut [7] (fun s7 wx => Setup W asv bsv ra rb s7 wx)
  case first =>
    go_region_held3 (fun w' => w'.cell? ⟨w.heap.size, 0, none⟩ = some asv ∧ w'.cell? ⟨w.heap.size, 1, none⟩ = some (.int .i64 ra) ∧ w'.cell? ⟨w.heap.size + 1, 0, none⟩ = some bsv ∧ w'.cell? ⟨w.heap.size + 1, 1, none⟩ = some (.int .i64 rb) ∧ Near W w')
      ((refine sOf _ ?_; repeat (first | exact Near.refl _ | refine Near.drew ?_ | refine Near.alloc ?_ _ | refine Near.drewN ?_ _)))
      (first
        | (go_at_call 82; refine (maker_new _).mono ?_; rintro e w' ⟨rfl, rfl⟩))
    all_goals
      go_wp2_with fail
      go_meet
      iterate 4 apply Exists.intro
      refine ⟨rfl, ?_, ?_, ?_, ?_, ?_, ?_, ?_, ?_, ?_, ?_⟩
      · ((try rw [heap_at_drew]); (try rw [heap_at_drewN]); repeat (first | (refine heap_new_at ?_; (simp; done)) | refine (heap_old_at (by simp <;> omega)).trans ?_))
      · ((try rw [heap_at_drew]); (try rw [heap_at_drewN]); repeat (first | (refine heap_new_at ?_; (simp; done)) | refine (heap_old_at (by simp <;> omega)).trans ?_))
      · ((try rw [heap_at_drew]); (try rw [heap_at_drewN]); repeat (first | (refine heap_new_at ?_; (simp; done)) | refine (heap_old_at (by simp <;> omega)).trans ?_))
      · ((try rw [heap_at_drew]); (try rw [heap_at_drewN]); repeat (first | (refine heap_new_at ?_; (simp; done)) | refine (heap_old_at (by simp <;> omega)).trans ?_))
      · first | omega | (simp; done)
      · repeat (first | exact Near.refl _ | refine Near.drew ?_ | refine Near.alloc ?_ _ | refine Near.drewN ?_ _)
      · omega
      · omega
      · omega
      · omega
  case rest =>
    obtain ⟨pb, mb, kb, sk, rfl, hpb, hmb, hkb, hsk, hks, hn, g1, g2, g3, g4⟩ := hcut
    have p0 : wc.cell? ⟨pb, 0, none⟩ = some (.pointer (some ⟨mb, 0, none⟩)) := cell1 hpb rfl
    have a1' := hn.cell a1
    have b1' := hn.cell b1
    have hz := hn.size
    have hw := hN.size
    clear a0 a1 b0 b1 sOf
    have H1 := Lib.hid (HH.out wc.drew pb mb kb sk (hN.trans hn).drew hpb hmb hkb hsk hks (by omega) (by omega) (by omega) (by omega))
    have hpl : pb < wc.heap.size := (Array.getElem?_eq_some_iff.1 hpb).1
    have n1 : pb ≠ mb := by rintro rfl; rw [hpb] at hmb; cases hmb
    have n2 : pb ≠ kb := by rintro rfl; rw [hpb] at hkb; cases hkb
    have n3 : pb ≠ sk := by rintro rfl; rw [hpb] at hsk; cases hsk
    clear hmb hkb hsk
    have HP := Lib.hid hpb
    clear hpb
    have HC2 : Hid (wc.heap[w.heap.size + 1 + 1]? = some (.cells #[.slice none 0 0, .int .i64 0] 34 (0, 0))) := (hn.block _ (by omega) id).trans HC.out
    have s0 : wc.drew.cell? ⟨pb, 0, none⟩ = some (.pointer (some ⟨mb, 0, none⟩)) ∧ wc.drew.cell? ⟨w.heap.size, 1, none⟩ = some (.int .i64 ra) ∧ wc.drew.cell? ⟨w.heap.size + 1, 1, none⟩ = some (.int .i64 rb) := ⟨p0, a1', b1'⟩
    have sK : ∀ wb : World, Kept (fun k => k = mb ∨ k = kb ∨ k = sk ∨ wc.drew.heap.size ≤ k) wc.drew wb → wb.cell? ⟨pb, 0, none⟩ = some (.pointer (some ⟨mb, 0, none⟩)) ∧ wb.cell? ⟨w.heap.size, 1, none⟩ = some (.int .i64 ra) ∧ wb.cell? ⟨w.heap.size + 1, 1, none⟩ = some (.int .i64 rb) := fun wb h => by
      have hd : wc.drew.heap.size = wc.heap.size := rfl
      exact ⟨h.cell s0.1 (by omega), h.cell s0.2.1 (by omega), h.cell s0.2.2 (by omega)⟩
    have cK : ∀ wa wb : World, Kept (fun k => k = mb ∨ k = kb ∨ k = sk ∨ wc.drew.heap.size ≤ k) wc.drew wa → Near wa wb → wb.heap[w.heap.size + 1 + 1]? = some (.cells #[.slice none 0 0, .int .i64 0] 34 (0, 0)) := fun wa wb h h' => by
      have hd : wc.drew.heap.size = wc.heap.size := rfl
      have hs := h.size
      exact (h'.block _ (by omega) id).trans ((h.block _ (by omega) (by omega)).trans HC2.out)
    have sN : ∀ wa wb : World, Near wa wb → (wa.cell? ⟨pb, 0, none⟩ = some (.pointer (some ⟨mb, 0, none⟩)) ∧ wa.cell? ⟨w.heap.size, 1, none⟩ = some (.int .i64 ra) ∧ wa.cell? ⟨w.heap.size + 1, 1, none⟩ = some (.int .i64 rb)) →
        (wb.cell? ⟨pb, 0, none⟩ = some (.pointer (some ⟨mb, 0, none⟩)) ∧ wb.cell? ⟨w.heap.size, 1, none⟩ = some (.int .i64 ra) ∧ wb.cell? ⟨w.heap.size + 1, 1, none⟩ = some (.int .i64 rb)) := fun wa wb h s => ⟨h.cell s.1, h.cell s.2.1, h.cell s.2.2⟩
    have sS : ∀ (wa : World) (v0 v1 : Value), (wa.cell? ⟨pb, 0, none⟩ = some (.pointer (some ⟨mb, 0, none⟩)) ∧ wa.cell? ⟨w.heap.size, 1, none⟩ = some (.int .i64 ra) ∧ wa.cell? ⟨w.heap.size + 1, 1, none⟩ = some (.int .i64 rb)) →
        (((wa.setCell ⟨w.heap.size + 1 + 1, 0, none⟩ v0).setCell ⟨w.heap.size + 1 + 1, 1, none⟩ v1).cell? ⟨pb, 0, none⟩ = some (.pointer (some ⟨mb, 0, none⟩)) ∧ ((wa.setCell ⟨w.heap.size + 1 + 1, 0, none⟩ v0).setCell ⟨w.heap.size + 1 + 1, 1, none⟩ v1).cell? ⟨w.heap.size, 1, none⟩ = some (.int .i64 ra) ∧ ((wa.setCell ⟨w.heap.size + 1 + 1, 0, none⟩ v0).setCell ⟨w.heap.size + 1 + 1, 1, none⟩ v1).cell? ⟨w.heap.size + 1, 1, none⟩ = some (.int .i64 rb)) := fun wa v0 v1 s => by
      have e : ∀ k o, k ≠ w.heap.size + 1 + 1 → ((wa.setCell ⟨w.heap.size + 1 + 1, 0, none⟩ v0).setCell ⟨w.heap.size + 1 + 1, 1, none⟩ v1).cell? ⟨k, o, none⟩ = wa.cell? ⟨k, o, none⟩ := fun k o hk =>
        World.cell?_of_block (w := wa) ((Below.heap_setCell _ _ _ _ hk).trans (Below.heap_setCell _ _ _ _ hk))
      exact ⟨(e _ _ (by omega)).trans s.1, (e _ _ (by omega)).trans s.2.1, (e _ _ (by omega)).trans s.2.2⟩
    clear p0 a1' b1'
    go_upto_region 2 with fail
    go_region_held3 (fun w' => w'.cell? ⟨pb, 0, none⟩ = some (.pointer (some ⟨mb, 0, none⟩)) ∧ w'.cell? ⟨w.heap.size, 1, none⟩ = some (.int .i64 ra) ∧ w'.cell? ⟨w.heap.size + 1, 1, none⟩ = some (.int .i64 rb))
      (first
        | exact s0
        | exact sK _ hk2
        | exact sN _ _ hn4 ‹_ ∧ _ ∧ _›
        | exact sS _ _ _ ‹_ ∧ _ ∧ _›)
      (first
        | (go_at_call 84; refine (H1.out).mono ?_; rintro e w2 ⟨r, rfl, hk2, hc2⟩; have H2 := Lib.hid hc2; clear hc2)
        | (go_at_call 83; refine (H2.out _ (Near.refl _)).mono ?_; rintro e w4 ⟨ao, n, cap, rr, rfl, hn4, hf⟩; have HF := Lib.hid hf; clear hf; have E4 := Lib.hid (cK _ _ hk2 hn4); have q0 : w4.cell? ⟨w.heap.size + 1 + 1, 0, none⟩ = some (.slice none 0 0) := cell1 E4.out rfl; have q1 : w4.cell? ⟨w.heap.size + 1 + 1, 1, none⟩ = some (.int .i64 0) := cell1 E4.out rfl; have f0 := free1 E4.out 0; have f1 := free1 E4.out 1))
    go_wp2_with fail
    exact bodyPost_ret (v := .agg #[.slice ao n cap, .int .i64 rr]) (by simp [results, Tryz.results43, go_sem, q0, q1]) rfl ⟨_, rr, w4, w.heap.size + 1 + 1, rfl, HF.out _ (Near.refl _), by omega, E4.out, rfl⟩

/-- What a function leaves that makes a set with these elements. -/
def DEv (w : World) (f : (Nat → Bool) → Bool) (e : Ending) (w' : World) : Prop := ∃ s : T, (∀ c, s.ev c = f c) ∧ DPost w s e w'

theorem maker_empty {w : World} {mb kb : Nat} {S : Nat → Prop} (hmb : w.heap[mb]? = some (.cells #[.slice none 0 0, .map (some kb)] 149 (0, 0))) (hkb : w.heap[kb]? = some (.map #[] 0)) (s1 : S mb) (s2 : S kb) : IsMaker w mb S [] :=
  ⟨.slice none 0 0, kb, 0, hmb, World.ownsRow_nil _ _ _ _, (mapIs.empty hkb).congr (fun x u => by simp [known]), Nat.le_refl _, s1, s2, fun k hk => by simp [Value.ownBlock] at hk⟩

theorem In.ok {L : List T} (g : T.Good L) {t : T} (h : In L t) : t.Ok := by
  cases t with
  | leaf => trivial
  | node i l r => exact (g.all _ h).2

/-- THE CONTRACT OF 'with'. -/
theorem with_calls {F : Nat} {bop : Bool → Bool → Bool} {sc : Nat → Nat → Option Bool} (hop : OpOk F bop sc) {w : World} {va vb : Value} {ta tb : T} (ha : IsD w va ta) (hb : IsD w vb tb) :
    Calls Tryz.prog 43 #[va, vb, .func (.func F) #[] #[]] w (DEv w (fun c => bop (ta.ev c) (tb.ev c))) := by
  obtain ⟨oka, asv, rfl, ra⟩ := ha
  obtain ⟨okb, bsv, rfl, rb⟩ := hb
  have ga := nodes_good oka
  have gb := nodes_good okb
  have la := nodes_len oka
  have lb := nodes_len okb
  refine (with_walk F asv bsv (pl (nodes ta) ta : Nat) (pl (nodes tb) tb : Nat) w (fun sv rr w5 => ∃ s : T, (∀ c, s.ev c = bop (ta.ev c) (tb.ev c)) ∧ IsD w5 (.agg #[sv, .int .i64 rr]) s ∧ Below w.heap.size w w5) ?_).mono ?_
  · intro w1 pb mb kb sk hn1 hpb hmb hkb hsk hks b1 b2 b3 b4
    have hm := maker_empty (S := fun k => k = mb ∨ k = kb ∨ w1.heap.size ≤ k) hmb hkb (.inl rfl) (.inr (.inl rfl))
    have hpl : pb < w1.heap.size := (Array.getElem?_eq_some_iff.1 hpb).1
    have hsl : sk < w1.heap.size := (Array.getElem?_eq_some_iff.1 hsk).1
    have hz := hn1.size
    have n1 : pb ≠ mb := by rintro rfl; rw [hpb] at hmb; cases hmb
    have n2 : pb ≠ kb := by rintro rfl; rw [hpb] at hkb; cases hkb
    have n3 : sk ≠ mb := by rintro rfl; rw [hsk] at hmb; cases hmb
    have hrl := rm_le ta tb
    have inok : ∀ {L : List T}, T.Good L → ∀ t, In L t → t.Ok := fun g t h => In.ok g h
    refine (join_calls hop ga gb (by omega) (by omega) (inok ga) (inok gb) (24 - min ta.lv tb.lv) (fun k => k = mb ∨ k = kb ∨ w1.heap.size ≤ k) ta tb [] 0 (fun _ _ => False) w1 (Nat.le_refl _) (nodes_in ta) (nodes_in tb) .nil
      (by simp; omega) (by omega) (fun k hk => .inr (.inr hk)) ⟨hpb, owns_kept ra hn1 (fun _ _ => id), owns_kept rb hn1 (fun _ _ => id)⟩ hm (mapIs.empty hsk) (fun _ _ h => h.elim) (by omega) (by omega) ?_ ?_ _ _ rfl rfl).mono ?_
    · intro k hk
      have := (ra.lt k hk).2
      omega
    · intro k hk
      have := (rb.lt k hk).2
      omega
    · rintro e w2 ⟨s, K, n', M, rfl, hin, ok, _, hev, g, mk, _, _, hk2, hlen, _⟩
      refine ⟨_, rfl, hk2.mono (fun k _ h => by omega), fun w3 hn3 => ?_⟩
      refine (done_calls g (by simp at hlen ⊢; omega) hin ok (mk.near hn3) rfl).mono ?_
      rintro e w4 ⟨v, rfl, ⟨ok', sv, rfl, hr⟩, hbl⟩
      obtain ⟨ao, cap, rfl⟩ := owns_form hr
      refine ⟨ao, _, cap, _, rfl, Near.of_below hbl, fun w5 hn5 => ⟨s, hev, ⟨ok', _, rfl, owns_kept hr hn5 (fun _ _ => id)⟩, ?_⟩⟩
      have h1 : Kept (fun k => w.heap.size ≤ k) w w2 := hn1.kept.trans (hk2.mono fun k _ h => by omega)
      exact (((h1.trans hn3.kept).trans (Near.of_below hbl).kept).trans hn5.kept).below (Nat.le_refl _)
  · rintro e w' ⟨sv, r, w4, b, rfl, ⟨s, hev, ⟨ok, sv', he, hr⟩, hbl⟩, hb, hblk, rfl⟩
    simp only [Value.agg.injEq, Array.mk.injEq, List.cons.injEq, and_true] at he
    obtain ⟨rfl, he⟩ := he
    have hne := owns_ne hr hblk (by decide : (84 : Nat) ≠ 34)
    exact ⟨s, hev, _, rfl, ⟨ok, sv, by rw [he], ownsRow_setCell_other (ownsRow_setCell_other hr hne _) hne _⟩, (hbl.setCell hb _).setCell hb _⟩

end Go.Proofs.YtefclohjeompkaaGreat

/- Ops: what is needed of it. -/
namespace Go.Proofs.YtefclohjeompkaaGreat
open Go Go.RowKit Go.Proofs.Gen Go.Proofs.Bdd Go.Proofs.Bdd.T
theorem IsD.near {w w' : World} {v : Value} {t : T} (h : IsD w v t) (hn : Near w w') : IsD w' v t := h.below hn.below

/-- A set stored in a result's two cells. -/
theorem isD_store {w : World} {sv : Value} {r : Int} {t : T} {b : Nat} {x y : Value} (h : IsD w (.agg #[sv, .int .i64 r]) t) (hb : w.heap[b]? = some (.cells #[x, y] 34 (0, 0))) :
    IsD ((w.setCell ⟨b, 0, none⟩ sv).setCell ⟨b, 1, none⟩ (.int .i64 r)) (.agg #[sv, .int .i64 r]) t := by
  obtain ⟨ok, sv', he, hr⟩ := h
  simp only [Value.agg.injEq, Array.mk.injEq, List.cons.injEq, and_true] at he
  obtain ⟨rfl, he⟩ := he
  have hne := owns_ne hr hb (by decide : (84 : Nat) ≠ 34)
  exact ⟨ok, sv, by rw [he], ownsRow_setCell_other (ownsRow_setCell_other hr hne _) hne _⟩

/-- The form of a set's value. -/
theorem IsD.form {w : World} {v : Value} {t : T} (h : IsD w v t) : ∃ ao n cap, v = .agg #[.slice ao n cap, .int .i64 (pl (nodes t) t : Nat)] ∧ n = (nodes t).length := by
  obtain ⟨ok, sv, rfl, hr⟩ := h
  obtain ⟨ao, cap, rfl⟩ := owns_form hr
  exact ⟨ao, _, cap, rfl, rfl⟩

set_option maxRecDepth 100000 in
set_option maxHeartbeats 400000 in
theorem and_calls {w : World} {va vb : Value} {ta tb : T} (ha : IsD w va ta) (hb : IsD w vb tb) :
    Calls Tryz.prog 13 #[va, vb] w (DEv w (fun c => ta.ev c && tb.ev c)) := by
  obtain ⟨ao, n, cap, rfl, -⟩ := ha.form
  obtain ⟨bo, m, cbp, rfl, -⟩ := hb.form
  have HA := Lib.hid ha
  have HB := Lib.hid hb
  clear ha hb
  go_enter Tryz.func13, Tryz.ntmps13
  go_wp2_with fail
  have hC : (((w.alloc (.cells #[.slice ao n cap, .int .i64 (pl (nodes ta) ta : Nat)] 34)).alloc (.cells #[.slice bo m cbp, .int .i64 (pl (nodes tb) tb : Nat)] 34)).alloc (.cells #[.slice none 0 0, .int .i64 0] 34)).heap[w.heap.size + 1 + 1]? = some (.cells #[.slice none 0 0, .int .i64 0] 34 (0, 0)) := heap_new_at (by simp)
  have hN : Near w (((w.alloc (.cells #[.slice ao n cap, .int .i64 (pl (nodes ta) ta : Nat)] 34)).alloc (.cells #[.slice bo m cbp, .int .i64 (pl (nodes tb) tb : Nat)] 34)).alloc (.cells #[.slice none 0 0, .int .i64 0] 34)) := (((Near.refl w).alloc _).alloc _).alloc _
  have HC := Lib.hid hC
  clear hC
  refine (with_calls op_both (HA.out.near hN) (HB.out.near hN)).mono ?_
  rintro e w1 ⟨s, hev, v, rfl, hs, hbl⟩
  obtain ⟨co, k, ccp, rfl, -⟩ := hs.form
  have E := Lib.hid ((hbl.block _ (Array.getElem?_eq_some_iff.1 HC.out).1).trans HC.out)
  have q0 : w1.cell? ⟨w.heap.size + 1 + 1, 0, none⟩ = some (.slice none 0 0) := cell1 E.out rfl
  have q1 : w1.cell? ⟨w.heap.size + 1 + 1, 1, none⟩ = some (.int .i64 0) := cell1 E.out rfl
  have f0 := free1 E.out 0
  have f1 := free1 E.out 1
  have HS := Lib.hid hs
  clear hs
  go_wp2_with fail
  exact bodyPost_ret (v := .agg #[.slice co k ccp, .int .i64 (pl (nodes s) s : Nat)]) (by simp [results, Tryz.results13, go_sem, q0, q1]) rfl
    ⟨s, hev, _, rfl, isD_store HS.out E.out, (((hN.below.trans (hbl.mono hN.size)).setCell (by show w.heap.size ≤ w.heap.size + 1 + 1; omega) _).setCell (by show w.heap.size ≤ w.heap.size + 1 + 1; omega) _)⟩

set_option maxRecDepth 100000 in
set_option maxHeartbeats 400000 in
theorem or_calls {w : World} {va vb : Value} {ta tb : T} (ha : IsD w va ta) (hb : IsD w vb tb) :
    Calls Tryz.prog 14 #[va, vb] w (DEv w (fun c => ta.ev c || tb.ev c)) := by
  obtain ⟨ao, n, cap, rfl, -⟩ := ha.form
  obtain ⟨bo, m, cbp, rfl, -⟩ := hb.form
  have HA := Lib.hid ha
  have HB := Lib.hid hb
  clear ha hb
  go_enter Tryz.func14, Tryz.ntmps14
  go_wp2_with fail
  have hC : (((w.alloc (.cells #[.slice ao n cap, .int .i64 (pl (nodes ta) ta : Nat)] 34)).alloc (.cells #[.slice bo m cbp, .int .i64 (pl (nodes tb) tb : Nat)] 34)).alloc (.cells #[.slice none 0 0, .int .i64 0] 34)).heap[w.heap.size + 1 + 1]? = some (.cells #[.slice none 0 0, .int .i64 0] 34 (0, 0)) := heap_new_at (by simp)
  have hN : Near w (((w.alloc (.cells #[.slice ao n cap, .int .i64 (pl (nodes ta) ta : Nat)] 34)).alloc (.cells #[.slice bo m cbp, .int .i64 (pl (nodes tb) tb : Nat)] 34)).alloc (.cells #[.slice none 0 0, .int .i64 0] 34)) := (((Near.refl w).alloc _).alloc _).alloc _
  have HC := Lib.hid hC
  clear hC
  refine (with_calls op_either (HA.out.near hN) (HB.out.near hN)).mono ?_
  rintro e w1 ⟨s, hev, v, rfl, hs, hbl⟩
  obtain ⟨co, k, ccp, rfl, -⟩ := hs.form
  have E := Lib.hid ((hbl.block _ (Array.getElem?_eq_some_iff.1 HC.out).1).trans HC.out)
  have q0 : w1.cell? ⟨w.heap.size + 1 + 1, 0, none⟩ = some (.slice none 0 0) := cell1 E.out rfl
  have q1 : w1.cell? ⟨w.heap.size + 1 + 1, 1, none⟩ = some (.int .i64 0) := cell1 E.out rfl
  have f0 := free1 E.out 0
  have f1 := free1 E.out 1
  have HS := Lib.hid hs
  clear hs
  go_wp2_with fail
  exact bodyPost_ret (v := .agg #[.slice co k ccp, .int .i64 (pl (nodes s) s : Nat)]) (by simp [results, Tryz.results14, go_sem, q0, q1]) rfl
    ⟨s, hev, _, rfl, isD_store HS.out E.out, (((hN.below.trans (hbl.mono hN.size)).setCell (by show w.heap.size ≤ w.heap.size + 1 + 1; omega) _).setCell (by show w.heap.size ≤ w.heap.size + 1 + 1; omega) _)⟩

set_option maxRecDepth 100000 in
set_option maxHeartbeats 400000 in
theorem xor_calls {w : World} {va vb : Value} {ta tb : T} (ha : IsD w va ta) (hb : IsD w vb tb) :
    Calls Tryz.prog 18 #[va, vb] w (DEv w (fun c => ta.ev c != tb.ev c)) := by
  obtain ⟨ao, n, cap, rfl, -⟩ := ha.form
  obtain ⟨bo, m, cbp, rfl, -⟩ := hb.form
  have HA := Lib.hid ha
  have HB := Lib.hid hb
  clear ha hb
  go_enter Tryz.func18, Tryz.ntmps18
  go_wp2_with fail
  have hC : (((w.alloc (.cells #[.slice ao n cap, .int .i64 (pl (nodes ta) ta : Nat)] 34)).alloc (.cells #[.slice bo m cbp, .int .i64 (pl (nodes tb) tb : Nat)] 34)).alloc (.cells #[.slice none 0 0, .int .i64 0] 34)).heap[w.heap.size + 1 + 1]? = some (.cells #[.slice none 0 0, .int .i64 0] 34 (0, 0)) := heap_new_at (by simp)
  have hN : Near w (((w.alloc (.cells #[.slice ao n cap, .int .i64 (pl (nodes ta) ta : Nat)] 34)).alloc (.cells #[.slice bo m cbp, .int .i64 (pl (nodes tb) tb : Nat)] 34)).alloc (.cells #[.slice none 0 0, .int .i64 0] 34)) := (((Near.refl w).alloc _).alloc _).alloc _
  have HC := Lib.hid hC
  clear hC
  refine (with_calls op_odd (HA.out.near hN) (HB.out.near hN)).mono ?_
  rintro e w1 ⟨s, hev, v, rfl, hs, hbl⟩
  obtain ⟨co, k, ccp, rfl, -⟩ := hs.form
  have E := Lib.hid ((hbl.block _ (Array.getElem?_eq_some_iff.1 HC.out).1).trans HC.out)
  have q0 : w1.cell? ⟨w.heap.size + 1 + 1, 0, none⟩ = some (.slice none 0 0) := cell1 E.out rfl
  have q1 : w1.cell? ⟨w.heap.size + 1 + 1, 1, none⟩ = some (.int .i64 0) := cell1 E.out rfl
  have f0 := free1 E.out 0
  have f1 := free1 E.out 1
  have HS := Lib.hid hs
  clear hs
  go_wp2_with fail
  exact bodyPost_ret (v := .agg #[.slice co k ccp, .int .i64 (pl (nodes s) s : Nat)]) (by simp [results, Tryz.results18, go_sem, q0, q1]) rfl
    ⟨s, hev, _, rfl, isD_store HS.out E.out, (((hN.below.trans (hbl.mono hN.size)).setCell (by show w.heap.size ≤ w.heap.size + 1 + 1; omega) _).setCell (by show w.heap.size ≤ w.heap.size + 1 + 1; omega) _)⟩

theorem pl_zero {L : List T} {t : T} : pl L t = 0 ↔ t = leaf false := by
  cases t with
  | leaf b => cases b <;> simp [pl]
  | node i l h => have := pl_node (L := L) i l h; simp; omega

theorem pl_one {L : List T} {t : T} : pl L t = 1 ↔ t = leaf true := by
  cases t with
  | leaf b => cases b <;> simp [pl]
  | node i l h => have := pl_node (L := L) i l h; simp; omega

set_option maxHeartbeats 400000 in
theorem empty_walk (sv : Value) (r : Nat) (w : World) :
    Calls Tryz.prog 19 #[.agg #[sv, .int .i64 r]] w fun e w' => e = .returned (.bool ((r : Int) == 0)) ∧ Near w w' := by
  go_enter Tryz.func19, Tryz.ntmps19
  go_wp2
  go_ret
  exact ⟨rfl, (Near.refl w).alloc _⟩

set_option maxHeartbeats 400000 in
theorem full_walk (sv : Value) (r : Nat) (w : World) :
    Calls Tryz.prog 72 #[.agg #[sv, .int .i64 r]] w fun e w' => e = .returned (.bool ((r : Int) == 1)) ∧ Near w w' := by
  go_enter Tryz.func72, Tryz.ntmps72
  go_wp2
  go_ret
  exact ⟨rfl, (Near.refl w).alloc _⟩

set_option maxHeartbeats 400000 in
theorem size_walk (ao : Option Addr) (n cap : Nat) (r : Int) (w : World) :
    Calls Tryz.prog 16 #[.agg #[.slice ao n cap, .int .i64 r]] w fun e w' => e = .returned (.int .i64 n) ∧ Near w w' := by
  go_enter Tryz.func16, Tryz.ntmps16
  go_wp2
  go_ret
  exact ⟨rfl, (Near.refl w).alloc _⟩

theorem empty_calls {w : World} {v : Value} {t : T} (h : IsD w v t) : Calls Tryz.prog 19 #[v] w fun e w' => e = .returned (.bool (decide (t = leaf false))) ∧ Near w w' := by
  obtain ⟨ao, n, cap, rfl, _⟩ := h.form
  refine (empty_walk _ _ w).mono ?_
  rintro e w' ⟨rfl, hn⟩
  refine ⟨?_, hn⟩
  congr 2
  rw [Bool.eq_iff_iff, beq_iff_eq, decide_eq_true_iff, ← pl_zero (L := nodes t)]
  omega

theorem full_calls {w : World} {v : Value} {t : T} (h : IsD w v t) : Calls Tryz.prog 72 #[v] w fun e w' => e = .returned (.bool (decide (t = leaf true))) ∧ Near w w' := by
  obtain ⟨ao, n, cap, rfl, _⟩ := h.form
  refine (full_walk _ _ w).mono ?_
  rintro e w' ⟨rfl, hn⟩
  refine ⟨?_, hn⟩
  congr 2
  rw [Bool.eq_iff_iff, beq_iff_eq, decide_eq_true_iff, ← pl_one (L := nodes t)]
  omega

theorem size_calls {w : World} {v : Value} {t : T} (h : IsD w v t) : Calls Tryz.prog 16 #[v] w fun e w' => e = .returned (.int .i64 ((nodes t).length : Nat)) ∧ Near w w' := by
  obtain ⟨ao, n, cap, rfl, rfl⟩ := h.form
  exact size_walk _ _ _ _ w

theorem isD_leaf (w : World) (b : Bool) : IsD w (.agg #[.slice none 0 0, .int .i64 (b.toNat : Nat)]) (leaf b) :=
  ⟨trivial, .slice none 0 0, by rw [pl_leaf], World.ownsRow_nil _ _ _ _⟩

set_option maxHeartbeats 400000 in
theorem false_calls (w : World) : Calls Tryz.prog 60 #[] w (DPost w (leaf false)) := by
  go_enter Tryz.func60, Tryz.ntmps60
  go_wp2
  exact bodyPost_ret (v := .agg #[.slice none 0 0, .int .i64 0]) (by simp [results, Tryz.results60, go_sem]) rfl ⟨_, rfl, isD_leaf _ false, (Below.refl _ w).alloc (Nat.le_refl _) _⟩

set_option maxHeartbeats 400000 in
theorem true_calls (w : World) : Calls Tryz.prog 49 #[] w (DPost w (leaf true)) := by
  go_enter Tryz.func49, Tryz.ntmps49
  go_wp2
  exact bodyPost_ret (v := .agg #[.slice none 0 0, .int .i64 1]) (by simp [results, Tryz.results49, go_sem]) rfl ⟨_, rfl, isD_leaf _ true, (Below.refl _ w).alloc (Nat.le_refl _) _⟩

set_option maxHeartbeats 400000 in
theorem var_out (i : Int) (h : i < 0 ∨ 23 < i) (w : World) : Calls Tryz.prog 12 #[.int .i64 i] w fun e w' => e = .returned (.tuple #[.agg #[.slice none 0 0, .int .i64 0], .int .i64 3]) ∧ Near w w' := by
  rcases h with h | h
  · go_enter Tryz.func12, Tryz.ntmps12
    go_wp2
    exact bodyPost_ret (v := .tuple #[.agg #[.slice none 0 0, .int .i64 0], .int .i64 3]) (by simp [results, Tryz.results12, go_sem]) rfl ⟨rfl, (Near.refl w).alloc _⟩
  · have h0 : ¬ i < 0 := by omega
    go_enter Tryz.func12, Tryz.ntmps12
    go_wp2
    exact bodyPost_ret (v := .tuple #[.agg #[.slice none 0 0, .int .i64 0], .int .i64 3]) (by simp [results, Tryz.results12, go_sem]) rfl ⟨rfl, (Near.refl w).alloc _⟩

set_option maxHeartbeats 400000 in
theorem var_in (i : Nat) (h : i < 24) (w : World) : Calls Tryz.prog 12 #[.int .i64 i] w fun e w' => ∃ v, e = .returned (.tuple #[v, .int .i64 0]) ∧ IsD w' v (node i (leaf false) (leaf true)) ∧ Near w w' := by
  have h0 : ¬ (i : Int) < 0 := by omega
  have h1 : ¬ (24 : Int) ≤ (i : Int) := by omega
  go_enter Tryz.func12, Tryz.ntmps12
  go_wp2
  refine bodyPost_ret (v := .tuple #[.agg #[.slice (some ⟨w.heap.size + 1, 0, none⟩) 1 1, .int .i64 2], .int .i64 0]) (by simp [results, Tryz.results12, go_sem]) rfl ⟨_, rfl, ?_, ?_⟩
  · have ok : (node i (leaf false) (leaf true)).Ok := ⟨h, h, h, by simp, trivial, trivial⟩
    have hn : nodes (node i (leaf false) (leaf true)) = [node i (leaf false) (leaf true)] := by simp [nodes, go]
    have hp : pl [node i (leaf false) (leaf true)] (node i (leaf false) (leaf true)) = 2 := by simp [pl]
    refine ⟨ok, .slice (some ⟨w.heap.size + 1, 0, none⟩) 1 1, by rw [hn, hp]; rfl, ?_⟩
    rw [hn]
    exact ⟨rfl, .inr ⟨w.heap.size + 1, 1, #[.int .i64 i, .int .i64 0, .int .i64 1], rfl, Nat.zero_le _, heap_new_at (by simp), Nat.le_refl _, by unfold maxLen; omega, rfl, rfl⟩⟩
  · exact ((Near.refl w).alloc _).alloc _

end Go.Proofs.YtefclohjeompkaaGreat

/- CmpA: what is needed of it. -/
namespace Go.Proofs.YtefclohjeompkaaGreat
open Go Go.RowKit Go.Proofs.Gen Go.Proofs.Bdd Go.Proofs.Bdd.T
/-- How two numbers compare. -/
def cmpI (a b : Int) : Int := if a < b then -1 else if b < a then 1 else 0

set_option maxRecDepth 100000 in
set_option maxHeartbeats 800000 in
theorem nan24_calls (a : Int) (w : World) : Calls Tryz.prog 76 #[.int .u32 a] w fun e w' => e = .returned (.bool false) ∧ w' = w := by
  go_enter Tryz.func76, Tryz.ntmps76
  go_wp2_with fail
  exact bodyPost_ret (v := .bool false) (by simp [results, Tryz.results76, go_sem]) rfl ⟨rfl, rfl⟩

set_option maxRecDepth 100000 in
set_option maxHeartbeats 800000 in
theorem compare24_calls (a b : Int) (w : World) : Calls Tryz.prog 36 #[.int .u32 a, .int .u32 b] w fun e w' => e = .returned (.int .i64 (cmpI a b)) ∧ w' = w := by
  have hq : cmpI a b = if a < b then -1 else if b < a then 1 else 0 := rfl
  by_cases h1 : a < b
  · rw [if_pos h1] at hq
    rw [hq]
    clear hq
    go_enter Tryz.func36, Tryz.ntmps36
    go_wp2_with (first
      | (go_at_call 76; refine (nan24_calls _ _).mono ?_; rintro e w1 ⟨rfl, rfl⟩))
    exact bodyPost_ret (v := .int .i64 (-1)) (by simp [results, Tryz.results36, go_sem]) rfl ⟨rfl, rfl⟩
  · rw [if_neg h1] at hq
    by_cases h2 : b < a
    · rw [if_pos h2] at hq
      rw [hq]
      clear hq
      go_enter Tryz.func36, Tryz.ntmps36
      go_wp2_with (first
        | (go_at_call 76; refine (nan24_calls _ _).mono ?_; rintro e w1 ⟨rfl, rfl⟩))
      exact bodyPost_ret (v := .int .i64 1) (by simp [results, Tryz.results36, go_sem]) rfl ⟨rfl, rfl⟩
    · rw [if_neg h2] at hq
      rw [hq]
      clear hq
      go_enter Tryz.func36, Tryz.ntmps36
      go_wp2_with (first
        | (go_at_call 76; refine (nan24_calls _ _).mono ?_; rintro e w1 ⟨rfl, rfl⟩))
      exact bodyPost_ret (v := .int .i64 0) (by simp [results, Tryz.results36, go_sem]) rfl ⟨rfl, rfl⟩

end Go.Proofs.YtefclohjeompkaaGreat
