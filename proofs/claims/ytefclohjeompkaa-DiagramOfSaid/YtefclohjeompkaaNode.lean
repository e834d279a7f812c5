import Derived.Test.YtefclohjeompkaaRep
import Derived.Test.YtefclohjeompkaaSteps
import Derived.WalkKit
import Derived.WalkSpells
import Derived.WalkLawsBesides
import Derived.Deep.QuietTactic
import Derived.BigQuiet
import Derived.Lib.Hide
import Derived.Deep.DeepCutAuto
namespace Go.Proofs.Ytefclohjeompkaa
open Go Go.RowKit Go.Proofs.Gen Go.Proofs.Bdd Go.Proofs.Bdd.T

set_option maxHeartbeats 400000 in
theorem node_same (mb : Nat) (i p : Nat) (w : World) :
    Calls Try.prog 78 #[.pointer (some ⟨mb, 0, none⟩), .int .i64 i, .int .i64 p, .int .i64 p] w fun e w' => e = .returned (.int .i64 p) ∧ w = w' := by
  go_enter Try.func78, Try.ntmps78
  go_wp2
  go_ret
  exact ⟨rfl, rfl⟩


set_option maxHeartbeats 400000 in
theorem node_found (mb kb : Nat) (sv : Value) (i p q : Nat) (u : Int) (w : World) (hne : ((p : Int) == (q : Int)) = false)
    (hmb : w.heap[mb]? = some (.cells #[sv, .map (some kb)] 154 (0, 0)))
    (hrun : ∀ w' : World, w'.heap[kb]? = w.heap[kb]? → (Instr.lookup 152 (.map (some kb)) (.agg #[.int .i64 i, .int .i64 p, .int .i64 q]) true).run Try.prog w' = .ok (.tuple #[.int .i64 u, .bool true]) w') (hkb : kb < w.heap.size) :
    Calls Try.prog 78 #[.pointer (some ⟨mb, 0, none⟩), .int .i64 i, .int .i64 p, .int .i64 q] w fun e w' => e = .returned (.int .i64 u) ∧ Below w.heap.size w w' := by
  have c1 : w.cell? ⟨mb, 1, none⟩ = some (.map (some kb)) := by simp [World.cell?, hmb]
  have hb1 : mb < w.heap.size := World.block_lt_of_cell? w ⟨mb, 1, none⟩ c1
  have hr : ∀ (n : Nat), (Instr.lookup 152 (.map (some kb)) (.agg #[.int .i64 i, .int .i64 p, .int .i64 q]) true).run Try.prog ((w.alloc (.cells #[.int .i64 i, .int .i64 p, .int .i64 q] 26)).drewN n) = .ok (.tuple #[.int .i64 u, .bool true]) ((w.alloc (.cells #[.int .i64 i, .int .i64 p, .int .i64 q] 26)).drewN n) :=
    fun n => hrun _ (Below.heap_alloc w _ kb hkb)
  clear hrun hmb
  go_enter Try.func78, Try.ntmps78
  go_wp2
  go_quiet (fail)
  go_wp2
  go_ret
  exact ⟨rfl, ((Below.refl _ _).alloc (Nat.le_refl _) _).trans ⟨rfl, rfl, rfl, Nat.le_refl _, fun _ _ => rfl⟩⟩


theorem info26 : (Try.prog.info? 26).map (fun i => (i.zero, i.size, i.bytes)) = some (some (.agg #[.int .i64 0, .int .i64 0, .int .i64 0]), 3, 24) := by kernel_rfl

/-- What the statement that appends leaves. -/
def Appended (S : Nat → Prop) (w : World) (mb kb n : Nat) (xs : List Value) (i p q : Nat) (wx : World) : Prop :=
  ∃ sv, wx.heap[mb]? = some (.cells #[sv, .map (some kb)] 154 (0, 0)) ∧ wx.ownsRow 0 26 3 sv (n + 1) (xs ++ [.int .i64 i, .int .i64 p, .int .i64 q]) ∧ Kept S w wx ∧ wx.heap[kb]? = w.heap[kb]? ∧
    wx.heap[w.heap.size]? = some (.cells #[.int .i64 i, .int .i64 p, .int .i64 q] 26 (0, 0)) ∧ ∀ k, sv.ownBlock = some k → S k


theorem appended_of {S : Nat → Prop} {w W1 w1 : World} {mb kb n N i p q cap : Nat} {ao : Option Addr} {sv : Value} {xs : List Value} {M : Value → Int → Prop}
    (hmb : w.heap[mb]? = some (.cells #[sv, .map (some kb)] 154 (0, 0))) (hown : w.ownsRow 0 26 3 sv n xs) (hmap : mapIs w Try.prog 26 3 kb N M)
    (hS : ∀ k, w.heap.size ≤ k → S k) (hSm : S mb) (hSr : ∀ k, sv.ownBlock = some k → S k)
    (h1 : w1.ownsRow 0 26 3 (.slice ao (n + 1) cap) (n + 1) (xs ++ [.int .i64 i, .int .i64 p, .int .i64 q])) (hg : W1.grownBy w1 sv.ownBlock)
    (hl : (Value.slice ao (n + 1) cap).ownBlock = sv.ownBlock ∨ (Value.slice ao (n + 1) cap).ownBlock = some W1.heap.size)
    (e1 : W1.heap = ((w.alloc (.cells #[.int .i64 i, .int .i64 p, .int .i64 q] 26)).alloc (.cells #[.int .i64 i, .int .i64 p, .int .i64 q] 26)).heap) (e2 : W1.os = w.os) (e3 : W1.tape = w.tape) (e4 : W1.output = w.output) :
    Appended S w mb kb n xs i p q (w1.setCell ⟨mb, 0, none⟩ (.slice ao (n + 1) cap)) := by
  have hne := owns_ne hown hmb (by decide : (26 : Nat) ≠ 154)
  have hkb := hmap.lt
  have hnk : sv.ownBlock ≠ some kb := by
    obtain ⟨es, clock, hb, _⟩ := hmap
    exact owns_ne_map hown hb
  have hmk : kb ≠ mb := by
    obtain ⟨es, clock, hb, _⟩ := hmap
    rintro rfl
    rw [hmb] at hb
    cases hb
  have hmlt : mb < w.heap.size := (Array.getElem?_eq_some_iff.1 hmb).1
  have hs1 : W1.heap.size = w.heap.size + 2 := by rw [e1]; simp
  have old : ∀ k, k < w.heap.size → W1.heap[k]? = w.heap[k]? := fun k hk => by
    rw [e1, Below.heap_alloc _ _ _ (by simp; omega), Below.heap_alloc _ _ _ hk]
  have hrs : ∀ k, sv.ownBlock = some k → k < w.heap.size := fun k hk => (hown.lt k hk).2
  have hm1 : w1.heap[mb]? = some (.cells #[sv, .map (some kb)] 154 (0, 0)) := by rw [hg.block mb (by omega) (Ne.symm hne), old mb hmlt, hmb]
  have hx1 : w1.heap[w.heap.size]? = some (.cells #[.int .i64 i, .int .i64 p, .int .i64 q] 26 (0, 0)) := by
    rw [hg.block _ (by omega) (fun e => by have := hrs _ e.symm; omega), e1, Below.heap_alloc _ _ _ (by simp)]
    exact heap_alloc_new w _
  have hk0 : Kept S w W1 := ⟨e2, e3, e4, by omega, fun k hk _ => old k hk⟩
  have hk1 : Kept S w w1 := hk0.grown hg (fun k hk _ => hSr k hk)
  refine ⟨.slice ao (n + 1) cap, ?_, owns_setCell h1 hm1 (by decide) 0 _, hk1.setCell (fun _ => hSm) _, ?_, ?_, ?_⟩
  · rw [setCell_heap hm1]; rfl
  · rw [Below.heap_setCell _ _ _ _ hmk, hg.block kb (by omega) (Ne.symm hnk), old kb hkb]
  · rw [Below.heap_setCell _ _ _ _ (by show w.heap.size ≠ mb; omega), hx1]
  · intro k hk
    rcases hl with h | h
    · exact hSr k (h ▸ hk)
    · rw [h] at hk
      cases hk
      exact hS _ (by omega)

/-- What a new node leaves. -/
def Stored (S : Nat → Prop) (w : World) (mb kb n N : Nat) (xs : List Value) (M : Value → Int → Prop) (i p q : Nat) (w' : World) : Prop :=
  ∃ sv, w'.heap[mb]? = some (.cells #[sv, .map (some kb)] 154 (0, 0)) ∧ w'.ownsRow 0 26 3 sv (n + 1) (xs ++ [.int .i64 i, .int .i64 p, .int .i64 q]) ∧
    mapIs w' Try.prog 26 3 kb (N + 1) (put M (.agg #[.int .i64 i, .int .i64 p, .int .i64 q]) (n + 1 + 1)) ∧ Kept S w w' ∧ ∀ k, sv.ownBlock = some k → S k

set_option maxRecDepth 100000 in
set_option maxHeartbeats 400000 in
theorem node_new (S : Nat → Prop) (mb kb n N : Nat) (sv : Value) (xs : List Value) (M : Value → Int → Prop) (i p q : Nat) (kl : Lit) (w : World) (hne : ((p : Int) == (q : Int)) = false)
    (hmb : w.heap[mb]? = some (.cells #[sv, .map (some kb)] 154 (0, 0)))
    (hown : w.ownsRow 0 26 3 sv n xs) (hmap : mapIs w Try.prog 26 3 kb N M) (hN : N ≤ n) (hn : n < 1099511627776)
    (hS : ∀ k, w.heap.size ≤ k → S k) (hSm : S mb) (hSk : S kb) (hSr : ∀ k, sv.ownBlock = some k → S k)
    (hkey : keyOf Try.prog 26 (.agg #[.int .i64 i, .int .i64 p, .int .i64 q]) = some kl) (hM : ∀ u, ¬ M (.agg #[.int .i64 i, .int .i64 p, .int .i64 q]) u) :
    Calls Try.prog 78 #[.pointer (some ⟨mb, 0, none⟩), .int .i64 i, .int .i64 p, .int .i64 q] w fun e w' => e = .returned (.int .i64 (n + 1 + 1)) ∧ Stored S w mb kb n N xs M i p q w' := by
  have c0 : w.cell? ⟨mb, 0, none⟩ = some sv := by simp [World.cell?, hmb]
  have c1 : w.cell? ⟨mb, 1, none⟩ = some (.map (some kb)) := by simp [World.cell?, hmb]
  have hb1 : mb < w.heap.size := World.block_lt_of_cell? w ⟨mb, 1, none⟩ c1
  have hkb := hmap.lt
  have hne := owns_ne hown hmb (by decide : (26 : Nat) ≠ 154)
  obtain ⟨i0, hi, hz0, hz1, hz2⟩ := info_parts info26
  have hr : ∀ (n : Nat), (Instr.lookup 152 (.map (some kb)) (.agg #[.int .i64 i, .int .i64 p, .int .i64 q]) true).run Try.prog ((w.alloc (.cells #[.int .i64 i, .int .i64 p, .int .i64 q] 26)).drewN n) = .ok (.tuple #[.int .i64 0, .bool false]) ((w.alloc (.cells #[.int .i64 i, .int .i64 p, .int .i64 q] 26)).drewN n) :=
    fun n => mapIs.miss (((hmap.of_block (w' := w.alloc (.cells #[.int .i64 i, .int .i64 p, .int .i64 q] 26)) (Below.heap_alloc w _ kb hkb)).drewN n)) law26 Try.underlying152 Try.underlying3 (zero3 _) hkey hM
  have cm : ∀ (W1 w1 : World), W1.grownBy w1 sv.ownBlock → W1.heap = ((w.alloc (.cells #[.int .i64 i, .int .i64 p, .int .i64 q] 26)).alloc (.cells #[.int .i64 i, .int .i64 p, .int .i64 q] 26)).heap → w1.cell? ⟨mb, 0, none⟩ = some sv ∧ w1.frozen? ⟨mb, 0, none⟩ = false := by
    intro W1 w1 hg e1
    have e : w1.heap[mb]? = some (.cells #[sv, .map (some kb)] 154 (0, 0)) := by
      rw [hg.block mb (by rw [e1]; simp; omega) (Ne.symm hne), e1, Below.heap_alloc _ _ _ (by simp; omega), Below.heap_alloc _ _ _ hb1, hmb]
    exact ⟨by simp [World.cell?, e], by simp [World.frozen?, e]⟩
  have HM := Lib.hid hmb
  have HO := Lib.hid hown
  have HMap := Lib.hid hmap
  clear hmb hown hmap
  go_enter Try.func78, Try.ntmps78
  go_wp2
  go_quiet (fail)
  go_upto_region 6 with fail
  go_cut [] (fun wx => Appended S w mb kb n xs i p q wx)
  case first =>
    go_region_law (refine step_append_own rfl (.tmp 35) (.tmp 37) 22 rfl 0 26 i0 (.agg #[.int .i64 0, .int .i64 0, .int .i64 0]) 3 24 Try.underlying22 hi hz0 hz1 hz2 rfl (by decide) sv n xs rfl (by exact (HO.out.alloc _).alloc _) ⟨w.heap.size + 1, 0, none⟩ 1 1 [.int .i64 i, .int .i64 p, .int .i64 q] rfl rfl (by exact cell_three_at (by simp) _ _ _ _) (by simp [Value.oneCell']) (by unfold maxLen; omega) (by omega) (by omega) ?_; intro ao cap w1 hown1 hg1 hl1; have c0' : w1.cell? ⟨mb, 0, none⟩ = some sv := (cm _ _ hg1 rfl).1; have f0' : w1.frozen? ⟨mb, 0, none⟩ = false := (cm _ _ hg1 rfl).2)
    all_goals
      go_wp2_with fail
      go_meet
      exact appended_of HM.out HO.out HMap.out hS hSm hSr hown1 hg1 hl1 rfl rfl rfl rfl
  case rest =>
    obtain ⟨sv', hmb', hown', hk', hkb', hx', hrow'⟩ := hcut
    obtain ⟨ao, cap, rfl⟩ := owns_form hown'
    have d0 : wc.cell? ⟨mb, 0, none⟩ = some (.slice ao (n + 1) cap) := by simp [World.cell?, hmb']
    have d1 : wc.cell? ⟨mb, 1, none⟩ = some (.map (some kb)) := by simp [World.cell?, hmb']
    have x0 : wc.cell? ⟨w.heap.size, 0, none⟩ = some (.int .i64 i) := by simp [World.cell?, hx']
    have x1 : wc.cell? ⟨w.heap.size, 1, none⟩ = some (.int .i64 p) := by simp [World.cell?, hx']
    have x2 : wc.cell? ⟨w.heap.size, 2, none⟩ = some (.int .i64 q) := by simp [World.cell?, hx']
    have hmap' := Lib.hid (HMap.out.of_block hkb')
    go_wp2
    go_still_tail 6, (by kernel_rfl)
    change wpList _ _ _ _ _ wc.drew
    refine wpList_mapUpdate_is rfl (.tmp 50) (.tmp 51) (.tmp 52) rfl law26 Try.underlying152 Try.underlying3 rfl (hmap'.out.drewN 1) (by unfold maxLen; omega) _ _ kl rfl rfl hkey (WalkArith.wf_i64 (by omega)) ?_
    intro es clock hm2
    go_wp2
    go_ret
    refine ⟨rfl, .slice ao (n + 1) cap, ?_, ?_, hm2, setBlock_kept hk'.drew (fun _ => hSk) _, hrow'⟩
    · obtain ⟨es0, clock0, hb0, _⟩ := hmap'.out
      rw [Go.ChangeMaps.heap_setBlock_other (w := wc.drew) hb0]
      · exact hmb'
      · rintro rfl
        rw [hmb'] at hb0
        cases hb0
    · obtain ⟨es0, clock0, hb0, _⟩ := hmap'.out
      refine hown'.kept (row := some kb) ⟨rfl, rfl, rfl, by simp [Go.ChangeMaps.setBlock], fun k _ hne' => ?_⟩ (.inr (owns_ne_map hown' hb0))
      exact Go.ChangeMaps.heap_setBlock_other (w := wc.drew) hb0 _ (fun e => hne' (by rw [e]))

/-- What 'node' leaves. -/
def NodePost (S : Nat → Prop) (w : World) (mb : Nat) (L : List T) (i : Nat) (l h : T) (e : Ending) (w' : World) : Prop :=
  e = .returned (.int .i64 ((pl (add L i l h) (mk i l h) : Nat) : Int)) ∧ IsMaker w' mb S (add L i l h) ∧ Kept S w w'

theorem known_snoc {L : List T} (g : T.Good L) {i : Nat} {l h : T} (il : In L l) (ih : In L h) (hn : node i l h ∉ L) (x : Value) (u : Int) :
    known (L ++ [node i l h]) x u ↔ put (known L) (.agg #[.int .i64 i, .int .i64 (pl L l : Nat), .int .i64 (pl L h : Nat)]) (L.length + 1 + 1) x u := by
  have key : Value.agg #[.int .i64 i, .int .i64 (pl L l : Nat), .int .i64 (pl L h : Nat)] = triV (en L (node i l h)) := rfl
  rw [key]
  have tri_inj : ∀ a b : Tri, triV a = triV b → a = b := by
    intro a b h
    cases a; cases b
    simp only [triV, Value.agg.injEq, Array.mk.injEq, List.cons.injEq, Value.int.injEq, true_and, and_true] at h
    obtain ⟨h1, h2, h3⟩ := h
    simp only [Tri.mk.injEq]
    exact ⟨by omega, by omega, by omega⟩
  have own : en (L ++ [node i l h]) (node i l h) = en L (node i l h) := by simp only [en]; rw [pl_append il, pl_append ih]
  unfold known put
  constructor
  · rintro ⟨t, ht, rfl, rfl⟩
    rcases List.mem_append.1 ht with ht | ht
    · refine .inr ⟨fun e => hn ?_, t, ht, by rw [en_append g ht], by rw [pl_append (by cases t with | leaf => trivial | node => exact ht)]⟩
      rw [en_append g ht] at e
      rw [← en_inj g ht il ih (tri_inj _ _ e)]
      exact ht
    · simp at ht
      subst ht
      exact .inl ⟨by rw [own], by rw [pl_snoc hn]; omega⟩
  · rintro (⟨rfl, rfl⟩ | ⟨hne, t, ht, rfl, rfl⟩)
    · exact ⟨node i l h, by simp, by rw [own], by rw [pl_snoc hn]; omega⟩
    · exact ⟨t, List.mem_append_left _ ht, by rw [en_append g ht], by rw [pl_append (by cases t with | leaf => trivial | node => exact ht)]⟩

/-- THE CONTRACT OF 'node'. -/
theorem node_calls {S : Nat → Prop} {L : List T} (g : T.Good L) {i : Nat} {l h : T} (il : In L l) (ih : In L h) (hi : i < 24) (hlen : L.length < 1099511627776) {mb : Nat} {w : World} (hS : ∀ k, w.heap.size ≤ k → S k)
    (hm : IsMaker w mb S L) {a b c : Int} (ha : a = i) (hb : b = (pl L l : Nat)) (hc : c = (pl L h : Nat)) :
    Calls Try.prog 78 #[.pointer (some ⟨mb, 0, none⟩), .int .i64 a, .int .i64 b, .int .i64 c] w (NodePost S w mb L i l h) := by
  subst ha hb hc
  have b1 := pl_lt il
  have b2 := pl_lt ih
  by_cases e : l = h
  · subst e
    refine (node_same mb i (pl L l) w).mono ?_
    rintro e w' ⟨rfl, rfl⟩
    have e1 : add L i l l = L := by simp [add]
    have e2 : mk i l l = l := by simp [mk]
    unfold NodePost
    rw [e1, e2]
    exact ⟨rfl, hm, Kept.refl _ _⟩
  · have hne : (((pl L l : Nat) : Int) == ((pl L h : Nat) : Int)) = false := by
      rw [beq_eq_false_iff_ne]
      intro e'
      exact e (pl_inj il ih (by omega))
    have hm0 := hm
    obtain ⟨sv, kb, N, hmb, hown, hmap, hN, hSm, hSk, hSr⟩ := hm
    obtain ⟨kl, hkey⟩ := key26 (wf_nat (n := i) (by omega)) (wf_nat (n := pl L l) (by omega)) (wf_nat (n := pl L h) (by omega))
    by_cases hin : node i l h ∈ L
    · have e1 : add L i l h = L := by simp [add, hin]
      have e2 : mk i l h = node i l h := by simp [mk, e]
      refine (node_found mb kb sv i (pl L l) (pl L h) (pl L (node i l h) : Nat) w hne hmb (fun w' hw' => ?_) hmap.lt).mono ?_
      · exact (hmap.of_block hw').hit law26 Try.underlying152 Try.underlying3 (zero3 _) hkey ⟨node i l h, hin, rfl, rfl⟩
      · rintro e w' ⟨rfl, hbl⟩
        unfold NodePost
        rw [e1, e2]
        exact ⟨rfl, hm0.of_kept (Kept.of_below hbl) (fun k hk _ => by omega), (Kept.of_below hbl).mono (fun k hk h => by omega)⟩
    · have e1 : add L i l h = L ++ [node i l h] := by simp [add, e, hin]
      have e2 : mk i l h = node i l h := by simp [mk, e]
      refine (node_new S mb kb L.length N sv _ _ i (pl L l) (pl L h) kl w hne hmb hown hmap hN hlen hS hSm hSk hSr hkey ?_).mono ?_
      · rintro u ⟨t, ht, he, _⟩
        refine hin ?_
        have : triV (en L (node i l h)) = triV (en L t) := he
        have h2 : en L t = en L (node i l h) := by
          cases h1 : en L t; cases h2 : en L (node i l h)
          rw [h1, h2] at this
          simp only [triV, Value.agg.injEq, Array.mk.injEq, List.cons.injEq, Value.int.injEq, true_and, and_true] at this
          obtain ⟨h1, h2, h3⟩ := this
          simp only [Tri.mk.injEq]
          exact ⟨by omega, by omega, by omega⟩
        rw [← en_inj g ht il ih h2]
        exact ht
      · rintro e w' ⟨rfl, sv', hmb', hown', hmap', hk, hSr'⟩
        unfold NodePost
        rw [e1, e2, pl_snoc hin]
        refine ⟨rfl, ⟨sv', kb, N + 1, hmb', ?_, hmap'.congr (known_snoc g il ih hin), by simp; omega, hSm, hSk, hSr'⟩, hk⟩
        rw [enc_snoc g il ih]
        simpa [cellsOf, triC] using hown'

end Go.Proofs.Ytefclohjeompkaa
