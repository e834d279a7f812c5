/- Parts of a proof: FoldsA, ThruB. -/
import Derived.Test.YtefclohjeompkaaKRefP
import Derived.Test.YtefclohjeompkaaKThruA
import Derived.Test.YtefclohjeompkaaKLawCounts
import Derived.Test.YtefclohjeompkaaKTwoG
import Derived.Test.YtefclohjeompkaaKBothA
/- The closure of DiagramFolds, as the join of a fold. -/
namespace Go.Proofs.Ytefclohjeompkaa
open Go Go.RowKit Go.Proofs.Gen Go.Proofs.Bdd Go.Proofs.Bdd.T

set_option maxRecDepth 100000 in
set_option maxHeartbeats 1600000 in
theorem folds1_calls {w : World} {gb k : Nat} {sv : Value} {xs : List Value} (hg : w.heap[gb]? = some (.cells #[sv] 22 (0, 0))) (hr : w.ownsRow 0 26 3 sv k xs) (hk : k < 1099511627776) (i x y : Int) :
    Calls Try.prog 28 #[.int .i64 i, .int .i64 x, .int .i64 y, .pointer (some ⟨gb, 0, none⟩)] w fun e w' => e = .returned (.int .i64 (k + 2)) ∧ ∃ ao cap, w'.heap[gb]? = some (.cells #[.slice ao (k + 1) cap] 22 (0, 0)) ∧
      w'.ownsRow 0 26 3 (.slice ao (k + 1) cap) (k + 1) (xs ++ [.int .i64 i, .int .i64 x, .int .i64 y]) ∧ Kept (fun b => b = gb ∨ sv.ownBlock = some b) w w' ∧
      ((Value.slice ao (k + 1) cap).ownBlock = sv.ownBlock ∨ ∃ b, (Value.slice ao (k + 1) cap).ownBlock = some b ∧ w.heap.size ≤ b) := by
  obtain ⟨i0, hi0, hz0, hz1, hz2⟩ := info_parts info26
  have hne : sv.ownBlock ≠ some gb := owns_ne hr hg (by decide)
  obtain ⟨ao, cap, rfl⟩ := owns_form hr
  have hlt := (Array.getElem?_eq_some_iff.1 hg).1
  have c0 := cell1 (o := 0) hg rfl
  have f0 := free1 hg 0
  have HR := Lib.hid hr
  have HG := Lib.hid hg
  have HNE := Lib.hid hne
  clear hr hg hne
  go_enter Try.func28, Try.ntmps28
  go_wp2_with (first
    | (at_builtin; refine wpList_append_in rfl (.tmp 8) (.tmp 13) 22 rfl 0 26 i0 (.agg #[.int .i64 0, .int .i64 0, .int .i64 0]) 3 24 Try.underlying22 hi0 hz0 hz1 hz2 rfl (by decide) (.slice ao k cap) k xs rfl (HR.out.alloc _) ⟨w.heap.size, 0, none⟩ 1 1 [.int .i64 i, .int .i64 x, .int .i64 y] rfl rfl (cell_three_at rfl _ _ _ _) (by simp [Value.oneCell']) (by unfold maxLen; omega) (by omega) (Nat.zero_le _) ?_; intro bo bcp w2 hown2 hg2 hl2; have HO2 := Lib.hid hown2; have HL2 := Lib.hid hl2; have HK2 := Lib.hid (((Kept.refl (fun b => (Value.slice ao k cap).ownBlock = some b) w).alloc (.cells #[.int .i64 i, .int .i64 x, .int .i64 y] 26)).grown hg2 (fun b hb _ => hb)); have hG2 := (HK2.out.block gb hlt HNE.out).trans HG.out; clear hown2 hg2 hl2 c0 f0; have c0 := cell1 (o := 0) hG2 rfl; have f0 := free1 hG2 0; have HG2 := Lib.hid hG2; clear hG2))
  have hS := setCell_heap HG2.out 0 (.slice bo (k + 1) bcp)
  have ne2 := owns_ne HO2.out HG2.out (by decide : (26 : Nat) ≠ 22)
  have hO := ownsRow_setCell_other (a := ⟨gb, 0, none⟩) HO2.out ne2 (.slice bo (k + 1) bcp)
  have hK := Kept.setCell (S := fun b => b = gb ∨ (Value.slice ao k cap).ownBlock = some b) (Kept.mono HK2.out (fun _ _ h => .inr h)) (p := ⟨gb, 0, none⟩) (fun _ => .inl rfl) (.slice bo (k + 1) bcp)
  have hHeap : (w2.setCell ⟨gb, 0, none⟩ (.slice bo (k + 1) bcp)).heap[gb]? = some (.cells #[.slice bo (k + 1) bcp] 22 (0, 0)) := by simpa only [List.setIfInBounds_toArray, List.set_cons_zero] using hS
  refine bodyPost_ret (v := .int .i64 (k + 2)) (by simp [results, Try.results28, go_sem]; try omega) rfl ⟨rfl, bo, bcp, hHeap, hO, hK, ?_⟩
  rcases HL2.out with e | e
  · exact .inl e
  · exact .inr ⟨_, e, by simp⟩

theorem folds1_enters (args : Array Value) (w : World) : (callFunc 28 args).run Try.prog w = .ok (.enter 28 args) w := call_enters Try.func28 (by kernel_rfl) rfl args w

/-- What the closure keeps behind k nodes: the numbers so far, and the nodes that it was told of. -/
def FInv (gb : Nat) (L : List T) (k : Nat) (w : World) (outs : List Int) (J : Nat → Prop) : Prop :=
  outs = (List.range (k + 2)).map (fun n : Nat => (n : Int)) ∧ J gb ∧ ∃ sv, w.heap[gb]? = some (.cells #[sv] 22 (0, 0)) ∧ w.ownsRow 0 26 3 sv k (cellsOf (enc (L.take k))) ∧ ∀ q, sv.ownBlock = some q → J q

theorem good_take {L : List T} (g : T.Good L) : ∀ k, T.Good (L.take k) := by
  induction g with
  | nil => intro k; simpa using T.Good.nil
  | @snoc L i l h g il ihh ok new ih =>
    intro k
    by_cases hk : k ≤ L.length
    · rw [List.take_append_of_le_length hk]
      exact ih k
    · rw [List.take_of_length_le (by simp; omega)]
      exact .snoc g il ihh ok new

theorem cellsOf_snoc (l : List Tri) (x : Tri) : cellsOf (l ++ [x]) = cellsOf l ++ triC x := by simp [cellsOf]

theorem range_get {n k : Nat} {x : Int} (h : ((List.range n).map (fun n : Nat => (n : Int)))[k]? = some x) : x = k := by
  rw [List.getElem?_map] at h
  by_cases hk : k < n
  · rw [List.getElem?_range hk] at h
    simpa using h.symm
  · rw [List.getElem?_eq_none (by simpa using hk)] at h
    cases h

theorem folds_joins {L : List T} (g : T.Good L) (hlen : L.length < 1099511627776) (gb : Nat) : Joins 28 #[] #[.pointer (some ⟨gb, 0, none⟩)] L (FInv gb L) where
  enters := folds1_enters
  mono := by
    rintro k w outs J J' ⟨h1, h2, sv, h3, h4, h5⟩ hs
    exact ⟨h1, hs _ (Array.getElem?_eq_some_iff.1 h3).1 h2, sv, h3, h4, fun q hq => hs _ (h4.lt q hq).2 (h5 q hq)⟩
  keep := by
    rintro k w w' outs J R ⟨h1, h2, sv, h3, h4, h5⟩ hk hd
    have hlt := (Array.getElem?_eq_some_iff.1 h3).1
    exact ⟨h1, h2, sv, (hk.block gb hlt (hd gb hlt h2)).trans h3, owns_kept h4 hk (fun q hq hR => hd q (h4.lt q hq).2 (h5 q hq) hR), h5⟩
  step := by
    rintro k i l h w outs J hk ⟨h1, h2, sv, h3, h4, h5⟩ hJ hol x y hx hy
    have hkl : k < L.length := (List.getElem?_eq_some_iff.1 hk).1
    have p := g.pre k i l h hk
    have e1 : pl L l = pl (L.take k) l := by
      have := pl_append (M := L.drop k) p.1
      rwa [List.take_append_drop] at this
    have e2 : pl L h = pl (L.take k) h := by
      have := pl_append (M := L.drop k) p.2.1
      rwa [List.take_append_drop] at this
    rw [h1] at hx hy
    have hx' := range_get hx
    have hy' := range_get hy
    rw [e1] at hx'
    rw [e2] at hy'
    subst hx'
    subst hy'
    refine (folds1_calls h3 h4 (by omega) _ _ _).mono ?_
    rintro e w' ⟨rfl, ao, cap, g1, g2, g3, g4⟩
    refine ⟨_, rfl, _, rfl, ⟨?_, h2, _, g1, ?_, ?_⟩, Kept.mono g3 (fun b _ hb => ?_)⟩
    · rw [h1, show k + 1 + 2 = (k + 2) + 1 from by omega, List.range_succ (n := k + 2), List.map_append]
      simp
    · rw [take_succ_node hk, enc_snoc (good_take g k) p.1 p.2.1, cellsOf_snoc]
      exact g2
    · intro q hq
      rcases g4 with e | ⟨b', e, hb'⟩
      · rw [e] at hq
        exact h5 q hq
      · rw [e] at hq
        cases hq
        exact hJ _ hb'
    · rcases hb with rfl | hb
      · exact h2
      · exact h5 _ hb

end Go.Proofs.Ytefclohjeompkaa

/- The reference: Through. -/
namespace Go.Proofs.Ytefclohjeompkaa
open Go Go.RowKit Go.Shelf Go.Proofs.Gen Go.Proofs.Bdd Go.Proofs.Bdd.T

theorem first_feat {s i : Nat} (hi : i < 24) (hb : s.testBit i = true) (hl : ∀ j, j < i → s.testBit j = false) : ∃ r, feats s = i :: r := by
  have h0 : featsTo s i = [] := by
    unfold featsTo
    rw [List.filter_eq_nil_iff]
    intro j hj
    rw [hl j (List.mem_range.1 hj)]
    simp
  have h1 : featsTo s (i + 1) = [i] := by rw [featsTo_succ, h0, hb]; rfl
  have hp := featsTo_prefix s (i + 1) (24 - (i + 1))
  rw [show i + 1 + (24 - (i + 1)) = 24 from by omega, h1] at hp
  obtain ⟨r, hr⟩ := hp
  exact ⟨r, hr.symm⟩

theorem rsupp_g {w : World} {v : Value} {f : F} (h : IsG w v f) : ∃ s, s < 16777216 ∧ (∀ i, s.testBit i = dep f i) ∧ ∀ w', Near w w' → Calls Try.prog 60 #[v] w' fun e w'' => e = .returned (.int .u32 (s : Nat)) ∧ Near w' w'' := by
  obtain ⟨V, hs⟩ := h
  have hV := hs.rise
  refine ⟨numb (deps f V), numb_lt fun i hi => (hV.all i (List.mem_filter.1 hi).1).2, fun i => ?_, fun w' hn => rsupport_calls (hs.near hn)⟩
  rw [numb_bit, Bool.eq_iff_iff]
  simp only [deps, List.contains_iff_mem, List.mem_filter]
  exact ⟨fun h' => h'.2, fun h' => ⟨dep_mem hs h', h'⟩⟩

/-- What Through leaves. -/
def ThruPost (L : List T) (t : T) (w : World) (e : Ending) (w' : World) : Prop :=
  ∃ sv lv, e = .returned (.agg #[sv, lv]) ∧ Sets 37 IsG 0 w' sv ((go t L).map fun s => s.ev) ∧ w'.ownsRow 0 26 3 lv (go t L).length (cellsOf (enc (go t L))) ∧ Near w w'

theorem go_found {L : List T} {t : T} (h : In L t) : go t L = L := by
  cases t with
  | leaf b => rfl
  | node i l r =>
    have hm : node i l r ∈ L := h
    simp only [go, if_pos hm]

theorem kept_two {w : World} {b : Nat} (x y : Value) : Kept (fun k => k = b) w ((w.setCell ⟨b, 0, none⟩ x).setCell ⟨b, 1, none⟩ y) :=
  Kept.setCell (S := fun k => k = b) (Kept.setCell (S := fun k => k = b) (Kept.refl _ w) (p := ⟨b, 0, none⟩) (fun _ => rfl) x) (p := ⟨b, 1, none⟩) (fun _ => rfl) y
theorem only_two {w : World} {b : Nat} {cs : Array Value} {e : TypeId} {fr : Nat × Nat} (hb : w.heap[b]? = some (.cells cs e fr)) (x y : Value) : OnlyOf e w ((w.setCell ⟨b, 0, none⟩ x).setCell ⟨b, 1, none⟩ y) :=
  ⟨fun k => k = b, kept_two x y, fun k _ hk => by subst hk; exact ⟨_, _, hb⟩⟩

set_option maxRecDepth 100000 in
set_option maxHeartbeats 1600000 in
theorem through_found {w : World} {sv lv va : Value} {L : List T} {t : T} (g : T.Good L) (hlen : L.length < 1099511627776) (hs : Sets 37 IsG 0 w sv (L.map fun s => s.ev)) (hr : w.ownsRow 0 26 3 lv L.length (cellsOf (enc L)))
    (ha : IsG w va t.ev) (ok : t.Ok) (hin : In L t) : Calls Try.prog 86 #[.agg #[sv, lv], va] w (ThruPost L t w) := by
  have hpl : placeZ L t = (pl L t : Nat) := placeZ_in hin
  have hplt := pl_lt hin
  unfold ThruPost
  rw [go_found hin]
  have HP := Lib.hid hpl
  have HA := Lib.hid ha
  have HS := Lib.hid hs
  have HR := Lib.hid hr
  have HLk := Lib.hid (show ∀ s ∈ L, s.Ok from fun s h => (g.all s h).2)
  obtain ⟨a1, a2, a3, a4, a5, a6, rfl⟩ := ha.form
  obtain ⟨so, sc, rfl⟩ := hs.form
  obtain ⟨lo, lc, rfl⟩ := owns_form hr
  clear ha hs hr hin hpl
  obtain ⟨m, hm⟩ : ∃ m, (L.map fun s => s.ev).length = m := ⟨_, rfl⟩
  rw [hm] at HS ⊢
  clear hm
  obtain ⟨pz, hpz⟩ : ∃ pz, pz = pl L t := ⟨_, rfl⟩
  rw [← hpz] at HP hplt
  clear hpz
  have hN : Near w (((w.alloc (.cells #[.slice so m sc, .slice lo L.length lc] 113)).alloc (.cells #[.slice a1 a2 a3, .slice a4 a5 a6] 37)).alloc (.cells #[.slice none 0 0, .slice none 0 0] 113)) := (((Near.refl w).alloc _).alloc _).alloc _
  have hB : (((w.alloc (.cells #[.slice so m sc, .slice lo L.length lc] 113)).alloc (.cells #[.slice a1 a2 a3, .slice a4 a5 a6] 37)).alloc (.cells #[.slice none 0 0, .slice none 0 0] 113)).heap[w.heap.size]? = some (.cells #[.slice so m sc, .slice lo L.length lc] 113 (0, 0)) := by
    rw [heap_old_at (by simp <;> omega), heap_old_at (by simp), heap_new_at rfl]
  have hE : (((w.alloc (.cells #[.slice so m sc, .slice lo L.length lc] 113)).alloc (.cells #[.slice a1 a2 a3, .slice a4 a5 a6] 37)).alloc (.cells #[.slice none 0 0, .slice none 0 0] 113)).heap[w.heap.size + 1]? = some (.cells #[.slice a1 a2 a3, .slice a4 a5 a6] 37 (0, 0)) := by
    rw [heap_old_at (by simp), heap_new_at (by simp)]
  have hO : (((w.alloc (.cells #[.slice so m sc, .slice lo L.length lc] 113)).alloc (.cells #[.slice a1 a2 a3, .slice a4 a5 a6] 37)).alloc (.cells #[.slice none 0 0, .slice none 0 0] 113)).heap[w.heap.size + 1 + 1]? = some (.cells #[.slice none 0 0, .slice none 0 0] 113 (0, 0)) := heap_new_at (by simp)
  go_enter Try.func86, Try.ntmps86
  go_upto_region 1 with fail
  generalize (((w.alloc (.cells #[.slice so m sc, .slice lo L.length lc] 113)).alloc (.cells #[.slice a1 a2 a3, .slice a4 a5 a6] 37)).alloc (.cells #[.slice none 0 0, .slice none 0 0] 113)) = W at hN hB hE hO ⊢
  have HN := Lib.hid hN
  have HB := Lib.hid hB
  have HO := Lib.hid hO
  have b0 := cell1 (o := 0) hB rfl
  have b1 := cell1 (o := 1) hB rfl
  have e0 := cell1 (o := 0) hE rfl
  have e1 := cell1 (o := 1) hE rfl
  clear hN hB hE hO
  go_wp2_with (go_at_call 87; refine (place_calls (L := L) (t := t) (HS.out.map HN.out (fun _ _ h => h.near HN.out)) (HA.out.near HN.out) ok HLk.out hlen).mono ?_; rintro e v1 ⟨rfl, n1⟩; rw [HP.out]; have HN1 := Lib.hid n1; have b0 := n1.cell b0; have b1 := n1.cell b1; have hO1 := keepN n1 HO.out; have f0 := free1 hO1; have o0 := cell1 (o := 0) hO1 rfl; have o1 := cell1 (o := 1) hO1 rfl; have HO1 := Lib.hid hO1; clear n1 hO1)
  have hw5 := setCell_heap (setCell_heap HO1.out 0 (.slice so m sc)) 1 (.slice lo L.length lc)
  have y0 := cell1 (o := 0) hw5 rfl
  have y1 := cell1 (o := 1) hw5 rfl
  have hn := HN.out.trans HN1.out
  have hO' := only_two HO1.out (.slice so m sc) (.slice lo L.length lc)
  exact bodyPost_ret (v := .agg #[.slice so m sc, .slice lo L.length lc]) (by simp [results, Try.results86, go_sem, y0, y1]) rfl
    ⟨_, _, rfl, (HS.out.map hn (fun _ _ h => h.near hn)).only hO' (by decide) (fun _ _ h => h.only hO' (by decide) (by decide)), hO'.owns (by decide) (owns_kept HR.out hn.kept (fun _ _ h => h)),
      (hn.set (by show w.heap.size ≤ w.heap.size + 1 + 1; omega) _).set (by show w.heap.size ≤ w.heap.size + 1 + 1; omega) _⟩

end Go.Proofs.Ytefclohjeompkaa
