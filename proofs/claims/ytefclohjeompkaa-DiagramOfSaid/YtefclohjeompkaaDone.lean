/- The contract of the maker's 'done': the listing of a tree in the document's order. -/
import Derived.Test.YtefclohjeompkaaNode
namespace Go.Proofs.Ytefclohjeompkaa
open Go Go.RowKit Go.Proofs.Gen Go.Proofs.Bdd Go.Proofs.Bdd.T
open Go.Maps (Keyed)

/-- What the map of places holds. -/
def placed (L acc : List T) (x : Value) (u : Int) : Prop :=
  (x = .int .i64 0 ∧ u = 0) ∨ (x = .int .i64 1 ∧ u = 1) ∨ ∃ t ∈ acc, x = .int .i64 (pl L t : Nat) ∧ u = (pl acc t : Nat)

/-- The blocks that 'visit' reads. -/
structure VisEnv (w : World) (L : List T) (mb kb pB mB vB oB place : Nat) (sv : Value) : Prop where
  mkr : w.heap[mb]? = some (.cells #[sv, .map (some kb)] 154 (0, 0))
  row : w.ownsRow 0 26 3 sv L.length (cellsOf (enc L))
  pc : w.heap[pB]? = some (.cells #[.map (some place)] 156 (0, 0))
  mc : w.heap[mB]? = some (.cells #[.pointer (some ⟨mb, 0, none⟩)] 100 (0, 0))
  vc : w.heap[vB]? = some (.cells #[.func (.func 124) #[] #[.pointer (some ⟨pB, 0, none⟩), .pointer (some ⟨mB, 0, none⟩), .pointer (some ⟨vB, 0, none⟩), .pointer (some ⟨oB, 0, none⟩)]] 157 (0, 0))

/-- The blocks that 'visit' writes, all in R: the list, of m nodes, and the map of places. -/
def VSt (w : World) (R : Nat → Prop) (oB place m : Nat) (xs : List Value) (M : Value → Int → Prop) : Prop :=
  ∃ ov n, w.heap[oB]? = some (.cells #[ov] 22 (0, 0)) ∧ w.ownsRow 0 26 3 ov m xs ∧ mapIs w Try.prog 3 3 place n M ∧ n ≤ m + 2 ∧ R oB ∧ R place ∧ ∀ k, ov.ownBlock = some k → R k

def VisSt (w : World) (R : Nat → Prop) (L acc : List T) (oB place : Nat) : Prop := VSt w R oB place acc.length (cellsOf (enc acc)) (placed L acc)

set_option maxHeartbeats 400000 in
theorem visit_hit (r u : Int) (pB mB vB oB place n : Nat) (M : Value → Int → Prop) (w : World) (hr : (Lit.int .i64 r).wf = true)
    (hp : w.heap[pB]? = some (.cells #[.map (some place)] 156 (0, 0))) (hmap : mapIs w Try.prog 3 3 place n M) (hM : M (.int .i64 r) u) :
    Calls Try.prog 124 #[.int .i64 r, .pointer (some ⟨pB, 0, none⟩), .pointer (some ⟨mB, 0, none⟩), .pointer (some ⟨vB, 0, none⟩), .pointer (some ⟨oB, 0, none⟩)] w fun e w' => e = .returned (.int .i64 u) ∧ w = w' := by
  have c0 : w.cell? ⟨pB, 0, none⟩ = some (.map (some place)) := by simp [World.cell?, hp]
  clear hp
  have HM := Lib.hid hmap
  clear hmap
  go_enter Try.func124, Try.ntmps124
  go_wp2_with (at_lookup; refine wpList_lookup_hit rfl (.tmp 13) (.tmp 14) rfl law3 Try.underlying156 Try.underlying3 (zero3 _) rfl HM.out _ u _ rfl (Maps.keyOf_int_mk Try.underlying3 hr) hM ?_)
  go_ret
  exact ⟨rfl, rfl⟩

theorem tri_cells {w : World} {v : Value} {l : List Tri} (h : w.ownsRow 0 26 3 v l.length (cellsOf l)) {k : Nat} {x : Tri} (hk : l[k]? = some x) :
    ∃ g cap, v = .slice (some ⟨g, 0, none⟩) l.length cap ∧ w.cell? ⟨g, k * 3, none⟩ = some (.int .i64 x.v) ∧ w.cell? ⟨g, k * 3 + 1, none⟩ = some (.int .i64 x.lo) ∧ w.cell? ⟨g, k * 3 + 2, none⟩ = some (.int .i64 x.hi) := by
  have hlt : k < l.length := (List.getElem?_eq_some_iff.1 hk).1
  rcases h.2 with ⟨_, h0⟩ | ⟨g, cap, cur, rfl, _, hg, _, _, hs, ht⟩
  · omega
  · refine ⟨g, cap, rfl, ?_⟩
    have at' : ∀ (l : List Tri) (k : Nat) (x : Tri), l[k]? = some x → ∀ j, j < 3 → (cellsOf l)[k * 3 + j]? = (triC x)[j]? := by
      intro l
      induction l with
      | nil => intro k x h; simp at h
      | cons y r ih =>
        intro k x hk j hj
        have e : cellsOf (y :: r) = triC y ++ cellsOf r := rfl
        have ly : (triC y).length = 3 := rfl
        rw [e]
        cases k with
        | zero =>
          simp at hk
          subst hk
          rw [List.getElem?_append_left (by omega), Nat.zero_mul, Nat.zero_add]
        | succ k =>
          rw [List.getElem?_append_right (by omega), ly, show (k + 1) * 3 + j - 3 = k * 3 + j from by omega]
          exact ih k x (by simpa using hk) j hj
    have look : ∀ j, j < 3 → w.cell? ⟨g, k * 3 + j, none⟩ = (triC x)[j]? := by
      intro j hj
      have a := at' l k x hk j hj
      rw [← ht, List.getElem?_take, if_pos (by omega)] at a
      simp only [World.cell?, hg]
      simpa using a
    exact ⟨look 0 (by omega), look 1 (by omega), look 2 (by omega)⟩

/-- What 'visit' leaves. -/
def VisPost (R : Nat → Prop) (w : World) (L : List T) (oB place : Nat) (t : T) (acc : List T) (e : Ending) (w' : World) : Prop :=
  e = .returned (.int .i64 ((pl (go t acc) t : Nat) : Int)) ∧ VisSt w' R L (go t acc) oB place ∧ Kept R w w'

theorem VisEnv.kept {w w' : World} {R : Nat → Prop} {L : List T} {mb kb pB mB vB oB place : Nat} {sv : Value} (h : VisEnv w L mb kb pB mB vB oB place sv) (hk : Kept R w w')
    (hd : ¬ R mb ∧ ¬ R pB ∧ ¬ R mB ∧ ¬ R vB ∧ ∀ k, sv.ownBlock = some k → ¬ R k) : VisEnv w' L mb kb pB mB vB oB place sv := by
  have lt : ∀ {b : Nat} {o : Obj}, w.heap[b]? = some o → b < w.heap.size := fun h => (Array.getElem?_eq_some_iff.1 h).1
  refine ⟨(hk.block _ (lt h.mkr) hd.1).trans h.mkr, ⟨h.row.1, ?_⟩, (hk.block _ (lt h.pc) hd.2.1).trans h.pc, (hk.block _ (lt h.mc) hd.2.2.1).trans h.mc, (hk.block _ (lt h.vc) hd.2.2.2.1).trans h.vc⟩
  rcases h.row.2 with hh | ⟨g, cap, cur, rfl, hb, hg, r⟩
  · exact .inl hh
  · exact .inr ⟨g, cap, cur, rfl, hb, (hk.block g (lt hg) (hd.2.2.2.2 g rfl)).trans hg, r⟩

theorem VSt.mono {w : World} {R R' : Nat → Prop} {oB place m : Nat} {xs : List Value} {M : Value → Int → Prop} (h : VSt w R oB place m xs M) (hs : ∀ k, k < w.heap.size → R k → R' k) : VSt w R' oB place m xs M := by
  obtain ⟨ov, n, ho, hr, hm, hn, r1, r2, r3⟩ := h
  exact ⟨ov, n, ho, hr, hm, hn, hs _ (Array.getElem?_eq_some_iff.1 ho).1 r1, hs _ hm.lt r2, fun k hk => hs _ (hr.lt k hk).2 (r3 k hk)⟩

theorem VSt.alloc {w : World} {R : Nat → Prop} {oB place m : Nat} {xs : List Value} {M : Value → Int → Prop} (h : VSt w R oB place m xs M) (o : Obj) : VSt (w.alloc o) R oB place m xs M := by
  obtain ⟨ov, n, ho, hr, hm, hn, r1, r2, r3⟩ := h
  exact ⟨ov, n, (Below.heap_alloc w o _ (Array.getElem?_eq_some_iff.1 ho).1).trans ho, hr.alloc o, hm.of_block (Below.heap_alloc w o _ hm.lt), hn, r1, r2, r3⟩

set_option maxRecDepth 100000 in
set_option maxHeartbeats 400000 in
/-- The way on which a node is listed; its children's listing is taken as it comes. -/
theorem visit_miss (R : Nat → Prop) (r : Nat) (x : Tri) (pB mB vB oB place mb kb g n cap N : Nat) (M : Value → Int → Prop) (lo hi : Int) (m : Nat) (xs : List Value) (M2 : Value → Int → Prop) (w : World)
    (hr : 2 ≤ r) (hrn : r < n + 2) (hn : n < 1099511627776) (hmn : m < 1099511627776) (hR : ∀ k, w.heap.size ≤ k → R k)
    (hp : w.heap[pB]? = some (.cells #[.map (some place)] 156 (0, 0))) (hmap : mapIs w Try.prog 3 3 place N M) (hM : ∀ u, ¬ M (.int .i64 r) u)
    (hmb : w.heap[mb]? = some (.cells #[.slice (some ⟨g, 0, none⟩) n cap, .map (some kb)] 154 (0, 0)))
    (hmc : w.heap[mB]? = some (.cells #[.pointer (some ⟨mb, 0, none⟩)] 100 (0, 0)))
    (hv : w.heap[vB]? = some (.cells #[.func (.func 124) #[] #[.pointer (some ⟨pB, 0, none⟩), .pointer (some ⟨mB, 0, none⟩), .pointer (some ⟨vB, 0, none⟩), .pointer (some ⟨oB, 0, none⟩)]] 157 (0, 0)))
    (x0 : w.cell? ⟨g, (r - 2) * 3, none⟩ = some (.int .i64 x.v)) (x1 : w.cell? ⟨g, (r - 2) * 3 + 1, none⟩ = some (.int .i64 x.lo)) (x2 : w.cell? ⟨g, (r - 2) * 3 + 2, none⟩ = some (.int .i64 x.hi))
    (hd : ¬ R mb ∧ ¬ R pB ∧ ¬ R mB ∧ ¬ R vB)
    (h1 : Calls Try.prog 124 #[.int .i64 x.lo, .pointer (some ⟨pB, 0, none⟩), .pointer (some ⟨mB, 0, none⟩), .pointer (some ⟨vB, 0, none⟩), .pointer (some ⟨oB, 0, none⟩)] (w.alloc (.cells #[.int .i64 x.v, .int .i64 x.lo, .int .i64 x.hi] 26))
      fun e w1 => e = .returned (.int .i64 lo) ∧ Kept (fun k => R k ∧ k ≠ w.heap.size) (w.alloc (.cells #[.int .i64 x.v, .int .i64 x.lo, .int .i64 x.hi] 26)) w1 ∧
        Calls Try.prog 124 #[.int .i64 x.hi, .pointer (some ⟨pB, 0, none⟩), .pointer (some ⟨mB, 0, none⟩), .pointer (some ⟨vB, 0, none⟩), .pointer (some ⟨oB, 0, none⟩)] w1
          fun e w2 => e = .returned (.int .i64 hi) ∧ Kept (fun k => R k ∧ k ≠ w.heap.size) (w.alloc (.cells #[.int .i64 x.v, .int .i64 x.lo, .int .i64 x.hi] 26)) w2 ∧ VSt w2 R oB place m xs M2) :
    Calls Try.prog 124 #[.int .i64 r, .pointer (some ⟨pB, 0, none⟩), .pointer (some ⟨mB, 0, none⟩), .pointer (some ⟨vB, 0, none⟩), .pointer (some ⟨oB, 0, none⟩)] w fun e w' => e = .returned (.int .i64 (m + 1 + 1)) ∧ VSt w' R oB place (m + 1) (xs ++ [.int .i64 x.v, .int .i64 lo, .int .i64 hi]) (put M2 (.int .i64 r) (m + 1 + 1)) ∧ Kept R w w' := by
  have c0 : w.cell? ⟨pB, 0, none⟩ = some (.map (some place)) := by simp [World.cell?, hp]
  have c1 : w.cell? ⟨mB, 0, none⟩ = some (.pointer (some ⟨mb, 0, none⟩)) := by simp [World.cell?, hmc]
  have c2 : w.cell? ⟨mb, 0, none⟩ = some (.slice (some ⟨g, 0, none⟩) n cap) := by simp [World.cell?, hmb]
  have c3 : w.cell? ⟨vB, 0, none⟩ = some (.func (.func 124) #[] #[.pointer (some ⟨pB, 0, none⟩), .pointer (some ⟨mB, 0, none⟩), .pointer (some ⟨vB, 0, none⟩), .pointer (some ⟨oB, 0, none⟩)]) := by simp [World.cell?, hv]
  have lv := World.block_lt_of_cell? w ⟨vB, 0, none⟩ c3
  have lp := World.block_lt_of_cell? w ⟨pB, 0, none⟩ c0
  clear hp hmc hmb hv
  have HM := Lib.hid hmap
  have H1 := Lib.hid h1
  clear hmap h1
  go_enter Try.func124, Try.ntmps124
  go_wp2_with (at_lookup; refine wpList_lookup_miss rfl (.tmp 13) (.tmp 14) rfl law3 Try.underlying156 Try.underlying3 (zero3 _) rfl HM.out _ _ rfl (Maps.keyOf_int_mk Try.underlying3 (wf_nat (by omega))) hM ?_)
  refine H1.out.mono ?_
  rintro e w1 ⟨rfl, hk1, h2⟩
  have H2 := Lib.hid h2
  clear h2
  have z0 := cell_alloc c0 (.cells #[.int .i64 x.v, .int .i64 x.lo, .int .i64 x.hi] 26)
  have z3 := cell_alloc c3 (.cells #[.int .i64 x.v, .int .i64 x.lo, .int .i64 x.hi] 26)
  have d3 := hk1.cell z3 (fun h => hd.2.2.2 h.1)
  have y2 := hk1.cell (b := w.heap.size) (o := 2) (v := .int .i64 x.hi) (by simp) (fun h => h.2 rfl)
  clear c0 c1 c2 c3 x0 x1 x2
  go_wp2_with fail
  refine H2.out.mono ?_
  rintro e w2 ⟨rfl, hk2, ov, N2, ho, hown, hmap2, hN2, r1, r2, r3⟩
  have b0 := hk2.cell z0 (fun h => hd.2.1 h.1)
  have b1 := hk2.cell (b := w.heap.size) (o := 0) (v := .int .i64 x.v) (by simp) (fun h => h.2 rfl)
  have b2 : w2.cell? ⟨oB, 0, none⟩ = some ov := by simp [World.cell?, ho]
  obtain ⟨i0, hi0, hz0, hz1, hz2⟩ := info_parts info26
  have hne := owns_ne hown ho (by decide : (26 : Nat) ≠ 22)
  have HO := Lib.hid ho
  have HW := Lib.hid hown
  have HM2 := Lib.hid hmap2
  clear z0 z3 d3 y2 ho hown hmap2
  have hpo : ¬ pB = oB := fun e => hd.2.1 (e ▸ r1)
  have hop : ¬ oB = pB := fun e => hd.2.1 (e ▸ r1)
  have hok : oB ≠ place := by
    rintro rfl
    obtain ⟨es, clock, hb, _⟩ := HM2.out
    rw [HO.out] at hb
    cases hb
  have hnk : ov.ownBlock ≠ some place := by
    obtain ⟨es, clock, hb, _⟩ := HM2.out
    exact owns_ne_map HW.out hb
  have hnp : ov.ownBlock ≠ some pB := fun e => hd.2.1 (r3 _ e)
  have hplt := HM2.out.lt
  have hp2 : Hid (∃ x, w2.heap[pB]? = some x) := Lib.hid ⟨w2.heap[pB]'(World.block_lt_of_cell? w2 ⟨pB, 0, none⟩ b0), Array.getElem?_eq_getElem _⟩
  have PC : ∀ w3 : World, (w2.alloc (.cells #[.int .i64 x.v, .int .i64 lo, .int .i64 hi] 26)).grownBy w3 ov.ownBlock → w3.cell? ⟨pB, 0, none⟩ = some (.map (some place)) := fun w3 hg3 => by
    obtain ⟨y, hy⟩ := hp2.out
    rw [← b0]
    exact World.cell?_of_block (w := w2) ((grown_alloc_heap hg3 hy hnp).trans hy.symm)
  go_wp2_with (first
    | (at_builtin; refine wpList_append_in rfl (.tmp 36) (.tmp 42) 22 rfl 0 26 i0 (.agg #[.int .i64 0, .int .i64 0, .int .i64 0]) 3 24 Try.underlying22 hi0 hz0 hz1 hz2 rfl (by decide) ov m xs rfl (by exact HW.out.alloc _) ⟨w2.heap.size, 0, none⟩ 1 1 [.int .i64 x.v, .int .i64 lo, .int .i64 hi] rfl rfl (by exact cell_three_at rfl _ _ _ _) (by simp [Value.oneCell']) (by unfold maxLen; omega) (by omega) (by omega) ?_; intro ao cap w3 hown3 hg3 hl3; have E3 := Lib.hid (grown_alloc_heap hg3 HO.out hne); have f1 := cell1 (o := 0) E3.out rfl; have f2 := free1 E3.out 0; have f3 := PC w3 hg3)
    | (at_mapUpdate; refine wpList_mapUpdate_is rfl (.tmp 44) (.tmp 45) (.tmp 48) rfl law3 Try.underlying156 Try.underlying3 rfl (M := M2) (n := N2) (b := place) (HM2.out.of_block ?_) (by unfold maxLen; omega) _ _ _ rfl rfl (Maps.keyOf_int_mk Try.underlying3 (wf_nat (by omega))) (WalkArith.wf_i64 (by omega)) ?_))
  · rw [Below.heap_setCell _ _ _ _ (Ne.symm hok)]
    obtain ⟨es, clock, hb, _⟩ := HM2.out
    exact (grown_alloc_heap hg3 hb hnk).trans hb.symm
  · intro es clock hm4
    have G1 : Hid ((Go.ChangeMaps.setBlock (w3.setCell ⟨oB, 0, none⟩ (.slice ao (m + 1) cap)) place (.map es clock)).heap[oB]? = some (.cells #[.slice ao (m + 1) cap] 22 (0, 0))) := by
      rw [setBlock_heap _ hok, setCell_heap E3.out]; rfl
    have g1 := cell1 (o := 0) G1.out rfl
    have HM4 := Lib.hid hm4
    clear hm4
    go_wp2_with fail
    go_ret
    have hp4 : (Value.slice ao (m + 1) cap).ownBlock ≠ some place := by
      rcases hl3 with h | h <;> rw [h]
      · exact hnk
      · simp; omega
    have hR2 : w.heap.size ≤ w2.heap.size := by have := hk2.size; simp at this; omega
    refine ⟨rfl, ⟨_, N2 + 1, G1.out, owns_setBlock (owns_setCell hown3 E3.out (by decide) 0 _) hp4 _, HM4.out, by omega, r1, r2, ?_⟩, ?_⟩
    · intro k hk
      rcases hl3 with h | h <;> rw [h] at hk
      · exact r3 k hk
      · simp at hk
        exact hR k (by omega)
    · refine setBlock_kept (Kept.setCell (Kept.grown (Kept.alloc (Kept.trans ((Kept.refl R w).alloc _) (hk2.mono fun k _ h => h.1)) _) hg3 (fun k hk _ => r3 k hk)) (fun _ => r1) _) (fun _ => r2) _

theorem placed_snoc {L acc : List T} (hsub : ∀ s ∈ acc, s ∈ L) {i : Nat} {l h : T} (hin : node i l h ∈ L) (hn : node i l h ∉ acc) (x : Value) (u : Int) :
    placed L (acc ++ [node i l h]) x u ↔ put (placed L acc) (.int .i64 (pl L (node i l h) : Nat)) (acc.length + 1 + 1) x u := by
  have inL : ∀ s ∈ acc, In L s := fun s hs => by
    cases s with
    | leaf => trivial
    | node => exact hsub _ hs
  have inA : ∀ s ∈ acc, In acc s := fun s hs => by
    cases s with
    | leaf => trivial
    | node => exact hs
  have h2 := pl_node (L := L) i l h
  unfold placed put
  constructor
  · rintro (⟨rfl, rfl⟩ | ⟨rfl, rfl⟩ | ⟨t, ht, rfl, rfl⟩)
    · exact .inr ⟨by simp; omega, .inl ⟨rfl, rfl⟩⟩
    · exact .inr ⟨by simp; omega, .inr (.inl ⟨rfl, rfl⟩)⟩
    · rcases List.mem_append.1 ht with ht | ht
      · refine .inr ⟨fun e => hn ?_, .inr (.inr ⟨t, ht, rfl, by rw [pl_append (inA t ht)]⟩)⟩
        simp only [Value.int.injEq, true_and] at e
        rw [← pl_inj (inL t ht) (show In L (node i l h) from hin) (by omega)]
        exact ht
      · simp at ht
        subst ht
        exact .inl ⟨rfl, by rw [pl_snoc hn]; omega⟩
  · rintro (⟨rfl, rfl⟩ | ⟨hne, ⟨rfl, rfl⟩ | ⟨rfl, rfl⟩ | ⟨t, ht, rfl, rfl⟩⟩)
    · exact .inr (.inr ⟨node i l h, by simp, rfl, by rw [pl_snoc hn]; omega⟩)
    · exact .inl ⟨rfl, rfl⟩
    · exact .inr (.inl ⟨rfl, rfl⟩)
    · exact .inr (.inr ⟨t, List.mem_append_left _ ht, rfl, by rw [pl_append (inA t ht)]⟩)

/-- THE CONTRACT OF 'visit'. -/
theorem visit_calls {L : List T} (g : T.Good L) (hlen : L.length < 1099511627776) {mb kb pB mB vB oB place : Nat} {sv : Value} :
    ∀ (t : T) (R : Nat → Prop) (acc : List T) (w : World), t.Ok → In L t → T.Good acc → (∀ s ∈ acc, s ∈ L) → acc.length + room t ≤ 1099511627776 →
      (∀ k, w.heap.size ≤ k → R k) → (¬ R mb ∧ ¬ R pB ∧ ¬ R mB ∧ ¬ R vB ∧ ∀ k, sv.ownBlock = some k → ¬ R k) → VisEnv w L mb kb pB mB vB oB place sv → VisSt w R L acc oB place → ∀ r : Int, r = (pl L t : Nat) →
      Calls Try.prog 124 #[.int .i64 r, .pointer (some ⟨pB, 0, none⟩), .pointer (some ⟨mB, 0, none⟩), .pointer (some ⟨vB, 0, none⟩), .pointer (some ⟨oB, 0, none⟩)] w (VisPost R w L oB place t acc) := by
  intro t
  induction t with
  | leaf b =>
    intro R acc w ok hin ga hsub hroom hR hd env st r hr
    subst hr
    obtain ⟨ov, n, ho, hown, hmap, hn, r1, r2, r3⟩ := st
    refine (visit_hit (pl L (leaf b) : Nat) (pl L (leaf b) : Nat) pB mB vB oB place n _ w (wf_nat (by cases b <;> simp [pl])) env.pc hmap ?_).mono ?_
    · cases b
      · exact .inl ⟨rfl, rfl⟩
      · exact .inr (.inl ⟨rfl, rfl⟩)
    · rintro e w' ⟨rfl, rfl⟩
      exact ⟨by cases b <;> rfl, ⟨ov, n, ho, hown, hmap, hn, r1, r2, r3⟩, Kept.refl _ _⟩
  | node i l h ihl ihh =>
    intro R acc w ok hin ga hsub hroom hR hd env st r hr
    subst hr
    have st0 := st
    obtain ⟨ov, n, ho, hown, hmap, hn, r1, r2, r3⟩ := st
    have hb := pl_lt hin
    have h2 := pl_node (L := L) i l h
    by_cases hm : node i l h ∈ acc
    · refine (visit_hit (pl L (node i l h) : Nat) (pl acc (node i l h) : Nat) pB mB vB oB place n _ w (wf_nat (by omega)) env.pc hmap ?_).mono ?_
      · exact .inr (.inr ⟨_, hm, rfl, rfl⟩)
      · rintro e w' ⟨rfl, rfl⟩
        have e1 : go (node i l h) acc = acc := by simp [go, hm]
        unfold VisPost
        rw [e1]
        exact ⟨rfl, st0, Kept.refl _ _⟩
    · have kk := g.kids (show node i l h ∈ L from hin)
      have rk := room_kids ok
      have hget := pl_get (L := L) (i := i) (l := l) (h := h) hin
      have hge : (enc L)[pl L (node i l h) - 2]? = some (en L (node i l h)) := by simp [enc, hget]
      have hle : (enc L).length = L.length := by simp [enc]
      obtain ⟨gb, cap, hsv, x0, x1, x2⟩ := tri_cells (by rw [hle]; exact env.row) hge
      rw [hle] at hsv
      subst hsv
      have rl := go_room l acc ok.2.2.2.2.1
      have rh := go_room h (go l acc) ok.2.2.2.2.2
      have hal := room_pos h
      have gl := go_good l acc ok.2.2.2.2.1 ga
      have hsl := go_sub g l acc kk.1 hsub
      have hsh := go_sub g h (go l acc) kk.2 hsl
      have hnew := go_new i l h acc hm
      have hlt0 : oB < w.heap.size := (Array.getElem?_eq_some_iff.1 ho).1
      have hd' : ∀ b, ¬ R b → ¬ (R b ∧ b ≠ w.heap.size) := fun b hb h => hb h.1
      have hdd : ¬ (R mb ∧ mb ≠ w.heap.size) ∧ ¬ (R pB ∧ pB ≠ w.heap.size) ∧ ¬ (R mB ∧ mB ≠ w.heap.size) ∧ ¬ (R vB ∧ vB ≠ w.heap.size) ∧
          ∀ k, (Value.slice (some ⟨gb, 0, none⟩) L.length cap).ownBlock = some k → ¬ (R k ∧ k ≠ w.heap.size) :=
        ⟨hd' _ hd.1, hd' _ hd.2.1, hd' _ hd.2.2.1, hd' _ hd.2.2.2.1, fun k hk => hd' _ (hd.2.2.2.2 k hk)⟩
      refine (visit_miss R (pl L (node i l h)) (en L (node i l h)) pB mB vB oB place mb kb gb L.length cap n (placed L acc) (pl (go l acc) l : Nat) (pl (go h (go l acc)) h : Nat)
        (go h (go l acc)).length (cellsOf (enc (go h (go l acc)))) (placed L (go h (go l acc))) w h2 hb hlen (by omega) hR env.pc hmap ?_ env.mkr env.mc env.vc x0 x1 x2
        ⟨hd.1, hd.2.1, hd.2.2.1, hd.2.2.2.1⟩ ?_).mono ?_
      · rintro u (⟨he, _⟩ | ⟨he, _⟩ | ⟨s, hs, he, _⟩)
        · simp only [Value.int.injEq, true_and] at he; omega
        · simp only [Value.int.injEq, true_and] at he; omega
        · simp only [Value.int.injEq, true_and] at he
          have hsi : In L s := by
            cases s with
            | leaf => trivial
            | node => exact hsub _ hs
          rw [pl_inj hin hsi (by omega)] at hm
          exact hm hs
      · have env1 : VisEnv (w.alloc (.cells #[.int .i64 (en L (node i l h)).v, .int .i64 (en L (node i l h)).lo, .int .i64 (en L (node i l h)).hi] 26)) L mb kb pB mB vB oB place (.slice (some ⟨gb, 0, none⟩) L.length cap) :=
          env.kept (R := fun _ => False) ((Kept.refl _ w).alloc _) ⟨id, id, id, id, fun _ _ => id⟩
        have st1 := (VSt.alloc st0 (.cells #[.int .i64 (en L (node i l h)).v, .int .i64 (en L (node i l h)).lo, .int .i64 (en L (node i l h)).hi] 26))
        have st1' : VisSt (w.alloc (.cells #[.int .i64 (en L (node i l h)).v, .int .i64 (en L (node i l h)).lo, .int .i64 (en L (node i l h)).hi] 26)) (fun k => R k ∧ k ≠ w.heap.size) L acc oB place := by
          obtain ⟨ov', n', ho', hw', hm', hn', q1, q2, q3⟩ := st0
          exact ⟨ov', n', (Below.heap_alloc w _ _ (Array.getElem?_eq_some_iff.1 ho').1).trans ho', hw'.alloc _, hm'.of_block (Below.heap_alloc w _ _ hm'.lt), hn', ⟨q1, by omega⟩, ⟨q2, by have := hm'.lt; omega⟩,
            fun k hk => ⟨q3 k hk, by have := (hw'.lt k hk).2; omega⟩⟩
        clear st1
        refine (ihl (fun k => R k ∧ k ≠ w.heap.size) acc _ ok.2.2.2.2.1 kk.1 ga hsub (by omega) (fun k hk => ?_) hdd env1 st1' _ rfl).mono ?_
        · simp at hk
          exact ⟨hR k (by omega), by omega⟩
        · rintro e w1 ⟨rfl, stl, hk1⟩
          refine ⟨rfl, hk1, ?_⟩
          have hz1 := hk1.size
          simp at hz1
          refine (ihh (fun k => R k ∧ k ≠ w.heap.size) (go l acc) w1 ok.2.2.2.2.2 kk.2 gl hsl (by omega) (fun k hk => ⟨hR k (by omega), by omega⟩) hdd (env1.kept hk1 hdd) stl _ rfl).mono ?_
          rintro e w2 ⟨rfl, sth, hk2⟩
          exact ⟨rfl, hk1.trans hk2, VSt.mono sth (fun k _ h => h.1)⟩
      · rintro e w' ⟨rfl, hst, hk⟩
        have e1 : go (node i l h) acc = go h (go l acc) ++ [node i l h] := by simp [go, hm]
        unfold VisPost
        rw [e1, pl_snoc hnew]
        refine ⟨rfl, ?_, hk⟩
        obtain ⟨ov', n', ho', hw', hm', hn', q1, q2, q3⟩ := hst
        have gh := go_good h _ ok.2.2.2.2.2 gl
        refine ⟨ov', n', ho', ?_, hm'.congr (placed_snoc hsh hin hnew), by simp; omega, q1, q2, q3⟩
        rw [enc_snoc gh (go_mono (go_in l acc)) (go_in h _), ← go_pl (t := h) (go_in l acc)] at *
        simpa [cellsOf, triC, en, go_pl (t := h) (go_in l acc)] using hw'

end Go.Proofs.Ytefclohjeompkaa
