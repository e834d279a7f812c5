/- Parts of a proof: Coll, PrimB. -/
import Derived.Deep.Onto
import Derived.Test.YtefclohjeompkaaKPrimA
/- Collect: the features of a number, by the library's loop over the iterator (CI is ListF's LI, turned). -/
namespace Go.Proofs.Ytefclohjeompkaa
open Go Go.RowKit Go.Shelf Go.Proofs.Gen Go.Proofs.Bdd Go.Proofs.Bdd.T
attribute [local go_sem] Oper.semAt_some

/-- The numbers collected so far, in the box B. -/
def CI (B : Nat) (W0 : World) (pre : List Nat) (W : World) : Prop :=
  ∃ ao cap, W.heap[B]? = some (.cells #[.slice ao pre.length cap] 28 (0, 0)) ∧ W.ownsRow W0.heap.size 3 1 (.slice ao pre.length cap) pre.length (pre.map iv) ∧ Kept (fun b => b = B) W0 W

theorem ci_own {B : Nat} {W0 : World} (hB : B < W0.heap.size) : OwnFrom W0.heap.size (CI B W0) := by
  intro pre W W' row ⟨ao, cap, h1, h2, h3⟩ hg hr
  refine ⟨ao, cap, ?_, ?_, h3.grown hg (fun r e hlt => absurd (hr r e).1 (by omega))⟩
  · exact (hg.block _ (Array.getElem?_eq_some_iff.1 h1).1 (fun e => by have := (hr _ e.symm).1; omega)).trans h1
  · have hk : Kept (fun b => some b = row) W W' := ⟨hg.os, hg.tape, hg.output, hg.size, fun k hk hn => hg.block k hk hn⟩
    refine owns_kept h2 hk (R := fun b => some b = row) (fun k hk' hrk => ?_)
    obtain ⟨_, cur, fr, hc⟩ := own_blockP h2 hk'
    obtain ⟨_, o, ho, hoc⟩ := hr k hrk.symm
    rw [hc] at ho
    cases ho
    cases hoc

theorem ci_step {B b0 : Nat} {W0 W w3 : World} {pre : List Nat} {x : Nat} {ao ao3 : Option Addr} {cap cap3 : Nat} {o : Obj} (hB : B < W0.heap.size) (hb0 : b0 < W0.heap.size) (hne0 : b0 ≠ B)
    (h1 : W.heap[B]? = some (.cells #[.slice ao pre.length cap] 28 (0, 0))) (h2 : W.ownsRow W0.heap.size 3 1 (.slice ao pre.length cap) pre.length (pre.map iv)) (h3 : Kept (fun b => b = B) W0 W)
    (hg : (W.alloc o).grownBy w3 (Value.slice ao pre.length cap).ownBlock) (hown : w3.ownsRow W0.heap.size 3 1 (.slice ao3 (pre.length + 1) cap3) (pre.length + 1) (pre.map iv ++ [iv x])) :
    w3.heap[B]? = some (.cells #[.slice ao pre.length cap] 28 (0, 0)) ∧ ∀ W4, W4 = w3.setCell ⟨B, 0, none⟩ (.slice ao3 (pre.length + 1) cap3) → KeepsFrom W0.heap.size W W4 ∧ CellAs b0 W W4 ∧ CI B W0 (pre ++ [x]) W4 := by
  have hne : ∀ k, (Value.slice ao pre.length cap).ownBlock = some k → k ≠ B := fun k hk e => by
    have := (own_blockP h2 hk).1
    omega
  have hlt : B < W.heap.size := (Array.getElem?_eq_some_iff.1 h1).1
  have hb3 : w3.heap[B]? = some (.cells #[.slice ao pre.length cap] 28 (0, 0)) := by
    refine (hg.block B (by simp; omega) (fun e => hne B e.symm rfl)).trans ?_
    exact (heap_old_at (by omega)).trans h1
  refine ⟨hb3, ?_⟩
  rintro W4 rfl
  have kAll : ∀ S : Nat → Prop, S B → (∀ k, (Value.slice ao pre.length cap).ownBlock = some k → S k) → Kept S W (w3.setCell ⟨B, 0, none⟩ (.slice ao3 (pre.length + 1) cap3)) := fun S s1 s2 =>
    Kept.setCell ((((Kept.refl S W).alloc o)).grown hg (fun k hk _ => s2 k hk)) (p := ⟨B, 0, none⟩) (fun _ => s1) _
  have k0 : Kept (fun b => b = B) W0 (w3.setCell ⟨B, 0, none⟩ (.slice ao3 (pre.length + 1) cap3)) :=
    Kept.setCell ((h3.alloc o).grown hg (fun k hk hlt => absurd (own_blockP h2 hk).1 (by omega))) (p := ⟨B, 0, none⟩) (fun _ => rfl) _
  refine ⟨⟨(kAll (fun _ => True) trivial (fun _ _ => trivial)).size, fun k o' hk hb hc => ?_⟩, ?_, ao3, cap3, ?_, ?_, k0⟩
  · have hn := (kAll (fun b => b = B ∨ (Value.slice ao pre.length cap).ownBlock = some b) (.inl rfl) (fun k hk => .inr hk)).block k (Array.getElem?_eq_some_iff.1 hb).1
    refine (hn ?_).trans hb
    rintro (e | e)
    · omega
    · obtain ⟨_, cur, fr, hcc⟩ := own_blockP h2 e
      rw [hcc] at hb
      cases hb
      cases hc
  · refine World.cell?_of_block ((kAll (fun b => b = B ∨ (Value.slice ao pre.length cap).ownBlock = some b) (.inl rfl) (fun k hk => .inr hk)).block b0 (Nat.lt_of_lt_of_le hb0 h3.size) ?_)
    rintro (e | e)
    · exact hne0 e
    · have := (own_blockP h2 e).1
      omega
  · have := setCell_heap hb3 0 (.slice ao3 (pre.length + 1) cap3)
    simpa using this
  · rw [List.length_append, List.map_append]
    refine owns_kept hown (Kept.setCell (S := fun b => b = B) (Kept.refl _ w3) (p := ⟨B, 0, none⟩) (fun _ => rfl) _) (R := fun b => b = B) (fun k hk hrk => ?_)
    have := (own_blockP hown hk).1
    omega


set_option maxRecDepth 100000 in
set_option maxHeartbeats 3200000 in
theorem appendSeq_calls {w : World} {b0 f : Nat} (hf : f < 4294967296) (hc : w.cell? ⟨b0, 0, none⟩ = some (.int .u32 f)) :
    Calls Try.prog 139 #[.slice none 0 0, .func (.func 140) #[] #[.pointer (some ⟨b0, 0, none⟩)]] w fun e w' => ∃ v, e = .returned v ∧ w'.ownsRow w.heap.size 3 1 v (feats f).length ((feats f).map iv) ∧ Near w w' := by
  have hlt0 := World.block_lt_of_cell? w _ hc
  obtain ⟨i0, hi0, hz0, hz1, hz2⟩ := info_parts info3
  have hN : Near w (w.alloc (.cells #[.slice none 0 0] 28)) := (Near.refl w).alloc _
  have hE : (w.alloc (.cells #[.slice none 0 0] 28)).heap[w.heap.size]? = some (.cells #[.slice none 0 0] 28 (0, 0)) := heap_new_at rfl
  have hS : (w.alloc (.cells #[.slice none 0 0] 28)).heap.size = w.heap.size + 1 := by simp
  refine (callsIn_wide (n := 6)).1 ?_
  refine callsIn_of_wp_marks Try.func139 rfl trivial ?_ rfl
  simp only [Try.ntmps139, List.size_toArray, List.length_cons, List.length_nil, Nat.reduceAdd, Nat.reduceSub, Array.replicate_succ, Array.replicate_zero, List.push_toArray, List.append_toArray, List.nil_append, List.cons_append]
  gi_wp2
  generalize (w.alloc (.cells #[.slice none 0 0] 28)) = W0 at hN hE hS ⊢
  have HN := Lib.hid hN
  have HE := Lib.hid hE
  have HS := Lib.hid hS
  have HC := Lib.hid (hN.cell hc)
  have hlt1 : b0 < w.heap.size := hlt0
  clear hN hE hS hc hlt0
  generalize hBB : w.heap.size = B at *
  have HBB := Lib.hid hBB
  clear hBB
  refine rangeFunc_oneP (q := 5) rfl (by omega) (gf := 140) (lb := #[.pointer (some ⟨b0, 0, none⟩)]) rfl trivial (enters_of Try.func140 (by kernel_rfl) rfl)
    (members_stops (6 - 1) (by omega) b0 f hf W0 HC.out) (fun h k => Eq.trans k h) ?hKb
    (fun pre W => CI B W0 pre W) (fun _ _ _ => False) (ci_own (by have := HS.out; omega)) (fun _ _ _ _ _ h _ _ => h) ⟨none, 0, HE.out, World.ownsRow_nil _ _ _ _, Kept.refl _ _⟩ ?assign ?body ?done (fun _ _ _ _ _ _ h _ => h.elim)
  case hKb =>
    intro W l o o' hl _ _ _
    exact World.cell?_of_block (World.putObj_heap_other (by have := HS.out; show b0 ≠ l; omega))
  case assign =>
    intro l x W K hK
    simp only [List.setIfInBounds_toArray, List.set_cons_zero, List.set_cons_succ] at hK ⊢
    gi_wp2
    exact hK
  case body =>
    rintro l pre x W ⟨ao1, cap1, hb, hown, hk⟩ hpl
    have hB0 : B < W0.heap.size := by have := HS.out; omega
    have HBx := Lib.hid hb
    have HOw := Lib.hid hown
    have HKp := Lib.hid hk
    have c0 : W.cell? ⟨B, 0, none⟩ = some (.slice ao1 pre.length cap1) := cell1 (o := 0) hb rfl
    have hsz := hk.size
    clear hb hown hk
    simp only [iv, List.setIfInBounds_toArray, List.set_cons_zero, List.set_cons_succ]
    gi_wp2_with (gi_at_builtin; refine wpListIn_append_own _ rfl (.tmp 8) (.tmp 10) 28 rfl W0.heap.size 3 i0 (.int .i64 0) 1 8 Try.underlying28 hi0 hz0 hz1 hz2 rfl (by decide) _ _ _ rfl (HOw.out.alloc _) ⟨W.heap.size, 0, none⟩ 1 1 [iv x] rfl rfl (cell_one_at rfl _ _) (by simp [Value.oneCell', iv]) (by unfold maxLen; omega) (by omega) (by simp <;> omega) ?_; intro v3 w3 hown3 hg3 _; obtain ⟨ao3, cap3, rfl⟩ := owns_form hown3; have HSt := Lib.hid (ci_step (x := x) (b0 := b0) hB0 (by omega) (by omega) HBx.out HOw.out HKp.out hg3 hown3); have d0 := cell1 (o := 0) HSt.out.1 rfl; have df := free1 HSt.out.1)
    exact HSt.out.2 _ rfl
  case done =>
    rintro D xs W hD rfl ⟨ao1, cap1, hb, hown, hk⟩ hdef
    have HOw := Lib.hid hown
    have HKp := Lib.hid hk
    have HDf := Lib.hid hdef
    have c0 : W.cell? ⟨B, 0, none⟩ = some (.slice ao1 (feats f).length cap1) := cell1 (o := 0) hb rfl
    clear hb hown hk hdef
    gi_wp2
    have hK := kept_putObj W D (Obj.deferred none)
    have hS := HS.out
    refine ⟨by simp, .inl ⟨_, _, rfl, run_takeDeferred HDf.out, ?_⟩⟩
    have hsz := HN.out.size'
    refine ⟨.slice ao1 (feats f).length cap1, ?_, _, rfl, ?_, ?_⟩
    · simp [results, Try.results139, go_sem]
    · have hw := owns_kept HOw.out hK (R := fun b => b = D) (fun k hk' hrk => by
        obtain ⟨_, cur, fr, hcc⟩ := own_blockP HOw.out hk'
        have e : k = D := hrk
        rw [e, HDf.out] at hcc
        cases hcc)
      exact World.ownsRow.mono hw (by omega)
    · exact Kept.mono ((HN.out.kept.trans (Kept.mono HKp.out (fun b _ e => (Or.inl e : b = B ∨ b = D)))).trans (Kept.mono hK (fun b _ e => (Or.inr e : b = B ∨ b = D)))) (fun b hb h => by have := HBB.out; rcases h with h | h <;> omega)

set_option maxRecDepth 100000 in
set_option maxHeartbeats 800000 in
theorem collect_calls {w : World} {b0 f : Nat} (hf : f < 4294967296) (hc : w.cell? ⟨b0, 0, none⟩ = some (.int .u32 f)) :
    Calls Try.prog 112 #[.func (.func 140) #[] #[.pointer (some ⟨b0, 0, none⟩)]] w fun e w' => ∃ v, e = .returned v ∧ w'.ownsRow w.heap.size 3 1 v (feats f).length ((feats f).map iv) ∧ Near w w' := by
  have HA := Lib.hid (appendSeq_calls hf hc)
  clear hc
  go_enter Try.func112, Try.ntmps112
  go_wp2_with (go_at_call 139; refine HA.out.mono ?_; rintro e w1 ⟨v, rfl, hr, n1⟩; have HR := Lib.hid hr; obtain ⟨ao, cap, rfl⟩ := owns_form hr; clear hr)
  exact bodyPost_ret (v := .slice ao (feats f).length cap) (by simp [results, Try.results112, go_sem]) rfl ⟨_, rfl, HR.out, n1⟩

end Go.Proofs.Ytefclohjeompkaa

/- The program's cubes: whether each lies in the set, told in order. -/
namespace Go.Proofs.Ytefclohjeompkaa
open Go Go.RowKit Go.Proofs.Gen Go.Proofs.Bdd Go.Proofs.Bdd.T

def bv (b : Bool) : Value := .bool b

/-- The answers so far: the box B, and a row of one's own from the block 'base' on. -/
def BI (B base : Nat) (L : List Bool) (w : World) : Prop :=
  ∃ ao cap, w.heap[B]? = some (.cells #[.slice ao L.length cap] 35 (0, 0)) ∧ w.ownsRow base 4 1 (.slice ao L.length cap) L.length (L.map bv)

/-- What telling may change: the box, and rows of answers from 'base' on. -/
def KB (B base : Nat) (w w' : World) : Prop := Kept (fun b => b = B ∨ (base ≤ b ∧ ∃ cur fr, w.heap[b]? = some (.cells cur 4 fr))) w w'

theorem BI.lt {B base : Nat} {L : List Bool} {w : World} (h : BI B base L w) : B < w.heap.size := by
  obtain ⟨ao, cap, h1, -⟩ := h
  exact (Array.getElem?_eq_some_iff.1 h1).1

theorem Near.kb {B base : Nat} {w w' : World} (h : Near w w') : KB B base w w' := h.kept
theorem KB.trans {B base : Nat} {a b c : World} (h : KB B base a b) (k : KB B base b c) : KB B base a c := by
  refine ⟨k.os.trans h.os, k.tape.trans h.tape, k.output.trans h.output, Nat.le_trans h.size k.size, fun x hx hs => ?_⟩
  have h1 := h.block x hx hs
  refine (k.block x (Nat.lt_of_lt_of_le hx h.size) fun hs' => hs ?_).trans h1
  rcases hs' with e | ⟨h2, cur, fr, h3⟩
  · exact .inl e
  · exact .inr ⟨h2, cur, fr, h1.symm.trans h3⟩
theorem KB.block' {B base : Nat} {w w' : World} (h : KB B base w w') {b : Nat} {o : Obj} (hb : w.heap[b]? = some o) (hne : b ≠ B) (ho : ∀ cur fr, o ≠ .cells cur 4 fr) : w'.heap[b]? = some o := by
  refine (h.block b (Array.getElem?_eq_some_iff.1 hb).1 ?_).trans hb
  rintro (e | ⟨_, cur, fr, h3⟩)
  · exact hne e
  · rw [hb] at h3
    cases h3
    exact ho _ _ rfl
theorem KB.near {B base : Nat} {w0 w w' : World} (h : KB B base w w') (hn : Near w0 w) (hB : w0.heap.size ≤ B) (hb : w0.heap.size ≤ base) : Near w0 w' :=
  Kept.mono (hn.kept.trans (Kept.mono h fun b _ hs => (show B ≤ b ∨ base ≤ b from by rcases hs with e | ⟨h2, _⟩ <;> omega))) fun b hlt hs => by rcases hs with e | e <;> omega
theorem BI.near {B base : Nat} {L : List Bool} {w w' : World} (h : BI B base L w) (hn : Near w w') : BI B base L w' := by
  obtain ⟨ao, cap, h1, h2⟩ := h
  exact ⟨ao, cap, keepN hn h1, owns_kept h2 hn (R := fun _ => False) (fun _ _ x => x)⟩
theorem IsF.kb {B base : Nat} {w w' : World} {v : Value} {f : F} {L : List Bool} (h : IsF w v f) (hB : BI B base L w) (hk : KB B base w w') : IsF w' v f := by
  obtain ⟨t, ⟨ok, sv, rfl, hrow⟩, he⟩ := h
  refine ⟨t, ⟨ok, sv, rfl, owns_kept (R := fun b => b = B ∨ (base ≤ b ∧ ∃ cur fr, w.heap[b]? = some (.cells cur 4 fr))) hrow hk (fun k hk' hrk => ?_)⟩, he⟩
  obtain ⟨_, cur, fr, hc⟩ := own_blockP hrow hk'
  obtain ⟨ao, cap, h1, -⟩ := hB
  rcases hrk with e | ⟨_, cur', fr', h3⟩
  · rw [e, h1] at hc
    cases hc
  · rw [hc] at h3
    cases h3
theorem row28_kb {B base n : Nat} {w w' : World} {base' : Nat} {v : Value} {xs : List Value} {L : List Bool} (h : w.ownsRow base' 3 1 v n xs) (hB : BI B base L w) (hk : KB B base w w') : w'.ownsRow base' 3 1 v n xs := by
  refine owns_kept (R := fun b => b = B ∨ (base ≤ b ∧ ∃ cur fr, w.heap[b]? = some (.cells cur 4 fr))) h hk (fun k hk' hrk => ?_)
  obtain ⟨_, cur, fr, hc⟩ := own_blockP h hk'
  obtain ⟨ao, cap, h1, -⟩ := hB
  rcases hrk with e | ⟨_, cur', fr', h3⟩
  · rw [e, h1] at hc
    cases hc
  · rw [hc] at h3
    cases h3

/-- A row of features, as it is read. -/
def RdV (w : World) (fo : Option Addr) (V : List Nat) : Prop := ∀ j, j < V.length → ∃ g, fo = some ⟨g, 0, none⟩ ∧ w.cell? ⟨g, j, none⟩ = some (.int .i64 (V.getD j 0 : Nat)) ∧ ∃ cur fr, w.heap[g]? = some (.cells cur 3 fr)
theorem RdV.near {w w' : World} {fo : Option Addr} {V : List Nat} (h : RdV w fo V) (hn : Near w w') : RdV w' fo V := fun j hj => by
  obtain ⟨g, h1, h2, cur, fr, h3⟩ := h j hj
  refine ⟨g, h1, hn.cell h2, cur, fr, ?_⟩
  exact (hn.block g (Array.getElem?_eq_some_iff.1 h3).1 id).trans h3
theorem RdV.kb {B base : Nat} {L : List Bool} {w w' : World} {fo : Option Addr} {V : List Nat} (h : RdV w fo V) (hB : BI B base L w) (hk : KB B base w w') : RdV w' fo V := fun j hj => by
  obtain ⟨g, h1, h2, cur, fr, h3⟩ := h j hj
  have hgB : g ≠ B := by
    rintro rfl
    obtain ⟨ao, cap', h4, -⟩ := hB
    rw [h4] at h3
    cases h3
  have h3' := hk.block' h3 hgB (fun c r e => by cases e)
  exact ⟨g, h1, (World.cell?_of_block (h3'.trans h3.symm)).trans h2, cur, fr, h3'⟩

set_option maxRecDepth 100000 in
set_option maxHeartbeats 1600000 in
/-- The closure that is told: one answer more. -/
theorem tell_calls {B base : Nat} {L : List Bool} {w : World} (h : BI B base L w) (hbs : base ≤ w.heap.size) (hl : L.length < 1099511627776) (b : Bool) :
    Calls Try.prog 115 #[.bool b, .pointer (some ⟨B, 0, none⟩)] w fun e w' => e = .returned (.tuple #[]) ∧ BI B base (L ++ [b]) w' ∧ KB B base w w' := by
  obtain ⟨i0, hi0, hz0, hz1, hz2⟩ := info_parts info4
  obtain ⟨ao, cap, h1, h2⟩ := h
  have H1 := Lib.hid h1
  have H2 := Lib.hid h2
  have c0 : w.cell? ⟨B, 0, none⟩ = some (.slice ao L.length cap) := cell1 (o := 0) h1 rfl
  have hlt := (Array.getElem?_eq_some_iff.1 h1).1
  clear h1 h2
  have hne : ∀ k, (Value.slice ao L.length cap).ownBlock = some k → k ≠ B := fun k hk e => by
    obtain ⟨_, cur, fr, hc⟩ := own_blockP H2.out hk
    rw [e, H1.out] at hc
    cases hc
  have HNe := Lib.hid hne
  clear hne
  go_enter Try.func115, Try.ntmps115
  go_wp2_with (at_builtin; refine wpList_append_in rfl (.tmp 3) (.tmp 5) 35 rfl base 4 i0 (.bool false) 1 1 Try.underlying35 hi0 hz0 hz1 hz2 rfl (by decide) _ _ _ rfl (by exact H2.out.alloc _) ⟨w.heap.size, 0, none⟩ 1 1 [.bool b] rfl rfl (by exact cell_one_at rfl _ _) (by simp [Value.oneCell']) (by unfold maxLen; omega) (by omega) (by simp <;> omega) ?_; intro ao3 cap3 w3 hown3 hg3 hl3; have HB3 := Lib.hid (show w3.heap[B]? = some (.cells #[.slice ao L.length cap] 35 (0, 0)) from (hg3.block B (by simp; omega) (fun e => HNe.out B e.symm rfl)).trans ((heap_old_at hlt).trans H1.out)); have d0 := cell1 (o := 0) HB3.out rfl; have df := free1 HB3.out)
  go_end0
  refine ⟨rfl, ⟨ao3, cap3, ?_, ?_⟩, ?_⟩
  · have := setCell_heap HB3.out 0 (.slice ao3 (L.length + 1) cap3)
    simpa using this
  · rw [List.length_append, List.map_append]
    refine owns_kept hown3 (Kept.setCell (S := fun b => b = B) (Kept.refl _ w3) (p := ⟨B, 0, none⟩) (fun _ => rfl) _) (R := fun b => b = B) (fun k hk hrk => ?_)
    obtain ⟨_, cur, fr, hc⟩ := own_blockP hown3 hk
    rw [show k = B from hrk, HB3.out] at hc
    cases hc
  · refine Kept.setCell ((((Kept.refl _ w).alloc _)).grown hg3 (fun k hk _ => ?_)) (p := ⟨B, 0, none⟩) (fun _ => .inl rfl) _
    obtain ⟨h3, cur, fr, hc⟩ := own_blockP H2.out hk
    exact .inr ⟨h3, cur, fr, hc⟩

end Go.Proofs.Ytefclohjeompkaa
