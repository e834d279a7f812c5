/- Parts of a proof: Maps, Rep. -/
import Derived.Maps.OwnSet
import Derived.WalkKit
import Derived.Deep.QuietTactic
import Derived.Test.YtefclohjeompkaaGreatProg
import Derived.KernelRfl
import Derived.DeepKeys4
import Derived.Test.YtefclohjeompkaaGreatKTreeC
/- Maps: what is needed of it. -/
namespace Go.Proofs.Gen
open Go Go.RowKit
open Go.ChangeMaps Go.MapKept
open Go.WideElems (Fit rd rg pl rd_val rd_key rg_of elemAt)
open Go.Maps (Keyed)
open Go.WideShapes (sorted_perm)
/-- Blocks outside S are in w' as they were in w. -/
structure Kept (S : Nat → Prop) (w w' : World) : Prop where
  os : w'.os = w.os
  tape : w'.tape = w.tape
  output : w'.output = w.output
  size : w.heap.size ≤ w'.heap.size
  block : ∀ k, k < w.heap.size → ¬ S k → w'.heap[k]? = w.heap[k]?

theorem Kept.refl (S : Nat → Prop) (w : World) : Kept S w w := ⟨rfl, rfl, rfl, Nat.le_refl _, fun _ _ _ => rfl⟩

theorem Kept.trans {S : Nat → Prop} {a b c : World} (h : Kept S a b) (k : Kept S b c) : Kept S a c :=
  ⟨k.os.trans h.os, k.tape.trans h.tape, k.output.trans h.output, Nat.le_trans h.size k.size, fun i hi hs => (k.block i (Nat.lt_of_lt_of_le hi h.size) hs).trans (h.block i hi hs)⟩

theorem Kept.mono {S T : Nat → Prop} {w w' : World} (h : Kept S w w') (hs : ∀ k, k < w.heap.size → S k → T k) : Kept T w w' :=
  ⟨h.os, h.tape, h.output, h.size, fun k hk hn => h.block k hk (fun s => hn (hs k hk s))⟩

theorem Kept.drew {S : Nat → Prop} {a w : World} (h : Kept S a w) : Kept S a w.drew := ⟨h.os, h.tape, h.output, h.size, h.block⟩

theorem Kept.drewN {S : Nat → Prop} {a w : World} (h : Kept S a w) (n : Nat) : Kept S a (w.drewN n) := ⟨h.os, h.tape, h.output, h.size, h.block⟩

theorem Kept.alloc {S : Nat → Prop} {a w : World} (h : Kept S a w) (o : Obj) : Kept S a (w.alloc o) :=
  ⟨h.os, h.tape, h.output, Nat.le_trans h.size (by simp), fun k hk hs => (Below.heap_alloc w o k (Nat.lt_of_lt_of_le hk h.size)).trans (h.block k hk hs)⟩

theorem Kept.setCell {S : Nat → Prop} {a w : World} (h : Kept S a w) {p : Addr} (hp : p.block < a.heap.size → S p.block) (u : Value) : Kept S a (w.setCell p u) :=
  ⟨h.os, h.tape, h.output, by simpa [World.setCell] using h.size, fun k hk hs => (Below.heap_setCell w p u k (fun e => hs (e ▸ hp (e ▸ hk)))).trans (h.block k hk hs)⟩

theorem Kept.grown {S : Nat → Prop} {a w w' : World} {row : Option Nat} (h : Kept S a w) (hg : w.grownBy w' row) (hr : ∀ k, row = some k → k < a.heap.size → S k) : Kept S a w' :=
  ⟨hg.os.trans h.os, hg.tape.trans h.tape, hg.output.trans h.output, Nat.le_trans h.size hg.size,
    fun k hk hs => (hg.block k (Nat.lt_of_lt_of_le hk h.size) (fun e => hs (hr k e.symm hk))).trans (h.block k hk hs)⟩

theorem Kept.below {n : Nat} {w w' : World} (h : Kept (fun k => n ≤ k) w w') (hn : n ≤ w.heap.size) : Below n w w' :=
  ⟨h.os, h.tape, h.output, h.size, fun k hk => h.block k (by omega) (by omega)⟩

theorem Kept.of_below {n : Nat} {w w' : World} (h : Below n w w') : Kept (fun k => n ≤ k) w w' :=
  ⟨h.os, h.tape, h.output, h.size, fun k _ hs => h.block k (by omega)⟩

theorem Kept.cell {S : Nat → Prop} {w w' : World} (h : Kept S w w') {b o : Nat} {v : Value} (hc : w.cell? ⟨b, o, none⟩ = some v) (hs : ¬ S b) : w'.cell? ⟨b, o, none⟩ = some v :=
  (World.cell?_of_block (h.block b (World.block_lt_of_cell? w ⟨b, o, none⟩ hc) hs)).trans hc

/-- The blocks behind a new one. -/
theorem heap_at_alloc (w : World) (o : Obj) (k : Nat) : (w.alloc o).heap[k]? = if k = w.heap.size then some o else w.heap[k]? := by
  show (w.heap.push o)[k]? = _
  rw [Array.getElem?_push]

theorem heap_new_at {w : World} {o : Obj} {k : Nat} (h : k = w.heap.size) : (w.alloc o).heap[k]? = some o := by rw [heap_at_alloc, if_pos h]

theorem heap_old_at {w : World} {o : Obj} {k : Nat} (h : k < w.heap.size) : (w.alloc o).heap[k]? = w.heap[k]? := by rw [heap_at_alloc, if_neg (by omega)]

theorem heap_at_drewN (w : World) (n k : Nat) : (w.drewN n).heap[k]? = w.heap[k]? := rfl

theorem heap_at_drew (w : World) (k : Nat) : w.drew.heap[k]? = w.heap[k]? := rfl

/-- A cell behind a new block. -/
theorem cell_alloc {w : World} {b o : Nat} {v : Value} (h : w.cell? ⟨b, o, none⟩ = some v) (x : Obj) : (w.alloc x).cell? ⟨b, o, none⟩ = some v :=
  (World.cell?_of_block (w := w) (Below.heap_alloc w x b (World.block_lt_of_cell? w ⟨b, o, none⟩ h))).trans h

/-- A block behind a new one and an append that wrote another row. -/
theorem grown_alloc_heap {w w' : World} {o : Obj} {row : Option Nat} (hg : (w.alloc o).grownBy w' row) {k : Nat} {x : Obj} (h : w.heap[k]? = some x) (hne : row ≠ some k) : w'.heap[k]? = some x := by
  have hlt : k < w.heap.size := (Array.getElem?_eq_some_iff.1 h).1
  rw [hg.block k (by simp; omega) (Ne.symm hne), Below.heap_alloc w o k hlt, h]

theorem cell1 {w : World} {b : Nat} {cs : Array Value} {t : TypeId} {o : Nat} {v : Value} (h : w.heap[b]? = some (.cells cs t (0, 0))) (hv : cs[o]? = some v) : w.cell? ⟨b, o, none⟩ = some v := by simp [World.cell?, h, hv]

theorem free1 {w : World} {b : Nat} {cs : Array Value} {t : TypeId} (h : w.heap[b]? = some (.cells cs t (0, 0))) (o : Nat) : w.frozen? ⟨b, o, none⟩ = false := by simp [World.frozen?, h]

/-- A store into a block of cells. -/
theorem setCell_heap {w : World} {b : Nat} {cs : Array Value} {t : TypeId} {fr : Nat × Nat} (h : w.heap[b]? = some (.cells cs t fr)) (o : Nat) (u : Value) :
    (w.setCell ⟨b, o, none⟩ u).heap[b]? = some (.cells (cs.setIfInBounds o u) t fr) := by
  have hlt : b < w.heap.size := (Array.getElem?_eq_some_iff.1 h).1
  have h' : w.heap[b] = .cells cs t fr := by simpa [Array.getElem?_eq_getElem hlt] using h
  show (w.heap.modify b _)[b]? = _
  rw [Array.getElem?_eq_getElem (by simpa using hlt), Array.getElem_modify_self, h']
  rfl

/-- An owned row, while a block of another type is written. -/
theorem owns_setCell {w : World} {base e size n t b : Nat} {v : Value} {xs : List Value} {cs : Array Value} {fr : Nat × Nat} (h : w.ownsRow base e size v n xs) (hb : w.heap[b]? = some (.cells cs t fr)) (hne : e ≠ t) (o : Nat) (u : Value) :
    (w.setCell ⟨b, o, none⟩ u).ownsRow base e size v n xs := by
  refine ownsRow_setCell_other h ?_ u
  rcases h.2 with ⟨rfl, _⟩ | ⟨g, cap, cur, rfl, _, hg, _⟩
  · simp [Value.ownBlock]
  · simp only [Value.ownBlock, ne_eq, Option.some.injEq]
    rintro rfl
    rw [hb] at hg
    cases hg
    exact hne rfl

/-- .. it is not that block. -/
theorem owns_ne {w : World} {base e size n t b : Nat} {v : Value} {xs : List Value} {cs : Array Value} {fr : Nat × Nat} (h : w.ownsRow base e size v n xs) (hb : w.heap[b]? = some (.cells cs t fr)) (hne : e ≠ t) : v.ownBlock ≠ some b := by
  rcases h.2 with ⟨rfl, _⟩ | ⟨g, cap, cur, rfl, _, hg, _⟩
  · simp [Value.ownBlock]
  · simp only [Value.ownBlock, ne_eq, Option.some.injEq]
    rintro rfl
    rw [hb] at hg
    cases hg
    exact hne rfl

theorem owns_ne_map {w : World} {base e size n b : Nat} {v : Value} {xs : List Value} {es : Array MapEntry} {clock : Nat} (h : w.ownsRow base e size v n xs) (hb : w.heap[b]? = some (.map es clock)) : v.ownBlock ≠ some b := by
  rcases h.2 with ⟨rfl, _⟩ | ⟨g, cap, cur, rfl, _, hg, _⟩
  · simp [Value.ownBlock]
  · simp only [Value.ownBlock, ne_eq, Option.some.injEq]
    rintro rfl
    rw [hb] at hg
    cases hg

/-- BLOCK b OF w IS A MAP OF AT MOST n ENTRIES FROM KEYS OF TYPE k TO INTS: M says which. -/
def mapIs (w : World) (P : Program) (k e : TypeId) (b n : Nat) (M : Value → Int → Prop) : Prop :=
  ∃ es clock, w.heap[b]? = some (.map es clock) ∧ Fit P k (plainElem (H := Unit) P e) es clock ∧ es.size ≤ n ∧ ∀ x v, M x v ↔ ∃ y ∈ es.toList, y.key = x ∧ y.val = .int .i64 v

section
variable {P : Program} {k e t : TypeId} {w : World} {b n : Nat} {M : Value → Int → Prop}
theorem mapIs.lt (h : mapIs w P k e b n M) : b < w.heap.size := by
  obtain ⟨es, clock, hb, _⟩ := h
  exact (Array.getElem?_eq_some_iff.1 hb).1

theorem mapIs.of_block {w' : World} (h : mapIs w P k e b n M) (hb : w'.heap[b]? = w.heap[b]?) : mapIs w' P k e b n M := by
  obtain ⟨es, clock, hb', r⟩ := h
  exact ⟨es, clock, hb.trans hb', r⟩

theorem mapIs.kept {S : Nat → Prop} {w' : World} (h : mapIs w P k e b n M) (hk : Kept S w w') (hs : ¬ S b) : mapIs w' P k e b n M := h.of_block (hk.block b h.lt hs)

theorem mapIs.congr {M' : Value → Int → Prop} (h : mapIs w P k e b n M) (hm : ∀ x v, M' x v ↔ M x v) : mapIs w P k e b n M' := by
  obtain ⟨es, clock, hb, F, hs, hM⟩ := h
  exact ⟨es, clock, hb, F, hs, fun x v => (hm x v).trans (hM x v)⟩

theorem mapIs.drewN (h : mapIs w P k e b n M) (m : Nat) : mapIs (w.drewN m) P k e b n M := h

theorem mapIs.made (w : World) : mapIs (w.alloc (.map #[] 0)) P k e w.heap.size 0 (fun _ _ => False) :=
  ⟨#[], 0, (MapKept.heap_alloc w _).1, ⟨by simp, stamped_empty 0, by simp⟩, Nat.le_refl _, by simp⟩

theorem mapIs.empty (h : w.heap[b]? = some (.map #[] 0)) : mapIs w P k e b 0 (fun _ _ => False) :=
  ⟨#[], 0, h, ⟨by simp, stamped_empty 0, by simp⟩, Nat.le_refl _, by simp⟩

theorem mapIs.made_at {w : World} {b : Nat} (hb : b = w.heap.size) : mapIs (w.alloc (.map #[] 0)) P k e b 0 (fun _ _ => False) := by
  subst hb
  exact mapIs.made w

theorem mapIs.fun (h : mapIs w P k e b n M) {x : Value} {u v : Int} (hu : M x u) (hv : M x v) : u = v := by
  obtain ⟨es, clock, hb, F, _, hM⟩ := h
  obtain ⟨y, hy, hyk, hyv⟩ := (hM x u).1 hu
  obtain ⟨z, hz, hzk, hzv⟩ := (hM x v).1 hv
  have hn : es.toList.Pairwise (fun x y => x.key ≠ y.key) := ((stamped_iff es clock).1 F.stamped).2.2
  obtain ⟨i, hi⟩ := List.getElem?_of_mem hy
  obtain ⟨j, hj⟩ := List.getElem?_of_mem hz
  have hij : i = j := by
    obtain ⟨hil, hie⟩ := List.getElem?_eq_some_iff.1 hi
    obtain ⟨hjl, hje⟩ := List.getElem?_eq_some_iff.1 hj
    rcases Nat.lt_trichotomy i j with h1 | h1 | h1
    · exact absurd (by rw [hie, hje, hyk, hzk]) (List.pairwise_iff_getElem.1 hn i j hil hjl h1)
    · exact h1
    · exact absurd (by rw [hie, hje, hyk, hzk]) (List.pairwise_iff_getElem.1 hn j i hjl hil h1)
  subst hij
  rw [hi] at hj
  cases hj
  rw [hyv] at hzv
  cases hzv
  rfl

/-- A key that is there. -/
theorem mapIs.hit (h : mapIs w P k e b n M) (K : Keyed P k) (ht : P.underlying t = some (.map k e)) (he : P.underlying e = some (.int .i64)) (hz : (zeroValue e).run P w = .ok (.int .i64 0) w)
    {key : Value} {kl : Lit} (hkey : keyOf P k key = some kl) {v : Int} (hv : M key v) :
    (Instr.lookup t (.map (some b)) key true).run P w = .ok (.tuple #[.int .i64 v, .bool true]) w := by
  have hfun := fun u (hu : M key u) => h.fun hu hv
  obtain ⟨es, clock, hb, F, _, hM⟩ := h
  rcases Maps.fit_look true K ht hz hb F hkey with ⟨_, hne, _⟩ | ⟨e0, y, hm, hek, hrun, hRv, _⟩
  · obtain ⟨y, hy, hyk, _⟩ := (hM key v).1 hv
    exact absurd hyk (hne y hy)
  · obtain ⟨a, ha, _, _⟩ := plainElem_int_inv he hRv
    have := hfun a ((hM key a).2 ⟨e0, hm, hek, ha⟩)
    subst this
    rw [ha] at hrun
    exact hrun

/-- A key that is not. -/
theorem mapIs.miss (h : mapIs w P k e b n M) (K : Keyed P k) (ht : P.underlying t = some (.map k e)) (he : P.underlying e = some (.int .i64)) (hz : (zeroValue e).run P w = .ok (.int .i64 0) w)
    {key : Value} {kl : Lit} (hkey : keyOf P k key = some kl) (hv : ∀ v, ¬ M key v) :
    (Instr.lookup t (.map (some b)) key true).run P w = .ok (.tuple #[.int .i64 0, .bool false]) w := by
  obtain ⟨es, clock, hb, F, _, hM⟩ := h
  rcases Maps.fit_look true K ht hz hb F hkey with ⟨hrun, _, _⟩ | ⟨e0, y, hm, hek, _, hRv, _⟩
  · exact hrun
  · obtain ⟨a, ha, _, _⟩ := plainElem_int_inv he hRv
    exact absurd ((hM key a).2 ⟨e0, hm, hek, ha⟩) (hv a)

/-- What the relation is behind a store. -/
def put (M : Value → Int → Prop) (key : Value) (v : Int) : Value → Int → Prop := fun x u => (x = key ∧ u = v) ∨ (x ≠ key ∧ M x u)

/-- A store. -/
theorem mapIs.store (h : mapIs w P k e b n M) (K : Keyed P k) (ht : P.underlying t = some (.map k e)) (he : P.underlying e = some (.int .i64)) (hn : n < maxLen)
    {key : Value} {kl : Lit} (hkey : keyOf P k key = some kl) {v : Int} (hw : (Lit.int .i64 v).wf = true) :
    ∃ es clock, (Instr.mapUpdate t (.map (some b)) key (.int .i64 v)).run P w = .ok () (setBlock w b (.map es clock)) ∧ mapIs (setBlock w b (.map es clock)) P k e b (n + 1) (put M key v) := by
  obtain ⟨es, clock, hb, F, hs, hM⟩ := h
  obtain ⟨es', clock', hrun, F', hput, _, _, hlast⟩ := Maps.fit_store (R' := plainElem (H := Unit) P e) K ht hb F (Nat.lt_of_le_of_lt hs hn) (fun _ _ _ _ hz => hz) hkey (plainElem_int he hw)
  refine ⟨es', clock', hrun, es', clock', heap_setBlock_same hb _, F', ?_, ?_⟩
  · have e1 : es'.size = ((es'.toList.map (rg P k (plainElem (H := Unit) P e))).foldr DataW.insert []).length := by rw [length_sorted]; simp
    rw [e1, hput]
    unfold putKey
    rw [length_insert]
    have e2 := List.length_filter_le (notKey kl) ((es.toList.map (rg P k (plainElem (H := Unit) P e))).foldr DataW.insert [])
    rw [length_sorted] at e2
    simp at e2
    omega
  · -- who stands among the new entries: by the reading, both ways
    have mem : ∀ p, p ∈ es'.toList.map (rg P k (plainElem (H := Unit) P e)) ↔ p = (kl, .lit (.int .i64 v)) ∨ (p ∈ es.toList.map (rg P k (plainElem (H := Unit) P e)) ∧ notKey kl p = true) := by
      intro p
      rw [← (sorted_perm (es'.toList.map (rg P k (plainElem (H := Unit) P e)))).mem_iff, hput]
      unfold putKey
      rw [mem_insert_iff, List.mem_filter, (sorted_perm _).mem_iff]
    have rd1 : ∀ es0 clock0, Fit P k (plainElem (H := Unit) P e) es0 clock0 → ∀ y ∈ es0.toList, ∃ l a, keyOf P k y.key = some l ∧ y.val = .int .i64 a ∧ rg P k (plainElem (H := Unit) P e) y = (l, .lit (.int .i64 a)) := by
      intro es0 clock0 F0 y hy
      obtain ⟨z, hz⟩ := F0.reads y hy
      obtain ⟨u, hu, hzu⟩ := rd_val hz
      obtain ⟨a, ha, hua, _⟩ := plainElem_int_inv he hu
      refine ⟨z.1, a, rd_key hz, ha, ?_⟩
      rw [rg_of hz]
      obtain ⟨z1, z2⟩ := z
      simp only at hzu
      rw [hzu, hua]
    intro x u
    constructor
    · rintro (⟨rfl, rfl⟩ | ⟨hne, hMx⟩)
      · have := (mem (kl, .lit (.int .i64 u))).2 (.inl rfl)
        obtain ⟨y, hy, hye⟩ := List.mem_map.1 this
        obtain ⟨l, a, hl, ha, hr⟩ := rd1 es' clock' F' y hy
        rw [hr] at hye
        simp only [Prod.mk.injEq, DataW.lit.injEq, Lit.int.injEq, true_and] at hye
        obtain ⟨rfl, rfl⟩ := hye
        exact ⟨y, hy, K.inj hl hkey, ha⟩
      · obtain ⟨y, hy, rfl, hyv⟩ := (hM x u).1 hMx
        obtain ⟨l, a, hl, ha, hr⟩ := rd1 es clock F y hy
        rw [ha] at hyv
        cases hyv
        have hnk : notKey kl (rg P k (plainElem (H := Unit) P e) y) = true := by
          refine (Maps.notKey_iff (K.key hkey)).2 fun ee => hne ?_
          rw [hr] at ee
          simp only at ee
          subst ee
          exact K.inj hl hkey
        obtain ⟨y', hy', hye⟩ := List.mem_map.1 ((mem _).2 (.inr ⟨List.mem_map_of_mem hy, hnk⟩))
        obtain ⟨l', a', hl', ha', hr'⟩ := rd1 es' clock' F' y' hy'
        rw [hr, hr'] at hye
        simp only [Prod.mk.injEq, DataW.lit.injEq, Lit.int.injEq, true_and] at hye
        obtain ⟨rfl, rfl⟩ := hye
        exact ⟨y', hy', K.inj hl' hl, ha'⟩
    · rintro ⟨y, hy, rfl, hyv⟩
      rcases hlast y hy with ⟨hm, hne⟩ | ⟨hk, hv⟩
      · exact .inr ⟨hne, (hM _ _).2 ⟨y, hm, rfl, hyv⟩⟩
      · rw [hv] at hyv
        cases hyv
        exact .inl ⟨hk, rfl⟩

/-- w' is w but for block b. -/
structure Turned (b : Nat) (w w' : World) : Prop where
  os : w'.os = w.os
  tape : w'.tape = w.tape
  output : w'.output = w.output
  size : w'.heap.size = w.heap.size
  block : ∀ k, k ≠ b → w'.heap[k]? = w.heap[k]?

theorem Turned.trans {a b c : World} {n : Nat} (h : Turned n a b) (k : Turned n b c) : Turned n a c :=
  ⟨k.os.trans h.os, k.tape.trans h.tape, k.output.trans h.output, k.size.trans h.size, fun i hi => (k.block i hi).trans (h.block i hi)⟩

theorem Turned.kept {S : Nat → Prop} {a w w' : World} {b : Nat} (h : Kept S a w) (ht : Turned b w w') (hs : b < a.heap.size → S b) : Kept S a w' :=
  ⟨ht.os.trans h.os, ht.tape.trans h.tape, ht.output.trans h.output, by rw [ht.size]; exact h.size, fun k hk hn => (ht.block k (by rintro rfl; exact hn (hs hk))).trans (h.block k hk hn)⟩

theorem Turned.owns {w w' : World} {base e size n b : Nat} {v : Value} {xs : List Value} (ht : Turned b w w') (h : w.ownsRow base e size v n xs) (hb : v.ownBlock ≠ some b) : w'.ownsRow base e size v n xs :=
  h.kept (row := some b) ⟨ht.os, ht.tape, ht.output, by rw [ht.size]; exact Nat.le_refl _, fun k _ hne => ht.block k (fun e => hne (by rw [e]))⟩ (.inr hb)

theorem setBlock_heap (w : World) {b j : Nat} (h : j ≠ b) (o : Obj) : (setBlock w b o).heap[j]? = w.heap[j]? := by
  have h' : b ≠ j := Ne.symm h
  simp [setBlock, h']

theorem owns_setBlock {w : World} {base e size n b : Nat} {v : Value} {xs : List Value} (h : w.ownsRow base e size v n xs) (hb : v.ownBlock ≠ some b) (o : Obj) : (setBlock w b o).ownsRow base e size v n xs :=
  h.kept (row := some b) ⟨rfl, rfl, rfl, by simp [setBlock], fun k _ hne => setBlock_heap w (fun e => hne (by rw [e])) o⟩ (.inr hb)

theorem turned_setBlock (w : World) (b : Nat) (o : Obj) : Turned b w (setBlock w b o) := ⟨rfl, rfl, rfl, by simp [setBlock], fun _ h => setBlock_heap w h o⟩

theorem setBlock_kept {S : Nat → Prop} {a w : World} (h : Kept S a w) {b : Nat} (hs : b < a.heap.size → S b) (o : Obj) : Kept S a (setBlock w b o) :=
  ⟨h.os, h.tape, h.output, by simpa [setBlock] using h.size, fun k hk hn => by
    have hne : b ≠ k := by rintro rfl; exact hn (hs hk)
    rw [← h.block k hk hn]
    simp [setBlock, hne]⟩

end
end Go.Proofs.Gen

/- Rep: what is needed of it. -/
namespace Go.Proofs.YtefclohjeompkaaGreat
open Go Go.RowKit Go.Proofs.Gen Go.Proofs.Bdd Go.Proofs.Bdd.T
open Go.Maps (Keyed)
theorem laidOut : laidOutB Tryz.prog = true := by kernel_rfl

theorem size_types : Tryz.prog.types.size = 178 + 1 := by kernel_rfl

theorem keyType26 : Tryz.prog.keyType 84 = true := by kernel_rfl

theorem keyType190 : Tryz.prog.keyType 152 = true := by kernel_rfl

theorem cells26 : Tryz.prog.cellsOf 84 = 3 := by kernel_rfl

theorem cells3 : Tryz.prog.cellsOf 3 = 1 := by kernel_rfl

theorem cells190 : Tryz.prog.cellsOf 152 = 2 := by kernel_rfl

/-- A node as a value; its cells. -/
def triV (x : Tri) : Value := .agg #[.int .i64 x.v, .int .i64 x.lo, .int .i64 x.hi]

def triC (x : Tri) : List Value := [.int .i64 x.v, .int .i64 x.lo, .int .i64 x.hi]

def cellsOf (l : List Tri) : List Value := l.flatMap triC

theorem law26 : Keyed Tryz.prog 84 := Keyed.of_law (deep_law_laid laidOut (m := 9) (by decide) (by rw [size_types]; decide) (by kernel_rfl) (by kernel_rfl))

theorem law190 : Keyed Tryz.prog 152 := Keyed.of_law (deep_law_laid laidOut (m := 9) (by decide) (by rw [size_types]; decide) (by kernel_rfl) (by kernel_rfl))

theorem law3 : Keyed Tryz.prog 3 := Maps.int_keyed Tryz.underlying3

theorem zero3 (w : World) : (zeroValue 3).run Tryz.prog w = .ok (.int .i64 0) w := by kernel_rfl

theorem lits3 (m : Nat) {a : Int} (ha : (Lit.int .i64 a).wf = true) : Tryz.prog.keyLits (m + 1) 3 [.int .i64 a] = some [.int .i64 a] := by
  unfold Program.keyLits
  simp only [Tryz.underlying3]
  simp [ha]

theorem lits26 (m : Nat) {a b c : Int} (ha : (Lit.int .i64 a).wf = true) (hb : (Lit.int .i64 b).wf = true) (hc : (Lit.int .i64 c).wf = true) :
    Tryz.prog.keyLits (m + 2) 84 [.int .i64 a, .int .i64 b, .int .i64 c] = some [.int .i64 a, .int .i64 b, .int .i64 c] := by
  unfold Program.keyLits
  simp only [Tryz.underlying84]
  rw [if_pos ⟨by rw [cells26]; rfl, by kernel_rfl⟩]
  simp [cells3, lits3 m ha, lits3 m hb, lits3 m hc]

theorem lits190 (m : Nat) {a b : Int} (ha : (Lit.int .i64 a).wf = true) (hb : (Lit.int .i64 b).wf = true) :
    Tryz.prog.keyLits (m + 2) 152 [.int .i64 a, .int .i64 b] = some [.int .i64 a, .int .i64 b] := by
  unfold Program.keyLits
  simp only [Tryz.underlying152]
  rw [if_pos (by rw [cells190]; rfl), show List.range 2 = [0, 1] from rfl]
  simp [cells3, lits3 m ha, lits3 m hb]

theorem key26 {a b c : Int} (ha : (Lit.int .i64 a).wf = true) (hb : (Lit.int .i64 b).wf = true) (hc : (Lit.int .i64 c).wf = true) :
    ∃ kl, keyOf Tryz.prog 84 (.agg #[.int .i64 a, .int .i64 b, .int .i64 c]) = some kl := by
  have h := lits26 178 ha hb hc
  have e : Tryz.prog.types.size + 1 = 178 + 2 := by rw [size_types]
  unfold keyOf
  simp only [Tryz.underlying84]
  rw [if_pos (by simp [keyType26, Value.formed, Tryz.underlying84, cells26]), e]
  exact ⟨_, by rw [show (Value.agg #[.int .i64 a, .int .i64 b, .int .i64 c]).cells.toList = [.int .i64 a, .int .i64 b, .int .i64 c] from rfl, h]; rfl⟩

theorem key190 {a b : Int} (ha : (Lit.int .i64 a).wf = true) (hb : (Lit.int .i64 b).wf = true) :
    ∃ kl, keyOf Tryz.prog 152 (.agg #[.int .i64 a, .int .i64 b]) = some kl := by
  have h := lits190 178 ha hb
  have e : Tryz.prog.types.size + 1 = 178 + 2 := by rw [size_types]
  unfold keyOf
  simp only [Tryz.underlying152]
  rw [if_pos (by simp [keyType190, Value.formed, Tryz.underlying152, cells190]), e]
  exact ⟨_, by rw [show (Value.agg #[.int .i64 a, .int .i64 b]).cells.toList = [.int .i64 a, .int .i64 b] from rfl, h]; rfl⟩

/-- What the maker's map knows. -/
def known (L : List T) (x : Value) (u : Int) : Prop := ∃ t ∈ L, x = triV (en L t) ∧ u = pl L t

/-- A MAKER in block mb, whose blocks lie in S, holds the nodes L. -/
def IsMaker (w : World) (mb : Nat) (S : Nat → Prop) (L : List T) : Prop :=
  ∃ sv kb n, w.heap[mb]? = some (.cells #[sv, .map (some kb)] 149 (0, 0)) ∧ w.ownsRow 0 84 3 sv L.length (cellsOf (enc L)) ∧
    mapIs w Tryz.prog 84 3 kb n (known L) ∧ n ≤ L.length ∧ S mb ∧ S kb ∧ ∀ k, sv.ownBlock = some k → S k

theorem IsMaker.mono_lt {w : World} {mb : Nat} {S R : Nat → Prop} {L : List T} (h : IsMaker w mb S L) (hs : ∀ k, k < w.heap.size → S k → R k) : IsMaker w mb R L := by
  obtain ⟨sv, kb, n, hmb, hown, hmap, hn, s1, s2, s3⟩ := h
  exact ⟨sv, kb, n, hmb, hown, hmap, hn, hs _ (Array.getElem?_eq_some_iff.1 hmb).1 s1, hs _ hmap.lt s2, fun k hk => hs _ (hown.lt k hk).2 (s3 k hk)⟩

/-- A value that is the set of a tree. -/
def IsD (w : World) (v : Value) (t : T) : Prop :=
  t.Ok ∧ ∃ sv, v = .agg #[sv, .int .i64 (pl (nodes t) t : Nat)] ∧ w.ownsRow 0 84 3 sv (nodes t).length (cellsOf (enc (nodes t)))

theorem IsD.below {w w' : World} {v : Value} {t : T} (h : IsD w v t) (hb : Below w.heap.size w w') : IsD w' v t := by
  obtain ⟨ok, sv, rfl, hr, hs⟩ := h
  refine ⟨ok, sv, rfl, hr, ?_⟩
  rcases hs with hh | ⟨g, cap, cur, rfl, h0, hg, r⟩
  · exact .inl hh
  · exact .inr ⟨g, cap, cur, rfl, h0, (hb.block g (Array.getElem?_eq_some_iff.1 hg).1).trans hg, r⟩

theorem IsD.kept {w w' : World} {v : Value} {t : T} {R : Nat → Prop} (h : IsD w v t) (hb : Kept R w w') (hd : ∀ k, k < w.heap.size → ¬ R k) : IsD w' v t :=
  h.below ⟨hb.os, hb.tape, hb.output, hb.size, fun k hk => hb.block k hk (hd k hk)⟩

/-- What a function that makes a set leaves. -/
def DPost (w : World) (t : T) (e : Ending) (w' : World) : Prop := ∃ v, e = .returned v ∧ IsD w' v t ∧ Below w.heap.size w w'

theorem wf_nat {n : Nat} (h : n < 9223372036854775808) : (Lit.int .i64 (n : Int)).wf = true := WalkArith.wf_i64 (by omega)

theorem IsMaker.of_kept {w w' : World} {mb : Nat} {S R : Nat → Prop} {L : List T} (h : IsMaker w mb S L) (hk : Kept R w w') (hd : ∀ k, k < w.heap.size → S k → ¬ R k) : IsMaker w' mb S L := by
  obtain ⟨sv, kb, n, hmb, hown, hmap, hn, s1, s2, s3⟩ := h
  have lt : mb < w.heap.size := (Array.getElem?_eq_some_iff.1 hmb).1
  refine ⟨sv, kb, n, (hk.block mb lt (hd mb lt s1)).trans hmb, ⟨hown.1, ?_⟩, hmap.kept hk (hd kb hmap.lt s2), hn, s1, s2, s3⟩
  rcases hown.2 with hh | ⟨g, cap, cur, rfl, hb, hg, r⟩
  · exact .inl hh
  · have hlt : g < w.heap.size := (Array.getElem?_eq_some_iff.1 hg).1
    exact .inr ⟨g, cap, cur, rfl, hb, (hk.block g hlt (hd g hlt (s3 g rfl))).trans hg, r⟩

theorem IsMaker.mono {w : World} {mb : Nat} {S R : Nat → Prop} {L : List T} (h : IsMaker w mb S L) (hs : ∀ k, S k → R k) : IsMaker w mb R L := by
  obtain ⟨sv, kb, n, hmb, hown, hmap, hn, s1, s2, s3⟩ := h
  exact ⟨sv, kb, n, hmb, hown, hmap, hn, hs _ s1, hs _ s2, fun k hk => hs _ (s3 k hk)⟩

end Go.Proofs.YtefclohjeompkaaGreat
