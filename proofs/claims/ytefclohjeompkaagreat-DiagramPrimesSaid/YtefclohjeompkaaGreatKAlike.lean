/- Parts of a proof: Steps2, Seq, Alike. -/
import Derived.Maps.OwnSet
import Derived.WalkKit
import Derived.Deep.QuietTactic
import Derived.Deep.RegionLaw
import Derived.StillTailTactics
import Derived.Maps.AppendAt
import Derived.Test.YtefclohjeompkaaGreatProg
import Derived.KernelRfl
import Derived.DeepKeys4
import Derived.WalkSpells
import Derived.WalkLawsBesides
import Derived.BigQuiet
import Derived.Lib.Hide
import Derived.Deep.DeepCutAuto
import Derived.Laws.EntriesVeiled
import Derived.Deep.RegionHeld3
import Derived.Laws.OwnMore
import Derived.Deep.Slices
import Derived.Test.YtefclohjeompkaaGreatKRep
import Derived.Test.YtefclohjeompkaaGreatKJoinD
import Derived.Test.YtefclohjeompkaaGreatKTreeC
import Derived.Test.YtefclohjeompkaaGreatKCmpA
import Derived.Test.YtefclohjeompkaaGreatKRefH
import Derived.Test.YtefclohjeompkaaGreatKOfB
/- Steps2: what is needed of it. -/
namespace Go.Proofs.Gen
open Go Go.RowKit
open Go.ChangeMaps Go.MapKept
section
variable {P : Program} {w : World}
theorem append_keeps (base : Nat) (t ty e : TypeId) (i : TypeInfo) (z : Value) (size bytes : Nat) (ht : P.underlying t = some (.slice e)) (hi : P.info? e = some i) (hz : i.zero = some z)
    (hsize : i.size = size) (hby : i.bytes = bytes)
    (v : Value) (n : Nat) (xs : List Value) (hown : w.ownsRow base e size v n xs)
    (a : Addr) (m c : Nat) (news : List Value) (hl : news.length = m * size) (hnews : ∀ j u, news[j]? = some u → w.cell? (a.add j) = some u) (h1 : ∀ u ∈ news, u.oneCell' = true)
    (h63 : n + m ≤ maxLen) (hbytes : (n + m) * bytes ≤ 140737488355328) {v' : Value} {w' : World} (hr : (Builtin.append_ #[t, t] ty #[v, .slice (some a) m c]).run P w = .ok v' w') :
    w'.ownsRow base e size v n xs := by
  subst hsize
  subst hby
  have hsmall : n + m ≤ 9223372036854775807 := by simp only [maxLen] at h63; omega
  refine ⟨hown.1, ?_⟩
  rcases hown.2 with h0 | ⟨g, cap, cur, rfl, hbg, hg, hnc, hcm, hcs, htake⟩
  · exact .inl h0
  · refine .inr ⟨g, cap, ?_⟩
    by_cases hroom : n + m ≤ cap
    · have hfit : n * i.size + news.length ≤ cur.size := by rw [hl, hcs, ← Nat.add_mul]; exact Nat.mul_le_mul_right _ hroom
      have hr2 := run_append_room (P := P) w t ty e i ht hi g n cap cur hg a m c news hl hnews h1 hroom hfit
      rw [hr] at hr2
      obtain ⟨rfl, rfl⟩ := Result.ok.inj hr2
      refine ⟨_, rfl, hbg, setRow_heap w g cur _ e _ hg, hnc, hcm, ?_, ?_⟩
      · simp only [List.size_toArray, List.length_append, List.length_take, List.length_drop, Array.length_toList]
        omega
      · rw [htake]
        rw [List.append_assoc, ← hown.1]
        exact List.take_left
    · have holds : ∀ j u, xs[j]? = some u → w.cell? ((⟨g, 0, none⟩ : Addr).add j) = some u := hown.cells (g := g) rfl
      have hr2 := run_append_grow (P := P) w t ty e i z ht hi hz ⟨g, 0, none⟩ n cap xs hown.1 holds a m c news hl hnews (by omega) (by omega) (growslice_fits (by omega) hbytes)
      rw [hr] at hr2
      obtain ⟨rfl, rfl⟩ := Result.ok.inj hr2
      have hlt : g < w.heap.size := (Array.getElem?_eq_some_iff.1 hg).1
      exact ⟨cur, rfl, hbg, (heap_alloc_old w.drew _ hlt).trans hg, hnc, hcm, hcs, htake⟩

/-- append to a slice of the call's own, as one step of a region that draws; the old slice still reads. -/
theorem step_append_keep {ops : Array Oper} {o : Oper} {a : Act} {K : Act → World → Prop} {Q : Exit → Act → World → Prop} {E : Prop}
    (hg : o.guard = none) (s x : Operand) (t : TypeId) (hop : o.op = Op.call { callee := Callee.builtin Builtin.append, args := #[s, x], argTypes := #[t, t] })
    (base : Nat) (e : TypeId) (i : TypeInfo) (z : Value) (size bytes : Nat) (ht : P.underlying t = some (.slice e)) (hi : P.info? e = some i) (hz : i.zero = some z)
    (hsize : i.size = size) (hby : i.bytes = bytes) (hzs : z.cells.size = size) (hsz : 0 < size)
    (v : Value) (n : Nat) (xs : List Value) (hs : a.eval s = v) (hown : w.ownsRow base e size v n xs)
    (ad : Addr) (m c : Nat) (news : List Value) (hx : a.eval x = .slice (some ad) m c) (hl : news.length = m * size) (hnews : ∀ j u, news[j]? = some u → w.cell? (ad.add j) = some u) (h1 : ∀ u ∈ news, u.oneCell' = true)
    (h63 : n + m ≤ maxLen) (hbytes : (n + m) * bytes ≤ 140737488355328) (hbase : base ≤ w.heap.size)
    (hK : ∀ ao cap w', w'.ownsRow base e size (.slice ao (n + m) cap) (n + m) (xs ++ news) → w.grownBy w' v.ownBlock → ((Value.slice ao (n + m) cap).ownBlock = v.ownBlock ∨ (Value.slice ao (n + m) cap).ownBlock = some w.heap.size) → w'.ownsRow base e size v n xs → K (a.put o.dst (.slice ao (n + m) cap)) w') :
    if Region.wanted o (yielded ops a.tmps) = true then Oper.wp P o a w K Q else E := by
  have hw : Region.wanted o (yielded ops a.tmps) = true := by simp [Region.wanted, hg]
  rw [if_pos hw]
  obtain ⟨v', w', hr, h2, h3, _, h5⟩ := run_append_own_at (P := P) w base t o.type e i z size bytes ht hi hz hsize hby hzs hsz v n xs hown ad m c news hl hnews h1 h63 hbytes hbase
  have h6 := append_keeps base t o.type e i z size bytes ht hi hz hsize hby v n xs hown ad m c news hl hnews h1 h63 hbytes hr
  obtain ⟨ao, cap, rfl⟩ := owns_form h2
  unfold Oper.wp execOp
  simp only [hop, resolve, invoke, builtin, Sem.run_bind, Sem.run_pure, Result.andThen_ok, List.map_toArray, List.map_cons, List.map_nil, hs, hx, hr]
  exact hK ao cap w' h2 h3 h5 h6

end
end Go.Proofs.Gen

/- Seq: what is needed of it. -/
namespace Go.Proofs.YtefclohjeompkaaGreat
open Go Go.RowKit Go.Proofs.Gen Go.Proofs.Bdd Go.Proofs.Bdd.T
abbrev F := (Nat → Bool) → Bool

/-- A value that is the program's set of a function. -/
def IsF (w : World) (v : Value) (f : F) : Prop := ∃ t, IsD w v t ∧ ∀ c, t.ev c = f c

/-- A value that is the reference's set of a function. -/
def IsG (w : World) (v : Value) (f : F) : Prop := ∃ V, IsS w v V f

theorem IsF.near {w w' : World} {v : Value} {f : F} (h : IsF w v f) (hn : Near w w') : IsF w' v f := let ⟨t, h1, h2⟩ := h; ⟨t, h1.near hn, h2⟩

theorem IsG.near {w w' : World} {v : Value} {f : F} (h : IsG w v f) (hn : Near w w') : IsG w' v f := let ⟨V, h1⟩ := h; ⟨V, h1.near hn⟩

theorem IsF.form {w : World} {v : Value} {f : F} (h : IsF w v f) : ∃ ao n cap r, v = .agg #[.slice ao n cap, .int .i64 r] := by
  obtain ⟨t, h1, _⟩ := h
  obtain ⟨ao, n, cap, rfl, -⟩ := h1.form
  exact ⟨_, _, _, _, rfl⟩

theorem IsG.form {w : World} {v : Value} {f : F} (h : IsG w v f) : ∃ ao n cap bo m cbp, v = .agg #[.slice ao n cap, .slice bo m cbp] := let ⟨_, h1⟩ := h; h1.form

/-- Blocks of other types are written. -/
def OnlyOf (e : TypeId) (w w' : World) : Prop := ∃ R : Nat → Prop, Kept R w w' ∧ ∀ k, k < w.heap.size → R k → ∃ cur fr, w.heap[k]? = some (.cells cur e fr)

theorem Near.only {e : TypeId} {w w' : World} (h : Near w w') : OnlyOf e w w' := ⟨fun _ => False, h, fun _ _ h => h.elim⟩

theorem OnlyOf.owns {e e' : TypeId} {w w' : World} {base size n : Nat} {v : Value} {xs : List Value} (h : OnlyOf e w w') (hne : e' ≠ e) (hr : w.ownsRow base e' size v n xs) : w'.ownsRow base e' size v n xs := by
  obtain ⟨R, hk, hR⟩ := h
  refine owns_kept hr hk fun k hb hRk => ?_
  obtain ⟨cur, fr, hc⟩ := hR k (hr.lt k hb).2 hRk
  exact owns_ne hr hc hne hb

theorem OnlyOf.trans {e : TypeId} {a b c : World} (h : OnlyOf e a b) (k : Near b c) : OnlyOf e a c := by
  obtain ⟨R, hk, hR⟩ := h
  exact ⟨R, hk.trans k.kept, hR⟩

theorem IsF.only {w w' : World} {v : Value} {f : F} {e : TypeId} (h : IsF w v f) (ho : OnlyOf e w w') (he : 84 ≠ e) : IsF w' v f := by
  obtain ⟨t, ⟨ok, sv, rfl, hr⟩, h2⟩ := h
  exact ⟨t, ⟨ok, sv, rfl, ho.owns he hr⟩, h2⟩

theorem IsG.only {w w' : World} {v : Value} {f : F} {e : TypeId} (h : IsG w v f) (ho : OnlyOf e w w') (he : 3 ≠ e) (he' : 4 ≠ e) : IsG w' v f := by
  obtain ⟨V, T, ⟨h1, h2, sv, st, rfl, r1, r2⟩, hf⟩ := h
  exact ⟨V, T, ⟨h1, h2, sv, st, rfl, ho.owns he r1, ho.owns he' r2⟩, hf⟩

def flat2 (vs : List (Value × Value)) : List Value := vs.flatMap fun p => [p.1, p.2]

theorem flat2_at : ∀ {vs : List (Value × Value)} {j : Nat} {p : Value × Value}, vs[j]? = some p → (flat2 vs)[j * 2]? = some p.1 ∧ (flat2 vs)[j * 2 + 1]? = some p.2
  | q :: vs, 0, p, h => by simp at h; subst h; simp [flat2]
  | q :: vs, j + 1, p, h => by
    have ih := flat2_at (vs := vs) (j := j) (p := p) (by simpa using h)
    have e : flat2 (q :: vs) = q.1 :: q.2 :: flat2 vs := rfl
    rw [e, show (j + 1) * 2 = j * 2 + 1 + 1 from by omega]
    simpa using ih

theorem flat2_snoc (vs : List (Value × Value)) (p : Value × Value) : flat2 (vs ++ [p]) = flat2 vs ++ [p.1, p.2] := by simp [flat2]

/-- SETS IN A ROW: e their type, Is what they are. -/
def Sets (e : TypeId) (Is : World → Value → F → Prop) (b : Nat) (w : World) (x : Value) (fs : List F) : Prop :=
  ∃ vs : List (Value × Value), w.ownsRow b e 2 x fs.length (flat2 vs) ∧ vs.length = fs.length ∧ ∀ (j : Nat) (f : F) (p : Value × Value), fs[j]? = some f → vs[j]? = some p → Is w (.agg #[p.1, p.2]) f

theorem Sets.get {e : TypeId} {Is : World → Value → F → Prop} {b : Nat} {w : World} {x : Value} {fs : List F} (h : Sets e Is b w x fs) {j : Nat} {f : F} (hj : fs[j]? = some f) :
    ∃ g cap u v, x = .slice (some ⟨g, 0, none⟩) fs.length cap ∧ b ≤ g ∧ g < w.heap.size ∧ w.cell? ⟨g, j * 2, none⟩ = some u ∧ w.cell? ⟨g, j * 2 + 1, none⟩ = some v ∧ Is w (.agg #[u, v]) f := by
  obtain ⟨vs, hr, hl, hi⟩ := h
  have hjl : j < fs.length := (List.getElem?_eq_some_iff.1 hj).1
  have hv : vs[j]? = some (vs[j]'(by omega)) := List.getElem?_eq_getElem (by omega)
  obtain ⟨h0, h1⟩ := flat2_at hv
  rcases hr.2 with ⟨_, hz⟩ | ⟨g, cap, cur, rfl, hb, hg, _, _, hs, ht⟩
  · omega
  · refine ⟨g, cap, _, _, rfl, hb, (Array.getElem?_eq_some_iff.1 hg).1, ?_, ?_, hi _ _ _ hj hv⟩
    · rw [← ht, List.getElem?_take, if_pos (by omega)] at h0
      simp only [World.cell?, hg]
      simpa using h0
    · rw [← ht, List.getElem?_take, if_pos (by omega)] at h1
      simp only [World.cell?, hg]
      simpa using h1

theorem Sets.form {e : TypeId} {Is : World → Value → F → Prop} {b : Nat} {w : World} {x : Value} {fs : List F} (h : Sets e Is b w x fs) : ∃ ao cap, x = .slice ao fs.length cap := by
  obtain ⟨vs, hr, _⟩ := h
  exact owns_form hr

theorem Sets.map {e : TypeId} {Is : World → Value → F → Prop} {b : Nat} {w w' : World} {x : Value} {fs : List F} (h : Sets e Is b w x fs) (hn : Near w w') (hi : ∀ v f, Is w v f → Is w' v f) : Sets e Is b w' x fs := by
  obtain ⟨vs, hr, hl, his⟩ := h
  exact ⟨vs, owns_kept hr hn.kept (fun _ _ x => x), hl, fun j f p h1 h2 => hi _ _ (his j f p h1 h2)⟩

/-- One set more. -/
theorem Sets.push {e : TypeId} {Is : World → Value → F → Prop} {b : Nat} {w w' : World} {x' : Value} {fs : List F} {f : F} {u v : Value} {vs : List (Value × Value)} (hl : vs.length = fs.length)
    (his : ∀ (j : Nat) (f : F) (p : Value × Value), fs[j]? = some f → vs[j]? = some p → Is w (.agg #[p.1, p.2]) f) (hf : Is w (.agg #[u, v]) f)
    (hi : ∀ v f, Is w v f → Is w' v f) (hr' : w'.ownsRow b e 2 x' (fs.length + 1) (flat2 vs ++ [u, v])) : Sets e Is b w' x' (fs ++ [f]) := by
  refine ⟨vs ++ [(u, v)], ?_, by simp [hl], fun j f' p h1 h2 => hi _ _ ?_⟩
  · rw [flat2_snoc, List.length_append]
    exact hr'
  · by_cases hj : j < fs.length
    · rw [List.getElem?_append_left hj] at h1
      rw [List.getElem?_append_left (by omega)] at h2
      exact his j f' p h1 h2
    · have hjl := (List.getElem?_eq_some_iff.1 h1).1
      simp at hjl
      have e : j = fs.length := by omega
      subst e
      rw [List.getElem?_append_right (Nat.le_refl _), Nat.sub_self] at h1
      rw [List.getElem?_append_right (by omega), hl, Nat.sub_self] at h2
      simp at h1 h2
      subst h1
      subst h2
      exact hf

/-- A row grows: only blocks of its own type are written. -/
theorem only_grown {e : TypeId} {w w1 : World} {base size n : Nat} {v : Value} {xs : List Value} (hr : w.ownsRow base e size v n xs) {o : Obj} (hg : (w.alloc o).grownBy w1 v.ownBlock) : OnlyOf e w w1 := by
  refine ⟨fun k => v.ownBlock = some k, Kept.grown ((Kept.refl _ _).alloc o) hg (fun k hk _ => hk), fun k hk hR => ?_⟩
  rcases hr.2 with ⟨rfl, _⟩ | ⟨g, cap, cur, rfl, _, hg', _⟩
  · cases hR
  · cases hR
    exact ⟨cur, _, hg'⟩

end Go.Proofs.YtefclohjeompkaaGreat

/- Alike: what is needed of it. -/
namespace Go.Proofs.YtefclohjeompkaaGreat
open Go Go.RowKit Go.Proofs.Gen Go.Proofs.Bdd Go.Proofs.Bdd.T
/-- What a table's set depends on lies among its features. -/
theorem dep_mem {w : World} {v : Value} {V : List Nat} {f : F} (h : IsS w v V f) {i : Nat} (hd : dep f i = true) : i ∈ V := by
  obtain ⟨T, hT, hf⟩ := h
  refine Classical.byContradiction fun hn => ?_
  obtain ⟨c, hc⟩ := dep_true.1 hd
  refine hc ?_
  rw [← hf, ← hf]
  refine rf_congr fun j hj => ?_
  have : j ≠ i := fun e => hn (e ▸ hj)
  rw [upd_other _ _ this, upd_other _ _ this]

end Go.Proofs.YtefclohjeompkaaGreat
