/- A slice of the call's own whose elements are sets (two cells each), of the program or of the reference. -/
import Derived.Test.YtefclohjeompkaaOfC
namespace Go.Proofs.Ytefclohjeompkaa
open Go Go.RowKit Go.Proofs.Gen Go.Proofs.Bdd Go.Proofs.Bdd.T

abbrev F := (Nat → Bool) → Bool

/-- A value that is the program's set of a function. -/
def IsF (w : World) (v : Value) (f : F) : Prop := ∃ t, IsD w v t ∧ ∀ c, t.ev c = f c
/-- A value that is the reference's set of a function. -/
def IsG (w : World) (v : Value) (f : F) : Prop := ∃ V, IsS w v V f

theorem IsF.near {w w' : World} {v : Value} {f : F} (h : IsF w v f) (hn : Near w w') : IsF w' v f := let ⟨t, h1, h2⟩ := h; ⟨t, h1.near hn, h2⟩
theorem IsG.near {w w' : World} {v : Value} {f : F} (h : IsG w v f) (hn : Near w w') : IsG w' v f := let ⟨V, h1⟩ := h; ⟨V, h1.near hn⟩
theorem IsF.form {w : World} {v : Value} {f : F} (h : IsF w v f) : ∃ ao n cap r, v = .agg #[.slice ao n cap, .int .i64 r] := by
  obtain ⟨t, h1, _⟩ := h
  obtain ⟨ao, n, cap, rfl, -⟩ := h1.form
  exact ⟨_, _, _, _, rfl⟩
theorem IsG.form {w : World} {v : Value} {f : F} (h : IsG w v f) : ∃ ao n cap bo m cbp, v = .agg #[.slice ao n cap, .slice bo m cbp] := let ⟨_, h1⟩ := h; h1.form

/-- Blocks of other types are written. -/
def OnlyOf (e : TypeId) (w w' : World) : Prop := ∃ R : Nat → Prop, Kept R w w' ∧ ∀ k, k < w.heap.size → R k → ∃ cur fr, w.heap[k]? = some (.cells cur e fr)

theorem Near.only {e : TypeId} {w w' : World} (h : Near w w') : OnlyOf e w w' := ⟨fun _ => False, h, fun _ _ h => h.elim⟩
theorem OnlyOf.owns {e e' : TypeId} {w w' : World} {base size n : Nat} {v : Value} {xs : List Value} (h : OnlyOf e w w') (hne : e' ≠ e) (hr : w.ownsRow base e' size v n xs) : w'.ownsRow base e' size v n xs := by
  obtain ⟨R, hk, hR⟩ := h
  refine owns_kept hr hk fun k hb hRk => ?_
  obtain ⟨cur, fr, hc⟩ := hR k (hr.lt k hb).2 hRk
  exact owns_ne hr hc hne hb
theorem OnlyOf.trans {e : TypeId} {a b c : World} (h : OnlyOf e a b) (k : Near b c) : OnlyOf e a c := by
  obtain ⟨R, hk, hR⟩ := h
  exact ⟨R, hk.trans k.kept, hR⟩

theorem IsF.only {w w' : World} {v : Value} {f : F} {e : TypeId} (h : IsF w v f) (ho : OnlyOf e w w') (he : 26 ≠ e) : IsF w' v f := by
  obtain ⟨t, ⟨ok, sv, rfl, hr⟩, h2⟩ := h
  exact ⟨t, ⟨ok, sv, rfl, ho.owns he hr⟩, h2⟩
theorem IsG.only {w w' : World} {v : Value} {f : F} {e : TypeId} (h : IsG w v f) (ho : OnlyOf e w w') (he : 3 ≠ e) (he' : 4 ≠ e) : IsG w' v f := by
  obtain ⟨V, T, ⟨h1, h2, sv, st, rfl, r1, r2⟩, hf⟩ := h
  exact ⟨V, T, ⟨h1, h2, sv, st, rfl, ho.owns he r1, ho.owns he' r2⟩, hf⟩

def flat2 (vs : List (Value × Value)) : List Value := vs.flatMap fun p => [p.1, p.2]

theorem flat2_at : ∀ {vs : List (Value × Value)} {j : Nat} {p : Value × Value}, vs[j]? = some p → (flat2 vs)[j * 2]? = some p.1 ∧ (flat2 vs)[j * 2 + 1]? = some p.2
  | q :: vs, 0, p, h => by simp at h; subst h; simp [flat2]
  | q :: vs, j + 1, p, h => by
    have ih := flat2_at (vs := vs) (j := j) (p := p) (by simpa using h)
    have e : flat2 (q :: vs) = q.1 :: q.2 :: flat2 vs := rfl
    rw [e, show (j + 1) * 2 = j * 2 + 1 + 1 from by omega]
    simpa using ih
theorem flat2_len (vs : List (Value × Value)) : (flat2 vs).length = vs.length * 2 := by
  induction vs with
  | nil => rfl
  | cons q vs ih =>
    have e : flat2 (q :: vs) = q.1 :: q.2 :: flat2 vs := rfl
    rw [e]; simp only [List.length_cons, ih]; omega
theorem flat2_snoc (vs : List (Value × Value)) (p : Value × Value) : flat2 (vs ++ [p]) = flat2 vs ++ [p.1, p.2] := by simp [flat2]

/-- SETS IN A ROW: e their type, Is what they are. -/
def Sets (e : TypeId) (Is : World → Value → F → Prop) (b : Nat) (w : World) (x : Value) (fs : List F) : Prop :=
  ∃ vs : List (Value × Value), w.ownsRow b e 2 x fs.length (flat2 vs) ∧ vs.length = fs.length ∧ ∀ (j : Nat) (f : F) (p : Value × Value), fs[j]? = some f → vs[j]? = some p → Is w (.agg #[p.1, p.2]) f

theorem Sets.get {e : TypeId} {Is : World → Value → F → Prop} {b : Nat} {w : World} {x : Value} {fs : List F} (h : Sets e Is b w x fs) {j : Nat} {f : F} (hj : fs[j]? = some f) :
    ∃ g cap u v, x = .slice (some ⟨g, 0, none⟩) fs.length cap ∧ b ≤ g ∧ g < w.heap.size ∧ w.cell? ⟨g, j * 2, none⟩ = some u ∧ w.cell? ⟨g, j * 2 + 1, none⟩ = some v ∧ Is w (.agg #[u, v]) f := by
  obtain ⟨vs, hr, hl, hi⟩ := h
  have hjl : j < fs.length := (List.getElem?_eq_some_iff.1 hj).1
  have hv : vs[j]? = some (vs[j]'(by omega)) := List.getElem?_eq_getElem (by omega)
  obtain ⟨h0, h1⟩ := flat2_at hv
  rcases hr.2 with ⟨_, hz⟩ | ⟨g, cap, cur, rfl, hb, hg, _, _, hs, ht⟩
  · omega
  · refine ⟨g, cap, _, _, rfl, hb, (Array.getElem?_eq_some_iff.1 hg).1, ?_, ?_, hi _ _ _ hj hv⟩
    · rw [← ht, List.getElem?_take, if_pos (by omega)] at h0
      simp only [World.cell?, hg]
      simpa using h0
    · rw [← ht, List.getElem?_take, if_pos (by omega)] at h1
      simp only [World.cell?, hg]
      simpa using h1

theorem Sets.form {e : TypeId} {Is : World → Value → F → Prop} {b : Nat} {w : World} {x : Value} {fs : List F} (h : Sets e Is b w x fs) : ∃ ao cap, x = .slice ao fs.length cap := by
  obtain ⟨vs, hr, _⟩ := h
  exact owns_form hr

theorem Sets.map {e : TypeId} {Is : World → Value → F → Prop} {b : Nat} {w w' : World} {x : Value} {fs : List F} (h : Sets e Is b w x fs) (hn : Near w w') (hi : ∀ v f, Is w v f → Is w' v f) : Sets e Is b w' x fs := by
  obtain ⟨vs, hr, hl, his⟩ := h
  exact ⟨vs, owns_kept hr hn.kept (fun _ _ x => x), hl, fun j f p h1 h2 => hi _ _ (his j f p h1 h2)⟩

/-- One set more. -/
theorem Sets.push {e : TypeId} {Is : World → Value → F → Prop} {b : Nat} {w w' : World} {x' : Value} {fs : List F} {f : F} {u v : Value} {vs : List (Value × Value)} (hl : vs.length = fs.length)
    (his : ∀ (j : Nat) (f : F) (p : Value × Value), fs[j]? = some f → vs[j]? = some p → Is w (.agg #[p.1, p.2]) f) (hf : Is w (.agg #[u, v]) f)
    (hi : ∀ v f, Is w v f → Is w' v f) (hr' : w'.ownsRow b e 2 x' (fs.length + 1) (flat2 vs ++ [u, v])) : Sets e Is b w' x' (fs ++ [f]) := by
  refine ⟨vs ++ [(u, v)], ?_, by simp [hl], fun j f' p h1 h2 => hi _ _ ?_⟩
  · rw [flat2_snoc, List.length_append]
    exact hr'
  · by_cases hj : j < fs.length
    · rw [List.getElem?_append_left hj] at h1
      rw [List.getElem?_append_left (by omega)] at h2
      exact his j f' p h1 h2
    · have hjl := (List.getElem?_eq_some_iff.1 h1).1
      simp at hjl
      have e : j = fs.length := by omega
      subst e
      rw [List.getElem?_append_right (Nat.le_refl _), Nat.sub_self] at h1
      rw [List.getElem?_append_right (by omega), hl, Nat.sub_self] at h2
      simp at h1 h2
      subst h1
      subst h2
      exact hf

/-- A row grows: only blocks of its own type are written. -/
theorem only_grown {e : TypeId} {w w1 : World} {base size n : Nat} {v : Value} {xs : List Value} (hr : w.ownsRow base e size v n xs) {o : Obj} (hg : (w.alloc o).grownBy w1 v.ownBlock) : OnlyOf e w w1 := by
  refine ⟨fun k => v.ownBlock = some k, Kept.grown ((Kept.refl _ _).alloc o) hg (fun k hk _ => hk), fun k hk hR => ?_⟩
  rcases hr.2 with ⟨rfl, _⟩ | ⟨g, cap, cur, rfl, _, hg', _⟩
  · cases hR
  · cases hR
    exact ⟨cur, _, hg'⟩

end Go.Proofs.Ytefclohjeompkaa
