/- Plain facts: the levels of a tree are the features on which its function depends. -/
import Derived.Test.YtefclohjeompkaaTreeB
namespace Go.Proofs.Bdd
namespace T

open Classical in
/-- Does a function depend on a feature? -/
noncomputable def dep (f : (Nat → Bool) → Bool) (i : Nat) : Bool := decide (∃ c, f (upd c i true) ≠ f (upd c i false))

theorem dep_true {f : (Nat → Bool) → Bool} {i : Nat} : dep f i = true ↔ ∃ c, f (upd c i true) ≠ f (upd c i false) := by
  unfold dep
  simp

theorem dep_congr {f g : (Nat → Bool) → Bool} (h : ∀ c, f c = g c) (i : Nat) : dep f i = dep g i := by
  have : f = g := funext h
  rw [this]

/-- Does a level occur in a tree? -/
def occ (i : Nat) : T → Prop
  | .leaf _ => False
  | .node j l h => j = i ∨ occ i l ∨ occ i h

theorem occ_lv {i : Nat} : ∀ {t : T}, t.Ok → occ i t → t.lv ≤ i ∧ i < 24
  | .leaf _, _, h => h.elim
  | .node j l r, ok, h => by
    rcases h with rfl | h | h
    · exact ⟨Nat.le_refl _, ok.1⟩
    · have := occ_lv ok.2.2.2.2.1 h
      have h2 := ok.2.1
      simp only [lv]; omega
    · have := occ_lv ok.2.2.2.2.2 h
      have h2 := ok.2.2.1
      simp only [lv]; omega

theorem ev_occ {c d : Nat → Bool} : ∀ {t : T}, (∀ j, occ j t → c j = d j) → t.ev c = t.ev d
  | .leaf _, _ => rfl
  | .node i l r, h => by
    simp only [ev]
    rw [h i (.inl rfl), ev_occ (t := l) (fun j hj => h j (.inr (.inl hj))), ev_occ (t := r) (fun j hj => h j (.inr (.inr hj)))]

theorem upd_comm {c : Nat → Bool} {i j : Nat} {a b : Bool} (h : i ≠ j) : upd (upd c i a) j b = upd (upd c j b) i a := by
  funext k
  unfold upd
  by_cases h1 : k = j
  · subst h1
    simp [Ne.symm h]
  · simp [h1]

theorem occ_dep {i : Nat} : ∀ {t : T}, t.Ok → occ i t → ∃ c, t.ev (upd c i true) ≠ t.ev (upd c i false)
  | .leaf _, _, h => h.elim
  | .node j l r, ok, h => by
    by_cases hji : j = i
    · subst hji
      have hne : ∃ c, l.ev c ≠ r.ev c := Classical.byContradiction fun hn => ok.2.2.2.1 (canon ok.2.2.2.2.1 ok.2.2.2.2.2 fun c => Classical.byContradiction fun h => hn ⟨c, h⟩)
      obtain ⟨c, hc⟩ := hne
      refine ⟨c, ?_⟩
      rw [ev_low c j l r ok, ev_high c j l r ok]
      exact fun e => hc e.symm
    · have sub : ∀ {s : T} (b : Bool), s.Ok → j < s.lv → (∀ c, (node j l r).ev (upd c j b) = s.ev c) → (∃ c, s.ev (upd c i true) ≠ s.ev (upd c i false)) → ∃ c, (node j l r).ev (upd c i true) ≠ (node j l r).ev (upd c i false) := by
        intro s b os hls he ⟨c, hc⟩
        refine ⟨upd c j b, ?_⟩
        rw [upd_comm hji, upd_comm hji, he, he]
        exact hc
      rcases h with h | h | h
      · exact (hji h).elim
      · exact sub false ok.2.2.2.2.1 ok.2.1 (fun c => ev_low c j l r ok) (occ_dep ok.2.2.2.2.1 h)
      · exact sub true ok.2.2.2.2.2 ok.2.2.1 (fun c => ev_high c j l r ok) (occ_dep ok.2.2.2.2.2 h)

theorem dep_occ {i : Nat} {t : T} (ok : t.Ok) : dep t.ev i = true ↔ occ i t := by
  rw [dep_true]
  constructor
  · intro ⟨c, hc⟩
    refine Classical.byContradiction fun h => hc ?_
    refine ev_occ fun j hj => ?_
    have : j ≠ i := fun e => h (e ▸ hj)
    rw [upd_other _ _ this, upd_other _ _ this]
  · exact occ_dep ok

/-- A part of a tree. -/
def sub (s : T) : T → Prop
  | .leaf b => s = .leaf b
  | .node i l h => s = .node i l h ∨ sub s l ∨ sub s h

theorem go_mem_sub {s : T} : ∀ (t : T) (acc : List T), s ∈ go t acc → s ∈ acc ∨ sub s t
  | .leaf _, acc, h => .inl h
  | .node i l r, acc, h => by
    simp only [go] at h
    split at h
    · exact .inl h
    · rcases List.mem_append.1 h with h | h
      · rcases go_mem_sub r _ h with h | h
        · rcases go_mem_sub l _ h with h | h
          · exact .inl h
          · exact .inr (.inr (.inl h))
        · exact .inr (.inr (.inr h))
      · simp at h
        exact .inr (.inl h)

theorem sub_occ {s : T} {i : Nat} : ∀ {t : T}, sub s t → occ i s → occ i t
  | .leaf b, h, ho => by
    rw [show s = .leaf b from h] at ho
    exact ho
  | .node j l r, h, ho => by
    rcases h with h | h | h
    · rw [h] at ho
      exact ho
    · exact .inr (.inl (sub_occ h ho))
    · exact .inr (.inr (sub_occ h ho))

theorem occ_in {L : List T} (g : Good L) {i : Nat} : ∀ {t : T}, In L t → occ i t → ∃ s ∈ L, s.lv = i
  | .leaf _, _, h => h.elim
  | .node j l r, hin, h => by
    have k := g.kids (show node j l r ∈ L from hin)
    rcases h with h | h | h
    · exact ⟨node j l r, hin, h⟩
    · exact occ_in g k.1 h
    · exact occ_in g k.2 h

/-- THE LISTED LEVELS ARE THE FEATURES ON WHICH THE FUNCTION DEPENDS. -/
theorem sup_dep {t : T} (ok : t.Ok) (i : Nat) : (sup (nodes t)).testBit i = dep t.ev i := by
  rw [sup_bit, Bool.eq_iff_iff, dep_occ ok, List.any_eq_true]
  constructor
  · intro ⟨s, hs, hl⟩
    have h1 := go_mem_sub t [] hs
    rcases h1 with h1 | h1
    · cases h1
    · have hn := (nodes_good ok).all s hs
      cases s with
      | leaf => exact hn.1.elim
      | node j l r =>
        refine sub_occ h1 (.inl ?_)
        simpa [lv] using hl
  · intro h
    obtain ⟨s, hs, hl⟩ := occ_in (nodes_good ok) (nodes_in t) h
    exact ⟨s, hs, by simp [hl]⟩

theorem dep_lt {t : T} (ok : t.Ok) {i : Nat} (h : dep t.ev i = true) : i < 24 := (occ_lv ok ((dep_occ ok).1 h)).2

end T
end Go.Proofs.Bdd
