/- A caller's list of decisions; the walk of below. -/
import Derived.Test.YtefclohjeompkaaRefN
namespace Go.Proofs.Ytefclohjeompkaa
open Go Go.RowKit Go.Proofs.Gen Go.Proofs.Bdd Go.Proofs.Bdd.T

/-- A decision as a caller gives it: any numbers. -/
structure Dec where
  v : Int
  lo : Int
  hi : Int
def decC (x : Dec) : List Value := [.int .i64 x.v, .int .i64 x.lo, .int .i64 x.hi]
def decs (l : List Dec) : List Value := l.flatMap decC

theorem dec_cells {w : World} {base : Nat} {v : Value} {l : List Dec} (h : w.ownsRow base 26 3 v l.length (decs l)) {k : Nat} {x : Dec} (hk : l[k]? = some x) :
    ∃ g cap, v = .slice (some ⟨g, 0, none⟩) l.length cap ∧ w.cell? ⟨g, k * 3, none⟩ = some (.int .i64 x.v) ∧ w.cell? ⟨g, k * 3 + 1, none⟩ = some (.int .i64 x.lo) ∧ w.cell? ⟨g, k * 3 + 2, none⟩ = some (.int .i64 x.hi) := by
  have hlt : k < l.length := (List.getElem?_eq_some_iff.1 hk).1
  rcases h.2 with ⟨_, h0⟩ | ⟨g, cap, cur, rfl, _, hg, _, _, hs, ht⟩
  · omega
  · refine ⟨g, cap, rfl, ?_⟩
    have at' : ∀ (l : List Dec) (k : Nat) (x : Dec), l[k]? = some x → ∀ j, j < 3 → (decs l)[k * 3 + j]? = (decC x)[j]? := by
      intro l
      induction l with
      | nil => intro k x h; simp at h
      | cons y r ih =>
        intro k x hk j hj
        have e : decs (y :: r) = decC y ++ decs r := rfl
        have ly : (decC y).length = 3 := rfl
        rw [e]
        cases k with
        | zero =>
          simp at hk
          subst hk
          rw [List.getElem?_append_left (by omega), Nat.zero_mul, Nat.zero_add]
        | succ k =>
          rw [List.getElem?_append_right (by omega), ly, show (k + 1) * 3 + j - 3 = k * 3 + j from by omega]
          exact ih k x (by simpa using hk) j hj
    have look : ∀ j, j < 3 → w.cell? ⟨g, k * 3 + j, none⟩ = (decC x)[j]? := by
      intro j hj
      have a := at' l k x hk j hj
      rw [← ht, List.getElem?_take, if_pos (by omega)] at a
      simp only [World.cell?, hg]
      simpa using a
    exact ⟨look 0 (by omega), look 1 (by omega), look 2 (by omega)⟩

end Go.Proofs.Ytefclohjeompkaa
