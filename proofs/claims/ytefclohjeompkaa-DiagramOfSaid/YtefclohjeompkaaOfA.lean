/- A caller's list of decisions: what it describes; the walk of below. -/
import Derived.Test.YtefclohjeompkaaRefO
import Derived.Deep.Slices
namespace Go.Proofs.Ytefclohjeompkaa
open Go Go.RowKit Go.Proofs.Gen Go.Proofs.Bdd Go.Proofs.Bdd.T

/-- A list of decisions as it is read. -/
def RdDec (w : World) (v : Value) (l : List Dec) : Prop :=
  ∃ ao cap, v = .slice ao l.length cap ∧ ∀ k x, l[k]? = some x → ∃ b off, ao = some ⟨b, off, none⟩ ∧ w.cell? ⟨b, off + k * 3, none⟩ = some (.int .i64 x.v) ∧ w.cell? ⟨b, off + k * 3 + 1, none⟩ = some (.int .i64 x.lo) ∧ w.cell? ⟨b, off + k * 3 + 2, none⟩ = some (.int .i64 x.hi)

theorem RdDec.near {w w' : World} {v : Value} {l : List Dec} (h : RdDec w v l) (hn : Near w w') : RdDec w' v l := by
  obtain ⟨ao, cap, rfl, hc⟩ := h
  refine ⟨ao, cap, rfl, fun k x hk => ?_⟩
  obtain ⟨b, off, e, h0, h1, h2⟩ := hc k x hk
  exact ⟨b, off, e, hn.cell h0, hn.cell h1, hn.cell h2⟩

theorem RdDec.owns {w : World} {base : Nat} {v : Value} {l : List Dec} (h : w.ownsRow base 26 3 v l.length (decs l)) : RdDec w v l := by
  obtain ⟨ao, cap, rfl⟩ := owns_form h
  refine ⟨ao, cap, rfl, fun k x hk => ?_⟩
  obtain ⟨g, c, he, h0, h1, h2⟩ := dec_cells h hk
  cases he
  exact ⟨g, 0, rfl, by simpa using h0, by simpa using h1, by simpa using h2⟩

/-- May a place be a child of the element k? -/
def BelowOk (l : List Dec) (k : Nat) (r : Int) : Prop := 0 ≤ r ∧ r < k + 2 ∧ (r < 2 ∨ ∀ x y, l[(r - 2).toNat]? = some x → l[k]? = some y → y.v < x.v)

set_option maxRecDepth 100000 in
set_option maxHeartbeats 400000 in
theorem below_node {w : World} {b off n cap k q : Nat} {a c : Int} (hn : n ≤ 65536) (hk : k < n) (hqk : q < k) (x0 : w.cell? ⟨b, off + q * 3, none⟩ = some (.int .i64 a)) (y0 : w.cell? ⟨b, off + k * 3, none⟩ = some (.int .i64 c)) :
    Calls Try.prog 77 #[.slice (some ⟨b, off, none⟩) n cap, .int .i64 k, .int .i64 (q + 2)] w fun e w' => e = .returned (.bool (decide (c < a))) ∧ Near w w' := by
  have hq : (q : Int) < n := by omega
  have hkl : (k : Int) < n := by omega
  have h0 : 0 ≤ (q : Int) + 2 := by omega
  have h1 : (q : Int) + 2 < k + 2 := by omega
  have h2 : decide ((q : Int) + 2 < 2) = false := by simp; omega
  have h3 : 2 ≤ (q : Int) + 2 := by omega
  go_enter Try.func77, Try.ntmps77
  go_wp2
  go_quiet (fail)
  all_goals
    go_wp2
    exact bodyPost_ret (v := .bool (decide (c < a))) (by simp [results, Try.results77, go_sem]) rfl ⟨rfl, (Near.refl w).drewN _⟩

set_option maxRecDepth 100000 in
set_option maxHeartbeats 400000 in
theorem below_leaf {w : World} {ao : Option Addr} {n cap k : Nat} {r : Int} (hn : n ≤ 65536) (hk : k < n) (h0 : 0 ≤ r) (h2 : r < 2) :
    Calls Try.prog 77 #[.slice ao n cap, .int .i64 k, .int .i64 r] w fun e w' => e = .returned (.bool true) ∧ Near w w' := by
  have hkl : (k : Int) < n := by omega
  have h1 : r < (k : Int) + 2 := by omega
  have h2' : decide (r < 2) = true := by simpa using h2
  have h0' : decide (0 ≤ r) = true := by simpa using h0
  have h1' : decide (r < (k : Int) + 2) = true := by simpa using h1
  go_enter Try.func77, Try.ntmps77
  go_wp2
  go_quiet (fail)
  all_goals
    go_wp2
    exact bodyPost_ret (v := .bool true) (by simp [results, Try.results77, go_sem]) rfl ⟨rfl, (Near.refl w).drewN _⟩

set_option maxRecDepth 100000 in
set_option maxHeartbeats 400000 in
theorem below_neg {w : World} {ao : Option Addr} {n cap k : Nat} {r : Int} (_hn : n ≤ 65536) (hk : k < n) (h0 : r < 0) :
    Calls Try.prog 77 #[.slice ao n cap, .int .i64 k, .int .i64 r] w fun e w' => e = .returned (.bool false) ∧ Near w w' := by
  have hkl : (k : Int) < n := by omega
  have h0' : decide (0 ≤ r) = false := by simpa using h0
  go_enter Try.func77, Try.ntmps77
  go_wp2
  go_quiet (fail)
  all_goals
    go_wp2
    exact bodyPost_ret (v := .bool false) (by simp [results, Try.results77, go_sem]) rfl ⟨rfl, (Near.refl w).drewN _⟩

set_option maxRecDepth 100000 in
set_option maxHeartbeats 400000 in
theorem below_far {w : World} {ao : Option Addr} {n cap k : Nat} {r : Int} (hn : n ≤ 65536) (hk : k < n) (h0 : 0 ≤ r) (h1 : (k : Int) + 2 ≤ r) :
    Calls Try.prog 77 #[.slice ao n cap, .int .i64 k, .int .i64 r] w fun e w' => e = .returned (.bool false) ∧ Near w w' := by
  have hkl : (k : Int) < n := by omega
  have h0' : decide (0 ≤ r) = true := by simpa using h0
  have h1' : decide (r < (k : Int) + 2) = false := by simp; omega
  go_enter Try.func77, Try.ntmps77
  go_wp2
  go_quiet (fail)
  all_goals
    go_wp2
    exact bodyPost_ret (v := .bool false) (by simp [results, Try.results77, go_sem]) rfl ⟨rfl, (Near.refl w).drewN _⟩

/-- THE CONTRACT OF 'below'. -/
theorem below_calls {w : World} {v : Value} {l : List Dec} {k : Nat} {r : Int} {b : Bool} (h : RdDec w v l) (hk : k < l.length) (hl : l.length ≤ 65536) (hb : BelowOk l k r ↔ b = true) :
    Calls Try.prog 77 #[v, .int .i64 k, .int .i64 r] w fun e w' => e = .returned (.bool b) ∧ Near w w' := by
  obtain ⟨ao, cap, rfl, hc⟩ := h
  by_cases h0 : 0 ≤ r
  · by_cases h1 : r < (k : Int) + 2
    · by_cases h2 : r < 2
      · rw [hb.1 ⟨h0, h1, .inl h2⟩]
        exact below_leaf hl hk h0 h2
      · obtain ⟨q, rfl⟩ : ∃ q : Nat, r = q + 2 := ⟨(r - 2).toNat, by omega⟩
        have hx : l[q]? = some (l[q]'(by omega)) := List.getElem?_eq_getElem (by omega)
        have hy : l[k]? = some l[k] := List.getElem?_eq_getElem hk
        obtain ⟨g, off, rfl, x0, -, -⟩ := hc _ _ hx
        obtain ⟨g', off', he, y0, -, -⟩ := hc _ _ hy
        cases he
        have hd : decide (l[k].v < (l[q]'(by omega)).v) = b := by
          rw [Bool.eq_iff_iff, decide_eq_true_iff, ← hb]
          have eq : ((q : Int) + 2 - 2).toNat = q := by omega
          constructor
          · intro hlt
            refine ⟨h0, h1, .inr fun x y e1 e2 => ?_⟩
            rw [eq, hx] at e1
            rw [hy] at e2
            cases e1
            cases e2
            exact hlt
          · rintro ⟨-, -, h | h⟩
            · omega
            · exact h _ _ (by rw [eq, hx]) hy
        rw [← hd]
        exact below_node hl hk (by omega) x0 y0
    · have : b = false := by
        cases b
        · rfl
        · exact (h1 (hb.2 rfl).2.1).elim
      rw [this]
      exact below_far hl hk h0 (by omega)
  · have : b = false := by
      cases b
      · rfl
      · exact (h0 (hb.2 rfl).1).elim
    rw [this]
    exact below_neg hl hk (by omega)

end Go.Proofs.Ytefclohjeompkaa
