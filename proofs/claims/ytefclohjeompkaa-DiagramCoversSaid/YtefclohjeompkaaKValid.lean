/- Parts of a proof: LinA, Valid. -/
import Derived.Test.YtefclohjeompkaaKRefP
/- Linear: the plain facts. The set of a relation as a tree of sums; spans of sums. -/
namespace Go.Proofs.Ytefclohjeompkaa
open Go Go.RowKit Go.Proofs.Gen Go.Proofs.Bdd Go.Proofs.Bdd.T

/-- The set of the configurations whose sum, s ahead of the last k features, is one that g takes. -/
def linT (cost : Nat → Int) (g : Int → Bool) : Nat → Int → T
  | 0, s => .leaf (g s)
  | k + 1, s => T.mk (24 - (k + 1)) (linT cost g k s) (linT cost g k (s + cost (24 - (k + 1))))

theorem linT_ok (cost : Nat → Int) (g : Int → Bool) : ∀ (k : Nat) (s : Int), k ≤ 24 → (linT cost g k s).Ok ∧ 24 - k ≤ (linT cost g k s).lv
  | 0, s, _ => ⟨trivial, Nat.le_refl 24⟩
  | k + 1, s, h => by
    have h1 := linT_ok cost g k s (by omega)
    have h2 := linT_ok cost g k (s + cost (24 - (k + 1))) (by omega)
    exact ⟨T.mk_ok (by omega) (by omega) (by omega) h1.1 h2.1, T.mk_lv (by omega)⟩

/-- The sum of the features from 24 - k on that a configuration has. -/
def sumFrom (cost : Nat → Int) (c : Nat → Bool) : Nat → Int
  | 0 => 0
  | k + 1 => (if c (24 - (k + 1)) then cost (24 - (k + 1)) else 0) + sumFrom cost c k

theorem linT_ev (cost : Nat → Int) (g : Int → Bool) (c : Nat → Bool) : ∀ (k : Nat) (s : Int), (linT cost g k s).ev c = g (s + sumFrom cost c k)
  | 0, s => by simp [linT, sumFrom, T.ev]
  | k + 1, s => by
    show (T.mk _ _ _).ev c = _
    rw [T.mk_ev, linT_ev cost g c k s, linT_ev cost g c k]
    rw [show sumFrom cost c (k + 1) = (if c (24 - (k + 1)) then cost (24 - (k + 1)) else 0) + sumFrom cost c k from rfl]
    generalize sumFrom cost c k = z
    cases c (24 - (k + 1)) <;> simp [Int.add_assoc]

/-- A span of sums: from low to high the set of the last k features is one and the same tree. -/
def SpanOk (cost : Nat → Int) (g : Int → Bool) (L : List T) (k : Nat) (x : Dec) : Prop :=
  ∃ t : T, T.In L t ∧ x.hi = (pl L t : Nat) ∧ (∀ s, x.v ≤ s → s ≤ x.lo → linT cost g k s = t) ∧ t.Ok ∧ 24 - k ≤ t.lv ∧
    (-(35184372088832 + 2147483648 * (k : Int)) ≤ x.v ∧ x.v ≤ 35184372088832 + 2147483648 * (k : Int)) ∧ (-(35184372088832 + 2147483648 * (k : Int)) ≤ x.lo ∧ x.lo ≤ 35184372088832 + 2147483648 * (k : Int))

theorem SpanOk.mono {cost : Nat → Int} {g : Int → Bool} {L : List T} {k : Nat} {x : Dec} (h : SpanOk cost g L k x) (M : List T) : SpanOk cost g (L ++ M) k x := by
  obtain ⟨t, h1, h2, h3⟩ := h
  exact ⟨t, h1.mono M, by rw [T.pl_append h1]; exact h2, h3⟩

/-- The span of two children's spans. -/
def spanOf (c : Int) (p : Int) (a b : Dec) : Dec := ⟨max a.v (b.v - c), min a.lo (b.lo - c), p⟩

theorem spanOf_ok {cost : Nat → Int} {g : Int → Bool} {L : List T} {k : Nat} (hk : k + 1 ≤ 24) {a b : Dec} {ta tb : T} (hc : -2147483648 ≤ cost (24 - (k + 1)) ∧ cost (24 - (k + 1)) ≤ 2147483648)
    (ia : T.In L ta) (ha : ∀ s, a.v ≤ s → s ≤ a.lo → linT cost g k s = ta) (oa : ta.Ok) (la : 24 - k ≤ ta.lv)
    (hb : ∀ s, b.v ≤ s → s ≤ b.lo → linT cost g k s = tb) (ob : tb.Ok) (lb : 24 - k ≤ tb.lv)
    (ra : (-(35184372088832 + 2147483648 * (k : Int)) ≤ a.v ∧ a.v ≤ 35184372088832 + 2147483648 * (k : Int)) ∧ (-(35184372088832 + 2147483648 * (k : Int)) ≤ a.lo ∧ a.lo ≤ 35184372088832 + 2147483648 * (k : Int)))
    (rb : (-(35184372088832 + 2147483648 * (k : Int)) ≤ b.v ∧ b.v ≤ 35184372088832 + 2147483648 * (k : Int)) ∧ (-(35184372088832 + 2147483648 * (k : Int)) ≤ b.lo ∧ b.lo ≤ 35184372088832 + 2147483648 * (k : Int))) :
    SpanOk cost g (T.add L (24 - (k + 1)) ta tb) (k + 1) (spanOf (cost (24 - (k + 1))) (pl (T.add L (24 - (k + 1)) ta tb) (T.mk (24 - (k + 1)) ta tb) : Nat) a b) := by
  refine ⟨T.mk (24 - (k + 1)) ta tb, T.add_in ia, rfl, fun s h1 h2 => ?_, T.mk_ok (by omega) (by omega) (by omega) oa ob, T.mk_lv (by omega), ?_⟩
  · simp only [spanOf] at h1 h2
    show T.mk _ _ _ = _
    rw [ha s (by omega) (by omega), hb (s + cost (24 - (k + 1))) (by omega) (by omega)]
  · simp only [spanOf]
    omega

/-- The sum asked for lies in the children's spans, so in theirs together. -/
theorem spanOf_has {c p s : Int} {a b : Dec} (h1 : a.v ≤ s ∧ s ≤ a.lo) (h2 : b.v ≤ s + c ∧ s + c ≤ b.lo) : (spanOf c p a b).v ≤ s ∧ s ≤ (spanOf c p a b).lo := by
  simp only [spanOf]
  omega

end Go.Proofs.Ytefclohjeompkaa

/- The contract of 'valid'. -/
namespace Go.Proofs.Ytefclohjeompkaa
open Go Go.RowKit Go.Proofs.Gen Go.Proofs.Bdd Go.Proofs.Bdd.T

/-- A list of numbers as it is read. -/
def RdInts (w : World) (v : Value) (l : List Int) : Prop :=
  ∃ ao cap, v = .slice ao l.length cap ∧ ∀ k x, l[k]? = some x → ∃ b off, ao = some ⟨b, off, none⟩ ∧ w.cell? ⟨b, off + k, none⟩ = some (.int .i64 x)

theorem RdInts.near {w w' : World} {v : Value} {l : List Int} (h : RdInts w v l) (hn : Near w w') : RdInts w' v l := by
  obtain ⟨ao, cap, rfl, hc⟩ := h
  refine ⟨ao, cap, rfl, fun k x hk => ?_⟩
  obtain ⟨b, off, e, h0⟩ := hc k x hk
  exact ⟨b, off, e, hn.cell h0⟩

/-- Costs that Linear takes. -/
def CostsOk (l : List Int) : Prop := l.length ≤ 24 ∧ ∀ x ∈ l, -2147483648 ≤ x ∧ x ≤ 2147483648

instance (l : List Int) : Decidable (CostsOk l) := by unfold CostsOk; infer_instance

set_option maxRecDepth 100000 in
set_option maxHeartbeats 800000 in
theorem valid_long {w : World} {v : Value} {l : List Int} (h : RdInts w v l) (hl : 24 < l.length) :
    Calls Try.prog 110 #[v] w fun e w' => e = .returned (.bool false) ∧ Near w w' := by
  obtain ⟨ao, cap, rfl, -⟩ := h
  have hl' : ¬ ((l.length : Int) ≤ 24) := by omega
  have hl2 : (24 : Int) < l.length := by omega
  go_enter Try.func110, Try.ntmps110
  go_wp2_with fail
  exact bodyPost_ret (v := .bool false) (by simp [results, Try.results110, go_sem]) rfl ⟨rfl, Near.refl _⟩

set_option maxRecDepth 100000 in
set_option maxHeartbeats 800000 in
theorem valid_short {w : World} {v : Value} {l : List Int} (h : RdInts w v l) (hl : l.length ≤ 24) {r : Bool} (hr : r = true ↔ ∀ x ∈ l, -2147483648 ≤ x ∧ x ≤ 2147483648) :
    Calls Try.prog 110 #[v] w fun e w' => e = .returned (.bool r) ∧ Near w w' := by
  obtain ⟨ao, cap, rfl, hc⟩ := h
  have hl' : ¬ ((24 : Int) < l.length) := by omega
  have HC := Lib.hid hc
  have HR := Lib.hid hr
  clear hc hr
  go_enter Try.func110, Try.ntmps110
  go_wp2_with fail
  go_loopw [4, 10] (fun x i wr => ∃ k : Nat, k ≤ l.length ∧ i = .int .i64 k ∧ (∀ y ∈ l.take k, -2147483648 ≤ y ∧ y ≤ 2147483648) ∧ Near w wr) (fun _ i _ => l.length - (intOf i).toNat)
  case atStart => exact ⟨0, Nat.zero_le _, rfl, by simp, Near.refl _⟩
  case round =>
    obtain ⟨k, hk, rfl, htk, hn⟩ := hrel
    have HTK := Lib.hid htk
    clear htk
    by_cases hlt : k < l.length
    · have hlt' : (k : Int) < l.length := by omega
      obtain ⟨g, off, rfl, x0⟩ := HC.out k _ (List.getElem?_eq_getElem hlt)
      have p0 := hn.cell x0
      have hs : l.take (k + 1) = l.take k ++ [l[k]] := List.take_succ_eq_append_getElem hlt
      have hm : l[k] ∈ l := List.getElem_mem hlt
      have HS := Lib.hid hs
      have HM := Lib.hid hm
      clear hs hm x0
      generalize l[k] = d at p0 HS HM
      by_cases h1 : d < -2147483648
      · go_wp2_with fail
        refine bodyPost_ret (v := .bool false) (by simp [results, Try.results110, go_sem]) rfl ⟨?_, hn⟩
        rw [show r = false from by
          cases r
          · rfl
          · have := HR.out.1 rfl d HM.out
            omega]
      · by_cases h2 : 2147483648 < d
        · go_wp2_with fail
          refine bodyPost_ret (v := .bool false) (by simp [results, Try.results110, go_sem]) rfl ⟨?_, hn⟩
          rw [show r = false from by
            cases r
            · rfl
            · have := HR.out.1 rfl d HM.out
              omega]
        · go_wp2_with fail
          refine ⟨⟨k + 1, hlt, by simp, fun y hy => ?_, hn⟩, by simp [intOf]; omega⟩
          rw [HS.out] at hy
          rcases List.mem_append.1 hy with hy | hy
          · exact HTK.out y hy
          · rw [List.mem_singleton.1 hy]
            omega
    · go_wp2_with fail
      refine bodyPost_ret (v := .bool true) (by simp [results, Try.results110, go_sem]) rfl ⟨?_, hn⟩
      rw [HR.out.2 (by
        have h := HTK.out
        rwa [List.take_of_length_le (by omega)] at h)]

theorem valid_calls {w : World} {v : Value} {l : List Int} (h : RdInts w v l) : Calls Try.prog 110 #[v] w fun e w' => e = .returned (.bool (decide (CostsOk l))) ∧ Near w w' := by
  by_cases hl : l.length ≤ 24
  · exact valid_short h hl (by simp [CostsOk, hl])
  · rw [show decide (CostsOk l) = false from decide_eq_false (fun h => hl h.1)]
    exact valid_long h (by omega)

end Go.Proofs.Ytefclohjeompkaa
