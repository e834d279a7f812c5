/- Parts of a proof: TwoF, PrimC, PrimD, PrimE, SortU, SortV, SortN, PrimF, PrimG, PrimH. -/
import Derived.Test.YtefclohjeompkaaKPrimA
import Derived.Test.YtefclohjeompkaaKTwoG
import Derived.Test.YtefclohjeompkaaKPrimB
import Derived.Test.YtefclohjeompkaaKBoxI
import Derived.Test.YtefclohjeompkaaKSaidB
import Derived.Test.YtefclohjeompkaaKSortT
/- Two sets of the program by two calls into two boxes (TwoG, turned). -/
namespace Go.Proofs.Ytefclohjeompkaa
open Go Go.RowKit Go.Shelf Go.Proofs.Gen Go.Proofs.Bdd Go.Proofs.Bdd.T

/-- A box: nothing in it yet, or a set. -/
def BoxF (w0 : World) (full : Bool) (u v : Value) (w : World) : Prop :=
  ∃ b, u = .pointer (some ⟨b, 0, none⟩) ∧ w0.heap.size ≤ b ∧ w.heap[b]? = some (.cells (if full = true then v.cells else #[.slice none 0 0, .int .i64 0]) 31 (0, 0))

theorem BoxF.near {w0 w w' : World} {full : Bool} {u v : Value} (h : BoxF w0 full u v w) (hn : Near w w') : BoxF w0 full u v w' := by
  obtain ⟨b, h1, h2, h3⟩ := h
  exact ⟨b, h1, h2, keepN hn h3⟩

/-- Two sets f, g by calls c1, c2 into boxes a, b by stores s1, s2. -/
structure TwoF (c1 c2 a b s1 s2 : Nat) (w0 : World) (f g : F) (p : Nat → Bool) (env : Nat → Value) (w : World) : Prop where
  near : Near w0 w
  one : p c1 = true → IsF w (env c1) f
  two : p c2 = true → IsF w (env c2) g
  boxa : p a = true → BoxF w0 (p s1) (env a) (env c1) w
  boxb : p b = true → BoxF w0 (p s2) (env b) (env c2) w
  part : p a = true → p b = true → env a ≠ env b
  lasta : p s1 = true → p a = true ∧ p c1 = true
  lastb : p s2 = true → p b = true ∧ p c2 = true
  chain : p s2 = true → p s1 = true

theorem BoxF.lt {w0 w : World} {full : Bool} {u v : Value} (h : BoxF w0 full u v w) : u ≠ .pointer (some ⟨w.heap.size, 0, none⟩) := by
  obtain ⟨b, rfl, h2, h3⟩ := h
  intro e
  simp only [Value.pointer.injEq, Option.some.injEq, Addr.mk.injEq, and_true] at e
  have := (Array.getElem?_eq_some_iff.1 h3).1
  omega

section
variable {w0 w w' : World} {f g : F} {p : Nat → Bool} {env : Nat → Value} {v : Value}

theorem TwoF.start {c1 c2 a b s1 s2 : Nat} (hp : p c1 = false ∧ p c2 = false ∧ p a = false ∧ p b = false ∧ p s1 = false ∧ p s2 = false) (hn : Near w0 w) : TwoF c1 c2 a b s1 s2 w0 f g p env w := by
  obtain ⟨h1, h2, h3, h4, h5, h6⟩ := hp
  refine ⟨hn, ?_, ?_, ?_, ?_, ?_, ?_, ?_, ?_⟩ <;> intro h <;> simp_all

theorem TwoF.c1 (h : TwoF 5 11 12 13 14 15 w0 f g p env w) (hp : p 5 = false) (hv : IsF w' v f) (hn : Near w w') : TwoF 5 11 12 13 14 15 w0 f g (upB p 5) (upV env 5 v) w' := by
  have h8 : p 14 = false := by
    cases h8 : p 14 with
    | false => rfl
    | true => rw [(h.lasta h8).2] at hp; cases hp
  refine ⟨h.near.trans hn, fun _ => by rw [upV_same]; exact hv, fun k => ?_, fun k => ?_, fun k => ?_, fun k k' => ?_, fun k => ?_, fun k => ?_, fun k => ?_⟩
  · rw [upB_ne _ (by decide)] at k; rw [upV_ne _ _ (by decide)]; exact (h.two k).near hn
  · rw [upB_ne _ (by decide)] at k; rw [upB_ne _ (by decide), h8, upV_ne _ _ (by decide)]
    obtain ⟨b, x1, x2, x3⟩ := h.boxa k
    rw [h8] at x3
    exact ⟨b, x1, x2, keepN hn x3⟩
  · rw [upB_ne _ (by decide)] at k; rw [upB_ne _ (by decide), upV_ne _ _ (by decide), upV_ne _ _ (by decide)]; exact (h.boxb k).near hn
  · rw [upB_ne _ (by decide)] at k k'; rw [upV_ne _ _ (by decide), upV_ne _ _ (by decide)]; exact h.part k k'
  · rw [upB_ne _ (by decide), h8] at k; cases k
  · rw [upB_ne _ (by decide)] at k; rw [upB_ne _ (by decide), upB_ne _ (by decide)]; exact h.lastb k
  · rw [upB_ne _ (by decide)] at k; rw [upB_ne _ (by decide)]; exact h.chain k

theorem TwoF.c2 (h : TwoF 5 11 12 13 14 15 w0 f g p env w) (hp : p 11 = false) (hv : IsF w' v g) (hn : Near w w') : TwoF 5 11 12 13 14 15 w0 f g (upB p 11) (upV env 11 v) w' := by
  have h9 : p 15 = false := by
    cases h9 : p 15 with
    | false => rfl
    | true => rw [(h.lastb h9).2] at hp; cases hp
  refine ⟨h.near.trans hn, fun k => ?_, fun _ => by rw [upV_same]; exact hv, fun k => ?_, fun k => ?_, fun k k' => ?_, fun k => ?_, fun k => ?_, fun k => ?_⟩
  · rw [upB_ne _ (by decide)] at k; rw [upV_ne _ _ (by decide)]; exact (h.one k).near hn
  · rw [upB_ne _ (by decide)] at k; rw [upB_ne _ (by decide), upV_ne _ _ (by decide), upV_ne _ _ (by decide)]; exact (h.boxa k).near hn
  · rw [upB_ne _ (by decide)] at k; rw [upB_ne _ (by decide), h9, upV_ne _ _ (by decide)]
    obtain ⟨b, x1, x2, x3⟩ := h.boxb k
    rw [h9] at x3
    exact ⟨b, x1, x2, keepN hn x3⟩
  · rw [upB_ne _ (by decide)] at k k'; rw [upV_ne _ _ (by decide), upV_ne _ _ (by decide)]; exact h.part k k'
  · rw [upB_ne _ (by decide)] at k; rw [upB_ne _ (by decide), upB_ne _ (by decide)]; exact h.lasta k
  · rw [upB_ne _ (by decide), h9] at k; cases k
  · rw [upB_ne _ (by decide)] at k; rw [upB_ne _ (by decide)]; exact h.chain k

theorem TwoF.a (h : TwoF 5 11 12 13 14 15 w0 f g p env w) (hp : p 12 = false) : TwoF 5 11 12 13 14 15 w0 f g (upB p 12) (upV env 12 (.pointer (some ⟨w.heap.size, 0, none⟩))) (w.alloc (.cells #[.slice none 0 0, .int .i64 0] 31)) := by
  have hn : Near w (w.alloc (.cells #[.slice none 0 0, .int .i64 0] 31)) := (Near.refl w).alloc _
  have h8 : p 14 = false := by
    cases h8 : p 14 with
    | false => rfl
    | true => rw [(h.lasta h8).1] at hp; cases hp
  refine ⟨h.near.trans hn, fun k => ?_, fun k => ?_, fun _ => ?_, fun k => ?_, fun _ k' => ?_, fun k => ?_, fun k => ?_, fun k => ?_⟩
  · rw [upB_ne _ (by decide)] at k; rw [upV_ne _ _ (by decide)]; exact (h.one k).near hn
  · rw [upB_ne _ (by decide)] at k; rw [upV_ne _ _ (by decide)]; exact (h.two k).near hn
  · rw [upB_ne _ (by decide), h8, upV_same]
    exact ⟨_, rfl, h.near.size', heap_new_at rfl⟩
  · rw [upB_ne _ (by decide)] at k; rw [upB_ne _ (by decide), upV_ne _ _ (by decide), upV_ne _ _ (by decide)]; exact (h.boxb k).near hn
  · rw [upB_ne _ (by decide)] at k'
    rw [upV_same, upV_ne _ _ (by decide)]
    exact fun e => (h.boxb k').lt e.symm
  · rw [upB_ne _ (by decide), h8] at k; cases k
  · rw [upB_ne _ (by decide)] at k; rw [upB_ne _ (by decide), upB_ne _ (by decide)]; exact h.lastb k
  · rw [upB_ne _ (by decide)] at k; rw [upB_ne _ (by decide)]; exact h.chain k

theorem TwoF.b (h : TwoF 5 11 12 13 14 15 w0 f g p env w) (hp : p 13 = false) : TwoF 5 11 12 13 14 15 w0 f g (upB p 13) (upV env 13 (.pointer (some ⟨w.heap.size, 0, none⟩))) (w.alloc (.cells #[.slice none 0 0, .int .i64 0] 31)) := by
  have hn : Near w (w.alloc (.cells #[.slice none 0 0, .int .i64 0] 31)) := (Near.refl w).alloc _
  have h9 : p 15 = false := by
    cases h9 : p 15 with
    | false => rfl
    | true => rw [(h.lastb h9).1] at hp; cases hp
  refine ⟨h.near.trans hn, fun k => ?_, fun k => ?_, fun k => ?_, fun _ => ?_, fun k _ => ?_, fun k => ?_, fun k => ?_, fun k => ?_⟩
  · rw [upB_ne _ (by decide)] at k; rw [upV_ne _ _ (by decide)]; exact (h.one k).near hn
  · rw [upB_ne _ (by decide)] at k; rw [upV_ne _ _ (by decide)]; exact (h.two k).near hn
  · rw [upB_ne _ (by decide)] at k; rw [upB_ne _ (by decide), upV_ne _ _ (by decide), upV_ne _ _ (by decide)]; exact (h.boxa k).near hn
  · rw [upB_ne _ (by decide), h9, upV_same]
    exact ⟨_, rfl, h.near.size', heap_new_at rfl⟩
  · rw [upB_ne _ (by decide)] at k
    rw [upV_same, upV_ne _ _ (by decide)]
    exact (h.boxa k).lt
  · rw [upB_ne _ (by decide)] at k; rw [upB_ne _ (by decide), upB_ne _ (by decide)]; exact h.lasta k
  · rw [upB_ne _ (by decide), h9] at k; cases k
  · rw [upB_ne _ (by decide)] at k; rw [upB_ne _ (by decide)]; exact h.chain k

theorem box31 {w : World} {b : Nat} {p q : Value} {e : TypeId} (h : w.heap[b]? = some (.cells #[p, q] e (0, 0))) (x y : Value) : ((w.setCell ⟨b, 0, none⟩ x).setCell ⟨b, 1, none⟩ y).heap[b]? = some (.cells #[x, y] e (0, 0)) := by
  have := setCell_heap (setCell_heap h 0 x) 1 y
  simpa only [List.setIfInBounds_toArray, List.set_cons_zero, List.set_cons_succ] using this
theorem isF_two {w : World} {v : Value} {f : F} {b : Nat} {cs : Array Value} {x y : Value} (h : IsF w v f) (hb : w.heap[b]? = some (.cells cs 31 (0, 0))) : IsF ((w.setCell ⟨b, 0, none⟩ x).setCell ⟨b, 1, none⟩ y) v f := by
  obtain ⟨t, ⟨ok, sv, rfl, hrow⟩, he⟩ := h
  have hk := Kept.setCell (S := fun k => k = b) (Kept.setCell (S := fun k => k = b) (Kept.refl _ w) (p := ⟨b, 0, none⟩) (fun _ => rfl) x) (p := ⟨b, 1, none⟩) (fun _ => rfl) y
  refine ⟨t, ⟨ok, sv, rfl, owns_kept (R := fun k => k = b) hrow hk (fun k hk' hrk => ?_)⟩, he⟩
  obtain ⟨_, cur, fr, hc⟩ := own_blockP hrow hk'
  rw [show k = b from hrk, hb] at hc
  cases hc

/-- The first store. -/
theorem TwoF.s1 (h : TwoF 5 11 12 13 14 15 w0 f g p env w) (h6 : p 12 = true) (h2 : p 5 = true) (h5 : p 11 = true) (h7 : p 13 = true) (h8 : p 14 = false) (h9 : p 15 = false) :
    ∃ b x1 x2 x3 y1, env 12 = .pointer (some ⟨b, 0, none⟩) ∧ env 5 = .agg #[.slice x1 x2 x3, .int .i64 y1] ∧ w.heap[b]? = some (.cells #[.slice none 0 0, .int .i64 0] 31 (0, 0)) ∧
      Near w0 ((w.setCell ⟨b, 0, none⟩ (.slice x1 x2 x3)).setCell ⟨b, 1, none⟩ (.int .i64 y1)) ∧
      ∀ u, TwoF 5 11 12 13 14 15 w0 f g (upB p 14) (upV env 14 u) ((w.setCell ⟨b, 0, none⟩ (.slice x1 x2 x3)).setCell ⟨b, 1, none⟩ (.int .i64 y1)) := by
  obtain ⟨b, e1, e2, e3⟩ := h.boxa h6
  rw [h8] at e3
  have hi := h.one h2
  obtain ⟨x1, x2, x3, y1, ev⟩ := hi.form
  obtain ⟨b', e1', e2', e3'⟩ := h.boxb h7
  rw [h9] at e3'
  have hne : b' ≠ b := fun e => h.part h6 h7 (by rw [e1, e1', e])
  have hn : Near w0 ((w.setCell ⟨b, 0, none⟩ (.slice x1 x2 x3)).setCell ⟨b, 1, none⟩ (.int .i64 y1)) := (h.near.set (p := ⟨b, 0, none⟩) e2 _).set (p := ⟨b, 1, none⟩) e2 _
  refine ⟨b, x1, x2, x3, y1, e1, ev, e3, hn, fun u => ⟨hn, fun _ => ?_, fun _ => ?_, fun _ => ?_, fun _ => ?_, fun _ _ => ?_, fun _ => ?_, fun k => ?_, fun _ => ?_⟩⟩
  · rw [upV_ne _ _ (by decide)]; exact isF_two hi e3
  · rw [upV_ne _ _ (by decide)]; exact isF_two (h.two h5) e3
  · rw [upB_same, upV_ne _ _ (by decide), upV_ne _ _ (by decide), ev]
    exact ⟨b, e1, e2, box31 e3 _ _⟩
  · rw [upB_ne _ (by decide), h9, upV_ne _ _ (by decide)]
    refine ⟨b', e1', e2', ?_⟩
    rw [Below.heap_setCell _ _ _ _ (fun h => hne h), Below.heap_setCell _ _ _ _ (fun h => hne h)]
    exact e3'
  · rw [upV_ne _ _ (by decide), upV_ne _ _ (by decide)]; exact h.part h6 h7
  · rw [upB_ne _ (by decide), upB_ne _ (by decide)]; exact ⟨h6, h2⟩
  · rw [upB_ne _ (by decide), h9] at k; cases k
  · rw [upB_same]

/-- The second store; the end. -/
theorem TwoF.s2 (h : TwoF 5 11 12 13 14 15 w0 f g p env w) (h6 : p 12 = true) (h2 : p 5 = true) (h5 : p 11 = true) (h7 : p 13 = true) (h8 : p 14 = true) (h9 : p 15 = false) :
    ∃ b x1 x2 x3 y1, env 13 = .pointer (some ⟨b, 0, none⟩) ∧ env 11 = .agg #[.slice x1 x2 x3, .int .i64 y1] ∧ w.heap[b]? = some (.cells #[.slice none 0 0, .int .i64 0] 31 (0, 0)) ∧
      ∀ u, TwoF 5 11 12 13 14 15 w0 f g (upB p 15) (upV env 15 u) ((w.setCell ⟨b, 0, none⟩ (.slice x1 x2 x3)).setCell ⟨b, 1, none⟩ (.int .i64 y1)) := by
  obtain ⟨b, e1, e2, e3⟩ := h.boxb h7
  rw [h9] at e3
  have hi := h.two h5
  obtain ⟨x1, x2, x3, y1, ev⟩ := hi.form
  obtain ⟨b', e1', e2', e3'⟩ := h.boxa h6
  have hne : b' ≠ b := fun e => h.part h6 h7 (by rw [e1, e1', e])
  have hn : Near w0 ((w.setCell ⟨b, 0, none⟩ (.slice x1 x2 x3)).setCell ⟨b, 1, none⟩ (.int .i64 y1)) := (h.near.set (p := ⟨b, 0, none⟩) e2 _).set (p := ⟨b, 1, none⟩) e2 _
  refine ⟨b, x1, x2, x3, y1, e1, ev, e3, fun u => ⟨hn, fun _ => ?_, fun _ => ?_, fun _ => ?_, fun _ => ?_, fun _ _ => ?_, fun _ => ?_, fun _ => ?_, fun _ => ?_⟩⟩
  · rw [upV_ne _ _ (by decide)]; exact isF_two (h.one h2) e3
  · rw [upV_ne _ _ (by decide)]; exact isF_two hi e3
  · rw [upB_ne _ (by decide), upV_ne _ _ (by decide), upV_ne _ _ (by decide)]
    refine ⟨b', e1', e2', ?_⟩
    rw [Below.heap_setCell _ _ _ _ (fun h => hne h), Below.heap_setCell _ _ _ _ (fun h => hne h)]
    exact e3'
  · rw [upB_same, upV_ne _ _ (by decide), upV_ne _ _ (by decide), ev]
    exact ⟨b, e1, e2, box31 e3 _ _⟩
  · rw [upV_ne _ _ (by decide), upV_ne _ _ (by decide)]; exact h.part h6 h7
  · rw [upB_ne _ (by decide), upB_ne _ (by decide)]; exact ⟨h6, h2⟩
  · rw [upB_ne _ (by decide), upB_ne _ (by decide)]; exact ⟨h7, h5⟩
  · rw [upB_ne _ (by decide)]; exact h8

/-- What is there in the end. -/
theorem TwoF.fin (h : TwoF 5 11 12 13 14 15 w0 f g p env w) (h6 : p 12 = true) (h2 : p 5 = true) (h5 : p 11 = true) (h7 : p 13 = true) (h8 : p 14 = true) (h9 : p 15 = true) :
    ∃ a b x1 x2 x3 x4 y1 y2 y3 y4, env 12 = .pointer (some ⟨a, 0, none⟩) ∧ env 13 = .pointer (some ⟨b, 0, none⟩) ∧ w0.heap.size ≤ a ∧ w0.heap.size ≤ b ∧ w.heap[a]? = some (.cells #[.slice x1 x2 x3, .int .i64 x4] 31 (0, 0)) ∧
      w.heap[b]? = some (.cells #[.slice y1 y2 y3, .int .i64 y4] 31 (0, 0)) ∧ IsF w (.agg #[.slice x1 x2 x3, .int .i64 x4]) f ∧ IsF w (.agg #[.slice y1 y2 y3, .int .i64 y4]) g ∧ Near w0 w := by
  obtain ⟨a, a1, a2, a3⟩ := h.boxa h6
  obtain ⟨b, b1, b2, b3⟩ := h.boxb h7
  have h1 := h.one h2
  have h2' := h.two h5
  obtain ⟨x1, x2, x3, x4, ex⟩ := h1.form
  obtain ⟨y1, y2, y3, y4, ey⟩ := h2'.form
  rw [h8, ex] at a3
  rw [h9, ey] at b3
  rw [ex] at h1
  rw [ey] at h2'
  exact ⟨a, b, x1, x2, x3, x4, y1, y2, y3, y4, a1, b1, a2, b2, a3, b3, h1, h2', h.near⟩
end

end Go.Proofs.Ytefclohjeompkaa

/- The program's cubes (printed by gen_cubes.py). -/
namespace Go.Proofs.Ytefclohjeompkaa
open Go Go.RowKit Go.Shelf Go.Proofs.Gen Go.Proofs.Bdd Go.Proofs.Bdd.T

theorem full_is {w : World} {v : Value} {f : F} {b : Bool} (h : IsF w v f) (hb : everyF f = b) : Calls Try.prog 49 #[v] w fun e w' => e = .returned (.bool b) ∧ Near w w' := by
  obtain ⟨t, hd, he⟩ := h
  have e : decide (t = leaf true) = b := by
    rw [← hb, everyF, decide_eq_decide]
    constructor
    · rintro rfl c
      rw [← he]
      rfl
    · intro hc
      exact canon hd.1 trivial fun c => (he c).trans (hc c)
  rw [← e]
  exact full_calls hd

theorem mul3 {k : Nat} (hk : k < 12) : IntKind.i64.wrap (((3 ^ k : Nat) : Int) * 3) = ((3 ^ (k + 1) : Nat) : Int) := by
  have h1 : 3 ^ k ≤ 3 ^ 12 := Nat.pow_le_pow_right (by omega) (by omega)
  have h2 : (3 : Nat) ^ 12 = 531441 := by decide
  rw [Nat.pow_succ]
  generalize 3 ^ k = p at *
  rw [IntWalk.i64_in _ (by omega)]
  omega

set_option maxRecDepth 100000 in
set_option maxHeartbeats 3200000 in
theorem cubes_const {w : World} {v : Value} {f : F} {b : Bool} (h : IsF w v f) (hb : ∀ c, f c = b) {m : Nat} (hm : m ≤ 12) {B base : Nat} {L : List Bool} (hI : BI B base L w) (hbs : base ≤ w.heap.size) (hL : L.length ≤ 1000000000) (fo : Option Addr) (n cap : Nat) :
    Calls Try.prog 114 #[v, .slice fo n cap, .int .i64 ((m : Int) - 1), .func (.func 115) #[] #[.pointer (some ⟨B, 0, none⟩)]] w fun e w' => e = .returned (.tuple #[]) ∧ BI B base (L ++ List.replicate (3 ^ m) b) w' ∧ KB B base w w' := by
  have HF := Lib.hid h
  have hBlt := hI.lt
  obtain ⟨a1, a2, a3, a4, rfl⟩ := h.form
  have hN : Near w (w.alloc (.cells #[.slice a1 a2 a3, .int .i64 a4] 31)) := (Near.refl w).alloc _
  have hA : (w.alloc (.cells #[.slice a1 a2 a3, .int .i64 a4] 31)).heap[w.heap.size]? = some (.cells #[.slice a1 a2 a3, .int .i64 a4] 31 (0, 0)) := heap_new_at rfl
  have hev : everyF f = b := by
    cases b with
    | true => exact everyF_iff.2 hb
    | false => exact Bool.eq_false_iff.2 fun he => by have := everyF_iff.1 he fun _ => false; rw [hb] at this; cases this
  have hno : nowhere f = !b := by
    cases b with
    | true => exact Bool.eq_false_iff.2 fun he => by have := nowhere_iff.1 he fun _ => false; rw [hb] at this; cases this
    | false => exact nowhere_iff.2 hb
  have HEm := Lib.hid (fun (w' : World) (hn : Near w w') => empty_isP (HF.out.near hn) hno)
  have HEv := Lib.hid hev
  have HN := Lib.hid hN
  have HA := Lib.hid hA
  have HI := Lib.hid (hI.near hN)
  have hp3 : 3 ^ m ≤ 531441 := by
    have h1 : 3 ^ m ≤ 3 ^ 12 := Nat.pow_le_pow_right (by omega) hm
    have h2 : (3 : Nat) ^ 12 = 531441 := by decide
    omega
  have hw1 : IntKind.i64.wrap ((m : Int) - 1 + 1) = m := by rw [IntWalk.i64_in _ (by omega)]; omega
  have hszA : (w.alloc (.cells #[.slice a1 a2 a3, .int .i64 a4] 31)).heap.size = w.heap.size + 1 := by simp
  clear h hb hev hno hN hA hI
  go_enter Try.func114, Try.ntmps114
  go_upto_region 1 with fail
  generalize (w.alloc (.cells #[.slice a1 a2 a3, .int .i64 a4] 31)) = W1 at HN HA HI hszA ⊢
  obtain ⟨c0, c1⟩ : W1.cell? ⟨w.heap.size, 0, none⟩ = some (.slice a1 a2 a3) ∧ W1.cell? ⟨w.heap.size, 1, none⟩ = some (.int .i64 a4) := ⟨cell1 (o := 0) HA.out rfl, cell1 (o := 1) HA.out rfl⟩
  cases b with
  | true =>
    go_upto_region 4 with (first
      | (go_at_call 35; refine (HEm.out _ HN.out).mono ?_; rintro e w2 ⟨rfl, n2⟩; have HN2 := Lib.hid n2; replace c0 := n2.cell c0; replace c1 := n2.cell c1; clear n2)
      | (go_at_call 49; refine (full_is (HF.out.near (HN.out.trans HN2.out)) HEv.out).mono ?_; rintro e w3 ⟨rfl, n3⟩; have HN3 := Lib.hid (HN2.out.trans n3); clear n3))
    clear c0 c1
    go_loopw [8, 19] (fun q i wr => ∃ k p : Nat, k ≤ m ∧ 3 ^ k = p ∧ i = .int .i64 k ∧ q = .int .i64 p ∧ Near W1 wr) (fun _ i _ => m - (intOf i).toNat)
    case atStart => exact ⟨0, 1, Nat.zero_le _, rfl, rfl, rfl, HN3.out⟩
    case round =>
      obtain ⟨k, p, hk, hp, rfl, rfl, hn⟩ := hrel
      have HNr := Lib.hid hn
      have hpb : p ≤ 3 ^ m := hp ▸ Nat.pow_le_pow_right (by omega) hk
      have HPw := Lib.hid hp
      clear hn hp
      by_cases hlt : k < m
      · have hlt' : (k : Int) < m := by omega
        have hwp : IntKind.i64.wrap ((p : Int) * 3) = (p : Int) * 3 := IntWalk.i64_in _ (by omega)
        clear hpb
        go_wp2_with fail
        exact ⟨⟨k + 1, p * 3, by omega, by rw [Nat.pow_succ, HPw.out], by go_num, by simp, HNr.out⟩, by simp [intOf]; omega⟩
      · have hkm : k = m := by omega
        have hlt' : ¬ ((k : Int) < m) := by omega
        have HPm := Lib.hid (show p = 3 ^ m by rw [← HPw.out, hkm])
        rw [← hkm, HPw.out] at hp3
        clear hpb hkm hlt
        go_upto_region 8 with fail
        go_loopw [25] (fun i wz => ∃ j : Nat, j ≤ p ∧ i = .int .i64 j ∧ BI B base (L ++ List.replicate j true) wz ∧ KB B base W1 wz) (fun i _ => p - (intOf i).toNat)
        case atStart => exact ⟨0, Nat.zero_le _, rfl, by simpa using HI.out.near HNr.out, HNr.out.kb⟩
        case round =>
          obtain ⟨j, hj, rfl, hbi, hkb⟩ := hrel
          have HBi := Lib.hid hbi
          have HKb := Lib.hid hkb
          have hA2 := hkb.block' HA.out (by omega) (fun cur fr e => by cases e)
          have c0 : wr.cell? ⟨w.heap.size, 0, none⟩ = some (.slice a1 a2 a3) := cell1 (o := 0) hA2 rfl
          have c1 : wr.cell? ⟨w.heap.size, 1, none⟩ = some (.int .i64 a4) := cell1 (o := 1) hA2 rfl
          have HFz := Lib.hid ((HF.out.near HN.out).kb HI.out hkb)
          have hsz := hkb.size
          have hlen : (L ++ List.replicate j true).length ≤ 1099511627775 := by simp; omega
          have HLn := Lib.hid hlen
          clear hbi hkb hA2 hlen
          by_cases hjl : j < p
          · have hjl' : (j : Int) < p := by omega
            go_wp2_with (first
              | (go_at_call 49; refine (full_is HFz.out HEv.out).mono ?_; rintro e w4 ⟨rfl, n4⟩; have HN4 := Lib.hid n4; have hsz4 := n4.size'; clear n4)
              | (go_at_call 115; refine (tell_calls (HBi.out.near HN4.out) (by omega) (by have := HLn.out; omega) true).mono ?_; rintro e w5 ⟨rfl, hi5, hk5⟩; have HI5 := Lib.hid hi5; have HK5 := Lib.hid hk5; clear hi5 hk5))
            exact ⟨⟨j + 1, by omega, by go_num, by rw [List.replicate_succ', ← List.append_assoc]; exact HI5.out, HKb.out.trans (HN4.out.kb.trans HK5.out)⟩, by simp [intOf]; omega⟩
          · have hjp : j = p := by omega
            have hjl' : ¬ ((j : Int) < p) := by omega
            subst hjp
            go_wp2_with fail
            refine bodyPost_ret (results_none rfl _ _ _) rfl ?_
            exact ⟨rfl, by rw [← HPm.out]; exact HBi.out, HN.out.kb.trans HKb.out⟩
  | false =>
    go_upto_region 4 with (first
      | (go_at_call 35; refine (HEm.out _ HN.out).mono ?_; rintro e w2 ⟨rfl, n2⟩; have HN2 := Lib.hid n2; replace c0 := n2.cell c0; replace c1 := n2.cell c1; clear n2)
      | (go_at_call 49; refine (full_is (HF.out.near (HN.out.trans HN2.out)) HEv.out).mono ?_; rintro e w3 ⟨rfl, n3⟩; have HN3 := Lib.hid (HN2.out.trans n3); clear n3))
    clear c0 c1
    go_loopw [8, 19] (fun q i wr => ∃ k p : Nat, k ≤ m ∧ 3 ^ k = p ∧ i = .int .i64 k ∧ q = .int .i64 p ∧ Near W1 wr) (fun _ i _ => m - (intOf i).toNat)
    case atStart => exact ⟨0, 1, Nat.zero_le _, rfl, rfl, rfl, HN2.out⟩
    case round =>
      obtain ⟨k, p, hk, hp, rfl, rfl, hn⟩ := hrel
      have HNr := Lib.hid hn
      have hpb : p ≤ 3 ^ m := hp ▸ Nat.pow_le_pow_right (by omega) hk
      have HPw := Lib.hid hp
      clear hn hp
      by_cases hlt : k < m
      · have hlt' : (k : Int) < m := by omega
        have hwp : IntKind.i64.wrap ((p : Int) * 3) = (p : Int) * 3 := IntWalk.i64_in _ (by omega)
        clear hpb
        go_wp2_with fail
        exact ⟨⟨k + 1, p * 3, by omega, by rw [Nat.pow_succ, HPw.out], by go_num, by simp, HNr.out⟩, by simp [intOf]; omega⟩
      · have hkm : k = m := by omega
        have hlt' : ¬ ((k : Int) < m) := by omega
        have HPm := Lib.hid (show p = 3 ^ m by rw [← HPw.out, hkm])
        rw [← hkm, HPw.out] at hp3
        clear hpb hkm hlt
        go_upto_region 8 with fail
        go_loopw [25] (fun i wz => ∃ j : Nat, j ≤ p ∧ i = .int .i64 j ∧ BI B base (L ++ List.replicate j false) wz ∧ KB B base W1 wz) (fun i _ => p - (intOf i).toNat)
        case atStart => exact ⟨0, Nat.zero_le _, rfl, by simpa using HI.out.near HNr.out, HNr.out.kb⟩
        case round =>
          obtain ⟨j, hj, rfl, hbi, hkb⟩ := hrel
          have HBi := Lib.hid hbi
          have HKb := Lib.hid hkb
          have hA2 := hkb.block' HA.out (by omega) (fun cur fr e => by cases e)
          have c0 : wr.cell? ⟨w.heap.size, 0, none⟩ = some (.slice a1 a2 a3) := cell1 (o := 0) hA2 rfl
          have c1 : wr.cell? ⟨w.heap.size, 1, none⟩ = some (.int .i64 a4) := cell1 (o := 1) hA2 rfl
          have HFz := Lib.hid ((HF.out.near HN.out).kb HI.out hkb)
          have hsz := hkb.size
          have hlen : (L ++ List.replicate j false).length ≤ 1099511627775 := by simp; omega
          have HLn := Lib.hid hlen
          clear hbi hkb hA2 hlen
          by_cases hjl : j < p
          · have hjl' : (j : Int) < p := by omega
            go_wp2_with (first
              | (go_at_call 49; refine (full_is HFz.out HEv.out).mono ?_; rintro e w4 ⟨rfl, n4⟩; have HN4 := Lib.hid n4; have hsz4 := n4.size'; clear n4)
              | (go_at_call 115; refine (tell_calls (HBi.out.near HN4.out) (by omega) (by have := HLn.out; omega) false).mono ?_; rintro e w5 ⟨rfl, hi5, hk5⟩; have HI5 := Lib.hid hi5; have HK5 := Lib.hid hk5; clear hi5 hk5))
            exact ⟨⟨j + 1, by omega, by go_num, by rw [List.replicate_succ', ← List.append_assoc]; exact HI5.out, HKb.out.trans (HN4.out.kb.trans HK5.out)⟩, by simp [intOf]; omega⟩
          · have hjp : j = p := by omega
            have hjl' : ¬ ((j : Int) < p) := by omega
            subst hjp
            go_wp2_with fail
            refine bodyPost_ret (results_none rfl _ _ _) rfl ?_
            exact ⟨rfl, by rw [← HPm.out]; exact HBi.out, HN.out.kb.trans HKb.out⟩

/-- What a call of cubes comes to. -/
def CubesPost (B base : Nat) (L R : List Bool) (w : World) (e : Ending) (w' : World) : Prop := e = .returned (.tuple #[]) ∧ BI B base (L ++ R) w' ∧ KB B base w w'

set_option maxRecDepth 100000 in
set_option maxHeartbeats 6400000 in
theorem cubes_step {w : World} {v : Value} {f : F} (h : IsF w v f) (hn1 : nowhere f = false) (hn2 : everyF f = false) {m : Nat} (hm : m < 12) {B base : Nat} {L R0 R1 R2 : List Bool} (hI : BI B base L w) {g n cap x : Nat} (hmn : m < n) (hx : w.cell? ⟨g, m, none⟩ = some (.int .i64 x))
    (i0 : ∀ v' w', Near w w' → IsF w' v' (digF f x 0) → Calls Try.prog 114 #[v', .slice (some ⟨g, 0, none⟩) n cap, .int .i64 ((m : Int) - 1), .func (.func 115) #[] #[.pointer (some ⟨B, 0, none⟩)]] w' (CubesPost B base L R0 w'))
    (i1 : ∀ v' w', KB B base w w' → BI B base (L ++ R0) w' → IsF w' v' (digF f x 1) → Calls Try.prog 114 #[v', .slice (some ⟨g, 0, none⟩) n cap, .int .i64 ((m : Int) - 1), .func (.func 115) #[] #[.pointer (some ⟨B, 0, none⟩)]] w' (CubesPost B base (L ++ R0) R1 w'))
    (i2 : ∀ v' w', KB B base w w' → BI B base (L ++ R0 ++ R1) w' → IsF w' v' (digF f x 2) → Calls Try.prog 114 #[v', .slice (some ⟨g, 0, none⟩) n cap, .int .i64 ((m : Int) - 1), .func (.func 115) #[] #[.pointer (some ⟨B, 0, none⟩)]] w' (CubesPost B base (L ++ R0 ++ R1) R2 w')) :
    Calls Try.prog 114 #[v, .slice (some ⟨g, 0, none⟩) n cap, .int .i64 m, .func (.func 115) #[] #[.pointer (some ⟨B, 0, none⟩)]] w (CubesPost B base L (R0 ++ R1 ++ R2) w) := by
  have HF := Lib.hid h
  have hBlt := hI.lt
  obtain ⟨a1, a2, a3, a4, rfl⟩ := h.form
  have hN : Near w (w.alloc (.cells #[.slice a1 a2 a3, .int .i64 a4] 31)) := (Near.refl w).alloc _
  have hA : (w.alloc (.cells #[.slice a1 a2 a3, .int .i64 a4] 31)).heap[w.heap.size]? = some (.cells #[.slice a1 a2 a3, .int .i64 a4] 31 (0, 0)) := heap_new_at rfl
  have HEm := Lib.hid (fun (w' : World) (hn : Near w w') => empty_isP (HF.out.near hn) hn1)
  have HEv := Lib.hid (fun (w' : World) (hn : Near w w') => full_is (HF.out.near hn) hn2)
  have HN := Lib.hid hN
  have HA := Lib.hid hA
  have HI := Lib.hid hI
  have HX := Lib.hid hx
  have H0 := Lib.hid i0
  have H1 := Lib.hid i1
  have H2 := Lib.hid i2
  have hw1 : IntKind.i64.wrap ((m : Int) - 1) = (m : Int) - 1 := IntWalk.i64_in _ (by omega)
  have hmn' : (m : Int) < n := by omega
  have hm0 : (0 : Int) ≤ m := by omega
  clear h hn1 hn2 hN hA hI hx i0 i1 i2
  go_enter Try.func114, Try.ntmps114
  go_upto_region 1 with fail
  generalize (w.alloc (.cells #[.slice a1 a2 a3, .int .i64 a4] 31)) = W1 at HN HA ⊢
  obtain ⟨c0, c1⟩ : W1.cell? ⟨w.heap.size, 0, none⟩ = some (.slice a1 a2 a3) ∧ W1.cell? ⟨w.heap.size, 1, none⟩ = some (.int .i64 a4) := ⟨cell1 (o := 0) HA.out rfl, cell1 (o := 1) HA.out rfl⟩
  go_upto_region 11 with (first
    | (go_at_call 35; refine (HEm.out _ HN.out).mono ?_; rintro e w2 ⟨rfl, n2⟩; have HN2 := Lib.hid n2; replace c0 := n2.cell c0; replace c1 := n2.cell c1; clear n2)
    | (go_at_call 49; refine (HEv.out _ (HN.out.trans HN2.out)).mono ?_; rintro e w3 ⟨rfl, n3⟩; have HN3 := Lib.hid (HN2.out.trans n3); clear n3))
  clear c0 c1
  have HSK := Lib.hid (show ∀ w', Near w3 w' → w'.cell? ⟨w.heap.size, 0, none⟩ = some (.slice a1 a2 a3) ∧ w'.cell? ⟨w.heap.size, 1, none⟩ = some (.int .i64 a4) ∧ w'.cell? ⟨g, m, none⟩ = some (.int .i64 x) from fun w' h => ⟨cell1 (o := 0) (keepN (HN3.out.trans h) HA.out) rfl, cell1 (o := 1) (keepN (HN3.out.trans h) HA.out) rfl, (HN.out.trans (HN3.out.trans h)).cell HX.out⟩)
  have HF3 := Lib.hid (HF.out.near (HN.out.trans HN3.out))
  refine wp_region_noPanic ?_
  refine wp_region_Z (by kernel_rfl) (fun w' => w'.cell? ⟨w.heap.size, 0, none⟩ = some (.slice a1 a2 a3) ∧ w'.cell? ⟨w.heap.size, 1, none⟩ = some (.int .i64 a4) ∧ w'.cell? ⟨g, m, none⟩ = some (.int .i64 x)) 15 (HSK.out _ (Near.refl _).drew) (fun hS => ?_)
  refine takeZ0 (v := Value.agg #[.slice a1 a2 a3, .int .i64 a4]) (by kernel_rfl) (by kernel_rfl) (by kernel_rfl) (by kernel_rfl) (fun _ _ _ h => h) (Or.inl ⟨by rfl, fun w' hS' => by dsimp only at hS'; obtain ⟨s0, s1, s2⟩ := hS'; go_simp⟩) hS ?_
  try simp only [Act.put, List.setIfInBounds_toArray, List.set_cons_zero, List.set_cons_succ]
  refine takeZ1 (v := Value.slice (some ⟨g, 0, none⟩) n cap) (by kernel_rfl) (by kernel_rfl) (by kernel_rfl) (by kernel_rfl) (fun _ _ _ h => h) (Or.inl ⟨by rfl, fun w' hS' => by dsimp only at hS'; obtain ⟨s0, s1, s2⟩ := hS'; go_simp⟩) hS ?_
  try simp only [Act.put, List.setIfInBounds_toArray, List.set_cons_zero, List.set_cons_succ]
  refine takeZ2 (v := Value.int .i64 m) (by kernel_rfl) (by kernel_rfl) (by kernel_rfl) (by kernel_rfl) (fun _ _ _ h => h) (Or.inl ⟨by rfl, fun w' hS' => by dsimp only at hS'; obtain ⟨s0, s1, s2⟩ := hS'; go_simp⟩) hS ?_
  try simp only [Act.put, List.setIfInBounds_toArray, List.set_cons_zero, List.set_cons_succ]
  refine takeZ3 (v := Value.pointer (some ⟨g, m, none⟩)) (by kernel_rfl) (by kernel_rfl) (by kernel_rfl) (by kernel_rfl) (fun _ _ _ h => h) (Or.inl ⟨by rfl, fun w' hS' => by dsimp only at hS'; obtain ⟨s0, s1, s2⟩ := hS'; go_simp⟩) hS ?_
  try simp only [Act.put, List.setIfInBounds_toArray, List.set_cons_zero, List.set_cons_succ]
  refine takeZ4 (v := Value.int .i64 x) (by kernel_rfl) (by kernel_rfl) (by kernel_rfl) (by kernel_rfl) (fun _ _ _ h => h) (Or.inl ⟨by rfl, fun w' hS' => by dsimp only at hS'; obtain ⟨s0, s1, s2⟩ := hS'; go_simp⟩) hS ?_
  try simp only [Act.put, List.setIfInBounds_toArray, List.set_cons_zero, List.set_cons_succ]
  refine takeZ6 (v := Value.agg #[.slice a1 a2 a3, .int .i64 a4]) (by kernel_rfl) (by kernel_rfl) (by kernel_rfl) (by kernel_rfl) (fun _ _ _ h => h) (Or.inl ⟨by rfl, fun w' hS' => by dsimp only at hS'; obtain ⟨s0, s1, s2⟩ := hS'; go_simp⟩) hS ?_
  try simp only [Act.put, List.setIfInBounds_toArray, List.set_cons_zero, List.set_cons_succ]
  refine takeZ7 (v := Value.slice (some ⟨g, 0, none⟩) n cap) (by kernel_rfl) (by kernel_rfl) (by kernel_rfl) (by kernel_rfl) (fun _ _ _ h => h) (Or.inl ⟨by rfl, fun w' hS' => by dsimp only at hS'; obtain ⟨s0, s1, s2⟩ := hS'; go_simp⟩) hS ?_
  try simp only [Act.put, List.setIfInBounds_toArray, List.set_cons_zero, List.set_cons_succ]
  refine takeZ8 (v := Value.int .i64 m) (by kernel_rfl) (by kernel_rfl) (by kernel_rfl) (by kernel_rfl) (fun _ _ _ h => h) (Or.inl ⟨by rfl, fun w' hS' => by dsimp only at hS'; obtain ⟨s0, s1, s2⟩ := hS'; go_simp⟩) hS ?_
  try simp only [Act.put, List.setIfInBounds_toArray, List.set_cons_zero, List.set_cons_succ]
  refine takeZ9 (v := Value.pointer (some ⟨g, m, none⟩)) (by kernel_rfl) (by kernel_rfl) (by kernel_rfl) (by kernel_rfl) (fun _ _ _ h => h) (Or.inl ⟨by rfl, fun w' hS' => by dsimp only at hS'; obtain ⟨s0, s1, s2⟩ := hS'; go_simp⟩) hS ?_
  try simp only [Act.put, List.setIfInBounds_toArray, List.set_cons_zero, List.set_cons_succ]
  refine takeZ10 (v := Value.int .i64 x) (by kernel_rfl) (by kernel_rfl) (by kernel_rfl) (by kernel_rfl) (fun _ _ _ h => h) (Or.inl ⟨by rfl, fun w' hS' => by dsimp only at hS'; obtain ⟨s0, s1, s2⟩ := hS'; go_simp⟩) hS ?_
  try simp only [Act.put, List.setIfInBounds_toArray, List.set_cons_zero, List.set_cons_succ]
  refine wpAnyZ_inv2 [(5, some 37), (11, some 43), (12, some 9), (13, some 10), (14, none), (15, none)] (TwoF 5 11 12 13 14 15 w3 (fun c => f (updI c x false)) (fun c => f (updI c x true))) (fun _ => undef) (by kernel_rfl) (by kernel_rfl) ?start ?rest
  case start =>
    intro p hp
    simp only [List.all_cons, List.all_nil, Bool.and_true, Bool.and_eq_true, Bool.not_eq_true'] at hp
    exact TwoF.start ⟨hp.1, hp.2.1, hp.2.2.1, hp.2.2.2.1, hp.2.2.2.2.1, hp.2.2.2.2.2⟩ (Near.refl _).drew
  case rest =>
    intro A0 hA0
    have e1 := Lib.hid (show A0.eval (.tmp 32) = .agg #[.slice a1 a2 a3, .int .i64 a4] by rw [hA0]; rfl)
    have e2 := Lib.hid (show A0.eval (.tmp 36) = .int .i64 x by rw [hA0]; rfl)
    have e3 := Lib.hid (show A0.eval (.tmp 38) = .agg #[.slice a1 a2 a3, .int .i64 a4] by rw [hA0]; rfl)
    have e4 := Lib.hid (show A0.eval (.tmp 42) = .int .i64 x by rw [hA0]; rfl)
    have hsz := Lib.hid (show A0.tmps.size = 64 by rw [hA0]; rfl)
    have HA0 := Lib.hid hA0
    clear hA0
    refine ⟨stepI5 [] (by kernel_rfl) ?s5 (stepI11 [5] (by kernel_rfl) ?s11 (stepI12 [] (by kernel_rfl) ?s12 (stepI13 [] (by kernel_rfl) ?s13 (stepI14 [12, 5, 11, 13] (by kernel_rfl) ?s14 (stepI15 [13, 11, 14, 12, 5] (by kernel_rfl) ?s15 StepsI.nil))))), ?fin⟩
    case s5 =>
      intro p env w5 hp hd hI K hK
      have x1 := (actOf_base (p := p) (env := env) (a := A0) (ds := [(5, some 37), (11, some 43), (12, some 9), (13, some 10), (14, none), (15, none)]) (s := 32) rfl).trans e1.out
      have x2 := (actOf_base (p := p) (env := env) (a := A0) (ds := [(5, some 37), (11, some 43), (12, some 9), (13, some 10), (14, none), (15, none)]) (s := 36) rfl).trans e2.out
      refine step_call rfl 41 #[.tmp 32, .tmp 36, .const (.bool false)] #[31, 3, 4] rfl (fun vs w => call_enters Try.func41 (by kernel_rfl) rfl vs w) #[.agg #[.slice a1 a2 a3, .int .i64 a4], .int .i64 x, .bool false] ?_ (with_f (HF3.out.near hI.near) x false) ?_
      · simp only [List.map_toArray, List.map_cons, List.map_nil, x1, x2]
        rfl
      rintro v w5 ⟨hv, n⟩
      exact hK.out _ _ (Or.inr (HSK.out _ (hI.near.trans n))) (hI.c1 hp hv n)
    case s11 =>
      intro p env w5 hp hd hI K hK
      have x1 := (actOf_base (p := p) (env := env) (a := A0) (ds := [(5, some 37), (11, some 43), (12, some 9), (13, some 10), (14, none), (15, none)]) (s := 38) rfl).trans e3.out
      have x2 := (actOf_base (p := p) (env := env) (a := A0) (ds := [(5, some 37), (11, some 43), (12, some 9), (13, some 10), (14, none), (15, none)]) (s := 42) rfl).trans e4.out
      refine step_call rfl 41 #[.tmp 38, .tmp 42, .const (.bool true)] #[31, 3, 4] rfl (fun vs w => call_enters Try.func41 (by kernel_rfl) rfl vs w) #[.agg #[.slice a1 a2 a3, .int .i64 a4], .int .i64 x, .bool true] ?_ (with_f (HF3.out.near hI.near) x true) ?_
      · simp only [List.map_toArray, List.map_cons, List.map_nil, x1, x2]
        rfl
      rintro v w5 ⟨hv, n⟩
      exact hK.out _ _ (Or.inr (HSK.out _ (hI.near.trans n))) (hI.c2 hp hv n)
    case s12 =>
      intro p env w5 hp hd hI K hK
      generalize actOf [(5, some 37), (11, some 43), (12, some 9), (13, some 10), (14, none), (15, none)] p env A0 = A at hK ⊢
      go_simp
      exact hK.out _ _ (Or.inr (HSK.out _ (hI.a hp).near)) (hI.a hp)
    case s13 =>
      intro p env w5 hp hd hI K hK
      generalize actOf [(5, some 37), (11, some 43), (12, some 9), (13, some 10), (14, none), (15, none)] p env A0 = A at hK ⊢
      go_simp
      exact hK.out _ _ (Or.inr (HSK.out _ (hI.b hp).near)) (hI.b hp)
    case s14 =>
      intro p env w5 hp hd hI K hK
      simp only [List.all_cons, List.all_nil, Bool.and_true, Bool.and_eq_true] at hd
      obtain ⟨h6, h2, h5, h7⟩ := hd
      have h9 : p 15 = false := by
        cases h9 : p 15 with
        | false => rfl
        | true => rw [hI.chain h9] at hp; cases hp
      obtain ⟨b, q1, q2, q3, q4, y1, y2, y3, y4, y5⟩ := hI.s1 h6 h2 h5 h7 hp h9
      have t1 := slot_of ((actOf_eval (p := p) (env := env) (a := A0) (i := 12) (s := 9) h6 (by rw [hsz.out]; decide) (ds := [(5, some 37), (11, some 43), (12, some 9), (13, some 10), (14, none), (15, none)]) rfl (by simp)).trans y1)
      have t2 := slot_of ((actOf_eval (p := p) (env := env) (a := A0) (i := 5) (s := 37) h2 (by rw [hsz.out]; decide) (ds := [(5, some 37), (11, some 43), (12, some 9), (13, some 10), (14, none), (15, none)]) rfl (by simp)).trans y2)
      generalize actOf [(5, some 37), (11, some 43), (12, some 9), (13, some 10), (14, none), (15, none)] p env A0 = A at t1 t2 hK ⊢
      have z0 := cell1 (o := 0) y3 rfl
      have z1 := cell1 (o := 1) y3 rfl
      have zf := free1 y3
      go_simp
      exact hK.out undef _ (Or.inr (HSK.out _ y4)) (y5 undef)
    case s15 =>
      intro p env w5 hp hd hI K hK
      simp only [List.all_cons, List.all_nil, Bool.and_true, Bool.and_eq_true] at hd
      obtain ⟨h7, h5, h8, h6, h2⟩ := hd
      obtain ⟨b, q1, q2, q3, q4, y1, y2, y3, y4⟩ := hI.s2 h6 h2 h5 h7 h8 hp
      have t1 := slot_of ((actOf_eval (p := p) (env := env) (a := A0) (i := 13) (s := 10) h7 (by rw [hsz.out]; decide) (ds := [(5, some 37), (11, some 43), (12, some 9), (13, some 10), (14, none), (15, none)]) rfl (by simp)).trans y1)
      have t2 := slot_of ((actOf_eval (p := p) (env := env) (a := A0) (i := 11) (s := 43) h5 (by rw [hsz.out]; decide) (ds := [(5, some 37), (11, some 43), (12, some 9), (13, some 10), (14, none), (15, none)]) rfl (by simp)).trans y2)
      generalize actOf [(5, some 37), (11, some 43), (12, some 9), (13, some 10), (14, none), (15, none)] p env A0 = A at t1 t2 hK ⊢
      have z0 := cell1 (o := 0) y3 rfl
      have z1 := cell1 (o := 1) y3 rfl
      have zf := free1 y3
      go_simp
      exact hK.out undef _ (Or.inl rfl) (y4 undef)
    case fin =>
      intro p env w5 hp hI
      simp only [List.all_cons, List.all_nil, Bool.and_true, Bool.and_eq_true] at hp
      obtain ⟨h2, h5, h6, h7, h8, h9⟩ := hp
      obtain ⟨ba, bb, x1, x2, x3, x4, y1, y2, y3, y4, z1, z2, z3, z4, z5, z6, z7, z8, z9⟩ := hI.fin h6 h2 h5 h7 h8 h9
      refine NoPanic.normal ?_
      rw [HA0.out]
      simp only [actOf, h2, h5, h6, h7, h8, h9, if_true, Act.put, List.setIfInBounds_toArray, List.set_cons_zero, List.set_cons_succ]
      rw [z1, z2]
      clear hI h2 h5 h6 h7 h8 h9 HSK HA0 hS
      have hwl := HN.out.size'
      have hw3 := HN3.out.size'
      have NA := Lib.hid ((HN.out.trans HN3.out).trans z9)
      have HBA := Lib.hid z5
      have HBB := Lib.hid z6
      have HLO := Lib.hid z7
      have HHI := Lib.hid z8
      obtain ⟨c0, c1⟩ : w5.cell? ⟨ba, 0, none⟩ = some (.slice x1 x2 x3) ∧ w5.cell? ⟨ba, 1, none⟩ = some (.int .i64 x4) := ⟨cell1 (o := 0) z5 rfl, cell1 (o := 1) z5 rfl⟩
      obtain ⟨d0, d1⟩ : w5.cell? ⟨bb, 0, none⟩ = some (.slice y1 y2 y3) ∧ w5.cell? ⟨bb, 1, none⟩ = some (.int .i64 y4) := ⟨cell1 (o := 0) z6 rfl, cell1 (o := 1) z6 rfl⟩
      clear z1 z2 z5 z6 z7 z8 z9 HF3 HEm HEv
      go_upto_region 13 with (first
        | (go_at_call 34; refine (and_f HLO.out HHI.out).mono ?_; rintro e w6 ⟨v6, rfl, k6, n6⟩; obtain ⟨r1, r2, r3, r4, rfl⟩ := k6.form; have HD6 := Lib.hid k6; have HN6 := Lib.hid n6; clear k6 n6)
        | (go_at_call 114; refine (H0.out _ _ (NA.out.trans HN6.out) (HD6.out.fixP fun c => rfl)).mono ?_; rintro e w7 ⟨rfl, k7, n7⟩; have HI7 := Lib.hid k7; have HK7 := Lib.hid n7; clear k7 n7))
      clear c0 c1 d0 d1
      have hA7 := HK7.out.block' (keepN HN6.out HBA.out) (by omega) (fun cur fr e => by cases e)
      have hB7 := HK7.out.block' (keepN HN6.out HBB.out) (by omega) (fun cur fr e => by cases e)
      have HA7 := Lib.hid hA7
      have HB7 := Lib.hid hB7
      have HL7 := Lib.hid ((HLO.out.near HN6.out).kb (HI.out.near (NA.out.trans HN6.out)) HK7.out)
      have HH7 := Lib.hid ((HHI.out.near HN6.out).kb (HI.out.near (NA.out.trans HN6.out)) HK7.out)
      have KW7 := Lib.hid ((NA.out.trans HN6.out).kb.trans HK7.out)
      obtain ⟨c0, c1⟩ : w7.cell? ⟨ba, 0, none⟩ = some (.slice x1 x2 x3) ∧ w7.cell? ⟨ba, 1, none⟩ = some (.int .i64 x4) := ⟨cell1 (o := 0) hA7 rfl, cell1 (o := 1) hA7 rfl⟩
      clear hA7 hB7
      go_upto_region 14 with (go_at_call 114; refine (H1.out _ _ KW7.out HI7.out (HL7.out.fixP fun c => rfl)).mono ?_; rintro e w8 ⟨rfl, k8, n8⟩; have HI8 := Lib.hid k8; have HK8 := Lib.hid n8; clear k8 n8)
      clear c0 c1
      have hB8 := HK8.out.block' HB7.out (by omega) (fun cur fr e => by cases e)
      have HH8 := Lib.hid (HH7.out.kb HI7.out HK8.out)
      have KW8 := Lib.hid (KW7.out.trans HK8.out)
      obtain ⟨d0, d1⟩ : w8.cell? ⟨bb, 0, none⟩ = some (.slice y1 y2 y3) ∧ w8.cell? ⟨bb, 1, none⟩ = some (.int .i64 y4) := ⟨cell1 (o := 0) hB8 rfl, cell1 (o := 1) hB8 rfl⟩
      clear hB8
      go_wp2_with (go_at_call 114; refine (H2.out _ _ KW8.out HI8.out (HH8.out.fixP fun c => rfl)).mono ?_; rintro e w9 ⟨rfl, k9, n9⟩; have HI9 := Lib.hid k9; have HK9 := Lib.hid n9; clear k9 n9)
      go_end0
      exact ⟨rfl, by rw [← List.append_assoc, ← List.append_assoc]; exact HI9.out, KW8.out.trans HK9.out⟩

theorem cubes_calls {V : List Nat} (hV : V.length ≤ 12) {fo : Option Addr} {cap : Nat} {B base : Nat} :
    ∀ (m : Nat), m ≤ V.length → ∀ (f : F) (v : Value) (w : World) (L : List Bool), IsF w v f → OnV V m f → RdV w fo V → BI B base L w → base ≤ w.heap.size → L.length + 3 ^ m ≤ 600000000 →
      Calls Try.prog 114 #[v, .slice fo V.length cap, .int .i64 ((m : Int) - 1), .func (.func 115) #[] #[.pointer (some ⟨B, 0, none⟩)]] w (CubesPost B base L (inL V m f) w) := by
  intro m
  induction m with
  | zero =>
    intro _ f v w L hf ho hg hI hbs hL
    obtain ⟨b, hb⟩ := ho.zero
    rw [inL_const V 0 hb]
    exact cubes_const hf hb (m := 0) (by omega) hI hbs (by omega) _ _ _
  | succ m ih =>
    intro hm f v w L hf ho hg hI hbs hL
    have hp : (3 : Nat) ^ (m + 1) = 3 ^ m + 3 ^ m + 3 ^ m := by rw [Nat.pow_succ]; omega
    have hp0 : 0 < 3 ^ m := Nat.pow_pos (by omega)
    by_cases hc : ∃ b, ∀ c, f c = b
    · obtain ⟨b, hb⟩ := hc
      rw [inL_const V (m + 1) hb]
      exact cubes_const hf hb (m := m + 1) (by omega) hI hbs (by omega) _ _ _
    · have hn1 : nowhere f = false := Bool.eq_false_iff.2 fun h => hc ⟨false, nowhere_iff.1 h⟩
      have hn2 : everyF f = false := Bool.eq_false_iff.2 fun h => hc ⟨true, everyF_iff.1 h⟩
      rw [inL_succ, show (((m + 1 : Nat) : Int) - 1) = (m : Int) by omega]
      have l0 := inL_len V m (digF f (V.getD m 0) 0)
      have l1 := inL_len V m (digF f (V.getD m 0) 1)
      obtain ⟨g, hgo, hgc, -⟩ := hg m (by omega)
      have hg' := hg
      rw [hgo] at hg' ⊢
      refine cubes_step hf hn1 hn2 (m := m) (by omega) hI (by omega) hgc ?_ ?_ ?_
      · intro v' w' hn hv
        have := hn.size'
        rw [← hgo]
        exact ih (by omega) _ v' w' L hv (ho.dig 0) (hg.near hn) (hI.near hn) (by omega) (by omega)
      · intro v' w' hk hi hv
        have := hk.size
        rw [← hgo]
        exact ih (by omega) _ v' w' _ hv (ho.dig 1) (hg.kb hI hk) hi (by omega) (by rw [List.length_append]; omega)
      · intro v' w' hk hi hv
        have := hk.size
        rw [← hgo]
        exact ih (by omega) _ v' w' _ hv (ho.dig 2) (hg.kb hI hk) hi (by omega) (by rw [List.length_append, List.length_append]; omega)

end Go.Proofs.Ytefclohjeompkaa

/- The program's prime and cube. -/
namespace Go.Proofs.Ytefclohjeompkaa
open Go Go.RowKit Go.Shelf Go.Proofs.Gen Go.Proofs.Bdd Go.Proofs.Bdd.T

/-- Is no cube that fixes one feature less in the set? -/
def primeB (L : List Bool) (k n : Nat) : Bool := (List.range n).all fun j => !(decide (0 < dig k j) && L.getD (k - dig k j * 3 ^ j) false)

theorem primeB_no {L : List Bool} {k n j : Nat} (hj : j < n) (h1 : 0 < dig k j) (h2 : L.getD (k - dig k j * 3 ^ j) false = true) : primeB L k n = false := by
  refine Bool.eq_false_iff.2 fun h => ?_
  have := List.all_eq_true.1 h j (List.mem_range.2 hj)
  rw [h2, decide_eq_true h1] at this
  cases this
theorem primeB_yes {L : List Bool} {k n : Nat} (h : ∀ j, j < n → 0 < dig k j → L.getD (k - dig k j * 3 ^ j) false = false) : primeB L k n = true := by
  refine List.all_eq_true.2 fun j hj => ?_
  by_cases h1 : 0 < dig k j
  · rw [h j (List.mem_range.1 hj) h1]
    simp
  · rw [decide_eq_false h1]
    rfl

theorem dig_lt (k j : Nat) : dig k j < 3 := Nat.mod_lt _ (by omega)
theorem dig_le (k j : Nat) : dig k j * 3 ^ j ≤ k := by
  unfold dig
  exact Nat.le_trans (Nat.mul_le_mul_right _ (Nat.mod_le _ _)) (Nat.div_mul_le_self _ _)

set_option maxRecDepth 100000 in
set_option maxHeartbeats 3200000 in
theorem prime_calls {w : World} {base : Nat} {ao : Option Addr} {cap : Nat} {L : List Bool} (hr : w.ownsRow base 4 1 (.slice ao L.length cap) L.length (L.map bv)) {k n : Nat} (hk : k < L.length) (hn : n ≤ 12) (hL : L.length ≤ 531441) :
    Calls Try.prog 116 #[.slice ao L.length cap, .int .i64 k, .int .i64 n] w fun e w' => e = .returned (.bool (primeB L k n)) ∧ Near w w' := by
  have HR := Lib.hid hr
  clear hr
  obtain ⟨r, hrr⟩ : ∃ r, primeB L k n = r := ⟨_, rfl⟩
  rw [hrr]
  have HRR := Lib.hid hrr
  clear hrr
  go_enter Try.func116, Try.ntmps116
  go_wp2_with fail
  go_loopw [7, 10] (fun q i wr => ∃ j p : Nat, j ≤ n ∧ 3 ^ j = p ∧ i = .int .i64 j ∧ q = .int .i64 p ∧ (∀ a, a < j → 0 < dig k a → L.getD (k - dig k a * 3 ^ a) false = false) ∧ Near w wr) (fun _ i _ => n - (intOf i).toNat)
  case atStart => exact ⟨0, 1, Nat.zero_le _, rfl, rfl, rfl, fun a ha => by omega, Near.refl _⟩
  case round =>
    obtain ⟨j, p, hj, hp, rfl, rfl, hall, hn'⟩ := hrel
    have HAll := Lib.hid hall
    have HNr := Lib.hid hn'
    have HP := Lib.hid hp
    have hpp : 0 < p := hp ▸ Nat.pow_pos (by omega)
    have hpb : p ≤ 531441 := by
      have h1 : (3 : Nat) ^ j ≤ 3 ^ 12 := Nat.pow_le_pow_right (by omega) (by omega)
      have h2 : (3 : Nat) ^ 12 = 531441 := by decide
      omega
    clear hall hn'
    by_cases hlt : j < n
    · have hlt' : (j : Int) < n := by omega
      have hp0 : ¬ (p = 0) := by omega
      have hp0' : ¬ ((p : Int) = 0) := by omega
      have hd : dig k j = k / p % 3 := by unfold dig; rw [hp]
      have hdl := dig_lt k j
      have hdk := dig_le k j
      rw [hp] at hdk
      have HD := Lib.hid hd
      have hno := primeB_no (L := L) (k := k) hlt
      have hnext : (0 < dig k j → L.getD (k - dig k j * 3 ^ j) false = false) → ∀ a, a < j + 1 → 0 < dig k a → L.getD (k - dig k a * 3 ^ a) false = false := fun h a ha h0 => by
        by_cases e : a = j
        · subst e
          exact h h0
        · exact HAll.out a (by omega) h0
      rw [hp] at hno hnext
      have HNo := Lib.hid hno
      have HNext := Lib.hid hnext
      clear hp hd hno hnext
      generalize dig k j = d at hdl hdk HD HNo HNext
      have e1 : ((k : Int) / p) = ((k / p : Nat) : Int) := by simp
      have hle := Nat.div_le_self k p
      have hwd : IntKind.i64.wrap ((k : Int) / p) = (k : Int) / p := by
        rw [e1]
        generalize k / p = q at hle
        exact IntWalk.i64_in _ (by omega)
      have htm : ((k : Int) / p).tmod 3 = (d : Int) := by
        rw [e1, HD.out]
        rfl
      have hwt : IntKind.i64.wrap (d : Int) = (d : Int) := IntWalk.i64_in _ (by omega)
      clear e1 hle
      by_cases hd0 : d = 0
      · subst hd0
        go_wp2_with fail
        exact ⟨⟨j + 1, p * 3, by omega, by rw [Nat.pow_succ, HP.out], by go_num, by go_num, HNext.out (fun h => by omega), HNr.out⟩, by simp [intOf]; omega⟩
      · have hd1 : (0 : Int) < d := by omega
        obtain ⟨dp, hdp⟩ : ∃ dp, d * p = dp := ⟨_, rfl⟩
        have hno := HNo.out (by omega)
        have hnext := HNext.out
        rw [hdp] at hdk hno hnext
        have hm1 : (d : Int) * p = (dp : Int) := by rw [← hdp]; simp
        have hm2 : IntKind.i64.wrap (dp : Int) = (dp : Int) := IntWalk.i64_in _ (by omega)
        obtain ⟨z, hz⟩ : ∃ z, k - dp = z := ⟨_, rfl⟩
        have hs1 : (k : Int) - dp = (z : Int) := by omega
        have hs2 : IntKind.i64.wrap (z : Int) = (z : Int) := IntWalk.i64_in _ (by omega)
        have hzl : (z : Int) < L.length := by omega
        rw [hz] at hno hnext
        obtain ⟨b, hb⟩ : ∃ b, L.getD z false = b := ⟨_, rfl⟩
        have hLz : L[z]? = some b := by rw [← hb, List.getD_eq_getElem?_getD, List.getElem?_eq_getElem (by omega)]; rfl
        obtain ⟨g, cap', ev, x0, -⟩ := row1 HR.out (k := z) (u := bv b) (by rw [List.getElem?_map, hLz]; rfl) (by omega)
        cases ev
        have x1 : wr.cell? ⟨g, z, none⟩ = some (.bool b) := HNr.out.cell x0
        rw [hb] at hno hnext
        have HNo2 := Lib.hid hno
        have HNext2 := Lib.hid hnext
        have hwp : IntKind.i64.wrap ((p : Int) * 3) = (p : Int) * 3 := IntWalk.i64_in _ (by omega)
        clear hb hLz hdp hz x0 hno hnext HNo HNext
        cases b
        · go_wp2_with fail
          exact ⟨⟨j + 1, p * 3, by omega, by rw [Nat.pow_succ, HP.out], by go_num, by go_num, HNext2.out (fun _ => rfl), HNr.out⟩, by simp [intOf]; omega⟩
        · have hr' : r = false := HRR.out.symm.trans (HNo2.out rfl)
          subst hr'
          go_wp2_with fail
          exact bodyPost_ret (v := .bool false) (by simp [results, Try.results116, go_sem]) rfl ⟨rfl, HNr.out⟩
    · have hjn : j = n := by omega
      have hlt' : ¬ ((j : Int) < n) := by omega
      subst hjn
      have hr' : r = true := HRR.out.symm.trans (primeB_yes HAll.out)
      subst hr'
      go_wp2_with fail
      exact bodyPost_ret (v := .bool true) (by simp [results, Try.results116, go_sem]) rfl ⟨rfl, HNr.out⟩

end Go.Proofs.Ytefclohjeompkaa

/- The program's cube: the cube with a number. -/
namespace Go.Proofs.Ytefclohjeompkaa
open Go Go.RowKit Go.Shelf Go.Proofs.Gen Go.Proofs.Bdd Go.Proofs.Bdd.T

/-- What a cube with a number has, and what it has not; of the first m features. -/
def kOn (V : List Nat) (k : Nat) : Nat → Nat
  | 0 => 0
  | m + 1 => if dig k m = 2 then kOn V k m ||| 2 ^ V.getD m 0 else kOn V k m
def kOff (V : List Nat) (k : Nat) : Nat → Nat
  | 0 => 0
  | m + 1 => if dig k m = 1 then kOff V k m ||| 2 ^ V.getD m 0 else kOff V k m

theorem kOn_lt {V : List Nat} (hV : ∀ j, V.getD j 0 < 24) (k : Nat) : ∀ m, kOn V k m < 16777216
  | 0 => by simp [kOn]
  | m + 1 => by
    have ih := kOn_lt hV k m
    unfold kOn
    split
    · exact Nat.or_lt_two_pow (n := 24) ih (Nat.pow_lt_pow_right (by omega) (hV m))
    · exact ih
theorem kOff_lt {V : List Nat} (hV : ∀ j, V.getD j 0 < 24) (k : Nat) : ∀ m, kOff V k m < 16777216
  | 0 => by simp [kOff]
  | m + 1 => by
    have ih := kOff_lt hV k m
    unfold kOff
    split
    · exact Nat.or_lt_two_pow (n := 24) ih (Nat.pow_lt_pow_right (by omega) (hV m))
    · exact ih

theorem dig_div (k j : Nat) : k / 3 ^ j / 3 = k / 3 ^ (j + 1) := by rw [Nat.div_div_eq_div_mul, Nat.pow_succ]

set_option maxRecDepth 100000 in
set_option maxHeartbeats 3200000 in
theorem cube_calls {w : World} {V : List Nat} (hV : ∀ j, V.getD j 0 < 24) (hVl : V.length ≤ 24) {fo : Option Addr} {cap : Nat} (hg : RdV w fo V) {k : Nat} (hk : k < 1000000000) :
    Calls Try.prog 117 #[.slice fo V.length cap, .int .i64 k] w fun e w' => e = .returned (.agg #[.int .u32 (kOn V k V.length : Nat), .int .u32 (kOff V k V.length : Nat)]) ∧ Near w w' := by
  have HG := Lib.hid hg
  have HV := Lib.hid hV
  clear hg hV
  have facts : ∀ W, W = (w.alloc (.cells #[.int .u32 0, .int .u32 0] 99)).alloc (.cells #[.int .u32 0, .int .u32 0] 99) → Near w W ∧ W.heap.size = w.heap.size + 1 + 1 ∧ W.heap[w.heap.size]? = some (.cells #[.int .u32 0, .int .u32 0] 99 (0, 0)) ∧ W.heap[w.heap.size + 1]? = some (.cells #[.int .u32 0, .int .u32 0] 99 (0, 0)) := by
    rintro W rfl
    exact ⟨((Near.refl w).alloc _).alloc _, by simp, (heap_old_at (by simp)).trans (heap_new_at rfl), heap_new_at (by simp)⟩
  go_enter Try.func117, Try.ntmps117
  go_upto_region 2 with fail
  have hf := facts _ rfl
  generalize (w.alloc (.cells #[.int .u32 0, .int .u32 0] 99)).alloc (.cells #[.int .u32 0, .int .u32 0] 99) = W at hf ⊢
  clear facts
  obtain ⟨hN, hS, hR, hX⟩ := hf
  have HN := Lib.hid hN
  have HR := Lib.hid hR
  have HX := Lib.hid hX
  have HSz := Lib.hid hS
  clear hN hR hX hS
  go_wp2_with fail
  go_loopw [1, 10] (fun q i wr => ∃ j y : Nat, j ≤ V.length ∧ k / 3 ^ j = y ∧ i = .int .i64 j ∧ q = .int .i64 y ∧ wr.heap[w.heap.size + 1]? = some (.cells #[.int .u32 (kOn V k j : Nat), .int .u32 (kOff V k j : Nat)] 99 (0, 0)) ∧ Kept (fun b => b = w.heap.size + 1) W wr) (fun _ i _ => V.length - (intOf i).toNat)
  case atStart => exact ⟨0, k, Nat.zero_le _, by simp, rfl, rfl, HX.out, Kept.refl _ _⟩
  case round =>
    obtain ⟨j, y, hj, hy, rfl, rfl, hx, hkp⟩ := hrel
    have HXr := Lib.hid hx
    have HK := Lib.hid hkp
    have HY := Lib.hid hy
    have hyk : y ≤ k := hy ▸ Nat.div_le_self _ _
    clear hx hkp
    by_cases hlt : j < V.length
    · have hlt' : (j : Int) < V.length := by omega
      have hxlt := HV.out j
      obtain ⟨g, hfo, hgc, -⟩ := HG.out j hlt
      subst hfo
      have hgb : g < w.heap.size := World.block_lt_of_cell? w _ hgc
      have x0 : wr.cell? ⟨g, j, none⟩ = some (.int .i64 (V.getD j 0 : Nat)) := HK.out.cell (HN.out.cell hgc) (by show ¬ g = w.heap.size + 1; omega)
      clear hgc
      have hon := kOn_lt HV.out k j
      have hoff := kOff_lt HV.out k j
      have s1 : kOn V k (j + 1) = if dig k j = 2 then kOn V k j ||| 2 ^ V.getD j 0 else kOn V k j := rfl
      have s2 : kOff V k (j + 1) = if dig k j = 1 then kOff V k j ||| 2 ^ V.getD j 0 else kOff V k j := rfl
      have hd : dig k j = y % 3 := by unfold dig; rw [hy]
      have hny : y / 3 = k / 3 ^ (j + 1) := by rw [← hy, dig_div]
      rw [hd] at s1 s2
      have S1 := Lib.hid s1
      have S2 := Lib.hid s2
      have HNy := Lib.hid hny
      have c0 : wr.cell? ⟨w.heap.size + 1, 0, none⟩ = some (.int .u32 (kOn V k j : Nat)) := cell1 (o := 0) HXr.out rfl
      have c1 : wr.cell? ⟨w.heap.size + 1, 1, none⟩ = some (.int .u32 (kOff V k j : Nat)) := cell1 (o := 1) HXr.out rfl
      have cf := free1 HXr.out
      clear hd hny s1 s2 hy
      generalize V.getD j 0 = x at x0 hxlt S1 S2
      generalize kOn V k j = on at c0 hon S1 HXr
      generalize kOff V k j = off at c1 hoff S2 HXr
      have hpk : 2 ^ x < 16777216 := Nat.lt_of_lt_of_le (Nat.pow_lt_pow_right (a := 2) (by omega) hxlt) (by decide)
      have hcast : ((2 ^ x : Nat) : Int) = (2 : Int) ^ x := by simp
      have hsh : IntKind.u32.wrap ((2 : Int) ^ x) = (2 : Int) ^ x := by rw [← hcast]; generalize 2 ^ x = p at hpk; exact IntWalk.u32_in _ (by omega)
      have ho1 : bits .or .u32 (on : Int) ((2 : Int) ^ x) = ((on ||| 2 ^ x : Nat) : Int) := by rw [← hcast]; generalize 2 ^ x = p at hpk; exact Go.Proofs.Gen.u32_or on p (by omega) (by omega)
      have ho2 : bits .or .u32 (off : Int) ((2 : Int) ^ x) = ((off ||| 2 ^ x : Nat) : Int) := by rw [← hcast]; generalize 2 ^ x = p at hpk; exact Go.Proofs.Gen.u32_or off p (by omega) (by omega)
      have hx0 : (0 : Int) ≤ x := by omega
      have htm : (y : Int).tmod 3 = ((y % 3 : Nat) : Int) := rfl
      clear hcast hpk
      have hy3 : y % 3 < 3 := Nat.mod_lt _ (by omega)
      obtain h0 | h1 | h2 : y % 3 = 0 ∨ y % 3 = 1 ∨ y % 3 = 2 := by omega
      · rw [h0] at htm
        go_wp2_with fail
        refine ⟨⟨j + 1, y / 3, by omega, HNy.out.symm, by go_num, by simp, ?_, HK.out⟩, by simp [intOf]; omega⟩
        rw [S1.out, S2.out, if_neg (by omega), if_neg (by omega)]
        exact HXr.out
      · rw [h1] at htm
        go_upto_region 7 with fail
        go_still_tail 6, (by kernel_rfl)
        change wpList _ _ _ _ _ wr.drew
        go_wp2_with fail
        refine ⟨⟨j + 1, y / 3, by omega, HNy.out.symm, by go_num, by simp, ?_, (HK.out.setCell (p := ⟨w.heap.size + 1, _, none⟩) (fun _ => rfl) _).drew⟩, by simp [intOf]; omega⟩
        rw [S1.out, S2.out, if_neg (by omega), if_pos h1]
        have := setCell_heap HXr.out 1 (.int .u32 ((off ||| 2 ^ x : Nat) : Int))
        simp at this
        exact this
      · rw [h2] at htm
        go_upto_region 9 with fail
        go_still_tail 6, (by kernel_rfl)
        change wpList _ _ _ _ _ wr.drew
        go_wp2_with fail
        refine ⟨⟨j + 1, y / 3, by omega, HNy.out.symm, by go_num, by simp, ?_, (HK.out.setCell (p := ⟨w.heap.size + 1, _, none⟩) (fun _ => rfl) _).drew⟩, by simp [intOf]; omega⟩
        rw [S1.out, S2.out, if_pos h2, if_neg (by omega)]
        have := setCell_heap HXr.out 0 (.int .u32 ((on ||| 2 ^ x : Nat) : Int))
        simp at this
        exact this
    · have hjn : j = V.length := by omega
      have hlt' : ¬ ((j : Int) < V.length) := by omega
      subst hjn
      have hRr := (HK.out.block w.heap.size (Array.getElem?_eq_some_iff.1 HR.out).1 (by omega)).trans HR.out
      obtain ⟨c0, c1⟩ : wr.cell? ⟨w.heap.size + 1, 0, none⟩ = some (.int .u32 (kOn V k V.length : Nat)) ∧ wr.cell? ⟨w.heap.size + 1, 1, none⟩ = some (.int .u32 (kOff V k V.length : Nat)) := ⟨cell1 (o := 0) HXr.out rfl, cell1 (o := 1) HXr.out rfl⟩
      have z0 := cell1 (o := 0) hRr rfl
      have z1 := cell1 (o := 1) hRr rfl
      have zf := free1 hRr
      have HRr := Lib.hid hRr
      obtain ⟨on, hon⟩ : ∃ on, kOn V k V.length = on := ⟨_, rfl⟩
      obtain ⟨off, hoff⟩ : ∃ off, kOff V k V.length = off := ⟨_, rfl⟩
      rw [hon] at c0
      rw [hoff] at c1
      have HOn := Lib.hid hon
      have HOff := Lib.hid hoff
      clear hRr hon hoff
      go_wp2_with fail
      have q := box31 HRr.out (.int .u32 on) (.int .u32 off)
      have q0 := cell1 (o := 0) q rfl
      have q1 := cell1 (o := 1) q rfl
      have hk2 := two_keptP (w := wr) (b := w.heap.size) (.int .u32 on) (.int .u32 off)
      have kk : Kept (fun b => w.heap.size ≤ b) w ((wr.setCell ⟨w.heap.size, 0, none⟩ (.int .u32 on)).setCell ⟨w.heap.size, 1, none⟩ (.int .u32 off)) :=
        (HN.out.kept.trans (Kept.mono HK.out (fun b _ e => by omega))).trans (Kept.mono hk2 (fun b _ e => by omega))
      exact bodyPost_ret (v := .agg #[.int .u32 on, .int .u32 off]) (by simp [results, Try.results117, go_sem, q0, q1]) rfl ⟨by rw [HOn.out, HOff.out], Kept.mono kk (fun b hb e => by omega)⟩

end Go.Proofs.Ytefclohjeompkaa

/- The closure that cubes are sorted by; the sort. -/
namespace Go.Proofs.Ytefclohjeompkaa
open Go Go.RowKit Go.Shelf Go.Sort Go.Proofs.Gen Go.Proofs.Bdd Go.Proofs.Bdd.T

/-- How two cubes compare. -/
def cmpC (x y : Cub) : Int := or3 (cmpI x.size y.size) (cmpI x.on y.on) (cmpI x.off y.off)

set_option maxRecDepth 100000 in
set_option maxHeartbeats 3200000 in
theorem cmpc_calls {W : World} {bs : Nat} (hb : W.cell? ⟨bs, 0, none⟩ = some (.func (.func 118) #[] #[])) (x y : Cub) :
    Calls Try.prog 120 #[.agg #[.int .u32 x.on, .int .u32 x.off], .agg #[.int .u32 y.on, .int .u32 y.off], .pointer (some ⟨bs, 0, none⟩)] W fun e w' => e = .returned (.int .i64 (cmpC x y)) ∧ Grown W w' := by
  have HS1 := Lib.hid (fun (w' : World) => csize_calls x.hon x.hoff w')
  have HS2 := Lib.hid (fun (w' : World) => csize_calls y.hon y.hoff w')
  have hr : cmpC x y = or3 (cmpI ((feats (x.on ||| x.off)).length : Nat) ((feats (y.on ||| y.off)).length : Nat)) (cmpI x.on y.on) (cmpI x.off y.off) := rfl
  rw [hr]
  generalize ((feats (x.on ||| x.off)).length : Nat) = n1 at HS1 ⊢
  generalize ((feats (y.on ||| y.off)).length : Nat) = n2 at HS2 ⊢
  clear hr
  generalize x.on = xo at HS1 ⊢
  generalize x.off = xf at HS1 ⊢
  generalize y.on = yo at HS2 ⊢
  generalize y.off = yf at HS2 ⊢
  have HC1 := Lib.hid (fun (w' : World) => compare3_calls (n1 : Int) n2 w')
  have HC2 := Lib.hid (fun (w' : World) => compare24_calls (xo : Int) yo w')
  have HC3 := Lib.hid (fun (w' : World) => compare24_calls (xf : Int) yf w')
  generalize cmpI (n1 : Int) n2 = q1 at HC1 ⊢
  generalize cmpI (xo : Int) yo = q2 at HC2 ⊢
  generalize cmpI (xf : Int) yf = q3 at HC3 ⊢
  have hlt := World.block_lt_of_cell? W _ hb
  have facts : ∀ w1, w1 = (W.alloc (.cells #[.int .u32 xo, .int .u32 xf] 99)).alloc (.cells #[.int .u32 yo, .int .u32 yf] 99) → Grown W w1 ∧ w1.heap[W.heap.size]? = some (.cells #[.int .u32 xo, .int .u32 xf] 99 (0, 0)) ∧ w1.heap[W.heap.size + 1]? = some (.cells #[.int .u32 yo, .int .u32 yf] 99 (0, 0)) := by
    rintro w1 rfl
    exact ⟨((Grown.refl W).alloc _).alloc _, (heap_old_at (by simp)).trans (heap_new_at rfl), heap_new_at (by simp)⟩
  go_enter Try.func120, Try.ntmps120
  go_upto_region 1 with fail
  have hf := facts _ rfl
  generalize (W.alloc (.cells #[.int .u32 xo, .int .u32 xf] 99)).alloc (.cells #[.int .u32 yo, .int .u32 yf] 99) = w1 at hf ⊢
  clear facts
  obtain ⟨hg, hx, hy⟩ := hf
  have HG := Lib.hid hg
  have HSK := Lib.hid (show ∀ w', Near w1 w' → w'.cell? ⟨bs, 0, none⟩ = some (.func (.func 118) #[] #[]) ∧ (w'.cell? ⟨W.heap.size, 0, none⟩ = some (.int .u32 xo) ∧ w'.cell? ⟨W.heap.size, 1, none⟩ = some (.int .u32 xf)) ∧ w'.cell? ⟨W.heap.size + 1, 0, none⟩ = some (.int .u32 yo) ∧ w'.cell? ⟨W.heap.size + 1, 1, none⟩ = some (.int .u32 yf) from
    fun w' h => ⟨h.cell (hg.near.cell hb), ⟨cell1 (o := 0) (keepN h hx) rfl, cell1 (o := 1) (keepN h hx) rfl⟩, cell1 (o := 0) (keepN h hy) rfl, cell1 (o := 1) (keepN h hy) rfl⟩)
  clear hg hx hy hb
  have G0 := Lib.hid (Grown.refl w1).drew
  go_region_held3 (fun w' => w'.cell? ⟨bs, 0, none⟩ = some (.func (.func 118) #[] #[]) ∧ (w'.cell? ⟨W.heap.size, 0, none⟩ = some (.int .u32 xo) ∧ w'.cell? ⟨W.heap.size, 1, none⟩ = some (.int .u32 xf)) ∧ w'.cell? ⟨W.heap.size + 1, 0, none⟩ = some (.int .u32 yo) ∧ w'.cell? ⟨W.heap.size + 1, 1, none⟩ = some (.int .u32 yf))
    (first | exact HSK.out _ G6.out.near | exact HSK.out _ (G5.out.alloc _).near | exact HSK.out _ G5.out.near | exact HSK.out _ G4.out.near | exact HSK.out _ G3.out.near | exact HSK.out _ G2.out.near | exact HSK.out _ G1.out.near | exact HSK.out _ G0.out.near)
    (first
      | (go_at_call 121; have hseen := G5; refine (cmpOr3_calls (g := v5.heap.size) (x := q1) (y := q2) (z := q3) (by simp) (by simp) (by simp)).mono ?_; rintro e v6 ⟨rfl, rfl⟩; have G6 := Lib.hid (G5.out.alloc (.cells #[.int .i64 q1, .int .i64 q2, .int .i64 q3] 3)))
      | (go_at_call 123; have hseen := G4; refine (HC3.out _).mono ?_; rintro e v5 ⟨rfl, h5⟩; have G5 := Lib.hid (show Grown w1 v5 from h5 ▸ G4.out); clear h5)
      | (go_at_call 123; have hseen := G3; refine (HC2.out _).mono ?_; rintro e v4 ⟨rfl, h4⟩; have G4 := Lib.hid (show Grown w1 v4 from h4 ▸ G3.out); clear h4)
      | (go_at_call 122; have hseen := G2; refine (HC1.out _).mono ?_; rintro e v3 ⟨rfl, h3⟩; have G3 := Lib.hid (show Grown w1 v3 from h3 ▸ G2.out); clear h3)
      | (go_at_call 118; have hseen := G1; refine (HS2.out _).mono ?_; rintro e v2 ⟨rfl, n2'⟩; have G2 := Lib.hid (G1.out.trans n2'); clear n2')
      | (go_at_call 118; refine (HS1.out _).mono ?_; rintro e v1 ⟨rfl, n1'⟩; have G1 := Lib.hid (G0.out.trans n1'); clear n1'))
  go_wp2_with fail
  exact bodyPost_ret (v := .int .i64 (or3 q1 q2 q3)) (by simp [results, Try.results120, go_sem]) rfl ⟨rfl, HG.out.trans G6.out⟩

end Go.Proofs.Ytefclohjeompkaa

/- The sort of cubes. -/
namespace Go.Proofs.Ytefclohjeompkaa
open Go Go.RowKit Go.Shelf Go.Sort Go.Proofs.Gen Go.Proofs.Bdd Go.Proofs.Bdd.T

/-- The order of cubes. -/
def cubLt (x y : Cub) : Prop := x.size < y.size ∨ x.size = y.size ∧ (x.on < y.on ∨ x.on = y.on ∧ x.off < y.off)
instance (x y : Cub) : Decidable (cubLt x y) := by unfold cubLt; infer_instance

theorem lt_cmpC (x y : Cub) : ltOf cmpC x y = decide (cubLt x y) := by
  unfold ltOf
  rw [decide_eq_decide]
  unfold cmpC or3 cmpI cubLt
  generalize x.size = a
  generalize y.size = b
  generalize x.on = c
  generalize y.on = d
  generalize x.off = e
  generalize y.off = f
  by_cases h1 : (a : Int) < b
  · simp [h1]
    omega
  · by_cases h2 : (b : Int) < a
    · simp [h1, h2]
      omega
    · by_cases h3 : (c : Int) < d
      · simp [h1, h2, h3]
        omega
      · by_cases h4 : (d : Int) < c
        · simp [h1, h2, h3, h4]
          omega
        · by_cases h5 : (e : Int) < f
          · simp [h1, h2, h3, h4, h5]
            omega
          · by_cases h6 : (f : Int) < e
            · simp [h1, h2, h3, h4, h5, h6]
              omega
            · simp [h1, h2, h3, h4, h5, h6]
              omega

theorem swoC : SWO (ltOf cmpC) where
  irrefl x := by rw [lt_cmpC]; exact decide_eq_false (by unfold cubLt; omega)
  trans x y z h1 h2 := by
    rw [lt_cmpC] at *
    have h1 := of_decide_eq_true h1
    have h2 := of_decide_eq_true h2
    refine decide_eq_true ?_
    unfold cubLt at *
    omega
  ntrans x y z h1 h2 := by
    rw [lt_cmpC] at *
    have h1 := of_decide_eq_false h1
    have h2 := of_decide_eq_false h2
    refine decide_eq_false ?_
    unfold cubLt at *
    omega

theorem sortW_block {W : World} {blk : Nat} (n : Nat) (d : Array Cub) (os : Array Obj) {k : Nat} (hk : k < W.heap.size) (hne : k ≠ blk) : (sortWorldK encB 2 W blk 0 n d os).heap[k]? = W.heap[k]? := by
  unfold sortWorldK grow putRowK putRow mapBlock
  show ((W.heap.modify blk _) ++ os)[k]? = _
  rw [Array.getElem?_append_left (by simpa using hk), Array.getElem?_modify, if_neg (fun e => hne e.symm)]

theorem sortW_kept {W : World} {blk : Nat} (n : Nat) (d : Array Cub) (os : Array Obj) : Kept (fun b => b = blk) W (sortWorldK encB 2 W blk 0 n d os) := by
  refine ⟨rfl, rfl, rfl, ?_, fun k hk hs => sortW_block n d os hk hs⟩
  unfold sortWorldK grow putRowK putRow mapBlock
  show _ ≤ ((W.heap.modify blk _) ++ os).size
  simp

theorem perm_all {α : Type} [Inhabited α] {d d' : Array α} (h : PermIn 0 d.size d d') : d'.toList.Perm d.toList := by
  obtain ⟨h1, -, h3⟩ := h
  have e1 : d'.extract 0 d.size = d' := by rw [← h1]; simp
  have e2 : d.extract 0 d.size = d := by simp
  rwa [e1, e2] at h3

theorem sortc_calls {W : World} {bs blk cap : Nat} {d : Array Cub} (hb : W.cell? ⟨bs, 0, none⟩ = some (.func (.func 118) #[] #[])) (hne : bs ≠ blk) (hH : HoldsK encB 2 W blk 0 d) (hblk : blk < W.heap.size) (hsz : d.size < 4611686018427387904) :
    Calls Try.prog 119 #[.slice (some ⟨blk, 0, none⟩) d.size cap, .func (.func 120) #[] #[.pointer (some ⟨bs, 0, none⟩)]] W fun e w' => e = .returned (.tuple #[]) ∧ ∃ d' : Array Cub, d'.size = d.size ∧ d'.toList.Perm d.toList ∧ SortedIn (ltOf cmpC) 0 d.size d' ∧ HoldsK encB 2 w' blk 0 d' ∧ Kept (fun b => b = blk) W w' := by
  have hlt := World.block_lt_of_cell? W _ hb
  have eg : ∀ args w, (callFunc 120 args).run Try.prog w = .ok (.enter 120 args) w := call_enters Try.func120 (by kernel_rfl) rfl
  have hcmp : CmpLays Try.prog 120 #[.pointer (some ⟨bs, 0, none⟩)] encB 2 cmpC blk 0 d.size W := fun m os dk hs x y => by
    have hc : (sortWorldK encB 2 W blk 0 m dk os).cell? ⟨bs, 0, none⟩ = some (.func (.func 118) #[] #[]) := (World.cell?_of_block (a := ⟨bs, 0, none⟩) (sortW_block m dk os hlt hne)).trans hb
    exact cmpc_calls hc x y
  have hcon := AnyQ.slices_SortFunc sortCube 2 Try.isAgg99 Try.sizeOf99 encB (fun _ => rfl) (fun x v hv => by simp [encB] at hv; rcases hv with rfl | rfl <;> rfl) cmpC swoC 120 #[.pointer (some ⟨bs, 0, none⟩)] blk 0 cap d W eg hcmp hH hblk hsz
  change Calls Try.prog 119 _ _ _ at hcon
  refine hcon.mono ?_
  rintro e w' ⟨rfl, d', n, os, hp, hs, rfl⟩
  exact ⟨rfl, d', hp.1, perm_all hp, hs, holdsK_sortWorldK_c encB 2 W blk 0 d d' n os hH hblk hp.1, sortW_kept n d' os⟩

end Go.Proofs.Ytefclohjeompkaa

/- The sort of no cubes. -/
namespace Go.Proofs.Ytefclohjeompkaa
open Go Go.RowKit Go.Shelf Go.Sort Go.Proofs.Gen Go.Proofs.Bdd Go.Proofs.Bdd.T

set_option maxRecDepth 100000 in
set_option maxHeartbeats 1600000 in
theorem len64_zero (w : World) : Calls Try.prog 157 #[.int .u64 0] w fun e w' => (∃ l, e = .returned (.int .i64 l)) ∧ Near w w' := by
  go_enter Try.func157, Try.ntmps157
  go_wp2_with fail
  exact bodyPost_ret (v := .int .i64 (wrap64 (wrap64 (Lib.len8 0)))) (by simp [results, Try.results157, go_sem]) rfl ⟨⟨_, rfl⟩, Near.refl _⟩

set_option maxRecDepth 100000 in
set_option maxHeartbeats 1600000 in
theorem len_zero (w : World) : Calls Try.prog 142 #[.int .u64 0] w fun e w' => (∃ l, e = .returned (.int .i64 l)) ∧ Near w w' := by
  go_enter Try.func142, Try.ntmps142
  go_wp2_with (go_at_call 157; refine (len64_zero _).mono ?_; rintro e w1 ⟨⟨l, rfl⟩, n1⟩)
  exact bodyPost_ret (v := .int .i64 l) (by simp [results, Try.results142, go_sem]) rfl ⟨⟨_, rfl⟩, n1⟩

set_option maxRecDepth 100000 in
set_option maxHeartbeats 1600000 in
theorem insert_nil (w : World) (c : Value) : Calls Try.prog 148 #[.slice none 0 0, .int .i64 0, .int .i64 0, c] w fun e w' => e = .returned (.tuple #[]) ∧ Near w w' := by
  go_enter Try.func148, Try.ntmps148
  go_wp2_with fail
  go_loopw [8] (fun i wr => i = .int .i64 1 ∧ Near w wr) (fun _ _ => 0)
  case atStart => exact ⟨rfl, Near.refl _⟩
  case round =>
    obtain ⟨rfl, hn⟩ := hrel
    have HN := Lib.hid hn
    clear hn
    go_wp2_with fail
    go_end0
    exact ⟨rfl, HN.out⟩

set_option maxRecDepth 100000 in
set_option maxHeartbeats 1600000 in
theorem pdq_nil (w : World) (l : Int) (c : Value) : Calls Try.prog 141 #[.slice none 0 0, .int .i64 0, .int .i64 0, .int .i64 l, c] w fun e w' => e = .returned (.tuple #[]) ∧ Near w w' := by
  go_enter Try.func141, Try.ntmps141
  go_wp2_with fail
  go_loopw [1, 2, 3, 10, 11] (fun a b m x y wr => a = .int .i64 0 ∧ b = .int .i64 0 ∧ m = .int .i64 l ∧ x = .bool true ∧ y = .bool true ∧ Near w wr) (fun _ _ _ _ _ _ => 0)
  case atStart => exact ⟨rfl, rfl, rfl, rfl, rfl, Near.refl _⟩
  case round =>
    obtain ⟨rfl, rfl, rfl, rfl, rfl, hn⟩ := hrel
    have HN := Lib.hid hn
    clear hn
    go_wp2_with (go_at_call 148; refine (insert_nil _ _).mono ?_; rintro e w1 ⟨rfl, n1⟩)
    refine bodyPost_ret (results_none rfl _ _ _) rfl ?_
    exact ⟨rfl, HN.out.trans n1⟩

set_option maxRecDepth 100000 in
set_option maxHeartbeats 1600000 in
theorem sort_nil (w : World) (c : Value) : Calls Try.prog 119 #[.slice none 0 0, c] w fun e w' => e = .returned (.tuple #[]) ∧ Near w w' := by
  go_enter Try.func119, Try.ntmps119
  go_wp2_with (first
    | (go_at_call 142; refine (len_zero _).mono ?_; rintro e w1 ⟨⟨l, rfl⟩, n1⟩)
    | (go_at_call 141; refine (pdq_nil _ _ _).mono ?_; rintro e w2 ⟨rfl, n2⟩))
  go_end0
  exact ⟨rfl, n1.trans n2⟩

end Go.Proofs.Ytefclohjeompkaa

/- The program's Primes: the walk. -/
namespace Go.Proofs.Ytefclohjeompkaa
open Go Go.RowKit Go.Shelf Go.Sort Go.Proofs.Gen Go.Proofs.Bdd Go.Proofs.Bdd.T

theorem supp_at {w : World} {v : Value} {f : F} {s : Nat} (h : IsF w v f) (hs : ∀ i, s.testBit i = dep f i) : Calls Try.prog 44 #[v] w fun e w' => e = .returned (.int .u32 (s : Nat)) ∧ Near w w' := by
  obtain ⟨s', -, h1, h2⟩ := support_f h
  obtain rfl : s' = s := Nat.eq_of_testBit_eq fun i => (h1 i).trans (hs i).symm
  exact h2

theorem onV_feats {f : F} (hl : LowF f 24) {s : Nat} (hs : ∀ i, s.testBit i = dep f i) : OnV (feats s) (feats s).length f := by
  intro c d hcd
  have hV : ∀ i, i ∈ feats s → c i = d i := fun i hi => by
    obtain ⟨j, hj, e⟩ := List.getElem_of_mem hi
    have := hcd j hj
    rw [List.getD_eq_getElem?_getD, List.getElem?_eq_getElem hj] at this
    simpa [e] using this
  have key : ∀ k, k ≤ 24 → f (fun i => if i < k then d i else c i) = f c := by
    intro k
    induction k with
    | zero => intro _; simp
    | succ k ih =>
      intro hk
      rw [← ih (by omega)]
      by_cases hm : k ∈ feats s
      · congr 1
        funext i
        by_cases e : i = k
        · subst e
          simp [hV i hm]
        · have : (i < k + 1) = (i < k) := by rw [eq_iff_iff]; omega
          simp [this]
      · have hd : dep f k = false := by
          rw [← hs]
          cases hb : s.testBit k with
          | false => rfl
          | true => exact absurd (feats_mem.2 ⟨by omega, hb⟩) hm
        rw [← dep_false hd (fun i => if i < k then d i else c i) (d k), updI_upd]
        congr 1
        funext i
        unfold upd
        by_cases e : i = k
        · subst e
          simp
        · have : (i < k + 1) = (i < k) := by rw [eq_iff_iff]; omega
          simp [e, this]
  rw [← key 24 (Nat.le_refl _)]
  exact hl _ _ fun i hi => by simp [hi]

theorem feats_at {s j : Nat} (hj : j < (feats s).length) : (feats s).getD j 0 ∈ feats s := by
  rw [List.getD_eq_getElem?_getD, List.getElem?_eq_getElem hj]
  exact List.getElem_mem hj
theorem feats_at_lt (s j : Nat) : (feats s).getD j 0 < 24 := by
  by_cases hj : j < (feats s).length
  · exact (feats_mem.1 (feats_at hj)).1
  · rw [List.getD_eq_getElem?_getD, List.getElem?_eq_none (by omega)]
    simp
theorem feats_nodup (s : Nat) : (feats s).Nodup := List.Pairwise.filter _ List.nodup_range
theorem feats_inj {s i j : Nat} (hi : i < (feats s).length) (hj : j < (feats s).length) (e : (feats s).getD i 0 = (feats s).getD j 0) : i = j := by
  rw [List.getD_eq_getElem?_getD, List.getD_eq_getElem?_getD, List.getElem?_eq_getElem hi, List.getElem?_eq_getElem hj] at e
  have e' : (feats s)[i] = (feats s)[j] := by simpa using e
  have hp := List.pairwise_iff_getElem.1 (feats_nodup s)
  rcases Nat.lt_trichotomy i j with h | h | h
  · exact absurd e' (hp i j hi hj h)
  · exact h
  · exact absurd e'.symm (hp j i hj hi h)

theorem rdV_row {w : World} {base cap : Nat} {fo : Option Addr} {V : List Nat} (h : w.ownsRow base 3 1 (.slice fo V.length cap) V.length (V.map iv)) : RdV w fo V := fun j hj => by
  obtain ⟨g, cap', e, h0, -⟩ := row1 h (k := j) (u := iv (V.getD j 0)) (by rw [List.getElem?_map, List.getD_eq_getElem?_getD, List.getElem?_eq_getElem hj]; rfl) hj
  cases e
  obtain ⟨_, cur, fr, hc⟩ := own_blockP h rfl
  exact ⟨g, rfl, h0, cur, fr, hc⟩

/-- The cube with a number. -/
def cubK (s k : Nat) : Cub := ⟨kOn (feats s) k (feats s).length, kOff (feats s) k (feats s).length, kOn_lt (feats_at_lt s) _ _, kOff_lt (feats_at_lt s) _ _⟩

/-- The prime cubes' numbers, below k. -/
noncomputable def pks (s : Nat) (f : F) (k : Nat) : List Nat := (List.range k).filter fun k => inK (feats s) (feats s).length f k && primeB (inL (feats s) (feats s).length f) k (feats s).length

theorem pks_succ (s : Nat) (f : F) (k : Nat) : pks s f (k + 1) = pks s f k ++ if (inK (feats s) (feats s).length f k && primeB (inL (feats s) (feats s).length f) k (feats s).length) = true then [k] else [] := by
  unfold pks
  rw [List.range_succ, List.filter_append]
  simp only [List.filter_cons, List.filter_nil]

def flatC (l : List Cub) : List Value := l.flatMap encB

/-- Cubes as they are read. -/
def RdC (w : World) (ao : Option Addr) (l : List Cub) : Prop := ∀ (i : Nat) x, l[i]? = some x → ∃ g, ao = some ⟨g, 0, none⟩ ∧ w.cell? ⟨g, i * 2, none⟩ = some (.int .u32 x.on) ∧ w.cell? ⟨g, i * 2 + 1, none⟩ = some (.int .u32 x.off)

theorem info99 : (Try.prog.info? 99).map (fun i => (i.zero, i.size, i.bytes)) = some (some (.agg #[.int .u32 0, .int .u32 0]), 2, 8) := by kernel_rfl

theorem flatC_at : ∀ (l : List Cub) (i r : Nat), r < 2 → i < l.length → (flatC l)[i * 2 + r]? = some ((encB l[i]!)[r]!)
  | [], i, r, _, h => by simp at h
  | x :: l, 0, r, hr, _ => by
    have e : flatC (x :: l) = encB x ++ flatC l := rfl
    have hl : (encB x).length = 2 := rfl
    rw [e, List.getElem?_append_left (by omega)]
    match r, hr with
    | 0, _ => rfl
    | 1, _ => rfl
  | x :: l, i + 1, r, hr, h => by
    have e : flatC (x :: l) = encB x ++ flatC l := rfl
    have hl : (encB x).length = 2 := rfl
    rw [e, List.getElem?_append_right (by omega), hl, show (i + 1) * 2 + r - 2 = i * 2 + r from by omega, flatC_at l i r hr (by simpa using h)]
    simp

theorem flatC_len (l : List Cub) : (flatC l).length = l.length * 2 := by
  induction l with
  | nil => rfl
  | cons x l ih =>
    have e : flatC (x :: l) = encB x ++ flatC l := rfl
    have hl : (encB x).length = 2 := rfl
    rw [e, List.length_append, ih, hl, List.length_cons]
    omega

theorem holds_row {w : World} {base g cap : Nat} {l : List Cub} (h : w.ownsRow base 99 2 (.slice (some ⟨g, 0, none⟩) l.length cap) l.length (flatC l)) : HoldsK encB 2 w g 0 l.toArray := by
  intro j hj
  rw [size_flatK] at hj
  have hj2 : j < l.length * 2 := by simpa using hj
  rw [get_flatK _ _ _ _ hj]
  have ha := flatC_at l (j / 2) (j % 2) (Nat.mod_lt _ (by omega)) (by omega)
  rw [show j / 2 * 2 + j % 2 = j from by omega] at ha
  rcases h.2 with ⟨e, _⟩ | ⟨g', cap', cur, e, _, hg, _, _, hs, ht⟩
  · cases e
  · cases e
    rw [← ht, List.getElem?_take, if_pos (by omega)] at ha
    constructor
    · simp only [World.cell?, hg]
      have : cur[0 + j]? = some ((encB l[j / 2]!)[j % 2]!) := by simpa using ha
      simpa using this
    · exact free1 hg _

theorem rdC_holds {w : World} {g : Nat} {d : Array Cub} (h : HoldsK encB 2 w g 0 d) : RdC w (some ⟨g, 0, none⟩) d.toList := by
  intro i x hx
  have hi : i < d.size := by
    have := (List.getElem?_eq_some_iff.1 hx).1
    simpa using this
  have hx' : d[i]! = x := by
    rw [getElem!_pos d i hi]
    simpa [hi] using hx
  have h0 := (h (i * 2) (by rw [size_flatK]; omega)).1
  have h1 := (h (i * 2 + 1) (by rw [size_flatK]; omega)).1
  rw [get_flatK _ _ _ _ (by omega)] at h0 h1
  rw [show i * 2 / 2 = i by omega, show i * 2 % 2 = 0 by omega, hx', Nat.zero_add] at h0
  rw [show (i * 2 + 1) / 2 = i by omega, show (i * 2 + 1) % 2 = 1 by omega, hx', Nat.zero_add] at h1
  exact ⟨g, rfl, h0, h1⟩

end Go.Proofs.Ytefclohjeompkaa

/- The program's Primes: the walk. -/
namespace Go.Proofs.Ytefclohjeompkaa
open Go Go.RowKit Go.Shelf Go.Sort Go.Proofs.Gen Go.Proofs.Bdd Go.Proofs.Bdd.T

theorem flatC_inj_size (l : List Cub) : l.toArray.size = l.length := rfl

theorem sort_row {W : World} {base bs cap n : Nat} {oo : Option Addr} {l : List Cub} (hn : l.length = n) (h : W.ownsRow base 99 2 (.slice oo n cap) n (flatC l)) (hb : W.cell? ⟨bs, 0, none⟩ = some (.func (.func 118) #[] #[])) (hne : ∀ g, oo = some ⟨g, 0, none⟩ → bs ≠ g) (hsz : l.length < 4611686018427387904) :
    Calls Try.prog 119 #[.slice oo n cap, .func (.func 120) #[] #[.pointer (some ⟨bs, 0, none⟩)]] W fun e w' => e = .returned (.tuple #[]) ∧ ∃ d' : Array Cub, d'.size = n ∧ d'.toList.Perm l ∧ SortedIn (ltOf cmpC) 0 n d' ∧ RdC w' oo d'.toList ∧ Kept (fun b => base ≤ b) W w' := by
  subst hn
  rcases h.2 with ⟨e, e0⟩ | ⟨g, cap', cur, e, hbg, hg, _⟩
  · have hl : l = [] := List.eq_nil_of_length_eq_zero e0
    subst hl
    cases e
    refine (sort_nil W _).mono ?_
    rintro e w' ⟨rfl, n1⟩
    refine ⟨rfl, #[], rfl, List.Perm.refl _, fun i j _ _ hj => by simp at hj, fun i x hx => by simp at hx, Kept.mono n1 (fun b _ hf => hf.elim)⟩
  · obtain ⟨rfl, -, rfl⟩ : oo = some ⟨g, 0, none⟩ ∧ l.length = l.length ∧ cap = cap' := by
      injection e with e1 e2 e3
      exact ⟨e1, rfl, e3⟩
    refine (show Calls Try.prog 119 #[.slice (some ⟨g, 0, none⟩) l.toArray.size cap, .func (.func 120) #[] #[.pointer (some ⟨bs, 0, none⟩)]] W _ from sortc_calls (cap := cap) hb (hne g rfl) (holds_row h) (Array.getElem?_eq_some_iff.1 hg).1 (by simpa using hsz)).mono ?_
    rintro e w' ⟨rfl, d', h1, h2, h3, h4, h5⟩
    refine ⟨rfl, d', h1, h2, h3, rdC_holds h4, Kept.mono h5 (fun b _ hf => by subst hf; exact hbg)⟩

set_option maxRecDepth 100000 in
set_option maxHeartbeats 6400000 in
theorem primes_walk {w : World} {v : Value} {f : F} (h : IsF w v f) {s : Nat} (hs24 : s < 16777216) (hs : ∀ i, s.testBit i = dep f i) (hV : (feats s).length ≤ 12) :
    Calls Try.prog 74 #[v] w fun e w' => ∃ (ao : Option Addr) (cap : Nat) (d : Array Cub), e = .returned (.tuple #[.slice ao d.size cap, .int .i64 0]) ∧ RdC w' ao d.toList ∧ d.toList.Perm ((pks s f (3 ^ (feats s).length)).map (cubK s)) ∧ SortedIn (ltOf cmpC) 0 d.size d ∧ Near w w' := by
  have HF := Lib.hid h
  have HSup := Lib.hid (fun (w' : World) (hn : Near w w') => supp_at (HF.out.near hn) hs)
  have HOn := Lib.hid (onV_feats h.low hs)
  obtain ⟨a1, a2, a3, a4, rfl⟩ := h.form
  have hN : Near w (w.alloc (.cells #[.slice a1 a2 a3, .int .i64 a4] 31)) := (Near.refl w).alloc _
  have hA : (w.alloc (.cells #[.slice a1 a2 a3, .int .i64 a4] 31)).heap[w.heap.size]? = some (.cells #[.slice a1 a2 a3, .int .i64 a4] 31 (0, 0)) := heap_new_at rfl
  have HN := Lib.hid hN
  have HA := Lib.hid hA
  have hv12 : ¬ ((12 : Int) < (feats s).length) := by omega
  clear h hs hN hA
  go_enter Try.func74, Try.ntmps74
  go_upto_region 1 with fail
  generalize (w.alloc (.cells #[.slice a1 a2 a3, .int .i64 a4] 31)) = W1 at HN HA ⊢
  obtain ⟨c0, c1⟩ : W1.cell? ⟨w.heap.size, 0, none⟩ = some (.slice a1 a2 a3) ∧ W1.cell? ⟨w.heap.size, 1, none⟩ = some (.int .i64 a4) := ⟨cell1 (o := 0) HA.out rfl, cell1 (o := 1) HA.out rfl⟩
  go_upto_region 5 with (first
    | (go_at_call 112; refine (collect_calls (b0 := w3.heap.size) (f := s) (by omega) (by simp)).mono ?_; rintro e w5 ⟨fv, rfl, r5, n5⟩; obtain ⟨fo, fcap, rfl⟩ := owns_form r5; have HR5 := Lib.hid (rdV_row r5); have HN5 := Lib.hid ((HN3.out.alloc _).trans n5); have HB5 := Lib.hid ((HB3.out.alloc _).trans n5); clear r5 n5)
    | (go_at_call 113; refine (members_calls s _).mono ?_; rintro e w4 ⟨rfl, rfl⟩)
    | (go_at_call 111; refine (ones_calls hs24 _).mono ?_; rintro e w3 ⟨rfl, n3⟩; have HN3 := Lib.hid (HN2.out.trans n3); have HB3 := Lib.hid (HB2.out.trans n3); clear n3)
    | (go_at_call 44; refine (HSup.out _ HN.out).mono ?_; rintro e w2 ⟨rfl, n2⟩; have HN2 := Lib.hid (HN.out.trans n2); have HB2 := Lib.hid n2; clear n2))
  go_upto_region 6 with fail
  obtain ⟨i0, hi0, hz0, hz1, hz2⟩ := info_parts info99
  have hwn : IntKind.i64.wrap (((feats s).length : Int) - 1) = ((feats s).length : Int) - 1 := IntWalk.i64_in _ (by omega)
  have hfacts : ∀ W6, W6 = (w5.alloc (.cells #[] 4)).alloc (.cells #[.slice (some ⟨w5.heap.size, 0, none⟩) 0 0] 35) → Near w5 W6 ∧ W6.heap.size = w5.heap.size + 1 + 1 ∧ BI (w5.heap.size + 1) w5.heap.size [] W6 := by
    rintro W6 rfl
    exact ⟨((Near.refl w5).alloc _).alloc _, by simp, some ⟨w5.heap.size, 0, none⟩, 0, heap_new_at (by simp), rfl, .inr ⟨w5.heap.size, 0, #[], rfl, Nat.le_refl _, (heap_old_at (by simp)).trans (heap_new_at rfl), Nat.le_refl _, by unfold maxLen; omega, rfl, rfl⟩⟩
  have hf6 := hfacts _ rfl
  generalize (w5.alloc (.cells #[] 4)).alloc (.cells #[.slice (some ⟨w5.heap.size, 0, none⟩) 0 0] 35) = W6 at hf6 ⊢
  clear hfacts
  obtain ⟨hn6, hs6, hi6⟩ := hf6
  have HN6 := Lib.hid (HN5.out.trans hn6)
  have HR6 := Lib.hid (HR5.out.near hn6)
  have HI6 := Lib.hid hi6
  have h5w := HN5.out.size'
  have N56 := Lib.hid hn6
  generalize w5.heap.size = b5 at *
  have HA6 := Lib.hid (keepN (HB5.out.trans hn6) HA.out)
  have hwlt := (Array.getElem?_eq_some_iff.1 HA.out).1
  obtain ⟨d0, d1⟩ : W6.cell? ⟨w.heap.size, 0, none⟩ = some (.slice a1 a2 a3) ∧ W6.cell? ⟨w.heap.size, 1, none⟩ = some (.int .i64 a4) := ⟨cell1 (o := 0) HA6.out rfl, cell1 (o := 1) HA6.out rfl⟩
  have hp3 : 3 ^ (feats s).length ≤ 531441 := by
    have h1 : 3 ^ (feats s).length ≤ 3 ^ 12 := Nat.pow_le_pow_right (by omega) hV
    have h2 : (3 : Nat) ^ 12 = 531441 := by decide
    omega
  have HCu := Lib.hid (cubes_calls (V := feats s) hV (fo := fo) (cap := fcap) (B := b5 + 1) (base := b5) (feats s).length (Nat.le_refl _) f _ W6 [] (HF.out.near HN6.out) HOn.out HR6.out HI6.out (by omega) (by simpa using (show 3 ^ (feats s).length ≤ 600000000 by omega)))
  have hLl := inL_len (feats s) (feats s).length f
  have hLk : ∀ k, k < 3 ^ (feats s).length → (inL (feats s) (feats s).length f)[k]? = some (inK (feats s) (feats s).length f k) := fun k hk => by
    unfold inL
    rw [List.getElem?_map, List.getElem?_range hk]
    rfl
  have HLk := Lib.hid hLk
  have HPk := Lib.hid (fun k => pks_succ s f k)
  clear hn6 hi6 c0 c1 hLk
  obtain ⟨L, hL⟩ : ∃ L, inL (feats s) (feats s).length f = L := ⟨_, rfl⟩
  rw [hL] at HCu hLl HLk HPk
  have HPr := Lib.hid (fun (w' : World) (ao : Option Addr) (cap : Nat) (base : Nat) (hr : w'.ownsRow base 4 1 (.slice ao L.length cap) L.length (L.map bv)) (k : Nat) (hk : k < L.length) => prime_calls hr hk hV (by omega))
  have HKu := Lib.hid (fun (w' : World) (hr : RdV w' fo (feats s)) (k : Nat) (hk : k < 1000000000) => show Calls Try.prog 117 #[.slice fo (feats s).length fcap, .int .i64 k] w' (fun e w'' => e = .returned (.agg #[.int .u32 (cubK s k).on, .int .u32 (cubK s k).off]) ∧ Near w' w'') from cube_calls (feats_at_lt s) (by omega) hr hk)
  obtain ⟨P, hP⟩ : ∃ P, 3 ^ (feats s).length = P := ⟨_, rfl⟩
  rw [hP] at hp3 hLl HLk
  have HPP := Lib.hid hP
  clear hL hP
  go_upto_region 9 with (go_at_call 114; refine HCu.out.mono ?_; rintro e w7 ⟨rfl, hi7, hk7⟩; obtain ⟨ao7, cap7, hb7, ho7⟩ := hi7; simp only [List.nil_append] at hb7 ho7; have HB7 := Lib.hid hb7; have HO7 := Lib.hid ho7; have HK7 := Lib.hid hk7; have e0 := cell1 (o := 0) hb7 rfl; clear hb7 ho7 hk7)
  have HR7 := Lib.hid (HR6.out.kb HI6.out HK7.out)
  have h67 := HK7.out.size
  have NW7 := Lib.hid (HK7.out.near HN6.out (by omega) (by omega))
  clear d0 d1 HCu
  go_loopw [7, 29] (fun o i wr => ∃ k : Nat, k ≤ P ∧ i = .int .i64 k ∧ wr.ownsRow w7.heap.size 99 2 o (pks s f k).length (flatC ((pks s f k).map (cubK s))) ∧ Kept (fun b => w7.heap.size ≤ b) w7 wr) (fun _ i _ => P - (intOf i).toNat)
  case atStart => exact ⟨0, Nat.zero_le _, rfl, World.ownsRow_nil _ _ _ _, Kept.refl _ _⟩
  case round =>
    obtain ⟨k, hk, rfl, hown, hkp⟩ := hrel
    obtain ⟨oo, ocap, rfl⟩ := owns_form hown
    have HO := Lib.hid hown
    have HK := Lib.hid hkp
    have hsz := hkp.size
    have N7r := Lib.hid (show Near w7 wr from Kept.mono hkp (fun b hb h => by have h' : w7.heap.size ≤ b := h; omega))
    clear hown hkp
    by_cases hlt : k < P
    · have hlt' : (k : Int) < L.length := by omega
      have hlk := HLk.out k hlt
      have hpk := HPk.out k
      have hln : (pks s f k).length ≤ k := by unfold pks; exact Nat.le_trans (List.length_filter_le _ _) (by simp)
      obtain ⟨g7, cap7', ev, x0, -⟩ := row1 HO7.out (k := k) (u := bv (inK (feats s) (feats s).length f k)) (by rw [List.getElem?_map, hlk]; rfl) (by omega)
      cases ev
      have x1 : wr.cell? ⟨g7, k, none⟩ = some (.bool (inK (feats s) (feats s).length f k)) := N7r.out.cell x0
      have HPkk := Lib.hid hpk
      have HPr2 := Lib.hid (fun (w' : World) (hn : Near wr w') => HPr.out w' _ _ _ (owns_kept HO7.out (N7r.out.trans hn) (R := fun _ => False) (fun _ _ x => x)) k (by omega))
      have HKu2 := Lib.hid (fun (w' : World) (hn : Near wr w') => HKu.out w' (HR7.out.near (N7r.out.trans hn)) k (by omega))
      have hb6 := keepN N7r.out HB7.out
      have c0 : wr.cell? ⟨b5 + 1, 0, none⟩ = some (.slice (some ⟨g7, 0, none⟩) L.length cap7) := cell1 (o := 0) hb6 rfl
      rw [hLl] at HPr2 c0
      clear hlk x0 hpk hb6 e0
      generalize inK (feats s) (feats s).length f k = b1 at x1 HPkk
      generalize primeB L k (feats s).length = b2 at HPkk HPr2
      cases b1 with
      | false =>
        have hpk' : pks s f (k + 1) = pks s f k := by rw [HPkk.out]; simp
        have HP' := Lib.hid hpk'
        clear hpk'
        go_wp2_with fail
        refine ⟨⟨k + 1, by omega, by go_num, ?_, HK.out⟩, by simp [intOf]; omega⟩
        rw [HP'.out]
        exact HO.out
      | true =>
        cases b2 with
        | false =>
          have hpk' : pks s f (k + 1) = pks s f k := by rw [HPkk.out]; simp
          have HP' := Lib.hid hpk'
          clear hpk'
          go_wp2_with (go_at_call 116; refine (HPr2.out _ (by exact Near.refl _)).mono ?_; rintro e w2 ⟨rfl, n2⟩; have N2 := Lib.hid n2; have HO2 := Lib.hid (owns_kept HO.out n2 (R := fun _ => False) (fun _ _ x => x)); clear n2)
          refine ⟨⟨k + 1, by omega, by go_num, ?_, HK.out.trans N2.out.kept⟩, by simp [intOf]; omega⟩
          rw [HP'.out]
          exact HO2.out
        | true =>
          have hpk' : pks s f (k + 1) = pks s f k ++ [k] := by rw [HPkk.out]; simp
          have HP' := Lib.hid hpk'
          clear hpk'
          go_wp2_with (first
            | (go_at_call 116; refine (HPr2.out _ (by exact Near.refl _)).mono ?_; rintro e w2 ⟨rfl, n2⟩; have N2 := Lib.hid n2; have HO2 := Lib.hid (owns_kept HO.out n2 (R := fun _ => False) (fun _ _ x => x)); have hsz2 := n2.size'; clear n2)
            | (go_at_call 117; refine (HKu2.out _ (by exact N2.out)).mono ?_; rintro e w3 ⟨rfl, n3⟩; have N3 := Lib.hid (N2.out.trans n3); have HO3 := Lib.hid (owns_kept HO2.out n3 (R := fun _ => False) (fun _ _ x => x)); have hsz3 := n3.size'; clear n3)
            | (at_builtin; refine wpList_append_in rfl (.tmp 42) (.tmp 46) 95 rfl w7.heap.size 99 i0 (.agg #[.int .u32 0, .int .u32 0]) 2 8 Try.underlying95 hi0 hz0 hz1 hz2 rfl (by decide) _ _ _ rfl (by exact HO3.out.alloc _) ⟨w3.heap.size, 0, none⟩ 1 1 [.int .u32 (cubK s k).on, .int .u32 (cubK s k).off] rfl rfl (by exact cell_two_at rfl _ _ _) (by simp [Value.oneCell']) (by unfold maxLen; omega) (by omega) (by simp <;> omega) ?_; intro ao' cap' w4 hown4 hg4 hl4))
          refine ⟨⟨k + 1, by omega, by go_num, ?_, ((HK.out.trans N3.out.kept).alloc _).grown hg4 (ownsRow_base HO3.out)⟩, by simp [intOf]; omega⟩
          rw [HP'.out, List.length_append, List.map_append]
          have hfl : flatC ((pks s f k).map (cubK s) ++ [k].map (cubK s)) = flatC ((pks s f k).map (cubK s)) ++ [.int .u32 (cubK s k).on, .int .u32 (cubK s k).off] := by simp [flatC, encB]
          rw [hfl]
          exact hown4
    · have hkP : k = P := by omega
      have hlt' : ¬ (k : Int) < P := by omega
      subst hkP
      have hlen : ((pks s f k).map (cubK s)).length = (pks s f k).length := by simp
      have hle : (pks s f k).length ≤ k := by unfold pks; exact Nat.le_trans (List.length_filter_le _ _) (by simp)
      obtain ⟨l, hl⟩ : ∃ l, (pks s f k).map (cubK s) = l := ⟨_, rfl⟩
      obtain ⟨n, hn⟩ : ∃ n, (pks s f k).length = n := ⟨_, rfl⟩
      rw [hl, hn] at HO hlen
      rw [hn]
      have HS := Lib.hid (show ∀ w', w' = wr.alloc (.cells #[.func (.func 118) #[] #[]] 146) → Calls Try.prog 119 #[.slice oo n ocap, .func (.func 120) #[] #[.pointer (some ⟨wr.heap.size, 0, none⟩)]] w' fun e w'' => e = .returned (.tuple #[]) ∧ ∃ d' : Array Cub, d'.size = n ∧ d'.toList.Perm l ∧ SortedIn (ltOf cmpC) 0 n d' ∧ RdC w'' oo d'.toList ∧ Kept (fun b => w7.heap.size ≤ b) w' w'' from by
        rintro w' rfl
        refine sort_row hlen (HO.out.alloc _) (cell1 (o := 0) (heap_new_at rfl) rfl) ?_ (by omega)
        rintro g rfl
        rcases HO.out.2 with ⟨e, _⟩ | ⟨g', _, _, e, _, hg, _⟩
        · cases e
        · cases e
          have := (Array.getElem?_eq_some_iff.1 hg).1
          omega)
      have HL := Lib.hid hl
      have HN' := Lib.hid hn
      clear hl hn hle e0
      go_wp2_with (go_at_call 119; refine (HS.out _ rfl).mono ?_; rintro e w9 ⟨rfl, d', hd1, hd2, hd3, hd4, hd5⟩)
      subst hd1
      refine bodyPost_ret (v := .tuple #[.slice oo d'.size ocap, .int .i64 0]) (by simp [results, Try.results74, go_sem]) rfl ⟨oo, ocap, d', rfl, hd4, ?_, hd3, NW7.out.trans (Kept.mono ((HK.out.alloc _).trans hd5) (fun b hb h => by have h' : w7.heap.size ≤ b := h; omega))⟩
      rw [HPP.out, HL.out]
      exact hd2

end Go.Proofs.Ytefclohjeompkaa

/- The program's Primes, of too many features. -/
namespace Go.Proofs.Ytefclohjeompkaa
open Go Go.RowKit Go.Shelf Go.Sort Go.Proofs.Gen Go.Proofs.Bdd Go.Proofs.Bdd.T

set_option maxRecDepth 100000 in
set_option maxHeartbeats 3200000 in
theorem primes_many {w : World} {v : Value} {f : F} (h : IsF w v f) {s : Nat} (hs24 : s < 16777216) (hs : ∀ i, s.testBit i = dep f i) (hV : 12 < (feats s).length) :
    Calls Try.prog 74 #[v] w fun e w' => e = .returned (.tuple #[.slice none 0 0, .int .i64 5]) ∧ Near w w' := by
  have HF := Lib.hid h
  have HSup := Lib.hid (fun (w' : World) (hn : Near w w') => supp_at (HF.out.near hn) hs)
  obtain ⟨a1, a2, a3, a4, rfl⟩ := h.form
  have hN : Near w (w.alloc (.cells #[.slice a1 a2 a3, .int .i64 a4] 31)) := (Near.refl w).alloc _
  have hA : (w.alloc (.cells #[.slice a1 a2 a3, .int .i64 a4] 31)).heap[w.heap.size]? = some (.cells #[.slice a1 a2 a3, .int .i64 a4] 31 (0, 0)) := heap_new_at rfl
  have HN := Lib.hid hN
  have HA := Lib.hid hA
  have hv12 : ((12 : Int) < (feats s).length) := by omega
  clear h hs hN hA
  go_enter Try.func74, Try.ntmps74
  go_upto_region 1 with fail
  generalize (w.alloc (.cells #[.slice a1 a2 a3, .int .i64 a4] 31)) = W1 at HN HA ⊢
  obtain ⟨c0, c1⟩ : W1.cell? ⟨w.heap.size, 0, none⟩ = some (.slice a1 a2 a3) ∧ W1.cell? ⟨w.heap.size, 1, none⟩ = some (.int .i64 a4) := ⟨cell1 (o := 0) HA.out rfl, cell1 (o := 1) HA.out rfl⟩
  go_wp2_with (first
    | (go_at_call 111; refine (ones_calls hs24 _).mono ?_; rintro e w3 ⟨rfl, n3⟩; have HN3 := Lib.hid (HN2.out.trans n3); clear n3)
    | (go_at_call 44; refine (HSup.out _ HN.out).mono ?_; rintro e w2 ⟨rfl, n2⟩; have HN2 := Lib.hid (HN.out.trans n2); clear n2))
  exact bodyPost_ret (v := .tuple #[.slice none 0 0, .int .i64 5]) (by simp [results, Try.results74, go_sem]) rfl ⟨rfl, HN3.out⟩

end Go.Proofs.Ytefclohjeompkaa
