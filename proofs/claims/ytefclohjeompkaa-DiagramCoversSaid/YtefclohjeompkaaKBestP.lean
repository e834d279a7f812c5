/- The best configuration: the plain law. -/
import Derived.Test.YtefclohjeompkaaKRefP
namespace Go.Proofs.Ytefclohjeompkaa
open Go Go.RowKit Go.Proofs.Gen Go.Proofs.Bdd Go.Proofs.Bdd.T

/-- What the features from lo on cost. -/
def ws (w : Nat → Bool → Int) : Nat → Nat → (Nat → Bool) → Int
  | 0, _, _ => 0
  | k + 1, lo, c => w lo (c lo) + ws w k (lo + 1) c

theorem ws_congr {w : Nat → Bool → Int} : ∀ {k lo : Nat} {c d : Nat → Bool}, (∀ i, lo ≤ i → i < lo + k → c i = d i) → ws w k lo c = ws w k lo d
  | 0, _, _, _, _ => rfl
  | k + 1, lo, c, d, h => by
    simp only [ws]
    rw [h lo (Nat.le_refl _) (by omega), ws_congr (k := k) (lo := lo + 1) (c := c) (d := d) (fun i h1 h2 => h i (by omega) (by omega))]

/-- A choice. -/
structure Ch where
  lev : Nat
  cost : Int
  c : Nat
  is : Bool

def chStep (w : Nat → Bool → Int) (x : Ch) (i : Nat) (on : Bool) : Ch := ⟨i, x.cost + w i on, if on then x.c ||| 2 ^ i else x.c, x.is⟩
/-- k levels down. -/
def chDown (w : Nat → Bool → Int) (x : Ch) : Nat → Ch
  | 0 => x
  | k + 1 => chStep w (chDown w x k) (x.lev - (k + 1)) (decide (w (x.lev - (k + 1)) true < w (x.lev - (k + 1)) false))
/-- Is one pair less than another one? -/
def lexLt (a : Int) (c : Nat) (b : Int) (d : Nat) : Prop := a < b ∨ a = b ∧ c < d
instance (a : Int) (c : Nat) (b : Int) (d : Nat) : Decidable (lexLt a c b d) := by unfold lexLt; infer_instance
def chBetter (x y : Ch) : Ch := if x.is = false ∨ y.is = true ∧ lexLt y.cost y.c x.cost x.c then y else x

/-- The best choice of a tree's features. -/
def ch (w : Nat → Bool → Int) : T → Ch
  | .leaf b => ⟨24, 0, 0, b⟩
  | .node i l h => chBetter (chStep w (chDown w (ch w l) ((ch w l).lev - (i + 1))) i false) (chStep w (chDown w (ch w h) ((ch w h).lev - (i + 1))) i true)

/-- The best one of the features from lo on. -/
structure BestFrom (w : Nat → Bool → Int) (lo : Nat) (f : F) (x : Ch) : Prop where
  lev : x.lev = lo
  le : lo ≤ 24
  low : ∀ i, i < lo → x.c.testBit i = false
  lt : x.c < 2 ^ 24
  none : x.is = false → ∀ d, f d = false
  yes : x.is = true → f x.c.testBit = true
  cost : x.is = true → x.cost = ws w (24 - lo) lo x.c.testBit
  least : x.is = true → ∀ d : Nat, (∀ i, i < lo → d.testBit i = false) → d < 2 ^ 24 → f d.testBit = true → ¬ lexLt (ws w (24 - lo) lo d.testBit) d x.cost x.c

theorem low_mul {d lo : Nat} (h : ∀ i, i < lo → d.testBit i = false) : d = 2 ^ lo * (d / 2 ^ lo) := by
  have hm : d % 2 ^ lo = 0 := by
    apply Nat.eq_of_testBit_eq
    intro i
    rw [Nat.testBit_mod_two_pow, Nat.zero_testBit]
    by_cases hi : i < lo
    · simp [h i hi]
    · simp [hi]
  have := Nat.div_add_mod d (2 ^ lo)
  omega

/-- A configuration less its lowest feature. -/
theorem low_off {d lo : Nat} (h : ∀ i, i < lo → d.testBit i = false) : ∃ e : Nat, (∀ j, j < lo + 1 → e.testBit j = false) ∧ (∀ j, lo + 1 ≤ j → e.testBit j = d.testBit j) ∧ d = e + (d.testBit lo).toNat * 2 ^ lo ∧ e ≤ d := by
  have e0 := low_mul h
  have e1 : d / 2 ^ lo = 2 * (d / 2 ^ (lo + 1)) + (d.testBit lo).toNat := by
    rw [Nat.testBit_eq_decide_div_mod_eq, Nat.pow_succ, ← Nat.div_div_eq_div_mul]
    by_cases h1 : d / 2 ^ lo % 2 = 1
    · simp [h1]; omega
    · simp [h1]; omega
  have e2 : d = 2 ^ (lo + 1) * (d / 2 ^ (lo + 1)) + (d.testBit lo).toNat * 2 ^ lo := by
    have : 2 ^ (lo + 1) * (d / 2 ^ (lo + 1)) + (d.testBit lo).toNat * 2 ^ lo = 2 ^ lo * (2 * (d / 2 ^ (lo + 1)) + (d.testBit lo).toNat) := by
      rw [Nat.mul_add, Nat.pow_succ, Nat.mul_assoc, Nat.mul_comm (2 ^ lo) ((d.testBit lo).toNat)]
    rw [this, ← e1]
    exact e0
  refine ⟨2 ^ (lo + 1) * (d / 2 ^ (lo + 1)), fun j hj => ?_, fun j hj => ?_, e2, Nat.mul_div_le _ _⟩
  · rw [Nat.testBit_two_pow_mul]
    simp; omega
  · rw [Nat.testBit_two_pow_mul, Nat.testBit_div_two_pow]
    simp only [ge_iff_le, hj, decide_true, Bool.true_and]
    congr 1
    omega

theorem or_bit {c lo : Nat} (h : ∀ i, i < lo + 1 → c.testBit i = false) : c ||| 2 ^ lo = c + 2 ^ lo := by
  rw [low_mul h, Nat.two_pow_add_eq_or_of_lt (Nat.pow_lt_pow_right (by omega) (by omega))]

theorem or_bit_test (c lo j : Nat) : (c ||| 2 ^ lo).testBit j = (c.testBit j || decide (lo = j)) := by
  rw [Nat.testBit_or, Nat.testBit_two_pow]

/-- One feature more that does not matter. -/
theorem BestFrom.free {w : Nat → Bool → Int} {lo : Nat} {f : F} {x : Ch} (h : BestFrom w (lo + 1) f x) (hf : ∀ c b, f (upd c lo b) = f c) :
    BestFrom w lo f (chStep w x lo (decide (w lo true < w lo false))) := by
  have hle := h.le
  have e24 : 24 - lo = (24 - (lo + 1)) + 1 := by omega
  have hcost : ∀ on : Bool, x.is = true → x.cost + w lo on = ws w (24 - lo) lo (if on then x.c ||| 2 ^ lo else x.c).testBit := by
    intro on hi
    rw [e24]
    simp only [ws]
    rw [h.cost hi]
    have e1 : (if on then x.c ||| 2 ^ lo else x.c).testBit lo = on := by
      cases on
      · simp [h.low lo (by omega)]
      · simp
    rw [e1, Int.add_comm]
    congr 1
    refine ws_congr fun i h1 _ => ?_
    cases on
    · rfl
    · simp only [if_true]
      rw [or_bit_test]
      have : ¬ lo = i := by omega
      simp [this]
  have hfy : ∀ on : Bool, f (if on then x.c ||| 2 ^ lo else x.c).testBit = f x.c.testBit := by
    intro on
    cases on
    · rfl
    · simp only [if_true]
      rw [← hf x.c.testBit true]
      congr 1
      funext j
      rw [or_bit_test]
      unfold upd
      by_cases e : j = lo
      · simp [e]
      · have : ¬ lo = j := fun h => e h.symm
        simp [e, this]
  refine ⟨rfl, by omega, ?_, ?_, h.none, ?_, fun hi => hcost _ hi, ?_⟩
  · intro i hi
    show (if _ then x.c ||| 2 ^ lo else x.c).testBit i = false
    split
    · rw [or_bit_test, h.low i (by omega)]
      have : ¬ lo = i := by omega
      simp [this]
    · exact h.low i (by omega)
  · show (if _ then x.c ||| 2 ^ lo else x.c) < 2 ^ 24
    split
    · exact Nat.or_lt_two_pow h.lt (Nat.pow_lt_pow_right (by omega) (by omega))
    · exact h.lt
  · intro hi
    exact (hfy _).trans (h.yes hi)
  · intro hi d hd h24 hfd
    obtain ⟨e, he1, he2, he3, he4⟩ := low_off hd
    have hfe : f e.testBit = true := by
      rw [← hfd, ← hf d.testBit false]
      congr 1
      funext j
      unfold upd
      by_cases ej : j = lo
      · simp [ej, he1 lo (by omega)]
      · rw [if_neg ej]
        by_cases hj : j < lo
        · rw [hd j hj, he1 j (by omega)]
        · exact he2 j (by omega)
    have hl := h.least hi e (fun i hi => he1 i hi) (by omega) hfe
    have hw : ws w (24 - lo) lo d.testBit = w lo (d.testBit lo) + ws w (24 - (lo + 1)) (lo + 1) e.testBit := by
      rw [e24]
      simp only [ws]
      congr 1
      exact ws_congr fun i h1 _ => (he2 i h1).symm
    have hb := or_bit (c := x.c) (lo := lo) h.low
    show ¬ lexLt _ d (x.cost + w lo _) (if _ then x.c ||| 2 ^ lo else x.c)
    rw [hw]
    have hp := Nat.two_pow_pos lo
    by_cases ho : w lo true < w lo false
    · simp only [ho, decide_true, if_true]
      rw [hb]
      unfold lexLt at hl ⊢
      cases hdb : d.testBit lo with
      | true =>
        rw [hdb, Bool.toNat_true, Nat.one_mul] at he3
        omega
      | false => omega
    · simp only [ho, decide_false, Bool.false_eq_true, if_false]
      unfold lexLt at hl ⊢
      cases hdb : d.testBit lo with
      | true =>
        rw [hdb, Bool.toNat_true, Nat.one_mul] at he3
        omega
      | false =>
        rw [hdb, Bool.toNat_false, Nat.zero_mul] at he3
        omega

theorem BestFrom.down {w : Nat → Bool → Int} {f : F} {x : Ch} : ∀ {k lo : Nat}, BestFrom w (lo + k) f x → (∀ c i b, i < lo + k → f (upd c i b) = f c) → BestFrom w lo f (chDown w x k)
  | 0, lo, h, _ => h
  | k + 1, lo, h, hf => by
    have h1 : BestFrom w (lo + 1) f (chDown w x k) := BestFrom.down (k := k) (lo := lo + 1) (by rw [show lo + 1 + k = lo + (k + 1) from by omega]; exact h) (fun c i b hi => hf c i b (by omega))
    have e : x.lev - (k + 1) = lo := by rw [h.lev]; omega
    show BestFrom w lo f (chStep w (chDown w x k) (x.lev - (k + 1)) _)
    rw [e]
    exact h1.free fun c b => hf c lo b (by omega)

theorem BestFrom.join {w : Nat → Bool → Int} {i : Nat} {f g : F} {x y : Ch} (hx : BestFrom w (i + 1) f x) (hy : BestFrom w (i + 1) g y) (hf : ∀ c b, f (upd c i b) = f c) (hg : ∀ c b, g (upd c i b) = g c) :
    BestFrom w i (fun c => if c i then g c else f c) (chBetter (chStep w x i false) (chStep w y i true)) := by
  have hle := hx.le
  have e24 : 24 - i = (24 - (i + 1)) + 1 := by omega
  have hwx : x.is = true → x.cost + w i false = ws w (24 - i) i x.c.testBit := fun hi => by
    rw [e24]
    simp only [ws]
    rw [hx.cost hi, hx.low i (by omega), Int.add_comm]
  have hbi : ∀ j, (y.c ||| 2 ^ i).testBit j = upd y.c.testBit i true j := fun j => by
    rw [or_bit_test]
    unfold upd
    by_cases e : j = i
    · simp [e]
    · have : ¬ i = j := fun h => e h.symm
      simp [e, this]
  have hwy : y.is = true → y.cost + w i true = ws w (24 - i) i (y.c ||| 2 ^ i).testBit := fun hi => by
    rw [e24]
    simp only [ws]
    rw [hy.cost hi, hbi, upd_same, Int.add_comm]
    congr 1
    exact ws_congr fun j h1 _ => by rw [hbi, upd_other _ _ (by omega)]
  have hp := Nat.two_pow_pos i
  have hfx : (fun c : Nat → Bool => if c i then g c else f c) x.c.testBit = f x.c.testBit := by
    show (if x.c.testBit i then _ else _) = _
    rw [hx.low i (by omega)]
    rfl
  have hgy : (fun c : Nat → Bool => if c i then g c else f c) (y.c ||| 2 ^ i).testBit = g y.c.testBit := by
    show (if (y.c ||| 2 ^ i).testBit i then g (y.c ||| 2 ^ i).testBit else _) = _
    rw [hbi, upd_same, if_pos rfl, show (y.c ||| 2 ^ i).testBit = upd y.c.testBit i true from funext hbi, hg]
  -- what lies below, and with which children
  have low : ∀ d : Nat, (∀ j, j < i → d.testBit j = false) → d < 2 ^ 24 → (if d.testBit i then g d.testBit else f d.testBit) = true →
      ∃ e : Nat, (∀ j, j < i + 1 → e.testBit j = false) ∧ e < 2 ^ 24 ∧ ws w (24 - i) i d.testBit = w i (d.testBit i) + ws w (24 - (i + 1)) (i + 1) e.testBit ∧ d = e + (d.testBit i).toNat * 2 ^ i ∧ (if d.testBit i then g e.testBit else f e.testBit) = true := by
    intro d hd h24 hfd
    obtain ⟨e, he1, he2, he3, he4⟩ := low_off hd
    have hee : upd d.testBit i false = e.testBit := by
      funext j
      unfold upd
      by_cases ej : j = i
      · simp [ej, he1 i (by omega)]
      · rw [if_neg ej]
        by_cases hj : j < i
        · rw [hd j hj, he1 j (by omega)]
        · exact (he2 j (by omega)).symm
    refine ⟨e, he1, by omega, ?_, he3, ?_⟩
    · rw [e24]
      simp only [ws]
      congr 1
      exact ws_congr fun j h1 _ => (he2 j h1).symm
    · rw [← hee, hf, hg]
      exact hfd
  have hxl : x.c < 2 ^ 24 := hx.lt
  have hyl : y.c ||| 2 ^ i < 2 ^ 24 := Nat.or_lt_two_pow hy.lt (Nat.pow_lt_pow_right (by omega) (by omega))
  have hob := or_bit (c := y.c) (lo := i) hy.low
  have lx : ∀ j, j < i → x.c.testBit j = false := fun j hj => hx.low j (by omega)
  have ly : ∀ j, j < i → (y.c ||| 2 ^ i).testBit j = false := fun j hj => by rw [hbi, upd_other _ _ (by omega)]; exact hy.low j (by omega)
  unfold chBetter
  show BestFrom w i _ (if x.is = false ∨ y.is = true ∧ lexLt (y.cost + w i true) (y.c ||| 2 ^ i) (x.cost + w i false) x.c then ⟨i, y.cost + w i true, y.c ||| 2 ^ i, y.is⟩ else ⟨i, x.cost + w i false, x.c, x.is⟩)
  split
  · rename_i hc
    refine ⟨rfl, by omega, ly, hyl, ?_, fun hi => hgy.trans (hy.yes hi), hwy, ?_⟩
    · intro hi d
      show (if d i then g d else f d) = false
      have hi' : y.is = false := hi
      rw [hi'] at hc
      have hxf : x.is = false := by simpa using hc
      rw [hx.none hxf, hy.none hi']
      simp
    · intro hi d hd h24 hfd
      obtain ⟨e, he1, he2, he3, he4, he5⟩ := low d hd h24 hfd
      show ¬ lexLt _ d (y.cost + w i true) (y.c ||| 2 ^ i)
      rw [he3]
      cases hdb : d.testBit i with
      | true =>
        rw [hdb] at he4 he5
        have hl := hy.least hi e he1 he2 (by simpa using he5)
        rw [Bool.toNat_true, Nat.one_mul] at he4
        unfold lexLt at hl ⊢
        omega
      | false =>
        rw [hdb] at he4 he5
        have hfe : f e.testBit = true := by simpa using he5
        have hxi : x.is = true := by
          cases hxi : x.is with
          | true => rfl
          | false => rw [hx.none hxi] at hfe; cases hfe
        have hl := hx.least hxi e he1 he2 hfe
        rw [Bool.toNat_false, Nat.zero_mul] at he4
        rw [hxi] at hc
        have hc' : lexLt (y.cost + w i true) (y.c ||| 2 ^ i) (x.cost + w i false) x.c := by
          rcases hc with hc | hc
          · cases hc
          · exact hc.2
        unfold lexLt at hl hc' ⊢
        omega
  · rename_i hc
    rw [not_or] at hc
    have hxi : x.is = true := by simpa using hc.1
    refine ⟨rfl, by omega, lx, hxl, ?_, fun hi => hfx.trans (hx.yes hi), hwx, ?_⟩
    · intro hi
      have hi' : x.is = false := hi
      rw [hxi] at hi'
      cases hi'
    · intro hi d hd h24 hfd
      obtain ⟨e, he1, he2, he3, he4, he5⟩ := low d hd h24 hfd
      show ¬ lexLt _ d (x.cost + w i false) x.c
      rw [he3]
      cases hdb : d.testBit i with
      | true =>
        rw [hdb] at he4 he5
        have hge : g e.testBit = true := by simpa using he5
        have hyi : y.is = true := by
          cases hyi : y.is with
          | true => rfl
          | false => rw [hy.none hyi] at hge; cases hge
        have hl := hy.least hyi e he1 he2 hge
        rw [Bool.toNat_true, Nat.one_mul] at he4
        have hc' : ¬ lexLt (y.cost + w i true) (y.c ||| 2 ^ i) (x.cost + w i false) x.c := fun h => hc.2 ⟨hyi, h⟩
        unfold lexLt at hl hc' ⊢
        omega
      | false =>
        rw [hdb] at he4 he5
        have hl := hx.least hxi e he1 he2 (by simpa using he5)
        rw [Bool.toNat_false, Nat.zero_mul] at he4
        unfold lexLt at hl ⊢
        omega

/-- What a tree's best choice is. -/
theorem ch_best (w : Nat → Bool → Int) : ∀ t : T, t.Ok → BestFrom w t.lv t.ev (ch w t)
  | .leaf b, _ => by
    refine ⟨rfl, Nat.le_refl _, fun i _ => Nat.zero_testBit i, Nat.two_pow_pos 24, fun h d => h, fun h => h, fun _ => rfl, fun _ d hd h24 _ => ?_⟩
    have hd0 : d = 0 := by
      have h1 := low_mul (d := d) (lo := 24) hd
      have h2 : d / 2 ^ 24 = 0 := Nat.div_eq_of_lt h24
      rw [h2] at h1
      simpa using h1
    subst hd0
    show ¬ lexLt 0 0 0 0
    unfold lexLt
    omega
  | .node i l h, ok => by
    have bl := ch_best w l ok.2.2.2.2.1
    have bh := ch_best w h ok.2.2.2.2.2
    have h1 := ok.2.1
    have h2 := ok.2.2.1
    have up : ∀ (s : T), s.Ok → ∀ c j b, j < s.lv → s.ev (upd c j b) = s.ev c := fun s os c j b hj => ev_upd s os hj
    have el : i + 1 + (l.lv - (i + 1)) = l.lv := by omega
    have eh : i + 1 + (h.lv - (i + 1)) = h.lv := by omega
    have dl : BestFrom w (i + 1) l.ev (chDown w (ch w l) (l.lv - (i + 1))) := BestFrom.down (k := l.lv - (i + 1)) (lo := i + 1) (by rw [el]; exact bl) (fun c j b hj => up l ok.2.2.2.2.1 c j b (by omega))
    have dh : BestFrom w (i + 1) h.ev (chDown w (ch w h) (h.lv - (i + 1))) := BestFrom.down (k := h.lv - (i + 1)) (lo := i + 1) (by rw [eh]; exact bh) (fun c j b hj => up h ok.2.2.2.2.2 c j b (by omega))
    have := BestFrom.join dl dh (fun c b => up l ok.2.2.2.2.1 c i b h1) (fun c b => up h ok.2.2.2.2.2 c i b h2)
    show BestFrom w i (fun c => if c i then h.ev c else l.ev c) (chBetter (chStep w (chDown w (ch w l) ((ch w l).lev - (i + 1))) i false) (chStep w (chDown w (ch w h) ((ch w h).lev - (i + 1))) i true))
    rw [bl.lev, bh.lev]
    exact this

/-- THE BEST CONFIGURATION. -/
structure IsBest (w : Nat → Bool → Int) (f : F) (x : Int) (c : Nat) : Prop where
  lt : c < 2 ^ 24
  yes : f c.testBit = true
  cost : x = ws w 24 0 c.testBit
  least : ∀ d : Nat, d < 2 ^ 24 → f d.testBit = true → ¬ lexLt (ws w 24 0 d.testBit) d x c

theorem IsBest.one {w : Nat → Bool → Int} {f : F} {x y : Int} {c d : Nat} (h : IsBest w f x c) (k : IsBest w f y d) : x = y ∧ c = d := by
  have h1 := h.least d k.lt k.yes
  have h2 := k.least c h.lt h.yes
  rw [← k.cost] at h1
  rw [← h.cost] at h2
  unfold lexLt at h1 h2
  omega

theorem ch_all (w : Nat → Bool → Int) {t : T} (ok : t.Ok) : (ch w t).is = !nowhere t.ev ∧ ((ch w t).is = true → IsBest w t.ev (chDown w (ch w t) (ch w t).lev).cost (chDown w (ch w t) (ch w t).lev).c) := by
  have b := ch_best w t ok
  have d : BestFrom w 0 t.ev (chDown w (ch w t) t.lv) := BestFrom.down (k := t.lv) (lo := 0) (by rw [Nat.zero_add]; exact b) (fun c j b hj => ev_upd t ok (by omega))
  have his : ∀ k, (chDown w (ch w t) k).is = (ch w t).is := by
    intro k
    induction k with
    | zero => rfl
    | succ k ih => exact ih
  constructor
  · cases hi : (ch w t).is with
    | false => rw [nowhere_iff.2 (b.none hi)]; rfl
    | true =>
      cases hn : nowhere t.ev with
      | false => rfl
      | true =>
        have := nowhere_iff.1 hn (ch w t).c.testBit
        rw [b.yes hi] at this
        cases this
  · intro hi
    rw [b.lev]
    have hi' : (chDown w (ch w t) t.lv).is = true := by rw [his]; exact hi
    exact ⟨d.lt, d.yes hi', d.cost hi', fun e he hf => d.least hi' e (fun i hi => by omega) he hf⟩

end Go.Proofs.Ytefclohjeompkaa
