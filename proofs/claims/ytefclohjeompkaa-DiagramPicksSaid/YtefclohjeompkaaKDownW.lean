/- Parts of a proof: BestP, StepW, DownW. -/
import Derived.Test.YtefclohjeompkaaKRefP
import Derived.Test.YtefclohjeompkaaKRefJ
import Derived.Test.YtefclohjeompkaaKSaidB
/- The best configuration: the plain law. -/
namespace Go.Proofs.Ytefclohjeompkaa
open Go Go.RowKit Go.Proofs.Gen Go.Proofs.Bdd Go.Proofs.Bdd.T

/-- What the features from lo on cost. -/
def ws (w : Nat → Bool → Int) : Nat → Nat → (Nat → Bool) → Int
  | 0, _, _ => 0
  | k + 1, lo, c => w lo (c lo) + ws w k (lo + 1) c

theorem ws_congr {w : Nat → Bool → Int} : ∀ {k lo : Nat} {c d : Nat → Bool}, (∀ i, lo ≤ i → i < lo + k → c i = d i) → ws w k lo c = ws w k lo d
  | 0, _, _, _, _ => rfl
  | k + 1, lo, c, d, h => by
    simp only [ws]
    rw [h lo (Nat.le_refl _) (by omega), ws_congr (k := k) (lo := lo + 1) (c := c) (d := d) (fun i h1 h2 => h i (by omega) (by omega))]

/-- A choice. -/
structure Ch where
  lev : Nat
  cost : Int
  c : Nat
  is : Bool

def chStep (w : Nat → Bool → Int) (x : Ch) (i : Nat) (on : Bool) : Ch := ⟨i, x.cost + w i on, if on then x.c ||| 2 ^ i else x.c, x.is⟩
/-- k levels down. -/
def chDown (w : Nat → Bool → Int) (x : Ch) : Nat → Ch
  | 0 => x
  | k + 1 => chStep w (chDown w x k) (x.lev - (k + 1)) (decide (w (x.lev - (k + 1)) true < w (x.lev - (k + 1)) false))
/-- Is one pair less than another one? -/
def lexLt (a : Int) (c : Nat) (b : Int) (d : Nat) : Prop := a < b ∨ a = b ∧ c < d
instance (a : Int) (c : Nat) (b : Int) (d : Nat) : Decidable (lexLt a c b d) := by unfold lexLt; infer_instance
def chBetter (x y : Ch) : Ch := if x.is = false ∨ y.is = true ∧ lexLt y.cost y.c x.cost x.c then y else x

/-- The best choice of a tree's features. -/
def ch (w : Nat → Bool → Int) : T → Ch
  | .leaf b => ⟨24, 0, 0, b⟩
  | .node i l h => chBetter (chStep w (chDown w (ch w l) ((ch w l).lev - (i + 1))) i false) (chStep w (chDown w (ch w h) ((ch w h).lev - (i + 1))) i true)

/-- The best one of the features from lo on. -/
structure BestFrom (w : Nat → Bool → Int) (lo : Nat) (f : F) (x : Ch) : Prop where
  lev : x.lev = lo
  le : lo ≤ 24
  low : ∀ i, i < lo → x.c.testBit i = false
  lt : x.c < 2 ^ 24
  none : x.is = false → ∀ d, f d = false
  yes : x.is = true → f x.c.testBit = true
  cost : x.is = true → x.cost = ws w (24 - lo) lo x.c.testBit
  least : x.is = true → ∀ d : Nat, (∀ i, i < lo → d.testBit i = false) → d < 2 ^ 24 → f d.testBit = true → ¬ lexLt (ws w (24 - lo) lo d.testBit) d x.cost x.c

theorem low_mul {d lo : Nat} (h : ∀ i, i < lo → d.testBit i = false) : d = 2 ^ lo * (d / 2 ^ lo) := by
  have hm : d % 2 ^ lo = 0 := by
    apply Nat.eq_of_testBit_eq
    intro i
    rw [Nat.testBit_mod_two_pow, Nat.zero_testBit]
    by_cases hi : i < lo
    · simp [h i hi]
    · simp [hi]
  have := Nat.div_add_mod d (2 ^ lo)
  omega

/-- A configuration less its lowest feature. -/
theorem low_off {d lo : Nat} (h : ∀ i, i < lo → d.testBit i = false) : ∃ e : Nat, (∀ j, j < lo + 1 → e.testBit j = false) ∧ (∀ j, lo + 1 ≤ j → e.testBit j = d.testBit j) ∧ d = e + (d.testBit lo).toNat * 2 ^ lo ∧ e ≤ d := by
  have e0 := low_mul h
  have e1 : d / 2 ^ lo = 2 * (d / 2 ^ (lo + 1)) + (d.testBit lo).toNat := by
    rw [Nat.testBit_eq_decide_div_mod_eq, Nat.pow_succ, ← Nat.div_div_eq_div_mul]
    by_cases h1 : d / 2 ^ lo % 2 = 1
    · simp [h1]; omega
    · simp [h1]; omega
  have e2 : d = 2 ^ (lo + 1) * (d / 2 ^ (lo + 1)) + (d.testBit lo).toNat * 2 ^ lo := by
    have : 2 ^ (lo + 1) * (d / 2 ^ (lo + 1)) + (d.testBit lo).toNat * 2 ^ lo = 2 ^ lo * (2 * (d / 2 ^ (lo + 1)) + (d.testBit lo).toNat) := by
      rw [Nat.mul_add, Nat.pow_succ, Nat.mul_assoc, Nat.mul_comm (2 ^ lo) ((d.testBit lo).toNat)]
    rw [this, ← e1]
    exact e0
  refine ⟨2 ^ (lo + 1) * (d / 2 ^ (lo + 1)), fun j hj => ?_, fun j hj => ?_, e2, Nat.mul_div_le _ _⟩
  · rw [Nat.testBit_two_pow_mul]
    simp; omega
  · rw [Nat.testBit_two_pow_mul, Nat.testBit_div_two_pow]
    simp only [ge_iff_le, hj, decide_true, Bool.true_and]
    congr 1
    omega

theorem or_bit {c lo : Nat} (h : ∀ i, i < lo + 1 → c.testBit i = false) : c ||| 2 ^ lo = c + 2 ^ lo := by
  rw [low_mul h, Nat.two_pow_add_eq_or_of_lt (Nat.pow_lt_pow_right (by omega) (by omega))]

theorem or_bit_test (c lo j : Nat) : (c ||| 2 ^ lo).testBit j = (c.testBit j || decide (lo = j)) := by
  rw [Nat.testBit_or, Nat.testBit_two_pow]

/-- One feature more that does not matter. -/
theorem BestFrom.free {w : Nat → Bool → Int} {lo : Nat} {f : F} {x : Ch} (h : BestFrom w (lo + 1) f x) (hf : ∀ c b, f (upd c lo b) = f c) :
    BestFrom w lo f (chStep w x lo (decide (w lo true < w lo false))) := by
  have hle := h.le
  have e24 : 24 - lo = (24 - (lo + 1)) + 1 := by omega
  have hcost : ∀ on : Bool, x.is = true → x.cost + w lo on = ws w (24 - lo) lo (if on then x.c ||| 2 ^ lo else x.c).testBit := by
    intro on hi
    rw [e24]
    simp only [ws]
    rw [h.cost hi]
    have e1 : (if on then x.c ||| 2 ^ lo else x.c).testBit lo = on := by
      cases on
      · simp [h.low lo (by omega)]
      · simp
    rw [e1, Int.add_comm]
    congr 1
    refine ws_congr fun i h1 _ => ?_
    cases on
    · rfl
    · simp only [if_true]
      rw [or_bit_test]
      have : ¬ lo = i := by omega
      simp [this]
  have hfy : ∀ on : Bool, f (if on then x.c ||| 2 ^ lo else x.c).testBit = f x.c.testBit := by
    intro on
    cases on
    · rfl
    · simp only [if_true]
      rw [← hf x.c.testBit true]
      congr 1
      funext j
      rw [or_bit_test]
      unfold upd
      by_cases e : j = lo
      · simp [e]
      · have : ¬ lo = j := fun h => e h.symm
        simp [e, this]
  refine ⟨rfl, by omega, ?_, ?_, h.none, ?_, fun hi => hcost _ hi, ?_⟩
  · intro i hi
    show (if _ then x.c ||| 2 ^ lo else x.c).testBit i = false
    split
    · rw [or_bit_test, h.low i (by omega)]
      have : ¬ lo = i := by omega
      simp [this]
    · exact h.low i (by omega)
  · show (if _ then x.c ||| 2 ^ lo else x.c) < 2 ^ 24
    split
    · exact Nat.or_lt_two_pow h.lt (Nat.pow_lt_pow_right (by omega) (by omega))
    · exact h.lt
  · intro hi
    exact (hfy _).trans (h.yes hi)
  · intro hi d hd h24 hfd
    obtain ⟨e, he1, he2, he3, he4⟩ := low_off hd
    have hfe : f e.testBit = true := by
      rw [← hfd, ← hf d.testBit false]
      congr 1
      funext j
      unfold upd
      by_cases ej : j = lo
      · simp [ej, he1 lo (by omega)]
      · rw [if_neg ej]
        by_cases hj : j < lo
        · rw [hd j hj, he1 j (by omega)]
        · exact he2 j (by omega)
    have hl := h.least hi e (fun i hi => he1 i hi) (by omega) hfe
    have hw : ws w (24 - lo) lo d.testBit = w lo (d.testBit lo) + ws w (24 - (lo + 1)) (lo + 1) e.testBit := by
      rw [e24]
      simp only [ws]
      congr 1
      exact ws_congr fun i h1 _ => (he2 i h1).symm
    have hb := or_bit (c := x.c) (lo := lo) h.low
    show ¬ lexLt _ d (x.cost + w lo _) (if _ then x.c ||| 2 ^ lo else x.c)
    rw [hw]
    have hp := Nat.two_pow_pos lo
    by_cases ho : w lo true < w lo false
    · simp only [ho, decide_true, if_true]
      rw [hb]
      unfold lexLt at hl ⊢
      cases hdb : d.testBit lo with
      | true =>
        rw [hdb, Bool.toNat_true, Nat.one_mul] at he3
        omega
      | false => omega
    · simp only [ho, decide_false, Bool.false_eq_true, if_false]
      unfold lexLt at hl ⊢
      cases hdb : d.testBit lo with
      | true =>
        rw [hdb, Bool.toNat_true, Nat.one_mul] at he3
        omega
      | false =>
        rw [hdb, Bool.toNat_false, Nat.zero_mul] at he3
        omega

theorem BestFrom.down {w : Nat → Bool → Int} {f : F} {x : Ch} : ∀ {k lo : Nat}, BestFrom w (lo + k) f x → (∀ c i b, i < lo + k → f (upd c i b) = f c) → BestFrom w lo f (chDown w x k)
  | 0, lo, h, _ => h
  | k + 1, lo, h, hf => by
    have h1 : BestFrom w (lo + 1) f (chDown w x k) := BestFrom.down (k := k) (lo := lo + 1) (by rw [show lo + 1 + k = lo + (k + 1) from by omega]; exact h) (fun c i b hi => hf c i b (by omega))
    have e : x.lev - (k + 1) = lo := by rw [h.lev]; omega
    show BestFrom w lo f (chStep w (chDown w x k) (x.lev - (k + 1)) _)
    rw [e]
    exact h1.free fun c b => hf c lo b (by omega)

theorem BestFrom.join {w : Nat → Bool → Int} {i : Nat} {f g : F} {x y : Ch} (hx : BestFrom w (i + 1) f x) (hy : BestFrom w (i + 1) g y) (hf : ∀ c b, f (upd c i b) = f c) (hg : ∀ c b, g (upd c i b) = g c) :
    BestFrom w i (fun c => if c i then g c else f c) (chBetter (chStep w x i false) (chStep w y i true)) := by
  have hle := hx.le
  have e24 : 24 - i = (24 - (i + 1)) + 1 := by omega
  have hwx : x.is = true → x.cost + w i false = ws w (24 - i) i x.c.testBit := fun hi => by
    rw [e24]
    simp only [ws]
    rw [hx.cost hi, hx.low i (by omega), Int.add_comm]
  have hbi : ∀ j, (y.c ||| 2 ^ i).testBit j = upd y.c.testBit i true j := fun j => by
    rw [or_bit_test]
    unfold upd
    by_cases e : j = i
    · simp [e]
    · have : ¬ i = j := fun h => e h.symm
      simp [e, this]
  have hwy : y.is = true → y.cost + w i true = ws w (24 - i) i (y.c ||| 2 ^ i).testBit := fun hi => by
    rw [e24]
    simp only [ws]
    rw [hy.cost hi, hbi, upd_same, Int.add_comm]
    congr 1
    exact ws_congr fun j h1 _ => by rw [hbi, upd_other _ _ (by omega)]
  have hp := Nat.two_pow_pos i
  have hfx : (fun c : Nat → Bool => if c i then g c else f c) x.c.testBit = f x.c.testBit := by
    show (if x.c.testBit i then _ else _) = _
    rw [hx.low i (by omega)]
    rfl
  have hgy : (fun c : Nat → Bool => if c i then g c else f c) (y.c ||| 2 ^ i).testBit = g y.c.testBit := by
    show (if (y.c ||| 2 ^ i).testBit i then g (y.c ||| 2 ^ i).testBit else _) = _
    rw [hbi, upd_same, if_pos rfl, show (y.c ||| 2 ^ i).testBit = upd y.c.testBit i true from funext hbi, hg]
  -- what lies below, and with which children
  have low : ∀ d : Nat, (∀ j, j < i → d.testBit j = false) → d < 2 ^ 24 → (if d.testBit i then g d.testBit else f d.testBit) = true →
      ∃ e : Nat, (∀ j, j < i + 1 → e.testBit j = false) ∧ e < 2 ^ 24 ∧ ws w (24 - i) i d.testBit = w i (d.testBit i) + ws w (24 - (i + 1)) (i + 1) e.testBit ∧ d = e + (d.testBit i).toNat * 2 ^ i ∧ (if d.testBit i then g e.testBit else f e.testBit) = true := by
    intro d hd h24 hfd
    obtain ⟨e, he1, he2, he3, he4⟩ := low_off hd
    have hee : upd d.testBit i false = e.testBit := by
      funext j
      unfold upd
      by_cases ej : j = i
      · simp [ej, he1 i (by omega)]
      · rw [if_neg ej]
        by_cases hj : j < i
        · rw [hd j hj, he1 j (by omega)]
        · exact (he2 j (by omega)).symm
    refine ⟨e, he1, by omega, ?_, he3, ?_⟩
    · rw [e24]
      simp only [ws]
      congr 1
      exact ws_congr fun j h1 _ => (he2 j h1).symm
    · rw [← hee, hf, hg]
      exact hfd
  have hxl : x.c < 2 ^ 24 := hx.lt
  have hyl : y.c ||| 2 ^ i < 2 ^ 24 := Nat.or_lt_two_pow hy.lt (Nat.pow_lt_pow_right (by omega) (by omega))
  have hob := or_bit (c := y.c) (lo := i) hy.low
  have lx : ∀ j, j < i → x.c.testBit j = false := fun j hj => hx.low j (by omega)
  have ly : ∀ j, j < i → (y.c ||| 2 ^ i).testBit j = false := fun j hj => by rw [hbi, upd_other _ _ (by omega)]; exact hy.low j (by omega)
  unfold chBetter
  show BestFrom w i _ (if x.is = false ∨ y.is = true ∧ lexLt (y.cost + w i true) (y.c ||| 2 ^ i) (x.cost + w i false) x.c then ⟨i, y.cost + w i true, y.c ||| 2 ^ i, y.is⟩ else ⟨i, x.cost + w i false, x.c, x.is⟩)
  split
  · rename_i hc
    refine ⟨rfl, by omega, ly, hyl, ?_, fun hi => hgy.trans (hy.yes hi), hwy, ?_⟩
    · intro hi d
      show (if d i then g d else f d) = false
      have hi' : y.is = false := hi
      rw [hi'] at hc
      have hxf : x.is = false := by simpa using hc
      rw [hx.none hxf, hy.none hi']
      simp
    · intro hi d hd h24 hfd
      obtain ⟨e, he1, he2, he3, he4, he5⟩ := low d hd h24 hfd
      show ¬ lexLt _ d (y.cost + w i true) (y.c ||| 2 ^ i)
      rw [he3]
      cases hdb : d.testBit i with
      | true =>
        rw [hdb] at he4 he5
        have hl := hy.least hi e he1 he2 (by simpa using he5)
        rw [Bool.toNat_true, Nat.one_mul] at he4
        unfold lexLt at hl ⊢
        omega
      | false =>
        rw [hdb] at he4 he5
        have hfe : f e.testBit = true := by simpa using he5
        have hxi : x.is = true := by
          cases hxi : x.is with
          | true => rfl
          | false => rw [hx.none hxi] at hfe; cases hfe
        have hl := hx.least hxi e he1 he2 hfe
        rw [Bool.toNat_false, Nat.zero_mul] at he4
        rw [hxi] at hc
        have hc' : lexLt (y.cost + w i true) (y.c ||| 2 ^ i) (x.cost + w i false) x.c := by
          rcases hc with hc | hc
          · cases hc
          · exact hc.2
        unfold lexLt at hl hc' ⊢
        omega
  · rename_i hc
    rw [not_or] at hc
    have hxi : x.is = true := by simpa using hc.1
    refine ⟨rfl, by omega, lx, hxl, ?_, fun hi => hfx.trans (hx.yes hi), hwx, ?_⟩
    · intro hi
      have hi' : x.is = false := hi
      rw [hxi] at hi'
      cases hi'
    · intro hi d hd h24 hfd
      obtain ⟨e, he1, he2, he3, he4, he5⟩ := low d hd h24 hfd
      show ¬ lexLt _ d (x.cost + w i false) x.c
      rw [he3]
      cases hdb : d.testBit i with
      | true =>
        rw [hdb] at he4 he5
        have hge : g e.testBit = true := by simpa using he5
        have hyi : y.is = true := by
          cases hyi : y.is with
          | true => rfl
          | false => rw [hy.none hyi] at hge; cases hge
        have hl := hy.least hyi e he1 he2 hge
        rw [Bool.toNat_true, Nat.one_mul] at he4
        have hc' : ¬ lexLt (y.cost + w i true) (y.c ||| 2 ^ i) (x.cost + w i false) x.c := fun h => hc.2 ⟨hyi, h⟩
        unfold lexLt at hl hc' ⊢
        omega
      | false =>
        rw [hdb] at he4 he5
        have hl := hx.least hxi e he1 he2 (by simpa using he5)
        rw [Bool.toNat_false, Nat.zero_mul] at he4
        unfold lexLt at hl ⊢
        omega

/-- What a tree's best choice is. -/
theorem ch_best (w : Nat → Bool → Int) : ∀ t : T, t.Ok → BestFrom w t.lv t.ev (ch w t)
  | .leaf b, _ => by
    refine ⟨rfl, Nat.le_refl _, fun i _ => Nat.zero_testBit i, Nat.two_pow_pos 24, fun h d => h, fun h => h, fun _ => rfl, fun _ d hd h24 _ => ?_⟩
    have hd0 : d = 0 := by
      have h1 := low_mul (d := d) (lo := 24) hd
      have h2 : d / 2 ^ 24 = 0 := Nat.div_eq_of_lt h24
      rw [h2] at h1
      simpa using h1
    subst hd0
    show ¬ lexLt 0 0 0 0
    unfold lexLt
    omega
  | .node i l h, ok => by
    have bl := ch_best w l ok.2.2.2.2.1
    have bh := ch_best w h ok.2.2.2.2.2
    have h1 := ok.2.1
    have h2 := ok.2.2.1
    have up : ∀ (s : T), s.Ok → ∀ c j b, j < s.lv → s.ev (upd c j b) = s.ev c := fun s os c j b hj => ev_upd s os hj
    have el : i + 1 + (l.lv - (i + 1)) = l.lv := by omega
    have eh : i + 1 + (h.lv - (i + 1)) = h.lv := by omega
    have dl : BestFrom w (i + 1) l.ev (chDown w (ch w l) (l.lv - (i + 1))) := BestFrom.down (k := l.lv - (i + 1)) (lo := i + 1) (by rw [el]; exact bl) (fun c j b hj => up l ok.2.2.2.2.1 c j b (by omega))
    have dh : BestFrom w (i + 1) h.ev (chDown w (ch w h) (h.lv - (i + 1))) := BestFrom.down (k := h.lv - (i + 1)) (lo := i + 1) (by rw [eh]; exact bh) (fun c j b hj => up h ok.2.2.2.2.2 c j b (by omega))
    have := BestFrom.join dl dh (fun c b => up l ok.2.2.2.2.1 c i b h1) (fun c b => up h ok.2.2.2.2.2 c i b h2)
    show BestFrom w i (fun c => if c i then h.ev c else l.ev c) (chBetter (chStep w (chDown w (ch w l) ((ch w l).lev - (i + 1))) i false) (chStep w (chDown w (ch w h) ((ch w h).lev - (i + 1))) i true))
    rw [bl.lev, bh.lev]
    exact this

/-- THE BEST CONFIGURATION. -/
structure IsBest (w : Nat → Bool → Int) (f : F) (x : Int) (c : Nat) : Prop where
  lt : c < 2 ^ 24
  yes : f c.testBit = true
  cost : x = ws w 24 0 c.testBit
  least : ∀ d : Nat, d < 2 ^ 24 → f d.testBit = true → ¬ lexLt (ws w 24 0 d.testBit) d x c

theorem IsBest.one {w : Nat → Bool → Int} {f : F} {x y : Int} {c d : Nat} (h : IsBest w f x c) (k : IsBest w f y d) : x = y ∧ c = d := by
  have h1 := h.least d k.lt k.yes
  have h2 := k.least c h.lt h.yes
  rw [← k.cost] at h1
  rw [← h.cost] at h2
  unfold lexLt at h1 h2
  omega

theorem ch_all (w : Nat → Bool → Int) {t : T} (ok : t.Ok) : (ch w t).is = !nowhere t.ev ∧ ((ch w t).is = true → IsBest w t.ev (chDown w (ch w t) (ch w t).lev).cost (chDown w (ch w t) (ch w t).lev).c) := by
  have b := ch_best w t ok
  have d : BestFrom w 0 t.ev (chDown w (ch w t) t.lv) := BestFrom.down (k := t.lv) (lo := 0) (by rw [Nat.zero_add]; exact b) (fun c j b hj => ev_upd t ok (by omega))
  have his : ∀ k, (chDown w (ch w t) k).is = (ch w t).is := by
    intro k
    induction k with
    | zero => rfl
    | succ k ih => exact ih
  constructor
  · cases hi : (ch w t).is with
    | false => rw [nowhere_iff.2 (b.none hi)]; rfl
    | true =>
      cases hn : nowhere t.ev with
      | false => rfl
      | true =>
        have := nowhere_iff.1 hn (ch w t).c.testBit
        rw [b.yes hi] at this
        cases this
  · intro hi
    rw [b.lev]
    have hi' : (chDown w (ch w t) t.lv).is = true := by rw [his]; exact hi
    exact ⟨d.lt, d.yes hi', d.cost hi', fun e he hf => d.least hi' e (fun i hi => by omega) he hf⟩

end Go.Proofs.Ytefclohjeompkaa

/- The weights: step. -/
namespace Go.Proofs.Ytefclohjeompkaa
open Go Go.RowKit Go.Proofs.Gen Go.Proofs.Bdd Go.Proofs.Bdd.T

/-- A choice as a value; its cells. -/
def chC (x : Ch) : Array Value := #[.int .i64 x.lev, .int .i64 x.cost, .int .u32 x.c, .bool x.is]
def chV (x : Ch) : Value := .agg #[.int .i64 x.lev, .int .i64 x.cost, .int .u32 x.c, .bool x.is]

/-- Weights in a block. -/
def IsWt (w : World) (wb : Nat) (W : Nat → Bool → Int) : Prop :=
  ∃ cs, w.heap[wb]? = some (.cells cs 135 (0, 0)) ∧ ∀ i, i < 24 → cs[i * 2]? = some (.int .i64 (W i false)) ∧ cs[i * 2 + 1]? = some (.int .i64 (W i true))

theorem IsWt.near {w w' : World} {wb : Nat} {W : Nat → Bool → Int} (h : IsWt w wb W) (hn : Near w w') : IsWt w' wb W := let ⟨cs, h1, h2⟩ := h; ⟨cs, keepN hn h1, h2⟩
theorem IsWt.cells {w : World} {wb : Nat} {W : Nat → Bool → Int} (h : IsWt w wb W) {i : Nat} (hi : i < 24) : w.cell? ⟨wb, i * 2, none⟩ = some (.int .i64 (W i false)) ∧ w.cell? ⟨wb, i * 2 + 1, none⟩ = some (.int .i64 (W i true)) := by
  obtain ⟨cs, h1, h2⟩ := h
  exact ⟨cell1 h1 (h2 i hi).1, cell1 h1 (h2 i hi).2⟩

/-- Weights that do not run over. -/
def WtOk (W : Nat → Bool → Int) : Prop := ∀ i b, -2147483648 ≤ W i b ∧ W i b ≤ 2147483648
/-- A choice that is no too large number. -/
def ChOk (x : Ch) : Prop := x.lev ≤ 24 ∧ -(2147483648 * ((24 - x.lev : Nat) : Int)) ≤ x.cost ∧ x.cost ≤ 2147483648 * ((24 - x.lev : Nat) : Int) ∧ x.c < 16777216

theorem ChOk.step {W : Nat → Bool → Int} (hW : WtOk W) {x : Ch} (h : ChOk x) {i : Nat} (hi : i < x.lev) (on : Bool) : ChOk (chStep W x i on) := by
  obtain ⟨h1, h2, h3, h4⟩ := h
  have hw := hW i on
  refine ⟨by show i ≤ 24; omega, ?_, ?_, ?_⟩
  · show -(2147483648 * ((24 - i : Nat) : Int)) ≤ x.cost + W i on
    omega
  · show x.cost + W i on ≤ 2147483648 * ((24 - i : Nat) : Int)
    omega
  · show (if on = true then x.c ||| 2 ^ i else x.c) < 16777216
    split
    · have e : (16777216 : Nat) = 2 ^ 24 := by decide
      rw [e] at h4 ⊢
      exact Nat.or_lt_two_pow h4 (Nat.pow_lt_pow_right (by omega) (by omega))
    · exact h4

theorem ChOk.down {W : Nat → Bool → Int} (hW : WtOk W) {x : Ch} (h : ChOk x) : ∀ {k : Nat}, k ≤ x.lev → ChOk (chDown W x k) ∧ (chDown W x k).lev = x.lev - k
  | 0, _ => ⟨h, rfl⟩
  | k + 1, hk => by
    have ih := h.down hW (k := k) (by omega)
    exact ⟨ih.1.step hW (by rw [ih.2]; omega) _, rfl⟩

theorem filled4 {w : World} {b : Nat} {p q r t : Value} {e : TypeId} (h : w.heap[b]? = some (.cells #[p, q, r, t] e (0, 0))) (x0 x1 x2 x3 : Value) :
    ((((w.setCell ⟨b, 0, none⟩ x0).setCell ⟨b, 1, none⟩ x1).setCell ⟨b, 2, none⟩ x2).setCell ⟨b, 3, none⟩ x3).heap[b]? = some (.cells #[x0, x1, x2, x3] e (0, 0)) := by
  have := setCell_heap (setCell_heap (setCell_heap (setCell_heap h 0 x0) 1 x1) 2 x2) 3 x3
  simpa only [List.setIfInBounds_toArray, List.set_cons_zero, List.set_cons_succ] using this

theorem near_fill4 {w w' : World} {b : Nat} (h : Near w w') (hb : w.heap.size ≤ b) (x0 x1 x2 x3 : Value) : Near w ((((w'.setCell ⟨b, 0, none⟩ x0).setCell ⟨b, 1, none⟩ x1).setCell ⟨b, 2, none⟩ x2).setCell ⟨b, 3, none⟩ x3) :=
  (((h.set (p := ⟨b, 0, none⟩) hb x0).set (p := ⟨b, 1, none⟩) hb x1).set (p := ⟨b, 2, none⟩) hb x2).set (p := ⟨b, 3, none⟩) hb x3

set_option maxRecDepth 100000 in
set_option maxHeartbeats 3200000 in
theorem step_calls {w : World} {wb : Nat} {W : Nat → Bool → Int} (hw : IsWt w wb W) (hW : WtOk W) {x : Ch} (hx : ChOk x) {i : Nat} (hi : i < x.lev) (on : Bool) :
    Calls Try.prog 137 #[.pointer (some ⟨wb, 0, none⟩), chV x, .int .i64 i, .bool on] w fun e w' => e = .returned (chV (chStep W x i on)) ∧ Near w w' := by
  have hi24 : i < 24 := by have := hx.1; omega
  obtain ⟨c0, c1⟩ := hw.cells hi24
  have hwl : wb < w.heap.size := World.block_lt_of_cell? w ⟨wb, i * 2, none⟩ c0
  have bb0 := hW i false
  have bb1 := hW i true
  obtain ⟨lev, cost, c, is⟩ := x
  obtain ⟨-, h2, h3, h4⟩ := hx
  simp only at h2 h3 h4 hi
  have hor := Lib.hid (u32_or_bit c i (by omega) (by omega))
  have hi64 : (i : Int) < 64 := by omega
  have hi24' : (i : Int) < 24 := by omega
  simp only [chV, chStep]
  go_enter Try.func137, Try.ntmps137
  go_upto_region 2 with fail
  have hn : Near w ((w.alloc (.cells #[.int .i64 i, .int .i64 cost, .int .u32 c, .bool is] 130)).alloc (.cells #[.int .i64 0, .int .i64 0, .int .u32 0, .bool false] 130)) := ((Near.refl w).alloc _).alloc _
  have hB : ((w.alloc (.cells #[.int .i64 i, .int .i64 cost, .int .u32 c, .bool is] 130)).alloc (.cells #[.int .i64 0, .int .i64 0, .int .u32 0, .bool false] 130)).heap[w.heap.size]? = some (.cells #[.int .i64 i, .int .i64 cost, .int .u32 c, .bool is] 130 (0, 0)) := by
    rw [heap_old_at (by simp), heap_new_at rfl]
  have hO : ((w.alloc (.cells #[.int .i64 i, .int .i64 cost, .int .u32 c, .bool is] 130)).alloc (.cells #[.int .i64 0, .int .i64 0, .int .u32 0, .bool false] 130)).heap[w.heap.size + 1]? = some (.cells #[.int .i64 0, .int .i64 0, .int .u32 0, .bool false] 130 (0, 0)) := heap_new_at (by simp)
  replace c0 := hn.cell c0
  replace c1 := hn.cell c1
  generalize ((w.alloc (.cells #[.int .i64 i, .int .i64 cost, .int .u32 c, .bool is] 130)).alloc (.cells #[.int .i64 0, .int .i64 0, .int .u32 0, .bool false] 130)) = W1 at hn hB hO c0 c1 ⊢
  have HN := Lib.hid hn
  have HB := Lib.hid hB
  have HO := Lib.hid hO
  have x1 := cell1 (o := 1) hB rfl
  have xf := free1 hB
  have hk : ∀ w', Kept (fun b => w.heap.size ≤ b) W1 w' → Near w w' := fun w' h => Kept.mono (HN.out.kept.trans h) (fun b hb h => by omega)
  have fin : ∀ (w3 : World) (cost' : Int) (c' : Nat), w3.heap[w.heap.size]? = some (.cells #[.int .i64 i, .int .i64 cost', .int .u32 c', .bool is] 130 (0, 0)) → True := fun _ _ _ _ => trivial
  clear hn hB hO
  obtain ⟨v0, hv0⟩ : ∃ v0, v0 = W i false := ⟨_, rfl⟩
  obtain ⟨v1, hv1⟩ : ∃ v1, v1 = W i true := ⟨_, rfl⟩
  rw [← hv0] at bb0 c0
  rw [← hv1] at bb1 c1
  have HV0 := Lib.hid hv0
  have HV1 := Lib.hid hv1
  clear hv0 hv1 fin
  cases on with
  | false =>
    have hwr : IntKind.i64.wrap (cost + v0) = cost + v0 := IntWalk.i64_in _ (by omega)
    go_upto_region 5 with fail
    go_still_tail 10, (by kernel_rfl)
    change wpList _ _ _ _ _ W1.drew
    go_upto_region 6 with fail
    have hB3 : (W1.setCell ⟨w.heap.size, 1, none⟩ (.int .i64 (cost + v0))).drew.heap[w.heap.size]? = some (.cells #[.int .i64 i, .int .i64 (cost + v0), .int .u32 c, .bool is] 130 (0, 0)) := setCell_heap HB.out 1 (.int .i64 (cost + v0))
    have hk3 : Kept (fun b => b = w.heap.size) W1 (W1.setCell ⟨w.heap.size, 1, none⟩ (.int .i64 (cost + v0))).drew := (Kept.setCell (S := fun b => b = w.heap.size) (Kept.refl _ W1) (p := ⟨w.heap.size, 1, none⟩) (fun _ => rfl) _).drew
    generalize (W1.setCell ⟨w.heap.size, 1, none⟩ (.int .i64 (cost + v0))).drew = W3 at hB3 hk3 ⊢
    have hO3 := (hk3.block (w.heap.size + 1) (Array.getElem?_eq_some_iff.1 HO.out).1 (by omega)).trans HO.out
    have y0 := cell1 (o := 0) hB3 rfl
    have y1 := cell1 (o := 1) hB3 rfl
    have y2 := cell1 (o := 2) hB3 rfl
    have y3 := cell1 (o := 3) hB3 rfl
    have zf := free1 hO3
    have z0 := cell1 (o := 0) hO3 rfl
    have z1 := cell1 (o := 1) hO3 rfl
    have z2 := cell1 (o := 2) hO3 rfl
    have z3 := cell1 (o := 3) hO3 rfl
    have hO4 := filled4 hO3 (.int .i64 i) (.int .i64 (cost + v0)) (.int .u32 (c)) (.bool is)
    have hn4 := near_fill4 (b := w.heap.size + 1) (hk _ (Kept.mono hk3 (fun _ _ e => Nat.le_of_eq e.symm))) (by omega) (.int .i64 i) (.int .i64 (cost + v0)) (.int .u32 (c)) (.bool is)
    have HO4 := Lib.hid hO4
    have HN4 := Lib.hid hn4
    clear hO4 hn4 hO3
    go_wp2_with fail
    have q0 := cell1 (o := 0) HO4.out rfl
    have q1 := cell1 (o := 1) HO4.out rfl
    have q2 := cell1 (o := 2) HO4.out rfl
    have q3 := cell1 (o := 3) HO4.out rfl
    exact bodyPost_ret (v := .agg #[.int .i64 i, .int .i64 (cost + v0), .int .u32 c, .bool is]) (by simp [results, Try.results137, go_sem, q0, q1, q2, q3]) rfl ⟨by rw [HV0.out], HN4.out⟩
  | true =>
    have hwr : IntKind.i64.wrap (cost + v1) = cost + v1 := IntWalk.i64_in _ (by omega)
    go_upto_region 3 with fail
    go_still_tail 10, (by kernel_rfl)
    change wpList _ _ _ _ _ W1.drew
    go_upto_region 4 with fail
    have hB2 : (W1.setCell ⟨w.heap.size, 1, none⟩ (.int .i64 (cost + v1))).drew.heap[w.heap.size]? = some (.cells #[.int .i64 i, .int .i64 (cost + v1), .int .u32 c, .bool is] 130 (0, 0)) := setCell_heap HB.out 1 (.int .i64 (cost + v1))
    have hk2 : Kept (fun b => b = w.heap.size) W1 (W1.setCell ⟨w.heap.size, 1, none⟩ (.int .i64 (cost + v1))).drew := (Kept.setCell (S := fun b => b = w.heap.size) (Kept.refl _ W1) (p := ⟨w.heap.size, 1, none⟩) (fun _ => rfl) _).drew
    generalize (W1.setCell ⟨w.heap.size, 1, none⟩ (.int .i64 (cost + v1))).drew = W2 at hB2 hk2 ⊢
    have HB2 := Lib.hid hB2
    have HK2 := Lib.hid hk2
    have hO2 := (hk2.block (w.heap.size + 1) (Array.getElem?_eq_some_iff.1 HO.out).1 (by omega)).trans HO.out
    have HO2 := Lib.hid hO2
    have x2 := cell1 (o := 2) hB2 rfl
    have xf2 := free1 hB2
    have ho := hor.out
    clear hB2 hk2 hO2 x1 xf
    go_still_tail 6, (by kernel_rfl)
    change wpList _ _ _ _ _ W2.drew
    go_upto_region 6 with fail
    rw [hor.out]
    have hB3 : (W2.setCell ⟨w.heap.size, 2, none⟩ (.int .u32 (c ||| 2 ^ i : Nat))).drew.heap[w.heap.size]? = some (.cells #[.int .i64 i, .int .i64 (cost + v1), .int .u32 (c ||| 2 ^ i : Nat), .bool is] 130 (0, 0)) := setCell_heap HB2.out 2 (.int .u32 (c ||| 2 ^ i : Nat))
    have hk3 : Kept (fun b => b = w.heap.size) W1 (W2.setCell ⟨w.heap.size, 2, none⟩ (.int .u32 (c ||| 2 ^ i : Nat))).drew := (Kept.setCell (S := fun b => b = w.heap.size) HK2.out (p := ⟨w.heap.size, 2, none⟩) (fun _ => rfl) _).drew
    generalize (W2.setCell ⟨w.heap.size, 2, none⟩ (.int .u32 (c ||| 2 ^ i : Nat))).drew = W3 at hB3 hk3 ⊢
    have hO3 := (hk3.block (w.heap.size + 1) (Array.getElem?_eq_some_iff.1 HO.out).1 (by omega)).trans HO.out
    have y0 := cell1 (o := 0) hB3 rfl
    have y1 := cell1 (o := 1) hB3 rfl
    have y2 := cell1 (o := 2) hB3 rfl
    have y3 := cell1 (o := 3) hB3 rfl
    have zf := free1 hO3
    have z0 := cell1 (o := 0) hO3 rfl
    have z1 := cell1 (o := 1) hO3 rfl
    have z2 := cell1 (o := 2) hO3 rfl
    have z3 := cell1 (o := 3) hO3 rfl
    have hO4 := filled4 hO3 (.int .i64 i) (.int .i64 (cost + v1)) (.int .u32 ((c ||| 2 ^ i : Nat))) (.bool is)
    have hn4 := near_fill4 (b := w.heap.size + 1) (hk _ (Kept.mono hk3 (fun _ _ e => Nat.le_of_eq e.symm))) (by omega) (.int .i64 i) (.int .i64 (cost + v1)) (.int .u32 ((c ||| 2 ^ i : Nat))) (.bool is)
    have HO4 := Lib.hid hO4
    have HN4 := Lib.hid hn4
    clear hO4 hn4 hO3
    go_wp2_with fail
    have q0 := cell1 (o := 0) HO4.out rfl
    have q1 := cell1 (o := 1) HO4.out rfl
    have q2 := cell1 (o := 2) HO4.out rfl
    have q3 := cell1 (o := 3) HO4.out rfl
    exact bodyPost_ret (v := .agg #[.int .i64 i, .int .i64 (cost + v1), .int .u32 (c ||| 2 ^ i : Nat), .bool is]) (by simp [results, Try.results137, go_sem, q0, q1, q2, q3]) rfl ⟨by rw [HV1.out], HN4.out⟩

end Go.Proofs.Ytefclohjeompkaa

/- The weights: down. -/
namespace Go.Proofs.Ytefclohjeompkaa
open Go Go.RowKit Go.Shelf Go.Proofs.Gen Go.Proofs.Bdd Go.Proofs.Bdd.T

theorem IsWt.keptOf {w w' : World} {wb b : Nat} {W : Nat → Bool → Int} (h : IsWt w wb W) (hk : Kept (fun k => k = b) w w') (hb : wb ≠ b) : IsWt w' wb W := by
  obtain ⟨cs, h1, h2⟩ := h
  exact ⟨cs, (hk.block wb (Array.getElem?_eq_some_iff.1 h1).1 hb).trans h1, h2⟩

theorem chC_eq (x : Ch) : chC x = #[.int .i64 x.lev, .int .i64 x.cost, .int .u32 x.c, .bool x.is] := rfl

set_option maxRecDepth 100000 in
set_option maxHeartbeats 3200000 in
theorem down_calls {w : World} {wb : Nat} {W : Nat → Bool → Int} (hw : IsWt w wb W) (hW : WtOk W) {x : Ch} (hx : ChOk x) {lo : Nat} (hlo : lo ≤ x.lev) :
    Calls Try.prog 138 #[.pointer (some ⟨wb, 0, none⟩), chV x, .int .i64 lo] w fun e w' => e = .returned (chV (chDown W x (x.lev - lo))) ∧ Near w w' := by
  have hx24 := hx.1
  have HX := Lib.hid hx
  obtain ⟨N, hN⟩ : ∃ N, N = x.lev := ⟨_, rfl⟩
  have hwl : wb < w.heap.size := World.block_lt_of_cell? w ⟨wb, 0 * 2, none⟩ (hw.cells (by decide)).1
  rw [← hN] at hx24 hlo ⊢
  have HNl := Lib.hid hN
  simp only [chV]
  rw [← hN]
  clear hx hN
  go_enter Try.func138, Try.ntmps138
  go_upto_region 1 with fail
  have hn : Near w ((w.alloc (.cells #[.int .i64 N, .int .i64 x.cost, .int .u32 x.c, .bool x.is] 130)).alloc (.cells #[.int .i64 0, .int .i64 0, .int .u32 0, .bool false] 130)) := ((Near.refl w).alloc _).alloc _
  have hB : ((w.alloc (.cells #[.int .i64 N, .int .i64 x.cost, .int .u32 x.c, .bool x.is] 130)).alloc (.cells #[.int .i64 0, .int .i64 0, .int .u32 0, .bool false] 130)).heap[w.heap.size]? = some (.cells #[.int .i64 N, .int .i64 x.cost, .int .u32 x.c, .bool x.is] 130 (0, 0)) := by
    rw [heap_old_at (by simp), heap_new_at rfl]
  have hO : ((w.alloc (.cells #[.int .i64 N, .int .i64 x.cost, .int .u32 x.c, .bool x.is] 130)).alloc (.cells #[.int .i64 0, .int .i64 0, .int .u32 0, .bool false] 130)).heap[w.heap.size + 1]? = some (.cells #[.int .i64 0, .int .i64 0, .int .u32 0, .bool false] 130 (0, 0)) := heap_new_at (by simp)
  generalize ((w.alloc (.cells #[.int .i64 N, .int .i64 x.cost, .int .u32 x.c, .bool x.is] 130)).alloc (.cells #[.int .i64 0, .int .i64 0, .int .u32 0, .bool false] 130)) = W1 at hn hB hO ⊢
  have x0 := cell1 (o := 0) hB rfl
  have hB0 : W1.heap[w.heap.size]? = some (.cells (chC (chDown W x 0)) 130 (0, 0)) := by
    rw [hB, HNl.out]
    rfl
  have HB := Lib.hid hB0
  have HO := Lib.hid hO
  have HN := Lib.hid hn
  have HWt := Lib.hid (hw.near hn)
  clear hB hB0 hO hn hw
  go_wp2_with fail
  clear x0
  go_loopw [7] (fun i wr => ∃ k : Nat, k ≤ N - lo ∧ i = .int .i64 ((N : Int) - 1 - k) ∧ wr.heap[w.heap.size]? = some (.cells (chC (chDown W x k)) 130 (0, 0)) ∧ Kept (fun b => b = w.heap.size) W1 wr) (fun i _ => ((intOf i) + 1 - (lo : Int)).toNat)
  case atStart => exact ⟨0, Nat.zero_le _, by simp, HB.out, Kept.refl _ _⟩
  case round =>
    obtain ⟨k, hk, rfl, hb, hkp⟩ := hrel
    have hdn := HX.out.down hW (k := k) (by rw [← HNl.out]; omega)
    have hyl := hdn.2
    rw [← HNl.out] at hyl
    have hnext : chDown W x (k + 1) = chStep W (chDown W x k) (N - (k + 1)) (decide (W (N - (k + 1)) true < W (N - (k + 1)) false)) := by rw [HNl.out]; rfl
    have hy := hdn.1
    obtain ⟨y, hye⟩ : ∃ y, y = chDown W x k := ⟨_, rfl⟩
    rw [← hye] at hb hyl hnext hy
    obtain ⟨lev, cost, c, is⟩ := y
    simp only [chC_eq] at hb
    simp only at hyl
    have HY := Lib.hid hy
    have HE := Lib.hid hye.symm
    clear hye
    have HNx := Lib.hid hnext
    have HK := Lib.hid hkp
    have HC := Lib.hid hb
    have hWr := Lib.hid (HWt.out.keptOf hkp (by omega))
    clear hdn hnext hkp hb hy
    by_cases hlt : k < N - lo
    · obtain ⟨j, hj⟩ : ∃ j, j = N - (k + 1) := ⟨_, rfl⟩
      have hji : (N : Int) - 1 - k = (j : Int) := by omega
      have hjlo : (lo : Int) ≤ (j : Int) := by omega
      have hj24 : j < 24 := by omega
      have hj24' : (j : Int) < 24 := by omega
      rw [← hj] at HNx
      rw [hji]
      obtain ⟨v0, v1⟩ := hWr.out.cells hj24
      have q0 := cell1 (o := 0) HC.out rfl
      have q1 := cell1 (o := 1) HC.out rfl
      have q2 := cell1 (o := 2) HC.out rfl
      have q3 := cell1 (o := 3) HC.out rfl
      have HSK := Lib.hid (show ∀ w', Near wr w' → w'.cell? ⟨w.heap.size, 0, none⟩ = some (.int .i64 lev) ∧ w'.cell? ⟨w.heap.size, 1, none⟩ = some (.int .i64 cost) ∧ w'.cell? ⟨w.heap.size, 2, none⟩ = some (.int .u32 c) ∧ w'.cell? ⟨w.heap.size, 3, none⟩ = some (.bool is) ∧ w'.cell? ⟨wb, j * 2, none⟩ = some (.int .i64 (W j false)) ∧ w'.cell? ⟨wb, j * 2 + 1, none⟩ = some (.int .i64 (W j true)) from fun w' h => ⟨h.cell q0, h.cell q1, h.cell q2, h.cell q3, h.cell v0, h.cell v1⟩)
      have hjl : j < lev := by omega
      have HJ := Lib.hid hj
      clear q0 q1 q2 q3 v0 v1 hji hj hyl
      go_wp2_with fail
      refine wp_region_noPanic ?_
      refine wp_region_Z (by kernel_rfl) (fun w' => w'.cell? ⟨w.heap.size, 0, none⟩ = some (.int .i64 lev) ∧ w'.cell? ⟨w.heap.size, 1, none⟩ = some (.int .i64 cost) ∧ w'.cell? ⟨w.heap.size, 2, none⟩ = some (.int .u32 c) ∧ w'.cell? ⟨w.heap.size, 3, none⟩ = some (.bool is) ∧ w'.cell? ⟨wb, j * 2, none⟩ = some (.int .i64 (W j false)) ∧ w'.cell? ⟨wb, j * 2 + 1, none⟩ = some (.int .i64 (W j true))) 17 (HSK.out _ (Near.refl _).drew) (fun hS => ?_)
      refine takeZ0 (v := Value.pointer (some ⟨wb, 0, none⟩)) (by kernel_rfl) (by kernel_rfl) (by kernel_rfl) (by kernel_rfl) (fun _ _ _ h => h) (Or.inl ⟨by rfl, fun w' hS' => by dsimp only at hS'; obtain ⟨s0, s1, s2, s3, s4, s5⟩ := hS'; go_simp⟩) hS ?_
      try simp only [Act.put, List.setIfInBounds_toArray, List.set_cons_zero, List.set_cons_succ]
      refine takeZ1 (v := Value.agg #[Value.int .i64 lev, Value.int .i64 cost, Value.int .u32 c, Value.bool is]) (by kernel_rfl) (by kernel_rfl) (by kernel_rfl) (by kernel_rfl) (fun _ _ _ h => h) (Or.inl ⟨by rfl, fun w' hS' => by dsimp only at hS'; obtain ⟨s0, s1, s2, s3, s4, s5⟩ := hS'; go_simp⟩) hS ?_
      try simp only [Act.put, List.setIfInBounds_toArray, List.set_cons_zero, List.set_cons_succ]
      refine takeZ2 (v := Value.int .i64 j) (by kernel_rfl) (by kernel_rfl) (by kernel_rfl) (by kernel_rfl) (fun _ _ _ h => h) (Or.inl ⟨by rfl, fun w' hS' => by dsimp only at hS'; obtain ⟨s0, s1, s2, s3, s4, s5⟩ := hS'; go_simp⟩) hS ?_
      try simp only [Act.put, List.setIfInBounds_toArray, List.set_cons_zero, List.set_cons_succ]
      refine takeZ3 (v := Value.pointer (some ⟨wb, 0, none⟩)) (by kernel_rfl) (by kernel_rfl) (by kernel_rfl) (by kernel_rfl) (fun _ _ _ h => h) (Or.inl ⟨by rfl, fun w' hS' => by dsimp only at hS'; obtain ⟨s0, s1, s2, s3, s4, s5⟩ := hS'; go_simp⟩) hS ?_
      try simp only [Act.put, List.setIfInBounds_toArray, List.set_cons_zero, List.set_cons_succ]
      refine takeZ4 (v := Value.int .i64 j) (by kernel_rfl) (by kernel_rfl) (by kernel_rfl) (by kernel_rfl) (fun _ _ _ h => h) (Or.inl ⟨by rfl, fun w' hS' => by dsimp only at hS'; obtain ⟨s0, s1, s2, s3, s4, s5⟩ := hS'; go_simp⟩) hS ?_
      try simp only [Act.put, List.setIfInBounds_toArray, List.set_cons_zero, List.set_cons_succ]
      refine takeZ5 (v := Value.pointer (some ⟨wb, 0, none⟩)) (by kernel_rfl) (by kernel_rfl) (by kernel_rfl) (by kernel_rfl) (fun _ _ _ h => h) (Or.inl ⟨by rfl, fun w' hS' => by dsimp only at hS'; obtain ⟨s0, s1, s2, s3, s4, s5⟩ := hS'; go_simp⟩) hS ?_
      try simp only [Act.put, List.setIfInBounds_toArray, List.set_cons_zero, List.set_cons_succ]
      refine takeZ6 (v := Value.pointer (some ⟨wb, j * 2, none⟩)) (by kernel_rfl) (by kernel_rfl) (by kernel_rfl) (by kernel_rfl) (fun _ _ _ h => h) (Or.inl ⟨by rfl, fun w' hS' => by dsimp only at hS'; obtain ⟨s0, s1, s2, s3, s4, s5⟩ := hS'; go_simp⟩) hS ?_
      try simp only [Act.put, List.setIfInBounds_toArray, List.set_cons_zero, List.set_cons_succ]
      refine takeZ7 (v := Value.pointer (some ⟨wb, j * 2 + 1, none⟩)) (by kernel_rfl) (by kernel_rfl) (by kernel_rfl) (by kernel_rfl) (fun _ _ _ h => h) (Or.inl ⟨by rfl, fun w' hS' => by dsimp only at hS'; obtain ⟨s0, s1, s2, s3, s4, s5⟩ := hS'; go_simp⟩) hS ?_
      try simp only [Act.put, List.setIfInBounds_toArray, List.set_cons_zero, List.set_cons_succ]
      refine takeZ8 (v := Value.int .i64 (W j true)) (by kernel_rfl) (by kernel_rfl) (by kernel_rfl) (by kernel_rfl) (fun _ _ _ h => h) (Or.inl ⟨by rfl, fun w' hS' => by dsimp only at hS'; obtain ⟨s0, s1, s2, s3, s4, s5⟩ := hS'; go_simp⟩) hS ?_
      try simp only [Act.put, List.setIfInBounds_toArray, List.set_cons_zero, List.set_cons_succ]
      refine takeZ9 (v := Value.pointer (some ⟨wb, 0, none⟩)) (by kernel_rfl) (by kernel_rfl) (by kernel_rfl) (by kernel_rfl) (fun _ _ _ h => h) (Or.inl ⟨by rfl, fun w' hS' => by dsimp only at hS'; obtain ⟨s0, s1, s2, s3, s4, s5⟩ := hS'; go_simp⟩) hS ?_
      try simp only [Act.put, List.setIfInBounds_toArray, List.set_cons_zero, List.set_cons_succ]
      refine takeZ10 (v := Value.int .i64 j) (by kernel_rfl) (by kernel_rfl) (by kernel_rfl) (by kernel_rfl) (fun _ _ _ h => h) (Or.inl ⟨by rfl, fun w' hS' => by dsimp only at hS'; obtain ⟨s0, s1, s2, s3, s4, s5⟩ := hS'; go_simp⟩) hS ?_
      try simp only [Act.put, List.setIfInBounds_toArray, List.set_cons_zero, List.set_cons_succ]
      refine takeZ11 (v := Value.pointer (some ⟨wb, 0, none⟩)) (by kernel_rfl) (by kernel_rfl) (by kernel_rfl) (by kernel_rfl) (fun _ _ _ h => h) (Or.inl ⟨by rfl, fun w' hS' => by dsimp only at hS'; obtain ⟨s0, s1, s2, s3, s4, s5⟩ := hS'; go_simp⟩) hS ?_
      try simp only [Act.put, List.setIfInBounds_toArray, List.set_cons_zero, List.set_cons_succ]
      refine takeZ12 (v := Value.pointer (some ⟨wb, j * 2, none⟩)) (by kernel_rfl) (by kernel_rfl) (by kernel_rfl) (by kernel_rfl) (fun _ _ _ h => h) (Or.inl ⟨by rfl, fun w' hS' => by dsimp only at hS'; obtain ⟨s0, s1, s2, s3, s4, s5⟩ := hS'; go_simp⟩) hS ?_
      try simp only [Act.put, List.setIfInBounds_toArray, List.set_cons_zero, List.set_cons_succ]
      refine takeZ13 (v := Value.pointer (some ⟨wb, j * 2, none⟩)) (by kernel_rfl) (by kernel_rfl) (by kernel_rfl) (by kernel_rfl) (fun _ _ _ h => h) (Or.inl ⟨by rfl, fun w' hS' => by dsimp only at hS'; obtain ⟨s0, s1, s2, s3, s4, s5⟩ := hS'; go_simp⟩) hS ?_
      try simp only [Act.put, List.setIfInBounds_toArray, List.set_cons_zero, List.set_cons_succ]
      refine takeZ14 (v := Value.int .i64 (W j false)) (by kernel_rfl) (by kernel_rfl) (by kernel_rfl) (by kernel_rfl) (fun _ _ _ h => h) (Or.inl ⟨by rfl, fun w' hS' => by dsimp only at hS'; obtain ⟨s0, s1, s2, s3, s4, s5⟩ := hS'; go_simp⟩) hS ?_
      try simp only [Act.put, List.setIfInBounds_toArray, List.set_cons_zero, List.set_cons_succ]
      refine takeZ15 (v := Value.bool (decide (W j true < W j false))) (by kernel_rfl) (by kernel_rfl) (by kernel_rfl) (by kernel_rfl) (fun _ _ _ h => h) (Or.inl ⟨by rfl, fun w' hS' => by dsimp only at hS'; obtain ⟨s0, s1, s2, s3, s4, s5⟩ := hS'; go_simp⟩) hS ?_
      try simp only [Act.put, List.setIfInBounds_toArray, List.set_cons_zero, List.set_cons_succ]
      refine oneZ16 (by kernel_rfl) (fun K hK => ?_)
      go_simp
      go_wp2_with (go_at_call 137; refine (step_calls (x := ⟨lev, cost, c, is⟩) (hWr.out.near (Near.refl wr).drew) hW HY.out hjl (decide (W j true < W j false))).mono ?_; rintro e z3 ⟨rfl, n3⟩)
      rw [← HNx.out]
      have N3 : Near wr z3 := (Near.refl wr).drew.trans n3
      refine hK.out _ _ (Or.inr (HSK.out _ N3)) ?_
      clear hK K hS
      have he3 := keepN N3 HC.out
      generalize hy' : chDown W x (k + 1) = y'
      have HY' := Lib.hid hy'
      clear hy'
      obtain ⟨lev', cost', c', is'⟩ := y'
      simp only [chV]
      have e0 := cell1 (o := 0) he3 rfl
      have e1 := cell1 (o := 1) he3 rfl
      have e2 := cell1 (o := 2) he3 rfl
      have e3 := cell1 (o := 3) he3 rfl
      have ef := free1 he3
      try simp only [Act.put, List.setIfInBounds_toArray, List.set_cons_zero, List.set_cons_succ]
      refine oneZ17 (by kernel_rfl) (fun K hK => ?_)
      go_simp
      refine hK.out _ _ (Or.inl rfl) ?_
      clear hK K
      try simp only [Act.put, List.setIfInBounds_toArray, List.set_cons_zero, List.set_cons_succ]
      refine wpAnyZ_done (by kernel_rfl) ?_
      refine NoPanic.normal ?_
      have hH := filled4 he3 (.int .i64 lev') (.int .i64 cost') (.int .u32 c') (.bool is')
      have hK3 : Kept (fun b => b = w.heap.size) W1 ((((z3.setCell ⟨w.heap.size, 0, none⟩ (.int .i64 lev')).setCell ⟨w.heap.size, 1, none⟩ (.int .i64 cost')).setCell ⟨w.heap.size, 2, none⟩ (.int .u32 c')).setCell ⟨w.heap.size, 3, none⟩ (.bool is')) := Kept.setCell (Kept.setCell (Kept.setCell (Kept.setCell (S := fun b => b = w.heap.size) (HK.out.trans N3.kept) (p := ⟨w.heap.size, 0, none⟩) (fun _ => rfl) _) (p := ⟨w.heap.size, 1, none⟩) (fun _ => rfl) _) (p := ⟨w.heap.size, 2, none⟩) (fun _ => rfl) _) (p := ⟨w.heap.size, 3, none⟩) (fun _ => rfl) _
      have HH := Lib.hid hH
      have HK3 := Lib.hid hK3
      clear hH hK3 e0 e1 e2 e3 ef
      generalize ((((z3.setCell ⟨w.heap.size, 0, none⟩ (.int .i64 lev')).setCell ⟨w.heap.size, 1, none⟩ (.int .i64 cost')).setCell ⟨w.heap.size, 2, none⟩ (.int .u32 c')).setCell ⟨w.heap.size, 3, none⟩ (.bool is')) = w9 at HH HK3 ⊢
      go_wp2_with fail
      have hj := HJ.out
      exact ⟨⟨k + 1, by omega, by go_num, by rw [HY'.out]; exact HH.out, HK3.out⟩, by simp [intOf]; omega⟩
    · have hkN : k = N - lo := by omega
      have HYL := Lib.hid hyl
      clear hyl
      have hcond : ¬ (lo : Int) ≤ (N : Int) - 1 - k := by omega
      have hO2 := (HK.out.block (w.heap.size + 1) (Array.getElem?_eq_some_iff.1 HO.out).1 (by omega)).trans HO.out
      have q0 := cell1 (o := 0) HC.out rfl
      have q1 := cell1 (o := 1) HC.out rfl
      have q2 := cell1 (o := 2) HC.out rfl
      have q3 := cell1 (o := 3) HC.out rfl
      have z0 := cell1 (o := 0) hO2 rfl
      have z1 := cell1 (o := 1) hO2 rfl
      have z2 := cell1 (o := 2) hO2 rfl
      have z3 := cell1 (o := 3) hO2 rfl
      have zf := free1 hO2
      have hO4 := filled4 hO2 (.int .i64 lev) (.int .i64 cost) (.int .u32 c) (.bool is)
      have hn4 := near_fill4 (b := w.heap.size + 1) (Kept.mono (HN.out.kept.trans HK.out) (fun b hb e => by omega) : Near w wr) (by omega) (.int .i64 lev) (.int .i64 cost) (.int .u32 c) (.bool is)
      have HO4 := Lib.hid hO4
      have HN4 := Lib.hid hn4
      clear hO4 hn4 hO2
      go_wp2_with fail
      have y0 := cell1 (o := 0) HO4.out rfl
      have y1 := cell1 (o := 1) HO4.out rfl
      have y2 := cell1 (o := 2) HO4.out rfl
      have y3 := cell1 (o := 3) HO4.out rfl
      refine bodyPost_ret (v := .agg #[.int .i64 lev, .int .i64 cost, .int .u32 c, .bool is]) (by simp [results, Try.results138, go_sem, y0, y1, y2, y3]) rfl ⟨?_, HN4.out⟩
      rw [← hkN, HE.out]

end Go.Proofs.Ytefclohjeompkaa
