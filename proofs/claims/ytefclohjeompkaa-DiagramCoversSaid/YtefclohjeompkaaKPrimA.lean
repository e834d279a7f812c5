/- Parts of a proof: PrimL, PrimA. -/
import Derived.RangeFuncWrites
import Derived.Test.YtefclohjeompkaaKListA
import Derived.Test.YtefclohjeompkaaKEachB
import Derived.Test.YtefclohjeompkaaKThruA
/- Small facts for the prime cubes (turned from the texts about All). -/
namespace Go.Proofs.Ytefclohjeompkaa
open Go Go.RowKit Go.Shelf Go.Proofs.Gen Go.Proofs.Bdd Go.Proofs.Bdd.T

theorem empty_isP {w : World} {v : Value} {f : F} {b : Bool} (h : IsF w v f) (hb : nowhere f = b) : Calls Try.prog 35 #[v] w fun e w' => e = .returned (.bool b) ∧ Near w w' := hb ▸ empty_f h

theorem IsF.fixP {w : World} {v : Value} {f g : F} (h : IsF w v f) (e : ∀ c, f c = g c) : IsF w v g := by
  obtain ⟨t, hd, he⟩ := h
  exact ⟨t, hd, fun c => (he c).trans (e c)⟩

theorem own_blockP {w : World} {base e size n k : Nat} {v : Value} {xs : List Value} (h : w.ownsRow base e size v n xs) (hk : v.ownBlock = some k) : base ≤ k ∧ ∃ cur fr, w.heap[k]? = some (.cells cur e fr) := by
  rcases h.2 with ⟨rfl, _⟩ | ⟨g, cap, cur, rfl, hb, hg, _⟩
  · cases hk
  · cases hk
    exact ⟨hb, _, _, hg⟩

theorem two_keptP {w : World} {b : Nat} (x y : Value) : Kept (fun k => k = b) w ((w.setCell ⟨b, 0, none⟩ x).setCell ⟨b, 1, none⟩ y) :=
  Kept.setCell (Kept.setCell (S := fun k => k = b) (Kept.refl _ w) (p := ⟨b, 0, none⟩) (fun _ => rfl) x) (p := ⟨b, 1, none⟩) (fun _ => rfl) y

/-- The law of a loop over an iterator with one variable. -/
theorem rangeFunc_oneP {F : Fence} {n : Nat} {P : Program} {α : Type} {g : Operand} {p q : Tmp} {assign body : Code} {Q : Exit → Act → World → Prop} {a : Act} {w : World}
    (hro : F.round = none) (h1 : 1 ≤ n) {gf : Nat} {lb : Array Value} (hg : a.eval g = .func (.func gf) #[] lb) (hFg : F.fn gf) (eg : ∀ args w, (callFunc gf args).run P w = .ok (.enter gf args) w)
    {enc : α → Value} {Kp : World → World → Prop} {S Sp : List α → Prop} {N : Nat} (hseq : SeqStopsK F (n - 1) P gf lb (fun x => #[enc x]) Kp S Sp N w)
    (hKt : ∀ {A B C : World}, Kp A B → Kp B C → Kp A C) (hKb : ∀ (W : World) (l : Nat) (o o' : Obj), w.heap.size ≤ l → W.heap[l]? = some o → o.isCells = false → o.isWalk = false → Kp W (W.putObj l o'))
    (I : List α → World → Prop) (Ix : Code → List α → World → Prop) (hI : OwnFrom w.heap.size I) (hIx : ∀ c, OwnFrom w.heap.size (Ix c)) (h0 : I [] w)
    (hassign : ∀ (l : Nat) (x : α) (W : World) (K : Act → World → Prop), K { tmps := (a.tmps.setIfInBounds p (enc x)).setIfInBounds q (enc x), defers := [] } W →
      assign.wpIn (F.inRound l) (n - 1 - 1) P (Exit.then K (fun _ _ _ => False)) { tmps := a.tmps.setIfInBounds p (enc x), defers := [] } W)
    (hbody : ∀ (l : Nat) (pre : List α) (x : α) (W : World), I pre W → pre.length < N → body.wpIn (F.inRound l) (n - 1 - 1) P (ownPostG w.heap.size Kp I Ix (pre ++ [x]) W) { tmps := (a.tmps.setIfInBounds p (enc x)).setIfInBounds q (enc x), defers := [] } W)
    (hdone : ∀ (D : Nat) (xs : List α) (W : World), w.heap.size ≤ D → S xs → I xs W → W.heap[D]? = some (.deferred (some [])) → Q .normal { a with defers := { target := .collected D, args := #[] } :: a.defers } W)
    (hstop : ∀ (D : Nat) (c : Code) (pre : List α) (W : World), w.heap.size ≤ D → Sp pre → Ix c pre W → W.heap[D]? = some (.deferred (some [])) → c.wpIn F n P Q { a with defers := { target := .collected D, args := #[] } :: a.defers } W) :
    (Code.rangeFunc g #[p] assign body).wpIn F n P Q a w :=
  wpIn_rangeFunc_ownG hro h1 hg hFg eg hseq hKt hKb (Below.refl _ _) (fun _ => rfl) I Ix hI hIx h0 (fun x => { tmps := (a.tmps.setIfInBounds p (enc x)).setIfInBounds q (enc x), defers := [] })
    (fun l x W K hK => by
      rw [show (#[p].zip #[enc x]) = #[(p, enc x)] from by simp]
      exact hassign l x W K hK) hbody hdone hstop

end Go.Proofs.Ytefclohjeompkaa

/- Cubes by number, in base 3: the plain law. -/
namespace Go.Proofs.Ytefclohjeompkaa
open Go Go.RowKit Go.Proofs.Gen Go.Proofs.Bdd Go.Proofs.Bdd.T

/-- A digit of a number in base 3. -/
def dig (k j : Nat) : Nat := k / 3 ^ j % 3

/-- What a cube's highest digit makes of a set. -/
def digF (f : F) (i d : Nat) : F := if d = 0 then fun c => f (updI c i false) && f (updI c i true) else if d = 1 then fun c => f (updI c i false) else fun c => f (updI c i true)

/-- Does the cube with a number lie in a set? Of the first m features. -/
noncomputable def inK (V : List Nat) : Nat → F → Nat → Bool
  | 0, f, _ => everyF f
  | m + 1, f, k => inK V m (digF f (V.getD m 0) (k / 3 ^ m)) (k % 3 ^ m)

/-- The answers for all cubes. -/
noncomputable def inL (V : List Nat) (m : Nat) (f : F) : List Bool := (List.range (3 ^ m)).map (inK V m f)

theorem inL_len (V : List Nat) (m : Nat) (f : F) : (inL V m f).length = 3 ^ m := by simp [inL]

theorem inL_succ (V : List Nat) (m : Nat) (f : F) : inL V (m + 1) f = inL V m (digF f (V.getD m 0) 0) ++ inL V m (digF f (V.getD m 0) 1) ++ inL V m (digF f (V.getD m 0) 2) := by
  have hp : 0 < 3 ^ m := Nat.pow_pos (by omega)
  have e : 3 ^ (m + 1) = 3 ^ m + 3 ^ m + 3 ^ m := by rw [Nat.pow_succ]; omega
  unfold inL
  rw [e, List.range_add, List.range_add, List.map_append, List.map_append, List.map_map, List.map_map]
  congr 1
  · congr 1
    · refine List.map_congr_left fun k hk => ?_
      have hlt := List.mem_range.1 hk
      show inK V m (digF f (V.getD m 0) (k / 3 ^ m)) (k % 3 ^ m) = _
      rw [Nat.div_eq_of_lt hlt, Nat.mod_eq_of_lt hlt]
    · refine List.map_congr_left fun k hk => ?_
      have hlt := List.mem_range.1 hk
      show inK V m (digF f (V.getD m 0) ((3 ^ m + k) / 3 ^ m)) ((3 ^ m + k) % 3 ^ m) = _
      rw [Nat.add_div_left _ hp, Nat.div_eq_of_lt hlt, Nat.add_mod_left, Nat.mod_eq_of_lt hlt]
  · refine List.map_congr_left fun k hk => ?_
    have hlt := List.mem_range.1 hk
    show inK V m (digF f (V.getD m 0) ((3 ^ m + 3 ^ m + k) / 3 ^ m)) ((3 ^ m + 3 ^ m + k) % 3 ^ m) = _
    rw [Nat.add_assoc, Nat.add_div_left _ hp, Nat.add_div_left _ hp, Nat.div_eq_of_lt hlt, Nat.add_mod_left, Nat.add_mod_left, Nat.mod_eq_of_lt hlt]

open Classical in
theorem everyF_iff {f : F} : everyF f = true ↔ ∀ c, f c = true := by
  unfold everyF
  exact decide_eq_true_iff

theorem digF_const {f : F} {b : Bool} (h : ∀ c, f c = b) (i d : Nat) : ∀ c, digF f i d c = b := by
  intro c
  unfold digF
  split
  · show (f _ && f _) = b
    rw [h, h, Bool.and_self]
  · split
    · exact h _
    · exact h _

theorem inK_const (V : List Nat) {b : Bool} : ∀ (m : Nat) {f : F} (_ : ∀ c, f c = b) (k : Nat), inK V m f k = b
  | 0, f, h, k => by
    show everyF f = b
    cases b with
    | true => exact everyF_iff.2 h
    | false =>
      refine Bool.eq_false_iff.2 fun he => ?_
      have := everyF_iff.1 he fun _ => false
      rw [h] at this
      cases this
  | m + 1, f, h, k => inK_const V m (digF_const h _ _) _

theorem inL_const (V : List Nat) {b : Bool} (m : Nat) {f : F} (h : ∀ c, f c = b) : inL V m f = List.replicate (3 ^ m) b := by
  unfold inL
  refine List.eq_replicate_iff.2 ⟨by simp, fun x hx => ?_⟩
  obtain ⟨k, _, rfl⟩ := List.mem_map.1 hx
  exact inK_const V m h k

/-- A function of the first m features of a list alone. -/
def OnV (V : List Nat) (m : Nat) (f : F) : Prop := ∀ c d : Nat → Bool, (∀ j, j < m → c (V.getD j 0) = d (V.getD j 0)) → f c = f d

theorem OnV.zero {V : List Nat} {f : F} (h : OnV V 0 f) : ∃ b, ∀ c, f c = b := ⟨f fun _ => false, fun c => h c _ fun j hj => by omega⟩

theorem OnV.fix {V : List Nat} {m : Nat} {f : F} (h : OnV V (m + 1) f) (b : Bool) : OnV V m (fun c => f (updI c (V.getD m 0) b)) := fun c d hcd => by
  refine h _ _ fun j hj => ?_
  rw [updI_upd, updI_upd]
  unfold upd
  by_cases e : V.getD j 0 = V.getD m 0
  · rw [if_pos e, if_pos e]
  · rw [if_neg e, if_neg e]
    exact hcd j (by
      rcases Nat.lt_or_ge j m with hl | hl
      · exact hl
      · exact absurd (congrArg (fun q => V.getD q 0) (show j = m by omega)) e)

theorem OnV.dig {V : List Nat} {m : Nat} {f : F} (h : OnV V (m + 1) f) (d : Nat) : OnV V m (digF f (V.getD m 0) d) := by
  unfold digF
  split
  · intro c e hce
    show (f _ && f _) = (f _ && f _)
    have h1 := h.fix false c e hce
    have h2 := h.fix true c e hce
    simp only at h1 h2
    rw [h1, h2]
  · split
    · exact h.fix false
    · exact h.fix true

/-! ### What a number means -/

/-- A configuration that a cube holds. -/
def mtK (V : List Nat) (m k : Nat) (c : Nat → Bool) : Prop := ∀ j, j < m → (dig k j = 1 → c (V.getD j 0) = false) ∧ (dig k j = 2 → c (V.getD j 0) = true)

theorem dig_low {k m j : Nat} (hj : j < m) : dig (k % 3 ^ m) j = dig k j := by
  unfold dig
  have e : m = j + 1 + (m - (j + 1)) := by omega
  rw [e, Nat.pow_add, Nat.pow_succ, Nat.mul_assoc, Nat.mod_mul_right_div_self, Nat.mod_mul_right_mod]

theorem dig_top {k m : Nat} (hk : k < 3 ^ (m + 1)) : dig k m = k / 3 ^ m := by
  unfold dig
  refine Nat.mod_eq_of_lt ?_
  rw [Nat.pow_succ] at hk
  exact Nat.div_lt_of_lt_mul hk

theorem inK_iff {V : List Nat} (hd : ∀ i j, i < V.length → j < V.length → V.getD i 0 = V.getD j 0 → i = j) : ∀ (m : Nat), m ≤ V.length → ∀ (f : F) (k : Nat), k < 3 ^ m → (inK V m f k = true ↔ ∀ c, mtK V m k c → f c = true)
  | 0, _, f, k, _ => by
    show everyF f = true ↔ _
    rw [everyF_iff]
    exact ⟨fun h c _ => h c, fun h c => h c fun j hj => by omega⟩
  | m + 1, hm, f, k, hk => by
    have hp : 0 < 3 ^ m := Nat.pow_pos (by omega)
    have ih := inK_iff hd m (by omega) (digF f (V.getD m 0) (k / 3 ^ m)) (k % 3 ^ m) (Nat.mod_lt _ hp)
    show inK V m (digF f (V.getD m 0) (k / 3 ^ m)) (k % 3 ^ m) = true ↔ _
    rw [ih]
    have htop := dig_top hk
    have hlow : ∀ c, mtK V m (k % 3 ^ m) c ↔ mtK V m k c := fun c => by
      unfold mtK
      refine forall_congr' fun j => forall_congr' fun hj => ?_
      rw [dig_low hj]
    have hup : ∀ c b, mtK V m k (updI c (V.getD m 0) b) ↔ mtK V m k c := fun c b => by
      unfold mtK
      refine forall_congr' fun j => forall_congr' fun hj => ?_
      have hne : V.getD j 0 ≠ V.getD m 0 := fun e => by
        have := hd j m (by omega) (by omega) e
        omega
      rw [updI_upd, upd, if_neg hne]
    have hself : ∀ c : Nat → Bool, updI c (V.getD m 0) (c (V.getD m 0)) = c := fun c => by
      rw [updI_upd]
      funext i
      unfold upd
      split
      · rename_i e; rw [e]
      · rfl
    have hat : ∀ (c : Nat → Bool) b, updI c (V.getD m 0) b (V.getD m 0) = b := fun c b => by rw [updI_upd, upd, if_pos rfl]
    have h3 : k / 3 ^ m < 3 := by rw [Nat.pow_succ] at hk; exact Nat.div_lt_of_lt_mul hk
    have hsplit : ∀ c, mtK V (m + 1) k c ↔ mtK V m k c ∧ (dig k m = 1 → c (V.getD m 0) = false) ∧ (dig k m = 2 → c (V.getD m 0) = true) := fun c =>
      ⟨fun h => ⟨fun j hj => h j (by omega), h m (by omega)⟩, fun h j hj => by
        rcases Nat.lt_or_ge j m with hl | hl
        · exact h.1 j hl
        · rw [show j = m by omega]; exact h.2⟩
    constructor
    · intro h c hc
      obtain ⟨h1, h2, h4⟩ := (hsplit c).1 hc
      have hh := h c ((hlow c).2 h1)
      rw [htop] at h2 h4
      unfold digF at hh
      by_cases e0 : k / 3 ^ m = 0
      · rw [if_pos e0, Bool.and_eq_true] at hh
        rw [← hself c]
        cases c (V.getD m 0)
        · exact hh.1
        · exact hh.2
      · by_cases e1 : k / 3 ^ m = 1
        · rw [if_neg e0, if_pos e1] at hh
          rw [← hself c, h2 e1]
          exact hh
        · rw [if_neg e0, if_neg e1] at hh
          rw [← hself c, h4 (by omega)]
          exact hh
    · intro h c hc
      have hc' := (hlow c).1 hc
      have go : ∀ b, (dig k m = 1 → b = false) → (dig k m = 2 → b = true) → f (updI c (V.getD m 0) b) = true := fun b b1 b2 =>
        h _ ((hsplit _).2 ⟨(hup c b).2 hc', fun e => by rw [hat]; exact b1 e, fun e => by rw [hat]; exact b2 e⟩)
      rw [htop] at go
      unfold digF
      by_cases e0 : k / 3 ^ m = 0
      · rw [if_pos e0, Bool.and_eq_true]
        exact ⟨go false (fun _ => rfl) (fun e => by omega), go true (fun e => by omega) (fun _ => rfl)⟩
      · by_cases e1 : k / 3 ^ m = 1
        · rw [if_neg e0, if_pos e1]
          exact go false (fun _ => rfl) (fun e => by omega)
        · rw [if_neg e0, if_neg e1]
          exact go true (fun e => absurd e e1) (fun _ => rfl)

end Go.Proofs.Ytefclohjeompkaa
