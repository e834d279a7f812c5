/- The configurations of a set, rising: the plain law; and what a round of a range over them keeps. -/
import Derived.Test.YtefclohjeompkaaKEachB
import Derived.Test.YtefclohjeompkaaKSaidA
import Derived.Test.YtefclohjeompkaaKBestP
namespace Go.Proofs.Ytefclohjeompkaa
open Go Go.RowKit Go.Proofs.Gen Go.Proofs.Bdd Go.Proofs.Bdd.T

/-- A function of the features below k alone. -/
def LowF (f : F) (k : Nat) : Prop := ∀ c d : Nat → Bool, (∀ i, i < k → c i = d i) → f c = f d
/-- The configurations of the features below k, with what lies above. -/
def lst (f : F) (k above : Nat) : List Nat := ((List.range (2 ^ k)).filter fun c => f c.testBit).map fun c => above ||| c

theorem lst_none {f : F} {k above : Nat} (h : nowhere f = true) : lst f k above = [] := by
  unfold lst
  rw [List.filter_eq_nil_iff.2 (fun c _ => by rw [nowhere_iff.1 h]; simp)]
  rfl

theorem lst_zero {f : F} {above : Nat} (hl : LowF f 0) (h : nowhere f = false) : lst f 0 above = [above] := by
  have h1 : f (0 : Nat).testBit = true := by
    refine Classical.byContradiction fun hn => ?_
    have h2 : nowhere f = true := nowhere_iff.2 fun c => by
      rw [hl c (0 : Nat).testBit (fun i hi => by omega)]
      simpa using hn
    rw [h] at h2
    cases h2
  unfold lst
  have e : List.filter (fun c : Nat => f c.testBit) [0] = [0] := by
    rw [List.filter_cons_of_pos (p := fun c : Nat => f c.testBit) h1]
    rfl
  rw [show List.range (2 ^ 0) = [0] from rfl, e]
  simp

theorem testBit_add_pow {c k : Nat} (hc : c < 2 ^ k) : (2 ^ k + c).testBit = updI c.testBit k true := by
  rw [updI_upd]
  funext j
  have h1 := Nat.two_pow_add_eq_or_of_lt hc 1
  rw [Nat.mul_one] at h1
  rw [h1, Nat.testBit_or, Nat.testBit_two_pow]
  unfold upd
  by_cases e : j = k
  · simp [e]
  · have : ¬ k = j := fun h => e h.symm
    simp [e, this]

theorem testBit_low {c k : Nat} (hc : c < 2 ^ k) : updI c.testBit k false = c.testBit := by
  rw [updI_upd]
  funext j
  unfold upd
  by_cases e : j = k
  · rw [if_pos e, e, Nat.testBit_lt_two_pow hc]
  · rw [if_neg e]

theorem lst_succ (f : F) (k above : Nat) : lst f (k + 1) above = lst (fun c => f (updI c k false)) k above ++ lst (fun c => f (updI c k true)) k (above ||| 2 ^ k) := by
  unfold lst
  rw [Nat.pow_succ, Nat.mul_two, List.range_add, List.filter_append, List.map_append, List.filter_map, List.map_map]
  congr 1
  · congr 1
    refine List.filter_congr fun c hc => ?_
    show f c.testBit = f (updI c.testBit k false)
    rw [testBit_low (List.mem_range.1 hc)]
  · have e : (List.range (2 ^ k)).filter ((fun c => f c.testBit) ∘ fun x => 2 ^ k + x) = (List.range (2 ^ k)).filter fun c => f (updI c.testBit k true) := by
      refine List.filter_congr fun c hc => ?_
      show f (2 ^ k + c).testBit = _
      rw [testBit_add_pow (List.mem_range.1 hc)]
    rw [e]
    refine List.map_congr_left fun c hc => ?_
    have hlt := List.mem_range.1 (List.mem_filter.1 hc).1
    have h1 := Nat.two_pow_add_eq_or_of_lt hlt 1
    rw [Nat.mul_one] at h1
    show above ||| (2 ^ k + c) = _
    rw [h1, Nat.or_assoc]

theorem LowF.fix {f : F} {k : Nat} (h : LowF f (k + 1)) (b : Bool) : LowF (fun c => f (updI c k b)) k := fun c d hcd => by
  refine h _ _ fun i hi => ?_
  rw [updI_upd, updI_upd]
  unfold upd
  by_cases e : i = k
  · rw [if_pos e, if_pos e]
  · rw [if_neg e, if_neg e, hcd i (by omega)]

/-- The features from n on, below j, refused. -/
def offF (f : F) (n j : Nat) : F := fun c => f fun i => if n ≤ i ∧ i < j then false else c i
theorem offF_zero (f : F) (n : Nat) : offF f n n = f := by
  funext c
  unfold offF
  congr 1
  funext i
  rw [if_neg (by omega)]
theorem offF_succ (f : F) {n j : Nat} (h : n ≤ j) (c : Nat → Bool) : offF f n j (updI c j false) = offF f n (j + 1) c := by
  unfold offF
  congr 1
  funext i
  rw [updI_upd]
  unfold upd
  by_cases e : i = j
  · subst e
    rw [if_neg (by omega), if_pos rfl, if_pos (by omega)]
  · by_cases h1 : n ≤ i ∧ i < j
    · rw [if_pos h1, if_pos (by omega)]
    · rw [if_neg h1, if_neg e, if_neg (by omega)]

theorem IsF.low {w : World} {v : Value} {f : F} (h : IsF w v f) : LowF f 24 := fun c d hcd => by
  obtain ⟨t, hd, he⟩ := h
  rw [← he, ← he]
  exact ev_congr t hd.1 fun j _ hj => hcd j hj

theorem offF_low {f : F} (h : LowF f 24) (n : Nat) : LowF (offF f n 24) n := fun c d hcd => by
  refine h _ _ fun i hi => ?_
  by_cases e : n ≤ i
  · show (if n ≤ i ∧ i < 24 then false else c i) = (if n ≤ i ∧ i < 24 then false else d i)
    rw [if_pos ⟨e, hi⟩, if_pos ⟨e, hi⟩]
  · show (if n ≤ i ∧ i < 24 then false else c i) = (if n ≤ i ∧ i < 24 then false else d i)
    rw [if_neg (by omega), if_neg (by omega), hcd i (by omega)]

/-- THE DOCUMENT's LIST: the configurations below 2^n. -/
def wantL (f : F) (n : Nat) : List Nat := (List.range (2 ^ n)).filter fun c => f c.testBit

theorem lst_want (f : F) (n : Nat) : lst (offF f n 24) n 0 = wantL f n := by
  unfold lst wantL
  have h : (fun c : Nat => 0 ||| c) = id := by
    funext c
    simp
  rw [h, List.map_id]
  refine List.filter_congr fun c hc => ?_
  show f _ = f _
  congr 1
  funext i
  by_cases e : n ≤ i ∧ i < 24
  · rw [if_pos e]
    exact (Nat.testBit_lt_two_pow (Nat.lt_of_lt_of_le (List.mem_range.1 hc) (Nat.pow_le_pow_right (by omega) e.1))).symm
  · rw [if_neg e]

theorem lst_lt {f : F} {k above : Nat} (hk : k ≤ 24) (ha : above < 2 ^ 24) : ∀ c ∈ lst f k above, c < 2 ^ 24 := fun c hc => by
  obtain ⟨d, hd, rfl⟩ := List.mem_map.1 hc
  have hlt := List.mem_range.1 (List.mem_filter.1 hd).1
  exact Nat.or_lt_two_pow ha (Nat.lt_of_lt_of_le hlt (Nat.pow_le_pow_right (by omega) hk))
theorem lst_len (f : F) (k above : Nat) : (lst f k above).length ≤ 2 ^ k := by
  unfold lst
  rw [List.length_map]
  exact Nat.le_trans (List.length_filter_le _ _) (by simp)

/-! ### What a round keeps -/

/-- A block that a round may change: no nodes, no set's box. -/
def RndS (W : World) (b : Nat) : Prop := ∃ o : Obj, W.heap[b]? = some o ∧ ∀ cur fr, o ≠ .cells cur 26 fr ∧ o ≠ .cells cur 31 fr
def KeepD (W W' : World) : Prop := Kept (RndS W) W W'

theorem Near.keepD {W W' : World} (h : Near W W') : KeepD W W' := h.kept
theorem KeepD.trans {A B C : World} (h : KeepD A B) (k : KeepD B C) : KeepD A C := by
  refine ⟨k.os.trans h.os, k.tape.trans h.tape, k.output.trans h.output, Nat.le_trans h.size k.size, fun b hb hs => ?_⟩
  have h1 := h.block b hb hs
  refine (k.block b (Nat.lt_of_lt_of_le hb h.size) fun hs' => hs ?_).trans h1
  obtain ⟨o, ho, hne⟩ := hs'
  exact ⟨o, h1.symm.trans ho, hne⟩
theorem KeepD.box {W W' : World} (h : KeepD W W') {b : Nat} {cs : Array Value} {fr : Nat × Nat} (hb : W.heap[b]? = some (.cells cs 31 fr)) : W'.heap[b]? = some (.cells cs 31 fr) := by
  refine (h.block b (Array.getElem?_eq_some_iff.1 hb).1 fun hs => ?_).trans hb
  obtain ⟨o, ho, hne⟩ := hs
  rw [hb] at ho
  cases ho
  exact (hne cs fr).2 rfl
theorem IsF.keepD {W W' : World} {v : Value} {f : F} (h : IsF W v f) (hk : KeepD W W') : IsF W' v f := by
  obtain ⟨t, ⟨ok, sv, rfl, hrow⟩, he⟩ := h
  refine ⟨t, ⟨ok, sv, rfl, owns_kept (R := RndS W) hrow hk (fun k hk' hrk => ?_)⟩, he⟩
  obtain ⟨o, ho, hne⟩ := hrk
  rcases hrow.2 with ⟨rfl, _⟩ | ⟨g, cap, cur, rfl, _, hgb, _⟩
  · cases hk'
  · cases hk'
    rw [hgb] at ho
    cases ho
    exact (hne _ _).1 rfl
theorem keepD_putObj {W : World} {l : Nat} {o : Obj} (o' : Obj) (hl : W.heap[l]? = some o) (ho : o.isCells = false) : KeepD W (W.putObj l o') :=
  Kept.mono (kept_putObj W l o') fun b _ hb => by
    obtain rfl : b = l := hb
    exact ⟨o, hl, fun cur fr => ⟨fun e => (by rw [e] at ho; cases ho), fun e => (by rw [e] at ho; cases ho)⟩⟩
theorem near_grown {W W' : World} (h : Near W W') : W.grownBy W' none := ⟨h.os, h.tape, h.output, h.size, fun k hk _ => h.block k hk id⟩

end Go.Proofs.Ytefclohjeompkaa
