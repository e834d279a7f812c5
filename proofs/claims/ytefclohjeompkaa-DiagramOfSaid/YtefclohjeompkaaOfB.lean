/- What a caller's list of decisions describes: trees; plain. And an own row of places beside a maker. -/
import Derived.Test.YtefclohjeompkaaOfA
namespace Go.Proofs.Ytefclohjeompkaa
open Go Go.RowKit Go.Proofs.Gen Go.Proofs.Bdd Go.Proofs.Bdd.T

/-- The trees of the first k elements, behind the two leaves. -/
def trTo (l : List Dec) : Nat → List T
  | 0 => [leaf false, leaf true]
  | k + 1 => trTo l k ++ [match l[k]? with
    | some x => T.mk x.v.toNat ((trTo l k).getD x.lo.toNat (leaf false)) ((trTo l k).getD x.hi.toNat (leaf false))
    | none => leaf false]

theorem trTo_len (l : List Dec) : ∀ k, (trTo l k).length = k + 2
  | 0 => rfl
  | k + 1 => by rw [trTo, List.length_append, trTo_len l k]; rfl

def Fine (l : List Dec) (k : Nat) : Prop := ∃ x, l[k]? = some x ∧ 0 ≤ x.v ∧ x.v < 24 ∧ BelowOk l k x.lo ∧ BelowOk l k x.hi

theorem tr_kid_of {l : List Dec} {k : Nat} (ih : ∀ j t, (trTo l k)[j]? = some t → t.Ok ∧ ∀ x : Dec, 2 ≤ j → l[j - 2]? = some x → x.v ≤ (t.lv : Int)) {r : Int} {x : Dec} (hb : BelowOk l k r) (hx : l[k]? = some x) (h24 : x.v < 24) :
    ∃ t : T, (trTo l k)[r.toNat]? = some t ∧ t.Ok ∧ x.v < (t.lv : Int) := by
  obtain ⟨h0, h1, h2⟩ := hb
  have hlen := trTo_len l k
  have hkl : k < l.length := (List.getElem?_eq_some_iff.1 hx).1
  have hr : r.toNat < (trTo l k).length := by omega
  refine ⟨_, List.getElem?_eq_getElem hr, (ih _ _ (List.getElem?_eq_getElem hr)).1, ?_⟩
  by_cases h : r < 2
  · have key : ∀ k, (trTo l k)[0]? = some (leaf false) ∧ (trTo l k)[1]? = some (leaf true) := by
      intro k
      induction k with
      | zero => exact ⟨rfl, rfl⟩
      | succ k ih =>
        have := trTo_len l k
        rw [trTo, List.getElem?_append_left (by omega), List.getElem?_append_left (by omega)]
        exact ih
    have hkey := key k
    rcases (show r = 0 ∨ r = 1 by omega) with rfl | rfl
    · have : (trTo l k)[(0 : Int).toNat]'hr = leaf false := by
        have h := hkey.1
        rw [List.getElem?_eq_getElem (by omega)] at h
        exact Option.some.inj h
      rw [this]
      exact h24
    · have : (trTo l k)[(1 : Int).toNat]'hr = leaf true := by
        have h := hkey.2
        rw [List.getElem?_eq_getElem (by omega)] at h
        exact Option.some.inj h
      rw [this]
      exact h24
  · rcases h2 with h2 | h2
    · exact (h h2).elim
    · have hq : l[(r - 2).toNat]? = some (l[(r - 2).toNat]'(by omega)) := List.getElem?_eq_getElem (by omega)
      have a := h2 _ _ hq hx
      have b := (ih _ _ (List.getElem?_eq_getElem hr)).2 _ (by omega) (by rw [show r.toNat - 2 = (r - 2).toNat from by omega]; exact hq)
      omega

theorem tr_facts {l : List Dec} : ∀ {k : Nat}, (∀ j, j < k → Fine l j) → ∀ j t, (trTo l k)[j]? = some t → t.Ok ∧ ∀ x : Dec, 2 ≤ j → l[j - 2]? = some x → x.v ≤ (t.lv : Int)
  | 0, _, j, t, hj => by
    match j, hj with
    | 0, hj => simp [trTo] at hj; subst hj; exact ⟨trivial, fun x h => by omega⟩
    | 1, hj => simp [trTo] at hj; subst hj; exact ⟨trivial, fun x h => by omega⟩
  | k + 1, h, j, t, hj => by
    have ih := tr_facts (l := l) (k := k) (fun j hj => h j (by omega))
    have hlen := trTo_len l k
    obtain ⟨x, hx, g0, g1, glo, ghi⟩ := h k (by omega)
    rw [trTo] at hj
    by_cases hlt : j < (trTo l k).length
    · rw [List.getElem?_append_left hlt] at hj
      exact ih j t hj
    · rw [List.getElem?_append_right (by omega)] at hj
      have hj' : j = k + 2 := by
        have := (List.getElem?_eq_some_iff.1 hj).1
        simp at this
        omega
      subst hj'
      rw [hlen, Nat.sub_self, hx] at hj
      simp only [List.getElem?_cons_zero, Option.some.injEq] at hj
      obtain ⟨tl, e1, o1, v1⟩ := tr_kid_of ih glo hx g1
      obtain ⟨th, e2, o2, v2⟩ := tr_kid_of ih ghi hx g1
      rw [List.getD_eq_getElem?_getD, List.getD_eq_getElem?_getD, e1, e2] at hj
      simp only [Option.getD_some] at hj
      subst hj
      refine ⟨mk_ok (by omega) (by omega) (by omega) o1 o2, fun y _ hy => ?_⟩
      have hy' : l[k]? = some y := hy
      rw [hx] at hy'
      cases hy'
      have := mk_lv (i := x.v.toNat) (l := tl) (h := th) (by omega)
      omega

theorem tr_kid {l : List Dec} {k : Nat} (h : ∀ j, j < k → Fine l j) {r : Int} {x : Dec} (hb : BelowOk l k r) (hx : l[k]? = some x) (h24 : x.v < 24) :
    ∃ t : T, (trTo l k)[r.toNat]? = some t ∧ t.Ok ∧ x.v < (t.lv : Int) := tr_kid_of (tr_facts h) hb hx h24

theorem trTo_next {l : List Dec} {k : Nat} {x : Dec} {tl th : T} (hx : l[k]? = some x) (hl : (trTo l k)[x.lo.toNat]? = some tl) (hh : (trTo l k)[x.hi.toNat]? = some th) : trTo l (k + 1) = trTo l k ++ [T.mk x.v.toNat tl th] := by
  rw [trTo, hx]
  simp only [List.getD_eq_getElem?_getD, hl, hh, Option.getD_some]

/-! ### A maker and an own row of places -/

def mine (b : Nat) (x : Value) : Nat → Prop := fun k => b ≤ k ∧ x.ownBlock ≠ some k

/-- A maker, and beside it places of trees. -/
structure Places (b : Nat) (w : World) (mb : Nat) (x : Value) (ts : List T) (L : List T) : Prop where
  good : T.Good L
  maker : IsMaker w mb (mine b x) L
  row : w.ownsRow b 3 1 x ts.length (ts.map fun t => iv (pl L t))
  inn : ∀ t ∈ ts, In L t

theorem Places.node {b : Nat} {w w1 : World} {mb : Nat} {x : Value} {ts L : List T} {i : Nat} {l h : T} (P : Places b w mb x ts L) (il : In L l) (ih : In L h) (hi : i < 24) (hl : i < l.lv) (hh : i < h.lv) (ol : l.Ok) (oh : h.Ok)
    (hm : IsMaker w1 mb (mine b x) (add L i l h)) (hk : Kept (mine b x) w w1) : Places b w1 mb x ts (add L i l h) := by
  refine ⟨add_good P.good il ih hi hl hh ol oh, hm, ?_, fun t ht => ?_⟩
  · have e : (ts.map fun t => iv (pl (add L i l h) t)) = ts.map fun t => iv (pl L t) := by
      refine List.map_congr_left fun t ht => ?_
      obtain ⟨M, hM⟩ := add_prefix L i l h
      rw [hM, pl_append (P.inn t ht)]
    rw [e]
    exact owns_kept P.row hk (fun k hk => fun hm => hm.2 hk)
  · obtain ⟨M, hM⟩ := add_prefix L i l h
    rw [hM]
    exact (P.inn t ht).mono M

theorem Places.same {b : Nat} {w : World} {mb : Nat} {x : Value} {ts L : List T} (P : Places b w mb x ts L) (i : Nat) (l h : T) : (ts.map fun t => iv (pl L t)) = ts.map fun t => iv (pl (add L i l h) t) := by
  refine List.map_congr_left fun t ht => ?_
  obtain ⟨M, hM⟩ := add_prefix L i l h
  rw [hM, pl_append (P.inn t ht)]

theorem Places.near {b : Nat} {w w1 : World} {mb : Nat} {x : Value} {ts L : List T} (P : Places b w mb x ts L) (hn : Near w w1) : Places b w1 mb x ts L :=
  ⟨P.good, P.maker.near hn, owns_kept P.row hn.kept (fun _ _ x => x), P.inn⟩

theorem Places.push {b : Nat} {w w1 : World} {mb : Nat} {x x1 : Value} {ts L : List T} {t : T} {o : Obj} (P : Places b w mb x ts L) (hin : In L t)
    (hr : w1.ownsRow b 3 1 x1 (ts.length + 1) ((ts.map fun t => iv (pl L t)) ++ [iv (pl L t)])) (hg : (w.alloc o).grownBy w1 x.ownBlock)
    (hb : x1.ownBlock = x.ownBlock ∨ x1.ownBlock = some (w.alloc o).heap.size) : Places b w1 mb x1 (ts ++ [t]) L := by
  refine ⟨P.good, ?_, by rw [List.length_append, List.map_append]; exact hr, fun s hs => ?_⟩
  · have h1 : IsMaker w mb (fun k => b ≤ k ∧ k < w.heap.size ∧ x.ownBlock ≠ some k) L := P.maker.mono_lt fun k hk h => ⟨h.1, hk, h.2⟩
    have h2 : Kept (fun k => x.ownBlock = some k) w w1 := Kept.grown ((Kept.refl _ _).alloc o) hg (fun k hk _ => hk)
    have h3 := h1.of_kept h2 (fun k _ hk => hk.2.2)
    refine h3.mono fun k hk => ⟨hk.1, ?_⟩
    rcases hb with hb | hb
    · rw [hb]
      exact hk.2.2
    · rw [hb]
      intro e
      have := hk.2.1
      simp at e
      omega
  · rcases List.mem_append.1 hs with hs | hs
    · exact P.inn s hs
    · simp at hs
      subst hs
      exact hin

end Go.Proofs.Ytefclohjeompkaa
