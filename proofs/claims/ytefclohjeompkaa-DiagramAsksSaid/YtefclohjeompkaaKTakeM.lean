/- Moves in a region that draws its order, where the region is long: what has come up is a number's bits. Over any program. -/
import Derived.Test.YtefclohjeompkaaKEachB
namespace Go.Proofs.Ytefclohjeompkaa
open Go Go.RowKit Go.Shelf Go.Proofs.Gen

/-- Nobody else touches number k's temporaries. -/
def goFree (md : Region.Mode) (ops : Array Oper) (m k : Nat) (oi : Oper) : List Oper → Nat → Bool
  | [], _ => true
  | oj :: r, j => (j == k || (m.testBit j || ((oj.after.toList.any fun e => Region.binds md e && e.on == k) || oi.apart ops oj))) && goFree md ops m k oi r (j + 1)

/-- All but number k have come up, or wait. -/
def goOne (md : Region.Mode) (m k : Nat) : List Oper → Nat → Bool
  | [], _ => true
  | oj :: r, j => (j == k || (m.testBit j || (oj.after.toList.any fun e => Region.binds md e && !(m.testBit e.on)))) && goOne md m k r (j + 1)

/-- Number k may come up. -/
def okNow (md : Region.Mode) (n m k : Nat) (oi : Oper) : Bool := !(m.testBit k) && oi.after.toList.all fun e => !(Region.binds md e) || (m.testBit e.on && decide (e.on < n))

theorem goFree_at {md : Region.Mode} {ops : Array Oper} {m k : Nat} {oi : Oper} : ∀ (l : List Oper) (b : Nat), goFree md ops m k oi l b = true → ∀ j oj, l[j]? = some oj →
    ((b + j == k) = true ∨ m.testBit (b + j) = true ∨ (oj.after.toList.any fun e => Region.binds md e && e.on == k) = true ∨ oi.apart ops oj = true)
  | [], _, _, j, oj, h => by simp at h
  | o :: r, b, h, j, oj, hj => by
    unfold goFree at h
    rw [Bool.and_eq_true] at h
    cases j with
    | zero =>
      cases hj
      have := h.1
      simp only [Bool.or_eq_true] at this
      rw [Nat.add_zero]
      rcases this with h | h | h | h
      · exact .inl h
      · exact .inr (.inl h)
      · exact .inr (.inr (.inl h))
      · exact .inr (.inr (.inr h))
    | succ j =>
      have := goFree_at r (b + 1) h.2 j oj (by simpa using hj)
      rwa [show b + 1 + j = b + (j + 1) by omega] at this

theorem goOne_at {md : Region.Mode} {m k : Nat} : ∀ (l : List Oper) (b : Nat), goOne md m k l b = true → ∀ j oj, l[j]? = some oj →
    ((b + j == k) = true ∨ m.testBit (b + j) = true ∨ (oj.after.toList.any fun e => Region.binds md e && !(m.testBit e.on)) = true)
  | [], _, _, j, oj, h => by simp at h
  | o :: r, b, h, j, oj, hj => by
    unfold goOne at h
    rw [Bool.and_eq_true] at h
    cases j with
    | zero =>
      cases hj
      have := h.1
      simp only [Bool.or_eq_true] at this
      rw [Nat.add_zero]
      rcases this with h | h | h
      · exact .inl h
      · exact .inr (.inl h)
      · exact .inr (.inr h)
    | succ j =>
      have := goOne_at r (b + 1) h.2 j oj (by simpa using hj)
      rwa [show b + 1 + j = b + (j + 1) by omega] at this

/-- What has come up, as bits. -/
def Marks (listed : Array Bool) (n m : Nat) : Prop := listed.size = n ∧ ∀ j, j < n → listed[j]? = some (m.testBit j)

theorem Marks.start (n : Nat) : Marks (Array.replicate n false) n 0 := ⟨by simp, fun j hj => by simp [hj]⟩
theorem Marks.next {listed : Array Bool} {n m : Nat} (h : Marks listed n m) (k : Nat) : Marks (listed.setIfInBounds k true) n (m ||| 2 ^ k) := by
  refine ⟨by simpa using h.1, fun j hj => ?_⟩
  rw [Array.getElem?_setIfInBounds, Nat.testBit_or, Nat.testBit_two_pow]
  by_cases e : k = j
  · subst e
    rw [if_pos rfl, if_pos (by rw [h.1]; exact hj)]
    simp
  · rw [if_neg e, h.2 j hj]
    simp [e]
theorem Marks.get {listed : Array Bool} {n m j : Nat} (h : Marks listed n m) (hj : j < n) (d : Bool) : listed.getD j d = m.testBit j := by
  rw [Array.getD_eq_getD_getElem?, h.2 j hj]
  rfl

section
variable {P : Program} {Q : Exit → Act → World → Prop} {md : Region.Mode} {S : World → Prop} {f m : Nat} {a : Act} {w : World} {v : Value} {oi : Oper} {l : List Oper}

theorem ok_ready {listed : Array Bool} (hm : Marks listed l.length m) {k : Nat} (hi : l[k]? = some oi) (hc : okNow md l.length m k oi = true) : k ∈ Region.ready md l.toArray listed := by
  have hk : k < l.length := (List.getElem?_eq_some_iff.1 hi).1
  unfold okNow at hc
  rw [Bool.and_eq_true, List.all_eq_true] at hc
  refine mem_ready.2 ⟨?_, oi, by simpa using hi, fun e he hb => ?_⟩
  · rw [hm.get hk]
    simpa using hc.1
  · have := hc.2 e (Array.mem_toList_iff.2 he)
    rw [hb] at this
    simp only [Bool.not_true, Bool.false_or, Bool.and_eq_true, decide_eq_true_eq] at this
    rw [hm.get this.2]
    exact this.1

def wpM (P : Program) (md : Region.Mode) (l : List Oper) (Q : Exit → Act → World → Prop) (S : World → Prop) (f m : Nat) (a : Act) (w : World) : Prop :=
  Region.noSelect l.toArray = true → ∀ listed, Marks listed l.length m → wpAnyH P md l.toArray Q S f listed a w

theorem startM {id : Nat} (hm : P.follows .mixedOrders = true) (hs : Region.noSelect l.toArray = true) (hS : S w.drew) (n : Nat) (hn : l.length = n) (h : S w.drew → wpM P .any l Q S n 0 a w.drew) : (Code.region id l.toArray true).wp P Q a w := by
  refine wp_region_held_drew hm hS fun hh => ?_
  have e : l.toArray.size = l.length := by simp
  rw [e]
  have := h hh hs _ (Marks.start l.length)
  rwa [← hn] at this

theorem takeM (k m' : Nat) (he : m ||| 2 ^ k = m') (hi : l[k]? = some oi) (hc : (okNow md l.length m k oi && goFree md l.toArray m k oi l 0) = true)
    (hQ : ∀ c a w, Q (.panic c) (a.put oi.dst v) w → Q (.panic c) a w) (hw : Region.wanted oi (yielded l.toArray a.tmps) = true) (hy : ∀ w, S w → (execOp a.eval oi).run P w = .ok (.value v) w) (hS : S w)
    (h : wpM P md l Q S f m' (a.put oi.dst v) w) : wpM P md l Q S (f + 1) m a w := by
  subst he
  intro hs listed hm
  rw [Bool.and_eq_true] at hc
  have hr := ok_ready hm hi hc.1
  refine wpAnyH_take (i := k) (oi := oi) (by rw [List.getElem?_toArray]; exact hi) hs ?_ (by simpa using hr) hQ (Or.inl ⟨hw, hy⟩) hS (h hs _ (hm.next k))
  unfold Region.free
  rw [show l.toArray[k]? = some oi by simpa using hi]
  refine List.all_eq_true.2 fun j hj => ?_
  have hjl : j < l.length := by simpa using hj
  have hoj : l[j]? = some (l[j]'hjl) := List.getElem?_eq_getElem hjl
  rw [show l.toArray[j]? = some (l[j]'hjl) by rw [List.getElem?_toArray]; exact hoj, hm.get hjl]
  have := goFree_at l 0 hc.2 j _ hoj
  rw [Nat.zero_add] at this
  simp only [Bool.or_eq_true]
  rcases this with h | h | h | h
  · exact .inl (.inl h)
  · exact .inl (.inr h)
  · exact .inr (.inl (by rwa [← Array.any_toList]))
  · exact .inr (.inr h)

theorem oneM (k m' : Nat) (he : m ||| 2 ^ k = m') (hi : l[k]? = some oi) (hc : (okNow md l.length m k oi && goOne md m k l 0) = true) (hw : Region.wanted oi (yielded l.toArray a.tmps) = true)
    (h : ∀ K' : Act → World → Prop, Shut (∀ a w, S w → (S w → wpM P md l Q S f m' a w) → K' a w) → Oper.wp P oi a w K' Q) : wpM P md l Q S (f + 1) m a w := by
  subst he
  intro hs listed hm
  rw [Bool.and_eq_true] at hc
  have hr := ok_ready hm hi hc.1
  refine wpAnyH_all rfl (fun e => by rw [e] at hr; cases hr) fun i hri => ?_
  have hik : i = k := by
    obtain ⟨hun, o, ho, hall⟩ := mem_ready.1 hri
    have ho' : l[i]? = some o := by simpa using ho
    have hil : i < l.length := (List.getElem?_eq_some_iff.1 ho').1
    have := goOne_at l 0 hc.2 i o ho'
    rw [Nat.zero_add] at this
    rcases this with h | h | h
    · simpa using h
    · rw [hm.get hil] at hun
      rw [h] at hun
      cases hun
    · obtain ⟨e, he, hb⟩ := List.any_eq_true.1 h
      rw [Bool.and_eq_true] at hb
      have h1 := hall e (Array.mem_toList_iff.1 he) hb.1
      by_cases hel : e.on < l.length
      · rw [hm.get hel] at h1
        rw [h1] at hb
        cases hb.2
      · rw [Array.getD_eq_getD_getElem?, Array.getElem?_eq_none (by rw [hm.1]; omega)] at h1
        cases h1
  subst hik
  exact wpOp_step (by simpa using hi) (fun K' hK => by
    rw [if_pos hw]
    exact h K' (fun a w hS hW => hK a w ⟨hS, hW hS hs _ (hm.next i)⟩))

theorem doneM (hc : goOne md m l.length l 0 = true) (h : Q .normal a w) : wpM P md l Q S 0 m a w := by
  intro hs listed hm
  refine wpAnyH_done ?_ h _
  refine List.eq_nil_iff_forall_not_mem.2 fun i hri => ?_
  obtain ⟨hun, o, ho, hall⟩ := mem_ready.1 hri
  have ho' : l[i]? = some o := by simpa using ho
  have hil : i < l.length := (List.getElem?_eq_some_iff.1 ho').1
  have := goOne_at l 0 hc i o ho'
  rw [Nat.zero_add] at this
  rcases this with h | h | h
  · have : i = l.length := by simpa using h
    omega
  · rw [hm.get hil, h] at hun
    cases hun
  · obtain ⟨e, he, hb⟩ := List.any_eq_true.1 h
    rw [Bool.and_eq_true] at hb
    have h1 := hall e (Array.mem_toList_iff.1 he) hb.1
    by_cases hel : e.on < l.length
    · rw [hm.get hel] at h1
      rw [h1] at hb
      cases hb.2
    · rw [Array.getD_eq_getD_getElem?, Array.getElem?_eq_none (by rw [hm.1]; omega)] at h1
      cases h1
end

end Go.Proofs.Ytefclohjeompkaa
