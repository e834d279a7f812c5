/- Parts of a proof: TakeM, AlgB. -/
import Derived.Test.YtefclohjeompkaaKEachB
import Derived.Test.YtefclohjeompkaaKAlgA
/- Moves in a region that draws its order, where the region is long: what has come up is a number's bits. Over any program. -/
namespace Go.Proofs.Ytefclohjeompkaa
open Go Go.RowKit Go.Shelf Go.Proofs.Gen

/-- Nobody else touches number k's temporaries. -/
def goFree (md : Region.Mode) (ops : Array Oper) (m k : Nat) (oi : Oper) : List Oper → Nat → Bool
  | [], _ => true
  | oj :: r, j => (j == k || (m.testBit j || ((oj.after.toList.any fun e => Region.binds md e && e.on == k) || oi.apart ops oj))) && goFree md ops m k oi r (j + 1)

/-- All but number k have come up, or wait. -/
def goOne (md : Region.Mode) (m k : Nat) : List Oper → Nat → Bool
  | [], _ => true
  | oj :: r, j => (j == k || (m.testBit j || (oj.after.toList.any fun e => Region.binds md e && !(m.testBit e.on)))) && goOne md m k r (j + 1)

/-- Number k may come up. -/
def okNow (md : Region.Mode) (n m k : Nat) (oi : Oper) : Bool := !(m.testBit k) && oi.after.toList.all fun e => !(Region.binds md e) || (m.testBit e.on && decide (e.on < n))

theorem goFree_at {md : Region.Mode} {ops : Array Oper} {m k : Nat} {oi : Oper} : ∀ (l : List Oper) (b : Nat), goFree md ops m k oi l b = true → ∀ j oj, l[j]? = some oj →
    ((b + j == k) = true ∨ m.testBit (b + j) = true ∨ (oj.after.toList.any fun e => Region.binds md e && e.on == k) = true ∨ oi.apart ops oj = true)
  | [], _, _, j, oj, h => by simp at h
  | o :: r, b, h, j, oj, hj => by
    unfold goFree at h
    rw [Bool.and_eq_true] at h
    cases j with
    | zero =>
      cases hj
      have := h.1
      simp only [Bool.or_eq_true] at this
      rw [Nat.add_zero]
      rcases this with h | h | h | h
      · exact .inl h
      · exact .inr (.inl h)
      · exact .inr (.inr (.inl h))
      · exact .inr (.inr (.inr h))
    | succ j =>
      have := goFree_at r (b + 1) h.2 j oj (by simpa using hj)
      rwa [show b + 1 + j = b + (j + 1) by omega] at this

theorem goOne_at {md : Region.Mode} {m k : Nat} : ∀ (l : List Oper) (b : Nat), goOne md m k l b = true → ∀ j oj, l[j]? = some oj →
    ((b + j == k) = true ∨ m.testBit (b + j) = true ∨ (oj.after.toList.any fun e => Region.binds md e && !(m.testBit e.on)) = true)
  | [], _, _, j, oj, h => by simp at h
  | o :: r, b, h, j, oj, hj => by
    unfold goOne at h
    rw [Bool.and_eq_true] at h
    cases j with
    | zero =>
      cases hj
      have := h.1
      simp only [Bool.or_eq_true] at this
      rw [Nat.add_zero]
      rcases this with h | h | h
      · exact .inl h
      · exact .inr (.inl h)
      · exact .inr (.inr h)
    | succ j =>
      have := goOne_at r (b + 1) h.2 j oj (by simpa using hj)
      rwa [show b + 1 + j = b + (j + 1) by omega] at this

/-- What has come up, as bits. -/
def Marks (listed : Array Bool) (n m : Nat) : Prop := listed.size = n ∧ ∀ j, j < n → listed[j]? = some (m.testBit j)

theorem Marks.start (n : Nat) : Marks (Array.replicate n false) n 0 := ⟨by simp, fun j hj => by simp [hj]⟩
theorem Marks.next {listed : Array Bool} {n m : Nat} (h : Marks listed n m) (k : Nat) : Marks (listed.setIfInBounds k true) n (m ||| 2 ^ k) := by
  refine ⟨by simpa using h.1, fun j hj => ?_⟩
  rw [Array.getElem?_setIfInBounds, Nat.testBit_or, Nat.testBit_two_pow]
  by_cases e : k = j
  · subst e
    rw [if_pos rfl, if_pos (by rw [h.1]; exact hj)]
    simp
  · rw [if_neg e, h.2 j hj]
    simp [e]
theorem Marks.get {listed : Array Bool} {n m j : Nat} (h : Marks listed n m) (hj : j < n) (d : Bool) : listed.getD j d = m.testBit j := by
  rw [Array.getD_eq_getD_getElem?, h.2 j hj]
  rfl

section
variable {P : Program} {Q : Exit → Act → World → Prop} {md : Region.Mode} {S : World → Prop} {f m : Nat} {a : Act} {w : World} {v : Value} {oi : Oper} {l : List Oper}

theorem ok_ready {listed : Array Bool} (hm : Marks listed l.length m) {k : Nat} (hi : l[k]? = some oi) (hc : okNow md l.length m k oi = true) : k ∈ Region.ready md l.toArray listed := by
  have hk : k < l.length := (List.getElem?_eq_some_iff.1 hi).1
  unfold okNow at hc
  rw [Bool.and_eq_true, List.all_eq_true] at hc
  refine mem_ready.2 ⟨?_, oi, by simpa using hi, fun e he hb => ?_⟩
  · rw [hm.get hk]
    simpa using hc.1
  · have := hc.2 e (Array.mem_toList_iff.2 he)
    rw [hb] at this
    simp only [Bool.not_true, Bool.false_or, Bool.and_eq_true, decide_eq_true_eq] at this
    rw [hm.get this.2]
    exact this.1

def wpM (P : Program) (md : Region.Mode) (l : List Oper) (Q : Exit → Act → World → Prop) (S : World → Prop) (f m : Nat) (a : Act) (w : World) : Prop :=
  Region.noSelect l.toArray = true → ∀ listed, Marks listed l.length m → wpAnyH P md l.toArray Q S f listed a w

theorem startM {id : Nat} (hm : P.follows .mixedOrders = true) (hs : Region.noSelect l.toArray = true) (hS : S w.drew) (n : Nat) (hn : l.length = n) (h : S w.drew → wpM P .any l Q S n 0 a w.drew) : (Code.region id l.toArray true).wp P Q a w := by
  refine wp_region_held_drew hm hS fun hh => ?_
  have e : l.toArray.size = l.length := by simp
  rw [e]
  have := h hh hs _ (Marks.start l.length)
  rwa [← hn] at this

theorem takeM (k m' : Nat) (he : m ||| 2 ^ k = m') (hi : l[k]? = some oi) (hc : (okNow md l.length m k oi && goFree md l.toArray m k oi l 0) = true)
    (hQ : ∀ c a w, Q (.panic c) (a.put oi.dst v) w → Q (.panic c) a w) (hw : Region.wanted oi (yielded l.toArray a.tmps) = true) (hy : ∀ w, S w → (execOp a.eval oi).run P w = .ok (.value v) w) (hS : S w)
    (h : wpM P md l Q S f m' (a.put oi.dst v) w) : wpM P md l Q S (f + 1) m a w := by
  subst he
  intro hs listed hm
  rw [Bool.and_eq_true] at hc
  have hr := ok_ready hm hi hc.1
  refine wpAnyH_take (i := k) (oi := oi) (by rw [List.getElem?_toArray]; exact hi) hs ?_ (by simpa using hr) hQ (Or.inl ⟨hw, hy⟩) hS (h hs _ (hm.next k))
  unfold Region.free
  rw [show l.toArray[k]? = some oi by simpa using hi]
  refine List.all_eq_true.2 fun j hj => ?_
  have hjl : j < l.length := by simpa using hj
  have hoj : l[j]? = some (l[j]'hjl) := List.getElem?_eq_getElem hjl
  rw [show l.toArray[j]? = some (l[j]'hjl) by rw [List.getElem?_toArray]; exact hoj, hm.get hjl]
  have := goFree_at l 0 hc.2 j _ hoj
  rw [Nat.zero_add] at this
  simp only [Bool.or_eq_true]
  rcases this with h | h | h | h
  · exact .inl (.inl h)
  · exact .inl (.inr h)
  · exact .inr (.inl (by rwa [← Array.any_toList]))
  · exact .inr (.inr h)

theorem oneM (k m' : Nat) (he : m ||| 2 ^ k = m') (hi : l[k]? = some oi) (hc : (okNow md l.length m k oi && goOne md m k l 0) = true) (hw : Region.wanted oi (yielded l.toArray a.tmps) = true)
    (h : ∀ K' : Act → World → Prop, Shut (∀ a w, S w → (S w → wpM P md l Q S f m' a w) → K' a w) → Oper.wp P oi a w K' Q) : wpM P md l Q S (f + 1) m a w := by
  subst he
  intro hs listed hm
  rw [Bool.and_eq_true] at hc
  have hr := ok_ready hm hi hc.1
  refine wpAnyH_all rfl (fun e => by rw [e] at hr; cases hr) fun i hri => ?_
  have hik : i = k := by
    obtain ⟨hun, o, ho, hall⟩ := mem_ready.1 hri
    have ho' : l[i]? = some o := by simpa using ho
    have hil : i < l.length := (List.getElem?_eq_some_iff.1 ho').1
    have := goOne_at l 0 hc.2 i o ho'
    rw [Nat.zero_add] at this
    rcases this with h | h | h
    · simpa using h
    · rw [hm.get hil] at hun
      rw [h] at hun
      cases hun
    · obtain ⟨e, he, hb⟩ := List.any_eq_true.1 h
      rw [Bool.and_eq_true] at hb
      have h1 := hall e (Array.mem_toList_iff.1 he) hb.1
      by_cases hel : e.on < l.length
      · rw [hm.get hel] at h1
        rw [h1] at hb
        cases hb.2
      · rw [Array.getD_eq_getD_getElem?, Array.getElem?_eq_none (by rw [hm.1]; omega)] at h1
        cases h1
  subst hik
  exact wpOp_step (by simpa using hi) (fun K' hK => by
    rw [if_pos hw]
    exact h K' (fun a w hS hW => hK a w ⟨hS, hW hS hs _ (hm.next i)⟩))

theorem doneM (hc : goOne md m l.length l 0 = true) (h : Q .normal a w) : wpM P md l Q S 0 m a w := by
  intro hs listed hm
  refine wpAnyH_done ?_ h _
  refine List.eq_nil_iff_forall_not_mem.2 fun i hri => ?_
  obtain ⟨hun, o, ho, hall⟩ := mem_ready.1 hri
  have ho' : l[i]? = some o := by simpa using ho
  have hil : i < l.length := (List.getElem?_eq_some_iff.1 ho').1
  have := goOne_at l 0 hc i o ho'
  rw [Nat.zero_add] at this
  rcases this with h | h | h
  · have : i = l.length := by simpa using h
    omega
  · rw [hm.get hil, h] at hun
    cases hun
  · obtain ⟨e, he, hb⟩ := List.any_eq_true.1 h
    rw [Bool.and_eq_true] at hb
    have h1 := hall e (Array.mem_toList_iff.1 he) hb.1
    by_cases hel : e.on < l.length
    · rw [hm.get hel] at h1
      rw [h1] at hb
      cases hb.2
    · rw [Array.getD_eq_getD_getElem?, Array.getElem?_eq_none (by rw [hm.1]; omega)] at h1
      cases h1
end

end Go.Proofs.Ytefclohjeompkaa

/- The law DiagramAlgebra: the walk (printed by gen_alg.py). -/
namespace Go.Proofs.Ytefclohjeompkaa
open Go Go.RowKit Go.Proofs.Gen Go.Proofs.Bdd Go.Proofs.Bdd.T

set_option maxRecDepth 100000 in
set_option maxHeartbeats 64000000 in
theorem law_algebra {w : World} {v : Value} {l : List SOp} (h : RdOps w v l) : Calls Try.prog 11 #[v] w fun e w' => e = .returned (.bool true) ∧ Near w w' := by
  have h3 := three_calls h
  have H3 := Lib.hid h3
  clear h3
  obtain ⟨ao, cap, rfl, -⟩ := h
  by_cases hok : ThreeOk l
  · have hd : decide (ThreeOk l) = true := decide_eq_true hok
    have HD := Lib.hid hd
    clear hd hok
    go_enter Try.func11, Try.ntmps11
    go_wp2_with (first
      | (go_at_call 31; refine H3.out.mono ?_; rintro e w3 h3; obtain ⟨a1, a2, a3, a4, b1, b2, b3, b4, c1, c2, c3, c4, rfl, ia, ib, ic, n3⟩ := h3.mk; rw [HD.out]; have HIA := Lib.hid ia; have HIB := Lib.hid ib; have HIC := Lib.hid ic; have HN3 := Lib.hid n3; clear h3 ia ib ic n3))
    have hn : Near w3 (((w3.alloc (.cells #[.slice a1 a2 a3, .int .i64 a4] 31)).alloc (.cells #[.slice b1 b2 b3, .int .i64 b4] 31)).alloc (.cells #[.slice c1 c2 c3, .int .i64 c4] 31)) := (((Near.refl w3).alloc _).alloc _).alloc _
    have ha : (((w3.alloc (.cells #[.slice a1 a2 a3, .int .i64 a4] 31)).alloc (.cells #[.slice b1 b2 b3, .int .i64 b4] 31)).alloc (.cells #[.slice c1 c2 c3, .int .i64 c4] 31)).heap[w3.heap.size]? = some (.cells #[.slice a1 a2 a3, .int .i64 a4] 31 (0, 0)) := (heap_old_at (by simp <;> omega)).trans ((heap_old_at (by simp)).trans (heap_new_at rfl))
    have hb : (((w3.alloc (.cells #[.slice a1 a2 a3, .int .i64 a4] 31)).alloc (.cells #[.slice b1 b2 b3, .int .i64 b4] 31)).alloc (.cells #[.slice c1 c2 c3, .int .i64 c4] 31)).heap[w3.heap.size + 1]? = some (.cells #[.slice b1 b2 b3, .int .i64 b4] 31 (0, 0)) := (heap_old_at (by simp)).trans (heap_new_at (by simp))
    have hc : (((w3.alloc (.cells #[.slice a1 a2 a3, .int .i64 a4] 31)).alloc (.cells #[.slice b1 b2 b3, .int .i64 b4] 31)).alloc (.cells #[.slice c1 c2 c3, .int .i64 c4] 31)).heap[w3.heap.size + 1 + 1]? = some (.cells #[.slice c1 c2 c3, .int .i64 c4] 31 (0, 0)) := heap_new_at (by simp)
    generalize ((w3.alloc (.cells #[.slice a1 a2 a3, .int .i64 a4] 31)).alloc (.cells #[.slice b1 b2 b3, .int .i64 b4] 31)).alloc (.cells #[.slice c1 c2 c3, .int .i64 c4] 31) = W at hn ha hb hc ⊢
    have HFA := Lib.hid (HIA.out.near hn)
    have HFB := Lib.hid (HIB.out.near hn)
    have HFC := Lib.hid (HIC.out.near hn)
    have HNW := Lib.hid (HN3.out.trans hn)
    generalize tF l 1 = fa at *
    generalize tF l 2 = fb at *
    generalize tF l 3 = fc at *
    have HBA := Lib.hid ha
    have HBB := Lib.hid hb
    have HBC := Lib.hid hc
    clear hn ha hb hc HIA HIB HIC
    obtain ⟨q1, hq1⟩ : ∃ q : Bool, q = nowhere (fun c => fa c && !fb c) := ⟨_, rfl⟩
    obtain ⟨q2, hq2⟩ : ∃ q : Bool, q = nowhere (fun c => fa c && fb c) := ⟨_, rfl⟩
    have HQ1 := Lib.hid hq1
    have HQ2 := Lib.hid (hq1.trans (nowhere_same fa fb))
    have HQ3 := Lib.hid hq2
    have HQ4 := Lib.hid (show q2 = nowhere (fun c => fa c && !(fun c => !fb c) c) from hq2.trans (nowhere_congr fun c => by simp))
    clear hq1 hq2
    have HSKk := Lib.hid (show ∀ w', Near W w' → (fun w' => w'.cell? ⟨w3.heap.size, 0, none⟩ = some (.slice a1 a2 a3) ∧ w'.cell? ⟨w3.heap.size, 1, none⟩ = some (.int .i64 a4) ∧ w'.cell? ⟨w3.heap.size + 1, 0, none⟩ = some (.slice b1 b2 b3) ∧ w'.cell? ⟨w3.heap.size + 1, 1, none⟩ = some (.int .i64 b4) ∧ w'.cell? ⟨w3.heap.size + 1 + 1, 0, none⟩ = some (.slice c1 c2 c3) ∧ w'.cell? ⟨w3.heap.size + 1 + 1, 1, none⟩ = some (.int .i64 c4)) w' from fun w' h => ⟨h.cell (cell1 (o := 0) HBA.out rfl), h.cell (cell1 (o := 1) HBA.out rfl), h.cell (cell1 (o := 0) HBB.out rfl), h.cell (cell1 (o := 1) HBB.out rfl), h.cell (cell1 (o := 0) HBC.out rfl), h.cell (cell1 (o := 1) HBC.out rfl)⟩)
    simp only [List.append_eq, List.cons_append, List.nil_append]
    refine wp_region_noPanic ?_
    refine startM (S := (fun w' => w'.cell? ⟨w3.heap.size, 0, none⟩ = some (.slice a1 a2 a3) ∧ w'.cell? ⟨w3.heap.size, 1, none⟩ = some (.int .i64 a4) ∧ w'.cell? ⟨w3.heap.size + 1, 0, none⟩ = some (.slice b1 b2 b3) ∧ w'.cell? ⟨w3.heap.size + 1, 1, none⟩ = some (.int .i64 b4) ∧ w'.cell? ⟨w3.heap.size + 1 + 1, 0, none⟩ = some (.slice c1 c2 c3) ∧ w'.cell? ⟨w3.heap.size + 1 + 1, 1, none⟩ = some (.int .i64 c4))) (by kernel_rfl) (by kernel_rfl) (HSKk.out _ (Near.refl _).drew) 151 rfl (fun hHeld => ?_)
    have hnd := (Near.refl W).drew
    generalize W.drew = xk0 at hnd hHeld ⊢
    have HNk0 := Lib.hid hnd
    clear hnd
    refine takeM 0 1 (v := Value.agg #[.slice a1 a2 a3, .int .i64 a4]) (by kernel_rfl) rfl (by kernel_rfl) (fun _ _ _ h => h) (by rfl) (fun w' hSw => ?_) hHeld ?_
    · go_simp
    try simp only [Act.put, List.setIfInBounds_toArray, List.set_cons_zero, List.set_cons_succ]
    refine takeM 1 3 (v := Value.agg #[.slice b1 b2 b3, .int .i64 b4]) (by kernel_rfl) rfl (by kernel_rfl) (fun _ _ _ h => h) (by rfl) (fun w' hSw => ?_) hHeld ?_
    · go_simp
    try simp only [Act.put, List.setIfInBounds_toArray, List.set_cons_zero, List.set_cons_succ]
    refine takeM 2 7 (v := Value.agg #[.slice c1 c2 c3, .int .i64 c4]) (by kernel_rfl) rfl (by kernel_rfl) (fun _ _ _ h => h) (by rfl) (fun w' hSw => ?_) hHeld ?_
    · go_simp
    try simp only [Act.put, List.setIfInBounds_toArray, List.set_cons_zero, List.set_cons_succ]
    refine takeM 5 39 (v := Value.agg #[.slice a1 a2 a3, .int .i64 a4]) (by kernel_rfl) rfl (by kernel_rfl) (fun _ _ _ h => h) (by rfl) (fun w' hSw => ?_) hHeld ?_
    · go_simp
    try simp only [Act.put, List.setIfInBounds_toArray, List.set_cons_zero, List.set_cons_succ]
    refine takeM 6 103 (v := Value.agg #[.slice b1 b2 b3, .int .i64 b4]) (by kernel_rfl) rfl (by kernel_rfl) (fun _ _ _ h => h) (by rfl) (fun w' hSw => ?_) hHeld ?_
    · go_simp
    try simp only [Act.put, List.setIfInBounds_toArray, List.set_cons_zero, List.set_cons_succ]
    refine takeM 8 359 (v := Value.agg #[.slice a1 a2 a3, .int .i64 a4]) (by kernel_rfl) rfl (by kernel_rfl) (fun _ _ _ h => h) (by rfl) (fun w' hSw => ?_) hHeld ?_
    · go_simp
    try simp only [Act.put, List.setIfInBounds_toArray, List.set_cons_zero, List.set_cons_succ]
    refine takeM 9 871 (v := Value.agg #[.slice c1 c2 c3, .int .i64 c4]) (by kernel_rfl) rfl (by kernel_rfl) (fun _ _ _ h => h) (by rfl) (fun w' hSw => ?_) hHeld ?_
    · go_simp
    try simp only [Act.put, List.setIfInBounds_toArray, List.set_cons_zero, List.set_cons_succ]
    refine oneM 3 879 (by kernel_rfl) rfl (by kernel_rfl) (by rfl) (fun K hK => ?_)
    go_simp
    go_at_call 33
    refine (or_f (HFB.out.near HNk0.out) (HFC.out.near HNk0.out)).mono ?_
    rintro e xk1 ⟨vk1, rfl, d, n'⟩
    obtain ⟨pk1, qk1, rk1, sk1, rfl⟩ := d.form
    have HDk1 := Lib.hid d
    clear d
    have HSk1 := Lib.hid n'
    have HNk1 := Lib.hid (HNk0.out.trans HSk1.out)
    clear n'
    refine hK.out _ _ (HSKk.out _ HNk1.out) (fun hHeld => ?_)
    clear hK K
    try simp only [Act.put, List.setIfInBounds_toArray, List.set_cons_zero, List.set_cons_succ]
    refine oneM 4 895 (by kernel_rfl) rfl (by kernel_rfl) (by rfl) (fun K hK => ?_)
    go_simp
    go_at_call 34
    refine (and_f (HFA.out.near HNk1.out) HDk1.out).mono ?_
    rintro e xk2 ⟨vk2, rfl, d, n'⟩
    obtain ⟨pk2, qk2, rk2, sk2, rfl⟩ := d.form
    have HDk2 := Lib.hid d
    clear d
    have HSk2 := Lib.hid n'
    have HNk2 := Lib.hid (HNk1.out.trans HSk2.out)
    clear n'
    refine hK.out _ _ (HSKk.out _ HNk2.out) (fun hHeld => ?_)
    clear hK K
    try simp only [Act.put, List.setIfInBounds_toArray, List.set_cons_zero, List.set_cons_succ]
    refine oneM 7 1023 (by kernel_rfl) rfl (by kernel_rfl) (by rfl) (fun K hK => ?_)
    go_simp
    go_at_call 34
    refine (and_f (HFA.out.near HNk2.out) (HFB.out.near HNk2.out)).mono ?_
    rintro e xk3 ⟨vk3, rfl, d, n'⟩
    obtain ⟨pk3, qk3, rk3, sk3, rfl⟩ := d.form
    have HDk3 := Lib.hid d
    clear d
    have HSk3 := Lib.hid n'
    have HNk3 := Lib.hid (HNk2.out.trans HSk3.out)
    clear n'
    refine hK.out _ _ (HSKk.out _ HNk3.out) (fun hHeld => ?_)
    clear hK K
    try simp only [Act.put, List.setIfInBounds_toArray, List.set_cons_zero, List.set_cons_succ]
    refine oneM 10 2047 (by kernel_rfl) rfl (by kernel_rfl) (by rfl) (fun K hK => ?_)
    go_simp
    go_at_call 34
    refine (and_f (HFA.out.near HNk3.out) (HFC.out.near HNk3.out)).mono ?_
    rintro e xk4 ⟨vk4, rfl, d, n'⟩
    obtain ⟨pk4, qk4, rk4, sk4, rfl⟩ := d.form
    have HDk4 := Lib.hid d
    clear d
    have HSk4 := Lib.hid n'
    have HNk4 := Lib.hid (HNk3.out.trans HSk4.out)
    clear n'
    refine hK.out _ _ (HSKk.out _ HNk4.out) (fun hHeld => ?_)
    clear hK K
    try simp only [Act.put, List.setIfInBounds_toArray, List.set_cons_zero, List.set_cons_succ]
    refine oneM 11 4095 (by kernel_rfl) rfl (by kernel_rfl) (by rfl) (fun K hK => ?_)
    go_simp
    go_at_call 33
    refine (or_f (HDk3.out.near HSk4.out) HDk4.out).mono ?_
    rintro e xk5 ⟨vk5, rfl, d, n'⟩
    obtain ⟨pk5, qk5, rk5, sk5, rfl⟩ := d.form
    have HDk5 := Lib.hid d
    clear d
    have HSk5 := Lib.hid n'
    have HNk5 := Lib.hid (HNk4.out.trans HSk5.out)
    clear n'
    refine hK.out _ _ (HSKk.out _ HNk5.out) (fun hHeld => ?_)
    clear hK K
    try simp only [Act.put, List.setIfInBounds_toArray, List.set_cons_zero, List.set_cons_succ]
    refine oneM 12 8191 (by kernel_rfl) rfl (by kernel_rfl) (by rfl) (fun K hK => ?_)
    go_simp
    go_at_call 42
    refine (equal_f (HDk2.out.near ((HSk3.out.trans HSk4.out).trans HSk5.out)) HDk5.out (fun c => by (try dsimp only); cases fa c <;> cases fb c <;> cases fc c <;> rfl)).mono ?_
    rintro e xk6 ⟨rfl, n'⟩
    have HSk6 := Lib.hid n'
    have HNk6 := Lib.hid (HNk5.out.trans HSk6.out)
    clear n'
    refine hK.out _ _ (HSKk.out _ HNk6.out) (fun hHeld => ?_)
    clear hK K
    try simp only [Act.put, List.setIfInBounds_toArray, List.set_cons_zero, List.set_cons_succ]
    refine takeM 13 16383 (v := Value.bool true) (by kernel_rfl) rfl (by kernel_rfl) (fun _ _ _ h => h) (by rfl) (fun w' hSw => ?_) hHeld ?_
    · go_simp
    try simp only [Act.put, List.setIfInBounds_toArray, List.set_cons_zero, List.set_cons_succ]
    refine takeM 14 32767 (v := Value.agg #[.slice a1 a2 a3, .int .i64 a4]) (by kernel_rfl) rfl (by kernel_rfl) (fun _ _ _ h => h) (by rfl) (fun w' hSw => ?_) hHeld ?_
    · go_simp
    try simp only [Act.put, List.setIfInBounds_toArray, List.set_cons_zero, List.set_cons_succ]
    refine takeM 15 65535 (v := Value.agg #[.slice b1 b2 b3, .int .i64 b4]) (by kernel_rfl) rfl (by kernel_rfl) (fun _ _ _ h => h) (by rfl) (fun w' hSw => ?_) hHeld ?_
    · go_simp
    try simp only [Act.put, List.setIfInBounds_toArray, List.set_cons_zero, List.set_cons_succ]
    refine takeM 16 131071 (v := Value.agg #[.slice c1 c2 c3, .int .i64 c4]) (by kernel_rfl) rfl (by kernel_rfl) (fun _ _ _ h => h) (by rfl) (fun w' hSw => ?_) hHeld ?_
    · go_simp
    try simp only [Act.put, List.setIfInBounds_toArray, List.set_cons_zero, List.set_cons_succ]
    refine takeM 19 655359 (v := Value.agg #[.slice a1 a2 a3, .int .i64 a4]) (by kernel_rfl) rfl (by kernel_rfl) (fun _ _ _ h => h) (by rfl) (fun w' hSw => ?_) hHeld ?_
    · go_simp
    try simp only [Act.put, List.setIfInBounds_toArray, List.set_cons_zero, List.set_cons_succ]
    refine takeM 20 1703935 (v := Value.agg #[.slice b1 b2 b3, .int .i64 b4]) (by kernel_rfl) rfl (by kernel_rfl) (fun _ _ _ h => h) (by rfl) (fun w' hSw => ?_) hHeld ?_
    · go_simp
    try simp only [Act.put, List.setIfInBounds_toArray, List.set_cons_zero, List.set_cons_succ]
    refine takeM 22 5898239 (v := Value.agg #[.slice a1 a2 a3, .int .i64 a4]) (by kernel_rfl) rfl (by kernel_rfl) (fun _ _ _ h => h) (by rfl) (fun w' hSw => ?_) hHeld ?_
    · go_simp
    try simp only [Act.put, List.setIfInBounds_toArray, List.set_cons_zero, List.set_cons_succ]
    refine takeM 23 14286847 (v := Value.agg #[.slice c1 c2 c3, .int .i64 c4]) (by kernel_rfl) rfl (by kernel_rfl) (fun _ _ _ h => h) (by rfl) (fun w' hSw => ?_) hHeld ?_
    · go_simp
    try simp only [Act.put, List.setIfInBounds_toArray, List.set_cons_zero, List.set_cons_succ]
    refine oneM 17 14417919 (by kernel_rfl) rfl (by kernel_rfl) (by rfl) (fun K hK => ?_)
    go_simp
    go_at_call 34
    refine (and_f (HFB.out.near HNk6.out) (HFC.out.near HNk6.out)).mono ?_
    rintro e xk7 ⟨vk7, rfl, d, n'⟩
    obtain ⟨pk7, qk7, rk7, sk7, rfl⟩ := d.form
    have HDk7 := Lib.hid d
    clear d
    have HSk7 := Lib.hid n'
    have HNk7 := Lib.hid (HNk6.out.trans HSk7.out)
    clear n'
    refine hK.out _ _ (HSKk.out _ HNk7.out) (fun hHeld => ?_)
    clear hK K
    try simp only [Act.put, List.setIfInBounds_toArray, List.set_cons_zero, List.set_cons_succ]
    refine oneM 18 14680063 (by kernel_rfl) rfl (by kernel_rfl) (by rfl) (fun K hK => ?_)
    go_simp
    go_at_call 33
    refine (or_f (HFA.out.near HNk7.out) HDk7.out).mono ?_
    rintro e xk8 ⟨vk8, rfl, d, n'⟩
    obtain ⟨pk8, qk8, rk8, sk8, rfl⟩ := d.form
    have HDk8 := Lib.hid d
    clear d
    have HSk8 := Lib.hid n'
    have HNk8 := Lib.hid (HNk7.out.trans HSk8.out)
    clear n'
    refine hK.out _ _ (HSKk.out _ HNk8.out) (fun hHeld => ?_)
    clear hK K
    try simp only [Act.put, List.setIfInBounds_toArray, List.set_cons_zero, List.set_cons_succ]
    refine oneM 21 16777215 (by kernel_rfl) rfl (by kernel_rfl) (by rfl) (fun K hK => ?_)
    go_simp
    go_at_call 33
    refine (or_f (HFA.out.near HNk8.out) (HFB.out.near HNk8.out)).mono ?_
    rintro e xk9 ⟨vk9, rfl, d, n'⟩
    obtain ⟨pk9, qk9, rk9, sk9, rfl⟩ := d.form
    have HDk9 := Lib.hid d
    clear d
    have HSk9 := Lib.hid n'
    have HNk9 := Lib.hid (HNk8.out.trans HSk9.out)
    clear n'
    refine hK.out _ _ (HSKk.out _ HNk9.out) (fun hHeld => ?_)
    clear hK K
    try simp only [Act.put, List.setIfInBounds_toArray, List.set_cons_zero, List.set_cons_succ]
    refine oneM 24 33554431 (by kernel_rfl) rfl (by kernel_rfl) (by rfl) (fun K hK => ?_)
    go_simp
    go_at_call 33
    refine (or_f (HFA.out.near HNk9.out) (HFC.out.near HNk9.out)).mono ?_
    rintro e xk10 ⟨vk10, rfl, d, n'⟩
    obtain ⟨pk10, qk10, rk10, sk10, rfl⟩ := d.form
    have HDk10 := Lib.hid d
    clear d
    have HSk10 := Lib.hid n'
    have HNk10 := Lib.hid (HNk9.out.trans HSk10.out)
    clear n'
    refine hK.out _ _ (HSKk.out _ HNk10.out) (fun hHeld => ?_)
    clear hK K
    try simp only [Act.put, List.setIfInBounds_toArray, List.set_cons_zero, List.set_cons_succ]
    refine oneM 25 67108863 (by kernel_rfl) rfl (by kernel_rfl) (by rfl) (fun K hK => ?_)
    go_simp
    go_at_call 34
    refine (and_f (HDk9.out.near HSk10.out) HDk10.out).mono ?_
    rintro e xk11 ⟨vk11, rfl, d, n'⟩
    obtain ⟨pk11, qk11, rk11, sk11, rfl⟩ := d.form
    have HDk11 := Lib.hid d
    clear d
    have HSk11 := Lib.hid n'
    have HNk11 := Lib.hid (HNk10.out.trans HSk11.out)
    clear n'
    refine hK.out _ _ (HSKk.out _ HNk11.out) (fun hHeld => ?_)
    clear hK K
    try simp only [Act.put, List.setIfInBounds_toArray, List.set_cons_zero, List.set_cons_succ]
    refine oneM 26 134217727 (by kernel_rfl) rfl (by kernel_rfl) (by rfl) (fun K hK => ?_)
    go_simp
    go_at_call 42
    refine (equal_f (HDk8.out.near ((HSk9.out.trans HSk10.out).trans HSk11.out)) HDk11.out (fun c => by (try dsimp only); cases fa c <;> cases fb c <;> cases fc c <;> rfl)).mono ?_
    rintro e xk12 ⟨rfl, n'⟩
    have HSk12 := Lib.hid n'
    have HNk12 := Lib.hid (HNk11.out.trans HSk12.out)
    clear n'
    refine hK.out _ _ (HSKk.out _ HNk12.out) (fun hHeld => ?_)
    clear hK K
    try simp only [Act.put, List.setIfInBounds_toArray, List.set_cons_zero, List.set_cons_succ]
    refine takeM 27 268435455 (v := Value.bool true) (by kernel_rfl) rfl (by kernel_rfl) (fun _ _ _ h => h) (by rfl) (fun w' hSw => ?_) hHeld ?_
    · go_simp
    try simp only [Act.put, List.setIfInBounds_toArray, List.set_cons_zero, List.set_cons_succ]
    refine takeM 28 536870911 (v := Value.bool true) (by kernel_rfl) rfl (by kernel_rfl) (fun _ _ _ h => h) (by rfl) (fun w' hSw => ?_) hHeld ?_
    · go_simp
    try simp only [Act.put, List.setIfInBounds_toArray, List.set_cons_zero, List.set_cons_succ]
    refine takeM 29 1073741823 (v := Value.agg #[.slice a1 a2 a3, .int .i64 a4]) (by kernel_rfl) rfl (by kernel_rfl) (fun _ _ _ h => h) (by rfl) (fun w' hSw => ?_) hHeld ?_
    · go_simp
    try simp only [Act.put, List.setIfInBounds_toArray, List.set_cons_zero, List.set_cons_succ]
    refine takeM 30 2147483647 (v := Value.agg #[.slice b1 b2 b3, .int .i64 b4]) (by kernel_rfl) rfl (by kernel_rfl) (fun _ _ _ h => h) (by rfl) (fun w' hSw => ?_) hHeld ?_
    · go_simp
    try simp only [Act.put, List.setIfInBounds_toArray, List.set_cons_zero, List.set_cons_succ]
    refine takeM 33 10737418239 (v := Value.agg #[.slice a1 a2 a3, .int .i64 a4]) (by kernel_rfl) rfl (by kernel_rfl) (fun _ _ _ h => h) (by rfl) (fun w' hSw => ?_) hHeld ?_
    · go_simp
    try simp only [Act.put, List.setIfInBounds_toArray, List.set_cons_zero, List.set_cons_succ]
    refine takeM 35 45097156607 (v := Value.agg #[.slice b1 b2 b3, .int .i64 b4]) (by kernel_rfl) rfl (by kernel_rfl) (fun _ _ _ h => h) (by rfl) (fun w' hSw => ?_) hHeld ?_
    · go_simp
    try simp only [Act.put, List.setIfInBounds_toArray, List.set_cons_zero, List.set_cons_succ]
    refine oneM 31 47244640255 (by kernel_rfl) rfl (by kernel_rfl) (by rfl) (fun K hK => ?_)
    go_simp
    go_at_call 34
    refine (and_f (HFA.out.near HNk12.out) (HFB.out.near HNk12.out)).mono ?_
    rintro e xk13 ⟨vk13, rfl, d, n'⟩
    obtain ⟨pk13, qk13, rk13, sk13, rfl⟩ := d.form
    have HDk13 := Lib.hid d
    clear d
    have HSk13 := Lib.hid n'
    have HNk13 := Lib.hid (HNk12.out.trans HSk13.out)
    clear n'
    refine hK.out _ _ (HSKk.out _ HNk13.out) (fun hHeld => ?_)
    clear hK K
    try simp only [Act.put, List.setIfInBounds_toArray, List.set_cons_zero, List.set_cons_succ]
    refine oneM 32 51539607551 (by kernel_rfl) rfl (by kernel_rfl) (by rfl) (fun K hK => ?_)
    go_simp
    go_at_call 32
    refine (not_f HDk13.out).mono ?_
    rintro e xk14 ⟨vk14, rfl, d, n'⟩
    obtain ⟨pk14, qk14, rk14, sk14, rfl⟩ := d.form
    have HDk14 := Lib.hid d
    clear d
    have HSk14 := Lib.hid n'
    have HNk14 := Lib.hid (HNk13.out.trans HSk14.out)
    clear n'
    refine hK.out _ _ (HSKk.out _ HNk14.out) (fun hHeld => ?_)
    clear hK K
    try simp only [Act.put, List.setIfInBounds_toArray, List.set_cons_zero, List.set_cons_succ]
    refine oneM 34 68719476735 (by kernel_rfl) rfl (by kernel_rfl) (by rfl) (fun K hK => ?_)
    go_simp
    go_at_call 32
    refine (not_f (HFA.out.near HNk14.out)).mono ?_
    rintro e xk15 ⟨vk15, rfl, d, n'⟩
    obtain ⟨pk15, qk15, rk15, sk15, rfl⟩ := d.form
    have HDk15 := Lib.hid d
    clear d
    have HSk15 := Lib.hid n'
    have HNk15 := Lib.hid (HNk14.out.trans HSk15.out)
    clear n'
    refine hK.out _ _ (HSKk.out _ HNk15.out) (fun hHeld => ?_)
    clear hK K
    try simp only [Act.put, List.setIfInBounds_toArray, List.set_cons_zero, List.set_cons_succ]
    refine oneM 36 137438953471 (by kernel_rfl) rfl (by kernel_rfl) (by rfl) (fun K hK => ?_)
    go_simp
    go_at_call 32
    refine (not_f (HFB.out.near HNk15.out)).mono ?_
    rintro e xk16 ⟨vk16, rfl, d, n'⟩
    obtain ⟨pk16, qk16, rk16, sk16, rfl⟩ := d.form
    have HDk16 := Lib.hid d
    clear d
    have HSk16 := Lib.hid n'
    have HNk16 := Lib.hid (HNk15.out.trans HSk16.out)
    clear n'
    refine hK.out _ _ (HSKk.out _ HNk16.out) (fun hHeld => ?_)
    clear hK K
    try simp only [Act.put, List.setIfInBounds_toArray, List.set_cons_zero, List.set_cons_succ]
    refine oneM 37 274877906943 (by kernel_rfl) rfl (by kernel_rfl) (by rfl) (fun K hK => ?_)
    go_simp
    go_at_call 33
    refine (or_f (HDk15.out.near HSk16.out) HDk16.out).mono ?_
    rintro e xk17 ⟨vk17, rfl, d, n'⟩
    obtain ⟨pk17, qk17, rk17, sk17, rfl⟩ := d.form
    have HDk17 := Lib.hid d
    clear d
    have HSk17 := Lib.hid n'
    have HNk17 := Lib.hid (HNk16.out.trans HSk17.out)
    clear n'
    refine hK.out _ _ (HSKk.out _ HNk17.out) (fun hHeld => ?_)
    clear hK K
    try simp only [Act.put, List.setIfInBounds_toArray, List.set_cons_zero, List.set_cons_succ]
    refine oneM 38 549755813887 (by kernel_rfl) rfl (by kernel_rfl) (by rfl) (fun K hK => ?_)
    go_simp
    go_at_call 42
    refine (equal_f (HDk14.out.near ((HSk15.out.trans HSk16.out).trans HSk17.out)) HDk17.out (fun c => by (try dsimp only); cases fa c <;> cases fb c <;> cases fc c <;> rfl)).mono ?_
    rintro e xk18 ⟨rfl, n'⟩
    have HSk18 := Lib.hid n'
    have HNk18 := Lib.hid (HNk17.out.trans HSk18.out)
    clear n'
    refine hK.out _ _ (HSKk.out _ HNk18.out) (fun hHeld => ?_)
    clear hK K
    try simp only [Act.put, List.setIfInBounds_toArray, List.set_cons_zero, List.set_cons_succ]
    refine takeM 39 1099511627775 (v := Value.bool true) (by kernel_rfl) rfl (by kernel_rfl) (fun _ _ _ h => h) (by rfl) (fun w' hSw => ?_) hHeld ?_
    · go_simp
    try simp only [Act.put, List.setIfInBounds_toArray, List.set_cons_zero, List.set_cons_succ]
    refine takeM 40 2199023255551 (v := Value.bool true) (by kernel_rfl) rfl (by kernel_rfl) (fun _ _ _ h => h) (by rfl) (fun w' hSw => ?_) hHeld ?_
    · go_simp
    try simp only [Act.put, List.setIfInBounds_toArray, List.set_cons_zero, List.set_cons_succ]
    refine takeM 41 4398046511103 (v := Value.agg #[.slice a1 a2 a3, .int .i64 a4]) (by kernel_rfl) rfl (by kernel_rfl) (fun _ _ _ h => h) (by rfl) (fun w' hSw => ?_) hHeld ?_
    · go_simp
    try simp only [Act.put, List.setIfInBounds_toArray, List.set_cons_zero, List.set_cons_succ]
    refine takeM 44 21990232555519 (v := Value.agg #[.slice a1 a2 a3, .int .i64 a4]) (by kernel_rfl) rfl (by kernel_rfl) (fun _ _ _ h => h) (by rfl) (fun w' hSw => ?_) hHeld ?_
    · go_simp
    try simp only [Act.put, List.setIfInBounds_toArray, List.set_cons_zero, List.set_cons_succ]
    refine oneM 42 26388279066623 (by kernel_rfl) rfl (by kernel_rfl) (by rfl) (fun K hK => ?_)
    go_simp
    go_at_call 32
    refine (not_f (HFA.out.near HNk18.out)).mono ?_
    rintro e xk19 ⟨vk19, rfl, d, n'⟩
    obtain ⟨pk19, qk19, rk19, sk19, rfl⟩ := d.form
    have HDk19 := Lib.hid d
    clear d
    have HSk19 := Lib.hid n'
    have HNk19 := Lib.hid (HNk18.out.trans HSk19.out)
    clear n'
    refine hK.out _ _ (HSKk.out _ HNk19.out) (fun hHeld => ?_)
    clear hK K
    try simp only [Act.put, List.setIfInBounds_toArray, List.set_cons_zero, List.set_cons_succ]
    refine oneM 43 35184372088831 (by kernel_rfl) rfl (by kernel_rfl) (by rfl) (fun K hK => ?_)
    go_simp
    go_at_call 32
    refine (not_f HDk19.out).mono ?_
    rintro e xk20 ⟨vk20, rfl, d, n'⟩
    obtain ⟨pk20, qk20, rk20, sk20, rfl⟩ := d.form
    have HDk20 := Lib.hid d
    clear d
    have HSk20 := Lib.hid n'
    have HNk20 := Lib.hid (HNk19.out.trans HSk20.out)
    clear n'
    refine hK.out _ _ (HSKk.out _ HNk20.out) (fun hHeld => ?_)
    clear hK K
    try simp only [Act.put, List.setIfInBounds_toArray, List.set_cons_zero, List.set_cons_succ]
    refine oneM 45 70368744177663 (by kernel_rfl) rfl (by kernel_rfl) (by rfl) (fun K hK => ?_)
    go_simp
    go_at_call 42
    refine (equal_f HDk20.out (HFA.out.near HNk20.out) (fun c => by (try dsimp only); cases fa c <;> cases fb c <;> cases fc c <;> rfl)).mono ?_
    rintro e xk21 ⟨rfl, n'⟩
    have HSk21 := Lib.hid n'
    have HNk21 := Lib.hid (HNk20.out.trans HSk21.out)
    clear n'
    refine hK.out _ _ (HSKk.out _ HNk21.out) (fun hHeld => ?_)
    clear hK K
    try simp only [Act.put, List.setIfInBounds_toArray, List.set_cons_zero, List.set_cons_succ]
    refine takeM 46 140737488355327 (v := Value.bool true) (by kernel_rfl) rfl (by kernel_rfl) (fun _ _ _ h => h) (by rfl) (fun w' hSw => ?_) hHeld ?_
    · go_simp
    try simp only [Act.put, List.setIfInBounds_toArray, List.set_cons_zero, List.set_cons_succ]
    refine takeM 47 281474976710655 (v := Value.bool true) (by kernel_rfl) rfl (by kernel_rfl) (fun _ _ _ h => h) (by rfl) (fun w' hSw => ?_) hHeld ?_
    · go_simp
    try simp only [Act.put, List.setIfInBounds_toArray, List.set_cons_zero, List.set_cons_succ]
    refine takeM 48 562949953421311 (v := Value.agg #[.slice a1 a2 a3, .int .i64 a4]) (by kernel_rfl) rfl (by kernel_rfl) (fun _ _ _ h => h) (by rfl) (fun w' hSw => ?_) hHeld ?_
    · go_simp
    try simp only [Act.put, List.setIfInBounds_toArray, List.set_cons_zero, List.set_cons_succ]
    refine takeM 49 1125899906842623 (v := Value.agg #[.slice b1 b2 b3, .int .i64 b4]) (by kernel_rfl) rfl (by kernel_rfl) (fun _ _ _ h => h) (by rfl) (fun w' hSw => ?_) hHeld ?_
    · go_simp
    try simp only [Act.put, List.setIfInBounds_toArray, List.set_cons_zero, List.set_cons_succ]
    refine takeM 51 3377699720527871 (v := Value.agg #[.slice a1 a2 a3, .int .i64 a4]) (by kernel_rfl) rfl (by kernel_rfl) (fun _ _ _ h => h) (by rfl) (fun w' hSw => ?_) hHeld ?_
    · go_simp
    try simp only [Act.put, List.setIfInBounds_toArray, List.set_cons_zero, List.set_cons_succ]
    refine takeM 52 7881299347898367 (v := Value.agg #[.slice b1 b2 b3, .int .i64 b4]) (by kernel_rfl) rfl (by kernel_rfl) (fun _ _ _ h => h) (by rfl) (fun w' hSw => ?_) hHeld ?_
    · go_simp
    try simp only [Act.put, List.setIfInBounds_toArray, List.set_cons_zero, List.set_cons_succ]
    refine takeM 55 43910096366862335 (v := Value.agg #[.slice b1 b2 b3, .int .i64 b4]) (by kernel_rfl) rfl (by kernel_rfl) (fun _ _ _ h => h) (by rfl) (fun w' hSw => ?_) hHeld ?_
    · go_simp
    try simp only [Act.put, List.setIfInBounds_toArray, List.set_cons_zero, List.set_cons_succ]
    refine takeM 56 115967690404790271 (v := Value.agg #[.slice a1 a2 a3, .int .i64 a4]) (by kernel_rfl) rfl (by kernel_rfl) (fun _ _ _ h => h) (by rfl) (fun w' hSw => ?_) hHeld ?_
    · go_simp
    try simp only [Act.put, List.setIfInBounds_toArray, List.set_cons_zero, List.set_cons_succ]
    refine oneM 50 117093590311632895 (by kernel_rfl) rfl (by kernel_rfl) (by rfl) (fun K hK => ?_)
    go_simp
    go_at_call 48
    refine (xor_f (HFA.out.near HNk21.out) (HFB.out.near HNk21.out)).mono ?_
    rintro e xk22 ⟨vk22, rfl, d, n'⟩
    obtain ⟨pk22, qk22, rk22, sk22, rfl⟩ := d.form
    have HDk22 := Lib.hid d
    clear d
    have HSk22 := Lib.hid n'
    have HNk22 := Lib.hid (HNk21.out.trans HSk22.out)
    clear n'
    refine hK.out _ _ (HSKk.out _ HNk22.out) (fun hHeld => ?_)
    clear hK K
    try simp only [Act.put, List.setIfInBounds_toArray, List.set_cons_zero, List.set_cons_succ]
    refine oneM 53 126100789566373887 (by kernel_rfl) rfl (by kernel_rfl) (by rfl) (fun K hK => ?_)
    go_simp
    go_at_call 32
    refine (not_f (HFB.out.near HNk22.out)).mono ?_
    rintro e xk23 ⟨vk23, rfl, d, n'⟩
    obtain ⟨pk23, qk23, rk23, sk23, rfl⟩ := d.form
    have HDk23 := Lib.hid d
    clear d
    have HSk23 := Lib.hid n'
    have HNk23 := Lib.hid (HNk22.out.trans HSk23.out)
    clear n'
    refine hK.out _ _ (HSKk.out _ HNk23.out) (fun hHeld => ?_)
    clear hK K
    try simp only [Act.put, List.setIfInBounds_toArray, List.set_cons_zero, List.set_cons_succ]
    refine oneM 54 144115188075855871 (by kernel_rfl) rfl (by kernel_rfl) (by rfl) (fun K hK => ?_)
    go_simp
    go_at_call 34
    refine (and_f (HFA.out.near HNk23.out) HDk23.out).mono ?_
    rintro e xk24 ⟨vk24, rfl, d, n'⟩
    obtain ⟨pk24, qk24, rk24, sk24, rfl⟩ := d.form
    have HDk24 := Lib.hid d
    clear d
    have HSk24 := Lib.hid n'
    have HNk24 := Lib.hid (HNk23.out.trans HSk24.out)
    clear n'
    refine hK.out _ _ (HSKk.out _ HNk24.out) (fun hHeld => ?_)
    clear hK K
    try simp only [Act.put, List.setIfInBounds_toArray, List.set_cons_zero, List.set_cons_succ]
    refine oneM 57 288230376151711743 (by kernel_rfl) rfl (by kernel_rfl) (by rfl) (fun K hK => ?_)
    go_simp
    go_at_call 32
    refine (not_f (HFA.out.near HNk24.out)).mono ?_
    rintro e xk25 ⟨vk25, rfl, d, n'⟩
    obtain ⟨pk25, qk25, rk25, sk25, rfl⟩ := d.form
    have HDk25 := Lib.hid d
    clear d
    have HSk25 := Lib.hid n'
    have HNk25 := Lib.hid (HNk24.out.trans HSk25.out)
    clear n'
    refine hK.out _ _ (HSKk.out _ HNk25.out) (fun hHeld => ?_)
    clear hK K
    try simp only [Act.put, List.setIfInBounds_toArray, List.set_cons_zero, List.set_cons_succ]
    refine oneM 58 576460752303423487 (by kernel_rfl) rfl (by kernel_rfl) (by rfl) (fun K hK => ?_)
    go_simp
    go_at_call 34
    refine (and_f (HFB.out.near HNk25.out) HDk25.out).mono ?_
    rintro e xk26 ⟨vk26, rfl, d, n'⟩
    obtain ⟨pk26, qk26, rk26, sk26, rfl⟩ := d.form
    have HDk26 := Lib.hid d
    clear d
    have HSk26 := Lib.hid n'
    have HNk26 := Lib.hid (HNk25.out.trans HSk26.out)
    clear n'
    refine hK.out _ _ (HSKk.out _ HNk26.out) (fun hHeld => ?_)
    clear hK K
    try simp only [Act.put, List.setIfInBounds_toArray, List.set_cons_zero, List.set_cons_succ]
    refine oneM 59 1152921504606846975 (by kernel_rfl) rfl (by kernel_rfl) (by rfl) (fun K hK => ?_)
    go_simp
    go_at_call 33
    refine (or_f (HDk24.out.near (HSk25.out.trans HSk26.out)) HDk26.out).mono ?_
    rintro e xk27 ⟨vk27, rfl, d, n'⟩
    obtain ⟨pk27, qk27, rk27, sk27, rfl⟩ := d.form
    have HDk27 := Lib.hid d
    clear d
    have HSk27 := Lib.hid n'
    have HNk27 := Lib.hid (HNk26.out.trans HSk27.out)
    clear n'
    refine hK.out _ _ (HSKk.out _ HNk27.out) (fun hHeld => ?_)
    clear hK K
    try simp only [Act.put, List.setIfInBounds_toArray, List.set_cons_zero, List.set_cons_succ]
    refine oneM 60 2305843009213693951 (by kernel_rfl) rfl (by kernel_rfl) (by rfl) (fun K hK => ?_)
    go_simp
    go_at_call 42
    refine (equal_f (HDk22.out.near ((((HSk23.out.trans HSk24.out).trans HSk25.out).trans HSk26.out).trans HSk27.out)) HDk27.out (fun c => by (try dsimp only); cases fa c <;> cases fb c <;> cases fc c <;> rfl)).mono ?_
    rintro e xk28 ⟨rfl, n'⟩
    have HSk28 := Lib.hid n'
    have HNk28 := Lib.hid (HNk27.out.trans HSk28.out)
    clear n'
    refine hK.out _ _ (HSKk.out _ HNk28.out) (fun hHeld => ?_)
    clear hK K
    try simp only [Act.put, List.setIfInBounds_toArray, List.set_cons_zero, List.set_cons_succ]
    refine takeM 61 4611686018427387903 (v := Value.bool true) (by kernel_rfl) rfl (by kernel_rfl) (fun _ _ _ h => h) (by rfl) (fun w' hSw => ?_) hHeld ?_
    · go_simp
    try simp only [Act.put, List.setIfInBounds_toArray, List.set_cons_zero, List.set_cons_succ]
    refine takeM 62 9223372036854775807 (v := Value.bool true) (by kernel_rfl) rfl (by kernel_rfl) (fun _ _ _ h => h) (by rfl) (fun w' hSw => ?_) hHeld ?_
    · go_simp
    try simp only [Act.put, List.setIfInBounds_toArray, List.set_cons_zero, List.set_cons_succ]
    refine takeM 63 18446744073709551615 (v := Value.agg #[.slice a1 a2 a3, .int .i64 a4]) (by kernel_rfl) rfl (by kernel_rfl) (fun _ _ _ h => h) (by rfl) (fun w' hSw => ?_) hHeld ?_
    · go_simp
    try simp only [Act.put, List.setIfInBounds_toArray, List.set_cons_zero, List.set_cons_succ]
    refine takeM 64 36893488147419103231 (v := Value.agg #[.slice a1 a2 a3, .int .i64 a4]) (by kernel_rfl) rfl (by kernel_rfl) (fun _ _ _ h => h) (by rfl) (fun w' hSw => ?_) hHeld ?_
    · go_simp
    try simp only [Act.put, List.setIfInBounds_toArray, List.set_cons_zero, List.set_cons_succ]
    refine oneM 65 73786976294838206463 (by kernel_rfl) rfl (by kernel_rfl) (by rfl) (fun K hK => ?_)
    go_simp
    go_at_call 48
    refine (xor_f (HFA.out.near HNk28.out) (HFA.out.near HNk28.out)).mono ?_
    rintro e xk29 ⟨vk29, rfl, d, n'⟩
    obtain ⟨pk29, qk29, rk29, sk29, rfl⟩ := d.form
    have HDk29 := Lib.hid d
    clear d
    have HSk29 := Lib.hid n'
    have HNk29 := Lib.hid (HNk28.out.trans HSk29.out)
    clear n'
    refine hK.out _ _ (HSKk.out _ HNk29.out) (fun hHeld => ?_)
    clear hK K
    try simp only [Act.put, List.setIfInBounds_toArray, List.set_cons_zero, List.set_cons_succ]
    refine oneM 66 147573952589676412927 (by kernel_rfl) rfl (by kernel_rfl) (by rfl) (fun K hK => ?_)
    go_simp
    go_at_call 35
    refine (empty_true HDk29.out (fun c => by (try dsimp only); cases fa c <;> cases fb c <;> cases fc c <;> rfl)).mono ?_
    rintro e xk30 ⟨rfl, n'⟩
    have HSk30 := Lib.hid n'
    have HNk30 := Lib.hid (HNk29.out.trans HSk30.out)
    clear n'
    refine hK.out _ _ (HSKk.out _ HNk30.out) (fun hHeld => ?_)
    clear hK K
    try simp only [Act.put, List.setIfInBounds_toArray, List.set_cons_zero, List.set_cons_succ]
    refine takeM 67 295147905179352825855 (v := Value.bool true) (by kernel_rfl) rfl (by kernel_rfl) (fun _ _ _ h => h) (by rfl) (fun w' hSw => ?_) hHeld ?_
    · go_simp
    try simp only [Act.put, List.setIfInBounds_toArray, List.set_cons_zero, List.set_cons_succ]
    refine takeM 68 590295810358705651711 (v := Value.bool true) (by kernel_rfl) rfl (by kernel_rfl) (fun _ _ _ h => h) (by rfl) (fun w' hSw => ?_) hHeld ?_
    · go_simp
    try simp only [Act.put, List.setIfInBounds_toArray, List.set_cons_zero, List.set_cons_succ]
    refine takeM 69 1180591620717411303423 (v := Value.agg #[.slice a1 a2 a3, .int .i64 a4]) (by kernel_rfl) rfl (by kernel_rfl) (fun _ _ _ h => h) (by rfl) (fun w' hSw => ?_) hHeld ?_
    · go_simp
    try simp only [Act.put, List.setIfInBounds_toArray, List.set_cons_zero, List.set_cons_succ]
    refine takeM 70 2361183241434822606847 (v := Value.agg #[.slice a1 a2 a3, .int .i64 a4]) (by kernel_rfl) rfl (by kernel_rfl) (fun _ _ _ h => h) (by rfl) (fun w' hSw => ?_) hHeld ?_
    · go_simp
    try simp only [Act.put, List.setIfInBounds_toArray, List.set_cons_zero, List.set_cons_succ]
    refine oneM 71 4722366482869645213695 (by kernel_rfl) rfl (by kernel_rfl) (by rfl) (fun K hK => ?_)
    go_simp
    go_at_call 32
    refine (not_f (HFA.out.near HNk30.out)).mono ?_
    rintro e xk31 ⟨vk31, rfl, d, n'⟩
    obtain ⟨pk31, qk31, rk31, sk31, rfl⟩ := d.form
    have HDk31 := Lib.hid d
    clear d
    have HSk31 := Lib.hid n'
    have HNk31 := Lib.hid (HNk30.out.trans HSk31.out)
    clear n'
    refine hK.out _ _ (HSKk.out _ HNk31.out) (fun hHeld => ?_)
    clear hK K
    try simp only [Act.put, List.setIfInBounds_toArray, List.set_cons_zero, List.set_cons_succ]
    refine oneM 72 9444732965739290427391 (by kernel_rfl) rfl (by kernel_rfl) (by rfl) (fun K hK => ?_)
    go_simp
    go_at_call 33
    refine (or_f (HFA.out.near HNk31.out) HDk31.out).mono ?_
    rintro e xk32 ⟨vk32, rfl, d, n'⟩
    obtain ⟨pk32, qk32, rk32, sk32, rfl⟩ := d.form
    have HDk32 := Lib.hid d
    clear d
    have HSk32 := Lib.hid n'
    have HNk32 := Lib.hid (HNk31.out.trans HSk32.out)
    clear n'
    refine hK.out _ _ (HSKk.out _ HNk32.out) (fun hHeld => ?_)
    clear hK K
    try simp only [Act.put, List.setIfInBounds_toArray, List.set_cons_zero, List.set_cons_succ]
    refine oneM 73 18889465931478580854783 (by kernel_rfl) rfl (by kernel_rfl) (by rfl) (fun K hK => ?_)
    go_simp
    go_at_call 49
    refine (full_true HDk32.out (fun c => by (try dsimp only); cases fa c <;> cases fb c <;> cases fc c <;> rfl)).mono ?_
    rintro e xk33 ⟨rfl, n'⟩
    have HSk33 := Lib.hid n'
    have HNk33 := Lib.hid (HNk32.out.trans HSk33.out)
    clear n'
    refine hK.out _ _ (HSKk.out _ HNk33.out) (fun hHeld => ?_)
    clear hK K
    try simp only [Act.put, List.setIfInBounds_toArray, List.set_cons_zero, List.set_cons_succ]
    refine takeM 74 37778931862957161709567 (v := Value.bool true) (by kernel_rfl) rfl (by kernel_rfl) (fun _ _ _ h => h) (by rfl) (fun w' hSw => ?_) hHeld ?_
    · go_simp
    try simp only [Act.put, List.setIfInBounds_toArray, List.set_cons_zero, List.set_cons_succ]
    refine takeM 75 75557863725914323419135 (v := Value.bool true) (by kernel_rfl) rfl (by kernel_rfl) (fun _ _ _ h => h) (by rfl) (fun w' hSw => ?_) hHeld ?_
    · go_simp
    try simp only [Act.put, List.setIfInBounds_toArray, List.set_cons_zero, List.set_cons_succ]
    refine takeM 76 151115727451828646838271 (v := Value.agg #[.slice a1 a2 a3, .int .i64 a4]) (by kernel_rfl) rfl (by kernel_rfl) (fun _ _ _ h => h) (by rfl) (fun w' hSw => ?_) hHeld ?_
    · go_simp
    try simp only [Act.put, List.setIfInBounds_toArray, List.set_cons_zero, List.set_cons_succ]
    refine takeM 77 302231454903657293676543 (v := Value.agg #[.slice b1 b2 b3, .int .i64 b4]) (by kernel_rfl) rfl (by kernel_rfl) (fun _ _ _ h => h) (by rfl) (fun w' hSw => ?_) hHeld ?_
    · go_simp
    try simp only [Act.put, List.setIfInBounds_toArray, List.set_cons_zero, List.set_cons_succ]
    refine takeM 79 906694364710971881029631 (v := Value.agg #[.slice b1 b2 b3, .int .i64 b4]) (by kernel_rfl) rfl (by kernel_rfl) (fun _ _ _ h => h) (by rfl) (fun w' hSw => ?_) hHeld ?_
    · go_simp
    try simp only [Act.put, List.setIfInBounds_toArray, List.set_cons_zero, List.set_cons_succ]
    refine takeM 80 2115620184325601055735807 (v := Value.agg #[.slice a1 a2 a3, .int .i64 a4]) (by kernel_rfl) rfl (by kernel_rfl) (fun _ _ _ h => h) (by rfl) (fun w' hSw => ?_) hHeld ?_
    · go_simp
    try simp only [Act.put, List.setIfInBounds_toArray, List.set_cons_zero, List.set_cons_succ]
    refine oneM 78 2417851639229258349412351 (by kernel_rfl) rfl (by kernel_rfl) (by rfl) (fun K hK => ?_)
    go_simp
    go_at_call 34
    refine (and_f (HFA.out.near HNk33.out) (HFB.out.near HNk33.out)).mono ?_
    rintro e xk34 ⟨vk34, rfl, d, n'⟩
    obtain ⟨pk34, qk34, rk34, sk34, rfl⟩ := d.form
    have HDk34 := Lib.hid d
    clear d
    have HSk34 := Lib.hid n'
    have HNk34 := Lib.hid (HNk33.out.trans HSk34.out)
    clear n'
    refine hK.out _ _ (HSKk.out _ HNk34.out) (fun hHeld => ?_)
    clear hK K
    try simp only [Act.put, List.setIfInBounds_toArray, List.set_cons_zero, List.set_cons_succ]
    refine oneM 81 4835703278458516698824703 (by kernel_rfl) rfl (by kernel_rfl) (by rfl) (fun K hK => ?_)
    go_simp
    go_at_call 34
    refine (and_f (HFB.out.near HNk34.out) (HFA.out.near HNk34.out)).mono ?_
    rintro e xk35 ⟨vk35, rfl, d, n'⟩
    obtain ⟨pk35, qk35, rk35, sk35, rfl⟩ := d.form
    have HDk35 := Lib.hid d
    clear d
    have HSk35 := Lib.hid n'
    have HNk35 := Lib.hid (HNk34.out.trans HSk35.out)
    clear n'
    refine hK.out _ _ (HSKk.out _ HNk35.out) (fun hHeld => ?_)
    clear hK K
    try simp only [Act.put, List.setIfInBounds_toArray, List.set_cons_zero, List.set_cons_succ]
    refine oneM 82 9671406556917033397649407 (by kernel_rfl) rfl (by kernel_rfl) (by rfl) (fun K hK => ?_)
    go_simp
    go_at_call 42
    refine (equal_f (HDk34.out.near HSk35.out) HDk35.out (fun c => by (try dsimp only); cases fa c <;> cases fb c <;> cases fc c <;> rfl)).mono ?_
    rintro e xk36 ⟨rfl, n'⟩
    have HSk36 := Lib.hid n'
    have HNk36 := Lib.hid (HNk35.out.trans HSk36.out)
    clear n'
    refine hK.out _ _ (HSKk.out _ HNk36.out) (fun hHeld => ?_)
    clear hK K
    try simp only [Act.put, List.setIfInBounds_toArray, List.set_cons_zero, List.set_cons_succ]
    refine takeM 83 19342813113834066795298815 (v := Value.bool true) (by kernel_rfl) rfl (by kernel_rfl) (fun _ _ _ h => h) (by rfl) (fun w' hSw => ?_) hHeld ?_
    · go_simp
    try simp only [Act.put, List.setIfInBounds_toArray, List.set_cons_zero, List.set_cons_succ]
    refine takeM 84 38685626227668133590597631 (v := Value.bool true) (by kernel_rfl) rfl (by kernel_rfl) (fun _ _ _ h => h) (by rfl) (fun w' hSw => ?_) hHeld ?_
    · go_simp
    try simp only [Act.put, List.setIfInBounds_toArray, List.set_cons_zero, List.set_cons_succ]
    refine takeM 85 77371252455336267181195263 (v := Value.agg #[.slice a1 a2 a3, .int .i64 a4]) (by kernel_rfl) rfl (by kernel_rfl) (fun _ _ _ h => h) (by rfl) (fun w' hSw => ?_) hHeld ?_
    · go_simp
    try simp only [Act.put, List.setIfInBounds_toArray, List.set_cons_zero, List.set_cons_succ]
    refine takeM 86 154742504910672534362390527 (v := Value.agg #[.slice b1 b2 b3, .int .i64 b4]) (by kernel_rfl) rfl (by kernel_rfl) (fun _ _ _ h => h) (by rfl) (fun w' hSw => ?_) hHeld ?_
    · go_simp
    try simp only [Act.put, List.setIfInBounds_toArray, List.set_cons_zero, List.set_cons_succ]
    refine takeM 87 309485009821345068724781055 (v := Value.agg #[.slice c1 c2 c3, .int .i64 c4]) (by kernel_rfl) rfl (by kernel_rfl) (fun _ _ _ h => h) (by rfl) (fun w' hSw => ?_) hHeld ?_
    · go_simp
    try simp only [Act.put, List.setIfInBounds_toArray, List.set_cons_zero, List.set_cons_succ]
    refine takeM 89 928455029464035206174343167 (v := Value.agg #[.slice a1 a2 a3, .int .i64 a4]) (by kernel_rfl) rfl (by kernel_rfl) (fun _ _ _ h => h) (by rfl) (fun w' hSw => ?_) hHeld ?_
    · go_simp
    try simp only [Act.put, List.setIfInBounds_toArray, List.set_cons_zero, List.set_cons_succ]
    refine takeM 90 2166395068749415481073467391 (v := Value.agg #[.slice b1 b2 b3, .int .i64 b4]) (by kernel_rfl) rfl (by kernel_rfl) (fun _ _ _ h => h) (by rfl) (fun w' hSw => ?_) hHeld ?_
    · go_simp
    try simp only [Act.put, List.setIfInBounds_toArray, List.set_cons_zero, List.set_cons_succ]
    refine takeM 92 7118155225890936580669964287 (v := Value.agg #[.slice c1 c2 c3, .int .i64 c4]) (by kernel_rfl) rfl (by kernel_rfl) (fun _ _ _ h => h) (by rfl) (fun w' hSw => ?_) hHeld ?_
    · go_simp
    try simp only [Act.put, List.setIfInBounds_toArray, List.set_cons_zero, List.set_cons_succ]
    refine takeM 93 17021675540173978779862958079 (v := Value.agg #[.slice a1 a2 a3, .int .i64 a4]) (by kernel_rfl) rfl (by kernel_rfl) (fun _ _ _ h => h) (by rfl) (fun w' hSw => ?_) hHeld ?_
    · go_simp
    try simp only [Act.put, List.setIfInBounds_toArray, List.set_cons_zero, List.set_cons_succ]
    refine oneM 88 17331160549995323848587739135 (by kernel_rfl) rfl (by kernel_rfl) (by rfl) (fun K hK => ?_)
    go_simp
    go_at_call 43
    refine (ite_f (HFA.out.near HNk36.out) (HFB.out.near HNk36.out) (HFC.out.near HNk36.out)).mono ?_
    rintro e xk37 ⟨vk37, rfl, d, n'⟩
    obtain ⟨pk37, qk37, rk37, sk37, rfl⟩ := d.form
    have HDk37 := Lib.hid d
    clear d
    have HSk37 := Lib.hid n'
    have HNk37 := Lib.hid (HNk36.out.trans HSk37.out)
    clear n'
    refine hK.out _ _ (HSKk.out _ HNk37.out) (fun hHeld => ?_)
    clear hK K
    try simp only [Act.put, List.setIfInBounds_toArray, List.set_cons_zero, List.set_cons_succ]
    refine oneM 91 19807040628566084398385987583 (by kernel_rfl) rfl (by kernel_rfl) (by rfl) (fun K hK => ?_)
    go_simp
    go_at_call 34
    refine (and_f (HFA.out.near HNk37.out) (HFB.out.near HNk37.out)).mono ?_
    rintro e xk38 ⟨vk38, rfl, d, n'⟩
    obtain ⟨pk38, qk38, rk38, sk38, rfl⟩ := d.form
    have HDk38 := Lib.hid d
    clear d
    have HSk38 := Lib.hid n'
    have HNk38 := Lib.hid (HNk37.out.trans HSk38.out)
    clear n'
    refine hK.out _ _ (HSKk.out _ HNk38.out) (fun hHeld => ?_)
    clear hK K
    try simp only [Act.put, List.setIfInBounds_toArray, List.set_cons_zero, List.set_cons_succ]
    refine oneM 94 39614081257132168796771975167 (by kernel_rfl) rfl (by kernel_rfl) (by rfl) (fun K hK => ?_)
    go_simp
    go_at_call 32
    refine (not_f (HFA.out.near HNk38.out)).mono ?_
    rintro e xk39 ⟨vk39, rfl, d, n'⟩
    obtain ⟨pk39, qk39, rk39, sk39, rfl⟩ := d.form
    have HDk39 := Lib.hid d
    clear d
    have HSk39 := Lib.hid n'
    have HNk39 := Lib.hid (HNk38.out.trans HSk39.out)
    clear n'
    refine hK.out _ _ (HSKk.out _ HNk39.out) (fun hHeld => ?_)
    clear hK K
    try simp only [Act.put, List.setIfInBounds_toArray, List.set_cons_zero, List.set_cons_succ]
    refine oneM 95 79228162514264337593543950335 (by kernel_rfl) rfl (by kernel_rfl) (by rfl) (fun K hK => ?_)
    go_simp
    go_at_call 34
    refine (and_f (HFC.out.near HNk39.out) HDk39.out).mono ?_
    rintro e xk40 ⟨vk40, rfl, d, n'⟩
    obtain ⟨pk40, qk40, rk40, sk40, rfl⟩ := d.form
    have HDk40 := Lib.hid d
    clear d
    have HSk40 := Lib.hid n'
    have HNk40 := Lib.hid (HNk39.out.trans HSk40.out)
    clear n'
    refine hK.out _ _ (HSKk.out _ HNk40.out) (fun hHeld => ?_)
    clear hK K
    try simp only [Act.put, List.setIfInBounds_toArray, List.set_cons_zero, List.set_cons_succ]
    refine oneM 96 158456325028528675187087900671 (by kernel_rfl) rfl (by kernel_rfl) (by rfl) (fun K hK => ?_)
    go_simp
    go_at_call 33
    refine (or_f (HDk38.out.near (HSk39.out.trans HSk40.out)) HDk40.out).mono ?_
    rintro e xk41 ⟨vk41, rfl, d, n'⟩
    obtain ⟨pk41, qk41, rk41, sk41, rfl⟩ := d.form
    have HDk41 := Lib.hid d
    clear d
    have HSk41 := Lib.hid n'
    have HNk41 := Lib.hid (HNk40.out.trans HSk41.out)
    clear n'
    refine hK.out _ _ (HSKk.out _ HNk41.out) (fun hHeld => ?_)
    clear hK K
    try simp only [Act.put, List.setIfInBounds_toArray, List.set_cons_zero, List.set_cons_succ]
    refine oneM 97 316912650057057350374175801343 (by kernel_rfl) rfl (by kernel_rfl) (by rfl) (fun K hK => ?_)
    go_simp
    go_at_call 42
    refine (equal_f (HDk37.out.near (((HSk38.out.trans HSk39.out).trans HSk40.out).trans HSk41.out)) HDk41.out (fun c => by (try dsimp only); cases fa c <;> cases fb c <;> cases fc c <;> rfl)).mono ?_
    rintro e xk42 ⟨rfl, n'⟩
    have HSk42 := Lib.hid n'
    have HNk42 := Lib.hid (HNk41.out.trans HSk42.out)
    clear n'
    refine hK.out _ _ (HSKk.out _ HNk42.out) (fun hHeld => ?_)
    clear hK K
    try simp only [Act.put, List.setIfInBounds_toArray, List.set_cons_zero, List.set_cons_succ]
    refine takeM 98 633825300114114700748351602687 (v := Value.bool true) (by kernel_rfl) rfl (by kernel_rfl) (fun _ _ _ h => h) (by rfl) (fun w' hSw => ?_) hHeld ?_
    · go_simp
    try simp only [Act.put, List.setIfInBounds_toArray, List.set_cons_zero, List.set_cons_succ]
    refine takeM 99 1267650600228229401496703205375 (v := Value.bool true) (by kernel_rfl) rfl (by kernel_rfl) (fun _ _ _ h => h) (by rfl) (fun w' hSw => ?_) hHeld ?_
    · go_simp
    try simp only [Act.put, List.setIfInBounds_toArray, List.set_cons_zero, List.set_cons_succ]
    refine takeM 100 2535301200456458802993406410751 (v := Value.agg #[.slice a1 a2 a3, .int .i64 a4]) (by kernel_rfl) rfl (by kernel_rfl) (fun _ _ _ h => h) (by rfl) (fun w' hSw => ?_) hHeld ?_
    · go_simp
    try simp only [Act.put, List.setIfInBounds_toArray, List.set_cons_zero, List.set_cons_succ]
    refine takeM 101 5070602400912917605986812821503 (v := Value.agg #[.slice b1 b2 b3, .int .i64 b4]) (by kernel_rfl) rfl (by kernel_rfl) (fun _ _ _ h => h) (by rfl) (fun w' hSw => ?_) hHeld ?_
    · go_simp
    try simp only [Act.put, List.setIfInBounds_toArray, List.set_cons_zero, List.set_cons_succ]
    refine takeM 102 10141204801825835211973625643007 (v := Value.agg #[.slice c1 c2 c3, .int .i64 c4]) (by kernel_rfl) rfl (by kernel_rfl) (fun _ _ _ h => h) (by rfl) (fun w' hSw => ?_) hHeld ?_
    · go_simp
    try simp only [Act.put, List.setIfInBounds_toArray, List.set_cons_zero, List.set_cons_succ]
    refine takeM 105 50706024009129176059868128215039 (v := Value.agg #[.slice c1 c2 c3, .int .i64 c4]) (by kernel_rfl) rfl (by kernel_rfl) (fun _ _ _ h => h) (by rfl) (fun w' hSw => ?_) hHeld ?_
    · go_simp
    try simp only [Act.put, List.setIfInBounds_toArray, List.set_cons_zero, List.set_cons_succ]
    refine takeM 106 131835662423735857755657133359103 (v := Value.agg #[.slice b1 b2 b3, .int .i64 b4]) (by kernel_rfl) rfl (by kernel_rfl) (fun _ _ _ h => h) (by rfl) (fun w' hSw => ?_) hHeld ?_
    · go_simp
    try simp only [Act.put, List.setIfInBounds_toArray, List.set_cons_zero, List.set_cons_succ]
    refine takeM 108 456354216082162584538813153935359 (v := Value.agg #[.slice a1 a2 a3, .int .i64 a4]) (by kernel_rfl) rfl (by kernel_rfl) (fun _ _ _ h => h) (by rfl) (fun w' hSw => ?_) hHeld ?_
    · go_simp
    try simp only [Act.put, List.setIfInBounds_toArray, List.set_cons_zero, List.set_cons_succ]
    refine oneM 103 466495420883988419750786779578367 (by kernel_rfl) rfl (by kernel_rfl) (by rfl) (fun K hK => ?_)
    go_simp
    refine hK.out _ _ (HSKk.out _ (HNk42.out.alloc _)) (fun hHeld => ?_)
    clear hK K
    try simp only [Act.put, List.setIfInBounds_toArray, List.set_cons_zero, List.set_cons_succ]
    refine oneM 104 486777830487640090174734030864383 (by kernel_rfl) rfl (by kernel_rfl) (by rfl) (fun K hK => ?_)
    go_simp
    go_at_call 50
    refine (andall_f (sets3 (HFA.out.near HNk42.out) (HFB.out.near HNk42.out) (HFC.out.near HNk42.out)) (by simp)).mono ?_
    rintro e xk43 ⟨vk43, rfl, d, n'⟩
    obtain ⟨pk43, qk43, rk43, sk43, rfl⟩ := d.form
    have HDk43 := Lib.hid d
    clear d
    have HSk43 := Lib.hid (((Near.refl _).alloc _).trans n')
    have HNk43 := Lib.hid (HNk42.out.trans HSk43.out)
    clear n'
    refine hK.out _ _ (HSKk.out _ HNk43.out) (fun hHeld => ?_)
    clear hK K
    try simp only [Act.put, List.setIfInBounds_toArray, List.set_cons_zero, List.set_cons_succ]
    refine oneM 107 649037107316853453566312041152511 (by kernel_rfl) rfl (by kernel_rfl) (by rfl) (fun K hK => ?_)
    go_simp
    go_at_call 34
    refine (and_f (HFC.out.near HNk43.out) (HFB.out.near HNk43.out)).mono ?_
    rintro e xk44 ⟨vk44, rfl, d, n'⟩
    obtain ⟨pk44, qk44, rk44, sk44, rfl⟩ := d.form
    have HDk44 := Lib.hid d
    clear d
    have HSk44 := Lib.hid n'
    have HNk44 := Lib.hid (HNk43.out.trans HSk44.out)
    clear n'
    refine hK.out _ _ (HSKk.out _ HNk44.out) (fun hHeld => ?_)
    clear hK K
    try simp only [Act.put, List.setIfInBounds_toArray, List.set_cons_zero, List.set_cons_succ]
    refine oneM 109 1298074214633706907132624082305023 (by kernel_rfl) rfl (by kernel_rfl) (by rfl) (fun K hK => ?_)
    go_simp
    go_at_call 34
    refine (and_f HDk44.out (HFA.out.near HNk44.out)).mono ?_
    rintro e xk45 ⟨vk45, rfl, d, n'⟩
    obtain ⟨pk45, qk45, rk45, sk45, rfl⟩ := d.form
    have HDk45 := Lib.hid d
    clear d
    have HSk45 := Lib.hid n'
    have HNk45 := Lib.hid (HNk44.out.trans HSk45.out)
    clear n'
    refine hK.out _ _ (HSKk.out _ HNk45.out) (fun hHeld => ?_)
    clear hK K
    try simp only [Act.put, List.setIfInBounds_toArray, List.set_cons_zero, List.set_cons_succ]
    refine oneM 110 2596148429267413814265248164610047 (by kernel_rfl) rfl (by kernel_rfl) (by rfl) (fun K hK => ?_)
    go_simp
    go_at_call 42
    refine (equal_f (HDk43.out.near (HSk44.out.trans HSk45.out)) HDk45.out (fun c => by simp only [allF, List.all_cons, List.all_nil]; cases fa c <;> cases fb c <;> cases fc c <;> rfl)).mono ?_
    rintro e xk46 ⟨rfl, n'⟩
    have HSk46 := Lib.hid n'
    have HNk46 := Lib.hid (HNk45.out.trans HSk46.out)
    clear n'
    refine hK.out _ _ (HSKk.out _ HNk46.out) (fun hHeld => ?_)
    clear hK K
    try simp only [Act.put, List.setIfInBounds_toArray, List.set_cons_zero, List.set_cons_succ]
    refine takeM 111 5192296858534827628530496329220095 (v := Value.bool true) (by kernel_rfl) rfl (by kernel_rfl) (fun _ _ _ h => h) (by rfl) (fun w' hSw => ?_) hHeld ?_
    · go_simp
    try simp only [Act.put, List.setIfInBounds_toArray, List.set_cons_zero, List.set_cons_succ]
    refine takeM 112 10384593717069655257060992658440191 (v := Value.bool true) (by kernel_rfl) rfl (by kernel_rfl) (fun _ _ _ h => h) (by rfl) (fun w' hSw => ?_) hHeld ?_
    · go_simp
    try simp only [Act.put, List.setIfInBounds_toArray, List.set_cons_zero, List.set_cons_succ]
    refine takeM 113 20769187434139310514121985316880383 (v := Value.agg #[.slice a1 a2 a3, .int .i64 a4]) (by kernel_rfl) rfl (by kernel_rfl) (fun _ _ _ h => h) (by rfl) (fun w' hSw => ?_) hHeld ?_
    · go_simp
    try simp only [Act.put, List.setIfInBounds_toArray, List.set_cons_zero, List.set_cons_succ]
    refine takeM 114 41538374868278621028243970633760767 (v := Value.agg #[.slice b1 b2 b3, .int .i64 b4]) (by kernel_rfl) rfl (by kernel_rfl) (fun _ _ _ h => h) (by rfl) (fun w' hSw => ?_) hHeld ?_
    · go_simp
    try simp only [Act.put, List.setIfInBounds_toArray, List.set_cons_zero, List.set_cons_succ]
    refine takeM 115 83076749736557242056487941267521535 (v := Value.agg #[.slice c1 c2 c3, .int .i64 c4]) (by kernel_rfl) rfl (by kernel_rfl) (fun _ _ _ h => h) (by rfl) (fun w' hSw => ?_) hHeld ?_
    · go_simp
    try simp only [Act.put, List.setIfInBounds_toArray, List.set_cons_zero, List.set_cons_succ]
    refine takeM 118 415383748682786210282439706337607679 (v := Value.agg #[.slice c1 c2 c3, .int .i64 c4]) (by kernel_rfl) rfl (by kernel_rfl) (fun _ _ _ h => h) (by rfl) (fun w' hSw => ?_) hHeld ?_
    · go_simp
    try simp only [Act.put, List.setIfInBounds_toArray, List.set_cons_zero, List.set_cons_succ]
    refine takeM 119 1079997746575244146734343236477779967 (v := Value.agg #[.slice b1 b2 b3, .int .i64 b4]) (by kernel_rfl) rfl (by kernel_rfl) (fun _ _ _ h => h) (by rfl) (fun w' hSw => ?_) hHeld ?_
    · go_simp
    try simp only [Act.put, List.setIfInBounds_toArray, List.set_cons_zero, List.set_cons_succ]
    refine takeM 121 3738453738145075892541957357038469119 (v := Value.agg #[.slice a1 a2 a3, .int .i64 a4]) (by kernel_rfl) rfl (by kernel_rfl) (fun _ _ _ h => h) (by rfl) (fun w' hSw => ?_) hHeld ?_
    · go_simp
    try simp only [Act.put, List.setIfInBounds_toArray, List.set_cons_zero, List.set_cons_succ]
    refine oneM 116 3821530487881633134598445298305990655 (by kernel_rfl) rfl (by kernel_rfl) (by rfl) (fun K hK => ?_)
    go_simp
    refine hK.out _ _ (HSKk.out _ (HNk46.out.alloc _)) (fun hHeld => ?_)
    clear hK K
    try simp only [Act.put, List.setIfInBounds_toArray, List.set_cons_zero, List.set_cons_succ]
    refine oneM 117 3987683987354747618711421180841033727 (by kernel_rfl) rfl (by kernel_rfl) (by rfl) (fun K hK => ?_)
    go_simp
    go_at_call 51
    refine (orall_f (sets3 (HFA.out.near HNk46.out) (HFB.out.near HNk46.out) (HFC.out.near HNk46.out)) (by simp)).mono ?_
    rintro e xk47 ⟨vk47, rfl, d, n'⟩
    obtain ⟨pk47, qk47, rk47, sk47, rfl⟩ := d.form
    have HDk47 := Lib.hid d
    clear d
    have HSk47 := Lib.hid (((Near.refl _).alloc _).trans n')
    have HNk47 := Lib.hid (HNk46.out.trans HSk47.out)
    clear n'
    refine hK.out _ _ (HSKk.out _ HNk47.out) (fun hHeld => ?_)
    clear hK K
    try simp only [Act.put, List.setIfInBounds_toArray, List.set_cons_zero, List.set_cons_succ]
    refine oneM 120 5316911983139663491615228241121378303 (by kernel_rfl) rfl (by kernel_rfl) (by rfl) (fun K hK => ?_)
    go_simp
    go_at_call 33
    refine (or_f (HFC.out.near HNk47.out) (HFB.out.near HNk47.out)).mono ?_
    rintro e xk48 ⟨vk48, rfl, d, n'⟩
    obtain ⟨pk48, qk48, rk48, sk48, rfl⟩ := d.form
    have HDk48 := Lib.hid d
    clear d
    have HSk48 := Lib.hid n'
    have HNk48 := Lib.hid (HNk47.out.trans HSk48.out)
    clear n'
    refine hK.out _ _ (HSKk.out _ HNk48.out) (fun hHeld => ?_)
    clear hK K
    try simp only [Act.put, List.setIfInBounds_toArray, List.set_cons_zero, List.set_cons_succ]
    refine oneM 122 10633823966279326983230456482242756607 (by kernel_rfl) rfl (by kernel_rfl) (by rfl) (fun K hK => ?_)
    go_simp
    go_at_call 33
    refine (or_f HDk48.out (HFA.out.near HNk48.out)).mono ?_
    rintro e xk49 ⟨vk49, rfl, d, n'⟩
    obtain ⟨pk49, qk49, rk49, sk49, rfl⟩ := d.form
    have HDk49 := Lib.hid d
    clear d
    have HSk49 := Lib.hid n'
    have HNk49 := Lib.hid (HNk48.out.trans HSk49.out)
    clear n'
    refine hK.out _ _ (HSKk.out _ HNk49.out) (fun hHeld => ?_)
    clear hK K
    try simp only [Act.put, List.setIfInBounds_toArray, List.set_cons_zero, List.set_cons_succ]
    refine oneM 123 21267647932558653966460912964485513215 (by kernel_rfl) rfl (by kernel_rfl) (by rfl) (fun K hK => ?_)
    go_simp
    go_at_call 42
    refine (equal_f (HDk47.out.near (HSk48.out.trans HSk49.out)) HDk49.out (fun c => by simp only [anyF, List.any_cons, List.any_nil]; cases fa c <;> cases fb c <;> cases fc c <;> rfl)).mono ?_
    rintro e xk50 ⟨rfl, n'⟩
    have HSk50 := Lib.hid n'
    have HNk50 := Lib.hid (HNk49.out.trans HSk50.out)
    clear n'
    refine hK.out _ _ (HSKk.out _ HNk50.out) (fun hHeld => ?_)
    clear hK K
    try simp only [Act.put, List.setIfInBounds_toArray, List.set_cons_zero, List.set_cons_succ]
    refine takeM 124 42535295865117307932921825928971026431 (v := Value.bool true) (by kernel_rfl) rfl (by kernel_rfl) (fun _ _ _ h => h) (by rfl) (fun w' hSw => ?_) hHeld ?_
    · go_simp
    try simp only [Act.put, List.setIfInBounds_toArray, List.set_cons_zero, List.set_cons_succ]
    refine takeM 125 85070591730234615865843651857942052863 (v := Value.bool true) (by kernel_rfl) rfl (by kernel_rfl) (fun _ _ _ h => h) (by rfl) (fun w' hSw => ?_) hHeld ?_
    · go_simp
    try simp only [Act.put, List.setIfInBounds_toArray, List.set_cons_zero, List.set_cons_succ]
    refine takeM 126 170141183460469231731687303715884105727 (v := Value.agg #[.slice a1 a2 a3, .int .i64 a4]) (by kernel_rfl) rfl (by kernel_rfl) (fun _ _ _ h => h) (by rfl) (fun w' hSw => ?_) hHeld ?_
    · go_simp
    try simp only [Act.put, List.setIfInBounds_toArray, List.set_cons_zero, List.set_cons_succ]
    refine takeM 127 340282366920938463463374607431768211455 (v := Value.agg #[.slice b1 b2 b3, .int .i64 b4]) (by kernel_rfl) rfl (by kernel_rfl) (fun _ _ _ h => h) (by rfl) (fun w' hSw => ?_) hHeld ?_
    · go_simp
    try simp only [Act.put, List.setIfInBounds_toArray, List.set_cons_zero, List.set_cons_succ]
    refine takeM 129 1020847100762815390390123822295304634367 (v := Value.agg #[.slice a1 a2 a3, .int .i64 a4]) (by kernel_rfl) rfl (by kernel_rfl) (fun _ _ _ h => h) (by rfl) (fun w' hSw => ?_) hHeld ?_
    · go_simp
    try simp only [Act.put, List.setIfInBounds_toArray, List.set_cons_zero, List.set_cons_succ]
    refine takeM 130 2381976568446569244243622252022377480191 (v := Value.agg #[.slice b1 b2 b3, .int .i64 b4]) (by kernel_rfl) rfl (by kernel_rfl) (fun _ _ _ h => h) (by rfl) (fun w' hSw => ?_) hHeld ?_
    · go_simp
    try simp only [Act.put, List.setIfInBounds_toArray, List.set_cons_zero, List.set_cons_succ]
    refine takeM 132 7826494439181584659657615970930668863487 (v := Value.agg #[.slice b1 b2 b3, .int .i64 b4]) (by kernel_rfl) rfl (by kernel_rfl) (fun _ _ _ h => h) (by rfl) (fun w' hSw => ?_) hHeld ?_
    · go_simp
    try simp only [Act.put, List.setIfInBounds_toArray, List.set_cons_zero, List.set_cons_succ]
    refine oneM 128 8166776806102523123120990578362437074943 (by kernel_rfl) rfl (by kernel_rfl) (by rfl) (fun K hK => ?_)
    go_simp
    go_at_call 47
    refine (within_is (HFA.out.near HNk50.out) (HFB.out.near HNk50.out) HQ1.out).mono ?_
    rintro e xk51 ⟨rfl, n'⟩
    have HSk51 := Lib.hid n'
    have HNk51 := Lib.hid (HNk50.out.trans HSk51.out)
    clear n'
    refine hK.out _ _ (HSKk.out _ HNk51.out) (fun hHeld => ?_)
    clear hK K
    try simp only [Act.put, List.setIfInBounds_toArray, List.set_cons_zero, List.set_cons_succ]
    refine oneM 131 10889035741470030830827987437816582766591 (by kernel_rfl) rfl (by kernel_rfl) (by rfl) (fun K hK => ?_)
    go_simp
    go_at_call 33
    refine (or_f (HFA.out.near HNk51.out) (HFB.out.near HNk51.out)).mono ?_
    rintro e xk52 ⟨vk52, rfl, d, n'⟩
    obtain ⟨pk52, qk52, rk52, sk52, rfl⟩ := d.form
    have HDk52 := Lib.hid d
    clear d
    have HSk52 := Lib.hid n'
    have HNk52 := Lib.hid (HNk51.out.trans HSk52.out)
    clear n'
    refine hK.out _ _ (HSKk.out _ HNk52.out) (fun hHeld => ?_)
    clear hK K
    try simp only [Act.put, List.setIfInBounds_toArray, List.set_cons_zero, List.set_cons_succ]
    refine oneM 133 21778071482940061661655974875633165533183 (by kernel_rfl) rfl (by kernel_rfl) (by rfl) (fun K hK => ?_)
    go_simp
    go_at_call 52
    refine (same_is HDk52.out (HFB.out.near HNk52.out) HQ2.out).mono ?_
    rintro e xk53 ⟨rfl, n'⟩
    have HSk53 := Lib.hid n'
    have HNk53 := Lib.hid (HNk52.out.trans HSk53.out)
    clear n'
    refine hK.out _ _ (HSKk.out _ HNk53.out) (fun hHeld => ?_)
    clear hK K
    try simp only [Act.put, List.setIfInBounds_toArray, List.set_cons_zero, List.set_cons_succ]
    refine takeM 134 43556142965880123323311949751266331066367 (v := Value.bool true) (by kernel_rfl) rfl (by kernel_rfl) (fun _ _ _ h => h) (by rfl) (fun w' hSw => ?_) hHeld ?_
    · go_simp
    try simp only [Act.put, List.setIfInBounds_toArray, List.set_cons_zero, List.set_cons_succ]
    refine takeM 135 87112285931760246646623899502532662132735 (v := Value.bool true) (by kernel_rfl) rfl (by kernel_rfl) (fun _ _ _ h => h) (by rfl) (fun w' hSw => ?_) hHeld ?_
    · go_simp
    try simp only [Act.put, List.setIfInBounds_toArray, List.set_cons_zero, List.set_cons_succ]
    refine takeM 136 174224571863520493293247799005065324265471 (v := Value.bool true) (by kernel_rfl) rfl (by kernel_rfl) (fun _ _ _ h => h) (by rfl) (fun w' hSw => ?_) hHeld ?_
    · go_simp
    try simp only [Act.put, List.setIfInBounds_toArray, List.set_cons_zero, List.set_cons_succ]
    refine takeM 137 348449143727040986586495598010130648530943 (v := Value.agg #[.slice a1 a2 a3, .int .i64 a4]) (by kernel_rfl) rfl (by kernel_rfl) (fun _ _ _ h => h) (by rfl) (fun w' hSw => ?_) hHeld ?_
    · go_simp
    try simp only [Act.put, List.setIfInBounds_toArray, List.set_cons_zero, List.set_cons_succ]
    refine takeM 138 696898287454081973172991196020261297061887 (v := Value.agg #[.slice b1 b2 b3, .int .i64 b4]) (by kernel_rfl) rfl (by kernel_rfl) (fun _ _ _ h => h) (by rfl) (fun w' hSw => ?_) hHeld ?_
    · go_simp
    try simp only [Act.put, List.setIfInBounds_toArray, List.set_cons_zero, List.set_cons_succ]
    refine takeM 140 2090694862362245919518973588060783891185663 (v := Value.agg #[.slice a1 a2 a3, .int .i64 a4]) (by kernel_rfl) rfl (by kernel_rfl) (fun _ _ _ h => h) (by rfl) (fun w' hSw => ?_) hHeld ?_
    · go_simp
    try simp only [Act.put, List.setIfInBounds_toArray, List.set_cons_zero, List.set_cons_succ]
    refine takeM 141 4878288012178573812210938372141829079433215 (v := Value.agg #[.slice b1 b2 b3, .int .i64 b4]) (by kernel_rfl) rfl (by kernel_rfl) (fun _ _ _ h => h) (by rfl) (fun w' hSw => ?_) hHeld ?_
    · go_simp
    try simp only [Act.put, List.setIfInBounds_toArray, List.set_cons_zero, List.set_cons_succ]
    refine oneM 139 5575186299632655785383929568162090376495103 (by kernel_rfl) rfl (by kernel_rfl) (by rfl) (fun K hK => ?_)
    go_simp
    go_at_call 53
    refine (meets_is (HFA.out.near HNk53.out) (HFB.out.near HNk53.out) HQ3.out).mono ?_
    rintro e xk54 ⟨rfl, n'⟩
    have HSk54 := Lib.hid n'
    have HNk54 := Lib.hid (HNk53.out.trans HSk54.out)
    clear n'
    refine hK.out _ _ (HSKk.out _ HNk54.out) (fun hHeld => ?_)
    clear hK K
    try simp only [Act.put, List.setIfInBounds_toArray, List.set_cons_zero, List.set_cons_succ]
    refine oneM 142 11150372599265311570767859136324180752990207 (by kernel_rfl) rfl (by kernel_rfl) (by rfl) (fun K hK => ?_)
    go_simp
    go_at_call 32
    refine (not_f (HFB.out.near HNk54.out)).mono ?_
    rintro e xk55 ⟨vk55, rfl, d, n'⟩
    obtain ⟨pk55, qk55, rk55, sk55, rfl⟩ := d.form
    have HDk55 := Lib.hid d
    clear d
    have HSk55 := Lib.hid n'
    have HNk55 := Lib.hid (HNk54.out.trans HSk55.out)
    clear n'
    refine hK.out _ _ (HSKk.out _ HNk55.out) (fun hHeld => ?_)
    clear hK K
    try simp only [Act.put, List.setIfInBounds_toArray, List.set_cons_zero, List.set_cons_succ]
    refine oneM 143 22300745198530623141535718272648361505980415 (by kernel_rfl) rfl (by kernel_rfl) (by rfl) (fun K hK => ?_)
    go_simp
    go_at_call 47
    refine (within_is (HFA.out.near HNk55.out) HDk55.out HQ4.out).mono ?_
    rintro e xk56 ⟨rfl, n'⟩
    have HSk56 := Lib.hid n'
    have HNk56 := Lib.hid (HNk55.out.trans HSk56.out)
    clear n'
    refine hK.out _ _ (HSKk.out _ HNk56.out) (fun hHeld => ?_)
    clear hK K
    try simp only [Act.put, List.setIfInBounds_toArray, List.set_cons_zero, List.set_cons_succ]
    refine takeM 144 44601490397061246283071436545296723011960831 (v := Value.bool (!q2)) (by kernel_rfl) rfl (by kernel_rfl) (fun _ _ _ h => h) (by rfl) (fun w' hSw => ?_) hHeld ?_
    · go_simp
    try simp only [Act.put, List.setIfInBounds_toArray, List.set_cons_zero, List.set_cons_succ]
    refine takeM 145 89202980794122492566142873090593446023921663 (v := Value.bool true) (by kernel_rfl) rfl (by kernel_rfl) (fun _ _ _ h => h) (by rfl) (fun w' hSw => ?_) hHeld ?_
    · go_simp
    try simp only [Act.put, List.setIfInBounds_toArray, List.set_cons_zero, List.set_cons_succ]
    refine takeM 146 178405961588244985132285746181186892047843327 (v := Value.bool true) (by kernel_rfl) rfl (by kernel_rfl) (fun _ _ _ h => h) (by rfl) (fun w' hSw => ?_) hHeld ?_
    · go_simp
    try simp only [Act.put, List.setIfInBounds_toArray, List.set_cons_zero, List.set_cons_succ]
    refine takeM 147 356811923176489970264571492362373784095686655 (v := Value.bool true) (by kernel_rfl) rfl (by kernel_rfl) (fun _ _ _ h => h) (by rfl) (fun w' hSw => ?_) hHeld ?_
    · go_simp
    try simp only [Act.put, List.setIfInBounds_toArray, List.set_cons_zero, List.set_cons_succ]
    refine oneM 148 713623846352979940529142984724747568191373311 (by kernel_rfl) rfl (by kernel_rfl) (by rfl) (fun K hK => ?_)
    go_simp
    go_at_call 17
    refine (wakes_calls _).mono ?_
    rintro e xk57 ⟨rfl, n'⟩
    have HSk57 := Lib.hid n'
    have HNk57 := Lib.hid (HNk56.out.trans HSk57.out)
    clear n'
    refine hK.out _ _ (HSKk.out _ HNk57.out) (fun hHeld => ?_)
    clear hK K
    try simp only [Act.put, List.setIfInBounds_toArray, List.set_cons_zero, List.set_cons_succ]
    refine takeM 149 1427247692705959881058285969449495136382746623 (v := Value.bool true) (by kernel_rfl) rfl (by kernel_rfl) (fun _ _ _ h => h) (by rfl) (fun w' hSw => ?_) hHeld ?_
    · go_simp
    try simp only [Act.put, List.setIfInBounds_toArray, List.set_cons_zero, List.set_cons_succ]
    refine takeM 150 2854495385411919762116571938898990272765493247 (v := Value.bool true) (by kernel_rfl) rfl (by kernel_rfl) (fun _ _ _ h => h) (by rfl) (fun w' hSw => ?_) hHeld ?_
    · go_simp
    try simp only [Act.put, List.setIfInBounds_toArray, List.set_cons_zero, List.set_cons_succ]
    refine doneM (by kernel_rfl) ?_
    refine NoPanic.normal ?_
    go_wp2_with fail
    go_ret
    exact ⟨rfl, HNW.out.trans HNk57.out⟩
  · have hd : decide (ThreeOk l) = false := decide_eq_false hok
    have HD := Lib.hid hd
    clear hd hok
    go_enter Try.func11, Try.ntmps11
    go_wp2_with (first
      | (go_at_call 31; refine H3.out.mono ?_; rintro e w3 h3; obtain ⟨a1, a2, a3, a4, b1, b2, b3, b4, c1, c2, c3, c4, rfl, ia, ib, ic, n3⟩ := h3.mk; rw [HD.out]; have HN3 := Lib.hid n3; clear ia ib ic n3)
      | (go_at_call 17; refine (wakes_calls _).mono ?_; rintro e w4 ⟨rfl, n4⟩))
    go_ret
    exact ⟨rfl, (((HN3.out.alloc _).alloc _).alloc _).trans n4⟩

end Go.Proofs.Ytefclohjeompkaa
