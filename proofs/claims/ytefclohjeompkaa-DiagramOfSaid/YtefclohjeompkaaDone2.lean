/- The contract of the maker's 'done'. -/
import Derived.Test.YtefclohjeompkaaDone
import Derived.Laws.EntriesVeiled
namespace Go.Proofs.Ytefclohjeompkaa
open Go Go.RowKit Go.Proofs.Gen Go.Proofs.Bdd Go.Proofs.Bdd.T

/-- What is handed back: the list that 'visit' left, and the root's place. -/
def DoneOut (w : World) (p : Int) (Q : Value → World → Prop) (e : Ending) (w' : World) : Prop :=
  ∃ sv w3, e = .returned (.agg #[sv, .int .i64 p]) ∧ Q sv w3 ∧ w' = (w3.setCell ⟨w.heap.size + 1, 0, none⟩ sv).setCell ⟨w.heap.size + 1, 1, none⟩ (.int .i64 p)

set_option maxRecDepth 100000 in
set_option maxHeartbeats 400000 in
theorem done_walk (mb : Nat) (r p : Int) (w : World) (Q : Value → World → Prop)
    (hv : ∀ w2 : World, mapIs w2 Try.prog 3 3 (w.heap.size + 1 + 1 + 1) 2 (put (put (fun _ _ => False) (.int .i64 0) 0) (.int .i64 1) 1) →
      Turned (w.heap.size + 1 + 1 + 1) ((((w.alloc (.cells #[.pointer (some ⟨mb, 0, none⟩)] 100)).alloc (.cells #[.slice none 0 0, .int .i64 0] 31)).alloc (.cells #[.slice none 0 0] 22)).alloc (.map #[] 0)) w2 →
      Calls Try.prog 124 #[.int .i64 r, .pointer (some ⟨w2.heap.size, 0, none⟩), .pointer (some ⟨w.heap.size, 0, none⟩), .pointer (some ⟨w2.heap.size + 1, 0, none⟩), .pointer (some ⟨w.heap.size + 1 + 1, 0, none⟩)]
        ((w2.alloc (.cells #[.map (some (w.heap.size + 1 + 1 + 1))] 156)).alloc
          (.cells #[.func (.func 124) #[] #[.pointer (some ⟨w2.heap.size, 0, none⟩), .pointer (some ⟨w.heap.size, 0, none⟩), .pointer (some ⟨w2.heap.size + 1, 0, none⟩), .pointer (some ⟨w.heap.size + 1 + 1, 0, none⟩)]] 157))
        fun e w3 => e = .returned (.int .i64 p) ∧ ∃ ao n cap, w3.heap[w.heap.size + 1 + 1]? = some (.cells #[.slice ao n cap] 22 (0, 0)) ∧ w3.heap[w.heap.size + 1]? = some (.cells #[.slice none 0 0, .int .i64 0] 31 (0, 0)) ∧ Q (.slice ao n cap) w3) :
    Calls Try.prog 79 #[.pointer (some ⟨mb, 0, none⟩), .int .i64 r] w (DoneOut w p Q) := by
  have hmm := @run_makeMap Try.prog
  have HV := Lib.hid hv
  clear hv
  go_enter Try.func79, Try.ntmps79
  go_wp2_with (first
    | ((with_reducible show wpList _ _ _ (⟨none, Op.insert _ _ _ (Operand.const (Value.int IntKind.i64 0)), _, _, _, _⟩ :: _) _ _); refine wpList_insert_at rfl (.tmp 9) (.const (.int .i64 0)) (.const (.int .i64 0)) rfl law3 Try.underlying156 Try.underlying3 rfl (mapIs.made_at (by simp)) (by unfold maxLen; omega) _ _ _ rfl rfl (Maps.keyOf_int_mk Try.underlying3 (WalkArith.wf_i64 (by omega))) (WalkArith.wf_i64 (by omega)) ?_; intro w1 hm1 ht1; have HM1 := Lib.hid hm1; have HT1 := Lib.hid ht1; clear hm1 ht1)
    | ((with_reducible show wpList _ _ _ (⟨none, Op.insert _ _ _ (Operand.const (Value.int IntKind.i64 1)), _, _, _, _⟩ :: _) _ _); refine wpList_insert_at rfl (.tmp 9) (.const (.int .i64 1)) (.const (.int .i64 1)) rfl law3 Try.underlying156 Try.underlying3 rfl HM1.out (by unfold maxLen; omega) _ _ _ rfl rfl (Maps.keyOf_int_mk Try.underlying3 (WalkArith.wf_i64 (by omega))) (WalkArith.wf_i64 (by omega)) ?_; intro w2 hm2 ht2; have HM2 := Lib.hid hm2; have HT2 := Lib.hid ht2; clear hm2 ht2))
  refine (HV.out w2 HM2.out (HT1.out.trans HT2.out)).mono ?_
  rintro e w3 ⟨rfl, ao, n, cap, ho, hres, hq⟩
  have o0 := cell1 (o := 0) ho rfl
  have q0 := cell1 (o := 0) hres rfl
  have q1 := cell1 (o := 1) hres rfl
  have f0 := free1 hres 0
  have f1 := free1 hres 1
  have HQ := Lib.hid hq
  clear ho hres hq
  go_wp2_with fail
  refine bodyPost_ret (v := .agg #[.slice ao n cap, .int .i64 p]) (by simp [results, Try.results79, go_sem, q0, q1]) rfl ⟨_, w3, rfl, HQ.out, rfl⟩

/-- THE CONTRACT OF 'done'. -/
theorem done_calls {S : Nat → Prop} {L : List T} (g : T.Good L) (hlen : L.length < 1099511627776) {t : T} (hin : In L t) (ok : t.Ok) {mb : Nat} {w : World} (hm : IsMaker w mb S L) {r : Int} (hr : r = (pl L t : Nat)) :
    Calls Try.prog 79 #[.pointer (some ⟨mb, 0, none⟩), .int .i64 r] w (DPost w t) := by
  obtain ⟨sv, kb, n, hmb, hown, hmap, hn, _⟩ := hm
  have hmlt : mb < w.heap.size := (Array.getElem?_eq_some_iff.1 hmb).1
  have rt := room_le t
  refine (done_walk mb r (pl (nodes t) t : Nat) w (fun v w3 => w3.ownsRow 0 26 3 v (nodes t).length (cellsOf (enc (nodes t))) ∧ Below w.heap.size w w3 ∧ w3.heap[w.heap.size + 1]? = some (.cells #[.slice none 0 0, .int .i64 0] 31 (0, 0))) fun w2 hm2 ht2 => ?_).mono ?_
  · have hs2 : w2.heap.size = w.heap.size + 4 := by rw [ht2.size]; simp
    have hb2 : ∀ k, k ≠ w.heap.size + 1 + 1 + 1 → w2.heap[k]? = ((((w.alloc (.cells #[.pointer (some ⟨mb, 0, none⟩)] 100)).alloc (.cells #[.slice none 0 0, .int .i64 0] 31)).alloc (.cells #[.slice none 0 0] 22)).alloc (.map #[] 0)).heap[k]? := ht2.block
    have hold : ∀ k, k < w.heap.size → w2.heap[k]? = w.heap[k]? := fun k hk => by
      rw [hb2 k (by omega), Below.heap_alloc _ _ _ (by simp; omega), Below.heap_alloc _ _ _ (by simp; omega), Below.heap_alloc _ _ _ (by simp; omega), Below.heap_alloc _ _ _ hk]
    have h0 : w2.heap[w.heap.size]? = some (.cells #[.pointer (some ⟨mb, 0, none⟩)] 100 (0, 0)) := by
      rw [hb2 _ (by omega), Below.heap_alloc _ _ _ (by simp; omega), Below.heap_alloc _ _ _ (by simp; omega), Below.heap_alloc _ _ _ (by simp)]
      exact heap_alloc_new w _
    have h1 : w2.heap[w.heap.size + 1]? = some (.cells #[.slice none 0 0, .int .i64 0] 31 (0, 0)) := by
      rw [hb2 _ (by omega), Below.heap_alloc _ _ _ (by simp <;> omega), Below.heap_alloc _ _ _ (by simp)]
      have := heap_alloc_new (w.alloc (.cells #[.pointer (some ⟨mb, 0, none⟩)] 100)) (.cells #[.slice none 0 0, .int .i64 0] 31)
      simpa using this
    have h2 : w2.heap[w.heap.size + 1 + 1]? = some (.cells #[.slice none 0 0] 22 (0, 0)) := by
      rw [hb2 _ (by omega), Below.heap_alloc _ _ _ (by simp)]
      have := heap_alloc_new ((w.alloc (.cells #[.pointer (some ⟨mb, 0, none⟩)] 100)).alloc (.cells #[.slice none 0 0, .int .i64 0] 31)) (.cells #[.slice none 0 0] 22)
      simpa using this
    have k2 : Kept (fun _ => False) w2 ((w2.alloc (.cells #[.map (some (w.heap.size + 1 + 1 + 1))] 156)).alloc
          (.cells #[.func (.func 124) #[] #[.pointer (some ⟨w2.heap.size, 0, none⟩), .pointer (some ⟨w.heap.size, 0, none⟩), .pointer (some ⟨w2.heap.size + 1, 0, none⟩), .pointer (some ⟨w.heap.size + 1 + 1, 0, none⟩)]] 157)) :=
      ((Kept.refl _ w2).alloc _).alloc _
    have hp : ((w2.alloc (.cells #[.map (some (w.heap.size + 1 + 1 + 1))] 156)).alloc
          (.cells #[.func (.func 124) #[] #[.pointer (some ⟨w2.heap.size, 0, none⟩), .pointer (some ⟨w.heap.size, 0, none⟩), .pointer (some ⟨w2.heap.size + 1, 0, none⟩), .pointer (some ⟨w.heap.size + 1 + 1, 0, none⟩)]] 157)).heap[w2.heap.size]? = some (.cells #[.map (some (w.heap.size + 1 + 1 + 1))] 156 (0, 0)) := by
      rw [Below.heap_alloc _ _ _ (by simp)]
      exact heap_alloc_new w2 _
    have hvv : ((w2.alloc (.cells #[.map (some (w.heap.size + 1 + 1 + 1))] 156)).alloc
          (.cells #[.func (.func 124) #[] #[.pointer (some ⟨w2.heap.size, 0, none⟩), .pointer (some ⟨w.heap.size, 0, none⟩), .pointer (some ⟨w2.heap.size + 1, 0, none⟩), .pointer (some ⟨w.heap.size + 1 + 1, 0, none⟩)]] 157)).heap[w2.heap.size + 1]? =
          some (.cells #[.func (.func 124) #[] #[.pointer (some ⟨w2.heap.size, 0, none⟩), .pointer (some ⟨w.heap.size, 0, none⟩), .pointer (some ⟨w2.heap.size + 1, 0, none⟩), .pointer (some ⟨w.heap.size + 1 + 1, 0, none⟩)]] 157 (0, 0)) := by
      have := heap_alloc_new (w2.alloc (.cells #[.map (some (w.heap.size + 1 + 1 + 1))] 156)) (.cells #[.func (.func 124) #[] #[.pointer (some ⟨w2.heap.size, 0, none⟩), .pointer (some ⟨w.heap.size, 0, none⟩), .pointer (some ⟨w2.heap.size + 1, 0, none⟩), .pointer (some ⟨w.heap.size + 1 + 1, 0, none⟩)]] 157)
      simpa using this
    have hsz : ((w2.alloc (.cells #[.map (some (w.heap.size + 1 + 1 + 1))] 156)).alloc
          (.cells #[.func (.func 124) #[] #[.pointer (some ⟨w2.heap.size, 0, none⟩), .pointer (some ⟨w.heap.size, 0, none⟩), .pointer (some ⟨w2.heap.size + 1, 0, none⟩), .pointer (some ⟨w.heap.size + 1 + 1, 0, none⟩)]] 157)).heap.size = w.heap.size + 6 := by simp; omega
    have kw : Kept (fun k => w.heap.size ≤ k) w w2 := ⟨by rw [ht2.os]; rfl, by rw [ht2.tape]; rfl, by rw [ht2.output]; rfl, by omega, fun k hk _ => hold k hk⟩
    generalize hW : ((w2.alloc (.cells #[.map (some (w.heap.size + 1 + 1 + 1))] 156)).alloc
          (.cells #[.func (.func 124) #[] #[.pointer (some ⟨w2.heap.size, 0, none⟩), .pointer (some ⟨w.heap.size, 0, none⟩), .pointer (some ⟨w2.heap.size + 1, 0, none⟩), .pointer (some ⟨w.heap.size + 1 + 1, 0, none⟩)]] 157)) = W at *
    have old : ∀ k, k < w.heap.size → W.heap[k]? = w.heap[k]? := fun k hk => (k2.block k (by omega) id).trans (hold k hk)
    have env : VisEnv W L mb kb w2.heap.size w.heap.size (w2.heap.size + 1) (w.heap.size + 1 + 1) (w.heap.size + 1 + 1 + 1) sv := by
      refine ⟨(old mb hmlt).trans hmb, ⟨hown.1, ?_⟩, hp, (k2.block _ (by omega) id).trans h0, hvv⟩
      rcases hown.2 with hh | ⟨gg, cap, cur, rfl, hb, hg, r⟩
      · exact .inl hh
      · exact .inr ⟨gg, cap, cur, rfl, hb, (old gg (Array.getElem?_eq_some_iff.1 hg).1).trans hg, r⟩
    have st : VisSt W (fun k => k = w.heap.size + 1 + 1 ∨ k = w.heap.size + 1 + 1 + 1 ∨ W.heap.size ≤ k) L [] (w.heap.size + 1 + 1) (w.heap.size + 1 + 1 + 1) := by
      refine ⟨.slice none 0 0, 2, (k2.block _ (by omega) id).trans h2, World.ownsRow_nil _ _ _ _, (hm2.kept k2 id).congr fun x u => ?_, by simp, .inl rfl, .inr (.inl rfl), fun k hk => by simp [Value.ownBlock] at hk⟩
      unfold placed put
      simp only [List.not_mem_nil, false_and, exists_false, or_false]
      constructor
      · rintro (⟨rfl, rfl⟩ | ⟨rfl, rfl⟩)
        · exact .inr ⟨by simp, .inl ⟨rfl, rfl⟩⟩
        · exact .inl ⟨rfl, rfl⟩
      · rintro (⟨rfl, rfl⟩ | ⟨_, ⟨rfl, rfl⟩ | ⟨_, h⟩⟩)
        · exact .inr ⟨rfl, rfl⟩
        · exact .inl ⟨rfl, rfl⟩
        · exact h.elim
    have hne : ∀ b, b < w.heap.size → ¬ (b = w.heap.size + 1 + 1 ∨ b = w.heap.size + 1 + 1 + 1 ∨ W.heap.size ≤ b) := fun b hb => by omega
    refine (visit_calls g hlen t _ [] W ok hin .nil (fun s hs => by cases hs) (by simp; omega) (fun k hk => .inr (.inr hk)) ⟨hne mb hmlt, by omega, by omega, by omega, fun k hk => hne k (hown.lt k hk).2⟩ env st r hr).mono ?_
    rintro e w3 ⟨rfl, ⟨ov, n3, ho, hw, hm3, hn3, r1, r2, r3⟩, hk3⟩
    obtain ⟨ao, cap, rfl⟩ := owns_form hw
    have h13 : w3.heap[w.heap.size + 1]? = some (.cells #[.slice none 0 0, .int .i64 0] 31 (0, 0)) := (hk3.block _ (by omega) (by omega)).trans ((k2.block _ (by omega) id).trans h1)
    refine ⟨rfl, ao, _, cap, ho, h13, hw, ?_, h13⟩
    exact Kept.below ((kw.trans (k2.mono fun _ _ h => h.elim)).trans (hk3.mono fun k _ h => by omega)) (Nat.le_refl _)
  · rintro e w' ⟨v, w3, rfl, ⟨hw, hbl, hres⟩, rfl⟩
    have hne := owns_ne hw hres (by decide : (26 : Nat) ≠ 31)
    refine ⟨_, rfl, ⟨ok, v, rfl, ?_⟩, (hbl.setCell (by show w.heap.size ≤ w.heap.size + 1; omega) _).setCell (by show w.heap.size ≤ w.heap.size + 1; omega) _⟩
    exact ownsRow_setCell_other (ownsRow_setCell_other hw hne _) hne _

end Go.Proofs.Ytefclohjeompkaa
