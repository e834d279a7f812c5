/- The reference: Full, Place. -/
import Derived.Test.YtefclohjeompkaaKSaidA
import Derived.Test.YtefclohjeompkaaKOfB
import Derived.Test.YtefclohjeompkaaKRefP
namespace Go.Proofs.Ytefclohjeompkaa
open Go Go.RowKit Go.Proofs.Gen Go.Proofs.Bdd Go.Proofs.Bdd.T

theorem trues_full {V : List Nat} {T : List Bool} (hV : Rising 0 V) (hT : T.length = 2 ^ V.length) : trues T = T.length ↔ ∀ c, rf V T c = true := by
  rw [trues, List.countP_eq_length]
  constructor
  · intro h c
    have hx := idx_lt c V
    rw [rf, List.getD_eq_getElem?_getD, List.getElem?_eq_getElem (by omega)]
    simpa using h _ (List.getElem_mem (by omega))
  · intro h b hb
    obtain ⟨k, hk, rfl⟩ := List.getElem_of_mem hb
    have := h (cfg V k).testBit
    rw [rf, idx_cfg hV (by omega), List.getD_eq_getElem?_getD, List.getElem?_eq_getElem hk] at this
    simpa using this

open Classical in
/-- Does a function hold everywhere? -/
noncomputable def everyF (f : F) : Bool := decide (∀ c, f c = true)

theorem rempty_g {w : World} {v : Value} {f : F} {b : Bool} (h : IsG w v f) (hb : nowhere f = b) : Calls Try.prog 57 #[v] w fun e w' => e = .returned (.bool b) ∧ Near w w' := by
  subst hb
  obtain ⟨V, h⟩ := h
  exact rempty_calls h
theorem rsame_g {w : World} {va vb : Value} {f g : F} {b : Bool} (ha : IsG w va f) (hb : IsG w vb g) (he : sameF f g = b) : Calls Try.prog 59 #[va, vb] w fun e w' => e = .returned (.bool b) ∧ Near w w' := by
  subst he
  obtain ⟨V, h⟩ := ha
  obtain ⟨V', h'⟩ := hb
  exact rsame_calls h h'

set_option maxRecDepth 100000 in
set_option maxHeartbeats 800000 in
theorem rfull_g {w : World} {v : Value} {f : F} {b : Bool} (h : IsG w v f) (hb : everyF f = b) : Calls Try.prog 58 #[v] w fun e w' => e = .returned (.bool b) ∧ Near w w' := by
  obtain ⟨V, hs⟩ := h
  obtain ⟨T, hT, hf⟩ := hs
  have ht := trues_full hT.rise hT.len
  have hq : (((trues T : Nat) : Int) == (T.length : Int)) = b := by
    rw [← hb, everyF, Bool.eq_iff_iff]
    simp only [beq_iff_eq, decide_eq_true_eq, ← hf, ← ht]
    omega
  have HQ := Lib.hid hq
  have HT := Lib.hid hT
  clear hq ht hf hb
  obtain ⟨hV, hTl, sv, st, rfl, r1, r2⟩ := hT
  obtain ⟨ao, cap, rfl⟩ := owns_form r1
  obtain ⟨bo, cbp, rfl⟩ := owns_form r2
  obtain ⟨n, hn⟩ : ∃ n, n = V.length := ⟨_, rfl⟩
  rw [← hn] at HT ⊢
  clear hn r1 r2 hTl hV
  have hN : Near w (w.alloc (.cells #[.slice ao n cap, .slice bo T.length cbp] 37)) := (Near.refl w).alloc _
  have hE : (w.alloc (.cells #[.slice ao n cap, .slice bo T.length cbp] 37)).heap[w.heap.size]? = some (.cells #[.slice ao n cap, .slice bo T.length cbp] 37 (0, 0)) := heap_new_at rfl
  go_enter Try.func58, Try.ntmps58
  go_wp2_with fail
  generalize (w.alloc (.cells #[.slice ao n cap, .slice bo T.length cbp] 37)) = W at hN hE ⊢
  have HN := Lib.hid hN
  have HE := Lib.hid hE
  clear hN hE
  have sOf : ∀ w', Near W w' → w'.cell? ⟨w.heap.size, 0, none⟩ = some (.slice ao n cap) ∧ w'.cell? ⟨w.heap.size, 1, none⟩ = some (.slice bo T.length cbp) := fun w' h => ⟨cell1 (keepN h HE.out) rfl, cell1 (keepN h HE.out) rfl⟩
  go_region_held3 (fun w' => w'.cell? ⟨w.heap.size, 0, none⟩ = some (.slice ao n cap) ∧ w'.cell? ⟨w.heap.size, 1, none⟩ = some (.slice bo T.length cbp))
    ((refine sOf _ ?_; first | exact z1 | exact (Near.refl _).drew))
    (first
      | (go_at_call 104; refine (many_calls (HT.out.near (HN.out.trans (Near.refl _).drew))).mono ?_; rintro e v1 ⟨rfl, n1⟩; have z1 : Near W v1 := (Near.refl _).drew.trans n1))
  all_goals
    go_wp2_with fail
    rw [HQ.out]
    exact bodyPost_ret (v := .bool b) (by simp [results, Try.results58, go_sem]) rfl ⟨rfl, HN.out.trans z1⟩

/-- The place of a tree in a list of nodes; -1: it has none. -/
def placeZ (L : List T) : T → Int
  | .leaf b => b.toNat
  | .node i l h => if node i l h ∈ L then (L.idxOf (node i l h) : Int) + 2 else -1

theorem placeZ_in {L : List T} {t : T} (h : In L t) : placeZ L t = (pl L t : Nat) := by
  cases t with
  | leaf b => cases b <;> rfl
  | node i l r =>
    have hm : node i l r ∈ L := h
    simp only [placeZ, if_pos hm, pl]
    omega
theorem placeZ_not {L : List T} {i : Nat} {l h : T} (hn : node i l h ∉ L) : placeZ L (node i l h) = -1 := by simp only [placeZ, if_neg hn]

theorem same_tree {s t : T} (hs : s.Ok) (ht : t.Ok) : sameF s.ev t.ev = decide (s = t) := by
  unfold sameF
  rw [decide_eq_decide]
  exact ⟨fun h => canon hs ht h, fun h c => by rw [h]⟩
theorem nowhere_tree {t : T} (ht : t.Ok) : nowhere t.ev = decide (t = .leaf false) := by
  have h := same_tree (t := .leaf false) ht trivial
  rw [← h]
  unfold nowhere sameF
  rfl
theorem every_tree {t : T} (ht : t.Ok) : everyF t.ev = decide (t = .leaf true) := by
  have h := same_tree (t := .leaf true) ht trivial
  rw [← h]
  unfold everyF sameF
  rfl

set_option maxRecDepth 100000 in
set_option maxHeartbeats 1600000 in
theorem place_calls {w : World} {sv va : Value} {lo : Option Addr} {ln lc : Nat} {L : List T} {t : T} {b : Nat} (hs : Sets 37 IsG b w sv (L.map fun s => s.ev)) (ha : IsG w va t.ev) (ok : t.Ok) (hL : ∀ s ∈ L, s.Ok) (hlen : L.length < 1099511627776) :
    Calls Try.prog 87 #[.agg #[sv, .slice lo ln lc], va] w fun e w' => e = .returned (.int .i64 (placeZ L t)) ∧ Near w w' := by
  have HA := Lib.hid ha
  have HS := Lib.hid hs
  have HLk := Lib.hid hL
  have HOK := Lib.hid ok
  obtain ⟨a1, a2, a3, a4, a5, a6, rfl⟩ := ha.form
  obtain ⟨so, sc, rfl⟩ := hs.form
  have e1 := Lib.hid (nowhere_tree ok)
  have e2 := Lib.hid (every_tree ok)
  clear ha hs hL ok
  obtain ⟨m, hm⟩ : ∃ m, (L.map fun s => s.ev).length = m := ⟨_, rfl⟩
  rw [hm] at HS ⊢
  have HM := Lib.hid hm
  have HML := Lib.hid (show m = L.length by rw [← hm, List.length_map])
  clear hm
  have hN : Near w ((w.alloc (.cells #[.slice so m sc, .slice lo ln lc] 113)).alloc (.cells #[.slice a1 a2 a3, .slice a4 a5 a6] 37)) := ((Near.refl w).alloc _).alloc _
  have hB : ((w.alloc (.cells #[.slice so m sc, .slice lo ln lc] 113)).alloc (.cells #[.slice a1 a2 a3, .slice a4 a5 a6] 37)).heap[w.heap.size]? = some (.cells #[.slice so m sc, .slice lo ln lc] 113 (0, 0)) := by
    rw [heap_old_at (by simp), heap_new_at rfl]
  have hE : ((w.alloc (.cells #[.slice so m sc, .slice lo ln lc] 113)).alloc (.cells #[.slice a1 a2 a3, .slice a4 a5 a6] 37)).heap[w.heap.size + 1]? = some (.cells #[.slice a1 a2 a3, .slice a4 a5 a6] 37 (0, 0)) := heap_new_at (by simp)
  go_enter Try.func87, Try.ntmps87
  go_upto_region 1 with fail
  generalize ((w.alloc (.cells #[.slice so m sc, .slice lo ln lc] 113)).alloc (.cells #[.slice a1 a2 a3, .slice a4 a5 a6] 37)) = W at hN hB hE ⊢
  have HN := Lib.hid hN
  have HB := Lib.hid hB
  have HE := Lib.hid hE
  clear hN hB hE
  have sOf : ∀ w', Near W w' → w'.cell? ⟨w.heap.size, 0, none⟩ = some (.slice so m sc) ∧ w'.cell? ⟨w.heap.size + 1, 0, none⟩ = some (.slice a1 a2 a3) ∧ w'.cell? ⟨w.heap.size + 1, 1, none⟩ = some (.slice a4 a5 a6) :=
    fun w' h => ⟨cell1 (keepN h HB.out) rfl, cell1 (keepN h HE.out) rfl, cell1 (keepN h HE.out) rfl⟩
  obtain ⟨c0, c1, c2⟩ := sOf W (Near.refl _)
  by_cases h0 : t = .leaf false
  · subst h0
    go_wp2_with (go_at_call 57; refine (rempty_g (b := true) (HA.out.near HN.out) (e1.out.trans (by simp))).mono ?_; rintro e v1 ⟨rfl, n1⟩)
    exact bodyPost_ret (v := .int .i64 0) (by simp [results, Try.results87, go_sem]) rfl ⟨rfl, HN.out.trans n1⟩
  · have hb1 : nowhere t.ev = false := by rw [e1.out]; simp [h0]
    have HB1 := Lib.hid hb1
    clear hb1
    by_cases h1 : t = .leaf true
    · subst h1
      go_wp2_with (first
        | (go_at_call 57; refine (rempty_g (HA.out.near HN.out) HB1.out).mono ?_; rintro e v1 ⟨rfl, n1⟩; obtain ⟨-, d1, d2⟩ := sOf _ n1)
        | (go_at_call 58; refine (rfull_g (b := true) (HA.out.near (HN.out.trans n1)) (e2.out.trans (by simp))).mono ?_; rintro e v2 ⟨rfl, n2⟩))
      exact bodyPost_ret (v := .int .i64 1) (by simp [results, Try.results87, go_sem]) rfl ⟨rfl, (HN.out.trans n1).trans n2⟩
    · have hb2 : everyF t.ev = false := by rw [e2.out]; simp [h1]
      have HB2 := Lib.hid hb2
      clear hb2
      obtain ⟨i, l, h, rfl⟩ : ∃ i l h, t = node i l h := by
        cases t with
        | leaf b => cases b <;> simp at h0 h1
        | node i l h => exact ⟨i, l, h, rfl⟩
      clear h0 h1
      go_wp2_with (first
        | (go_at_call 57; refine (rempty_g (HA.out.near HN.out) HB1.out).mono ?_; rintro e v1 ⟨rfl, n1⟩; obtain ⟨-, d1, d2⟩ := sOf _ n1)
        | (go_at_call 58; refine (rfull_g (HA.out.near (HN.out.trans n1)) HB2.out).mono ?_; rintro e v2 ⟨rfl, n2⟩))
      have HN2 := Lib.hid (n1.trans n2)
      clear n1 n2 d1 d2 c0 c1 c2
      go_loopw [5] (fun j wr => ∃ k : Nat, k ≤ m ∧ j = .int .i64 k ∧ (∀ q, q < k → L[q]? ≠ some (node i l h)) ∧ Near W wr) (fun j _ => m - (intOf j).toNat)
      case atStart => exact ⟨0, Nat.zero_le _, rfl, fun q hq => by omega, HN2.out⟩
      case round =>
        obtain ⟨k, hk, rfl, hnot, hn⟩ := hrel
        have HNot := Lib.hid hnot
        have HK := Lib.hid hn
        obtain ⟨c0, c1, c2⟩ := sOf _ hn
        clear hnot hn
        by_cases hlt : k < m
        · have hlt' : (k : Int) < m := by omega
          have hkL : k < L.length := by rw [← HML.out]; exact hlt
          have hget : (L.map fun s => s.ev)[k]? = some (L[k].ev) := by rw [List.getElem?_map, List.getElem?_eq_getElem hkL]; rfl
          obtain ⟨g, xc, p, q, hx, -, -, z0, z1, hi⟩ := HS.out.get hget
          rw [HM.out] at hx
          simp only [Value.slice.injEq, true_and] at hx
          obtain ⟨rfl, rfl⟩ := hx
          obtain ⟨p1, p2, p3, p4, p5, p6, hpe⟩ := hi.form
          simp only [Value.agg.injEq, Array.mk.injEq, List.cons.injEq, and_true] at hpe
          obtain ⟨rfl, rfl⟩ := hpe
          have z0' := HK.out.cell (HN.out.cell z0)
          have z1' := HK.out.cell (HN.out.cell z1)
          have hsm := same_tree (HLk.out _ (List.getElem_mem hkL)) HOK.out
          have hLk : L[k]? = some L[k] := List.getElem?_eq_getElem hkL
          obtain ⟨s, hse⟩ : ∃ s, s = L[k] := ⟨_, rfl⟩
          rw [← hse] at hsm hi hLk
          have HI := Lib.hid (hi.near (HN.out.trans HK.out))
          have HLK := Lib.hid hLk
          obtain ⟨bb, hbb⟩ : ∃ bb, sameF s.ev (node i l h).ev = bb := ⟨_, rfl⟩
          have HBB := Lib.hid hbb
          rw [hbb] at hsm
          have HSM := Lib.hid hsm
          clear z0 z1 hsm hbb hi hse hget hLk
          have sOf2 : ∀ w', Near wr w' → w'.cell? ⟨w.heap.size, 0, none⟩ = some (.slice (some ⟨g, 0, none⟩) m sc) ∧ w'.cell? ⟨w.heap.size + 1, 0, none⟩ = some (.slice a1 a2 a3) ∧ w'.cell? ⟨w.heap.size + 1, 1, none⟩ = some (.slice a4 a5 a6) ∧ w'.cell? ⟨g, k * 2, none⟩ = some (.slice p1 p2 p3) ∧ w'.cell? ⟨g, k * 2 + 1, none⟩ = some (.slice p4 p5 p6) :=
            fun w' h => ⟨h.cell c0, h.cell c1, h.cell c2, h.cell z0', h.cell z1'⟩
          have HSO2 := Lib.hid sOf2
          clear sOf2 z0' z1'
          go_wp2_with fail
          go_region_held3 (fun w' => w'.cell? ⟨w.heap.size, 0, none⟩ = some (.slice (some ⟨g, 0, none⟩) m sc) ∧ w'.cell? ⟨w.heap.size + 1, 0, none⟩ = some (.slice a1 a2 a3) ∧ w'.cell? ⟨w.heap.size + 1, 1, none⟩ = some (.slice a4 a5 a6) ∧ w'.cell? ⟨g, k * 2, none⟩ = some (.slice p1 p2 p3) ∧ w'.cell? ⟨g, k * 2 + 1, none⟩ = some (.slice p4 p5 p6))
            ((refine HSO2.out _ ?_; first | exact z5 | exact (Near.refl _).drew))
            (first
              | (go_at_call 59; refine (rsame_g (HI.out.near (Near.refl _).drew) (HA.out.near ((HN.out.trans HK.out).trans (Near.refl _).drew)) HBB.out).mono ?_; rintro e v5 ⟨rfl, n5⟩; have z5 : Near wr v5 := (Near.refl _).drew.trans n5))
          all_goals
            cases bb
            · go_wp2_with fail
              refine ⟨⟨k + 1, by omega, by go_num, fun q hq => ?_, HK.out.trans z5⟩, by simp [intOf]; omega⟩
              by_cases e : q = k
              · subst e
                rw [HLK.out]
                have := HSM.out
                intro e2
                simp only [Option.some.injEq] at e2
                rw [e2] at this
                simp at this
              · exact HNot.out q (by omega)
            · go_wp2_with fail
              refine bodyPost_ret (v := .int .i64 (k + 2)) (by simp [results, Try.results87, go_sem]) rfl ⟨?_, (HN.out.trans HK.out).trans z5⟩
              have hst : s = node i l h := by have := HSM.out; simpa using this.symm
              have hk2 := HLK.out
              rw [hst] at hk2
              obtain ⟨hkL', hke⟩ := List.getElem?_eq_some_iff.1 hk2
              have hmem : node i l h ∈ L := by rw [← hke]; exact List.getElem_mem _
              have hidx : L.idxOf (node i l h) = k := by
                have h1 := List.idxOf_lt_length_of_mem hmem
                have h2 := List.getElem_idxOf h1
                rcases Nat.lt_trichotomy (L.idxOf (node i l h)) k with hlt2 | he | hgt
                · exact absurd (by rw [List.getElem?_eq_getElem h1, h2]) (HNot.out _ hlt2)
                · exact he
                · have h3 := List.not_of_lt_findIdx (xs := L) (p := fun x => x == node i l h) (i := k) (by simpa [List.idxOf] using hgt)
                  rw [hke] at h3
                  simp at h3
              simp only [placeZ, if_pos hmem, hidx]
        · have hkl : k = m := by omega
          subst hkl
          go_wp2_with fail
          refine bodyPost_ret (v := .int .i64 (-1)) (by simp [results, Try.results87, go_sem]) rfl ⟨?_, HN.out.trans HK.out⟩
          rw [placeZ_not]
          intro hmem
          obtain ⟨q, hq, hqe⟩ := List.getElem_of_mem hmem
          exact HNot.out q (by rw [HML.out]; exact hq) (by rw [List.getElem?_eq_getElem hq, hqe])

end Go.Proofs.Ytefclohjeompkaa
