/- LinJ: what is needed of it. -/
import Derived.Maps.OwnSet
import Derived.WalkKit
import Derived.Deep.QuietTactic
import Derived.Test.YtefclohjeompkaaGreatProg
import Derived.KernelRfl
import Derived.DeepKeys4
import Derived.Deep.RegionLaw
import Derived.StillTailTactics
import Derived.Maps.AppendAt
import Derived.WalkSpells
import Derived.WalkLawsBesides
import Derived.BigQuiet
import Derived.Lib.Hide
import Derived.Deep.DeepCutAuto
import Derived.Laws.EntriesVeiled
import Derived.Deep.RegionHeld3
import Derived.Laws.OwnMore
import Derived.Deep.Slices
import Derived.RangeFuncNested
import Derived.RangeFuncBound
import Derived.RangeFuncCalls
import Derived.RangeFuncLeaves
import Derived.Shelf.Abstract
import Derived.Shelf.RegionOpen
import Derived.OwnWalkIn
import Derived.TacticsInMore
import Derived.LoopNIn
import Derived.LoopIn
import Derived.Laws.CopyOwn
import Derived.Test.YtefclohjeompkaaGreatKTreeC
import Derived.Test.YtefclohjeompkaaGreatKRep
import Derived.Test.YtefclohjeompkaaGreatKJoinD
import Derived.Test.YtefclohjeompkaaGreatKCmpA
import Derived.Test.YtefclohjeompkaaGreatKRefH
import Derived.Test.YtefclohjeompkaaGreatKOfB
import Derived.Test.YtefclohjeompkaaGreatKAlike
import Derived.Test.YtefclohjeompkaaGreatKBetA
import Derived.Test.YtefclohjeompkaaGreatKLinF
import Derived.Test.YtefclohjeompkaaGreatKLinH
namespace Go.Proofs.YtefclohjeompkaaGreat
open Go Go.RowKit Go.Proofs.Gen Go.Proofs.Bdd Go.Proofs.Bdd.T
theorem field188 (a b : Value) (c : Int) (w : World) : Sem.run Tryz.prog (Instr.field 134 (.agg #[a, b, .int .i64 c]) 2) w = .ok (.int .i64 c) w := by
  unfold Instr.field
  simp [run_underlying Tryz.underlying134, part, asAgg]

theorem RdInts.copyable {w : World} {ao : Option Addr} {n cap : Nat} {l : List Int} (h : RdInts w (.slice ao n cap) l) (hl : 0 < l.length) :
    ∃ ad, ao = some ad ∧ ∀ j u, (l.map (fun x => Value.int .i64 x))[j]? = some u → w.cell? (ad.add j) = some u := by
  obtain ⟨ao', cap', e, hc⟩ := h
  cases e
  obtain ⟨b, off, rfl, -⟩ := hc 0 _ (List.getElem?_eq_getElem hl)
  refine ⟨_, rfl, fun j u hj => ?_⟩
  rw [List.getElem?_map] at hj
  cases hx : l[j]? with
  | none => rw [hx] at hj; cases hj
  | some x =>
    rw [hx] at hj
    cases hj
    obtain ⟨b', off', e, h0⟩ := hc j x hx
    cases e
    have ea : (⟨b, off, none⟩ : Addr).add j = ⟨b, off + j, none⟩ := by
      unfold Addr.add
      by_cases h : j = 0 <;> simp [h]
    rw [ea]
    exact h0

theorem linCells_ext {mb : Nat} {cost : Nat → Int} {ev : Value} {kv : Nat → Value} {xs : List Value} (h0 : xs[0]? = some (.pointer (some ⟨mb, 0, none⟩))) (hl : xs.length = 50) (hc : ∀ i, i < 24 → xs[1 + i]? = some (.int .i64 (cost i))) (he : xs[25]? = some ev)
    (hk : ∀ i, i < 24 → xs[26 + i]? = some (kv i)) : xs = linCells mb cost ev kv := by
  refine List.ext_getElem? fun n => ?_
  by_cases h : n < 50
  · by_cases e0 : n = 0
    · subst e0; exact h0
    · by_cases h1 : n < 25
      · obtain ⟨m, rfl⟩ : ∃ m, n = 1 + m := ⟨n - 1, by omega⟩
        rw [hc m (by omega), linCells_cost (by omega)]
      · by_cases h2 : n = 25
        · subst h2
          rw [he, linCells_ends]
        · obtain ⟨m, rfl⟩ : ∃ m, n = 26 + m := ⟨n - 26, by omega⟩
          rw [hk m (by omega), linCells_known (by omega)]
  · rw [List.getElem?_eq_none (by omega), List.getElem?_eq_none (by rw [linCells_len]; omega)]

theorem linCells_splice {mb : Nat} {ev : Value} {kv : Nat → Value} {l : List Int} (hl : l.length ≤ 24) : splice (linCells mb (fun _ => 0) ev kv) 1 (l.map (fun x => Value.int .i64 x)) = linCells mb (costOf l) ev kv := by
  have ll := linCells_len mb (fun _ => 0) ev kv
  have at0 : ∀ n, (splice (linCells mb (fun _ => 0) ev kv) 1 (l.map (fun x => Value.int .i64 x)))[n]? = if n < 1 then (linCells mb (fun _ => 0) ev kv)[n]? else if n < 1 + l.length then (l[n - 1]?).map (fun x => Value.int .i64 x) else (linCells mb (fun _ => 0) ev kv)[n]? := by
    intro n
    unfold splice
    have lt : ((linCells mb (fun _ => 0) ev kv).take 1).length = 1 := by simp [ll]
    by_cases h1 : n < 1
    · rw [if_pos h1, List.getElem?_append_left (by omega), List.getElem?_take, if_pos h1]
    · rw [if_neg h1, List.getElem?_append_right (by omega), lt]
      by_cases h2 : n < 1 + l.length
      · rw [if_pos h2, List.getElem?_append_left (by rw [List.length_map]; omega), List.getElem?_map]
      · rw [if_neg h2, List.getElem?_append_right (by rw [List.length_map]; omega), List.length_map, List.getElem?_drop]
        congr 1
        omega
  refine linCells_ext ?_ ?_ (fun i hi => ?_) ?_ (fun i hi => ?_)
  · rw [at0, if_pos (by omega)]
    rfl
  · rw [length_splice _ _ _ (by rw [List.length_map, ll]; omega), ll]
  · rw [at0, if_neg (by omega), show 1 + i - 1 = i by omega]
    unfold costOf
    rw [List.getD_eq_getElem?_getD]
    by_cases h : i < l.length
    · rw [if_pos (by omega), List.getElem?_eq_getElem h]
      rfl
    · rw [if_neg (by omega), linCells_cost hi, List.getElem?_eq_none (by omega)]
      rfl
  · rw [at0, if_neg (by omega), if_neg (by omega), linCells_ends]
  · rw [at0, if_neg (by omega), if_neg (by omega), linCells_known hi]

theorem linCells_setEnds {mb : Nat} {cost : Nat → Int} {ev : Value} {kv : Nat → Value} (v : Value) : (linCells mb cost ev kv).set 25 v = linCells mb cost v kv := by
  refine linCells_ext ?_ ?_ (fun i hi => ?_) ?_ (fun i hi => ?_)
  · rw [List.getElem?_set, if_neg (by omega)]
    rfl
  · rw [List.length_set, linCells_len]
  · rw [List.getElem?_set, if_neg (by omega), linCells_cost hi]
  · rw [List.getElem?_set, if_pos rfl, if_pos (by rw [linCells_len]; omega)]
  · rw [List.getElem?_set, if_neg (by omega), linCells_known hi]

/-- Costs are copied into the box. -/
theorem costs_copy {w : World} {b mb cap : Nat} {ao : Option Addr} {l : List Int} (hb : w.heap[b]? = some (.cells (linCells mb (fun _ => 0) (.slice none 0 0) (fun _ => .slice none 0 0)).toArray 132 (0, 0))) (h : RdInts w (.slice ao l.length cap) l) (hl : l.length ≤ 24) :
    ∃ w', Sem.run Tryz.prog (Builtin.copy_ #[56, 56] 3 #[.slice (some ⟨b, 1, none⟩) 24 24, .slice ao l.length cap]) w = .ok (.int .i64 l.length) w' ∧
      w'.heap[b]? = some (.cells (linCells mb (costOf l) (.slice none 0 0) (fun _ => .slice none 0 0)).toArray 132 (0, 0)) ∧ Kept (fun k => k = b) w w' := by
  rw [← linCells_splice hl]
  rcases Nat.eq_zero_or_pos l.length with h0 | h0
  · obtain rfl : l = [] := List.eq_nil_of_length_eq_zero h0
    refine ⟨w, run_copy_none (P := Tryz.prog) w 56 56 3 2 _ _ 24 24 0 cap Tryz.underlying56 (by kernel_rfl) rfl, ?_, Kept.refl _ _⟩
    rw [show splice (linCells mb (fun _ => 0) (.slice none 0 0) (fun _ => .slice none 0 0)) 1 (([] : List Int).map fun x => Value.int .i64 x) = linCells mb (fun _ => 0) (.slice none 0 0) (fun _ => .slice none 0 0) from List.take_append_drop 1 _]
    exact hb
  · obtain ⟨ad, rfl, hs⟩ := h.copyable h0
    refine ⟨_, (run_copy_row (P := Tryz.prog) w 56 56 3 2 b 1 24 24 ad l.length cap _ 132 (l.map fun x => .int .i64 x) Tryz.underlying56 (by kernel_rfl) hb (by rw [List.length_map]; exact (Nat.min_eq_left hl).symm) hs (by rw [List.length_map, List.size_toArray, linCells_len]; omega) (by simp [Value.oneCell'])).trans (by rw [List.length_map]; rfl), ?_, ?_⟩
    · have := setRow_heap w b _ ((linCells mb (fun _ => 0) (.slice none 0 0) (fun _ => .slice none 0 0)).toArray.toList.take 1 ++ (l.map fun x => Value.int .i64 x) ++ (linCells mb (fun _ => 0) (.slice none 0 0) (fun _ => .slice none 0 0)).toArray.toList.drop (1 + (l.map fun x => Value.int .i64 x).length)).toArray 132 _ hb
      simpa [splice] using this
    · exact ⟨rfl, rfl, rfl, by simp [World.setRow], fun k hk hs => setRow_other w b k _ (fun e => hs e)⟩

/-- The box as it is made, with its ends laid. -/
theorem from_begin {w : World} {b mb kb sb : Nat} {S : Nat → Prop} {l : List Int} {rel : Nat} {bd : Int} (hc : CostsOk l) (hbd : -17592186044416 ≤ bd ∧ bd ≤ 17592186044416)
    (hbox : w.heap[b]? = some (.cells (linCells mb (costOf l) (.slice (some ⟨sb, 0, none⟩) 3 3) (fun _ => .slice none 0 0)).toArray 132 (0, 0)))
    (hmb : w.heap[mb]? = some (.cells #[.slice none 0 0, .map (some kb)] 149 (0, 0))) (hkb : w.heap[kb]? = some (.map #[] 0)) (hsb : w.heap[sb]? = some (.cells (decs (endsOf bd (placesOf rel))).toArray 134 (0, 0)))
    (s0 : S b) (s1 : S mb) (s2 : S kb) (s3 : ∀ k, w.heap.size ≤ k → S k) :
    FromPre w b mb S (costOf l) (fun s => relB rel s bd) (.slice (some ⟨sb, 0, none⟩) 3 3) (fun _ => .slice none 0 0) (endsOf bd (placesOf rel)) [] (fun _ => []) 24 where
  box := { good := .nil, maker := maker_empty hmb hkb s1 s2, blk := hbox, base := s0
           ends := ⟨by simp [endsOf, decs, decC], .inr ⟨sb, 3, (decs (endsOf bd (placesOf rel))).toArray, rfl, Nat.zero_le _, hsb, Nat.le_refl _, by unfold maxLen; omega, by simp [endsOf, decs, decC], by simp [endsOf, decs, decC]⟩⟩
           rows := fun i hi => World.ownsRow_nil _ _ _ _
           apart := fun _ _ _ _ _ _ h => by simp [Value.ownBlock] at h
           apartE := fun _ _ _ _ h => by simp [Value.ownBlock] at h
           own := fun _ _ _ h => by simp [Value.ownBlock] at h }
  costs := costOf_le hc
  known := fun _ _ _ h => by cases h
  ends := ends_ok _ rel hbd
  all := fun s h1 h2 => ends_all rel s h1 h2
  room := by decide
  rooms := fun _ => by decide
  few := by simp [endsOf]
  base := s3

/-- What the first call yields, the set of the relation. -/
theorem from_end_is {w w' : World} {b mb : Nat} {S : Nat → Prop} {l : List Int} {rel : Nat} {bound : Int} {ev : Value} {es : List Dec} {ks ks' : Nat → List Dec} {x : Dec} {L' : List T} {kv' : Nat → Value} (hc : CostsOk l) {bd : Int} (hb : bd = clip bound)
    (h : FromQ w b mb S (costOf l) (fun s => relB rel s bd) ev es [] ks 24 0 x L' kv' ks' w') : ∃ t, T.In L' t ∧ x.hi = (pl L' t : Nat) ∧ t.Ok ∧ L'.length < 1099511627776 ∧ ∀ c, t.ev c = linF l rel bound c := by
  subst hb
  obtain ⟨-, ⟨t, ht, hx, hall, ok, -, -⟩, hin, -, hlen, -⟩ := h
  refine ⟨t, ht, hx, ok, by simp at hlen; omega, fun c => ?_⟩
  have e := hall 0 hin.1 hin.2
  rw [← e, linT_ev]
  have hs := sumFrom_le (costOf_le hc) c 24
  show relB rel (0 + sumFrom (costOf l) c 24) (clip bound) = relB rel (sumFrom (costOf l) c 24) bound
  rw [relB_clip _ _ (by omega), Int.zero_add]

def LinPost (w : World) (l : List Int) (rel : Nat) (bound : Int) (e : Ending) (w' : World) : Prop :=
  ∃ v, e = .returned (.tuple #[v, .int .i64 (if LinOk l rel then 0 else 2)]) ∧ IsF w' v (if LinOk l rel then linF l rel bound else fun _ => false) ∧ Near w w'

set_option maxRecDepth 100000 in
set_option maxHeartbeats 1600000 in
theorem linear_bad {w : World} {v : Value} {l : List Int} {rel : Nat} {bound : Int} (h : RdInts w v l) (hbad : ¬ LinOk l rel) :
    Calls Tryz.prog 57 #[v, .int .u8 rel, .int .i64 bound] w (LinPost w l rel bound) := by
  have HB := Lib.hid hbad
  have hor : ¬ CostsOk l ∨ (CostsOk l ∧ (rel = 0 ∨ 4 ≤ rel)) := by
    by_cases hc : CostsOk l
    · exact .inr ⟨hc, by have h2 : ¬ (1 ≤ rel ∧ rel ≤ 3) := fun h => hbad ⟨hc, h⟩; omega⟩
    · exact .inl hc
  clear hbad
  have hv := fun w' (n : Near w w') => valid_calls (h.near n)
  have HV := Lib.hid hv
  clear hv h
  have fin : ∀ w' : World, Near w w' → IsF w' (.agg #[.slice none 0 0, .int .i64 0]) (fun _ => false) := fun w' _ => ⟨.leaf false, ⟨trivial, .slice none 0 0, rfl, World.ownsRow_nil _ _ _ _⟩, fun _ => rfl⟩
  have HFin := Lib.hid fin
  clear fin
  rcases hor with hc | ⟨hc, hr⟩
  · have hd : decide (CostsOk l) = false := decide_eq_false hc
    rw [hd] at HV
    clear hd hc
    go_enter Tryz.func57, Tryz.ntmps57
    go_wp2_with (first
      | (go_at_call 89; refine (HV.out _ ((Near.refl w).alloc _)).mono ?_; rintro e w1 ⟨rfl, n1⟩; have hR := keepN n1 (heap_new_at rfl); have z0 := cell1 (o := 0) hR rfl; have z1 := cell1 (o := 1) hR rfl; have zf := free1 hR))
    have hR2 := setCell_heap (setCell_heap hR 0 (.slice none 0 0)) 1 (.int .i64 0)
    simp only [List.setIfInBounds_toArray, List.set_cons_zero, List.set_cons_succ] at hR2
    have y0 := cell1 (o := 0) hR2 rfl
    have y1 := cell1 (o := 1) hR2 rfl
    have hn := (((Near.refl w).alloc (.cells #[.slice none 0 0, .int .i64 0] 34)).trans n1)
    have hn2 : Near w ((w1.setCell ⟨w.heap.size, 0, none⟩ (.slice none 0 0)).setCell ⟨w.heap.size, 1, none⟩ (.int .i64 0)) := Kept.setCell (S := fun _ => False) (Kept.setCell (S := fun _ => False) hn (p := ⟨w.heap.size, 0, none⟩) (fun h => absurd h (Nat.lt_irrefl _)) (.slice none 0 0)) (p := ⟨w.heap.size, 1, none⟩) (fun h => absurd h (Nat.lt_irrefl _)) (.int .i64 0)
    refine bodyPost_ret (v := .tuple #[.agg #[.slice none 0 0, .int .i64 0], .int .i64 2]) (by simp [results, Tryz.results57, go_sem, y0, y1]) rfl ⟨_, by rw [if_neg HB.out], ?_, hn2⟩
    rw [if_neg HB.out]
    exact HFin.out _ hn2
  · have hd : decide (CostsOk l) = true := decide_eq_true hc
    rw [hd] at HV
    clear hd hc
    have h1 : ((rel : Int) != 1) = true := bne_iff_ne.2 (by omega)
    have h2 : ((rel : Int) != 2) = true := bne_iff_ne.2 (by omega)
    have h3 : ((rel : Int) != 3) = true := bne_iff_ne.2 (by omega)
    clear hr
    go_enter Tryz.func57, Tryz.ntmps57
    go_wp2_with (first
      | (go_at_call 89; refine (HV.out _ ((Near.refl w).alloc _)).mono ?_; rintro e w1 ⟨rfl, n1⟩; have hR := keepN n1 (heap_new_at rfl); have z0 := cell1 (o := 0) hR rfl; have z1 := cell1 (o := 1) hR rfl; have zf := free1 hR))
    have hR2 := setCell_heap (setCell_heap hR 0 (.slice none 0 0)) 1 (.int .i64 0)
    simp only [List.setIfInBounds_toArray, List.set_cons_zero, List.set_cons_succ] at hR2
    have y0 := cell1 (o := 0) hR2 rfl
    have y1 := cell1 (o := 1) hR2 rfl
    have hn := (((Near.refl w).alloc (.cells #[.slice none 0 0, .int .i64 0] 34)).trans n1)
    have hn2 : Near w ((w1.setCell ⟨w.heap.size, 0, none⟩ (.slice none 0 0)).setCell ⟨w.heap.size, 1, none⟩ (.int .i64 0)) := Kept.setCell (S := fun _ => False) (Kept.setCell (S := fun _ => False) hn (p := ⟨w.heap.size, 0, none⟩) (fun h => absurd h (Nat.lt_irrefl _)) (.slice none 0 0)) (p := ⟨w.heap.size, 1, none⟩) (fun h => absurd h (Nat.lt_irrefl _)) (.int .i64 0)
    refine bodyPost_ret (v := .tuple #[.agg #[.slice none 0 0, .int .i64 0], .int .i64 2]) (by simp [results, Tryz.results57, go_sem, y0, y1]) rfl ⟨_, by rw [if_neg HB.out], ?_, hn2⟩
    rw [if_neg HB.out]
    exact HFin.out _ hn2

set_option maxRecDepth 100000 in
set_option maxHeartbeats 3200000 in
theorem linear_good {w : World} {v : Value} {l : List Int} {rel : Nat} {bound : Int} (h : RdInts w v l) (hok : LinOk l rel) (p0 p1 p2 : Nat) (hp : rel = 1 ∧ p0 = 1 ∧ p1 = 1 ∧ p2 = 0 ∨ rel = 2 ∧ p0 = 0 ∧ p1 = 1 ∧ p2 = 1 ∨ rel = 3 ∧ p0 = 0 ∧ p1 = 1 ∧ p2 = 0) :
    Calls Tryz.prog 57 #[v, .int .u8 rel, .int .i64 bound] w (LinPost w l rel bound) := by
  have HB := Lib.hid hok
  have HP := Lib.hid hp
  have hc : decide (CostsOk l) = true := decide_eq_true hok.1
  have hv := fun w' (n : Near w w') => valid_calls (h.near n)
  rw [hc] at hv
  have HV := Lib.hid hv
  have HRd := Lib.hid h
  obtain ⟨ao, cap, rfl, -⟩ := h
  clear hv hc hok
  rcases hp with ⟨rfl, rfl, rfl, rfl⟩ | ⟨rfl, rfl, rfl, rfl⟩ | ⟨rfl, rfl, rfl, rfl⟩
  · go_enter Tryz.func57, Tryz.ntmps57
    go_upto_region 3 with (first
      | (go_at_call 89; refine (HV.out _ ((Near.refl w).alloc _)).mono ?_; rintro e w1 ⟨rfl, n1⟩))
    go_cut [2] (fun s2 wx => s2 = .int .i64 (clip bound) ∧ wx = w1)
    case first =>
      go_wp2_with fail
      all_goals (go_meet; refine ⟨congrArg (Value.int .i64) ?_, rfl⟩; unfold clip; omega)
    case rest =>
      obtain ⟨rfl, rfl⟩ := hcut
      have hbd := clip_le bound
      obtain ⟨bd, hbe⟩ : ∃ b, b = clip bound := ⟨_, rfl⟩
      rw [← hbe] at hbd ⊢
      have HBE := Lib.hid hbe
      clear hbe
      go_upto_region 12 with (first
        | (go_at_call 82; refine (maker_new _).mono ?_; rintro e w2 ⟨rfl, rfl⟩))
      generalize hW : ((((wc.alloc _).alloc _).alloc _).alloc _) = W
      have k1 : Near wc W := by rw [← hW]; exact ((((Near.refl wc).alloc _).alloc _).alloc _).alloc _
      have k2 : W.heap[wc.heap.size]? = some (.cells #[.int .i64 1, .int .i64 1, .int .i64 0] 126 (0, 0)) := by
        rw [← hW]
        repeat (first | exact heap_new_at (by simp; done) | refine (heap_old_at (by simp <;> omega)).trans ?_)
      have k3 : W.heap[wc.heap.size + 1]? = some (.map #[] 0) := by
        rw [← hW]
        repeat (first | exact heap_new_at (by simp; done) | refine (heap_old_at (by simp <;> omega)).trans ?_)
      have k4 : W.heap[wc.heap.size + 1 + 1]? = some (.cells #[.slice none 0 0, .map (some (wc.heap.size + 1))] 149 (0, 0)) := by
        rw [← hW]
        repeat (first | exact heap_new_at (by simp; done) | refine (heap_old_at (by simp <;> omega)).trans ?_)
      have k5 : W.heap[wc.heap.size + 1 + 1 + 1]? = some (.cells (linCells (wc.heap.size + 1 + 1) (fun _ => 0) (.slice none 0 0) (fun _ => .slice none 0 0)).toArray 132 (0, 0)) := by
        rw [← hW]
        exact heap_new_at (by simp)
      have k6 : W.heap.size = wc.heap.size + 4 := by rw [← hW]; simp
      clear hW
      have H1 := Lib.hid (((Near.refl w).alloc (.cells #[.slice none 0 0, .int .i64 0] 34)).trans (n1.trans k1))
      have HRes := Lib.hid (keepN (n1.trans k1) (heap_new_at rfl))
      have hlt := n1.size'
      have HLT := Lib.hid (show w.heap.size < wc.heap.size by simp at hlt; omega)
      have HS6 := Lib.hid k6
      have H2 := Lib.hid k2
      have H3 := Lib.hid k3
      have H4 := Lib.hid k4
      have H5 := Lib.hid k5
      clear k1 k2 k3 k4 k5 k6 n1 hlt
      have hll := HB.out.1.1
      have HRW := Lib.hid (HRd.out.near H1.out)
      obtain ⟨w3, hrun, hb3, hk3⟩ := costs_copy H5.out HRW.out hll
      have HB3 := Lib.hid hb3
      have HK3 := Lib.hid hk3
      clear hb3 hk3
      go_upto_region 13 with fail
      clear hrun
      have hs6 := HS6.out
      have e2 := (HK3.out.block wc.heap.size (by omega) (by omega)).trans H2.out
      have t0 := cell1 (o := 0) e2 rfl
      have t1 := cell1 (o := 1) e2 rfl
      have t2 := cell1 (o := 2) e2 rfl
      have e5 := keepN ((Near.refl w3).alloc (.cells #[.int .i64 (-35184372088832), .int .i64 (bd - 1), .int .i64 1, .int .i64 bd, .int .i64 bd, .int .i64 1, .int .i64 (bd + 1), .int .i64 35184372088832, .int .i64 0] 134)) HB3.out
      have c25 := cell1 (o := 25) e5 (by rw [List.getElem?_toArray]; exact linCells_ends)
      have f25 := free1 e5
      clear e2 e5 hs6
      go_upto_region 14 with fail
      clear t0 t1 t2 c25 f25
      generalize hW4 : ((w3.alloc _).setCell _ _) = W4
      have hs6 := HS6.out
      have hs3 := HK3.out.size
      have hlt := HLT.out
      have g1 : (w3.alloc (.cells (decs (endsOf bd (placesOf 1))).toArray 134)).heap[wc.heap.size + 1 + 1 + 1]? = some (.cells (linCells (wc.heap.size + 1 + 1) (costOf l) (.slice none 0 0) (fun _ => .slice none 0 0)).toArray 132 (0, 0)) := keepN ((Near.refl w3).alloc _) HB3.out
      have g2 : W4.heap[wc.heap.size + 1 + 1 + 1]? = some (.cells (linCells (wc.heap.size + 1 + 1) (costOf l) (.slice (some ⟨w3.heap.size, 0, none⟩) 3 3) (fun _ => .slice none 0 0)).toArray 132 (0, 0)) := by
        have := setCell_heap g1 25 (.slice (some ⟨w3.heap.size, 0, none⟩) 3 3)
        rw [List.setIfInBounds_toArray, linCells_setEnds] at this
        rw [← hW4]
        exact this
      have g3 : Kept (fun k => k = wc.heap.size + 1 + 1 + 1) W W4 := by
        rw [← hW4]
        exact Kept.setCell (S := fun k => k = wc.heap.size + 1 + 1 + 1) (HK3.out.alloc _) (fun _ => rfl) _
      have g4 : W4.heap[w3.heap.size]? = some (.cells (decs (endsOf bd (placesOf 1))).toArray 134 (0, 0)) := by
        rw [← hW4, Below.heap_setCell _ _ _ _ (by show w3.heap.size ≠ wc.heap.size + 1 + 1 + 1; omega)]
        exact heap_new_at rfl
      have g5 := (g3.block w.heap.size (by omega) (by omega)).trans HRes.out
      have hpre := from_begin (S := fun k => w.heap.size + 1 ≤ k) (rel := 1) HB.out.1 hbd g2 ((g3.block (wc.heap.size + 1 + 1) (by omega) (by omega)).trans H4.out) ((g3.block (wc.heap.size + 1) (by omega) (by omega)).trans H3.out) g4 (by show w.heap.size + 1 ≤ _; omega) (by show w.heap.size + 1 ≤ _; omega) (by show w.heap.size + 1 ≤ _; omega) (fun k hk => by have := g3.size; show w.heap.size + 1 ≤ k; omega)
      have gn : Near w W4 := Kept.mono (H1.out.kept.trans g3) (fun k hk e => by omega)
      have g6 : W4.cell? ⟨wc.heap.size + 1 + 1 + 1, 0, none⟩ = some (.pointer (some ⟨wc.heap.size + 1 + 1, 0, none⟩)) := cell1 (o := 0) g2 rfl
      have HPre := Lib.hid hpre
      have HR4 := Lib.hid g5
      have HN4 := Lib.hid gn
      clear hW4 g1 g2 g3 g4 g5 gn hpre hs6 hs3
      have hfield := field188
      go_region_held3 (fun w' => w'.cell? ⟨wc.heap.size + 1 + 1 + 1, 0, none⟩ = some (.pointer (some ⟨wc.heap.size + 1 + 1, 0, none⟩)))
        (first
          | exact g6
          | exact HC5.out
          | exact HC6.out
          | exact (Kept.setCell (S := fun k => k = w.heap.size) (Kept.setCell (S := fun k => k = w.heap.size) (Kept.refl _ w6) (p := ⟨w.heap.size, 0, none⟩) (fun _ => rfl) _) (p := ⟨w.heap.size, 1, none⟩) (fun _ => rfl) _).cell HC6.out (by omega))
        (first
          | (go_at_call 90; refine (from_calls 24 0 W4.drew _ [] _ _ 0 0 rfl (HPre.out.near (Near.refl W4).drew) rfl (by omega)).mono ?_; rintro e w5 ⟨⟨xv, xl, xp⟩, L5, kv5, ks5, rfl, hq5⟩; obtain ⟨t5, ht5, hx5, ok5, hl5, he5⟩ := from_end_is HB.out.1 HBE.out hq5; have HC5 := Lib.hid (cell1 (o := 0) hq5.1.blk rfl); have HQ5 := Lib.hid hq5; have HX5 := Lib.hid hx5; have HE5 := Lib.hid he5; clear hq5 hx5 he5)
          | (go_at_call 83; refine (done_calls HQ5.out.1.good hl5 ht5 ok5 HQ5.out.1.maker HX5.out).mono ?_; rintro e w6 ⟨v6, rfl, d6, b6⟩; obtain ⟨bo, bn, bc, rfl, -⟩ := d6.form; have HD6 := Lib.hid d6; have HN6 := Lib.hid (Near.of_below b6); have HC6 := Lib.hid (HN6.out.cell HC5.out); have HR6 := Lib.hid (keepN HN6.out ((HQ5.out.2.2.2.2.2.2.2.2.block w.heap.size (Array.getElem?_eq_some_iff.1 HR4.out).1 (fun h => Nat.not_succ_le_self _ h)).trans HR4.out)); have q0 := cell1 (o := 0) HR6.out rfl; have q1 := cell1 (o := 1) HR6.out rfl; have qf := free1 HR6.out; clear d6 b6))
      go_wp2_with fail
      have hs := isF_store (f := linF l 1 bound) ⟨t5, HD6.out, HE5.out⟩ HR6.out
      have hw6 := setCell_heap (setCell_heap HR6.out 0 (.slice bo bn bc)) 1 (.int .i64 (pl (nodes t5) t5 : Nat))
      simp only [List.setIfInBounds_toArray, List.set_cons_zero, List.set_cons_succ] at hw6
      have y0 := cell1 (o := 0) hw6 rfl
      have y1 := cell1 (o := 1) hw6 rfl
      have hn6 : Near w w6 := (Kept.mono (HN4.out.drew.kept.trans HQ5.out.2.2.2.2.2.2.2.2) (fun k hk h => Nat.not_succ_le_self _ (Nat.le_trans h (Nat.le_of_lt_succ (Nat.lt_succ_of_lt hk))))).trans HN6.out
      refine bodyPost_ret (v := .tuple #[.agg #[.slice bo bn bc, .int .i64 (pl (nodes t5) t5 : Nat)], .int .i64 0]) (by simp [results, Tryz.results57, go_sem, y0, y1]) rfl ⟨_, by rw [if_pos HB.out], ?_, (hn6.set (Nat.le_refl _) _).set (Nat.le_refl _) _⟩
      rw [if_pos HB.out]
      exact hs
  · go_enter Tryz.func57, Tryz.ntmps57
    go_upto_region 3 with (first
      | (go_at_call 89; refine (HV.out _ ((Near.refl w).alloc _)).mono ?_; rintro e w1 ⟨rfl, n1⟩))
    go_cut [2] (fun s2 wx => s2 = .int .i64 (clip bound) ∧ wx = w1)
    case first =>
      go_wp2_with fail
      all_goals (go_meet; refine ⟨congrArg (Value.int .i64) ?_, rfl⟩; unfold clip; omega)
    case rest =>
      obtain ⟨rfl, rfl⟩ := hcut
      have hbd := clip_le bound
      obtain ⟨bd, hbe⟩ : ∃ b, b = clip bound := ⟨_, rfl⟩
      rw [← hbe] at hbd ⊢
      have HBE := Lib.hid hbe
      clear hbe
      go_upto_region 12 with (first
        | (go_at_call 82; refine (maker_new _).mono ?_; rintro e w2 ⟨rfl, rfl⟩))
      generalize hW : ((((wc.alloc _).alloc _).alloc _).alloc _) = W
      have k1 : Near wc W := by rw [← hW]; exact ((((Near.refl wc).alloc _).alloc _).alloc _).alloc _
      have k2 : W.heap[wc.heap.size]? = some (.cells #[.int .i64 0, .int .i64 1, .int .i64 1] 126 (0, 0)) := by
        rw [← hW]
        repeat (first | exact heap_new_at (by simp; done) | refine (heap_old_at (by simp <;> omega)).trans ?_)
      have k3 : W.heap[wc.heap.size + 1]? = some (.map #[] 0) := by
        rw [← hW]
        repeat (first | exact heap_new_at (by simp; done) | refine (heap_old_at (by simp <;> omega)).trans ?_)
      have k4 : W.heap[wc.heap.size + 1 + 1]? = some (.cells #[.slice none 0 0, .map (some (wc.heap.size + 1))] 149 (0, 0)) := by
        rw [← hW]
        repeat (first | exact heap_new_at (by simp; done) | refine (heap_old_at (by simp <;> omega)).trans ?_)
      have k5 : W.heap[wc.heap.size + 1 + 1 + 1]? = some (.cells (linCells (wc.heap.size + 1 + 1) (fun _ => 0) (.slice none 0 0) (fun _ => .slice none 0 0)).toArray 132 (0, 0)) := by
        rw [← hW]
        exact heap_new_at (by simp)
      have k6 : W.heap.size = wc.heap.size + 4 := by rw [← hW]; simp
      clear hW
      have H1 := Lib.hid (((Near.refl w).alloc (.cells #[.slice none 0 0, .int .i64 0] 34)).trans (n1.trans k1))
      have HRes := Lib.hid (keepN (n1.trans k1) (heap_new_at rfl))
      have hlt := n1.size'
      have HLT := Lib.hid (show w.heap.size < wc.heap.size by simp at hlt; omega)
      have HS6 := Lib.hid k6
      have H2 := Lib.hid k2
      have H3 := Lib.hid k3
      have H4 := Lib.hid k4
      have H5 := Lib.hid k5
      clear k1 k2 k3 k4 k5 k6 n1 hlt
      have hll := HB.out.1.1
      have HRW := Lib.hid (HRd.out.near H1.out)
      obtain ⟨w3, hrun, hb3, hk3⟩ := costs_copy H5.out HRW.out hll
      have HB3 := Lib.hid hb3
      have HK3 := Lib.hid hk3
      clear hb3 hk3
      go_upto_region 13 with fail
      clear hrun
      have hs6 := HS6.out
      have e2 := (HK3.out.block wc.heap.size (by omega) (by omega)).trans H2.out
      have t0 := cell1 (o := 0) e2 rfl
      have t1 := cell1 (o := 1) e2 rfl
      have t2 := cell1 (o := 2) e2 rfl
      have e5 := keepN ((Near.refl w3).alloc (.cells #[.int .i64 (-35184372088832), .int .i64 (bd - 1), .int .i64 0, .int .i64 bd, .int .i64 bd, .int .i64 1, .int .i64 (bd + 1), .int .i64 35184372088832, .int .i64 1] 134)) HB3.out
      have c25 := cell1 (o := 25) e5 (by rw [List.getElem?_toArray]; exact linCells_ends)
      have f25 := free1 e5
      clear e2 e5 hs6
      go_upto_region 14 with fail
      clear t0 t1 t2 c25 f25
      generalize hW4 : ((w3.alloc _).setCell _ _) = W4
      have hs6 := HS6.out
      have hs3 := HK3.out.size
      have hlt := HLT.out
      have g1 : (w3.alloc (.cells (decs (endsOf bd (placesOf 2))).toArray 134)).heap[wc.heap.size + 1 + 1 + 1]? = some (.cells (linCells (wc.heap.size + 1 + 1) (costOf l) (.slice none 0 0) (fun _ => .slice none 0 0)).toArray 132 (0, 0)) := keepN ((Near.refl w3).alloc _) HB3.out
      have g2 : W4.heap[wc.heap.size + 1 + 1 + 1]? = some (.cells (linCells (wc.heap.size + 1 + 1) (costOf l) (.slice (some ⟨w3.heap.size, 0, none⟩) 3 3) (fun _ => .slice none 0 0)).toArray 132 (0, 0)) := by
        have := setCell_heap g1 25 (.slice (some ⟨w3.heap.size, 0, none⟩) 3 3)
        rw [List.setIfInBounds_toArray, linCells_setEnds] at this
        rw [← hW4]
        exact this
      have g3 : Kept (fun k => k = wc.heap.size + 1 + 1 + 1) W W4 := by
        rw [← hW4]
        exact Kept.setCell (S := fun k => k = wc.heap.size + 1 + 1 + 1) (HK3.out.alloc _) (fun _ => rfl) _
      have g4 : W4.heap[w3.heap.size]? = some (.cells (decs (endsOf bd (placesOf 2))).toArray 134 (0, 0)) := by
        rw [← hW4, Below.heap_setCell _ _ _ _ (by show w3.heap.size ≠ wc.heap.size + 1 + 1 + 1; omega)]
        exact heap_new_at rfl
      have g5 := (g3.block w.heap.size (by omega) (by omega)).trans HRes.out
      have hpre := from_begin (S := fun k => w.heap.size + 1 ≤ k) (rel := 2) HB.out.1 hbd g2 ((g3.block (wc.heap.size + 1 + 1) (by omega) (by omega)).trans H4.out) ((g3.block (wc.heap.size + 1) (by omega) (by omega)).trans H3.out) g4 (by show w.heap.size + 1 ≤ _; omega) (by show w.heap.size + 1 ≤ _; omega) (by show w.heap.size + 1 ≤ _; omega) (fun k hk => by have := g3.size; show w.heap.size + 1 ≤ k; omega)
      have gn : Near w W4 := Kept.mono (H1.out.kept.trans g3) (fun k hk e => by omega)
      have g6 : W4.cell? ⟨wc.heap.size + 1 + 1 + 1, 0, none⟩ = some (.pointer (some ⟨wc.heap.size + 1 + 1, 0, none⟩)) := cell1 (o := 0) g2 rfl
      have HPre := Lib.hid hpre
      have HR4 := Lib.hid g5
      have HN4 := Lib.hid gn
      clear hW4 g1 g2 g3 g4 g5 gn hpre hs6 hs3
      have hfield := field188
      go_region_held3 (fun w' => w'.cell? ⟨wc.heap.size + 1 + 1 + 1, 0, none⟩ = some (.pointer (some ⟨wc.heap.size + 1 + 1, 0, none⟩)))
        (first
          | exact g6
          | exact HC5.out
          | exact HC6.out
          | exact (Kept.setCell (S := fun k => k = w.heap.size) (Kept.setCell (S := fun k => k = w.heap.size) (Kept.refl _ w6) (p := ⟨w.heap.size, 0, none⟩) (fun _ => rfl) _) (p := ⟨w.heap.size, 1, none⟩) (fun _ => rfl) _).cell HC6.out (by omega))
        (first
          | (go_at_call 90; refine (from_calls 24 0 W4.drew _ [] _ _ 0 0 rfl (HPre.out.near (Near.refl W4).drew) rfl (by omega)).mono ?_; rintro e w5 ⟨⟨xv, xl, xp⟩, L5, kv5, ks5, rfl, hq5⟩; obtain ⟨t5, ht5, hx5, ok5, hl5, he5⟩ := from_end_is HB.out.1 HBE.out hq5; have HC5 := Lib.hid (cell1 (o := 0) hq5.1.blk rfl); have HQ5 := Lib.hid hq5; have HX5 := Lib.hid hx5; have HE5 := Lib.hid he5; clear hq5 hx5 he5)
          | (go_at_call 83; refine (done_calls HQ5.out.1.good hl5 ht5 ok5 HQ5.out.1.maker HX5.out).mono ?_; rintro e w6 ⟨v6, rfl, d6, b6⟩; obtain ⟨bo, bn, bc, rfl, -⟩ := d6.form; have HD6 := Lib.hid d6; have HN6 := Lib.hid (Near.of_below b6); have HC6 := Lib.hid (HN6.out.cell HC5.out); have HR6 := Lib.hid (keepN HN6.out ((HQ5.out.2.2.2.2.2.2.2.2.block w.heap.size (Array.getElem?_eq_some_iff.1 HR4.out).1 (fun h => Nat.not_succ_le_self _ h)).trans HR4.out)); have q0 := cell1 (o := 0) HR6.out rfl; have q1 := cell1 (o := 1) HR6.out rfl; have qf := free1 HR6.out; clear d6 b6))
      go_wp2_with fail
      have hs := isF_store (f := linF l 2 bound) ⟨t5, HD6.out, HE5.out⟩ HR6.out
      have hw6 := setCell_heap (setCell_heap HR6.out 0 (.slice bo bn bc)) 1 (.int .i64 (pl (nodes t5) t5 : Nat))
      simp only [List.setIfInBounds_toArray, List.set_cons_zero, List.set_cons_succ] at hw6
      have y0 := cell1 (o := 0) hw6 rfl
      have y1 := cell1 (o := 1) hw6 rfl
      have hn6 : Near w w6 := (Kept.mono (HN4.out.drew.kept.trans HQ5.out.2.2.2.2.2.2.2.2) (fun k hk h => Nat.not_succ_le_self _ (Nat.le_trans h (Nat.le_of_lt_succ (Nat.lt_succ_of_lt hk))))).trans HN6.out
      refine bodyPost_ret (v := .tuple #[.agg #[.slice bo bn bc, .int .i64 (pl (nodes t5) t5 : Nat)], .int .i64 0]) (by simp [results, Tryz.results57, go_sem, y0, y1]) rfl ⟨_, by rw [if_pos HB.out], ?_, (hn6.set (Nat.le_refl _) _).set (Nat.le_refl _) _⟩
      rw [if_pos HB.out]
      exact hs
  · go_enter Tryz.func57, Tryz.ntmps57
    go_upto_region 3 with (first
      | (go_at_call 89; refine (HV.out _ ((Near.refl w).alloc _)).mono ?_; rintro e w1 ⟨rfl, n1⟩))
    go_cut [2] (fun s2 wx => s2 = .int .i64 (clip bound) ∧ wx = w1)
    case first =>
      go_wp2_with fail
      all_goals (go_meet; refine ⟨congrArg (Value.int .i64) ?_, rfl⟩; unfold clip; omega)
    case rest =>
      obtain ⟨rfl, rfl⟩ := hcut
      have hbd := clip_le bound
      obtain ⟨bd, hbe⟩ : ∃ b, b = clip bound := ⟨_, rfl⟩
      rw [← hbe] at hbd ⊢
      have HBE := Lib.hid hbe
      clear hbe
      go_upto_region 12 with (first
        | (go_at_call 82; refine (maker_new _).mono ?_; rintro e w2 ⟨rfl, rfl⟩))
      generalize hW : ((((wc.alloc _).alloc _).alloc _).alloc _) = W
      have k1 : Near wc W := by rw [← hW]; exact ((((Near.refl wc).alloc _).alloc _).alloc _).alloc _
      have k2 : W.heap[wc.heap.size]? = some (.cells #[.int .i64 0, .int .i64 1, .int .i64 0] 126 (0, 0)) := by
        rw [← hW]
        repeat (first | exact heap_new_at (by simp; done) | refine (heap_old_at (by simp <;> omega)).trans ?_)
      have k3 : W.heap[wc.heap.size + 1]? = some (.map #[] 0) := by
        rw [← hW]
        repeat (first | exact heap_new_at (by simp; done) | refine (heap_old_at (by simp <;> omega)).trans ?_)
      have k4 : W.heap[wc.heap.size + 1 + 1]? = some (.cells #[.slice none 0 0, .map (some (wc.heap.size + 1))] 149 (0, 0)) := by
        rw [← hW]
        repeat (first | exact heap_new_at (by simp; done) | refine (heap_old_at (by simp <;> omega)).trans ?_)
      have k5 : W.heap[wc.heap.size + 1 + 1 + 1]? = some (.cells (linCells (wc.heap.size + 1 + 1) (fun _ => 0) (.slice none 0 0) (fun _ => .slice none 0 0)).toArray 132 (0, 0)) := by
        rw [← hW]
        exact heap_new_at (by simp)
      have k6 : W.heap.size = wc.heap.size + 4 := by rw [← hW]; simp
      clear hW
      have H1 := Lib.hid (((Near.refl w).alloc (.cells #[.slice none 0 0, .int .i64 0] 34)).trans (n1.trans k1))
      have HRes := Lib.hid (keepN (n1.trans k1) (heap_new_at rfl))
      have hlt := n1.size'
      have HLT := Lib.hid (show w.heap.size < wc.heap.size by simp at hlt; omega)
      have HS6 := Lib.hid k6
      have H2 := Lib.hid k2
      have H3 := Lib.hid k3
      have H4 := Lib.hid k4
      have H5 := Lib.hid k5
      clear k1 k2 k3 k4 k5 k6 n1 hlt
      have hll := HB.out.1.1
      have HRW := Lib.hid (HRd.out.near H1.out)
      obtain ⟨w3, hrun, hb3, hk3⟩ := costs_copy H5.out HRW.out hll
      have HB3 := Lib.hid hb3
      have HK3 := Lib.hid hk3
      clear hb3 hk3
      go_upto_region 13 with fail
      clear hrun
      have hs6 := HS6.out
      have e2 := (HK3.out.block wc.heap.size (by omega) (by omega)).trans H2.out
      have t0 := cell1 (o := 0) e2 rfl
      have t1 := cell1 (o := 1) e2 rfl
      have t2 := cell1 (o := 2) e2 rfl
      have e5 := keepN ((Near.refl w3).alloc (.cells #[.int .i64 (-35184372088832), .int .i64 (bd - 1), .int .i64 0, .int .i64 bd, .int .i64 bd, .int .i64 1, .int .i64 (bd + 1), .int .i64 35184372088832, .int .i64 0] 134)) HB3.out
      have c25 := cell1 (o := 25) e5 (by rw [List.getElem?_toArray]; exact linCells_ends)
      have f25 := free1 e5
      clear e2 e5 hs6
      go_upto_region 14 with fail
      clear t0 t1 t2 c25 f25
      generalize hW4 : ((w3.alloc _).setCell _ _) = W4
      have hs6 := HS6.out
      have hs3 := HK3.out.size
      have hlt := HLT.out
      have g1 : (w3.alloc (.cells (decs (endsOf bd (placesOf 3))).toArray 134)).heap[wc.heap.size + 1 + 1 + 1]? = some (.cells (linCells (wc.heap.size + 1 + 1) (costOf l) (.slice none 0 0) (fun _ => .slice none 0 0)).toArray 132 (0, 0)) := keepN ((Near.refl w3).alloc _) HB3.out
      have g2 : W4.heap[wc.heap.size + 1 + 1 + 1]? = some (.cells (linCells (wc.heap.size + 1 + 1) (costOf l) (.slice (some ⟨w3.heap.size, 0, none⟩) 3 3) (fun _ => .slice none 0 0)).toArray 132 (0, 0)) := by
        have := setCell_heap g1 25 (.slice (some ⟨w3.heap.size, 0, none⟩) 3 3)
        rw [List.setIfInBounds_toArray, linCells_setEnds] at this
        rw [← hW4]
        exact this
      have g3 : Kept (fun k => k = wc.heap.size + 1 + 1 + 1) W W4 := by
        rw [← hW4]
        exact Kept.setCell (S := fun k => k = wc.heap.size + 1 + 1 + 1) (HK3.out.alloc _) (fun _ => rfl) _
      have g4 : W4.heap[w3.heap.size]? = some (.cells (decs (endsOf bd (placesOf 3))).toArray 134 (0, 0)) := by
        rw [← hW4, Below.heap_setCell _ _ _ _ (by show w3.heap.size ≠ wc.heap.size + 1 + 1 + 1; omega)]
        exact heap_new_at rfl
      have g5 := (g3.block w.heap.size (by omega) (by omega)).trans HRes.out
      have hpre := from_begin (S := fun k => w.heap.size + 1 ≤ k) (rel := 3) HB.out.1 hbd g2 ((g3.block (wc.heap.size + 1 + 1) (by omega) (by omega)).trans H4.out) ((g3.block (wc.heap.size + 1) (by omega) (by omega)).trans H3.out) g4 (by show w.heap.size + 1 ≤ _; omega) (by show w.heap.size + 1 ≤ _; omega) (by show w.heap.size + 1 ≤ _; omega) (fun k hk => by have := g3.size; show w.heap.size + 1 ≤ k; omega)
      have gn : Near w W4 := Kept.mono (H1.out.kept.trans g3) (fun k hk e => by omega)
      have g6 : W4.cell? ⟨wc.heap.size + 1 + 1 + 1, 0, none⟩ = some (.pointer (some ⟨wc.heap.size + 1 + 1, 0, none⟩)) := cell1 (o := 0) g2 rfl
      have HPre := Lib.hid hpre
      have HR4 := Lib.hid g5
      have HN4 := Lib.hid gn
      clear hW4 g1 g2 g3 g4 g5 gn hpre hs6 hs3
      have hfield := field188
      go_region_held3 (fun w' => w'.cell? ⟨wc.heap.size + 1 + 1 + 1, 0, none⟩ = some (.pointer (some ⟨wc.heap.size + 1 + 1, 0, none⟩)))
        (first
          | exact g6
          | exact HC5.out
          | exact HC6.out
          | exact (Kept.setCell (S := fun k => k = w.heap.size) (Kept.setCell (S := fun k => k = w.heap.size) (Kept.refl _ w6) (p := ⟨w.heap.size, 0, none⟩) (fun _ => rfl) _) (p := ⟨w.heap.size, 1, none⟩) (fun _ => rfl) _).cell HC6.out (by omega))
        (first
          | (go_at_call 90; refine (from_calls 24 0 W4.drew _ [] _ _ 0 0 rfl (HPre.out.near (Near.refl W4).drew) rfl (by omega)).mono ?_; rintro e w5 ⟨⟨xv, xl, xp⟩, L5, kv5, ks5, rfl, hq5⟩; obtain ⟨t5, ht5, hx5, ok5, hl5, he5⟩ := from_end_is HB.out.1 HBE.out hq5; have HC5 := Lib.hid (cell1 (o := 0) hq5.1.blk rfl); have HQ5 := Lib.hid hq5; have HX5 := Lib.hid hx5; have HE5 := Lib.hid he5; clear hq5 hx5 he5)
          | (go_at_call 83; refine (done_calls HQ5.out.1.good hl5 ht5 ok5 HQ5.out.1.maker HX5.out).mono ?_; rintro e w6 ⟨v6, rfl, d6, b6⟩; obtain ⟨bo, bn, bc, rfl, -⟩ := d6.form; have HD6 := Lib.hid d6; have HN6 := Lib.hid (Near.of_below b6); have HC6 := Lib.hid (HN6.out.cell HC5.out); have HR6 := Lib.hid (keepN HN6.out ((HQ5.out.2.2.2.2.2.2.2.2.block w.heap.size (Array.getElem?_eq_some_iff.1 HR4.out).1 (fun h => Nat.not_succ_le_self _ h)).trans HR4.out)); have q0 := cell1 (o := 0) HR6.out rfl; have q1 := cell1 (o := 1) HR6.out rfl; have qf := free1 HR6.out; clear d6 b6))
      go_wp2_with fail
      have hs := isF_store (f := linF l 3 bound) ⟨t5, HD6.out, HE5.out⟩ HR6.out
      have hw6 := setCell_heap (setCell_heap HR6.out 0 (.slice bo bn bc)) 1 (.int .i64 (pl (nodes t5) t5 : Nat))
      simp only [List.setIfInBounds_toArray, List.set_cons_zero, List.set_cons_succ] at hw6
      have y0 := cell1 (o := 0) hw6 rfl
      have y1 := cell1 (o := 1) hw6 rfl
      have hn6 : Near w w6 := (Kept.mono (HN4.out.drew.kept.trans HQ5.out.2.2.2.2.2.2.2.2) (fun k hk h => Nat.not_succ_le_self _ (Nat.le_trans h (Nat.le_of_lt_succ (Nat.lt_succ_of_lt hk))))).trans HN6.out
      refine bodyPost_ret (v := .tuple #[.agg #[.slice bo bn bc, .int .i64 (pl (nodes t5) t5 : Nat)], .int .i64 0]) (by simp [results, Tryz.results57, go_sem, y0, y1]) rfl ⟨_, by rw [if_pos HB.out], ?_, (hn6.set (Nat.le_refl _) _).set (Nat.le_refl _) _⟩
      rw [if_pos HB.out]
      exact hs

/-- Linear's contract. -/
theorem linear_f {w : World} {v : Value} {l : List Int} {rel : Nat} {bound : Int} (h : RdInts w v l) : Calls Tryz.prog 57 #[v, .int .u8 rel, .int .i64 bound] w (LinPost w l rel bound) := by
  by_cases hok : LinOk l rel
  · rcases (show rel = 1 ∨ rel = 2 ∨ rel = 3 by obtain ⟨_, h1, h2⟩ := hok; omega) with rfl | rfl | rfl
    · exact linear_good h hok 1 1 0 (by simp)
    · exact linear_good h hok 0 1 1 (by simp)
    · exact linear_good h hok 0 1 0 (by simp)
  · exact linear_bad h hok

end Go.Proofs.YtefclohjeompkaaGreat
