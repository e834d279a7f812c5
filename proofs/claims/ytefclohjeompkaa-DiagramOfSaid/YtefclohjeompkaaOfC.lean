/- The contract of diagram.Of. -/
import Derived.Test.YtefclohjeompkaaOfB
import Derived.Test.YtefclohjeompkaaSteps2
namespace Go.Proofs.Ytefclohjeompkaa
open Go Go.RowKit Go.Proofs.Gen Go.Proofs.Bdd Go.Proofs.Bdd.T

/-- What Of says: the error's number and the tree. -/
def OfSays (l : List Dec) (root : Int) (n : Int) (t : T) : Prop :=
  ((∃ k, k < l.length ∧ ¬ Fine l k) ∧ n = 4 ∧ t = leaf false) ∨
  ((∀ k, k < l.length → Fine l k) ∧ (root < 0 ∨ (l.length : Int) + 2 ≤ root) ∧ n = 3 ∧ t = leaf false) ∨
  ((∀ k, k < l.length → Fine l k) ∧ 0 ≤ root ∧ root < (l.length : Int) + 2 ∧ n = 0 ∧ (trTo l l.length)[root.toNat]? = some t)

def OfPost (l : List Dec) (root : Int) (w : World) (e : Ending) (w' : World) : Prop :=
  ∃ v n t, e = .returned (.tuple #[v, .int .i64 n]) ∧ Near w w' ∧ IsD w' v t ∧ OfSays l root n t

set_option maxRecDepth 100000 in
set_option maxHeartbeats 1600000 in
theorem of_calls {w : World} {v : Value} {l : List Dec} {root : Int} (h : RdDec w v l) (hl : l.length ≤ 65536) :
    Calls Try.prog 19 #[v, .int .i64 root] w (OfPost l root w) := by
  obtain ⟨i0, hi0, hz0, hz1, hz2⟩ := info_parts info3
  have HL := Lib.hid h
  obtain ⟨ao, cap, rfl, hc⟩ := h
  have HC := Lib.hid hc
  clear hc
  have hl' : ¬ (65536 : Int) < (l.length : Int) := by omega
  have hmm := @run_makeMap Try.prog
  go_enter Try.func19, Try.ntmps19
  go_wp2_with (first
    | (go_at_call 76; refine (maker_new _).mono ?_; rintro e w1 ⟨rfl, rfl⟩))
  have hW : ∀ W, W = (((w.alloc (Obj.cells #[Value.slice none 0 0, Value.int IntKind.i64 0] 31)).alloc (Obj.cells #[Value.int IntKind.i64 0, Value.int IntKind.i64 1] 3)).alloc (Obj.map #[] 0)).alloc (Obj.cells #[Value.slice none 0 0, Value.map (some (w.heap.size + 1 + 1))] 154) →
      Near w W ∧ W.heap[w.heap.size]? = some (.cells #[.slice none 0 0, .int .i64 0] 31 (0, 0)) ∧ Places (w.heap.size + 1) W (w.heap.size + 1 + 1 + 1) (Value.slice (some ⟨w.heap.size + 1, 0, none⟩) 2 2) (trTo l 0) [] ∧ w.heap.size + 4 ≤ W.heap.size := by
    rintro W rfl
    refine ⟨((((Near.refl w).alloc _).alloc _).alloc _).alloc _, ?_, ⟨.nil, ?_, ?_, ?_⟩, by simp⟩
    · rw [heap_old_at (by simp <;> omega), heap_old_at (by simp <;> omega), heap_old_at (by simp), heap_new_at rfl]
    · refine maker_empty (heap_new_at (by simp)) ((heap_old_at (by simp)).trans (heap_new_at (by simp))) ⟨by omega, ?_⟩ ⟨by omega, ?_⟩
      · simp only [Value.ownBlock, ne_eq, Option.some.injEq]; omega
      · simp only [Value.ownBlock, ne_eq, Option.some.injEq]; omega
    · refine ⟨rfl, .inr ⟨w.heap.size + 1, 2, #[.int .i64 0, .int .i64 1], rfl, Nat.le_refl _, ?_, Nat.le_refl _, by unfold maxLen; omega, rfl, rfl⟩⟩
      rw [heap_old_at (by simp <;> omega), heap_old_at (by simp), heap_new_at (by simp)]
    · intro t ht
      rcases (by simpa [trTo] using ht) with rfl | rfl <;> trivial
  have hW' := hW _ rfl
  generalize (((w.alloc (Obj.cells #[Value.slice none 0 0, Value.int IntKind.i64 0] 31)).alloc (Obj.cells #[Value.int IntKind.i64 0, Value.int IntKind.i64 1] 3)).alloc (Obj.map #[] 0)).alloc (Obj.cells #[Value.slice none 0 0, Value.map (some (w.heap.size + 1 + 1))] 154) = W at hW' ⊢
  clear hW hmm
  obtain ⟨n0, r0, p0, s0⟩ := hW'
  have HN0 := Lib.hid n0
  have HR0 := Lib.hid r0
  have HP0 := Lib.hid p0
  clear n0 r0 p0
  go_loopw [6, 18] (fun x i wr => ∃ k L, k ≤ l.length ∧ i = .int .i64 (k : Nat) ∧ (∀ j, j < k → Fine l j) ∧ Places (w.heap.size + 1) wr (w.heap.size + 1 + 1 + 1) x (trTo l k) L ∧ L.length ≤ k ∧ Near w wr ∧ wr.heap[w.heap.size]? = some (.cells #[.slice none 0 0, .int .i64 0] 31 (0, 0)) ∧ w.heap.size + 4 ≤ wr.heap.size) (fun _ i _ => l.length - (intOf i).toNat)
  case atStart => exact ⟨0, [], Nat.zero_le _, rfl, fun j hj => absurd hj (Nat.not_lt_zero _), HP0.out, Nat.le_refl _, HN0.out, HR0.out, s0⟩
  case round =>
    clear HN0 HR0 HP0 s0
    obtain ⟨k, L, hk, rfl, hfin, hpl, hL, hn, hres, hs⟩ := hrel
    have HF := Lib.hid hfin
    have HP := Lib.hid hpl
    have HN := Lib.hid hn
    have HRes := Lib.hid hres
    clear hfin hpl hn hres
    have htl := trTo_len l k
    by_cases hlt : k < l.length
    · have hlt' : (k : Int) < l.length := by omega
      have hx : l[k]? = some l[k] := List.getElem?_eq_getElem hlt
      obtain ⟨b, off, rfl, x0, x1, x2⟩ := HC.out k _ hx
      have y0 := HN.out.cell x0
      have y1 := HN.out.cell x1
      have y2 := HN.out.cell x2
      obtain ⟨d, hd⟩ : ∃ d, d = l[k] := ⟨_, rfl⟩
      rw [← hd] at hx y0 y1 y2
      have HX := Lib.hid hx
      clear x0 x1 x2 hx hd
      obtain ⟨dv, dl, dh⟩ := d
      simp only at y0 y1 y2
      have HLr := Lib.hid (HL.out.near HN.out)
      have HA := Lib.hid (keepN ((Near.refl wr).alloc (.cells #[.int .i64 dv, .int .i64 dl, .int .i64 dh] 26)) HRes.out)
      have HNA := Lib.hid (HN.out.alloc (.cells #[.int .i64 dv, .int .i64 dl, .int .i64 dh] 26))
      have HLb := Lib.hid (HLr.out.near ((Near.refl wr).alloc (.cells #[.int .i64 dv, .int .i64 dl, .int .i64 dh] 26)))
      by_cases hv0 : dv < 0
      · have f0 := free1 HA.out 0
        have f1 := free1 HA.out 1
        have q0 := cell1 (o := 0) HA.out rfl
        have q1 := cell1 (o := 1) HA.out rfl
        go_wp2_with fail
        refine bodyPost_ret (v := .tuple #[.agg #[.slice none 0 0, .int .i64 0], .int .i64 4]) (by simp [results, Try.results19, go_sem, q0, q1]) rfl ⟨_, _, _, rfl, (HNA.out.set (by show w.heap.size ≤ w.heap.size; omega) _).set (by show w.heap.size ≤ w.heap.size; omega) _, isD_leaf _ false, .inl ⟨⟨k, hlt, ?_⟩, rfl, rfl⟩⟩
        rintro ⟨x, hx, h, _⟩
        rw [HX.out] at hx
        cases hx
        exact (by omega : ¬ 0 ≤ dv) h
      · by_cases hv1 : 24 ≤ dv
        · have f0 := free1 HA.out 0
          have f1 := free1 HA.out 1
          have q0 := cell1 (o := 0) HA.out rfl
          have q1 := cell1 (o := 1) HA.out rfl
          go_wp2_with fail
          refine bodyPost_ret (v := .tuple #[.agg #[.slice none 0 0, .int .i64 0], .int .i64 4]) (by simp [results, Try.results19, go_sem, q0, q1]) rfl ⟨_, _, _, rfl, (HNA.out.set (by show w.heap.size ≤ w.heap.size; omega) _).set (by show w.heap.size ≤ w.heap.size; omega) _, isD_leaf _ false, .inl ⟨⟨k, hlt, ?_⟩, rfl, rfl⟩⟩
          rintro ⟨x, hx, _, h, _⟩
          rw [HX.out] at hx
          cases hx
          exact (by omega : ¬ dv < 24) h
        · by_cases hlo : BelowOk l k dl
          · by_cases hhi : BelowOk l k dh
            · have hFk : Fine l k := ⟨_, HX.out, by show 0 ≤ dv; omega, by show dv < 24; omega, hlo, hhi⟩
              have HFk := Lib.hid hFk
              have HLo := Lib.hid hlo
              have HHi := Lib.hid hhi
              clear hFk hlo hhi
              go_wp2_with (first
                | (go_at_call_of 77 (Value.int IntKind.i64 dl); refine (below_calls (b := true) HLb.out hlt hl ⟨fun _ => rfl, fun _ => HLo.out⟩).mono ?_; rintro e w1 ⟨rfl, n1⟩; have e0 := n1.cell (b := w1) (k := wr.heap.size) (o := 0) (v := .int .i64 dv) (by simp); have e1 := n1.cell (b := w1) (k := wr.heap.size) (o := 1) (v := .int .i64 dl) (by simp); have e2 := n1.cell (b := w1) (k := wr.heap.size) (o := 2) (v := .int .i64 dh) (by simp))
                | (go_at_call_of 77 (Value.int IntKind.i64 dh); refine (below_calls (b := true) (HLb.out.near n1) hlt hl ⟨fun _ => rfl, fun _ => HHi.out⟩).mono ?_; rintro e w2 ⟨rfl, n2⟩))
              have HN2 := Lib.hid ((((Near.refl wr).alloc (.cells #[.int .i64 dv, .int .i64 dl, .int .i64 dh] 26)).trans n1).trans n2)
              have hs2 : wr.heap.size + 1 ≤ w2.heap.size := by
                have h1 := n1.size'
                have h2 := n2.size'
                simp at h1
                omega
              have d0 := n2.cell e0
              have d1 := n2.cell e1
              have d2 := n2.cell e2
              clear e0 e1 e2 n1 n2 y0 y1 y2
              obtain ⟨tl, htl1, otl, vtl⟩ := tr_kid HF.out HLo.out HX.out (show dv < 24 by omega)
              obtain ⟨th, hth1, oth, vth⟩ := tr_kid HF.out HHi.out HX.out (show dv < 24 by omega)
              have hlo0 := HLo.out.1
              have hlo1 := HLo.out.2.1
              have hhi0 := HHi.out.1
              have hhi1 := HHi.out.2.1
              have hnx := trTo_next HX.out htl1 hth1
              obtain ⟨i, rfl⟩ : ∃ i : Nat, dv = i := ⟨dv.toNat, by omega⟩
              obtain ⟨p, rfl⟩ : ∃ p : Nat, dl = p := ⟨dl.toNat, by omega⟩
              obtain ⟨q, rfl⟩ : ∃ q : Nat, dh = q := ⟨dh.toNat, by omega⟩
              simp only [Int.toNat_natCast] at htl1 hth1 hnx vtl vth
              have hrow := HP.out.row
              rw [htl] at hrow
              obtain ⟨g, xc, hx6, z0, -⟩ := row1 hrow (k := p) (u := iv (pl L tl)) (by rw [List.getElem?_map, htl1]; rfl) (by omega)
              obtain ⟨g', xc', hx6', z1, -⟩ := row1 hrow (k := q) (u := iv (pl L th)) (by rw [List.getElem?_map, hth1]; rfl) (by omega)
              subst hx6
              simp only [Value.slice.injEq, Option.some.injEq, Addr.mk.injEq, and_true, true_and] at hx6'
              obtain ⟨rfl, rfl⟩ := hx6'
              have itl : In L tl := HP.out.inn _ (List.mem_of_getElem? htl1)
              have ith : In L th := HP.out.inn _ (List.mem_of_getElem? hth1)
              have hgb := HP.out.row.lt g rfl
              have HM := Lib.hid ((HP.out.maker.mono_lt (R := fun b => mine (w.heap.size + 1) (.slice (some ⟨g, 0, none⟩) (k + 2) xc) b ∧ b ≠ wr.heap.size) (fun b hb h => ⟨h, by omega⟩)).near HN2.out)
              have HP2 := Lib.hid (HP.out.near HN2.out)
              have z0' := HN2.out.cell z0
              have z1' := HN2.out.cell z1
              have HZ0 := Lib.hid z0
              have HZ1 := Lib.hid z1
              have HNx := Lib.hid hnx
              have HT1 := Lib.hid htl1
              have HT2 := Lib.hid hth1
              have HTL := Lib.hid htl
              have HR := Lib.hid hrow
              simp only [iv] at z0' z1'
              have hi24 : i < 24 := by omega
              have hp2 : (p : Int) < (k : Int) + 2 := by omega
              have hq2 : (q : Int) < (k : Int) + 2 := by omega
              clear hnx htl1 hth1 htl hrow z0 z1 hlo0 hlo1 hhi0 hhi1
              have hS2 : ∀ b, w2.drew.heap.size ≤ b → (fun b => mine (w.heap.size + 1) (.slice (some ⟨g, 0, none⟩) (k + 2) xc) b ∧ b ≠ wr.heap.size) b := by
                intro b hb
                have hb' : w2.heap.size ≤ b := hb
                refine ⟨⟨by omega, ?_⟩, by omega⟩
                simp only [Value.ownBlock, ne_eq, Option.some.injEq]
                omega
              have HS2 := Lib.hid hS2
              clear hS2
              have hsk : ∀ w', Kept (fun b => b = g ∨ (mine (w.heap.size + 1) (.slice (some ⟨g, 0, none⟩) (k + 2) xc) b ∧ b ≠ wr.heap.size)) w2 w' → w'.ownsRow (w.heap.size + 1) 3 1 (.slice (some ⟨g, 0, none⟩) (k + 2) xc) (k + 2) ((trTo l k).map fun t => iv (pl L t)) →
                  w'.cell? ⟨wr.heap.size, 0, none⟩ = some (.int .i64 i) ∧ w'.cell? ⟨wr.heap.size, 1, none⟩ = some (.int .i64 p) ∧ w'.cell? ⟨wr.heap.size, 2, none⟩ = some (.int .i64 q) ∧ w'.cell? ⟨g, p, none⟩ = some (.int .i64 (pl L tl : Nat)) ∧ w'.cell? ⟨g, q, none⟩ = some (.int .i64 (pl L th : Nat)) := by
                intro w' hk' hr'
                obtain ⟨g1, c1, e1, zz0, -⟩ := row1 hr' (k := p) (u := iv (pl L tl)) (by rw [List.getElem?_map, HT1.out]; rfl) (by omega)
                obtain ⟨g2, c2, e2, zz1, -⟩ := row1 hr' (k := q) (u := iv (pl L th)) (by rw [List.getElem?_map, HT2.out]; rfl) (by omega)
                cases e1
                cases e2
                have hne : ¬ (wr.heap.size = g ∨ (mine (w.heap.size + 1) (.slice (some ⟨g, 0, none⟩) (k + 2) xc) wr.heap.size ∧ wr.heap.size ≠ wr.heap.size)) := by
                  rintro (h | h)
                  · omega
                  · exact h.2 rfl
                exact ⟨hk'.cell d0 hne, hk'.cell d1 hne, hk'.cell d2 hne, zz0, zz1⟩
              have HSK := Lib.hid hsk
              have hR2 := owns_kept HR.out HN2.out.kept (R := fun _ => False) (fun _ _ x => x)
              have HR2 := Lib.hid hR2
              clear hsk hR2
              go_region_held3 (fun w' => w'.cell? ⟨wr.heap.size, 0, none⟩ = some (.int .i64 i) ∧ w'.cell? ⟨wr.heap.size, 1, none⟩ = some (.int .i64 p) ∧ w'.cell? ⟨wr.heap.size, 2, none⟩ = some (.int .i64 q) ∧ w'.cell? ⟨g, p, none⟩ = some (.int .i64 (pl L tl : Nat)) ∧ w'.cell? ⟨g, q, none⟩ = some (.int .i64 (pl L th : Nat)))
                (first
                  | exact HSK.out _ HG4.out HO4.out
                  | exact HSK.out _ (HK3.out.alloc _) (HR3.out.alloc _)
                  | exact HSK.out _ HK3.out HR3.out
                  | exact HSK.out _ (Kept.refl _ _).drew HR2.out.drew)
                (first
                  | (go_at_call 78; refine (node_calls (S := fun b => mine (w.heap.size + 1) (.slice (some ⟨g, 0, none⟩) (k + 2) xc) b ∧ b ≠ wr.heap.size) HP2.out.good itl ith hi24 (by omega) HS2.out (HM.out.near ((Near.refl _).drew)) rfl rfl rfl).mono ?_; rintro e w3 ⟨rfl, hm3, hk3⟩; have HM3 := Lib.hid hm3; have HK3 := Lib.hid (Kept.mono ((Kept.refl (fun b => b = g ∨ (mine (w.heap.size + 1) (.slice (some ⟨g, 0, none⟩) (k + 2) xc) b ∧ b ≠ wr.heap.size)) w2).drew.trans (Kept.mono hk3 (fun _ _ h => .inr h))) (fun _ _ h => h)); have HR3 := Lib.hid (owns_kept HR2.out.drew hk3 (fun b hb h => h.1.2 hb)); have HKm := Lib.hid ((Kept.refl (mine (w.heap.size + 1) (.slice (some ⟨g, 0, none⟩) (k + 2) xc)) w2).drew.trans (Kept.mono hk3 (fun _ _ h => h.1))); clear hm3 hk3)
                  | (refine step_append_keep rfl (.tmp 48) (.tmp 63) 28 rfl (w.heap.size + 1) 3 i0 (.int .i64 0) 1 8 Try.underlying28 hi0 hz0 hz1 hz2 rfl (by decide) _ _ _ rfl (HR3.out.alloc _) ⟨w3.heap.size, 0, none⟩ 1 1 [.int .i64 (pl (add L i tl th) (T.mk i tl th) : Nat)] rfl rfl (cell_one_at rfl _ _) (by simp [Value.oneCell']) (by unfold maxLen; omega) (by omega) (by have := HK3.out.size; simp; omega) ?_; intro ao' cap' w4 hown4 hg4 hl4 hold4; have HO4 := Lib.hid hold4; have HG4 := Lib.hid ((HK3.out.alloc _).grown hg4 (fun b hb _ => .inl (by cases hb; rfl))); have HOw4 := Lib.hid hown4; have HGr4 := Lib.hid hg4; have HL4 := Lib.hid hl4; clear hown4 hg4 hl4 hold4))
              all_goals
                have hP3 := HP2.out.node itl ith hi24 (by omega) (by omega) otl oth (HM3.out.mono (fun _ h => h.1)) HKm.out
                have hrow4 : w4.ownsRow (w.heap.size + 1) 3 1 (.slice ao' (k + 2 + 1) cap') ((trTo l k).length + 1) (((trTo l k).map fun t => iv (pl (add L i tl th) t)) ++ [iv (pl (add L i tl th) (T.mk i tl th))]) := by
                  rw [← HP2.out.same i tl th, HTL.out]
                  exact HOw4.out
                have hP4 := Lib.hid (hP3.push (add_in itl) hrow4 HGr4.out HL4.out)
                have hN4 : Kept (fun b => w.heap.size + 1 ≤ b) wr w4 := HN2.out.kept.trans (Kept.mono HG4.out (fun b _ h => by
                  rcases h with h | h
                  · omega
                  · exact h.1.1))
                have HN4 := Lib.hid hN4
                clear hP3 hrow4 hN4
                go_wp2_with fail
                refine ⟨⟨k + 1, add L i tl th, hlt, by go_num, fun j hj => ?_, ?_, ?_, ?_, ?_, ?_⟩, by simp [intOf]; omega⟩
                · by_cases h : j < k
                  · exact HF.out j h
                  · rw [show j = k from by omega]
                    exact HFk.out
                · rw [HNx.out]
                  exact hP4.out
                · have := add_len L i tl th
                  omega
                · exact Kept.mono (HN.out.kept.trans HN4.out) (fun b hb h => by omega)
                · exact (HN4.out.block _ (by omega) (by omega)).trans HRes.out
                · have := HN4.out.size
                  omega
            · have HLo := Lib.hid hlo
              have HHi := Lib.hid hhi
              clear hlo hhi
              go_wp2_with (first
                | (go_at_call_of 77 (Value.int IntKind.i64 dl); refine (below_calls (b := true) HLb.out hlt hl ⟨fun _ => rfl, fun _ => HLo.out⟩).mono ?_; rintro e w1 ⟨rfl, n1⟩; have e0 := n1.cell (b := w1) (k := wr.heap.size) (o := 0) (v := .int .i64 dv) (by simp); have e1 := n1.cell (b := w1) (k := wr.heap.size) (o := 1) (v := .int .i64 dl) (by simp); have e2 := n1.cell (b := w1) (k := wr.heap.size) (o := 2) (v := .int .i64 dh) (by simp))
                | (go_at_call_of 77 (Value.int IntKind.i64 dh); refine (below_calls (b := false) (HLb.out.near n1) hlt hl ⟨fun h => absurd h HHi.out, fun h => by cases h⟩).mono ?_; rintro e w2 ⟨rfl, n2⟩; have q0 := cell1 (o := 0) (keepN n2 (keepN n1 HA.out)) rfl; have q1 := cell1 (o := 1) (keepN n2 (keepN n1 HA.out)) rfl; have f0 := free1 (keepN n2 (keepN n1 HA.out)) 0; have f1 := free1 (keepN n2 (keepN n1 HA.out)) 1))
              refine bodyPost_ret (v := .tuple #[.agg #[.slice none 0 0, .int .i64 0], .int .i64 4]) (by simp [results, Try.results19, go_sem, q0, q1]) rfl ⟨_, _, _, rfl, (((HNA.out.trans n1).trans n2).set (by show w.heap.size ≤ w.heap.size; omega) _).set (by show w.heap.size ≤ w.heap.size; omega) _, isD_leaf _ false, .inl ⟨⟨k, hlt, ?_⟩, rfl, rfl⟩⟩
              rintro ⟨x, hx, _, _, _, h⟩
              rw [HX.out] at hx
              cases hx
              exact HHi.out h
          · have HLo := Lib.hid hlo
            clear hlo
            go_wp2_with (first
                | (go_at_call_of 77 (Value.int IntKind.i64 dl); refine (below_calls (b := false) HLb.out hlt hl ⟨fun h => absurd h HLo.out, fun h => by cases h⟩).mono ?_; rintro e w1 ⟨rfl, n1⟩; have q0 := cell1 (o := 0) (keepN n1 HA.out) rfl; have q1 := cell1 (o := 1) (keepN n1 HA.out) rfl; have f0 := free1 (keepN n1 HA.out) 0; have f1 := free1 (keepN n1 HA.out) 1))
            refine bodyPost_ret (v := .tuple #[.agg #[.slice none 0 0, .int .i64 0], .int .i64 4]) (by simp [results, Try.results19, go_sem, q0, q1]) rfl ⟨_, _, _, rfl, ((HNA.out.trans n1).set (by show w.heap.size ≤ w.heap.size; omega) _).set (by show w.heap.size ≤ w.heap.size; omega) _, isD_leaf _ false, .inl ⟨⟨k, hlt, ?_⟩, rfl, rfl⟩⟩
            rintro ⟨x, hx, _, _, h, _⟩
            rw [HX.out] at hx
            cases hx
            exact HLo.out h
    · have hkl : k = l.length := by omega
      subst hkl
      have hrow := HP.out.row
      rw [htl] at hrow
      by_cases hr0 : root < 0
      · have f0 := free1 HRes.out 0
        have f1 := free1 HRes.out 1
        have q0 := cell1 (o := 0) HRes.out rfl
        have q1 := cell1 (o := 1) HRes.out rfl
        clear hrow
        have hnl : ¬ ((l.length : Int) < (l.length : Int)) := by omega
        go_wp2_with fail
        exact bodyPost_ret (v := .tuple #[.agg #[.slice none 0 0, .int .i64 0], .int .i64 3]) (by simp [results, Try.results19, go_sem, q0, q1]) rfl ⟨_, _, _, rfl, (HN.out.set (by show w.heap.size ≤ w.heap.size; omega) _).set (by show w.heap.size ≤ w.heap.size; omega) _, isD_leaf _ false, .inr (.inl ⟨HF.out, .inl hr0, rfl, rfl⟩)⟩
      · by_cases hr1 : (l.length : Int) + 2 ≤ root
        · have f0 := free1 HRes.out 0
          have f1 := free1 HRes.out 1
          have q0 := cell1 (o := 0) HRes.out rfl
          have q1 := cell1 (o := 1) HRes.out rfl
          obtain ⟨xo, xc, rfl⟩ := owns_form hrow
          have hnl : ¬ ((l.length : Int) < (l.length : Int)) := by omega
          clear hrow htl
          go_wp2_with fail
          exact bodyPost_ret (v := .tuple #[.agg #[.slice none 0 0, .int .i64 0], .int .i64 3]) (by simp [results, Try.results19, go_sem, q0, q1]) rfl ⟨_, _, _, rfl, (HN.out.set (by show w.heap.size ≤ w.heap.size; omega) _).set (by show w.heap.size ≤ w.heap.size; omega) _, isD_leaf _ false, .inr (.inl ⟨HF.out, .inr hr1, rfl, rfl⟩)⟩
        · obtain ⟨r, rfl⟩ : ∃ r : Nat, root = r := ⟨root.toNat, by omega⟩
          have htr : (trTo l l.length)[r]? = some ((trTo l l.length)[r]'(by omega)) := List.getElem?_eq_getElem (by omega)
          obtain ⟨t, ht⟩ : ∃ t, t = (trTo l l.length)[r]'(by omega) := ⟨_, rfl⟩
          rw [← ht] at htr
          obtain ⟨g, xc, hx6, z0, -⟩ := row1 hrow (k := r) (u := iv (pl L t)) (by rw [List.getElem?_map, htr]; rfl) (by omega)
          subst hx6
          simp only [iv] at z0
          have hnl : ¬ ((l.length : Int) < (l.length : Int)) := by omega
          have hin : In L t := HP.out.inn _ (List.mem_of_getElem? htr)
          have hok : t.Ok := In.ok HP.out.good hin
          have HTR := Lib.hid htr
          clear hrow htl htr ht
          go_wp2_with (first
            | (go_at_call 79; refine (done_calls HP.out.good (by omega) hin hok HP.out.maker rfl).mono ?_; rintro e w1 ⟨v1, rfl, hd, hb⟩; obtain ⟨bo, bn, bc, rfl, -⟩ := hd.form; have HD := Lib.hid hd; have HB := Lib.hid hb; have HE := Lib.hid (keepE hb HRes.out); have q0 := cell1 (o := 0) HE.out rfl; have q1 := cell1 (o := 1) HE.out rfl; have f0 := free1 HE.out 0; have f1 := free1 HE.out 1; clear hd hb))
          exact bodyPost_ret (v := .tuple #[.agg #[.slice bo bn bc, .int .i64 (pl (nodes t) t : Nat)], .int .i64 0]) (by simp [results, Try.results19, go_sem, q0, q1]) rfl ⟨_, _, t, rfl, ((HN.out.trans (Near.of_below HB.out)).set (by show w.heap.size ≤ w.heap.size; omega) _).set (by show w.heap.size ≤ w.heap.size; omega) _, isD_store HD.out HE.out, .inr (.inr ⟨HF.out, by omega, by omega, rfl, HTR.out⟩)⟩

end Go.Proofs.Ytefclohjeompkaa
