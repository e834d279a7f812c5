/- The law DiagramFolds: the walk. -/
import Derived.Test.YtefclohjeompkaaKLawNodes
import Derived.Test.YtefclohjeompkaaKThruB
namespace Go.Proofs.Ytefclohjeompkaa
open Go Go.RowKit Go.Proofs.Gen Go.Proofs.Bdd Go.Proofs.Bdd.T

set_option maxRecDepth 100000 in
set_option maxHeartbeats 3200000 in
theorem law_folds {w : World} {v : Value} {l : List SOp} (h : RdOps w v l) : Calls Try.prog 5 #[v] w fun e w' => e = .returned (.bool true) ∧ Near w w' := by
  have HM := Lib.hid (ment_calls h)
  cases hb : mentB l with
  | false =>
    have HB := Lib.hid hb
    obtain ⟨ao, cap, rfl, -⟩ := h
    clear hb
    go_enter Try.func5, Try.ntmps5
    go_wp2_with (first
      | (go_at_call 23; refine HM.out.mono ?_; rintro e w1 ⟨rfl, n1⟩; rw [HB.out])
      | (go_at_call 17; refine (wakes_calls _).mono ?_; rintro e w2 ⟨rfl, n2⟩))
    go_ret
    exact ⟨rfl, n1.trans n2⟩
  | true =>
    have HB := Lib.hid hb
    have hok := mentB_ok hb
    have hl12 := hok.1
    have h40 := Lib.hid hok.2
    have HL := Lib.hid h
    obtain ⟨ao, cap, rfl, -⟩ := h
    clear hb hok
    go_enter Try.func5, Try.ntmps5
    go_upto_region 5 with (first
      | (go_at_call 23; refine HM.out.mono ?_; rintro e w1 ⟨rfl, n1⟩; rw [HB.out])
      | (go_at_call 24; refine (both_calls2 (HL.out.near n1) (by omega) h40.out).mono ?_; rintro e w2 ⟨sv, tv, rfl, s2, t2, n2⟩; obtain ⟨g', tc, v0, v1, rfl, y0, y1, hi'⟩ := t2.last; obtain ⟨q1, q2, q3, q4, q5, q6, hqe⟩ := hi'.form; simp only [Value.agg.injEq, Array.mk.injEq, List.cons.injEq, and_true] at hqe; obtain ⟨rfl, rfl⟩ := hqe; obtain ⟨so2, sc2, rfl⟩ := s2.form; have HN := Lib.hid (n1.trans n2); clear s2 t2 n1 n2)
      | (go_at_call 25; refine (make_calls (HL.out.near HN.out) (by omega) h40.out).mono ?_; rintro e w3 ⟨sv3, rfl, s3, n3⟩; obtain ⟨g, sc, u0, u1, rfl, x0, x1, hi⟩ := s3.last; obtain ⟨p1, p2, p3, p4, hpe⟩ := hi.form; simp only [Value.agg.injEq, Array.mk.injEq, List.cons.injEq, and_true] at hpe; obtain ⟨rfl, rfl⟩ := hpe; replace y0 := n3.cell y0; replace y1 := n3.cell y1; have HN3 := Lib.hid n3; clear s3 n3))
    obtain ⟨t, hd, he⟩ := hi
    have hg : IsG w3 (.agg #[.slice q1 q2 q3, .slice q4 q5 q6]) t.ev := (hi'.near HN3.out).congr fun c => (he c).symm
    have HD := Lib.hid hd
    have HG := Lib.hid hg
    have hl := nodes_len hd.1
    have hnl : (ndec t).length < 1099511627776 := by rw [ndec_len]; omega
    clear hi' hg hd he
    go_upto_region 7 with (first
      | (go_at_call 26; refine (rnodes_calls HG.out HD.out.1).mono ?_; rintro e w4 ⟨ao4, cap4, rfl, r4, n4⟩; have R4 := Lib.hid r4; replace x0 := n4.cell x0; replace x1 := n4.cell x1; have N4 := Lib.hid n4; clear r4 n4))
    have hn5 : Near w4 (w4.alloc (.cells #[.slice none 0 0] 22)) := (Near.refl w4).alloc _
    have hg5 : (w4.alloc (.cells #[.slice none 0 0] 22)).heap[w4.heap.size]? = some (.cells #[.slice none 0 0] 22 (0, 0)) := heap_new_at rfl
    replace x0 := hn5.cell x0
    replace x1 := hn5.cell x1
    generalize w4.alloc (.cells #[.slice none 0 0] 22) = w5 at hn5 hg5 x0 x1 ⊢
    have N5 := Lib.hid hn5
    have G5 := Lib.hid hg5
    have hd5 := HD.out.near (N4.out.trans N5.out)
    obtain ⟨ok, sv5, hv5, hrow5⟩ := hd5
    simp only [Value.agg.injEq, Array.mk.injEq, List.cons.injEq, and_true, Value.int.injEq, true_and] at hv5
    obtain ⟨rfl, rfl⟩ := hv5
    have hne5 := owns_ne hrow5 hg5 (by decide : (26 : Nat) ≠ 22)
    have h05 : FInv w4.heap.size (nodes t) 0 w5 [0, 1] (fun b => b = w4.heap.size) := ⟨rfl, rfl, .slice none 0 0, hg5, World.ownsRow_nil _ _ _ _, fun q hq => by cases hq⟩
    have hfold := fold_int (folds_joins (nodes_good ok) (by omega) w4.heap.size) (nodes_good ok) (by omega) (nodes_in t) hrow5 (fun k hk e => hne5 (by rw [hk, e])) h05 rfl
    have HF := Lib.hid hfold
    clear hn5 hg5 ok hrow5 hne5 h05 hfold
    have hnd : (ndec t).length = (nodes t).length := ndec_len t
    have hdc : decs (ndec t) = cellsOf (enc (nodes t)) := (cells_decs _).symm
    have HND := Lib.hid hnd
    have HDC := Lib.hid hdc
    have hnl2 := hnl
    rw [hnd] at hnl2
    clear hnd hdc
    go_wp2_with (first
      | (go_at_call 27; refine HF.out.mono ?_; rintro e w7 ⟨z, outs, rfl, hz, ⟨ho, -, sv7, hg7, hr7, -⟩, hk7⟩; rw [ho] at hz; obtain rfl := range_get hz; rw [List.take_length] at hr7; obtain ⟨ao7, cap7, rfl⟩ := owns_form hr7; have g0 := cell1 (o := 0) hg7 rfl; have N7 := Lib.hid (show Near w4 w7 from Kept.mono (N5.out.kept.trans hk7) (fun b hb h => by have := N5.out.size'; omega));
          have R7 := Lib.hid (show RdDec w7 (.slice ao7 (nodes t).length cap7) (ndec t) by rw [← HND.out]; refine RdDec.owns (base := 0) ?_; rw [HDC.out, HND.out]; exact hr7); clear hr7 hk7 hg7 ho hz)
      | (go_at_call 22; refine (same_calls R7.out (R4.out.near N7.out) hnl).mono ?_; rintro e w8 ⟨rfl, n8⟩)
      | (go_at_call 17; refine (wakes_calls _).mono ?_; rintro e w9 ⟨rfl, n9⟩))
    go_ret
    exact ⟨rfl, (((((HN.out.trans HN3.out).trans N4.out).trans N7.out).trans n8).trans n9)⟩

end Go.Proofs.Ytefclohjeompkaa
