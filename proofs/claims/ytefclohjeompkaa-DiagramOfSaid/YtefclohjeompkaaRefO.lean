/- The reference: Support. -/
import Derived.Test.YtefclohjeompkaaBelow
import Derived.Test.YtefclohjeompkaaTreeC
namespace Go.Proofs.Ytefclohjeompkaa
open Go Go.RowKit Go.Proofs.Gen Go.Proofs.Bdd Go.Proofs.Bdd.T

theorem sameF_dep (f : (Nat → Bool) → Bool) (i : Nat) : (!sameF (fun c => f (upd c i true)) (fun c => f (upd c i false))) = dep f i := by
  unfold sameF dep
  rw [Bool.eq_iff_iff]
  simp

/-- The features of a list on which a function depends. -/
noncomputable def deps (f : (Nat → Bool) → Bool) (V : List Nat) : List Nat := V.filter (dep f)

theorem deps_len (f : (Nat → Bool) → Bool) (V : List Nat) : (deps f V).length ≤ V.length := List.length_filter_le _ _

theorem deps_snoc (f : (Nat → Bool) → Bool) (V : List Nat) (i : Nat) : deps f (V ++ [i]) = deps f V ++ if dep f i = true then [i] else [] := by
  unfold deps
  rw [List.filter_append]
  simp only [List.filter_cons, List.filter_nil]

theorem rsame_dep {w : World} {va vb : Value} {V : List Nat} {f : (Nat → Bool) → Bool} {i : Nat} {b : Bool} (hb : dep f i = !b) (ha : IsS w va V (fun c => f (upd c i true))) (hb' : IsS w vb V (fun c => f (upd c i false))) :
    Calls Try.prog 59 #[va, vb] w fun e w' => e = .returned (.bool b) ∧ Near w w' := by
  have := rsame_calls ha hb'
  rw [← sameF_dep] at hb
  have e : sameF (fun c => f (upd c i true)) (fun c => f (upd c i false)) = b := by
    cases b <;> simpa using hb
  rw [e] at this
  exact this

set_option maxRecDepth 100000 in
set_option maxHeartbeats 1600000 in
theorem rsupport_calls {w : World} {v : Value} {V : List Nat} {f : (Nat → Bool) → Bool} (h : IsS w v V f) :
    Calls Try.prog 60 #[v] w fun e w' => e = .returned (.int .u32 (numb (deps f V))) ∧ Near w w' := by
  obtain ⟨i0, hi0, hz0, hz1, hz2⟩ := info_parts info3
  have HA := Lib.hid h
  have hV := h.rise
  obtain ⟨T, ⟨_, hT, sv, st, rfl, r1, r2⟩, hf⟩ := h
  obtain ⟨ao, cap, rfl⟩ := owns_form r1
  obtain ⟨bo, cbp, rfl⟩ := owns_form r2
  have HR := Lib.hid r1
  have HV := Lib.hid hV
  have hl := hV.len
  have hN : Near w (w.alloc (.cells #[.slice ao V.length cap, .slice bo T.length cbp] 37)) := (Near.refl w).alloc _
  have hE : (w.alloc (.cells #[.slice ao V.length cap, .slice bo T.length cbp] 37)).heap[w.heap.size]? = some (.cells #[.slice ao V.length cap, .slice bo T.length cbp] 37 (0, 0)) := heap_new_at rfl
  have HE := Lib.hid hE
  clear r1 r2 hT hf hV hE
  go_enter Try.func60, Try.ntmps60
  go_wp2_with fail
  generalize (w.alloc (.cells #[.slice ao V.length cap, .slice bo T.length cbp] 37)) = W at hN HE ⊢
  have HN := Lib.hid hN
  clear hN
  go_loopw [3, 4] (fun x i wr => ∃ k : Nat, k ≤ V.length ∧ i = .int .i64 k ∧ wr.ownsRow W.heap.size 3 1 x (deps f (V.take k)).length ((deps f (V.take k)).map iv) ∧ Near W wr) (fun _ i _ => V.length - (intOf i).toNat)
  case atStart => exact ⟨0, Nat.zero_le _, rfl, World.ownsRow_nil _ _ _ _, Near.refl _⟩
  case round =>
    obtain ⟨k, hk, rfl, hown, hkp⟩ := hrel
    have E := Lib.hid (keepN hkp HE.out)
    have c0 := cell1 (o := 0) E.out rfl
    have c1 := cell1 (o := 1) E.out rfl
    have hdl := deps_len f (V.take k)
    rw [List.length_take, Nat.min_eq_left hk] at hdl
    have HO := Lib.hid hown
    clear hown
    by_cases hlt : k < V.length
    · have hlt' : (k : Int) < V.length := by omega
      obtain ⟨g, cap', hv, x0, hg⟩ := row1 HR.out (k := k) (u := iv V[k]) (by simp [hlt]) hlt
      simp only [Value.slice.injEq, true_and] at hv
      obtain ⟨rfl, rfl⟩ := hv
      have y0 := hkp.cell (HN.out.cell x0)
      have hi := (HV.out.all _ (List.getElem_mem hlt)).2
      have hs : deps f (V.take (k + 1)) = deps f (V.take k) ++ if dep f V[k] = true then [V[k]] else [] := by rw [List.take_succ_eq_append_getElem hlt, deps_snoc]
      obtain ⟨i, hii⟩ : ∃ i, i = V[k] := ⟨_, rfl⟩
      rw [← hii] at hs y0 hi
      simp only [iv] at y0
      obtain ⟨D, hD⟩ : ∃ D, D = deps f (V.take k) := ⟨_, rfl⟩
      rw [← hD] at hs hdl HO
      have HS := Lib.hid hs
      have Y0 := Lib.hid y0
      clear hs hD hii x0 y0
      obtain ⟨xo, xc, rfl⟩ := owns_form HO.out
      have hAw := Lib.hid (HA.out.near (HN.out.trans hkp))
      have sOf : ∀ w', Near wr w' → w'.cell? ⟨w.heap.size, 0, none⟩ = some (.slice (some ⟨g, 0, none⟩) V.length cap) ∧ w'.cell? ⟨w.heap.size, 1, none⟩ = some (.slice bo T.length cbp) ∧ w'.cell? ⟨g, k, none⟩ = some (.int .i64 i) :=
        fun w' h => ⟨cell1 (keepN h E.out) rfl, cell1 (keepN h E.out) rfl, h.cell Y0.out⟩
      cases hd : dep f i with
      | true =>
        have HD := Lib.hid hd
        clear hd
        go_wp2_with fail
        go_region_held3 (fun w' => w'.cell? ⟨w.heap.size, 0, none⟩ = some (.slice (some ⟨g, 0, none⟩) V.length cap) ∧ w'.cell? ⟨w.heap.size, 1, none⟩ = some (.slice bo T.length cbp) ∧ w'.cell? ⟨g, k, none⟩ = some (.int .i64 i))
          ((refine sOf _ ?_; first | exact z3 | exact z2 | exact z1 | exact (Near.refl _).drew))
          (first
            | (go_at_call_of 106 (Value.bool true); refine (rwith_calls (hAw.out.near (Near.refl _).drew) i hi true).mono ?_; rintro e v1 ⟨u1, rfl, s1, m1⟩; have z1 : Near wr v1 := (Near.refl _).drew.trans (Near.of_below m1))
            | (go_at_call_of 106 (Value.bool false); refine (rwith_calls (hAw.out.near z1) i hi false).mono ?_; rintro e v2 ⟨u2, rfl, s2, m2⟩; have z2 : Near wr v2 := z1.trans (Near.of_below m2))
            | (go_at_call 59; refine (rsame_dep (b := false) HD.out (s1.near (Near.of_below m2)) s2).mono ?_; rintro e v3 ⟨rfl, n3⟩; have z3 : Near wr v3 := z2.trans n3))
        all_goals
          obtain ⟨p0, p1, p2⟩ := sOf _ z3
          have HO3 := Lib.hid (owns_kept HO.out z3.kept (fun _ _ x => x))
          have HK3 := Lib.hid (hkp.trans z3)
          clear s1 s2 m1 m2 z1 z2 n3 z3 sOf
          clear hkp
          go_wp2_with (first | (at_builtin; refine wpList_append_in rfl (.tmp 28) (.tmp 34) 28 rfl W.heap.size 3 i0 (.int .i64 0) 1 8 Try.underlying28 hi0 hz0 hz1 hz2 rfl (by decide) _ _ _ rfl (by exact HO3.out.alloc _) ⟨v3.heap.size, 0, none⟩ 1 1 [.int .i64 i] rfl rfl (by exact cell_one_at rfl _ _) (by simp [Value.oneCell']) (by unfold maxLen; omega) (by omega) (by have := HK3.out.size'; simp; omega) ?_; intro ao' cap' w3 hown3 hg3 hl3))
          have hs' : deps f (V.take (k + 1)) = D ++ [i] := by rw [HS.out, if_pos HD.out]
          refine ⟨⟨k + 1, by omega, by go_num, ?_, (HK3.out.alloc _).grown hg3 (fun j hj hlt => absurd (ownsRow_base HO3.out (m := W.heap.size) j hj hlt) (by omega))⟩, by simp [intOf]; omega⟩
          rw [hs', List.length_append, List.map_append]
          exact hown3
      | false =>
        have HD := Lib.hid hd
        clear hd
        go_wp2_with fail
        go_region_held3 (fun w' => w'.cell? ⟨w.heap.size, 0, none⟩ = some (.slice (some ⟨g, 0, none⟩) V.length cap) ∧ w'.cell? ⟨w.heap.size, 1, none⟩ = some (.slice bo T.length cbp) ∧ w'.cell? ⟨g, k, none⟩ = some (.int .i64 i))
          ((refine sOf _ ?_; first | exact z3 | exact z2 | exact z1 | exact (Near.refl _).drew))
          (first
            | (go_at_call_of 106 (Value.bool true); refine (rwith_calls (hAw.out.near (Near.refl _).drew) i hi true).mono ?_; rintro e v1 ⟨u1, rfl, s1, m1⟩; have z1 : Near wr v1 := (Near.refl _).drew.trans (Near.of_below m1))
            | (go_at_call_of 106 (Value.bool false); refine (rwith_calls (hAw.out.near z1) i hi false).mono ?_; rintro e v2 ⟨u2, rfl, s2, m2⟩; have z2 : Near wr v2 := z1.trans (Near.of_below m2))
            | (go_at_call 59; refine (rsame_dep (b := true) HD.out (s1.near (Near.of_below m2)) s2).mono ?_; rintro e v3 ⟨rfl, n3⟩; have z3 : Near wr v3 := z2.trans n3))
        all_goals
          have HO3 := Lib.hid (owns_kept HO.out z3.kept (fun _ _ x => x))
          have HK3 := Lib.hid (hkp.trans z3)
          clear s1 s2 m1 m2 z1 z2 n3 z3 sOf
          clear hkp
          go_wp2_with fail
          have hs' : deps f (V.take (k + 1)) = D := by rw [HS.out, HD.out]; simp
          refine ⟨⟨k + 1, by omega, by go_num, ?_, HK3.out⟩, by simp [intOf]; omega⟩
          rw [hs']
          exact HO3.out
    · have hkl : k = V.length := by omega
      subst hkl
      rw [List.take_length] at HO
      have hd24 : ∀ i ∈ deps f V, i < 24 := fun i hi => (HV.out.all i (List.mem_filter.1 hi).1).2
      have HD24 := Lib.hid hd24
      have hdl := deps_len f V
      obtain ⟨xo, xc, rfl⟩ := owns_form HO.out
      clear hd24
      go_wp2_with (first
        | (go_at_call 107; refine (number_calls HD24.out (by omega) (ownsRow_low HO.out (Nat.zero_le _))).mono ?_; rintro e v1 ⟨rfl, n1⟩))
      exact bodyPost_ret (v := .int .u32 (numb (deps f V))) (by simp [results, Try.results60, go_sem]) rfl ⟨rfl, (HN.out.trans hkp).trans n1⟩

end Go.Proofs.Ytefclohjeompkaa
