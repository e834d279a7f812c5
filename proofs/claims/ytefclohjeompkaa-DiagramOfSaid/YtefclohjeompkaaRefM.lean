/- The reference: Ite. -/
import Derived.Test.YtefclohjeompkaaRefL
namespace Go.Proofs.Ytefclohjeompkaa
open Go Go.RowKit Go.Proofs.Gen Go.Proofs.Bdd Go.Proofs.Bdd.T

set_option maxRecDepth 100000 in
set_option maxHeartbeats 1600000 in
theorem rite_calls {w : World} {va vb vc : Value} {A B C : List Nat} {f g h : (Nat → Bool) → Bool} (ha : IsS w va A f) (hb : IsS w vb B g) (hc : IsS w vc C h) :
    Calls Try.prog 81 #[va, vb, vc] w fun e w' => SPost w (feats (numb (feats (numb A ||| numb B)) ||| numb (feats (numb A ||| numb C)))) (fun c => if f c then g c else h c) e w' := by
  obtain ⟨a1, a2, a3, a4, a5, a6, rfl⟩ := ha.form
  obtain ⟨b1, b2, b3, b4, b5, b6, rfl⟩ := hb.form
  obtain ⟨c1, c2, c3, c4, c5, c6, rfl⟩ := hc.form
  have hN : Near w ((((w.alloc (.cells #[.slice a1 a2 a3, .slice a4 a5 a6] 37)).alloc (.cells #[.slice b1 b2 b3, .slice b4 b5 b6] 37)).alloc (.cells #[.slice c1 c2 c3, .slice c4 c5 c6] 37)).alloc (.cells #[.slice none 0 0, .slice none 0 0] 37)) := ((((Near.refl w).alloc _).alloc _).alloc _).alloc _
  have EA : ((((w.alloc (.cells #[.slice a1 a2 a3, .slice a4 a5 a6] 37)).alloc (.cells #[.slice b1 b2 b3, .slice b4 b5 b6] 37)).alloc (.cells #[.slice c1 c2 c3, .slice c4 c5 c6] 37)).alloc (.cells #[.slice none 0 0, .slice none 0 0] 37)).heap[w.heap.size]? = some (.cells #[.slice a1 a2 a3, .slice a4 a5 a6] 37 (0, 0)) := by
    rw [heap_old_at (by simp <;> omega), heap_old_at (by simp <;> omega), heap_old_at (by simp), heap_new_at rfl]
  have EB : ((((w.alloc (.cells #[.slice a1 a2 a3, .slice a4 a5 a6] 37)).alloc (.cells #[.slice b1 b2 b3, .slice b4 b5 b6] 37)).alloc (.cells #[.slice c1 c2 c3, .slice c4 c5 c6] 37)).alloc (.cells #[.slice none 0 0, .slice none 0 0] 37)).heap[w.heap.size + 1]? = some (.cells #[.slice b1 b2 b3, .slice b4 b5 b6] 37 (0, 0)) := by
    rw [heap_old_at (by simp <;> omega), heap_old_at (by simp), heap_new_at (by simp)]
  have EC : ((((w.alloc (.cells #[.slice a1 a2 a3, .slice a4 a5 a6] 37)).alloc (.cells #[.slice b1 b2 b3, .slice b4 b5 b6] 37)).alloc (.cells #[.slice c1 c2 c3, .slice c4 c5 c6] 37)).alloc (.cells #[.slice none 0 0, .slice none 0 0] 37)).heap[w.heap.size + 1 + 1]? = some (.cells #[.slice c1 c2 c3, .slice c4 c5 c6] 37 (0, 0)) := by
    rw [heap_old_at (by simp), heap_new_at (by simp)]
  have ER : ((((w.alloc (.cells #[.slice a1 a2 a3, .slice a4 a5 a6] 37)).alloc (.cells #[.slice b1 b2 b3, .slice b4 b5 b6] 37)).alloc (.cells #[.slice c1 c2 c3, .slice c4 c5 c6] 37)).alloc (.cells #[.slice none 0 0, .slice none 0 0] 37)).heap[w.heap.size + 1 + 1 + 1]? = some (.cells #[.slice none 0 0, .slice none 0 0] 37 (0, 0)) := heap_new_at (by simp)
  have HA := Lib.hid (ha.near hN)
  have HB := Lib.hid (hb.near hN)
  have HC := Lib.hid (hc.near hN)
  have HEA := Lib.hid EA
  have HEB := Lib.hid EB
  have HEC := Lib.hid EC
  have HER := Lib.hid ER
  have HN := Lib.hid hN
  clear EA EB EC ER ha hb hc hN
  go_enter Try.func81, Try.ntmps81
  go_upto_region 1 with fail
  generalize ((((w.alloc (.cells #[.slice a1 a2 a3, .slice a4 a5 a6] 37)).alloc (.cells #[.slice b1 b2 b3, .slice b4 b5 b6] 37)).alloc (.cells #[.slice c1 c2 c3, .slice c4 c5 c6] 37)).alloc (.cells #[.slice none 0 0, .slice none 0 0] 37)) = W at *
  have sOf : ∀ w', Near W w' → w'.cell? ⟨w.heap.size, 0, none⟩ = some (.slice a1 a2 a3) ∧ w'.cell? ⟨w.heap.size, 1, none⟩ = some (.slice a4 a5 a6) ∧ w'.cell? ⟨w.heap.size + 1, 0, none⟩ = some (.slice b1 b2 b3) ∧ w'.cell? ⟨w.heap.size + 1, 1, none⟩ = some (.slice b4 b5 b6) ∧ w'.cell? ⟨w.heap.size + 1 + 1, 0, none⟩ = some (.slice c1 c2 c3) ∧ w'.cell? ⟨w.heap.size + 1 + 1, 1, none⟩ = some (.slice c4 c5 c6) :=
    fun w' h => ⟨cell1 (keepN h HEA.out) rfl, cell1 (keepN h HEA.out) rfl, cell1 (keepN h HEB.out) rfl, cell1 (keepN h HEB.out) rfl, cell1 (keepN h HEC.out) rfl, cell1 (keepN h HEC.out) rfl⟩
  have sSt : ∀ wa x y, Near W wa → (fun w' => w'.cell? ⟨w.heap.size, 0, none⟩ = some (.slice a1 a2 a3) ∧ w'.cell? ⟨w.heap.size, 1, none⟩ = some (.slice a4 a5 a6) ∧ w'.cell? ⟨w.heap.size + 1, 0, none⟩ = some (.slice b1 b2 b3) ∧ w'.cell? ⟨w.heap.size + 1, 1, none⟩ = some (.slice b4 b5 b6) ∧ w'.cell? ⟨w.heap.size + 1 + 1, 0, none⟩ = some (.slice c1 c2 c3) ∧ w'.cell? ⟨w.heap.size + 1 + 1, 1, none⟩ = some (.slice c4 c5 c6)) ((wa.setCell ⟨w.heap.size + 1 + 1 + 1, 0, none⟩ x).setCell ⟨w.heap.size + 1 + 1 + 1, 1, none⟩ y) := fun wa x y s => by
    have e : ∀ k o, k ≠ w.heap.size + 1 + 1 + 1 → ((wa.setCell ⟨w.heap.size + 1 + 1 + 1, 0, none⟩ x).setCell ⟨w.heap.size + 1 + 1 + 1, 1, none⟩ y).cell? ⟨k, o, none⟩ = wa.cell? ⟨k, o, none⟩ := fun k o hk =>
      World.cell?_of_block (w := wa) ((Below.heap_setCell _ _ _ _ hk).trans (Below.heap_setCell _ _ _ _ hk))
    have t := sOf wa s
    exact ⟨(e _ _ (by omega)).trans t.1, (e _ _ (by omega)).trans t.2.1, (e _ _ (by omega)).trans t.2.2.1, (e _ _ (by omega)).trans t.2.2.2.1, (e _ _ (by omega)).trans t.2.2.2.2.1, (e _ _ (by omega)).trans t.2.2.2.2.2⟩
  go_region_held3 (fun w' => w'.cell? ⟨w.heap.size, 0, none⟩ = some (.slice a1 a2 a3) ∧ w'.cell? ⟨w.heap.size, 1, none⟩ = some (.slice a4 a5 a6) ∧ w'.cell? ⟨w.heap.size + 1, 0, none⟩ = some (.slice b1 b2 b3) ∧ w'.cell? ⟨w.heap.size + 1, 1, none⟩ = some (.slice b4 b5 b6) ∧ w'.cell? ⟨w.heap.size + 1 + 1, 0, none⟩ = some (.slice c1 c2 c3) ∧ w'.cell? ⟨w.heap.size + 1 + 1, 1, none⟩ = some (.slice c4 c5 c6))
    (first
      | (refine sOf _ ?_; first | exact z4 | exact z3 | exact z2 | exact z1 | exact (Near.refl _).drew)
      | exact sSt _ _ _ z4)
    (first
      | (go_at_call_of 56 (Value.slice b1 b2 b3); refine (rand_calls (HA.out.near (Near.refl _).drew) (HB.out.near (Near.refl _).drew)).mono ?_; rintro e v1 ⟨x1, rfl, s1, m1⟩; have S1 := Lib.hid s1; obtain ⟨x11, x12, x13, x14, x15, x16, rfl⟩ := s1.form; clear s1; have z1 : Near W v1 := (Near.refl _).drew.trans (Near.of_below m1))
      | (go_at_call 126; refine (rnot_calls (HA.out.near z1)).mono ?_; rintro e v2 ⟨x2, rfl, s2, m2⟩; have S2 := Lib.hid s2; obtain ⟨x21, x22, x23, x24, x25, x26, rfl⟩ := s2.form; clear s2; have z2 : Near W v2 := z1.trans (Near.of_below m2))
      | (go_at_call 56; refine (rand_calls S2.out (HC.out.near z2)).mono ?_; rintro e v3 ⟨x3, rfl, s3, m3⟩; have S3 := Lib.hid s3; obtain ⟨x31, x32, x33, x34, x35, x36, rfl⟩ := s3.form; clear s3; have z3 : Near W v3 := z2.trans (Near.of_below m3))
      | (go_at_call 125; refine (ror_calls (S1.out.near ((Near.of_below m2).trans (Near.of_below m3))) S3.out).mono ?_; rintro e v4 ⟨x4, rfl, s4, m4⟩; have S4 := Lib.hid s4; obtain ⟨x41, x42, x43, x44, x45, x46, rfl⟩ := s4.form; clear s4; have z4 : Near W v4 := z3.trans (Near.of_below m4); have q0 := cell1 (o := 0) (keepN z4 HER.out) rfl; have q1 := cell1 (o := 1) (keepN z4 HER.out) rfl; have f0 := free1 (keepN z4 HER.out) 0; have f1 := free1 (keepN z4 HER.out) 1))
  all_goals
    go_wp2_with fail
    refine bodyPost_ret (v := .agg #[.slice x41 x42 x43, .slice x44 x45 x46]) (by simp [results, Try.results81, go_sem, q0, q1]) rfl ⟨_, rfl, ?_, (((HN.out.trans z4).below.setCell (by show w.heap.size ≤ w.heap.size + 1 + 1 + 1; omega) _).setCell (by show w.heap.size ≤ w.heap.size + 1 + 1 + 1; omega) _)⟩
    · have st := isS_store S4.out (keepN z4 HER.out)
      have e : (fun c => jop 1 (jop 0 (f c) (g c)) (jop 0 (!(f c)) (h c))) = fun c => if f c then g c else h c := by
        funext c
        cases f c <;> cases g c <;> cases h c <;> rfl
      rw [← e]
      exact st

end Go.Proofs.Ytefclohjeompkaa
