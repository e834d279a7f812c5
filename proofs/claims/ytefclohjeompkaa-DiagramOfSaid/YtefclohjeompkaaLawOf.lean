/- The law DiagramOf: the walk. -/
import Derived.Test.YtefclohjeompkaaAlike
import Derived.Test.YtefclohjeompkaaOfD
import Derived.Test.YtefclohjeompkaaSteps3
namespace Go.Proofs.Ytefclohjeompkaa
open Go Go.RowKit Go.Proofs.Gen Go.Proofs.Bdd Go.Proofs.Bdd.T

theorem OfSays.fun {l : List Dec} {root n n' : Int} {t t' : T} (h : OfSays l root n t) (h' : OfSays l root n' t') : n = n' ∧ t = t' := by
  rcases h with ⟨⟨k, hk, hf⟩, rfl, rfl⟩ | ⟨hf, hr, rfl, rfl⟩ | ⟨hf, h0, h1, rfl, ht⟩ <;> rcases h' with ⟨⟨k', hk', hf'⟩, rfl, rfl⟩ | ⟨hf', hr', rfl, rfl⟩ | ⟨hf', h0', h1', rfl, ht'⟩
  · exact ⟨rfl, rfl⟩
  · exact (hf (hf' k hk)).elim
  · exact (hf (hf' k hk)).elim
  · exact (hf' (hf k' hk')).elim
  · exact ⟨rfl, rfl⟩
  · omega
  · exact (hf' (hf k' hk')).elim
  · omega
  · rw [ht] at ht'
    cases ht'
    exact ⟨rfl, rfl⟩

theorem decs_at : ∀ {l : List Dec} {j : Nat} {u : Value}, (decs l)[j]? = some u → ∃ k x, l[k]? = some x ∧ ((j = k * 3 ∧ u = .int .i64 x.v) ∨ (j = k * 3 + 1 ∧ u = .int .i64 x.lo) ∨ (j = k * 3 + 2 ∧ u = .int .i64 x.hi))
  | [], j, u, h => by simp [decs] at h
  | y :: l, j, u, h => by
    have e : decs (y :: l) = .int .i64 y.v :: .int .i64 y.lo :: .int .i64 y.hi :: decs l := rfl
    rw [e] at h
    match j, h with
    | 0, h => exact ⟨0, y, rfl, .inl ⟨rfl, by simpa using h.symm⟩⟩
    | 1, h => exact ⟨0, y, rfl, .inr (.inl ⟨rfl, by simpa using h.symm⟩)⟩
    | 2, h => exact ⟨0, y, rfl, .inr (.inr ⟨rfl, by simpa using h.symm⟩)⟩
    | j + 3, h =>
      obtain ⟨k, x, hk, hx⟩ := decs_at (l := l) (j := j) (u := u) (by simpa using h)
      refine ⟨k + 1, x, by simpa using hk, ?_⟩
      rcases hx with ⟨e1, e2⟩ | ⟨e1, e2⟩ | ⟨e1, e2⟩
      · exact .inl ⟨by omega, e2⟩
      · exact .inr (.inl ⟨by omega, e2⟩)
      · exact .inr (.inr ⟨by omega, e2⟩)

theorem decs_len (l : List Dec) : (decs l).length = l.length * 3 := by
  induction l with
  | nil => rfl
  | cons y l ih =>
    have e : decs (y :: l) = .int .i64 y.v :: .int .i64 y.lo :: .int .i64 y.hi :: decs l := rfl
    rw [e]
    simp only [List.length_cons, ih]
    omega

theorem decs_one {l : List Dec} : ∀ u ∈ decs l, u.oneCell' = true := by
  intro u hu
  obtain ⟨j, hj⟩ := List.getElem?_of_mem hu
  obtain ⟨k, x, -, ⟨-, rfl⟩ | ⟨-, rfl⟩ | ⟨-, rfl⟩⟩ := decs_at hj <;> rfl

theorem RdDec.yields {w : World} {v : Value} {l : List Dec} (h : RdDec w v l) (hnil : ∀ cap, v = .slice none 0 cap → cap = 0) : SrcOf w 3 l.length v (decs l) := by
  obtain ⟨ao, cap, rfl, hc⟩ := h
  refine ⟨decs_len l, ?_⟩
  cases ao with
  | none =>
    have h0 : l.length = 0 := by
      rcases Nat.eq_zero_or_pos l.length with h | h
      · exact h
      · obtain ⟨b, off, e, _⟩ := hc 0 _ (List.getElem?_eq_getElem h)
        cases e
    rw [h0] at hnil ⊢
    exact .inl ⟨by rw [hnil cap rfl], rfl⟩
  | some ad =>
    refine .inr ⟨ad, cap, rfl, fun j u hj => ?_⟩
    obtain ⟨k, x, hk, hx⟩ := decs_at hj
    obtain ⟨b, off, e, h0, h1, h2⟩ := hc k x hk
    cases e
    have ea : ∀ n, (⟨b, off, none⟩ : Addr).add n = ⟨b, off + n, none⟩ := fun n => by
      unfold Addr.add
      by_cases h : n = 0 <;> simp [h]
    rw [ea]
    rcases hx with ⟨rfl, rfl⟩ | ⟨rfl, rfl⟩ | ⟨rfl, rfl⟩
    · exact h0
    · rw [← Nat.add_assoc]; exact h1
    · rw [← Nat.add_assoc]; exact h2

set_option maxRecDepth 100000 in
set_option maxHeartbeats 1600000 in
theorem law_of {w : World} {v : Value} {l : List Dec} {root : Int} (h : RdDec w v l) (hnil : ∀ cap, v = .slice none 0 cap → cap = 0) :
    Calls Try.prog 3 #[v, .int .i64 root] w fun e w' => e = .returned (.bool true) ∧ Near w w' := by
  obtain ⟨i0, hi0, hz0, hz1, hz2⟩ := info_parts info26
  have HL := Lib.hid h
  obtain ⟨ao, cap, rfl, hc⟩ := h
  have HC := Lib.hid hc
  clear hc
  by_cases h12 : 12 < l.length
  · have h12' : (12 : Int) < (l.length : Int) := by omega
    go_enter Try.func3, Try.ntmps3
    go_wp2_with (first
      | (go_at_call 17; refine (wakes_calls _).mono ?_; rintro e w1 ⟨rfl, n1⟩))
    go_ret
    exact ⟨rfl, n1⟩
  · have h12' : ¬ (12 : Int) < (l.length : Int) := by omega
    have HNil := Lib.hid hnil
    clear hnil
    go_enter Try.func3, Try.ntmps3
    go_wp2_with fail
    go_loopw [5, 6] (fun f i wr => ∃ (k : Nat) (x : Nat), k ≤ l.length ∧ i = .int .i64 k ∧ f = .int .u32 x ∧ x < 16777216 ∧ Near w wr) (fun _ i _ => l.length - (intOf i).toNat)
    case atStart => exact ⟨0, 0, Nat.zero_le _, rfl, rfl, by decide, Near.refl _⟩
    case round =>
      obtain ⟨k, x, hk, rfl, rfl, hx, hn⟩ := hrel
      by_cases hlt : k < l.length
      · have hlt' : (k : Int) < l.length := by omega
        obtain ⟨b, off, rfl, x0, -, -⟩ := HC.out k _ (List.getElem?_eq_getElem hlt)
        have y0 := hn.cell x0
        clear x0
        generalize l[k].v = d at y0
        by_cases h0 : 0 ≤ d ∧ d < 24
        · obtain ⟨d, rfl⟩ : ∃ n : Nat, d = n := ⟨d.toNat, by omega⟩
          obtain ⟨h0, h1⟩ := h0
          have h64 : (d : Int) < 64 := by omega
          have hor := u32_or_bit x d (by omega) (by omega)
          have hlt2 : x ||| 2 ^ d < 16777216 := Nat.or_lt_two_pow (n := 24) (by simpa using hx) (Nat.pow_lt_pow_right (by omega) (by omega))
          have HO := Lib.hid hor
          clear hor
          go_wp2_with fail
          exact ⟨⟨k + 1, x ||| 2 ^ d, by omega, by go_num, by rw [HO.out], hlt2, hn⟩, by simp [intOf]; omega⟩
        · have h0' : d < 0 ∨ 0 ≤ d ∧ 24 ≤ d := by omega
          clear h0
          rcases h0' with h0 | ⟨h0, h1⟩
          all_goals
            go_wp2_with fail
            exact ⟨⟨k + 1, x, by omega, by go_num, rfl, hx, hn⟩, by simp [intOf]; omega⟩
      · have hkl : k = l.length := by omega
        subst hkl
        by_cases h7 : 7 < (feats x).length
        · have h7' : (7 : Int) < ((feats x).length : Int) := by omega
          go_wp2_with (first
            | (go_at_call 18; refine (features_calls _ (by omega) _).mono ?_; rintro e w1 ⟨xv, rfl, r1, n1⟩; obtain ⟨xo, xc, rfl⟩ := owns_form r1)
            | (go_at_call 17; refine (wakes_calls _).mono ?_; rintro e w2 ⟨rfl, n2⟩))
          go_ret
          exact ⟨rfl, (hn.trans n1).trans n2⟩
        · have h7' : ¬ (7 : Int) < ((feats x).length : Int) := by omega
          go_upto_region 11 with (first
            | (go_at_call 18; refine (features_calls _ (by omega) _).mono ?_; rintro e w1 ⟨xv, rfl, r1, n1⟩; obtain ⟨xo, xc, rfl⟩ := owns_form r1))
          have HN1 := Lib.hid (hn.trans n1)
          clear hn n1 r1 h7 h7'
          have HY := Lib.hid ((HL.out.near HN1.out).yields HNil.out)
          go_wp2_with (first
            | (at_builtin; refine wpList_append_more rfl (.const (.slice none 0 0)) (.tmp 50) 22 rfl 0 26 i0 (.agg #[.int .i64 0, .int .i64 0, .int .i64 0]) 3 24 Try.underlying22 hi0 hz0 hz1 hz2 rfl (by decide) (.slice none 0 0) 0 [] rfl (World.ownsRow_nil _ _ _ _) _ l.length (decs l) rfl HY.out decs_one (by unfold maxLen; omega) (by omega) (Nat.zero_le _) ?_; intro bo bcp w2 hown2 hg2; simp only [Nat.zero_add, List.nil_append] at hown2; have HO2 := Lib.hid (RdDec.owns hown2); have HN2 := Lib.hid (HN1.out.kept.grown (S := fun _ => False) hg2 (fun k hk => by cases hk)); clear hown2 hg2)
            | (go_at_call 19; refine (of_calls HO2.out (by omega)).mono ?_; rintro e w3 ⟨v3, n3, t3, rfl, nn3, d3, s3⟩; obtain ⟨a1, a2, a3, rfl, -⟩ := d3.form; have HD3 := Lib.hid d3; have HN3 := Lib.hid nn3; have HS3 := Lib.hid s3; clear d3 nn3 s3)
            | (go_at_call 20; refine (rof_calls (HL.out.near ((Near.trans HN2.out HN3.out).alloc _)) (by omega)).mono ?_; rintro e w4 ⟨v4, n4, t4, rfl, nn4, d4, s4⟩; obtain ⟨c1, c2, c3, c4, c5, c6, rfl⟩ := d4.form; have HD4 := Lib.hid d4; have HN4 := Lib.hid nn4; obtain ⟨e1, e2⟩ := OfSays.fun HS3.out s4; subst e1; subst e2; have HE4 := Lib.hid (keepN ((Near.refl w4).alloc (Obj.cells #[Value.slice c1 c2 c3, Value.slice c4 c5 c6] 37)) (keepN nn4 (heap_new_at rfl))); have q0 := cell1 (o := 0) HE4.out rfl; have q1 := cell1 (o := 1) HE4.out rfl; have HN5 := Lib.hid ((((Near.trans HN2.out HN3.out).alloc _).trans nn4).alloc (Obj.cells #[Value.slice c1 c2 c3, Value.slice c4 c5 c6] 37)); have HD5 := Lib.hid (HD3.out.near ((((Near.refl w3).alloc _).trans nn4).alloc (Obj.cells #[Value.slice c1 c2 c3, Value.slice c4 c5 c6] 37))); have HG5 := Lib.hid (d4.near ((Near.refl w4).alloc (Obj.cells #[Value.slice c1 c2 c3, Value.slice c4 c5 c6] 37))); have HR5 := Lib.hid (HO2.out.near ((HN3.out.alloc _).trans nn4 |>.alloc (Obj.cells #[Value.slice c1 c2 c3, Value.slice c4 c5 c6] 37))); clear d4 nn4 s4)
            | (go_at_call 21; refine (alike_calls ⟨_, HD5.out, fun c => rfl⟩ HG5.out).mono ?_; rintro e w6 ⟨rfl, n6⟩; have HN6 := Lib.hid n6; clear n6)
            | (go_at_call 22; refine (same_calls (HR5.out.near HN6.out) (HL.out.near (HN5.out.trans HN6.out)) (by omega)).mono ?_; rintro e w7 ⟨rfl, n7⟩; have HN7 := Lib.hid n7; clear n7)
            | (go_at_call 17; refine (wakes_calls _).mono ?_; rintro e w8 ⟨rfl, n8⟩; have HN8 := Lib.hid n8; clear n8))
          go_ret
          exact ⟨rfl, ((HN5.out.trans HN6.out).trans HN7.out).trans HN8.out⟩

end Go.Proofs.Ytefclohjeompkaa
