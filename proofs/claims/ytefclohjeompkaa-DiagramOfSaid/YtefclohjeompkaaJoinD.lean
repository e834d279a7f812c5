/- The contract of 'join'. -/
import Derived.Test.YtefclohjeompkaaJoinC
namespace Go.Proofs.Ytefclohjeompkaa
open Go Go.RowKit Go.Proofs.Gen Go.Proofs.Bdd Go.Proofs.Bdd.T

theorem atT_eq (L : List T) (t : T) : atT L t = ⟨t.lv, pl L t.lo, pl L t.hi⟩ := by
  cases t with
  | leaf b => simp [atT, lv, lo, hi, pl_leaf]
  | node i l h => rfl

theorem rm_pos (t u : T) : 0 < rm t u := Nat.two_pow_pos _
theorem rm_le (t u : T) : rm t u ≤ 16777216 := by
  have e : (2 : Nat) ^ 24 = 16777216 := by decide
  rw [← e]
  exact Nat.pow_le_pow_right (by omega) (by omega)
theorem rm_kids {t u t0 u0 t1 u1 : T} {i : Nat} (hi : i < 24) (he : min t.lv u.lv = i) (a : i < t0.lv) (b : i < u0.lv) (c : i < t1.lv) (d : i < u1.lv) : rm t0 u0 + rm t1 u1 ≤ rm t u := by
  have e1 : rm t0 u0 ≤ 2 ^ (23 - i) := Nat.pow_le_pow_right (by omega) (by omega)
  have e2 : rm t1 u1 ≤ 2 ^ (23 - i) := Nat.pow_le_pow_right (by omega) (by omega)
  have e3 : rm t u = 2 * 2 ^ (23 - i) := by
    unfold rm
    rw [he, show 24 - i = (23 - i) + 1 from by omega, Nat.pow_succ]; omega
  omega

theorem IsMaker.near {w w' : World} {mb : Nat} {S : Nat → Prop} {L : List T} (h : IsMaker w mb S L) (hn : Near w w') : IsMaker w' mb S L := h.of_kept hn (fun _ _ _ => id)

/-- THE CONTRACT OF 'join'. -/
theorem join_calls {F : Nat} {bop : Bool → Bool → Bool} {sc : Nat → Nat → Option Bool} (hop : OpOk F bop sc) {pb mb sk : Nat} {asv bsv : Value} {ra rb : Int} {La Lb : List T} (ga : T.Good La) (gb : T.Good Lb)
    (hla : La.length < 1099511627776) (hlb : Lb.length < 1099511627776) (okA : ∀ t, In La t → t.Ok) (okB : ∀ t, In Lb t → t.Ok) :
    ∀ (k : Nat) (S : Nat → Prop) (t u : T) (L : List T) (n : Nat) (M : Value → Int → Prop) (w : World), 24 - min t.lv u.lv ≤ k → In La t → In Lb u → T.Good L →
      L.length + rm t u ≤ 1099511627776 → n + rm t u ≤ 1099511627776 → (∀ k, w.heap.size ≤ k → S k) → JEnv w pb mb sk asv bsv ra rb La Lb → IsMaker w mb S L → mapIs w Try.prog 190 3 sk n M → SeenOk La Lb bop L M →
      ¬ S pb → ¬ S sk → (∀ k, asv.ownBlock = some k → ¬ S k) → (∀ k, bsv.ownBlock = some k → ¬ S k) → ∀ x y : Int, x = (pl La t : Nat) → y = (pl Lb u : Nat) →
      Calls Try.prog 132 #[.pointer (some ⟨pb, 0, none⟩), .int .i64 x, .int .i64 y, .func (.func F) #[] #[]] w (JPost S w mb sk La Lb bop t u L n) := by
  intro k
  induction k with
  | zero =>
    intro S t u L n M w hk ht hu g hL hn hS env hm hmap hseen hpb hsk hA hB x y hx hy
    subst hx hy
    obtain ⟨b, rfl⟩ := lv_leaf_of (okA t ht) (by omega)
    obtain ⟨b', rfl⟩ := lv_leaf_of (okB u hu) (by omega)
    cases hs : sc (pl La (leaf b)) (pl Lb (leaf b')) with
    | none =>
      have := hop.open_ _ _ hs
      rw [pl_leaf, pl_leaf] at this
      cases b <;> cases b' <;> simp at this
    | some r =>
      refine (join_short F pb _ _ r w hop.enters (fun w' => hs ▸ hop.calls _ _ w')).mono ?_
      rintro e w' ⟨rfl, rfl⟩
      refine ⟨leaf r, [], n, M, by rw [pl_leaf], trivial, trivial, by simp [lv], fun c => ?_, by simpa using g, by simpa using hm, hmap, by simpa using hseen, Kept.refl _ _, by simp; exact rm_pos _ _, by have := rm_pos (leaf b) (leaf b'); omega⟩
      exact (hop.sound _ _ r hs _ _ (by rw [pl_leaf]; cases b <;> simp [ev]) (by rw [pl_leaf]; cases b <;> simp [ev]) (by rw [pl_leaf]; cases b' <;> simp [ev]) (by rw [pl_leaf]; cases b' <;> simp [ev])).symm
  | succ k ih =>
    intro S t u L n M w hk ht hu g hL hn hS env hm hmap hseen hpb hsk hA hB x y hx hy
    subst hx hy
    have val0 : ∀ (L : List T) (t : T), pl L t = 0 → ∀ c, t.ev c = false := by
      intro L t h c
      cases t with
      | leaf b => rw [pl_leaf] at h; cases b <;> simp [ev] at h ⊢
      | node i l r => have := pl_node (L := L) i l r; omega
    have val1 : ∀ (L : List T) (t : T), pl L t = 1 → ∀ c, t.ev c = true := by
      intro L t h c
      cases t with
      | leaf b => rw [pl_leaf] at h; cases b <;> simp [ev] at h ⊢
      | node i l r => have := pl_node (L := L) i l r; omega
    have hpx := pl_lt ht
    have hpy := pl_lt hu
    have hrp := rm_pos t u
    cases hs : sc (pl La t) (pl Lb u) with
    | some r =>
      refine (join_short F pb _ _ r w hop.enters (fun w' => hs ▸ hop.calls _ _ w')).mono ?_
      rintro e w' ⟨rfl, rfl⟩
      refine ⟨leaf r, [], n, M, by rw [pl_leaf], trivial, trivial, ?_, fun c => ?_, by simpa using g, by simpa using hm, hmap, by simpa using hseen, Kept.refl _ _, by simp; omega, by omega⟩
      · have := lv_le t (okA t ht)
        show min t.lv u.lv ≤ 24
        omega
      · exact (hop.sound _ _ r hs _ _ (fun h => val0 _ _ h c) (fun h => val1 _ _ h c) (fun h => val0 _ _ h c) (fun h => val1 _ _ h c)).symm
    | none =>
      have hopn : ∀ w', Calls Try.prog F #[.int .i64 (pl La t : Nat), .int .i64 (pl Lb u : Nat)] w' (OpPost none w') := fun w' => hs ▸ hop.calls _ _ w'
      obtain ⟨kl, hkey⟩ := key190 (wf_nat (n := pl La t) (by omega)) (wf_nat (n := pl Lb u) (by omega))
      by_cases hM : ∃ v, M (.agg #[.int .i64 (pl La t : Nat), .int .i64 (pl Lb u : Nat)]) v
      · obtain ⟨v, hv⟩ := hM
        obtain ⟨t', u', s, h1, h2, h3, h4, h5, h6, h7, h8⟩ := hseen _ _ hv
        simp only [Value.agg.injEq, Array.mk.injEq, List.cons.injEq, Value.int.injEq, true_and, and_true] at h3
        obtain rfl : t = t' := pl_inj ht h1 (by omega)
        obtain rfl : u = u' := pl_inj hu h2 (by omega)
        refine (join_hit F pb mb sk n asv bsv ra rb v _ _ kl M w hop.enters hopn env.pbk hmap hv hkey).mono ?_
        rintro e w' ⟨rfl, hnr⟩
        exact ⟨s, [], n, M, by simp [h6], by simpa using h4, h5, h7, h8, by simpa using g, by simpa using hm.near hnr, hmap.kept hnr id, by simpa using hseen, hnr.kept, by simp; omega, by omega⟩
      · have hnone : ∀ v, ¬ M (.agg #[.int .i64 (pl La t : Nat), .int .i64 (pl Lb u : Nat)]) v := fun v hv => hM ⟨v, hv⟩
        -- the level of the next node
        have hi24 : min t.lv u.lv < 24 := by
          rcases Nat.lt_or_ge (min t.lv u.lv) 24 with h | h
          · exact h
          · obtain ⟨b, rfl⟩ := lv_leaf_of (okA t ht) (by omega)
            obtain ⟨b', rfl⟩ := lv_leaf_of (okB u hu) (by omega)
            have := hop.open_ _ _ hs
            rw [pl_leaf, pl_leaf] at this
            cases b <;> cases b' <;> simp at this
        obtain ⟨i, hi⟩ : ∃ i, i = min t.lv u.lv := ⟨_, rfl⟩
        have ca := cof_facts (okA t ht) (i := i) (by omega) (by omega)
        have cb := cof_facts (okB u hu) (i := i) (by omega) (by omega)
        have ia := cof_in ga ht i
        have ib := cof_in gb hu i
        have hrk := rm_kids (t := t) (u := u) (i := i) (by omega) hi.symm ca.2.2.1 cb.2.2.1 ca.2.2.2.1 cb.2.2.2.1
        have hr1 := rm_pos (cof1 i t) (cof1 i u)
        have hr0 := rm_pos (cof0 i t) (cof0 i u)
        have hrle := rm_le t u
        have hskl := hmap.lt
        have hpbl : pb < w.heap.size := (Array.getElem?_eq_some_iff.1 env.pbk).1
        let Fin : Int → Nat → (Value → Int → Prop) → World → Prop := fun r n7 M7 w7 => ∃ s K, r = (pl (L ++ K) s : Nat) ∧ In (L ++ K) s ∧ s.Ok ∧ min t.lv u.lv ≤ s.lv ∧ (∀ c, s.ev c = bop (t.ev c) (u.ev c)) ∧ T.Good (L ++ K) ∧
          IsMaker w7 mb S (L ++ K) ∧ SeenOk La Lb bop (L ++ K) M7 ∧ Kept (fun k => S k ∨ k = sk) w w7 ∧ (L ++ K).length + 1 ≤ L.length + rm t u ∧ n7 + 1 + 1 ≤ n + rm t u
        refine (join_walk F (fun k => S k ∨ k = sk) pb mb sk n asv bsv ra rb (pl La t) (pl Lb u) kl (atT La t).v (atT La t).lo (atT La t).hi (atT Lb u).v (atT Lb u).lo (atT Lb u).hi
          (pl La (cof0 i t) : Nat) (pl Lb (cof0 i u) : Nat) (pl La (cof1 i t) : Nat) (pl Lb (cof1 i u) : Nat) i M w Fin env.pbk hop.enters hopn hmap hnone hkey ?_ ?_ ?_ ?_ ?_).mono ?_
        · intro w' hn'
          exact at_calls hla (owns_kept env.rowa hn' (fun _ _ => id)) ht ra rfl
        · intro w' hn'
          exact at_calls hlb (owns_kept env.rowb hn' (fun _ _ => id)) hu rb rfl
        · rintro (h | h)
          · exact hpb h
          · subst h
            obtain ⟨es, clock, hb, _⟩ := hmap
            rw [env.pbk] at hb
            cases hb
        · rw [atT_eq, atT_eq]
          simp only [cof0, cof1]
          rcases Nat.lt_trichotomy t.lv u.lv with h | h | h
          · refine .inl ⟨by omega, by omega, ?_, ?_, ?_, ?_⟩
            · rw [if_pos (by omega)]
            · rw [if_pos (by omega)]
            · rw [if_neg (by omega)]
            · rw [if_neg (by omega)]
          · refine .inr (.inl ⟨by omega, by omega, ?_, ?_, ?_, ?_⟩)
            · rw [if_pos (by omega)]
            · rw [if_pos (by omega)]
            · rw [if_pos (by omega)]
            · rw [if_pos (by omega)]
          · refine .inr (.inr ⟨by omega, by omega, ?_, ?_, ?_, ?_⟩)
            · rw [if_neg (by omega)]
            · rw [if_neg (by omega)]
            · rw [if_pos (by omega)]
            · rw [if_pos (by omega)]
        · intro w1 hn1
          have hz1 := hn1.size
          -- the maker's blocks but for those that this call has laid
          have hSL : ∀ k, w1.heap.size ≤ k → Loc S w w1 k := fun k hk => ⟨hS k (by omega), by omega⟩
          have hm1 : IsMaker w1 mb (Loc S w w1) L := (hm.mono_lt (fun k hk h => ⟨h, by omega⟩)).near hn1
          have npb : ¬ Loc S w w1 pb := fun h => hpb h.1
          have nsk : ¬ Loc S w w1 sk := fun h => hsk h.1
          have nA : ∀ k, asv.ownBlock = some k → ¬ Loc S w w1 k := fun k hk h => hA k hk h.1
          have nB : ∀ k, bsv.ownBlock = some k → ¬ Loc S w w1 k := fun k hk h => hB k hk h.1
          have nskA : ∀ k, asv.ownBlock = some k → k ≠ sk := by
            rintro k hk rfl
            obtain ⟨es, clock, hb, _⟩ := hmap
            exact owns_ne_map env.rowa hb hk
          have nskB : ∀ k, bsv.ownBlock = some k → k ≠ sk := by
            rintro k hk rfl
            obtain ⟨es, clock, hb, _⟩ := hmap
            exact owns_ne_map env.rowb hb hk
          have npbk : pb ≠ sk := by
            rintro rfl
            obtain ⟨es, clock, hb, _⟩ := hmap
            rw [env.pbk] at hb
            cases hb
          have env1 := env.kept hn1 (R := fun _ => False) ⟨id, fun _ _ => id, fun _ _ => id⟩
          have toLoc : ∀ wa wb : World, Kept (fun k => Loc S w w1 k ∨ k = sk) wa wb → Kept (Loc (fun k => S k ∨ k = sk) w w1) wa wb := fun wa wb h => h.mono (fun k _ hk => by
            rcases hk with hk | rfl
            · exact ⟨.inl hk.1, hk.2⟩
            · exact ⟨.inr rfl, by omega⟩)
          have envK : ∀ wa wb : World, JEnv wa pb mb sk asv bsv ra rb La Lb → Kept (fun k => Loc S w w1 k ∨ k = sk) wa wb → JEnv wb pb mb sk asv bsv ra rb La Lb := fun wa wb he h =>
            he.kept h ⟨fun hh => hh.elim npb npbk, fun k hk hh => hh.elim (nA k hk) (nskA k hk), fun k hk hh => hh.elim (nB k hk) (nskB k hk)⟩
          refine (ih (Loc S w w1) (cof0 i t) (cof0 i u) L n M w1 (by omega) ia.1 ib.1 g (by omega) (by omega) hSL env1 hm1 (hmap.kept hn1 id) hseen npb nsk nA nB _ _ rfl rfl).mono ?_
          rintro e w2 ⟨s0, K0, n0, M0, rfl, hs0, ok0, lv0, ev0, g0, mk0, map0, seen0, kept0, len0, cnt0⟩
          refine ⟨_, rfl, toLoc _ _ kept0, fun w3 hn3 => ?_⟩
          have hz2 := kept0.size
          have hz3 := hn3.size
          have env2 := envK _ _ env1 kept0
          have env3 := env2.kept hn3 (R := fun _ => False) ⟨id, fun _ _ => id, fun _ _ => id⟩
          refine (ih (Loc S w w1) (cof1 i t) (cof1 i u) (L ++ K0) n0 M0 w3 (by omega) ia.2 ib.2 g0 (by omega) (by omega) (fun k hk => hSL k (by omega)) env3 (mk0.near hn3) (map0.kept hn3 id) seen0 npb nsk nA nB _ _ rfl rfl).mono ?_
          rintro e w4 ⟨s1, K1, n1, M1, rfl, hs1, ok1, lv1, ev1, g1, mk1, map1, seen1, kept1, len1, cnt1⟩
          refine ⟨_, rfl, toLoc _ _ kept1, fun w5 hn5 => ?_⟩
          have hz4 := kept1.size
          have hz5 := hn5.size
          have env4 := envK _ _ env3 kept1
          have env5 := env4.kept hn5 (R := fun _ => False) ⟨id, fun _ _ => id, fun _ _ => id⟩
          have l0 := ca.2.2.1
          have l1 := ca.2.2.2.1
          have l2 := cb.2.2.1
          have l3 := cb.2.2.2.1
          have hs01 : In (L ++ K0 ++ K1) s0 := hs0.mono K1
          refine (node_calls (S := Loc S w w1) g1 (i := i) hs01 hs1 (by omega) (by omega) (fun k hk => hSL k (by omega)) (mk1.near hn5) rfl (by rw [pl_append hs0]) rfl).mono ?_
          rintro e w6 ⟨rfl, mk6, kept6⟩
          obtain ⟨K2, hK2⟩ := add_prefix (L ++ K0 ++ K1) i s0 s1
          have hlen2 := add_len (L ++ K0 ++ K1) i s0 s1
          have hg2 := add_good g1 hs01 hs1 (i := i) (by omega) (by omega) (by omega) ok0 ok1
          have hin2 := add_in (L := L ++ K0 ++ K1) (i := i) (l := s0) (h := s1) hs01
          rw [hK2] at hlen2 hg2 hin2 mk6 ⊢
          have hp2 := pl_lt hin2
          refine ⟨_, rfl, kept6.mono (fun k _ hk => ⟨.inl hk.1, hk.2⟩), wf_nat (by omega), n1, M1, by omega, (map1.kept hn5 id).kept kept6 nsk, fun w7 hn7 => ?_⟩
          have assoc : L ++ K0 ++ K1 ++ K2 = L ++ (K0 ++ K1 ++ K2) := by simp
          refine ⟨mk i s0 s1, K0 ++ K1 ++ K2, by rw [assoc], by rw [← assoc]; exact hin2, mk_ok (by omega) (by omega) (by omega) ok0 ok1, ?_, fun c => ?_, by rw [← assoc]; exact hg2, ?_, ?_, ?_, ?_, by omega⟩
          · have := mk_lv (i := i) (l := s0) (h := s1) (by omega)
            omega
          · rw [mk_ev, ev0, ev1, ca.2.2.2.2 c, cb.2.2.2.2 c]
            split <;> rfl
          · rw [← assoc]
            exact (mk6.mono (fun k h => h.1)).near hn7
          · rw [← assoc]
            exact (seen1.mono K2)
          · have toS : ∀ wa wb : World, Kept (fun k => Loc S w w1 k ∨ k = sk) wa wb → Kept (fun k => S k ∨ k = sk) wa wb := fun wa wb h => h.mono (fun k _ hk => hk.imp (·.1) id)
            exact (((((hn1.kept.trans (toS _ _ kept0)).trans hn3.kept).trans (toS _ _ kept1)).trans hn5.kept).trans (kept6.mono (fun k _ h => .inl h.1))).trans hn7.kept
          · rw [← assoc]
            omega
        · rintro e w' ⟨r, n7, M7, w7, rfl, ⟨s, K, rfl, hsi, hok, hlv, hev, hg, hmk, hsn, hkp, hln, hcn⟩, hmap', htn⟩
          refine ⟨s, K, n7 + 1, _, rfl, hsi, hok, hlv, hev, hg, ?_, hmap', ?_, htn.kept hkp (fun _ => .inr rfl), hln, by omega⟩
          · exact hmk.of_kept (R := fun k => k = sk) (htn.kept (Kept.refl _ _) (fun _ => rfl)) (fun k _ hk e => hsk (e ▸ hk))
          · rintro key v (⟨rfl, rfl⟩ | ⟨_, hv⟩)
            · exact ⟨t, u, s, ht, hu, rfl, hsi, hok, rfl, hlv, hev⟩
            · exact hsn key v hv

end Go.Proofs.Ytefclohjeompkaa
