/- The contract of 'join'. -/
import Derived.Test.YtefclohjeompkaaJoinW
namespace Go.Proofs.Ytefclohjeompkaa
open Go Go.RowKit Go.Proofs.Gen Go.Proofs.Bdd Go.Proofs.Bdd.T

/-- Function F is an operation on the empty and the full set, with a shortcut. -/
structure OpOk (F : Nat) (bop : Bool → Bool → Bool) (sc : Nat → Nat → Option Bool) : Prop where
  enters : ∀ args w, (callFunc F args).run Try.prog w = .ok (.enter F args) w
  calls : ∀ (x y : Nat) w, Calls Try.prog F #[.int .i64 x, .int .i64 y] w (OpPost (sc x y) w)
  sound : ∀ x y b, sc x y = some b → ∀ p q : Bool, (x = 0 → p = false) → (x = 1 → p = true) → (y = 0 → q = false) → (y = 1 → q = true) → bop p q = b
  open_ : ∀ x y, sc x y = none → ¬ (x < 2 ∧ y < 2)

theorem op_both : OpOk 93 (fun p q => p && q) scBoth where
  enters := call_enters Try.func93 (by kernel_rfl) rfl
  calls := both_calls
  sound x y b h p q h1 h2 h3 h4 := by
    unfold scBoth at h
    split at h
    · rename_i hh
      cases h
      rcases hh with hh | hh
      · rw [h1 hh]; rfl
      · rw [h3 hh]; cases p <;> rfl
    · split at h
      · rename_i hh
        cases h
        rw [h2 hh.1, h4 hh.2]; rfl
      · cases h
  open_ x y h := by
    unfold scBoth at h
    split at h
    · cases h
    · split at h
      · cases h
      · omega

theorem op_either : OpOk 92 (fun p q => p || q) scEither where
  enters := call_enters Try.func92 (by kernel_rfl) rfl
  calls := either_calls
  sound x y b h p q h1 h2 h3 h4 := by
    unfold scEither at h
    split at h
    · rename_i hh
      cases h
      rcases hh with hh | hh
      · rw [h2 hh]; rfl
      · rw [h4 hh]; cases p <;> rfl
    · split at h
      · rename_i hh
        cases h
        rw [h1 hh.1, h3 hh.2]; rfl
      · cases h
  open_ x y h := by
    unfold scEither at h
    split at h
    · cases h
    · split at h
      · cases h
      · omega

theorem op_odd : OpOk 99 (fun p q => p != q) scOdd where
  enters := call_enters Try.func99 (by kernel_rfl) rfl
  calls := odd_calls
  sound x y b h p q h1 h2 h3 h4 := by
    unfold scOdd at h
    split at h
    · rename_i hh
      cases h
      have hx : x = 0 ∨ x = 1 := by omega
      have hy : y = 0 ∨ y = 1 := by omega
      rcases hx with rfl | rfl <;> rcases hy with rfl | rfl
      · rw [h1 rfl, h3 rfl]; rfl
      · rw [h1 rfl, h4 rfl]; rfl
      · rw [h2 rfl, h3 rfl]; rfl
      · rw [h2 rfl, h4 rfl]; rfl
    · cases h
  open_ x y h := by
    unfold scOdd at h
    split at h
    · cases h
    · assumption

set_option maxRecDepth 100000 in
set_option maxHeartbeats 400000 in
theorem join_short (F pb : Nat) (x y : Nat) (b : Bool) (w : World) (hcf : ∀ args w', (callFunc F args).run Try.prog w' = .ok (.enter F args) w')
    (hop : ∀ w', Calls Try.prog F #[.int .i64 x, .int .i64 y] w' (OpPost (some b) w')) :
    Calls Try.prog 132 #[.pointer (some ⟨pb, 0, none⟩), .int .i64 x, .int .i64 y, .func (.func F) #[] #[]] w fun e w' => e = .returned (.int .i64 (b.toNat : Nat)) ∧ w = w' := by
  have HOP := Lib.hid hop
  clear hop
  go_enter Try.func132, Try.ntmps132
  go_wp2_with fail
  refine (HOP.out _).mono ?_
  rintro e w' ⟨rfl, rfl⟩
  go_wp2_with fail
  go_ret
  exact ⟨rfl, rfl⟩

set_option maxRecDepth 100000 in
set_option maxHeartbeats 400000 in
theorem join_hit (F pb mb sk n : Nat) (asv bsv : Value) (ra rb u : Int) (x y : Nat) (kl : Lit) (M : Value → Int → Prop) (w : World) (hcf : ∀ args w', (callFunc F args).run Try.prog w' = .ok (.enter F args) w')
    (hop : ∀ w', Calls Try.prog F #[.int .i64 x, .int .i64 y] w' (OpPost none w'))
    (hpb : w.heap[pb]? = some (.cells #[.pointer (some ⟨mb, 0, none⟩), asv, .int .i64 ra, bsv, .int .i64 rb, .map (some sk)] 168 (0, 0)))
    (hmap : mapIs w Try.prog 190 3 sk n M) (hM : M (.agg #[.int .i64 x, .int .i64 y]) u) (hkey : keyOf Try.prog 190 (.agg #[.int .i64 x, .int .i64 y]) = some kl) :
    Calls Try.prog 132 #[.pointer (some ⟨pb, 0, none⟩), .int .i64 x, .int .i64 y, .func (.func F) #[] #[]] w fun e w' => e = .returned (.int .i64 u) ∧ Near w w' := by
  have c5 : w.cell? ⟨pb, 5, none⟩ = some (.map (some sk)) := cell1 hpb rfl
  have hlt := World.block_lt_of_cell? w ⟨pb, 5, none⟩ c5
  have hskl := hmap.lt
  have hr : ∀ (m : Nat), (Instr.lookup 166 (.map (some sk)) (.agg #[.int .i64 x, .int .i64 y]) true).run Try.prog ((w.alloc (.cells #[.int .i64 x, .int .i64 y] 190)).drewN m) = .ok (.tuple #[.int .i64 u, .bool true]) ((w.alloc (.cells #[.int .i64 x, .int .i64 y] 190)).drewN m) :=
    fun m => mapIs.hit (((hmap.of_block (w' := w.alloc (.cells #[.int .i64 x, .int .i64 y] 190)) (Below.heap_alloc w _ sk hskl)).drewN m)) law190 Try.underlying166 Try.underlying3 (zero3 _) hkey hM
  have HOP := Lib.hid hop
  clear hop hpb hmap
  go_enter Try.func132, Try.ntmps132
  go_wp2_with fail
  refine (HOP.out _).mono ?_
  rintro e w' ⟨rfl, r, rfl⟩
  go_wp2_with fail
  go_quiet (fail)
  go_wp2_with fail
  go_ret
  exact ⟨rfl, ((Near.refl w).alloc _).drewN _⟩

/-- What 'join' reads. -/
structure JEnv (w : World) (pb mb sk : Nat) (asv bsv : Value) (ra rb : Int) (La Lb : List T) : Prop where
  pbk : w.heap[pb]? = some (.cells #[.pointer (some ⟨mb, 0, none⟩), asv, .int .i64 ra, bsv, .int .i64 rb, .map (some sk)] 168 (0, 0))
  rowa : w.ownsRow 0 26 3 asv La.length (cellsOf (enc La))
  rowb : w.ownsRow 0 26 3 bsv Lb.length (cellsOf (enc Lb))

theorem owns_kept {w w' : World} {R : Nat → Prop} {base e size n : Nat} {v : Value} {xs : List Value} (h : w.ownsRow base e size v n xs) (hk : Kept R w w') (hd : ∀ k, v.ownBlock = some k → ¬ R k) : w'.ownsRow base e size v n xs := by
  refine ⟨h.1, ?_⟩
  rcases h.2 with hh | ⟨g, cap, cur, rfl, hb, hg, r⟩
  · exact .inl hh
  · exact .inr ⟨g, cap, cur, rfl, hb, (hk.block g (Array.getElem?_eq_some_iff.1 hg).1 (hd g rfl)).trans hg, r⟩

theorem JEnv.kept {w w' : World} {R : Nat → Prop} {pb mb sk : Nat} {asv bsv : Value} {ra rb : Int} {La Lb : List T} (h : JEnv w pb mb sk asv bsv ra rb La Lb) (hk : Kept R w w')
    (hd : ¬ R pb ∧ (∀ k, asv.ownBlock = some k → ¬ R k) ∧ ∀ k, bsv.ownBlock = some k → ¬ R k) : JEnv w' pb mb sk asv bsv ra rb La Lb :=
  ⟨(hk.block pb (Array.getElem?_eq_some_iff.1 h.pbk).1 hd.1).trans h.pbk, owns_kept h.rowa hk hd.2.1, owns_kept h.rowb hk hd.2.2⟩

/-- What stands in the map of pairs is right. -/
def SeenOk (La Lb : List T) (bop : Bool → Bool → Bool) (L : List T) (M : Value → Int → Prop) : Prop :=
  ∀ key u, M key u → ∃ t v s, In La t ∧ In Lb v ∧ key = .agg #[.int .i64 (pl La t : Nat), .int .i64 (pl Lb v : Nat)] ∧ In L s ∧ s.Ok ∧ u = (pl L s : Nat) ∧ min t.lv v.lv ≤ s.lv ∧ ∀ c, s.ev c = bop (t.ev c) (v.ev c)

theorem SeenOk.mono {La Lb : List T} {bop : Bool → Bool → Bool} {L : List T} {M : Value → Int → Prop} (h : SeenOk La Lb bop L M) (K : List T) : SeenOk La Lb bop (L ++ K) M := by
  intro key u hm
  obtain ⟨t, v, s, h1, h2, h3, h4, h5, h6, h7, h8⟩ := h key u hm
  exact ⟨t, v, s, h1, h2, h3, h4.mono K, h5, by rw [h6, pl_append h4], h7, h8⟩

/-- Room for what is joined. -/
def rm (t u : T) : Nat := 2 ^ (24 - min t.lv u.lv)

/-- What 'join' leaves. -/
def JPost (S : Nat → Prop) (w : World) (mb sk : Nat) (La Lb : List T) (bop : Bool → Bool → Bool) (t u : T) (L : List T) (n : Nat) (e : Ending) (w' : World) : Prop :=
  ∃ s K n' M, e = .returned (.int .i64 (pl (L ++ K) s : Nat)) ∧ In (L ++ K) s ∧ s.Ok ∧ min t.lv u.lv ≤ s.lv ∧ (∀ c, s.ev c = bop (t.ev c) (u.ev c)) ∧ T.Good (L ++ K) ∧ IsMaker w' mb S (L ++ K) ∧
    mapIs w' Try.prog 190 3 sk n' M ∧ SeenOk La Lb bop (L ++ K) M ∧ Kept (fun k => S k ∨ k = sk) w w' ∧ (L ++ K).length + 1 ≤ L.length + rm t u ∧ n' + 1 ≤ n + rm t u

end Go.Proofs.Ytefclohjeompkaa
