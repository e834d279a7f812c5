/- How the program's values stand for decision trees: the maker's list and map, a set. -/
import Derived.Test.YtefclohjeompkaaProg
import Derived.Test.YtefclohjeompkaaTree
import Derived.Test.YtefclohjeompkaaMaps
import Derived.KernelRfl
import Derived.DeepKeys4
namespace Go.Proofs.Ytefclohjeompkaa
open Go Go.RowKit Go.Proofs.Gen Go.Proofs.Bdd Go.Proofs.Bdd.T
open Go.Maps (Keyed)

theorem laidOut : laidOutB Try.prog = true := by kernel_rfl
theorem size_types : Try.prog.types.size = 226 + 1 := by kernel_rfl
theorem keyType26 : Try.prog.keyType 26 = true := by kernel_rfl
theorem keyType190 : Try.prog.keyType 190 = true := by kernel_rfl
theorem cells26 : Try.prog.cellsOf 26 = 3 := by kernel_rfl
theorem cells3 : Try.prog.cellsOf 3 = 1 := by kernel_rfl
theorem cells190 : Try.prog.cellsOf 190 = 2 := by kernel_rfl

/-- A node as a value; its cells. -/
def triV (x : Tri) : Value := .agg #[.int .i64 x.v, .int .i64 x.lo, .int .i64 x.hi]
def triC (x : Tri) : List Value := [.int .i64 x.v, .int .i64 x.lo, .int .i64 x.hi]
def cellsOf (l : List Tri) : List Value := l.flatMap triC

theorem law26 : Keyed Try.prog 26 := Keyed.of_law (deep_law_laid laidOut (m := 9) (by decide) (by rw [size_types]; decide) (by kernel_rfl) (by kernel_rfl))
theorem law190 : Keyed Try.prog 190 := Keyed.of_law (deep_law_laid laidOut (m := 9) (by decide) (by rw [size_types]; decide) (by kernel_rfl) (by kernel_rfl))
theorem law3 : Keyed Try.prog 3 := Maps.int_keyed Try.underlying3
theorem zero3 (w : World) : (zeroValue 3).run Try.prog w = .ok (.int .i64 0) w := by kernel_rfl

theorem lits3 (m : Nat) {a : Int} (ha : (Lit.int .i64 a).wf = true) : Try.prog.keyLits (m + 1) 3 [.int .i64 a] = some [.int .i64 a] := by
  unfold Program.keyLits
  simp only [Try.underlying3]
  simp [ha]

theorem lits26 (m : Nat) {a b c : Int} (ha : (Lit.int .i64 a).wf = true) (hb : (Lit.int .i64 b).wf = true) (hc : (Lit.int .i64 c).wf = true) :
    Try.prog.keyLits (m + 2) 26 [.int .i64 a, .int .i64 b, .int .i64 c] = some [.int .i64 a, .int .i64 b, .int .i64 c] := by
  unfold Program.keyLits
  simp only [Try.underlying26]
  rw [if_pos ⟨by rw [cells26]; rfl, by kernel_rfl⟩]
  simp [cells3, lits3 m ha, lits3 m hb, lits3 m hc]

theorem lits190 (m : Nat) {a b : Int} (ha : (Lit.int .i64 a).wf = true) (hb : (Lit.int .i64 b).wf = true) :
    Try.prog.keyLits (m + 2) 190 [.int .i64 a, .int .i64 b] = some [.int .i64 a, .int .i64 b] := by
  unfold Program.keyLits
  simp only [Try.underlying190]
  rw [if_pos (by rw [cells190]; rfl), show List.range 2 = [0, 1] from rfl]
  simp [cells3, lits3 m ha, lits3 m hb]

theorem key26 {a b c : Int} (ha : (Lit.int .i64 a).wf = true) (hb : (Lit.int .i64 b).wf = true) (hc : (Lit.int .i64 c).wf = true) :
    ∃ kl, keyOf Try.prog 26 (.agg #[.int .i64 a, .int .i64 b, .int .i64 c]) = some kl := by
  have h := lits26 226 ha hb hc
  have e : Try.prog.types.size + 1 = 226 + 2 := by rw [size_types]
  unfold keyOf
  simp only [Try.underlying26]
  rw [if_pos (by simp [keyType26, Value.formed, Try.underlying26, cells26]), e]
  exact ⟨_, by rw [show (Value.agg #[.int .i64 a, .int .i64 b, .int .i64 c]).cells.toList = [.int .i64 a, .int .i64 b, .int .i64 c] from rfl, h]; rfl⟩

theorem key190 {a b : Int} (ha : (Lit.int .i64 a).wf = true) (hb : (Lit.int .i64 b).wf = true) :
    ∃ kl, keyOf Try.prog 190 (.agg #[.int .i64 a, .int .i64 b]) = some kl := by
  have h := lits190 226 ha hb
  have e : Try.prog.types.size + 1 = 226 + 2 := by rw [size_types]
  unfold keyOf
  simp only [Try.underlying190]
  rw [if_pos (by simp [keyType190, Value.formed, Try.underlying190, cells190]), e]
  exact ⟨_, by rw [show (Value.agg #[.int .i64 a, .int .i64 b]).cells.toList = [.int .i64 a, .int .i64 b] from rfl, h]; rfl⟩

/-- What the maker's map knows. -/
def known (L : List T) (x : Value) (u : Int) : Prop := ∃ t ∈ L, x = triV (en L t) ∧ u = pl L t

/-- A MAKER in block mb, whose blocks lie in S, holds the nodes L. -/
def IsMaker (w : World) (mb : Nat) (S : Nat → Prop) (L : List T) : Prop :=
  ∃ sv kb n, w.heap[mb]? = some (.cells #[sv, .map (some kb)] 154 (0, 0)) ∧ w.ownsRow 0 26 3 sv L.length (cellsOf (enc L)) ∧
    mapIs w Try.prog 26 3 kb n (known L) ∧ n ≤ L.length ∧ S mb ∧ S kb ∧ ∀ k, sv.ownBlock = some k → S k

theorem IsMaker.mono_lt {w : World} {mb : Nat} {S R : Nat → Prop} {L : List T} (h : IsMaker w mb S L) (hs : ∀ k, k < w.heap.size → S k → R k) : IsMaker w mb R L := by
  obtain ⟨sv, kb, n, hmb, hown, hmap, hn, s1, s2, s3⟩ := h
  exact ⟨sv, kb, n, hmb, hown, hmap, hn, hs _ (Array.getElem?_eq_some_iff.1 hmb).1 s1, hs _ hmap.lt s2, fun k hk => hs _ (hown.lt k hk).2 (s3 k hk)⟩

/-- A value that is the set of a tree. -/
def IsD (w : World) (v : Value) (t : T) : Prop :=
  t.Ok ∧ ∃ sv, v = .agg #[sv, .int .i64 (pl (nodes t) t : Nat)] ∧ w.ownsRow 0 26 3 sv (nodes t).length (cellsOf (enc (nodes t)))

theorem IsD.below {w w' : World} {v : Value} {t : T} (h : IsD w v t) (hb : Below w.heap.size w w') : IsD w' v t := by
  obtain ⟨ok, sv, rfl, hr, hs⟩ := h
  refine ⟨ok, sv, rfl, hr, ?_⟩
  rcases hs with hh | ⟨g, cap, cur, rfl, h0, hg, r⟩
  · exact .inl hh
  · exact .inr ⟨g, cap, cur, rfl, h0, (hb.block g (Array.getElem?_eq_some_iff.1 hg).1).trans hg, r⟩

theorem IsD.kept {w w' : World} {v : Value} {t : T} {R : Nat → Prop} (h : IsD w v t) (hb : Kept R w w') (hd : ∀ k, k < w.heap.size → ¬ R k) : IsD w' v t :=
  h.below ⟨hb.os, hb.tape, hb.output, hb.size, fun k hk => hb.block k hk (hd k hk)⟩

/-- What a function that makes a set leaves. -/
def DPost (w : World) (t : T) (e : Ending) (w' : World) : Prop := ∃ v, e = .returned v ∧ IsD w' v t ∧ Below w.heap.size w w'

theorem wf_nat {n : Nat} (h : n < 9223372036854775808) : (Lit.int .i64 (n : Int)).wf = true := WalkArith.wf_i64 (by omega)

theorem IsMaker.of_kept {w w' : World} {mb : Nat} {S R : Nat → Prop} {L : List T} (h : IsMaker w mb S L) (hk : Kept R w w') (hd : ∀ k, k < w.heap.size → S k → ¬ R k) : IsMaker w' mb S L := by
  obtain ⟨sv, kb, n, hmb, hown, hmap, hn, s1, s2, s3⟩ := h
  have lt : mb < w.heap.size := (Array.getElem?_eq_some_iff.1 hmb).1
  refine ⟨sv, kb, n, (hk.block mb lt (hd mb lt s1)).trans hmb, ⟨hown.1, ?_⟩, hmap.kept hk (hd kb hmap.lt s2), hn, s1, s2, s3⟩
  rcases hown.2 with hh | ⟨g, cap, cur, rfl, hb, hg, r⟩
  · exact .inl hh
  · have hlt : g < w.heap.size := (Array.getElem?_eq_some_iff.1 hg).1
    exact .inr ⟨g, cap, cur, rfl, hb, (hk.block g hlt (hd g hlt (s3 g rfl))).trans hg, r⟩

theorem IsMaker.mono {w : World} {mb : Nat} {S R : Nat → Prop} {L : List T} (h : IsMaker w mb S L) (hs : ∀ k, S k → R k) : IsMaker w mb R L := by
  obtain ⟨sv, kb, n, hmb, hown, hmap, hn, s1, s2, s3⟩ := h
  exact ⟨sv, kb, n, hmb, hown, hmap, hn, hs _ s1, hs _ s2, fun k hk => hs _ (s3 k hk)⟩

end Go.Proofs.Ytefclohjeompkaa
