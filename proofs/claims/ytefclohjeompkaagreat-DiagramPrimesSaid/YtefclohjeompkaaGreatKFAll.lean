/- FAll: what is needed of it. -/
import Derived.Maps.OwnSet
import Derived.WalkKit
import Derived.Deep.QuietTactic
import Derived.Test.YtefclohjeompkaaGreatProg
import Derived.KernelRfl
import Derived.DeepKeys4
import Derived.Deep.RegionLaw
import Derived.StillTailTactics
import Derived.Maps.AppendAt
import Derived.WalkSpells
import Derived.WalkLawsBesides
import Derived.BigQuiet
import Derived.Lib.Hide
import Derived.Deep.DeepCutAuto
import Derived.Laws.EntriesVeiled
import Derived.Deep.RegionHeld3
import Derived.Laws.OwnMore
import Derived.Deep.Slices
import Derived.Test.YtefclohjeompkaaGreatKTreeC
import Derived.Test.YtefclohjeompkaaGreatKRep
import Derived.Test.YtefclohjeompkaaGreatKJoinD
import Derived.Test.YtefclohjeompkaaGreatKCmpA
import Derived.Test.YtefclohjeompkaaGreatKRefH
import Derived.Test.YtefclohjeompkaaGreatKOfB
import Derived.Test.YtefclohjeompkaaGreatKAlike
import Derived.Test.YtefclohjeompkaaGreatKBetA
namespace Go.Proofs.YtefclohjeompkaaGreat
open Go Go.RowKit Go.Proofs.Gen Go.Proofs.Bdd Go.Proofs.Bdd.T
/-- All of some functions hold; one of them. -/
def allF (fs : List F) : F := fun c => fs.all fun f => f c

def anyF (fs : List F) : F := fun c => fs.any fun f => f c

theorem allF_snoc (fs : List F) (f : F) (c : Nat → Bool) : allF (fs ++ [f]) c = (allF fs c && f c) := by simp [allF]

theorem anyF_snoc (fs : List F) (f : F) (c : Nat → Bool) : anyF (fs ++ [f]) c = (anyF fs c || f c) := by simp [anyF]

theorem true_f (w : World) : Calls Tryz.prog 49 #[] w (FPost w (fun _ => true)) :=
  (true_calls w).mono fun _ _ ⟨v, h1, h2, h3⟩ => ⟨v, h1, ⟨_, h2, fun _ => rfl⟩, Near.of_below h3⟩

theorem false_f (w : World) : Calls Tryz.prog 60 #[] w (FPost w (fun _ => false)) :=
  (false_calls w).mono fun _ _ ⟨v, h1, h2, h3⟩ => ⟨v, h1, ⟨_, h2, fun _ => rfl⟩, Near.of_below h3⟩

theorem IsF.keptOf {w w' : World} {v : Value} {f : F} {b : Nat} {cs : Array Value} {fr : Nat × Nat} (h : IsF w v f) (hk : Kept (fun k => k = b) w w') (hb : w.heap[b]? = some (.cells cs 34 fr)) : IsF w' v f :=
  h.only ⟨_, hk, fun k _ e => ⟨cs, fr, by rw [e]; exact hb⟩⟩ (by decide)

set_option maxRecDepth 100000 in
set_option maxHeartbeats 800000 in
theorem andall_f {b : Nat} {w : World} {x : Value} {fs : List F} (h : Sets 34 IsF b w x fs) (hl : fs.length < 1099511627776) : Calls Tryz.prog 58 #[x] w (FPost w (allF fs)) := by
  have HS := Lib.hid h
  obtain ⟨ao, cap, rfl⟩ := h.form
  clear h
  go_enter Tryz.func58, Tryz.ntmps58
  go_wp2_with (first
    | (go_at_call 49; refine (true_f _).mono ?_; rintro e w1 ⟨v1, rfl, d1, b1⟩; obtain ⟨a1, a2, a3, a4, rfl⟩ := d1.form; have D1 := Lib.hid d1; have B1 := Lib.hid b1; clear d1 b1))
  have hN : Near w (w1.alloc (Obj.cells #[Value.slice a1 a2 a3, Value.int IntKind.i64 a4] 34)) := (((Near.refl w).alloc _).trans B1.out).alloc _
  have hE : (w1.alloc (Obj.cells #[Value.slice a1 a2 a3, Value.int IntKind.i64 a4] 34)).heap[w1.heap.size]? = some (.cells #[.slice a1 a2 a3, .int .i64 a4] 34 (0, 0)) := heap_new_at rfl
  have hR : (w1.alloc (Obj.cells #[Value.slice a1 a2 a3, Value.int IntKind.i64 a4] 34)).heap[w.heap.size]? = some (.cells #[.slice none 0 0, .int .i64 0] 34 (0, 0)) := keepN (B1.out.alloc _) (heap_new_at rfl)
  have hD : IsF (w1.alloc (Obj.cells #[Value.slice a1 a2 a3, Value.int IntKind.i64 a4] 34)) (.agg #[.slice a1 a2 a3, .int .i64 a4]) (allF (fs.take 0)) := (D1.out.near ((Near.refl _).alloc _)).congr fun c => rfl
  have hsz : w.heap.size < w1.heap.size := by
    have := B1.out.size'
    simp at this
    omega
  generalize (w1.alloc (Obj.cells #[Value.slice a1 a2 a3, Value.int IntKind.i64 a4] 34)) = W at hN hE hR hD ⊢
  have HN := Lib.hid hN
  have HE := Lib.hid hE
  have HR := Lib.hid hR
  have HD := Lib.hid hD
  have hWl : w1.heap.size < W.heap.size := (Array.getElem?_eq_some_iff.1 hE).1
  clear hN hE hR hD
  go_loopw [9] (fun i wr => ∃ (k : Nat) (u1 : Option Addr) (u2 u3 : Nat) (u4 : Int), k ≤ fs.length ∧ i = .int .i64 k ∧ wr.heap[w1.heap.size]? = some (.cells #[.slice u1 u2 u3, .int .i64 u4] 34 (0, 0)) ∧ IsF wr (.agg #[.slice u1 u2 u3, .int .i64 u4]) (allF (fs.take k)) ∧ Kept (fun j => j = w1.heap.size) W wr) (fun i _ => fs.length - (intOf i).toNat)
  case atStart => exact ⟨0, a1, a2, a3, a4, Nat.zero_le _, rfl, HE.out, HD.out, Kept.refl _ _⟩
  case round =>
    obtain ⟨k, u1, u2, u3, u4, hk, rfl, he, hd, hkp⟩ := hrel
    have HC := Lib.hid he
    have HF := Lib.hid hd
    have HK := Lib.hid hkp
    have hRr := Lib.hid ((hkp.block w.heap.size (by omega) (by omega)).trans HR.out)
    have hwr := hkp.size
    clear he hd hkp
    by_cases hlt : k < fs.length
    · have hlt' : (k : Int) < fs.length := by omega
      have hfk : fs[k]? = some fs[k] := List.getElem?_eq_getElem hlt
      obtain ⟨g, xc, p, q, hx, -, hgl, z0, z1, hi⟩ := HS.out.get hfk
      simp only [Value.slice.injEq, true_and] at hx
      obtain ⟨rfl, rfl⟩ := hx
      obtain ⟨p1, p2, p3, p4, hpe⟩ := hi.form
      simp only [Value.agg.injEq, Array.mk.injEq, List.cons.injEq, and_true] at hpe
      obtain ⟨rfl, rfl⟩ := hpe
      have y0 := HK.out.cell (HN.out.cell z0) (by omega)
      have y1 := HK.out.cell (HN.out.cell z1) (by omega)
      have hik : IsF wr (.agg #[.slice p1 p2 p3, .int .i64 p4]) fs[k] := (hi.near HN.out).keptOf HK.out HE.out
      have hts : ∀ c, (allF (fs.take k) c && fs[k] c) = allF (fs.take (k + 1)) c := fun c => by
        rw [List.take_succ_eq_append_getElem hlt, allF_snoc]
      have HI := Lib.hid hik
      have HTS := Lib.hid hts
      clear hi z0 z1 hik hts hfk
      have HA := Lib.hid (keepN ((Near.refl wr).alloc (.cells #[.slice p1 p2 p3, .int .i64 p4] 34)) HC.out)
      have q0 := cell1 (o := 0) HA.out rfl
      have q1 := cell1 (o := 1) HA.out rfl
      go_wp2_with (first
        | (go_at_call 13; refine (and_f (HF.out.near ((Near.refl wr).alloc _)) (HI.out.near ((Near.refl wr).alloc _))).mono ?_; rintro e w2 ⟨v2, rfl, d2, b2⟩; obtain ⟨c1, c2, c3, c4, rfl⟩ := d2.form; have D2 := Lib.hid d2; have B2 := Lib.hid b2; have HC2 := Lib.hid (keepN b2 HA.out); have r0 := cell1 (o := 0) HC2.out rfl; have r1 := cell1 (o := 1) HC2.out rfl; have f0 := free1 HC2.out 0; have f1 := free1 HC2.out 1; clear d2 b2))
      exact ⟨⟨k + 1, c1, c2, c3, c4, by omega, by go_num, stored31 HC2.out, (isF_store D2.out HC2.out).congr HTS.out, (((HK.out.alloc _).trans B2.out.kept).setCell (fun _ => rfl) _).setCell (fun _ => rfl) _⟩, by simp [intOf]; omega⟩
    · have hkl : k = fs.length := by omega
      subst hkl
      have q0 := cell1 (o := 0) HC.out rfl
      have q1 := cell1 (o := 1) HC.out rfl
      have r0 := cell1 (o := 0) hRr.out rfl
      have r1 := cell1 (o := 1) hRr.out rfl
      have f0 := free1 hRr.out 0
      have f1 := free1 hRr.out 1
      go_wp2_with fail
      have hnw : Near w wr := Kept.mono (HN.out.kept.trans HK.out) (fun j hj e => by omega)
      refine bodyPost_ret (v := .agg #[.slice u1 u2 u3, .int .i64 u4]) (by simp [results, Tryz.results58, go_sem, r0, r1]) rfl ⟨_, rfl, ?_, (hnw.set (by show w.heap.size ≤ w.heap.size; omega) _).set (by show w.heap.size ≤ w.heap.size; omega) _⟩
      have := isF_store HF.out hRr.out
      rw [List.take_length] at this
      exact this

set_option maxRecDepth 100000 in
set_option maxHeartbeats 800000 in
theorem orall_f {b : Nat} {w : World} {x : Value} {fs : List F} (h : Sets 34 IsF b w x fs) (hl : fs.length < 1099511627776) : Calls Tryz.prog 59 #[x] w (FPost w (anyF fs)) := by
  have HS := Lib.hid h
  obtain ⟨ao, cap, rfl⟩ := h.form
  clear h
  go_enter Tryz.func59, Tryz.ntmps59
  go_wp2_with (first
    | (go_at_call 60; refine (false_f _).mono ?_; rintro e w1 ⟨v1, rfl, d1, b1⟩; obtain ⟨a1, a2, a3, a4, rfl⟩ := d1.form; have D1 := Lib.hid d1; have B1 := Lib.hid b1; clear d1 b1))
  have hN : Near w (w1.alloc (Obj.cells #[Value.slice a1 a2 a3, Value.int IntKind.i64 a4] 34)) := (((Near.refl w).alloc _).trans B1.out).alloc _
  have hE : (w1.alloc (Obj.cells #[Value.slice a1 a2 a3, Value.int IntKind.i64 a4] 34)).heap[w1.heap.size]? = some (.cells #[.slice a1 a2 a3, .int .i64 a4] 34 (0, 0)) := heap_new_at rfl
  have hR : (w1.alloc (Obj.cells #[Value.slice a1 a2 a3, Value.int IntKind.i64 a4] 34)).heap[w.heap.size]? = some (.cells #[.slice none 0 0, .int .i64 0] 34 (0, 0)) := keepN (B1.out.alloc _) (heap_new_at rfl)
  have hD : IsF (w1.alloc (Obj.cells #[Value.slice a1 a2 a3, Value.int IntKind.i64 a4] 34)) (.agg #[.slice a1 a2 a3, .int .i64 a4]) (anyF (fs.take 0)) := (D1.out.near ((Near.refl _).alloc _)).congr fun c => rfl
  have hsz : w.heap.size < w1.heap.size := by
    have := B1.out.size'
    simp at this
    omega
  generalize (w1.alloc (Obj.cells #[Value.slice a1 a2 a3, Value.int IntKind.i64 a4] 34)) = W at hN hE hR hD ⊢
  have HN := Lib.hid hN
  have HE := Lib.hid hE
  have HR := Lib.hid hR
  have HD := Lib.hid hD
  have hWl : w1.heap.size < W.heap.size := (Array.getElem?_eq_some_iff.1 hE).1
  clear hN hE hR hD
  go_loopw [9] (fun i wr => ∃ (k : Nat) (u1 : Option Addr) (u2 u3 : Nat) (u4 : Int), k ≤ fs.length ∧ i = .int .i64 k ∧ wr.heap[w1.heap.size]? = some (.cells #[.slice u1 u2 u3, .int .i64 u4] 34 (0, 0)) ∧ IsF wr (.agg #[.slice u1 u2 u3, .int .i64 u4]) (anyF (fs.take k)) ∧ Kept (fun j => j = w1.heap.size) W wr) (fun i _ => fs.length - (intOf i).toNat)
  case atStart => exact ⟨0, a1, a2, a3, a4, Nat.zero_le _, rfl, HE.out, HD.out, Kept.refl _ _⟩
  case round =>
    obtain ⟨k, u1, u2, u3, u4, hk, rfl, he, hd, hkp⟩ := hrel
    have HC := Lib.hid he
    have HF := Lib.hid hd
    have HK := Lib.hid hkp
    have hRr := Lib.hid ((hkp.block w.heap.size (by omega) (by omega)).trans HR.out)
    have hwr := hkp.size
    clear he hd hkp
    by_cases hlt : k < fs.length
    · have hlt' : (k : Int) < fs.length := by omega
      have hfk : fs[k]? = some fs[k] := List.getElem?_eq_getElem hlt
      obtain ⟨g, xc, p, q, hx, -, hgl, z0, z1, hi⟩ := HS.out.get hfk
      simp only [Value.slice.injEq, true_and] at hx
      obtain ⟨rfl, rfl⟩ := hx
      obtain ⟨p1, p2, p3, p4, hpe⟩ := hi.form
      simp only [Value.agg.injEq, Array.mk.injEq, List.cons.injEq, and_true] at hpe
      obtain ⟨rfl, rfl⟩ := hpe
      have y0 := HK.out.cell (HN.out.cell z0) (by omega)
      have y1 := HK.out.cell (HN.out.cell z1) (by omega)
      have hik : IsF wr (.agg #[.slice p1 p2 p3, .int .i64 p4]) fs[k] := (hi.near HN.out).keptOf HK.out HE.out
      have hts : ∀ c, (anyF (fs.take k) c || fs[k] c) = anyF (fs.take (k + 1)) c := fun c => by
        rw [List.take_succ_eq_append_getElem hlt, anyF_snoc]
      have HI := Lib.hid hik
      have HTS := Lib.hid hts
      clear hi z0 z1 hik hts hfk
      have HA := Lib.hid (keepN ((Near.refl wr).alloc (.cells #[.slice p1 p2 p3, .int .i64 p4] 34)) HC.out)
      have q0 := cell1 (o := 0) HA.out rfl
      have q1 := cell1 (o := 1) HA.out rfl
      go_wp2_with (first
        | (go_at_call 14; refine (or_f (HF.out.near ((Near.refl wr).alloc _)) (HI.out.near ((Near.refl wr).alloc _))).mono ?_; rintro e w2 ⟨v2, rfl, d2, b2⟩; obtain ⟨c1, c2, c3, c4, rfl⟩ := d2.form; have D2 := Lib.hid d2; have B2 := Lib.hid b2; have HC2 := Lib.hid (keepN b2 HA.out); have r0 := cell1 (o := 0) HC2.out rfl; have r1 := cell1 (o := 1) HC2.out rfl; have f0 := free1 HC2.out 0; have f1 := free1 HC2.out 1; clear d2 b2))
      exact ⟨⟨k + 1, c1, c2, c3, c4, by omega, by go_num, stored31 HC2.out, (isF_store D2.out HC2.out).congr HTS.out, (((HK.out.alloc _).trans B2.out.kept).setCell (fun _ => rfl) _).setCell (fun _ => rfl) _⟩, by simp [intOf]; omega⟩
    · have hkl : k = fs.length := by omega
      subst hkl
      have q0 := cell1 (o := 0) HC.out rfl
      have q1 := cell1 (o := 1) HC.out rfl
      have r0 := cell1 (o := 0) hRr.out rfl
      have r1 := cell1 (o := 1) hRr.out rfl
      have f0 := free1 hRr.out 0
      have f1 := free1 hRr.out 1
      go_wp2_with fail
      have hnw : Near w wr := Kept.mono (HN.out.kept.trans HK.out) (fun j hj e => by omega)
      refine bodyPost_ret (v := .agg #[.slice u1 u2 u3, .int .i64 u4]) (by simp [results, Tryz.results59, go_sem, r0, r1]) rfl ⟨_, rfl, ?_, (hnw.set (by show w.heap.size ≤ w.heap.size; omega) _).set (by show w.heap.size ≤ w.heap.size; omega) _⟩
      have := isF_store HF.out hRr.out
      rw [List.take_length] at this
      exact this

end Go.Proofs.YtefclohjeompkaaGreat
