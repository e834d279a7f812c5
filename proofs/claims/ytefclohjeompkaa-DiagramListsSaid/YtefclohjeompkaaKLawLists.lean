/- Parts of a proof: TakesC, ListC, ListD, ListE, ListF, ListG, LawLists. -/
import Derived.RangeFuncWrites
import Derived.Sort.CutIn
import Derived.Test.YtefclohjeompkaaKSaidB
import Derived.Test.YtefclohjeompkaaKListB
import Derived.Test.YtefclohjeompkaaKEachB
import Derived.Test.YtefclohjeompkaaKLawCounts
/- One operation that alone may come up, by number, where nothing is held; over any program (printed by gen_listc.py). -/
namespace Go.Proofs.Ytefclohjeompkaa
open Go Go.RowKit Go.Shelf Go.Proofs.Gen

section
variable {P : Program} {Q : Exit → Act → World → Prop} {md : Region.Mode} {S : World → Prop} {z fuel : Nat} {listed : Array Bool} {a : Act} {w : World} {v : Value} {oi : Oper} {r : List Oper}

theorem wpAny_one {ops : Array Oper} {i : Nat} {o : Oper} (hr : Region.ready md ops listed = [i]) (ho : ops[i]? = some o)
    (h : ∀ K' : Act → World → Prop, Shut (∀ a w, wpAny P md ops Q fuel (listed.setIfInBounds i true) a w → K' a w) → if Region.wanted o (yielded ops a.tmps) = true then Oper.wp P o a w K' Q else K' (a.put o.dst undef) w) :
    wpAny P md ops Q (fuel + 1) listed a w := by
  refine ⟨fun h => absurd h (by rw [hr]; simp), fun j hj => ?_⟩
  rw [hr] at hj
  cases List.mem_singleton.1 hj
  exact wpOp_step ho (fun K' hK => h K' (fun a w hW => hK a w hW))
theorem wpAny_done {ops : Array Oper} (hr : Region.ready md ops listed = []) (h : Q .normal a w) : wpAny P md ops Q 0 listed a w := ⟨hr, h⟩

theorem oneA0 (hr : Region.ready md (List.toArray (oi :: r)) listed = [0])
    (h : ∀ K' : Act → World → Prop, Shut (∀ a w, wpAny P md (List.toArray (oi :: r)) Q fuel (listed.setIfInBounds 0 true) a w → K' a w) → if Region.wanted oi (yielded (List.toArray (oi :: r)) a.tmps) = true then Oper.wp P oi a w K' Q else K' (a.put oi.dst undef) w) :
    wpAny P md (List.toArray (oi :: r)) Q (fuel + 1) listed a w :=
  wpAny_one hr rfl h
theorem oneA2 {x0 x1 : Oper} (hr : Region.ready md (List.toArray (x0 :: x1 :: oi :: r)) listed = [2])
    (h : ∀ K' : Act → World → Prop, Shut (∀ a w, wpAny P md (List.toArray (x0 :: x1 :: oi :: r)) Q fuel (listed.setIfInBounds 2 true) a w → K' a w) → if Region.wanted oi (yielded (List.toArray (x0 :: x1 :: oi :: r)) a.tmps) = true then Oper.wp P oi a w K' Q else K' (a.put oi.dst undef) w) :
    wpAny P md (List.toArray (x0 :: x1 :: oi :: r)) Q (fuel + 1) listed a w :=
  wpAny_one hr rfl h
theorem oneA7 {x0 x1 x2 x3 x4 x5 x6 : Oper} (hr : Region.ready md (List.toArray (x0 :: x1 :: x2 :: x3 :: x4 :: x5 :: x6 :: oi :: r)) listed = [7])
    (h : ∀ K' : Act → World → Prop, Shut (∀ a w, wpAny P md (List.toArray (x0 :: x1 :: x2 :: x3 :: x4 :: x5 :: x6 :: oi :: r)) Q fuel (listed.setIfInBounds 7 true) a w → K' a w) → if Region.wanted oi (yielded (List.toArray (x0 :: x1 :: x2 :: x3 :: x4 :: x5 :: x6 :: oi :: r)) a.tmps) = true then Oper.wp P oi a w K' Q else K' (a.put oi.dst undef) w) :
    wpAny P md (List.toArray (x0 :: x1 :: x2 :: x3 :: x4 :: x5 :: x6 :: oi :: r)) Q (fuel + 1) listed a w :=
  wpAny_one hr rfl h
theorem oneA8 {x0 x1 x2 x3 x4 x5 x6 x7 : Oper} (hr : Region.ready md (List.toArray (x0 :: x1 :: x2 :: x3 :: x4 :: x5 :: x6 :: x7 :: oi :: r)) listed = [8])
    (h : ∀ K' : Act → World → Prop, Shut (∀ a w, wpAny P md (List.toArray (x0 :: x1 :: x2 :: x3 :: x4 :: x5 :: x6 :: x7 :: oi :: r)) Q fuel (listed.setIfInBounds 8 true) a w → K' a w) → if Region.wanted oi (yielded (List.toArray (x0 :: x1 :: x2 :: x3 :: x4 :: x5 :: x6 :: x7 :: oi :: r)) a.tmps) = true then Oper.wp P oi a w K' Q else K' (a.put oi.dst undef) w) :
    wpAny P md (List.toArray (x0 :: x1 :: x2 :: x3 :: x4 :: x5 :: x6 :: x7 :: oi :: r)) Q (fuel + 1) listed a w :=
  wpAny_one hr rfl h
theorem oneA9 {x0 x1 x2 x3 x4 x5 x6 x7 x8 : Oper} (hr : Region.ready md (List.toArray (x0 :: x1 :: x2 :: x3 :: x4 :: x5 :: x6 :: x7 :: x8 :: oi :: r)) listed = [9])
    (h : ∀ K' : Act → World → Prop, Shut (∀ a w, wpAny P md (List.toArray (x0 :: x1 :: x2 :: x3 :: x4 :: x5 :: x6 :: x7 :: x8 :: oi :: r)) Q fuel (listed.setIfInBounds 9 true) a w → K' a w) → if Region.wanted oi (yielded (List.toArray (x0 :: x1 :: x2 :: x3 :: x4 :: x5 :: x6 :: x7 :: x8 :: oi :: r)) a.tmps) = true then Oper.wp P oi a w K' Q else K' (a.put oi.dst undef) w) :
    wpAny P md (List.toArray (x0 :: x1 :: x2 :: x3 :: x4 :: x5 :: x6 :: x7 :: x8 :: oi :: r)) Q (fuel + 1) listed a w :=
  wpAny_one hr rfl h
theorem oneA11 {x0 x1 x2 x3 x4 x5 x6 x7 x8 x9 x10 : Oper} (hr : Region.ready md (List.toArray (x0 :: x1 :: x2 :: x3 :: x4 :: x5 :: x6 :: x7 :: x8 :: x9 :: x10 :: oi :: r)) listed = [11])
    (h : ∀ K' : Act → World → Prop, Shut (∀ a w, wpAny P md (List.toArray (x0 :: x1 :: x2 :: x3 :: x4 :: x5 :: x6 :: x7 :: x8 :: x9 :: x10 :: oi :: r)) Q fuel (listed.setIfInBounds 11 true) a w → K' a w) → if Region.wanted oi (yielded (List.toArray (x0 :: x1 :: x2 :: x3 :: x4 :: x5 :: x6 :: x7 :: x8 :: x9 :: x10 :: oi :: r)) a.tmps) = true then Oper.wp P oi a w K' Q else K' (a.put oi.dst undef) w) :
    wpAny P md (List.toArray (x0 :: x1 :: x2 :: x3 :: x4 :: x5 :: x6 :: x7 :: x8 :: x9 :: x10 :: oi :: r)) Q (fuel + 1) listed a w :=
  wpAny_one hr rfl h
theorem oneA19 {x0 x1 x2 x3 x4 x5 x6 x7 x8 x9 x10 x11 x12 x13 x14 x15 x16 x17 x18 : Oper} (hr : Region.ready md (List.toArray (x0 :: x1 :: x2 :: x3 :: x4 :: x5 :: x6 :: x7 :: x8 :: x9 :: x10 :: x11 :: x12 :: x13 :: x14 :: x15 :: x16 :: x17 :: x18 :: oi :: r)) listed = [19])
    (h : ∀ K' : Act → World → Prop, Shut (∀ a w, wpAny P md (List.toArray (x0 :: x1 :: x2 :: x3 :: x4 :: x5 :: x6 :: x7 :: x8 :: x9 :: x10 :: x11 :: x12 :: x13 :: x14 :: x15 :: x16 :: x17 :: x18 :: oi :: r)) Q fuel (listed.setIfInBounds 19 true) a w → K' a w) → if Region.wanted oi (yielded (List.toArray (x0 :: x1 :: x2 :: x3 :: x4 :: x5 :: x6 :: x7 :: x8 :: x9 :: x10 :: x11 :: x12 :: x13 :: x14 :: x15 :: x16 :: x17 :: x18 :: oi :: r)) a.tmps) = true then Oper.wp P oi a w K' Q else K' (a.put oi.dst undef) w) :
    wpAny P md (List.toArray (x0 :: x1 :: x2 :: x3 :: x4 :: x5 :: x6 :: x7 :: x8 :: x9 :: x10 :: x11 :: x12 :: x13 :: x14 :: x15 :: x16 :: x17 :: x18 :: oi :: r)) Q (fuel + 1) listed a w :=
  wpAny_one hr rfl h
theorem oneA20 {x0 x1 x2 x3 x4 x5 x6 x7 x8 x9 x10 x11 x12 x13 x14 x15 x16 x17 x18 x19 : Oper} (hr : Region.ready md (List.toArray (x0 :: x1 :: x2 :: x3 :: x4 :: x5 :: x6 :: x7 :: x8 :: x9 :: x10 :: x11 :: x12 :: x13 :: x14 :: x15 :: x16 :: x17 :: x18 :: x19 :: oi :: r)) listed = [20])
    (h : ∀ K' : Act → World → Prop, Shut (∀ a w, wpAny P md (List.toArray (x0 :: x1 :: x2 :: x3 :: x4 :: x5 :: x6 :: x7 :: x8 :: x9 :: x10 :: x11 :: x12 :: x13 :: x14 :: x15 :: x16 :: x17 :: x18 :: x19 :: oi :: r)) Q fuel (listed.setIfInBounds 20 true) a w → K' a w) → if Region.wanted oi (yielded (List.toArray (x0 :: x1 :: x2 :: x3 :: x4 :: x5 :: x6 :: x7 :: x8 :: x9 :: x10 :: x11 :: x12 :: x13 :: x14 :: x15 :: x16 :: x17 :: x18 :: x19 :: oi :: r)) a.tmps) = true then Oper.wp P oi a w K' Q else K' (a.put oi.dst undef) w) :
    wpAny P md (List.toArray (x0 :: x1 :: x2 :: x3 :: x4 :: x5 :: x6 :: x7 :: x8 :: x9 :: x10 :: x11 :: x12 :: x13 :: x14 :: x15 :: x16 :: x17 :: x18 :: x19 :: oi :: r)) Q (fuel + 1) listed a w :=
  wpAny_one hr rfl h
theorem oneA21 {x0 x1 x2 x3 x4 x5 x6 x7 x8 x9 x10 x11 x12 x13 x14 x15 x16 x17 x18 x19 x20 : Oper} (hr : Region.ready md (List.toArray (x0 :: x1 :: x2 :: x3 :: x4 :: x5 :: x6 :: x7 :: x8 :: x9 :: x10 :: x11 :: x12 :: x13 :: x14 :: x15 :: x16 :: x17 :: x18 :: x19 :: x20 :: oi :: r)) listed = [21])
    (h : ∀ K' : Act → World → Prop, Shut (∀ a w, wpAny P md (List.toArray (x0 :: x1 :: x2 :: x3 :: x4 :: x5 :: x6 :: x7 :: x8 :: x9 :: x10 :: x11 :: x12 :: x13 :: x14 :: x15 :: x16 :: x17 :: x18 :: x19 :: x20 :: oi :: r)) Q fuel (listed.setIfInBounds 21 true) a w → K' a w) → if Region.wanted oi (yielded (List.toArray (x0 :: x1 :: x2 :: x3 :: x4 :: x5 :: x6 :: x7 :: x8 :: x9 :: x10 :: x11 :: x12 :: x13 :: x14 :: x15 :: x16 :: x17 :: x18 :: x19 :: x20 :: oi :: r)) a.tmps) = true then Oper.wp P oi a w K' Q else K' (a.put oi.dst undef) w) :
    wpAny P md (List.toArray (x0 :: x1 :: x2 :: x3 :: x4 :: x5 :: x6 :: x7 :: x8 :: x9 :: x10 :: x11 :: x12 :: x13 :: x14 :: x15 :: x16 :: x17 :: x18 :: x19 :: x20 :: oi :: r)) Q (fuel + 1) listed a w :=
  wpAny_one hr rfl h
theorem consH14 {x0 x1 x2 x3 x4 x5 x6 x7 x8 x9 x10 x11 x12 x13 : Oper} {rs : List Nat}
    (h : ∀ K' : Act → World → Prop, Shut (∀ a w, S w → (S w → wpAnyH P md (List.toArray (x0 :: x1 :: x2 :: x3 :: x4 :: x5 :: x6 :: x7 :: x8 :: x9 :: x10 :: x11 :: x12 :: x13 :: oi :: r)) Q S fuel (listed.setIfInBounds 14 true) a w) → K' a w) → if Region.wanted oi (yielded (List.toArray (x0 :: x1 :: x2 :: x3 :: x4 :: x5 :: x6 :: x7 :: x8 :: x9 :: x10 :: x11 :: x12 :: x13 :: oi :: r)) a.tmps) = true then Oper.wp P oi a w K' Q else K' (a.put oi.dst undef) w)
    (hs : AllReadyH P md (List.toArray (x0 :: x1 :: x2 :: x3 :: x4 :: x5 :: x6 :: x7 :: x8 :: x9 :: x10 :: x11 :: x12 :: x13 :: oi :: r)) Q S fuel listed a w rs) : AllReadyH P md (List.toArray (x0 :: x1 :: x2 :: x3 :: x4 :: x5 :: x6 :: x7 :: x8 :: x9 :: x10 :: x11 :: x12 :: x13 :: oi :: r)) Q S fuel listed a w (14 :: rs) :=
  AllReadyH.cons rfl h hs
theorem takeA20 {x0 x1 x2 x3 x4 x5 x6 x7 x8 x9 x10 x11 x12 x13 x14 x15 x16 x17 x18 x19 : Oper} (hs : Region.noSelect (List.toArray (x0 :: x1 :: x2 :: x3 :: x4 :: x5 :: x6 :: x7 :: x8 :: x9 :: x10 :: x11 :: x12 :: x13 :: x14 :: x15 :: x16 :: x17 :: x18 :: x19 :: oi :: r)) = true) (hf : Region.free md (List.toArray (x0 :: x1 :: x2 :: x3 :: x4 :: x5 :: x6 :: x7 :: x8 :: x9 :: x10 :: x11 :: x12 :: x13 :: x14 :: x15 :: x16 :: x17 :: x18 :: x19 :: oi :: r)) listed 20 = true) (hr : (Region.ready md (List.toArray (x0 :: x1 :: x2 :: x3 :: x4 :: x5 :: x6 :: x7 :: x8 :: x9 :: x10 :: x11 :: x12 :: x13 :: x14 :: x15 :: x16 :: x17 :: x18 :: x19 :: oi :: r)) listed).contains 20 = true)
    (hQ : ∀ c a w, Q (.panic c) (a.put oi.dst v) w → Q (.panic c) a w) (hy : Yields P (List.toArray (x0 :: x1 :: x2 :: x3 :: x4 :: x5 :: x6 :: x7 :: x8 :: x9 :: x10 :: x11 :: x12 :: x13 :: x14 :: x15 :: x16 :: x17 :: x18 :: x19 :: oi :: r)) oi v a)
    (h : wpAny P md (List.toArray (x0 :: x1 :: x2 :: x3 :: x4 :: x5 :: x6 :: x7 :: x8 :: x9 :: x10 :: x11 :: x12 :: x13 :: x14 :: x15 :: x16 :: x17 :: x18 :: x19 :: oi :: r)) Q fuel (listed.setIfInBounds 20 true) (a.put oi.dst v) w) : wpAny P md (List.toArray (x0 :: x1 :: x2 :: x3 :: x4 :: x5 :: x6 :: x7 :: x8 :: x9 :: x10 :: x11 :: x12 :: x13 :: x14 :: x15 :: x16 :: x17 :: x18 :: x19 :: oi :: r)) Q (fuel + 1) listed a w :=
  wpAny_take (i := 20) rfl hs hf hr hQ hy h
end

end Go.Proofs.Ytefclohjeompkaa

/- The program's walk over the configurations (printed by gen_listc.py). -/
namespace Go.Proofs.Ytefclohjeompkaa
open Go Go.RowKit Go.Shelf Go.Proofs.Gen Go.Proofs.Bdd Go.Proofs.Bdd.T
attribute [local go_sem] Oper.semAt_some

theorem empty_is {w : World} {v : Value} {f : F} {b : Bool} (h : IsF w v f) (hb : nowhere f = b) : Calls Try.prog 35 #[v] w fun e w' => e = .returned (.bool b) ∧ Near w w' := hb ▸ empty_f h

set_option maxRecDepth 100000 in
set_option maxHeartbeats 1600000 in
theorem walk_none {w : World} {v : Value} {f : F} (h : IsF w v f) (hn : nowhere f = true) (i : Int) (c : Nat) (y : Value) :
    Calls Try.prog 96 #[v, .int .i64 i, .int .u32 c, y] w fun e w' => e = .returned (.bool true) ∧ Near w w' := by
  have HF := Lib.hid h
  obtain ⟨a1, a2, a3, a4, rfl⟩ := h.form
  have hN : Near w (w.alloc (.cells #[.slice a1 a2 a3, .int .i64 a4] 31)) := (Near.refl w).alloc _
  have HE := Lib.hid (empty_is (HF.out.near hN) hn)
  have HN := Lib.hid hN
  clear h hn hN
  go_enter Try.func96, Try.ntmps96
  go_wp2_with (go_at_call 35; refine HE.out.mono ?_; rintro e w1 ⟨rfl, n1⟩)
  exact bodyPost_ret (v := .bool true) (by simp [results, Try.results96, go_sem]) rfl ⟨rfl, HN.out.trans n1⟩

set_option maxRecDepth 100000 in
set_option maxHeartbeats 1600000 in
theorem walk_leaf {l n : Nat} (hn1 : 1 ≤ n) {R : Ending → World → Prop} {w : World} {v : Value} {f : F} (h : IsF w v f) (hn : nowhere f = false) (c : Nat)
    (hY : ∀ w1, Near w w1 → YieldAt Fence.wide (n - 1) Try.prog l #[uv c] w1 fun e w' => ∃ r : Bool, e = .returned (.bool r) ∧ R e w') :
    Calls Try.prog 96 #[v, .int .i64 (-1), .int .u32 c, .func (.yield l) #[] #[]] w R := by
  have HF := Lib.hid h
  obtain ⟨a1, a2, a3, a4, rfl⟩ := h.form
  have hN : Near w (w.alloc (.cells #[.slice a1 a2 a3, .int .i64 a4] 31)) := (Near.refl w).alloc _
  have HE := Lib.hid (empty_is (HF.out.near hN) hn)
  have HN := Lib.hid hN
  have HY := Lib.hid hY
  clear h hn hN hY
  refine (callsIn_wide (n := n)).1 ?_
  refine callsIn_of_wp Try.func96 rfl trivial ?_ rfl
  simp only [Try.ntmps96, List.size_toArray, List.length_cons, List.length_nil, Nat.reduceAdd, Nat.reduceSub, Array.replicate_succ, Array.replicate_zero, List.push_toArray, List.append_toArray, List.nil_append, List.cons_append]
  gi_wp2_with (refine ⟨trivial, ?_⟩; gi_at_call 35; refine (callsIn_wide.2 HE.out).mono ?_; rintro e w1 ⟨rfl, n1⟩; obtain ⟨fn, tmps, assign, body, hy, hR⟩ := HY.out w1 (HN.out.trans n1); simp only [uv] at hy)
  refine hR.mono ?_
  rintro e w3 ⟨r, rfl, hr⟩
  gi_wp2
  exact hr

set_option maxRecDepth 100000 in
set_option maxHeartbeats 3200000 in
theorem walk_step {w : World} {v : Value} {f : F} (h : IsF w v f) (hn : nowhere f = false) {k : Nat} (hk : k < 24) {c : Nat} (hc : c < 16777216) (y : Value) {P1 P2 : Bool → World → Prop}
    (h1 : ∀ v1 w1, Near w w1 → IsF w1 v1 (fun d => f (updI d k false)) → Calls Try.prog 96 #[v1, .int .i64 ((k : Int) - 1), .int .u32 c, y] w1 fun e w' => ∃ r, e = .returned (.bool r) ∧ (r = true → KeepD w1 w') ∧ P1 r w')
    (h2 : ∀ v2 w1 w2, P1 true w1 → Near w1 w2 → IsF w2 v2 (fun d => f (updI d k true)) → Calls Try.prog 96 #[v2, .int .i64 ((k : Int) - 1), .int .u32 ((c ||| 2 ^ k : Nat) : Int), y] w2 fun e w' => ∃ r, e = .returned (.bool r) ∧ P2 r w') :
    Calls Try.prog 96 #[v, .int .i64 k, .int .u32 c, y] w fun e w' => (∃ w1, P1 false w1 ∧ Near w1 w' ∧ e = .returned (.bool false)) ∨ (∃ r w2, P2 r w2 ∧ Near w2 w' ∧ e = .returned (.bool r)) := by
  have HF := Lib.hid h
  obtain ⟨u1, u2, u3, u4, rfl⟩ := h.form
  have hN : Near w (w.alloc (.cells #[.slice u1 u2 u3, .int .i64 u4] 31)) := (Near.refl w).alloc _
  have hA : (w.alloc (.cells #[.slice u1 u2 u3, .int .i64 u4] 31)).heap[w.heap.size]? = some (.cells #[.slice u1 u2 u3, .int .i64 u4] 31 (0, 0)) := heap_new_at rfl
  have HE := Lib.hid (empty_is (HF.out.near hN) hn)
  have HN := Lib.hid hN
  have HA := Lib.hid hA
  have H1 := Lib.hid h1
  have H2 := Lib.hid h2
  have hk0 : ¬ ((k : Int) < 0) := by omega
  have hwk : IntKind.i64.wrap ((k : Int) - 1) = (k : Int) - 1 := IntWalk.i64_in _ (by omega)
  clear h hn hN hA h1 h2
  go_enter Try.func96, Try.ntmps96
  go_upto_region 5 with (go_at_call 35; refine HE.out.mono ?_; rintro e w1 ⟨rfl, n1⟩; have N1 := Lib.hid (HN.out.trans n1); have HA1 := Lib.hid (keepN n1 HA.out); clear n1)
  have c0 := cell1 (o := 0) HA1.out rfl
  have c1 := cell1 (o := 1) HA1.out rfl
  refine wp_region_A (by kernel_rfl) ?_
  refine takeA1 (v := Value.int .i64 k) (by kernel_rfl) (by kernel_rfl) (by kernel_rfl) (fun _ _ _ h => h) (Or.inl ⟨by rfl, fun w' => by go_simp⟩) ?_
  try simp only [Act.put, List.setIfInBounds_toArray, List.set_cons_zero, List.set_cons_succ]
  refine takeA3 (v := Value.int .i64 k) (by kernel_rfl) (by kernel_rfl) (by kernel_rfl) (fun _ _ _ h => h) (Or.inl ⟨by rfl, fun w' => by go_simp⟩) ?_
  try simp only [Act.put, List.setIfInBounds_toArray, List.set_cons_zero, List.set_cons_succ]
  refine takeA4 (v := Value.int .i64 ((k : Int) - 1)) (by kernel_rfl) (by kernel_rfl) (by kernel_rfl) (fun _ _ _ h => h) (Or.inl ⟨by rfl, fun w' => by go_simp⟩) ?_
  try simp only [Act.put, List.setIfInBounds_toArray, List.set_cons_zero, List.set_cons_succ]
  refine takeA5 (v := Value.int .u32 c) (by kernel_rfl) (by kernel_rfl) (by kernel_rfl) (fun _ _ _ h => h) (Or.inl ⟨by rfl, fun w' => by go_simp⟩) ?_
  try simp only [Act.put, List.setIfInBounds_toArray, List.set_cons_zero, List.set_cons_succ]
  refine takeA6 (v := y) (by kernel_rfl) (by kernel_rfl) (by kernel_rfl) (fun _ _ _ h => h) (Or.inl ⟨by rfl, fun w' => by go_simp⟩) ?_
  try simp only [Act.put, List.setIfInBounds_toArray, List.set_cons_zero, List.set_cons_succ]
  refine oneA0 (by kernel_rfl) (fun K hK => ?_)
  go_simp
  refine hK.out _ _ ?_
  clear hK K
  try simp only [Act.put, List.setIfInBounds_toArray, List.set_cons_zero, List.set_cons_succ]
  refine oneA2 (by kernel_rfl) (fun K hK => ?_)
  go_simp
  go_wp2_with (go_at_call 41; refine (with_f (HF.out.near N1.out.drew) (k : Int) false).mono ?_; rintro e w2 ⟨v1, rfl, hv1, n2⟩)
  refine hK.out _ _ ?_
  clear hK K
  obtain ⟨b1, b2, b3, b4, rfl⟩ := hv1.form
  have N2 := Lib.hid (N1.out.drew.trans n2)
  have HA2 := Lib.hid (keepN ((Near.refl w1).drew.trans n2) HA1.out)
  have HV1 := Lib.hid hv1
  clear hv1 n2 c0 c1
  try simp only [Act.put, List.setIfInBounds_toArray, List.set_cons_zero, List.set_cons_succ]
  refine oneA7 (by kernel_rfl) (fun K hK => ?_)
  go_simp
  go_wp2_with (go_at_call 96; refine (H1.out _ _ N2.out HV1.out).mono ?_; rintro e w3 ⟨r, rfl, hkd, hp⟩)
  refine hK.out _ _ ?_
  clear hK K
  try simp only [Act.put, List.setIfInBounds_toArray, List.set_cons_zero, List.set_cons_succ]
  refine takeA8 (v := Value.bool r) (by kernel_rfl) (by kernel_rfl) (by kernel_rfl) (fun _ _ _ h => h) (Or.inl ⟨by rfl, fun w' => by go_simp⟩) ?_
  try simp only [Act.put, List.setIfInBounds_toArray, List.set_cons_zero, List.set_cons_succ]
  cases r with
  | false =>
    refine takeA9 (v := undef) (by kernel_rfl) (by kernel_rfl) (by kernel_rfl) (fun _ _ _ h => h) (Or.inr ⟨by rfl, rfl⟩) ?_
    try simp only [Act.put, List.setIfInBounds_toArray, List.set_cons_zero, List.set_cons_succ]
    refine takeA10 (v := undef) (by kernel_rfl) (by kernel_rfl) (by kernel_rfl) (fun _ _ _ h => h) (Or.inr ⟨by rfl, rfl⟩) ?_
    try simp only [Act.put, List.setIfInBounds_toArray, List.set_cons_zero, List.set_cons_succ]
    refine takeA11 (v := undef) (by kernel_rfl) (by kernel_rfl) (by kernel_rfl) (fun _ _ _ h => h) (Or.inr ⟨by rfl, rfl⟩) ?_
    try simp only [Act.put, List.setIfInBounds_toArray, List.set_cons_zero, List.set_cons_succ]
    refine takeA12 (v := undef) (by kernel_rfl) (by kernel_rfl) (by kernel_rfl) (fun _ _ _ h => h) (Or.inr ⟨by rfl, rfl⟩) ?_
    try simp only [Act.put, List.setIfInBounds_toArray, List.set_cons_zero, List.set_cons_succ]
    refine takeA13 (v := undef) (by kernel_rfl) (by kernel_rfl) (by kernel_rfl) (fun _ _ _ h => h) (Or.inr ⟨by rfl, rfl⟩) ?_
    try simp only [Act.put, List.setIfInBounds_toArray, List.set_cons_zero, List.set_cons_succ]
    refine takeA14 (v := undef) (by kernel_rfl) (by kernel_rfl) (by kernel_rfl) (fun _ _ _ h => h) (Or.inr ⟨by rfl, rfl⟩) ?_
    try simp only [Act.put, List.setIfInBounds_toArray, List.set_cons_zero, List.set_cons_succ]
    refine takeA15 (v := undef) (by kernel_rfl) (by kernel_rfl) (by kernel_rfl) (fun _ _ _ h => h) (Or.inr ⟨by rfl, rfl⟩) ?_
    try simp only [Act.put, List.setIfInBounds_toArray, List.set_cons_zero, List.set_cons_succ]
    refine takeA16 (v := undef) (by kernel_rfl) (by kernel_rfl) (by kernel_rfl) (fun _ _ _ h => h) (Or.inr ⟨by rfl, rfl⟩) ?_
    try simp only [Act.put, List.setIfInBounds_toArray, List.set_cons_zero, List.set_cons_succ]
    refine takeA17 (v := undef) (by kernel_rfl) (by kernel_rfl) (by kernel_rfl) (fun _ _ _ h => h) (Or.inr ⟨by rfl, rfl⟩) ?_
    try simp only [Act.put, List.setIfInBounds_toArray, List.set_cons_zero, List.set_cons_succ]
    refine takeA18 (v := undef) (by kernel_rfl) (by kernel_rfl) (by kernel_rfl) (fun _ _ _ h => h) (Or.inr ⟨by rfl, rfl⟩) ?_
    try simp only [Act.put, List.setIfInBounds_toArray, List.set_cons_zero, List.set_cons_succ]
    refine takeA19 (v := undef) (by kernel_rfl) (by kernel_rfl) (by kernel_rfl) (fun _ _ _ h => h) (Or.inr ⟨by rfl, rfl⟩) ?_
    try simp only [Act.put, List.setIfInBounds_toArray, List.set_cons_zero, List.set_cons_succ]
    refine takeA20 (v := Value.bool false) (by kernel_rfl) (by kernel_rfl) (by kernel_rfl) (fun _ _ _ h => h) (Or.inl ⟨by rfl, fun w' => by go_simp⟩) ?_
    try simp only [Act.put, List.setIfInBounds_toArray, List.set_cons_zero, List.set_cons_succ]
    refine oneA21 (by kernel_rfl) (fun K hK => ?_)
    go_simp
    refine hK.out _ _ ?_
    clear hK K
    try simp only [Act.put, List.setIfInBounds_toArray, List.set_cons_zero, List.set_cons_succ]
    refine wpAny_done (by kernel_rfl) ?_
    go_wp2_with fail
    exact bodyPost_ret (v := .bool false) (by simp [results, Try.results96, go_sem]) rfl (.inl ⟨w3, hp, Near.refl _, rfl⟩)
  | true =>
    have hkd' := hkd rfl
    have HA3 := Lib.hid (hkd'.box HA2.out)
    have HF3 := Lib.hid (HF.out.keepD (N2.out.keepD.trans hkd'))
    have HP := Lib.hid hp
    clear hp hkd hkd'
    have c0 : w3.cell? ⟨w.heap.size, 0, none⟩ = some (.slice u1 u2 u3) := cell1 (o := 0) HA3.out rfl
    have c1 : w3.cell? ⟨w.heap.size, 1, none⟩ = some (.int .i64 u4) := cell1 (o := 1) HA3.out rfl
    have hpk : 2 ^ k < 16777216 := Nat.lt_of_lt_of_le (Nat.pow_lt_pow_right (a := 2) (by omega) hk) (by decide)
    have hcast : ((2 ^ k : Nat) : Int) = (2 : Int) ^ k := by simp
    have hor : bits .or .u32 (c : Int) ((2 : Int) ^ k) = ((c ||| 2 ^ k : Nat) : Int) := by rw [← hcast]; generalize 2 ^ k = p at hpk; exact Go.Proofs.Gen.u32_or c p (by omega) (by omega)
    refine takeA10 (v := Value.int .i64 k) (by kernel_rfl) (by kernel_rfl) (by kernel_rfl) (fun _ _ _ h => h) (Or.inl ⟨by rfl, fun w' => by go_simp⟩) ?_
    try simp only [Act.put, List.setIfInBounds_toArray, List.set_cons_zero, List.set_cons_succ]
    refine takeA12 (v := Value.int .i64 k) (by kernel_rfl) (by kernel_rfl) (by kernel_rfl) (fun _ _ _ h => h) (Or.inl ⟨by rfl, fun w' => by go_simp⟩) ?_
    try simp only [Act.put, List.setIfInBounds_toArray, List.set_cons_zero, List.set_cons_succ]
    refine takeA13 (v := Value.int .i64 ((k : Int) - 1)) (by kernel_rfl) (by kernel_rfl) (by kernel_rfl) (fun _ _ _ h => h) (Or.inl ⟨by rfl, fun w' => by go_simp⟩) ?_
    try simp only [Act.put, List.setIfInBounds_toArray, List.set_cons_zero, List.set_cons_succ]
    refine takeA14 (v := Value.int .u32 c) (by kernel_rfl) (by kernel_rfl) (by kernel_rfl) (fun _ _ _ h => h) (Or.inl ⟨by rfl, fun w' => by go_simp⟩) ?_
    try simp only [Act.put, List.setIfInBounds_toArray, List.set_cons_zero, List.set_cons_succ]
    refine takeA15 (v := Value.int .i64 k) (by kernel_rfl) (by kernel_rfl) (by kernel_rfl) (fun _ _ _ h => h) (Or.inl ⟨by rfl, fun w' => by go_simp⟩) ?_
    try simp only [Act.put, List.setIfInBounds_toArray, List.set_cons_zero, List.set_cons_succ]
    have hsh : IntKind.u32.wrap ((2 : Int) ^ k) = (2 : Int) ^ k := by rw [← hcast]; generalize 2 ^ k = p at hpk; exact IntWalk.u32_in _ (by omega)
    clear hcast hpk
    refine takeA16 (v := Value.int .u32 ((2 : Int) ^ k)) (by kernel_rfl) (by kernel_rfl) (by kernel_rfl) (fun _ _ _ h => h) (Or.inl ⟨by rfl, fun w' => by go_simp⟩) ?_
    try simp only [Act.put, List.setIfInBounds_toArray, List.set_cons_zero, List.set_cons_succ]
    refine takeA17 (v := Value.int .u32 ((c ||| 2 ^ k : Nat) : Int)) (by kernel_rfl) (by kernel_rfl) (by kernel_rfl) (fun _ _ _ h => h) (Or.inl ⟨by rfl, fun w' => by go_simp⟩) ?_
    try simp only [Act.put, List.setIfInBounds_toArray, List.set_cons_zero, List.set_cons_succ]
    refine takeA18 (v := y) (by kernel_rfl) (by kernel_rfl) (by kernel_rfl) (fun _ _ _ h => h) (Or.inl ⟨by rfl, fun w' => by go_simp⟩) ?_
    try simp only [Act.put, List.setIfInBounds_toArray, List.set_cons_zero, List.set_cons_succ]
    refine oneA9 (by kernel_rfl) (fun K hK => ?_)
    go_simp
    refine hK.out _ _ ?_
    clear hK K
    try simp only [Act.put, List.setIfInBounds_toArray, List.set_cons_zero, List.set_cons_succ]
    refine oneA11 (by kernel_rfl) (fun K hK => ?_)
    go_simp
    go_wp2_with (go_at_call 41; refine (with_f HF3.out (k : Int) true).mono ?_; rintro e w4 ⟨v2, rfl, hv2, n4⟩)
    refine hK.out _ _ ?_
    clear hK K
    obtain ⟨d1, d2, d3, d4, rfl⟩ := hv2.form
    have N4 := Lib.hid n4
    have HV2 := Lib.hid hv2
    clear hv2 n4 c0 c1
    try simp only [Act.put, List.setIfInBounds_toArray, List.set_cons_zero, List.set_cons_succ]
    refine oneA19 (by kernel_rfl) (fun K hK => ?_)
    go_simp
    go_wp2_with (go_at_call 96; refine (H2.out _ _ _ HP.out N4.out HV2.out).mono ?_; rintro e w5 ⟨r, rfl, hp⟩)
    refine hK.out _ _ ?_
    clear hK K
    try simp only [Act.put, List.setIfInBounds_toArray, List.set_cons_zero, List.set_cons_succ]
    refine takeA20 (v := Value.bool r) (by kernel_rfl) (by kernel_rfl) (by kernel_rfl) (fun _ _ _ h => h) (Or.inl ⟨by rfl, fun w' => by go_simp⟩) ?_
    try simp only [Act.put, List.setIfInBounds_toArray, List.set_cons_zero, List.set_cons_succ]
    refine oneA21 (by kernel_rfl) (fun K hK => ?_)
    go_simp
    refine hK.out _ _ ?_
    clear hK K
    try simp only [Act.put, List.setIfInBounds_toArray, List.set_cons_zero, List.set_cons_succ]
    refine wpAny_done (by kernel_rfl) ?_
    go_wp2_with fail
    exact bodyPost_ret (v := .bool r) (by simp [results, Try.results96, go_sem]) rfl (.inr ⟨r, w5, hp, Near.refl _, rfl⟩)
end Go.Proofs.Ytefclohjeompkaa

/- The program's All: its iterator. -/
namespace Go.Proofs.Ytefclohjeompkaa
open Go Go.RowKit Go.Shelf Go.Proofs.Gen Go.Proofs.Bdd Go.Proofs.Bdd.T
attribute [local go_sem] Oper.semAt_some

theorem IsF.fix {w : World} {v : Value} {f g : F} (h : IsF w v f) (e : ∀ c, f c = g c) : IsF w v g := by
  obtain ⟨t, hd, he⟩ := h
  exact ⟨t, hd, fun c => (he c).trans (e c)⟩

/-- What a range over the walk comes to. -/
theorem walk_in {l n : Nat} (hn : 1 ≤ n) {J Jx : List Nat → World → Prop} {N : Nat} (hJ : ∀ s w w', J s w → Near w w' → J s w') (hJx : ∀ s w w', Jx s w → Near w w' → Jx s w')
    (hY : ∀ pre x w1, J pre w1 → pre.length < N → YieldAt Fence.wide (n - 1) Try.prog l #[uv x] w1 fun e w' => (e = .returned (.bool true) ∧ J (pre ++ [x]) w' ∧ KeepD w1 w') ∨ (e = .returned (.bool false) ∧ Jx (pre ++ [x]) w')) :
    ∀ (k : Nat) (f : F) (v : Value) (i : Int) (c : Nat) (pre : List Nat) (w : World), k ≤ 24 → i = (k : Int) - 1 → IsF w v f → LowF f k → c < 16777216 → pre.length + 2 ^ k ≤ N → J pre w →
      Calls Try.prog 96 #[v, .int .i64 i, .int .u32 c, .func (.yield l) #[] #[]] w fun e w' => ∃ r : Bool, e = .returned (.bool r) ∧ (r = true → KeepD w w') ∧ (r = true → J (pre ++ lst f k c) w') ∧ (r = false → ∃ p, p <+: lst f k c ∧ Jx (pre ++ p) w') := by
  intro k
  induction k with
  | zero =>
    intro f v i c pre w _ hi hf hl hc hN hj
    subst hi
    cases hne : nowhere f with
    | true =>
      refine (walk_none hf hne _ _ _).mono ?_
      rintro e w' ⟨rfl, hn'⟩
      exact ⟨true, rfl, fun _ => hn'.keepD, fun _ => by rw [lst_none hne, List.append_nil]; exact hJ _ _ _ hj hn', fun h => by cases h⟩
    | false =>
      refine walk_leaf hn hf hne c fun w1 h1 => ?_
      obtain ⟨fn, tmps, assign, body, hy, hR⟩ := hY pre c w1 (hJ _ _ _ hj h1) (by simp at hN; omega)
      refine ⟨fn, tmps, assign, body, hy, hR.mono ?_⟩
      rintro e w' (⟨rfl, h2, h3⟩ | ⟨rfl, h2⟩)
      · exact ⟨true, rfl, true, rfl, fun _ => h1.keepD.trans h3, fun _ => (by rw [lst_zero hl hne]; exact h2), fun h => (by cases h)⟩
      · exact ⟨false, rfl, false, rfl, (fun h => by cases h), (fun h => by cases h), fun _ => ⟨[c], by rw [lst_zero hl hne]; exact List.prefix_rfl, h2⟩⟩
  | succ k ih =>
    intro f v i c pre w hk hi hf hl hc hN hj
    have hik : i = (k : Int) := by omega
    subst hik
    clear hi
    cases hne : nowhere f with
    | true =>
      refine (walk_none hf hne _ _ _).mono ?_
      rintro e w' ⟨rfl, hn'⟩
      exact ⟨true, rfl, fun _ => hn'.keepD, fun _ => by rw [lst_none hne, List.append_nil]; exact hJ _ _ _ hj hn', fun h => by cases h⟩
    | false =>
      have hp : (2 : Nat) ^ (k + 1) = 2 ^ k + 2 ^ k := by rw [Nat.pow_succ]; omega
      have hl0 : (lst (fun d => f (updI d k false)) k c).length ≤ 2 ^ k := lst_len _ _ _
      have hc2 : c ||| 2 ^ k < 16777216 := Nat.or_lt_two_pow (n := 24) hc (Nat.pow_lt_pow_right (by omega) (by omega))
      refine (walk_step (P1 := fun r w' => (r = true → KeepD w w' ∧ J (pre ++ lst (fun d => f (updI d k false)) k c) w') ∧ (r = false → ∃ p, p <+: lst (fun d => f (updI d k false)) k c ∧ Jx (pre ++ p) w'))
        (P2 := fun r w' => (r = true → KeepD w w' ∧ J (pre ++ lst f (k + 1) c) w') ∧ (r = false → ∃ p, p <+: lst f (k + 1) c ∧ Jx (pre ++ p) w'))
        hf hne (k := k) (by omega) hc _ ?h1 ?h2).mono ?_
      case h1 =>
        intro v1 w1 hn1 hv1
        refine (ih _ v1 _ c pre w1 (by omega) rfl hv1 (hl.fix false) hc (by omega) (hJ _ _ _ hj hn1)).mono ?_
        rintro e w' ⟨r, rfl, a, b, d⟩
        exact ⟨r, rfl, a, fun h => ⟨hn1.keepD.trans (a h), b h⟩, d⟩
      case h2 =>
        rintro v2 w1 w2 ⟨a, -⟩ hn2 hv2
        obtain ⟨a1, a2⟩ := a rfl
        refine (ih _ v2 _ (c ||| 2 ^ k) (pre ++ lst (fun d => f (updI d k false)) k c) w2 (by omega) rfl hv2 (hl.fix true) hc2 (by rw [List.length_append]; omega) (hJ _ _ _ a2 hn2)).mono ?_
        rintro e w' ⟨r, rfl, b, d, g⟩
        refine ⟨r, rfl, fun h => ⟨(a1.trans hn2.keepD).trans (b h), ?_⟩, fun h => ?_⟩
        · rw [lst_succ, ← List.append_assoc]
          exact d h
        · obtain ⟨p, hp1, hp2⟩ := g h
          refine ⟨lst (fun d => f (updI d k false)) k c ++ p, ?_, ?_⟩
          · rw [lst_succ]
            exact (List.prefix_append_right_inj _).2 hp1
          · rw [← List.append_assoc]
            exact hp2
      rintro e w' (⟨w1, ⟨-, a⟩, hn', rfl⟩ | ⟨r, w2, ⟨a, b⟩, hn', rfl⟩)
      · obtain ⟨p, hp1, hp2⟩ := a rfl
        refine ⟨false, rfl, (fun h => by cases h), (fun h => by cases h), fun _ => ⟨p, ?_, hJx _ _ _ hp2 hn'⟩⟩
        rw [lst_succ]
        exact hp1.trans (List.prefix_append _ _)
      · refine ⟨r, rfl, fun h => (a h).1.trans hn'.keepD, fun h => hJ _ _ _ (a h).2 hn', fun h => ?_⟩
        obtain ⟨p, hp1, hp2⟩ := b h
        exact ⟨p, hp1, hJx _ _ _ hp2 hn'⟩

/-- The two boxes that the iterator has caught. -/
structure CatD (w : World) (b1 b2 : Nat) (f : F) (m : Nat) : Prop where
  set : ∃ u1 u2 u3 u4, w.heap[b1]? = some (.cells #[.slice u1 u2 u3, .int .i64 u4] 31 (0, 0)) ∧ IsF w (.agg #[.slice u1 u2 u3, .int .i64 u4]) (offF f m 24)
  num : w.heap[b2]? = some (.cells #[.int .i64 m] 3 (0, 0))
  le : m ≤ 24

theorem CatD.near {w w' : World} {b1 b2 m : Nat} {f : F} (h : CatD w b1 b2 f m) (hn : Near w w') : CatD w' b1 b2 f m := by
  obtain ⟨⟨u1, u2, u3, u4, h1, h2⟩, h3, h4⟩ := h
  exact ⟨⟨u1, u2, u3, u4, keepN hn h1, h2.near hn⟩, keepN hn h3, h4⟩

set_option maxRecDepth 100000 in
set_option maxHeartbeats 1600000 in
theorem all1_calls {w : World} {b1 b2 m : Nat} {f : F} (hf : LowF f 24) (h : CatD w b1 b2 f m) {l n : Nat} (hn : 1 ≤ n) {J Jx : List Nat → World → Prop} (hJ : ∀ s w w', J s w → Near w w' → J s w') (hJx : ∀ s w w', Jx s w → Near w w' → Jx s w')
    (hY : ∀ pre x w1, J pre w1 → pre.length < 16777216 → YieldAt Fence.wide (n - 1) Try.prog l #[uv x] w1 fun e w' => (e = .returned (.bool true) ∧ J (pre ++ [x]) w' ∧ KeepD w1 w') ∨ (e = .returned (.bool false) ∧ Jx (pre ++ [x]) w')) (h0 : J [] w) :
    Calls Try.prog 95 #[.func (.yield l) #[] #[], .pointer (some ⟨b1, 0, none⟩), .pointer (some ⟨b2, 0, none⟩)] w fun e w' => (∃ v, e = .returned v) ∧ ((∃ xs, xs = wantL f m ∧ J xs w') ∨ (∃ pre, pre <+: wantL f m ∧ Jx pre w')) := by
  obtain ⟨⟨u1, u2, u3, u4, h1, h2⟩, h3, h4⟩ := h
  have hpow : (2 : Nat) ^ m ≤ 16777216 := by
    have h := Nat.pow_le_pow_right (n := 2) (by omega) h4
    have e24 : (2 : Nat) ^ 24 = 16777216 := by decide
    omega
  have hW := Lib.hid (fun (w' : World) (hn' : Near w w') => walk_in (l := l) (n := n) (N := 16777216) hn hJ hJx hY m (offF f m 24) _ ((m : Int) - 1) 0 [] w' h4 rfl (h2.near hn') (offF_low hf m) (by omega) (by simpa using hpow) (hJ _ _ _ h0 hn'))
  have c0 := cell1 (o := 0) h1 rfl
  have c1 := cell1 (o := 1) h1 rfl
  have c2 := cell1 (o := 0) h3 rfl
  have hwm : IntKind.i64.wrap ((m : Int) - 1) = (m : Int) - 1 := IntWalk.i64_in _ (by omega)
  clear h1 h2 h3 hpow hY h0
  go_enter Try.func95, Try.ntmps95
  go_wp2_with (go_at_call 96; refine (hW.out _ (by first | exact Near.refl _ | exact (Near.refl _).drew)).mono ?_; rintro e w1 ⟨r, rfl, -, hj, hx⟩)
  go_end0
  refine ⟨⟨_, rfl⟩, ?_⟩
  simp only [List.nil_append, lst_want] at hj hx
  cases r with
  | true => exact .inl ⟨_, rfl, hj rfl⟩
  | false => exact .inr (hx rfl)

theorem all_stops {n : Nat} (hn : 1 ≤ n) {w : World} {b1 b2 m : Nat} {f : F} (hf : LowF f 24) (h : CatD w b1 b2 f m) :
    SeqStopsK Fence.wide n Try.prog 95 #[.pointer (some ⟨b1, 0, none⟩), .pointer (some ⟨b2, 0, none⟩)] (fun c : Nat => #[uv c]) KeepD (fun xs => xs = wantL f m) (fun pre => pre <+: wantL f m) 16777216 w := by
  intro l J Jx W hb hJ hJx hY h0
  refine callsIn_wide.2 (all1_calls hf (h.near (Near.of_below hb)) hn (fun s w w' hs hn' => hJ s w w' none hs (near_grown hn') (fun r e => by cases e)) (fun s w w' hs hn' => hJx s w w' none hs (near_grown hn') (fun r e => by cases e)) ?_ h0)
  intro pre x w1 hj hlen
  exact hY pre x w1 hj hlen

end Go.Proofs.Ytefclohjeompkaa

/- The program's All: what it hands back (printed by gen_liste.py). -/
namespace Go.Proofs.Ytefclohjeompkaa
open Go Go.RowKit Go.Shelf Go.Proofs.Gen Go.Proofs.Bdd Go.Proofs.Bdd.T

/-- What All hands back. -/
def AllPost (w : World) (f : F) (m : Nat) (e : Ending) (w' : World) : Prop :=
  ∃ b1 b2, e = .returned (.func (.func 95) #[] #[.pointer (some ⟨b1, 0, none⟩), .pointer (some ⟨b2, 0, none⟩)]) ∧ CatD w' b1 b2 f m ∧ w.heap.size ≤ b1 ∧ w.heap.size ≤ b2 ∧ Near w w'

theorem two_keptL {w : World} {b : Nat} (x y : Value) : Kept (fun k => k = b) w ((w.setCell ⟨b, 0, none⟩ x).setCell ⟨b, 1, none⟩ y) :=
  Kept.setCell (Kept.setCell (S := fun k => k = b) (Kept.refl _ w) (p := ⟨b, 0, none⟩) (fun _ => rfl) x) (p := ⟨b, 1, none⟩) (fun _ => rfl) y

set_option maxRecDepth 100000 in
set_option maxHeartbeats 1600000 in
theorem all_nat {w : World} {v : Value} {f : F} (h : IsF w v f) {m : Nat} (hm : m ≤ 10) : Calls Try.prog 39 #[v, .int .i64 (m : Nat)] w (AllPost w f m) := by
  obtain ⟨a1, a2, a3, a4, rfl⟩ := h.form
  have hN : Near w ((w.alloc (.cells #[.slice a1 a2 a3, .int .i64 a4] 31)).alloc (.cells #[.int .i64 (m : Nat)] 3)) := ((Near.refl w).alloc _).alloc _
  have hE : ((w.alloc (.cells #[.slice a1 a2 a3, .int .i64 a4] 31)).alloc (.cells #[.int .i64 (m : Nat)] 3)).heap[w.heap.size]? = some (.cells #[.slice a1 a2 a3, .int .i64 a4] 31 (0, 0)) := (heap_old_at (by simp)).trans (heap_new_at rfl)
  have hB : ((w.alloc (.cells #[.slice a1 a2 a3, .int .i64 a4] 31)).alloc (.cells #[.int .i64 (m : Nat)] 3)).heap[w.heap.size + 1]? = some (.cells #[.int .i64 (m : Nat)] 3 (0, 0)) := heap_new_at (by simp)
  have HF := Lib.hid h
  have h0 : ¬ ((m : Int) < 0) := by omega
  have h0' : (0 : Int) ≤ m := by omega
  have h24 : (m : Int) ≤ 24 := by omega
  have h24' : ¬ ((24 : Int) < m) := by omega
  clear h
  go_enter Try.func39, Try.ntmps39
  go_upto_region 1 with fail
  generalize ((w.alloc (.cells #[.slice a1 a2 a3, .int .i64 a4] 31)).alloc (.cells #[.int .i64 (m : Nat)] 3)) = W1 at hN hE hB ⊢
  have HN := Lib.hid hN
  have HE := Lib.hid hE
  have HB := Lib.hid hB
  have y0 := cell1 (o := 0) hB rfl
  have yf := free1 hB
  clear hN hE hB
  go_upto_region 2 with fail
  have hB2 := setCell_heap HB.out 0 (.int .i64 (m : Nat))
  have hK2 : Kept (fun b => b = w.heap.size + 1) W1 (W1.setCell ⟨w.heap.size + 1, 0, none⟩ (.int .i64 (m : Nat))) := Kept.setCell (S := fun b => b = w.heap.size + 1) (Kept.refl _ W1) (p := ⟨w.heap.size + 1, 0, none⟩) (fun _ => rfl) _
  simp only [List.setIfInBounds_toArray, List.set_cons_zero] at hB2
  have hE2 := (hK2.block w.heap.size (Array.getElem?_eq_some_iff.1 HE.out).1 (by omega)).trans HE.out
  have hN2 : Near w (W1.setCell ⟨w.heap.size + 1, 0, none⟩ (.int .i64 (m : Nat))) := Kept.mono (HN.out.kept.trans hK2) (fun b hb e => by omega)
  clear y0 yf hK2
  generalize W1.setCell ⟨w.heap.size + 1, 0, none⟩ (.int .i64 (m : Nat)) = W2 at hB2 hE2 hN2 ⊢
  have HN2 := Lib.hid hN2
  have HE2 := Lib.hid hE2
  have HB2 := Lib.hid hB2
  have y0 := cell1 (o := 0) hB2 rfl
  clear hN2 hE2 hB2
  go_wp2_with fail
  go_loopw [5] (fun i wr => ∃ (k : Nat) (u1 : Option Addr) (u2 u3 : Nat) (u4 : Int), m ≤ k ∧ k ≤ 24 ∧ i = .int .i64 k ∧ wr.heap[w.heap.size]? = some (.cells #[.slice u1 u2 u3, .int .i64 u4] 31 (0, 0)) ∧ IsF wr (.agg #[.slice u1 u2 u3, .int .i64 u4]) (offF f m k) ∧ Kept (fun b => b = w.heap.size) W2 wr) (fun i _ => 24 - (intOf i).toNat)
  case atStart => exact ⟨m, a1, a2, a3, a4, Nat.le_refl _, (by omega), rfl, HE2.out, by rw [offF_zero]; exact HF.out.near HN2.out, Kept.refl _ _⟩
  case round =>
    obtain ⟨k, u1, u2, u3, u4, hmk, hk, rfl, he, hf, hkp⟩ := hrel
    have HEk := Lib.hid he
    have HFk := Lib.hid hf
    have HK := Lib.hid hkp
    clear he hf hkp
    by_cases hlt : k < 24
    · have hlt' : (k : Int) < 24 := by omega
      have c0 : wr.cell? ⟨w.heap.size, 0, none⟩ = some (.slice u1 u2 u3) := cell1 (o := 0) HEk.out rfl
      have c1 : wr.cell? ⟨w.heap.size, 1, none⟩ = some (.int .i64 u4) := cell1 (o := 1) HEk.out rfl
      go_wp2_with (go_at_call 41; refine (with_f HFk.out (k : Int) false).mono ?_; rintro e w2 ⟨v1, rfl, hv1, n2⟩; obtain ⟨r1, r2, r3, r4, rfl⟩ := hv1.form; have hr2 := keepN n2 HEk.out; have z0 := cell1 (o := 0) hr2 rfl; have z1 := cell1 (o := 1) hr2 rfl; have zf := free1 hr2; have HR2 := Lib.hid hr2; have HV1 := Lib.hid hv1; have HN3 := Lib.hid n2; clear hr2 hv1 n2)
      have hw2 := setCell_heap (setCell_heap HR2.out 0 (.slice r1 r2 r3)) 1 (.int .i64 r4)
      simp only [List.setIfInBounds_toArray, List.set_cons_zero, List.set_cons_succ] at hw2
      exact ⟨⟨k + 1, r1, r2, r3, r4, by omega, by omega, by go_num, hw2, (isF_store HV1.out HR2.out).fix fun c => offF_succ f hmk c, (HK.out.trans HN3.out.kept).trans (two_keptL _ _)⟩, by simp [intOf]; omega⟩
    · have hk24 : k = 24 := by omega
      subst hk24
      have hB3 := (HK.out.block (w.heap.size + 1) (Array.getElem?_eq_some_iff.1 HB2.out).1 (by omega)).trans HB2.out
      go_wp2_with fail
      go_ret
      exact ⟨w.heap.size, w.heap.size + 1, rfl, ⟨⟨u1, u2, u3, u4, HEk.out, HFk.out⟩, hB3, (by omega)⟩, Nat.le_refl _, by omega, Kept.mono (HN2.out.kept.trans HK.out) (fun b hb e => by omega)⟩

set_option maxRecDepth 100000 in
set_option maxHeartbeats 1600000 in
theorem all_neg {w : World} {v : Value} {f : F} (h : IsF w v f) {n : Int} (hn : n < 0) : Calls Try.prog 39 #[v, .int .i64 n] w (AllPost w f 0) := by
  obtain ⟨a1, a2, a3, a4, rfl⟩ := h.form
  have hN : Near w ((w.alloc (.cells #[.slice a1 a2 a3, .int .i64 a4] 31)).alloc (.cells #[.int .i64 n] 3)) := ((Near.refl w).alloc _).alloc _
  have hE : ((w.alloc (.cells #[.slice a1 a2 a3, .int .i64 a4] 31)).alloc (.cells #[.int .i64 n] 3)).heap[w.heap.size]? = some (.cells #[.slice a1 a2 a3, .int .i64 a4] 31 (0, 0)) := (heap_old_at (by simp)).trans (heap_new_at rfl)
  have hB : ((w.alloc (.cells #[.slice a1 a2 a3, .int .i64 a4] 31)).alloc (.cells #[.int .i64 n] 3)).heap[w.heap.size + 1]? = some (.cells #[.int .i64 n] 3 (0, 0)) := heap_new_at (by simp)
  have HF := Lib.hid h
  have h0' : ¬ (0 ≤ n) := by omega
  have h0l : n ≤ 0 := by omega
  clear h
  go_enter Try.func39, Try.ntmps39
  go_upto_region 1 with fail
  generalize ((w.alloc (.cells #[.slice a1 a2 a3, .int .i64 a4] 31)).alloc (.cells #[.int .i64 n] 3)) = W1 at hN hE hB ⊢
  have HN := Lib.hid hN
  have HE := Lib.hid hE
  have HB := Lib.hid hB
  have y0 := cell1 (o := 0) hB rfl
  have yf := free1 hB
  clear hN hE hB
  go_upto_region 2 with fail
  have hB2 := setCell_heap HB.out 0 (.int .i64 0)
  have hK2 : Kept (fun b => b = w.heap.size + 1) W1 (W1.setCell ⟨w.heap.size + 1, 0, none⟩ (.int .i64 0)) := Kept.setCell (S := fun b => b = w.heap.size + 1) (Kept.refl _ W1) (p := ⟨w.heap.size + 1, 0, none⟩) (fun _ => rfl) _
  simp only [List.setIfInBounds_toArray, List.set_cons_zero] at hB2
  have hE2 := (hK2.block w.heap.size (Array.getElem?_eq_some_iff.1 HE.out).1 (by omega)).trans HE.out
  have hN2 : Near w (W1.setCell ⟨w.heap.size + 1, 0, none⟩ (.int .i64 0)) := Kept.mono (HN.out.kept.trans hK2) (fun b hb e => by omega)
  clear y0 yf hK2
  generalize W1.setCell ⟨w.heap.size + 1, 0, none⟩ (.int .i64 0) = W2 at hB2 hE2 hN2 ⊢
  have HN2 := Lib.hid hN2
  have HE2 := Lib.hid hE2
  have HB2 := Lib.hid hB2
  have y0 := cell1 (o := 0) hB2 rfl
  clear hN2 hE2 hB2
  go_wp2_with fail
  go_loopw [5] (fun i wr => ∃ (k : Nat) (u1 : Option Addr) (u2 u3 : Nat) (u4 : Int), 0 ≤ k ∧ k ≤ 24 ∧ i = .int .i64 k ∧ wr.heap[w.heap.size]? = some (.cells #[.slice u1 u2 u3, .int .i64 u4] 31 (0, 0)) ∧ IsF wr (.agg #[.slice u1 u2 u3, .int .i64 u4]) (offF f 0 k) ∧ Kept (fun b => b = w.heap.size) W2 wr) (fun i _ => 24 - (intOf i).toNat)
  case atStart => exact ⟨0, a1, a2, a3, a4, Nat.le_refl _, (by omega), rfl, HE2.out, by rw [offF_zero]; exact HF.out.near HN2.out, Kept.refl _ _⟩
  case round =>
    obtain ⟨k, u1, u2, u3, u4, hmk, hk, rfl, he, hf, hkp⟩ := hrel
    have HEk := Lib.hid he
    have HFk := Lib.hid hf
    have HK := Lib.hid hkp
    clear he hf hkp
    by_cases hlt : k < 24
    · have hlt' : (k : Int) < 24 := by omega
      have c0 : wr.cell? ⟨w.heap.size, 0, none⟩ = some (.slice u1 u2 u3) := cell1 (o := 0) HEk.out rfl
      have c1 : wr.cell? ⟨w.heap.size, 1, none⟩ = some (.int .i64 u4) := cell1 (o := 1) HEk.out rfl
      go_wp2_with (go_at_call 41; refine (with_f HFk.out (k : Int) false).mono ?_; rintro e w2 ⟨v1, rfl, hv1, n2⟩; obtain ⟨r1, r2, r3, r4, rfl⟩ := hv1.form; have hr2 := keepN n2 HEk.out; have z0 := cell1 (o := 0) hr2 rfl; have z1 := cell1 (o := 1) hr2 rfl; have zf := free1 hr2; have HR2 := Lib.hid hr2; have HV1 := Lib.hid hv1; have HN3 := Lib.hid n2; clear hr2 hv1 n2)
      have hw2 := setCell_heap (setCell_heap HR2.out 0 (.slice r1 r2 r3)) 1 (.int .i64 r4)
      simp only [List.setIfInBounds_toArray, List.set_cons_zero, List.set_cons_succ] at hw2
      exact ⟨⟨k + 1, r1, r2, r3, r4, by omega, by omega, by go_num, hw2, (isF_store HV1.out HR2.out).fix fun c => offF_succ f hmk c, (HK.out.trans HN3.out.kept).trans (two_keptL _ _)⟩, by simp [intOf]; omega⟩
    · have hk24 : k = 24 := by omega
      subst hk24
      have hB3 := (HK.out.block (w.heap.size + 1) (Array.getElem?_eq_some_iff.1 HB2.out).1 (by omega)).trans HB2.out
      go_wp2_with fail
      go_ret
      exact ⟨w.heap.size, w.heap.size + 1, rfl, ⟨⟨u1, u2, u3, u4, HEk.out, HFk.out⟩, hB3, (by omega)⟩, Nat.le_refl _, by omega, Kept.mono (HN2.out.kept.trans HK.out) (fun b hb e => by omega)⟩

end Go.Proofs.Ytefclohjeompkaa

/- A loop over an iterator that collects numbers: what a round keeps; the law of such a loop. -/
namespace Go.Proofs.Ytefclohjeompkaa
open Go Go.RowKit Go.Shelf Go.Proofs.Gen Go.Proofs.Bdd Go.Proofs.Bdd.T

/-- The numbers collected so far, in the box B. -/
def LI (B : Nat) (W0 : World) (pre : List Nat) (W : World) : Prop :=
  ∃ ao cap, W.heap[B]? = some (.cells #[.slice ao pre.length cap] 63 (0, 0)) ∧ W.ownsRow W0.heap.size 24 1 (.slice ao pre.length cap) pre.length (pre.map uv) ∧ Kept (fun b => b = B) W0 W

/-- The block of a row of one's own. -/
theorem own_block {w : World} {base e size n k : Nat} {v : Value} {xs : List Value} (h : w.ownsRow base e size v n xs) (hk : v.ownBlock = some k) : base ≤ k ∧ ∃ cur fr, w.heap[k]? = some (.cells cur e fr) := by
  rcases h.2 with ⟨rfl, _⟩ | ⟨g, cap, cur, rfl, hb, hg, _⟩
  · cases hk
  · cases hk
    exact ⟨hb, _, _, hg⟩

theorem li_own {B : Nat} {W0 : World} (hB : B < W0.heap.size) : OwnFrom W0.heap.size (LI B W0) := by
  intro pre W W' row ⟨ao, cap, h1, h2, h3⟩ hg hr
  refine ⟨ao, cap, ?_, ?_, h3.grown hg (fun r e hlt => absurd (hr r e).1 (by omega))⟩
  · exact (hg.block _ (Array.getElem?_eq_some_iff.1 h1).1 (fun e => by have := (hr _ e.symm).1; omega)).trans h1
  · have hk : Kept (fun b => some b = row) W W' := ⟨hg.os, hg.tape, hg.output, hg.size, fun k hk hn => hg.block k hk hn⟩
    refine owns_kept h2 hk (R := fun b => some b = row) (fun k hk' hrk => ?_)
    obtain ⟨_, cur, fr, hc⟩ := own_block h2 hk'
    obtain ⟨_, o, ho, hoc⟩ := hr k hrk.symm
    rw [hc] at ho
    cases ho
    cases hoc

theorem li_step {B : Nat} {W0 W w3 : World} {pre : List Nat} {x : Nat} {ao ao3 : Option Addr} {cap cap3 : Nat} {o : Obj} (hB : B < W0.heap.size)
    (h1 : W.heap[B]? = some (.cells #[.slice ao pre.length cap] 63 (0, 0))) (h2 : W.ownsRow W0.heap.size 24 1 (.slice ao pre.length cap) pre.length (pre.map uv)) (h3 : Kept (fun b => b = B) W0 W)
    (hg : (W.alloc o).grownBy w3 (Value.slice ao pre.length cap).ownBlock) (hown : w3.ownsRow W0.heap.size 24 1 (.slice ao3 (pre.length + 1) cap3) (pre.length + 1) (pre.map uv ++ [uv x])) :
    w3.heap[B]? = some (.cells #[.slice ao pre.length cap] 63 (0, 0)) ∧ ∀ W4, W4 = w3.setCell ⟨B, 0, none⟩ (.slice ao3 (pre.length + 1) cap3) → KeepsFrom W0.heap.size W W4 ∧ KeepD W W4 ∧ LI B W0 (pre ++ [x]) W4 := by
  have hne : ∀ k, (Value.slice ao pre.length cap).ownBlock = some k → k ≠ B := fun k hk e => by
    have := (own_block h2 hk).1
    omega
  have hlt : B < W.heap.size := (Array.getElem?_eq_some_iff.1 h1).1
  have hb3 : w3.heap[B]? = some (.cells #[.slice ao pre.length cap] 63 (0, 0)) := by
    refine (hg.block B (by simp; omega) (fun e => hne B e.symm rfl)).trans ?_
    exact (heap_old_at (by omega)).trans h1
  refine ⟨hb3, ?_⟩
  rintro W4 rfl
  have kAll : ∀ S : Nat → Prop, S B → (∀ k, (Value.slice ao pre.length cap).ownBlock = some k → S k) → Kept S W (w3.setCell ⟨B, 0, none⟩ (.slice ao3 (pre.length + 1) cap3)) := fun S s1 s2 =>
    Kept.setCell ((((Kept.refl S W).alloc o)).grown hg (fun k hk _ => s2 k hk)) (p := ⟨B, 0, none⟩) (fun _ => s1) _
  have k0 : Kept (fun b => b = B) W0 (w3.setCell ⟨B, 0, none⟩ (.slice ao3 (pre.length + 1) cap3)) :=
    Kept.setCell ((h3.alloc o).grown hg (fun k hk hlt => absurd (own_block h2 hk).1 (by omega))) (p := ⟨B, 0, none⟩) (fun _ => rfl) _
  refine ⟨⟨(kAll (fun _ => True) trivial (fun _ _ => trivial)).size, fun k o' hk hb hc => ?_⟩, kAll _ ⟨_, h1, fun cur fr => ⟨(fun e => by cases e), (fun e => by cases e)⟩⟩ (fun k hk => ?_), ao3, cap3, ?_, ?_, k0⟩
  · have hn := (kAll (fun b => b = B ∨ (Value.slice ao pre.length cap).ownBlock = some b) (.inl rfl) (fun k hk => .inr hk)).block k (Array.getElem?_eq_some_iff.1 hb).1
    refine (hn ?_).trans hb
    rintro (e | e)
    · omega
    · obtain ⟨_, cur, fr, hcc⟩ := own_block h2 e
      rw [hcc] at hb
      cases hb
      cases hc
  · obtain ⟨_, cur, fr, hcc⟩ := own_block h2 hk
    exact ⟨_, hcc, fun cur fr => ⟨(fun e => by cases e), (fun e => by cases e)⟩⟩
  · have := setCell_heap hb3 0 (.slice ao3 (pre.length + 1) cap3)
    simpa using this
  · rw [List.length_append, List.map_append]
    refine owns_kept hown (Kept.setCell (S := fun b => b = B) (Kept.refl _ w3) (p := ⟨B, 0, none⟩) (fun _ => rfl) _) (R := fun b => b = B) (fun k hk hrk => ?_)
    have := (own_block hown hk).1
    omega

/-- The law of a loop over an iterator with one variable. -/
theorem rangeFunc_one {F : Fence} {n : Nat} {P : Program} {α : Type} {g : Operand} {p q : Tmp} {assign body : Code} {Q : Exit → Act → World → Prop} {a : Act} {w : World}
    (hro : F.round = none) (h1 : 1 ≤ n) {gf : Nat} {lb : Array Value} (hg : a.eval g = .func (.func gf) #[] lb) (hFg : F.fn gf) (eg : ∀ args w, (callFunc gf args).run P w = .ok (.enter gf args) w)
    {enc : α → Value} {Kp : World → World → Prop} {S Sp : List α → Prop} {N : Nat} (hseq : SeqStopsK F (n - 1) P gf lb (fun x => #[enc x]) Kp S Sp N w)
    (hKt : ∀ {A B C : World}, Kp A B → Kp B C → Kp A C) (hKb : ∀ (W : World) (l : Nat) (o o' : Obj), w.heap.size ≤ l → W.heap[l]? = some o → o.isCells = false → o.isWalk = false → Kp W (W.putObj l o'))
    (I : List α → World → Prop) (Ix : Code → List α → World → Prop) (hI : OwnFrom w.heap.size I) (hIx : ∀ c, OwnFrom w.heap.size (Ix c)) (h0 : I [] w)
    (hassign : ∀ (l : Nat) (x : α) (W : World) (K : Act → World → Prop), K { tmps := (a.tmps.setIfInBounds p (enc x)).setIfInBounds q (enc x), defers := [] } W →
      assign.wpIn (F.inRound l) (n - 1 - 1) P (Exit.then K (fun _ _ _ => False)) { tmps := a.tmps.setIfInBounds p (enc x), defers := [] } W)
    (hbody : ∀ (l : Nat) (pre : List α) (x : α) (W : World), I pre W → pre.length < N → body.wpIn (F.inRound l) (n - 1 - 1) P (ownPostG w.heap.size Kp I Ix (pre ++ [x]) W) { tmps := (a.tmps.setIfInBounds p (enc x)).setIfInBounds q (enc x), defers := [] } W)
    (hdone : ∀ (D : Nat) (xs : List α) (W : World), w.heap.size ≤ D → S xs → I xs W → W.heap[D]? = some (.deferred (some [])) → Q .normal { a with defers := { target := .collected D, args := #[] } :: a.defers } W)
    (hstop : ∀ (D : Nat) (c : Code) (pre : List α) (W : World), w.heap.size ≤ D → Sp pre → Ix c pre W → W.heap[D]? = some (.deferred (some [])) → c.wpIn F n P Q { a with defers := { target := .collected D, args := #[] } :: a.defers } W) :
    (Code.rangeFunc g #[p] assign body).wpIn F n P Q a w :=
  wpIn_rangeFunc_ownG hro h1 hg hFg eg hseq hKt hKb (Below.refl _ _) (fun _ => rfl) I Ix hI hIx h0 (fun x => { tmps := (a.tmps.setIfInBounds p (enc x)).setIfInBounds q (enc x), defers := [] })
    (fun l x W K hK => by
      rw [show (#[p].zip #[enc x]) = #[(p, enc x)] from by simp]
      exact hassign l x W K hK) hbody hdone hstop

end Go.Proofs.Ytefclohjeompkaa

/- What the lists hold at the law's end. -/
namespace Go.Proofs.Ytefclohjeompkaa
open Go Go.RowKit Go.Shelf Go.Proofs.Gen Go.Proofs.Bdd Go.Proofs.Bdd.T

/-- A list of numbers as it is read. -/
def RdU (w : World) (ao : Option Addr) (l : List Nat) : Prop := ∀ (i x : Nat), l[i]? = some x → ∃ g, ao = some ⟨g, 0, none⟩ ∧ w.cell? ⟨g, i, none⟩ = some (.int .u32 x)

theorem rdU_owns {w : World} {base : Nat} {ao : Option Addr} {cap n : Nat} {l : List Nat} (h : w.ownsRow base 24 1 (.slice ao n cap) n (l.map uv)) (hn : l.length = n) : RdU w ao l := by
  intro i x hx
  have hlt : i < l.length := (List.getElem?_eq_some_iff.1 hx).1
  obtain ⟨g, cap', e, h0, -⟩ := row1 h (k := i) (u := uv x) (by rw [List.getElem?_map, hx]; rfl) (by omega)
  cases e
  exact ⟨g, rfl, h0⟩
theorem RdU.near {w w' : World} {ao : Option Addr} {l : List Nat} (h : RdU w ao l) (hn : Near w w') : RdU w' ao l := fun i x hx => by
  obtain ⟨g, h1, h2⟩ := h i x hx
  exact ⟨g, h1, hn.cell h2⟩

structure EndF (B eb en : Nat) (wv : Value) (ao1 ao2 : Option Addr) (cap1 cap2 : Nat) (L1 L : List Nat) (W : World) : Prop where
  c1 : W.cell? ⟨B, 0, none⟩ = some (.slice ao1 L1.length cap1)
  c2 : W.cell? ⟨B + 1, 0, none⟩ = some (.slice ao2 L.length cap2)
  c3 : W.cell? ⟨eb, 0, none⟩ = some (.int .u8 en)
  r1 : RdU W ao1 L1
  r2 : RdU W ao2 L
  r3 : ∃ ao3 cap3, wv = .slice ao3 L.length cap3 ∧ RdU W ao3 L

theorem EndF.near {B eb en : Nat} {wv : Value} {ao1 ao2 : Option Addr} {cap1 cap2 : Nat} {L1 L : List Nat} {W W' : World} (h : EndF B eb en wv ao1 ao2 cap1 cap2 L1 L W) (hn : Near W W') : EndF B eb en wv ao1 ao2 cap1 cap2 L1 L W' :=
  ⟨hn.cell h.c1, hn.cell h.c2, hn.cell h.c3, h.r1.near hn, h.r2.near hn, by obtain ⟨ao3, cap3, h1, h2⟩ := h.r3; exact ⟨ao3, cap3, h1, h2.near hn⟩⟩

theorem end_facts {B eb en base : Nat} {wv : Value} {ao1 ao2 : Option Addr} {cap1 cap2 : Nat} {L1 L : List Nat} {W0 W W2 : World} (hs : W0.heap.size = B + 1 + 1) (heb : eb < B)
    (hB : W.heap[B]? = some (.cells #[.slice ao1 L1.length cap1] 63 (0, 0))) (hB0 : W0.heap[B]? = some (.cells #[.slice none 0 0] 63 (0, 0))) (hB1 : W0.heap[B + 1]? = some (.cells #[.slice none 0 0] 63 (0, 0))) (h1 : W.ownsRow W0.heap.size 24 1 (.slice ao1 L1.length cap1) L1.length (L1.map uv)) (hk : Kept (fun b => b = B) W0 W)
    (hC : W2.heap[B + 1]? = some (.cells #[.slice ao2 L.length cap2] 63 (0, 0))) (h2 : W2.ownsRow W.heap.size 24 1 (.slice ao2 L.length cap2) L.length (L.map uv)) (hk2 : Kept (fun b => b = B + 1) W W2)
    (he : W0.heap[eb]? = some (.cells #[.int .u8 en] 5 (0, 0))) (hw : W0.ownsRow base 24 1 wv L.length (L.map uv)) : EndF B eb en wv ao1 ao2 cap1 cap2 L1 L W2 := by
  have ltB : B < W.heap.size := (Array.getElem?_eq_some_iff.1 hB).1
  have hsz := hk.size
  refine ⟨cell1 (o := 0) ((hk2.block B ltB (by omega)).trans hB) rfl, cell1 (o := 0) hC rfl, ?_, ?_, rdU_owns h2 rfl, ?_⟩
  · exact hk2.cell (hk.cell (cell1 (o := 0) he rfl) (by show ¬ eb = B; omega)) (by show ¬ eb = B + 1; omega)
  · refine rdU_owns (owns_kept h1 hk2 (R := fun b => b = B + 1) fun k hk' e => ?_) rfl
    have := (own_block h1 hk').1
    omega
  · have no : ∀ k, wv.ownBlock = some k → k ≠ B ∧ k ≠ B + 1 := fun k hk' => by
      obtain ⟨-, cur, fr, hc⟩ := own_block hw hk'
      constructor
      · rintro rfl
        rw [hc] at hB0
        cases hB0
      · rintro rfl
        rw [hc] at hB1
        cases hB1
    have hw2 := owns_kept (owns_kept hw hk (R := fun b => b = B) fun k hk' e => (no k hk').1 e) hk2 (R := fun b => b = B + 1) fun k hk' e => (no k hk').2 e
    obtain ⟨ao3, cap3, rfl⟩ := owns_form hw2
    exact ⟨ao3, cap3, rfl, rdU_owns hw2 rfl⟩

end Go.Proofs.Ytefclohjeompkaa

/- The law DiagramLists: the walk. -/
namespace Go.Proofs.Ytefclohjeompkaa
open Go Go.RowKit Go.Shelf Go.Proofs.Gen Go.Proofs.Bdd Go.Proofs.Bdd.T
attribute [local go_sem] Oper.semAt_some

set_option maxRecDepth 100000 in
set_option maxHeartbeats 64000000 in
theorem lists_main {w : World} {v : Value} {l : List SOp} (h : RdOps w v l) (hb : mentB l = true) {n : Int} (hn10 : n ≤ 10) {m : Nat} (hm : m ≤ 10)
    (hA : ∀ w v f, IsF w v f → Calls Try.prog 39 #[v, .int .i64 n] w (AllPost w f m))
    (hR : ∀ w v f, IsG w v f → Calls Try.prog 38 #[v, .int .i64 n] w fun e w' => ∃ sv, e = .returned sv ∧ w'.ownsRow (w.heap.size + 1) 24 1 sv (wantTo f (2 ^ m)).length ((wantTo f (2 ^ m)).map uv) ∧ Near w w')
    {en : Nat} (hen : en ≤ 255) : Calls Try.prog 9 #[v, .int .i64 n, .int .u8 en] w fun e w' => e = .returned (.bool true) ∧ Near w w' := by
  have HM := Lib.hid (ment_calls h)
  have HB := Lib.hid hb
  have hok := mentB_ok hb
  have hl12 := hok.1
  have h40 := Lib.hid hok.2
  have HL := Lib.hid h
  have HA := Lib.hid hA
  have HR := Lib.hid hR
  obtain ⟨ao, cap, rfl, -⟩ := h
  have hn10' : ¬ (10 < n) := by omega
  clear hb hok hA hR
  have hN0 : Near w (w.alloc (.cells #[.int .u8 en] 5)) := (Near.refl w).alloc _
  have hE0 : (w.alloc (.cells #[.int .u8 en] 5)).heap[w.heap.size]? = some (.cells #[.int .u8 en] 5 (0, 0)) := heap_new_at rfl
  have HN0 := Lib.hid hN0
  have HE0 := Lib.hid hE0
  clear hN0 hE0
  refine (callsIn_wide (n := 6)).1 ?_
  refine callsIn_of_wp_marks Try.func9 rfl trivial ?_ rfl
  simp only [Try.ntmps9, List.size_toArray, List.length_cons, List.length_nil, Nat.reduceAdd, Nat.reduceSub, Array.replicate_succ, Array.replicate_zero, List.push_toArray, List.append_toArray, List.nil_append, List.cons_append]
  gi_wp2_with (first
    | (refine ⟨trivial, ?_⟩; gi_at_call 23; refine (callsIn_wide.2 (ment_calls (HL.out.near HN0.out))).mono ?_; rintro e w1 ⟨rfl, n1⟩; rw [HB.out]; have HN1 := Lib.hid n1; clear n1)
    | (refine ⟨trivial, ?_⟩; gi_at_call 24; refine (callsIn_wide.2 (both_calls2 (HL.out.near (HN0.out.trans HN1.out)) (by omega) h40.out)).mono ?_; rintro e w2 ⟨sv, tv, rfl, s2, t2, n2⟩; obtain ⟨g, sc, u0, u1, rfl, x0, x1, hi⟩ := s2.last; obtain ⟨g', tc, v0, v1, rfl, y0, y1, hi'⟩ := t2.last; obtain ⟨p1, p2, p3, p4, hpe⟩ := hi.form; obtain ⟨q1, q2, q3, q4, q5, q6, hqe⟩ := hi'.form; simp only [Value.agg.injEq, Array.mk.injEq, List.cons.injEq, and_true] at hpe hqe; obtain ⟨rfl, rfl⟩ := hpe; obtain ⟨rfl, rfl⟩ := hqe; have HN2 := Lib.hid n2; have HIS := Lib.hid hi; have HIT := Lib.hid hi'; clear s2 t2 n2 hi hi')
    | (refine ⟨trivial, ?_⟩; gi_at_call 17; refine (callsIn_wide.2 (wakes_calls _)).mono ?_; rintro e w3 ⟨rfl, n3⟩; have HN3 := Lib.hid n3; replace x0 := n3.cell x0; replace x1 := n3.cell x1; replace y0 := n3.cell y0; replace y1 := n3.cell y1; clear n3)
    | (refine ⟨trivial, ?_⟩; gi_at_call 38; refine (callsIn_wide.2 (HR.out _ _ _ (HIT.out.near HN3.out))).mono ?_; rintro e w4 ⟨wv, rfl, hw, n4⟩; have HN4 := Lib.hid n4; have HW := Lib.hid hw; replace x0 := n4.cell x0; replace x1 := n4.cell x1; clear n4 hw)
    | (refine ⟨trivial, ?_⟩; gi_at_call 39; refine (callsIn_wide.2 (HA.out _ _ _ (HIS.out.near (HN3.out.trans HN4.out)))).mono ?_; rintro e w5 ⟨b1, b2, rfl, hcat, hb1, hb2, n5⟩; have HN5 := Lib.hid n5; have HCat := Lib.hid hcat; clear n5 hcat))
  have hfacts : ∀ W0, W0 = (w5.alloc (.cells #[.slice none 0 0] 63)).alloc (.cells #[.slice none 0 0] 63) → Near w5 W0 ∧ W0.heap.size = w5.heap.size + 1 + 1 ∧ W0.heap[w5.heap.size]? = some (.cells #[.slice none 0 0] 63 (0, 0)) ∧ W0.heap[w5.heap.size + 1]? = some (.cells #[.slice none 0 0] 63 (0, 0)) := by
    rintro W rfl
    exact ⟨((Near.refl w5).alloc _).alloc _, by simp, (heap_old_at (by simp)).trans (heap_new_at rfl), heap_new_at (by simp)⟩
  have hf0 := hfacts _ rfl
  generalize (w5.alloc (.cells #[.slice none 0 0] 63)).alloc (.cells #[.slice none 0 0] 63) = W0 at hf0 ⊢
  clear hfacts
  obtain ⟨hN, hS, hB1, hB2⟩ := hf0
  obtain ⟨i0, hi0, hz0, hz1, hz2⟩ := info_parts info24
  have hlow := HIS.out.low
  have HLow := Lib.hid hlow
  have HWw : Near w W0 := ((((HN0.out.trans HN1.out).trans HN2.out).trans HN3.out).trans HN4.out).trans (HN5.out.trans hN)
  have HEN := Lib.hid (show W0.heap[w.heap.size]? = some (.cells #[.int .u8 en] 5 (0, 0)) from keepN (((((HN1.out.trans HN2.out).trans HN3.out).trans HN4.out).trans HN5.out).trans hN) HE0.out)
  have HC0 := Lib.hid (HCat.out.near hN)
  have HW0 := Lib.hid (owns_kept HW.out (HN5.out.trans hN) (R := fun _ => False) (fun _ _ x => x))
  have hszw : w.heap.size < w5.heap.size := by
    have h1 := (Array.getElem?_eq_some_iff.1 HE0.out).1
    have h2 := HN1.out.size'
    have h3 := HN2.out.size'
    have h4 := HN3.out.size'
    have h5 := HN4.out.size'
    have h6 := HN5.out.size'
    omega
  have hb1' : b1 < w5.heap.size := by obtain ⟨⟨u1, u2, u3, u4, h1, -⟩, -, -⟩ := HCat.out; exact (Array.getElem?_eq_some_iff.1 h1).1
  have hb2' : b2 < w5.heap.size := (Array.getElem?_eq_some_iff.1 HCat.out.num).1
  have hw45 : w4.heap.size ≤ w5.heap.size := HN5.out.size'
  have HSz := Lib.hid hS
  have HB1 := Lib.hid hB1
  have HB2 := Lib.hid hB2
  have HNW := Lib.hid HWw
  generalize w5.heap.size = B at *
  generalize hff : lastF l = f at *
  generalize l.length = ll at *
  clear hN hS hB1 hB2 hlow HWw hff x0 x1 y0 y1 HB HM HCat HW HE0
  refine rangeFunc_one (q := 14) rfl (by omega) (gf := 95) (lb := #[.pointer (some ⟨b1, 0, none⟩), .pointer (some ⟨b2, 0, none⟩)]) rfl trivial (enters_of Try.func95 (by kernel_rfl) rfl)
    (all_stops (n := 6 - 1) (by omega) HLow.out HC0.out) (fun h k => KeepD.trans h k) ?hKb
    (fun pre W => LI B W0 pre W ∧ pre.length ≤ en) (fun c pre W => c = .exit 0 ∧ LI B W0 pre W ∧ pre.length = en + 1)
    ?own ?ownx ?h0 ?assign ?body ?done ?stop
  case hKb => exact fun W l o o' _ hl ho _ => keepD_putObj o' hl ho
  case own => exact fun s W W' row h hg hr => ⟨li_own (by have := HSz.out; omega) _ _ _ _ h.1 hg hr, h.2⟩
  case ownx => exact fun c s W W' row h hg hr => ⟨h.1, li_own (by have := HSz.out; omega) _ _ _ _ h.2.1 hg hr, h.2.2⟩
  case h0 => exact ⟨⟨none, 0, HB1.out, World.ownsRow_nil _ _ _ _, Kept.refl _ _⟩, by simp⟩
  case assign =>
    intro l x W K hK
    simp only [List.setIfInBounds_toArray, List.set_cons_zero, List.set_cons_succ] at hK ⊢
    gi_wp2
    exact hK
  case body =>
    rintro l pre x W ⟨⟨ao1, cap1, hb, hown, hk⟩, hle⟩ _
    have hB0 : B < W0.heap.size := by have := HSz.out; omega
    have HBx := Lib.hid hb
    have HOw := Lib.hid hown
    have HKp := Lib.hid hk
    have c0 : W.cell? ⟨B, 0, none⟩ = some (.slice ao1 pre.length cap1) := cell1 (o := 0) hb rfl
    have hsz := hk.size
    clear hb hown hk
    simp only [uv, List.setIfInBounds_toArray, List.set_cons_zero, List.set_cons_succ]
    gi_upto_region 12 with (gi_at_builtin; refine wpListIn_append_own _ rfl (.tmp 52) (.tmp 54) 63 rfl W0.heap.size 24 i0 (.int .u32 0) 1 4 Try.underlying63 hi0 hz0 hz1 hz2 rfl (by decide) _ _ _ rfl (HOw.out.alloc _) ⟨W.heap.size, 0, none⟩ 1 1 [uv x] rfl rfl (cell_one_at rfl _ _) (by simp [Value.oneCell', uv]) (by unfold maxLen; omega) (by omega) (by simp <;> omega) ?_; intro v3 w3 hown3 hg3 _; obtain ⟨ao3, cap3, rfl⟩ := owns_form hown3; have HSt := Lib.hid (li_step (x := x) hB0 HBx.out HOw.out HKp.out hg3 hown3); have d0 := cell1 (o := 0) HSt.out.1 rfl; have df := free1 HSt.out.1)
    have hst := HSt.out.2 _ rfl
    generalize w3.setCell ⟨B, 0, none⟩ (.slice ao3 (pre.length + 1) cap3) = W4 at hst ⊢
    obtain ⟨k1, k2, hli⟩ := hst
    have HK1 := Lib.hid k1
    have HK2 := Lib.hid k2
    have HLi := Lib.hid hli
    obtain ⟨ao4, cap4, hb4, hown4, hk4⟩ := hli
    have hlen : (pre ++ [x]).length = pre.length + 1 := by simp
    have HLen := Lib.hid hlen
    rw [hlen] at hb4
    have c4 : W4.cell? ⟨B, 0, none⟩ = some (.slice ao4 (pre.length + 1) cap4) := cell1 (o := 0) hb4 rfl
    have e4 : W4.cell? ⟨w.heap.size, 0, none⟩ = some (.int .u8 en) := hk4.cell (cell1 (o := 0) HEN.out rfl) (by show ¬ w.heap.size = B; omega)
    have wre : IntKind.i64.wrap (en : Int) = en := IntWalk.i64_in _ (by omega)
    clear k1 k2 hlen hb4 hown4 hk4 c0 d0 df
    by_cases hgt : en < pre.length + 1
    · have hgt' : (en : Int) < (pre.length : Int) + 1 := by omega
      gi_wp2
      exact ⟨HK1.out, rfl, HLi.out, by rw [HLen.out]; omega⟩
    · have hgt' : ¬ ((en : Int) < (pre.length : Int) + 1) := by omega
      gi_wp2
      exact ⟨HK1.out, HK2.out, HLi.out, by rw [HLen.out]; omega⟩
  case done =>
    rintro D1 xs W hD1 rfl ⟨⟨ao1, cap1, hb, hown, hk⟩, hle⟩ hdef
    obtain ⟨L1, hL1⟩ : ∃ L1, L1 = wantL f m := ⟨_, rfl⟩
    rw [← hL1] at hb hown hle
    have hfst : L1 = (wantL f m).take (en + 1) := by rw [List.take_of_length_le (by rw [← hL1]; omega)]; exact hL1
    clear hL1
    have HFst := Lib.hid hfst
    have HOw := Lib.hid hown
    have HKp := Lib.hid hk
    have HD1 := Lib.hid hdef
    have HBx := Lib.hid hb
    have hkd : KeepD W0 W := Kept.mono hk (fun b _ e => ⟨_, (congrArg (fun k => W0.heap[k]?) (show b = B from e)).trans HB1.out, fun cur fr => ⟨(fun h => by cases h), (fun h => by cases h)⟩⟩)
    have HC1 := Lib.hid (show CatD W b1 b2 f m from by
      obtain ⟨⟨u1, u2, u3, u4, h1, h2⟩, h3, h4⟩ := HC0.out
      exact ⟨⟨u1, u2, u3, u4, hkd.box h1, h2.keepD hkd⟩, (hk.block b2 (Array.getElem?_eq_some_iff.1 h3).1 (by omega)).trans h3, h4⟩)
    have HB2W := Lib.hid (show W.heap[B + 1]? = some (.cells #[.slice none 0 0] 63 (0, 0)) from (hk.block (B + 1) (Array.getElem?_eq_some_iff.1 HB2.out).1 (by omega)).trans HB2.out)
    have hszW := hk.size
    clear hb hown hk hkd hdef hfst
    gi_wp2
    refine rangeFunc_one (q := 15) rfl (by omega) (gf := 95) (lb := #[.pointer (some ⟨b1, 0, none⟩), .pointer (some ⟨b2, 0, none⟩)]) rfl trivial (enters_of Try.func95 (by kernel_rfl) rfl)
      (all_stops (n := 6 - 1) (by omega) HLow.out HC1.out) (fun h k => KeepD.trans h k) (fun W l o o' _ hl ho _ => keepD_putObj o' hl ho)
      (fun pre W' => LI (B + 1) W pre W') (fun _ _ _ => False) (li_own (by have := HSz.out; omega)) (fun _ _ _ _ _ hs _ _ => hs) ⟨none, 0, HB2W.out, World.ownsRow_nil _ _ _ _, Kept.refl _ _⟩ ?assign2 ?body2 ?done2 (fun _ _ _ _ _ _ h _ => h.elim)
    case assign2 =>
      intro l x W K hK
      simp only [List.setIfInBounds_toArray, List.set_cons_zero, List.set_cons_succ] at hK ⊢
      gi_wp2
      exact hK
    case body2 =>
      rintro l pre x W5 ⟨ao5, cap5, hb, hown, hk⟩ hplen
      have hB0 : B + 1 < W.heap.size := by have := HSz.out; omega
      have HBx5 := Lib.hid hb
      have HOw5 := Lib.hid hown
      have HKp5 := Lib.hid hk
      have c0 : W5.cell? ⟨B + 1, 0, none⟩ = some (.slice ao5 pre.length cap5) := cell1 (o := 0) hb rfl
      have hsz := hk.size
      clear hb hown hk
      simp only [uv, List.setIfInBounds_toArray, List.set_cons_zero, List.set_cons_succ]
      gi_wp2_with (gi_at_builtin; refine wpListIn_append_own _ rfl (.tmp 63) (.tmp 65) 63 rfl W.heap.size 24 i0 (.int .u32 0) 1 4 Try.underlying63 hi0 hz0 hz1 hz2 rfl (by decide) _ _ _ rfl (HOw5.out.alloc _) ⟨W5.heap.size, 0, none⟩ 1 1 [uv x] rfl rfl (cell_one_at rfl _ _) (by simp [Value.oneCell', uv]) (by unfold maxLen; omega) (by omega) (by simp <;> omega) ?_; intro v3 w3 hown3 hg3 _; obtain ⟨ao3, cap3, rfl⟩ := owns_form hown3; have HSt := Lib.hid (li_step (x := x) hB0 HBx5.out HOw5.out HKp5.out hg3 hown3); have d0 := cell1 (o := 0) HSt.out.1 rfl; have df := free1 HSt.out.1)
      exact HSt.out.2 _ rfl
    case done2 =>
      rintro D2 xs W2 hD2 rfl ⟨ao2, cap2, hb, hown, hk⟩ hdef2
      have HKp2 := Lib.hid hk
      have HD2 := Lib.hid hdef2
      have HFx := Lib.hid (end_facts HSz.out hszw HBx.out HB1.out HB2.out HOw.out HKp.out hb hown hk HEN.out (show W0.ownsRow _ 24 1 wv (wantL f m).length ((wantL f m).map uv) from HW0.out))
      have hlen1 : L1.length = min (en + 1) (wantL f m).length := by rw [HFst.out, List.length_take]
      have hget : ∀ i, i < L1.length → L1[i]? = (wantL f m)[i]? := fun i hi => by rw [HFst.out, List.getElem?_take, if_pos (by omega)]
      have HGet := Lib.hid hget
      have hwl : (wantL f m).length ≤ 1024 := by
        have h1 := wantTo_len f (2 ^ m)
        have h2 := Nat.pow_le_pow_right (n := 2) (by omega) hm
        exact Nat.le_trans h1 h2
      clear hb hown hk hdef2 hget
      clear HFst HC1 HB2W HOw HBx
      generalize wantL f m = L at *
      obtain ⟨ao3, cap3, rfl, r3⟩ := HFx.out.r3
      have HR3 := Lib.hid (fun (W' : World) (hn : Near W2 W') => r3.near hn)
      clear r3
      gi_wp2
      refine wpIn_wide.2 ?_
      go_loopw [16] (fun i wr => ∃ k : Nat, k ≤ L1.length ∧ i = .int .i64 k ∧ Near W2 wr) (fun i _ => L1.length - (intOf i).toNat)
      case atStart => exact ⟨0, Nat.zero_le _, rfl, Near.refl _⟩
      case round =>
        obtain ⟨k, hk, rfl, hn⟩ := hrel
        have hE := HFx.out.near hn
        have hr3 := HR3.out _ hn
        have HNr := Lib.hid hn
        have c1 := hE.c1
        by_cases hlt : k < L1.length
        · have hlt' : (k : Int) < L1.length := by omega
          have hltL : (k : Int) < L.length := by omega
          have hgeL : ¬ ((L.length : Int) ≤ k) := by omega
          obtain ⟨x, hx⟩ : ∃ x, L1[k]? = some x := ⟨_, List.getElem?_eq_getElem hlt⟩
          have hxL : L[k]? = some x := (HGet.out k hlt).symm.trans hx
          obtain ⟨g1, e1, p1⟩ := hE.r1 k x hx
          obtain ⟨g3, e3, p3⟩ := hr3 k x hxL
          rw [e1] at c1
          subst e3
          clear hE hr3 hx hxL hn
          go_upto_region 19 with fail
          go_quiet (fail)
          go_wp2_with fail
          exact ⟨⟨k + 1, by omega, by go_num, HNr.out.drewN _⟩, by simp [intOf]; omega⟩
        · have hkl : k = L1.length := by omega
          have hlt' : ¬ ((k : Int) < L1.length) := by omega
          have c2 := hE.c2
          have c3 := hE.c3
          clear hE hr3 hn
          subst hkl
          go_wp2_with fail
          refine wpIn_wide.2 ?_
          obtain ⟨n1, hn1⟩ : ∃ n1, L1.length = n1 := ⟨_, rfl⟩
          have HN1' := Lib.hid hn1
          have wre : IntKind.i64.wrap (en : Int) = en := IntWalk.i64_in _ (by omega)
          have wre1 : IntKind.i64.wrap ((en : Int) + 1) = (en : Int) + 1 := IntWalk.i64_in _ (by omega)
          rw [hn1] at c1 hlen1
          clear hn1
          have post : ∀ wr', Near W2 wr' → ∀ a : Act, a.defers = [{ target := .collected D2, args := #[] }, { target := .collected D1, args := #[] }] → a.tmps.getD 6 undef = .bool true → bodyPostM Fence.wide 6 Try.prog Try.f9 (fun e w' => e = .returned (.bool true) ∧ Near w w') .ret a wr' := by
            intro wr' hn a hd ht
            obtain ⟨at0, ad0⟩ := a
            subst hd
            have lt1 := (Array.getElem?_eq_some_iff.1 HD1.out).1
            have lt2 := (Array.getElem?_eq_some_iff.1 HD2.out).1
            have hS := HSz.out
            have h1 : W2.heap[D1]? = some (.deferred (some [])) := (HKp2.out.block D1 lt1 (by omega)).trans HD1.out
            have h2' := keepN hn HD2.out
            have h1' := keepN hn h1
            have k2 := kept_putObj wr' D2 (Obj.deferred none)
            have h1'' := (k2.block D1 (Array.getElem?_eq_some_iff.1 h1').1 (by omega)).trans h1'
            refine ⟨by simp, .inl ⟨_, _, rfl, run_takeDeferred h2', ?_⟩⟩
            refine ⟨by simp, .inl ⟨_, _, rfl, run_takeDeferred h1'', ?_⟩⟩
            have k1 := kept_putObj (wr'.putObj D2 (Obj.deferred none)) D1 (Obj.deferred none)
            have hz2 := HKp.out.size
            have kk : Kept (fun b => w.heap.size ≤ b) w ((wr'.putObj D2 (Obj.deferred none)).putObj D1 (Obj.deferred none)) :=
              ((((HNW.out.kept.trans (Kept.mono HKp.out (fun b _ e => by omega))).trans (Kept.mono HKp2.out (fun b _ e => by omega))).trans hn.kept).trans (Kept.mono k2 (fun b _ e => by omega))).trans (Kept.mono k1 (fun b _ e => by omega))
            refine ⟨.bool true, ?_, rfl, Kept.mono kk (fun b hb e => by omega)⟩
            simp at ht
            simp [results, Try.results9, go_sem, ht]
          have HPost := Lib.hid post
          clear post
          by_cases hcmp : n1 < L.length
          · have hcmp' : (n1 : Int) < L.length := by omega
            obtain rfl : n1 = en + 1 := by omega
            clear hlen1 hcmp
            go_upto_region 23 with fail
            go_wp2_with fail
            go_loopw [17] (fun i wz => ∃ k : Nat, k ≤ L.length ∧ i = .int .i64 k ∧ Near wr wz) (fun i _ => L.length - (intOf i).toNat)
            case atStart => exact ⟨0, Nat.zero_le _, rfl, Near.refl _⟩
            case round =>
              clear c1 c2 c3
              obtain ⟨k, hk, rfl, hn⟩ := hrel
              have hE := HFx.out.near (HNr.out.trans hn)
              have hr3 := HR3.out _ (HNr.out.trans hn)
              have HNz := Lib.hid hn
              have c2 := hE.c2
              by_cases hlt : k < L.length
              · have hlt' : (k : Int) < L.length := by omega
                obtain ⟨x, hx⟩ : ∃ x, L[k]? = some x := ⟨_, List.getElem?_eq_getElem hlt⟩
                obtain ⟨g2, e2, p2⟩ := hE.r2 k x hx
                obtain ⟨g3, e3, p3⟩ := hr3 k x hx
                rw [e2] at c2
                subst e3
                clear hE hr3 hx hn
                go_upto_region 26 with fail
                go_quiet (fail)
                go_wp2_with fail
                exact ⟨⟨k + 1, by omega, by go_num, HNz.out.drewN _⟩, by simp [intOf]; omega⟩
              · have hkl : k = L.length := by omega
                have hlt' : ¬ ((k : Int) < L.length) := by omega
                clear hE hr3 hn
                subst hkl
                go_wp2_with fail
                exact HPost.out _ (HNr.out.trans HNz.out) _ rfl rfl
          · have hcmp' : ¬ ((n1 : Int) < L.length) := by omega
            clear hlen1 hcmp
            go_upto_region 23 with fail
            go_wp2_with fail
            go_loopw [17] (fun i wz => ∃ k : Nat, k ≤ L.length ∧ i = .int .i64 k ∧ Near wr wz) (fun i _ => L.length - (intOf i).toNat)
            case atStart => exact ⟨0, Nat.zero_le _, rfl, Near.refl _⟩
            case round =>
              clear c1 c2 c3
              obtain ⟨k, hk, rfl, hn⟩ := hrel
              have hE := HFx.out.near (HNr.out.trans hn)
              have hr3 := HR3.out _ (HNr.out.trans hn)
              have HNz := Lib.hid hn
              have c2 := hE.c2
              by_cases hlt : k < L.length
              · have hlt' : (k : Int) < L.length := by omega
                obtain ⟨x, hx⟩ : ∃ x, L[k]? = some x := ⟨_, List.getElem?_eq_getElem hlt⟩
                obtain ⟨g2, e2, p2⟩ := hE.r2 k x hx
                obtain ⟨g3, e3, p3⟩ := hr3 k x hx
                rw [e2] at c2
                subst e3
                clear hE hr3 hx hn
                go_upto_region 26 with fail
                go_quiet (fail)
                go_wp2_with fail
                exact ⟨⟨k + 1, by omega, by go_num, HNz.out.drewN _⟩, by simp [intOf]; omega⟩
              · have hkl : k = L.length := by omega
                have hlt' : ¬ ((k : Int) < L.length) := by omega
                clear hE hr3 hn
                subst hkl
                go_wp2_with fail
                exact HPost.out _ (HNr.out.trans HNz.out) _ rfl rfl
  case stop =>
    rintro D1 c L1 W hD1 hpre ⟨rfl, ⟨ao1, cap1, hb, hown, hk⟩, hle⟩ hdef
    have hfst : L1 = (wantL f m).take (en + 1) := by rw [List.prefix_iff_eq_take.1 hpre, hle]
    clear hpre hle
    have HFst := Lib.hid hfst
    have HOw := Lib.hid hown
    have HKp := Lib.hid hk
    have HD1 := Lib.hid hdef
    have HBx := Lib.hid hb
    have hkd : KeepD W0 W := Kept.mono hk (fun b _ e => ⟨_, (congrArg (fun k => W0.heap[k]?) (show b = B from e)).trans HB1.out, fun cur fr => ⟨(fun h => by cases h), (fun h => by cases h)⟩⟩)
    have HC1 := Lib.hid (show CatD W b1 b2 f m from by
      obtain ⟨⟨u1, u2, u3, u4, h1, h2⟩, h3, h4⟩ := HC0.out
      exact ⟨⟨u1, u2, u3, u4, hkd.box h1, h2.keepD hkd⟩, (hk.block b2 (Array.getElem?_eq_some_iff.1 h3).1 (by omega)).trans h3, h4⟩)
    have HB2W := Lib.hid (show W.heap[B + 1]? = some (.cells #[.slice none 0 0] 63 (0, 0)) from (hk.block (B + 1) (Array.getElem?_eq_some_iff.1 HB2.out).1 (by omega)).trans HB2.out)
    have hszW := hk.size
    clear hb hown hk hkd hdef hfst
    gi_wp2
    refine rangeFunc_one (q := 15) rfl (by omega) (gf := 95) (lb := #[.pointer (some ⟨b1, 0, none⟩), .pointer (some ⟨b2, 0, none⟩)]) rfl trivial (enters_of Try.func95 (by kernel_rfl) rfl)
      (all_stops (n := 6 - 1) (by omega) HLow.out HC1.out) (fun h k => KeepD.trans h k) (fun W l o o' _ hl ho _ => keepD_putObj o' hl ho)
      (fun pre W' => LI (B + 1) W pre W') (fun _ _ _ => False) (li_own (by have := HSz.out; omega)) (fun _ _ _ _ _ hs _ _ => hs) ⟨none, 0, HB2W.out, World.ownsRow_nil _ _ _ _, Kept.refl _ _⟩ ?assign2 ?body2 ?done2 (fun _ _ _ _ _ _ h _ => h.elim)
    case assign2 =>
      intro l x W K hK
      simp only [List.setIfInBounds_toArray, List.set_cons_zero, List.set_cons_succ] at hK ⊢
      gi_wp2
      exact hK
    case body2 =>
      rintro l pre x W5 ⟨ao5, cap5, hb, hown, hk⟩ hplen
      have hB0 : B + 1 < W.heap.size := by have := HSz.out; omega
      have HBx5 := Lib.hid hb
      have HOw5 := Lib.hid hown
      have HKp5 := Lib.hid hk
      have c0 : W5.cell? ⟨B + 1, 0, none⟩ = some (.slice ao5 pre.length cap5) := cell1 (o := 0) hb rfl
      have hsz := hk.size
      clear hb hown hk
      simp only [uv, List.setIfInBounds_toArray, List.set_cons_zero, List.set_cons_succ]
      gi_wp2_with (gi_at_builtin; refine wpListIn_append_own _ rfl (.tmp 63) (.tmp 65) 63 rfl W.heap.size 24 i0 (.int .u32 0) 1 4 Try.underlying63 hi0 hz0 hz1 hz2 rfl (by decide) _ _ _ rfl (HOw5.out.alloc _) ⟨W5.heap.size, 0, none⟩ 1 1 [uv x] rfl rfl (cell_one_at rfl _ _) (by simp [Value.oneCell', uv]) (by unfold maxLen; omega) (by omega) (by simp <;> omega) ?_; intro v3 w3 hown3 hg3 _; obtain ⟨ao3, cap3, rfl⟩ := owns_form hown3; have HSt := Lib.hid (li_step (x := x) hB0 HBx5.out HOw5.out HKp5.out hg3 hown3); have d0 := cell1 (o := 0) HSt.out.1 rfl; have df := free1 HSt.out.1)
      exact HSt.out.2 _ rfl
    case done2 =>
      rintro D2 xs W2 hD2 rfl ⟨ao2, cap2, hb, hown, hk⟩ hdef2
      have HKp2 := Lib.hid hk
      have HD2 := Lib.hid hdef2
      have HFx := Lib.hid (end_facts HSz.out hszw HBx.out HB1.out HB2.out HOw.out HKp.out hb hown hk HEN.out (show W0.ownsRow _ 24 1 wv (wantL f m).length ((wantL f m).map uv) from HW0.out))
      have hlen1 : L1.length = min (en + 1) (wantL f m).length := by rw [HFst.out, List.length_take]
      have hget : ∀ i, i < L1.length → L1[i]? = (wantL f m)[i]? := fun i hi => by rw [HFst.out, List.getElem?_take, if_pos (by omega)]
      have HGet := Lib.hid hget
      have hwl : (wantL f m).length ≤ 1024 := by
        have h1 := wantTo_len f (2 ^ m)
        have h2 := Nat.pow_le_pow_right (n := 2) (by omega) hm
        exact Nat.le_trans h1 h2
      clear hb hown hk hdef2 hget
      clear HFst HC1 HB2W HOw HBx
      generalize wantL f m = L at *
      obtain ⟨ao3, cap3, rfl, r3⟩ := HFx.out.r3
      have HR3 := Lib.hid (fun (W' : World) (hn : Near W2 W') => r3.near hn)
      clear r3
      gi_wp2
      refine wpIn_wide.2 ?_
      go_loopw [16] (fun i wr => ∃ k : Nat, k ≤ L1.length ∧ i = .int .i64 k ∧ Near W2 wr) (fun i _ => L1.length - (intOf i).toNat)
      case atStart => exact ⟨0, Nat.zero_le _, rfl, Near.refl _⟩
      case round =>
        obtain ⟨k, hk, rfl, hn⟩ := hrel
        have hE := HFx.out.near hn
        have hr3 := HR3.out _ hn
        have HNr := Lib.hid hn
        have c1 := hE.c1
        by_cases hlt : k < L1.length
        · have hlt' : (k : Int) < L1.length := by omega
          have hltL : (k : Int) < L.length := by omega
          have hgeL : ¬ ((L.length : Int) ≤ k) := by omega
          obtain ⟨x, hx⟩ : ∃ x, L1[k]? = some x := ⟨_, List.getElem?_eq_getElem hlt⟩
          have hxL : L[k]? = some x := (HGet.out k hlt).symm.trans hx
          obtain ⟨g1, e1, p1⟩ := hE.r1 k x hx
          obtain ⟨g3, e3, p3⟩ := hr3 k x hxL
          rw [e1] at c1
          subst e3
          clear hE hr3 hx hxL hn
          go_upto_region 19 with fail
          go_quiet (fail)
          go_wp2_with fail
          exact ⟨⟨k + 1, by omega, by go_num, HNr.out.drewN _⟩, by simp [intOf]; omega⟩
        · have hkl : k = L1.length := by omega
          have hlt' : ¬ ((k : Int) < L1.length) := by omega
          have c2 := hE.c2
          have c3 := hE.c3
          clear hE hr3 hn
          subst hkl
          go_wp2_with fail
          refine wpIn_wide.2 ?_
          obtain ⟨n1, hn1⟩ : ∃ n1, L1.length = n1 := ⟨_, rfl⟩
          have HN1' := Lib.hid hn1
          have wre : IntKind.i64.wrap (en : Int) = en := IntWalk.i64_in _ (by omega)
          have wre1 : IntKind.i64.wrap ((en : Int) + 1) = (en : Int) + 1 := IntWalk.i64_in _ (by omega)
          rw [hn1] at c1 hlen1
          clear hn1
          have post : ∀ wr', Near W2 wr' → ∀ a : Act, a.defers = [{ target := .collected D2, args := #[] }, { target := .collected D1, args := #[] }] → a.tmps.getD 6 undef = .bool true → bodyPostM Fence.wide 6 Try.prog Try.f9 (fun e w' => e = .returned (.bool true) ∧ Near w w') .ret a wr' := by
            intro wr' hn a hd ht
            obtain ⟨at0, ad0⟩ := a
            subst hd
            have lt1 := (Array.getElem?_eq_some_iff.1 HD1.out).1
            have lt2 := (Array.getElem?_eq_some_iff.1 HD2.out).1
            have hS := HSz.out
            have h1 : W2.heap[D1]? = some (.deferred (some [])) := (HKp2.out.block D1 lt1 (by omega)).trans HD1.out
            have h2' := keepN hn HD2.out
            have h1' := keepN hn h1
            have k2 := kept_putObj wr' D2 (Obj.deferred none)
            have h1'' := (k2.block D1 (Array.getElem?_eq_some_iff.1 h1').1 (by omega)).trans h1'
            refine ⟨by simp, .inl ⟨_, _, rfl, run_takeDeferred h2', ?_⟩⟩
            refine ⟨by simp, .inl ⟨_, _, rfl, run_takeDeferred h1'', ?_⟩⟩
            have k1 := kept_putObj (wr'.putObj D2 (Obj.deferred none)) D1 (Obj.deferred none)
            have hz2 := HKp.out.size
            have kk : Kept (fun b => w.heap.size ≤ b) w ((wr'.putObj D2 (Obj.deferred none)).putObj D1 (Obj.deferred none)) :=
              ((((HNW.out.kept.trans (Kept.mono HKp.out (fun b _ e => by omega))).trans (Kept.mono HKp2.out (fun b _ e => by omega))).trans hn.kept).trans (Kept.mono k2 (fun b _ e => by omega))).trans (Kept.mono k1 (fun b _ e => by omega))
            refine ⟨.bool true, ?_, rfl, Kept.mono kk (fun b hb e => by omega)⟩
            simp at ht
            simp [results, Try.results9, go_sem, ht]
          have HPost := Lib.hid post
          clear post
          by_cases hcmp : n1 < L.length
          · have hcmp' : (n1 : Int) < L.length := by omega
            obtain rfl : n1 = en + 1 := by omega
            clear hlen1 hcmp
            go_upto_region 23 with fail
            go_wp2_with fail
            go_loopw [17] (fun i wz => ∃ k : Nat, k ≤ L.length ∧ i = .int .i64 k ∧ Near wr wz) (fun i _ => L.length - (intOf i).toNat)
            case atStart => exact ⟨0, Nat.zero_le _, rfl, Near.refl _⟩
            case round =>
              clear c1 c2 c3
              obtain ⟨k, hk, rfl, hn⟩ := hrel
              have hE := HFx.out.near (HNr.out.trans hn)
              have hr3 := HR3.out _ (HNr.out.trans hn)
              have HNz := Lib.hid hn
              have c2 := hE.c2
              by_cases hlt : k < L.length
              · have hlt' : (k : Int) < L.length := by omega
                obtain ⟨x, hx⟩ : ∃ x, L[k]? = some x := ⟨_, List.getElem?_eq_getElem hlt⟩
                obtain ⟨g2, e2, p2⟩ := hE.r2 k x hx
                obtain ⟨g3, e3, p3⟩ := hr3 k x hx
                rw [e2] at c2
                subst e3
                clear hE hr3 hx hn
                go_upto_region 26 with fail
                go_quiet (fail)
                go_wp2_with fail
                exact ⟨⟨k + 1, by omega, by go_num, HNz.out.drewN _⟩, by simp [intOf]; omega⟩
              · have hkl : k = L.length := by omega
                have hlt' : ¬ ((k : Int) < L.length) := by omega
                clear hE hr3 hn
                subst hkl
                go_wp2_with fail
                exact HPost.out _ (HNr.out.trans HNz.out) _ rfl rfl
          · have hcmp' : ¬ ((n1 : Int) < L.length) := by omega
            clear hlen1 hcmp
            go_upto_region 23 with fail
            go_wp2_with fail
            go_loopw [17] (fun i wz => ∃ k : Nat, k ≤ L.length ∧ i = .int .i64 k ∧ Near wr wz) (fun i _ => L.length - (intOf i).toNat)
            case atStart => exact ⟨0, Nat.zero_le _, rfl, Near.refl _⟩
            case round =>
              clear c1 c2 c3
              obtain ⟨k, hk, rfl, hn⟩ := hrel
              have hE := HFx.out.near (HNr.out.trans hn)
              have hr3 := HR3.out _ (HNr.out.trans hn)
              have HNz := Lib.hid hn
              have c2 := hE.c2
              by_cases hlt : k < L.length
              · have hlt' : (k : Int) < L.length := by omega
                obtain ⟨x, hx⟩ : ∃ x, L[k]? = some x := ⟨_, List.getElem?_eq_getElem hlt⟩
                obtain ⟨g2, e2, p2⟩ := hE.r2 k x hx
                obtain ⟨g3, e3, p3⟩ := hr3 k x hx
                rw [e2] at c2
                subst e3
                clear hE hr3 hx hn
                go_upto_region 26 with fail
                go_quiet (fail)
                go_wp2_with fail
                exact ⟨⟨k + 1, by omega, by go_num, HNz.out.drewN _⟩, by simp [intOf]; omega⟩
              · have hkl : k = L.length := by omega
                have hlt' : ¬ ((k : Int) < L.length) := by omega
                clear hE hr3 hn
                subst hkl
                go_wp2_with fail
                exact HPost.out _ (HNr.out.trans HNz.out) _ rfl rfl

set_option maxRecDepth 100000 in
set_option maxHeartbeats 3200000 in
theorem law_lists {w : World} {v : Value} {l : List SOp} (h : RdOps w v l) (n : Int) {en : Nat} (hen : en ≤ 255) : Calls Try.prog 9 #[v, .int .i64 n, .int .u8 en] w fun e w' => e = .returned (.bool true) ∧ Near w w' := by
  cases hb : mentB l with
  | false =>
    have HL := Lib.hid h
    have HB := Lib.hid hb
    obtain ⟨ao, cap, rfl, -⟩ := h
    clear hb
    go_enter Try.func9, Try.ntmps9
    go_wp2_with (first
      | (go_at_call 23; refine (ment_calls (HL.out.near ((Near.refl w).alloc _))).mono ?_; rintro e w1 ⟨rfl, n1⟩; rw [HB.out])
      | (go_at_call 17; refine (wakes_calls _).mono ?_; rintro e w2 ⟨rfl, n2⟩))
    go_ret
    exact ⟨rfl, (((Near.refl w).alloc _).trans n1).trans n2⟩
  | true =>
    by_cases hn : 10 < n
    · have HL := Lib.hid h
      have HB := Lib.hid hb
      obtain ⟨ao, cap, rfl, -⟩ := h
      clear hb
      go_enter Try.func9, Try.ntmps9
      go_wp2_with (first
        | (go_at_call 23; refine (ment_calls (HL.out.near ((Near.refl w).alloc _))).mono ?_; rintro e w1 ⟨rfl, n1⟩; rw [HB.out])
        | (go_at_call 17; refine (wakes_calls _).mono ?_; rintro e w2 ⟨rfl, n2⟩))
      go_ret
      exact ⟨rfl, (((Near.refl w).alloc _).trans n1).trans n2⟩
    · by_cases h0 : n < 0
      · exact lists_main h hb (by omega) (m := 0) (by omega) (fun w v f hf => all_neg hf h0) (fun w v f hf => rall_neg hf h0) hen
      · obtain ⟨m, rfl⟩ : ∃ m : Nat, n = m := ⟨n.toNat, by omega⟩
        exact lists_main h hb (by omega) (m := m) (by omega) (fun w v f hf => all_nat hf (by omega)) (fun w v f hf => rall_nat hf (by omega)) hen

end Go.Proofs.Ytefclohjeompkaa
