/- Parts of a proof: TakesC, ListC. -/
import Derived.Test.YtefclohjeompkaaKSaidB
import Derived.Test.YtefclohjeompkaaKListB
import Derived.Test.YtefclohjeompkaaKEachB
/- One operation that alone may come up, by number, where nothing is held; over any program (printed by gen_listc.py). -/
namespace Go.Proofs.Ytefclohjeompkaa
open Go Go.RowKit Go.Shelf Go.Proofs.Gen

section
variable {P : Program} {Q : Exit → Act → World → Prop} {md : Region.Mode} {S : World → Prop} {z fuel : Nat} {listed : Array Bool} {a : Act} {w : World} {v : Value} {oi : Oper} {r : List Oper}

theorem wpAny_one {ops : Array Oper} {i : Nat} {o : Oper} (hr : Region.ready md ops listed = [i]) (ho : ops[i]? = some o)
    (h : ∀ K' : Act → World → Prop, Shut (∀ a w, wpAny P md ops Q fuel (listed.setIfInBounds i true) a w → K' a w) → if Region.wanted o (yielded ops a.tmps) = true then Oper.wp P o a w K' Q else K' (a.put o.dst undef) w) :
    wpAny P md ops Q (fuel + 1) listed a w := by
  refine ⟨fun h => absurd h (by rw [hr]; simp), fun j hj => ?_⟩
  rw [hr] at hj
  cases List.mem_singleton.1 hj
  exact wpOp_step ho (fun K' hK => h K' (fun a w hW => hK a w hW))
theorem wpAny_done {ops : Array Oper} (hr : Region.ready md ops listed = []) (h : Q .normal a w) : wpAny P md ops Q 0 listed a w := ⟨hr, h⟩

theorem oneA0 (hr : Region.ready md (List.toArray (oi :: r)) listed = [0])
    (h : ∀ K' : Act → World → Prop, Shut (∀ a w, wpAny P md (List.toArray (oi :: r)) Q fuel (listed.setIfInBounds 0 true) a w → K' a w) → if Region.wanted oi (yielded (List.toArray (oi :: r)) a.tmps) = true then Oper.wp P oi a w K' Q else K' (a.put oi.dst undef) w) :
    wpAny P md (List.toArray (oi :: r)) Q (fuel + 1) listed a w :=
  wpAny_one hr rfl h
theorem oneA2 {x0 x1 : Oper} (hr : Region.ready md (List.toArray (x0 :: x1 :: oi :: r)) listed = [2])
    (h : ∀ K' : Act → World → Prop, Shut (∀ a w, wpAny P md (List.toArray (x0 :: x1 :: oi :: r)) Q fuel (listed.setIfInBounds 2 true) a w → K' a w) → if Region.wanted oi (yielded (List.toArray (x0 :: x1 :: oi :: r)) a.tmps) = true then Oper.wp P oi a w K' Q else K' (a.put oi.dst undef) w) :
    wpAny P md (List.toArray (x0 :: x1 :: oi :: r)) Q (fuel + 1) listed a w :=
  wpAny_one hr rfl h
theorem oneA7 {x0 x1 x2 x3 x4 x5 x6 : Oper} (hr : Region.ready md (List.toArray (x0 :: x1 :: x2 :: x3 :: x4 :: x5 :: x6 :: oi :: r)) listed = [7])
    (h : ∀ K' : Act → World → Prop, Shut (∀ a w, wpAny P md (List.toArray (x0 :: x1 :: x2 :: x3 :: x4 :: x5 :: x6 :: oi :: r)) Q fuel (listed.setIfInBounds 7 true) a w → K' a w) → if Region.wanted oi (yielded (List.toArray (x0 :: x1 :: x2 :: x3 :: x4 :: x5 :: x6 :: oi :: r)) a.tmps) = true then Oper.wp P oi a w K' Q else K' (a.put oi.dst undef) w) :
    wpAny P md (List.toArray (x0 :: x1 :: x2 :: x3 :: x4 :: x5 :: x6 :: oi :: r)) Q (fuel + 1) listed a w :=
  wpAny_one hr rfl h
theorem oneA8 {x0 x1 x2 x3 x4 x5 x6 x7 : Oper} (hr : Region.ready md (List.toArray (x0 :: x1 :: x2 :: x3 :: x4 :: x5 :: x6 :: x7 :: oi :: r)) listed = [8])
    (h : ∀ K' : Act → World → Prop, Shut (∀ a w, wpAny P md (List.toArray (x0 :: x1 :: x2 :: x3 :: x4 :: x5 :: x6 :: x7 :: oi :: r)) Q fuel (listed.setIfInBounds 8 true) a w → K' a w) → if Region.wanted oi (yielded (List.toArray (x0 :: x1 :: x2 :: x3 :: x4 :: x5 :: x6 :: x7 :: oi :: r)) a.tmps) = true then Oper.wp P oi a w K' Q else K' (a.put oi.dst undef) w) :
    wpAny P md (List.toArray (x0 :: x1 :: x2 :: x3 :: x4 :: x5 :: x6 :: x7 :: oi :: r)) Q (fuel + 1) listed a w :=
  wpAny_one hr rfl h
theorem oneA9 {x0 x1 x2 x3 x4 x5 x6 x7 x8 : Oper} (hr : Region.ready md (List.toArray (x0 :: x1 :: x2 :: x3 :: x4 :: x5 :: x6 :: x7 :: x8 :: oi :: r)) listed = [9])
    (h : ∀ K' : Act → World → Prop, Shut (∀ a w, wpAny P md (List.toArray (x0 :: x1 :: x2 :: x3 :: x4 :: x5 :: x6 :: x7 :: x8 :: oi :: r)) Q fuel (listed.setIfInBounds 9 true) a w → K' a w) → if Region.wanted oi (yielded (List.toArray (x0 :: x1 :: x2 :: x3 :: x4 :: x5 :: x6 :: x7 :: x8 :: oi :: r)) a.tmps) = true then Oper.wp P oi a w K' Q else K' (a.put oi.dst undef) w) :
    wpAny P md (List.toArray (x0 :: x1 :: x2 :: x3 :: x4 :: x5 :: x6 :: x7 :: x8 :: oi :: r)) Q (fuel + 1) listed a w :=
  wpAny_one hr rfl h
theorem oneA11 {x0 x1 x2 x3 x4 x5 x6 x7 x8 x9 x10 : Oper} (hr : Region.ready md (List.toArray (x0 :: x1 :: x2 :: x3 :: x4 :: x5 :: x6 :: x7 :: x8 :: x9 :: x10 :: oi :: r)) listed = [11])
    (h : ∀ K' : Act → World → Prop, Shut (∀ a w, wpAny P md (List.toArray (x0 :: x1 :: x2 :: x3 :: x4 :: x5 :: x6 :: x7 :: x8 :: x9 :: x10 :: oi :: r)) Q fuel (listed.setIfInBounds 11 true) a w → K' a w) → if Region.wanted oi (yielded (List.toArray (x0 :: x1 :: x2 :: x3 :: x4 :: x5 :: x6 :: x7 :: x8 :: x9 :: x10 :: oi :: r)) a.tmps) = true then Oper.wp P oi a w K' Q else K' (a.put oi.dst undef) w) :
    wpAny P md (List.toArray (x0 :: x1 :: x2 :: x3 :: x4 :: x5 :: x6 :: x7 :: x8 :: x9 :: x10 :: oi :: r)) Q (fuel + 1) listed a w :=
  wpAny_one hr rfl h
theorem oneA19 {x0 x1 x2 x3 x4 x5 x6 x7 x8 x9 x10 x11 x12 x13 x14 x15 x16 x17 x18 : Oper} (hr : Region.ready md (List.toArray (x0 :: x1 :: x2 :: x3 :: x4 :: x5 :: x6 :: x7 :: x8 :: x9 :: x10 :: x11 :: x12 :: x13 :: x14 :: x15 :: x16 :: x17 :: x18 :: oi :: r)) listed = [19])
    (h : ∀ K' : Act → World → Prop, Shut (∀ a w, wpAny P md (List.toArray (x0 :: x1 :: x2 :: x3 :: x4 :: x5 :: x6 :: x7 :: x8 :: x9 :: x10 :: x11 :: x12 :: x13 :: x14 :: x15 :: x16 :: x17 :: x18 :: oi :: r)) Q fuel (listed.setIfInBounds 19 true) a w → K' a w) → if Region.wanted oi (yielded (List.toArray (x0 :: x1 :: x2 :: x3 :: x4 :: x5 :: x6 :: x7 :: x8 :: x9 :: x10 :: x11 :: x12 :: x13 :: x14 :: x15 :: x16 :: x17 :: x18 :: oi :: r)) a.tmps) = true then Oper.wp P oi a w K' Q else K' (a.put oi.dst undef) w) :
    wpAny P md (List.toArray (x0 :: x1 :: x2 :: x3 :: x4 :: x5 :: x6 :: x7 :: x8 :: x9 :: x10 :: x11 :: x12 :: x13 :: x14 :: x15 :: x16 :: x17 :: x18 :: oi :: r)) Q (fuel + 1) listed a w :=
  wpAny_one hr rfl h
theorem oneA20 {x0 x1 x2 x3 x4 x5 x6 x7 x8 x9 x10 x11 x12 x13 x14 x15 x16 x17 x18 x19 : Oper} (hr : Region.ready md (List.toArray (x0 :: x1 :: x2 :: x3 :: x4 :: x5 :: x6 :: x7 :: x8 :: x9 :: x10 :: x11 :: x12 :: x13 :: x14 :: x15 :: x16 :: x17 :: x18 :: x19 :: oi :: r)) listed = [20])
    (h : ∀ K' : Act → World → Prop, Shut (∀ a w, wpAny P md (List.toArray (x0 :: x1 :: x2 :: x3 :: x4 :: x5 :: x6 :: x7 :: x8 :: x9 :: x10 :: x11 :: x12 :: x13 :: x14 :: x15 :: x16 :: x17 :: x18 :: x19 :: oi :: r)) Q fuel (listed.setIfInBounds 20 true) a w → K' a w) → if Region.wanted oi (yielded (List.toArray (x0 :: x1 :: x2 :: x3 :: x4 :: x5 :: x6 :: x7 :: x8 :: x9 :: x10 :: x11 :: x12 :: x13 :: x14 :: x15 :: x16 :: x17 :: x18 :: x19 :: oi :: r)) a.tmps) = true then Oper.wp P oi a w K' Q else K' (a.put oi.dst undef) w) :
    wpAny P md (List.toArray (x0 :: x1 :: x2 :: x3 :: x4 :: x5 :: x6 :: x7 :: x8 :: x9 :: x10 :: x11 :: x12 :: x13 :: x14 :: x15 :: x16 :: x17 :: x18 :: x19 :: oi :: r)) Q (fuel + 1) listed a w :=
  wpAny_one hr rfl h
theorem oneA21 {x0 x1 x2 x3 x4 x5 x6 x7 x8 x9 x10 x11 x12 x13 x14 x15 x16 x17 x18 x19 x20 : Oper} (hr : Region.ready md (List.toArray (x0 :: x1 :: x2 :: x3 :: x4 :: x5 :: x6 :: x7 :: x8 :: x9 :: x10 :: x11 :: x12 :: x13 :: x14 :: x15 :: x16 :: x17 :: x18 :: x19 :: x20 :: oi :: r)) listed = [21])
    (h : ∀ K' : Act → World → Prop, Shut (∀ a w, wpAny P md (List.toArray (x0 :: x1 :: x2 :: x3 :: x4 :: x5 :: x6 :: x7 :: x8 :: x9 :: x10 :: x11 :: x12 :: x13 :: x14 :: x15 :: x16 :: x17 :: x18 :: x19 :: x20 :: oi :: r)) Q fuel (listed.setIfInBounds 21 true) a w → K' a w) → if Region.wanted oi (yielded (List.toArray (x0 :: x1 :: x2 :: x3 :: x4 :: x5 :: x6 :: x7 :: x8 :: x9 :: x10 :: x11 :: x12 :: x13 :: x14 :: x15 :: x16 :: x17 :: x18 :: x19 :: x20 :: oi :: r)) a.tmps) = true then Oper.wp P oi a w K' Q else K' (a.put oi.dst undef) w) :
    wpAny P md (List.toArray (x0 :: x1 :: x2 :: x3 :: x4 :: x5 :: x6 :: x7 :: x8 :: x9 :: x10 :: x11 :: x12 :: x13 :: x14 :: x15 :: x16 :: x17 :: x18 :: x19 :: x20 :: oi :: r)) Q (fuel + 1) listed a w :=
  wpAny_one hr rfl h
theorem consH14 {x0 x1 x2 x3 x4 x5 x6 x7 x8 x9 x10 x11 x12 x13 : Oper} {rs : List Nat}
    (h : ∀ K' : Act → World → Prop, Shut (∀ a w, S w → (S w → wpAnyH P md (List.toArray (x0 :: x1 :: x2 :: x3 :: x4 :: x5 :: x6 :: x7 :: x8 :: x9 :: x10 :: x11 :: x12 :: x13 :: oi :: r)) Q S fuel (listed.setIfInBounds 14 true) a w) → K' a w) → if Region.wanted oi (yielded (List.toArray (x0 :: x1 :: x2 :: x3 :: x4 :: x5 :: x6 :: x7 :: x8 :: x9 :: x10 :: x11 :: x12 :: x13 :: oi :: r)) a.tmps) = true then Oper.wp P oi a w K' Q else K' (a.put oi.dst undef) w)
    (hs : AllReadyH P md (List.toArray (x0 :: x1 :: x2 :: x3 :: x4 :: x5 :: x6 :: x7 :: x8 :: x9 :: x10 :: x11 :: x12 :: x13 :: oi :: r)) Q S fuel listed a w rs) : AllReadyH P md (List.toArray (x0 :: x1 :: x2 :: x3 :: x4 :: x5 :: x6 :: x7 :: x8 :: x9 :: x10 :: x11 :: x12 :: x13 :: oi :: r)) Q S fuel listed a w (14 :: rs) :=
  AllReadyH.cons rfl h hs
theorem takeA20 {x0 x1 x2 x3 x4 x5 x6 x7 x8 x9 x10 x11 x12 x13 x14 x15 x16 x17 x18 x19 : Oper} (hs : Region.noSelect (List.toArray (x0 :: x1 :: x2 :: x3 :: x4 :: x5 :: x6 :: x7 :: x8 :: x9 :: x10 :: x11 :: x12 :: x13 :: x14 :: x15 :: x16 :: x17 :: x18 :: x19 :: oi :: r)) = true) (hf : Region.free md (List.toArray (x0 :: x1 :: x2 :: x3 :: x4 :: x5 :: x6 :: x7 :: x8 :: x9 :: x10 :: x11 :: x12 :: x13 :: x14 :: x15 :: x16 :: x17 :: x18 :: x19 :: oi :: r)) listed 20 = true) (hr : (Region.ready md (List.toArray (x0 :: x1 :: x2 :: x3 :: x4 :: x5 :: x6 :: x7 :: x8 :: x9 :: x10 :: x11 :: x12 :: x13 :: x14 :: x15 :: x16 :: x17 :: x18 :: x19 :: oi :: r)) listed).contains 20 = true)
    (hQ : ∀ c a w, Q (.panic c) (a.put oi.dst v) w → Q (.panic c) a w) (hy : Yields P (List.toArray (x0 :: x1 :: x2 :: x3 :: x4 :: x5 :: x6 :: x7 :: x8 :: x9 :: x10 :: x11 :: x12 :: x13 :: x14 :: x15 :: x16 :: x17 :: x18 :: x19 :: oi :: r)) oi v a)
    (h : wpAny P md (List.toArray (x0 :: x1 :: x2 :: x3 :: x4 :: x5 :: x6 :: x7 :: x8 :: x9 :: x10 :: x11 :: x12 :: x13 :: x14 :: x15 :: x16 :: x17 :: x18 :: x19 :: oi :: r)) Q fuel (listed.setIfInBounds 20 true) (a.put oi.dst v) w) : wpAny P md (List.toArray (x0 :: x1 :: x2 :: x3 :: x4 :: x5 :: x6 :: x7 :: x8 :: x9 :: x10 :: x11 :: x12 :: x13 :: x14 :: x15 :: x16 :: x17 :: x18 :: x19 :: oi :: r)) Q (fuel + 1) listed a w :=
  wpAny_take (i := 20) rfl hs hf hr hQ hy h
end

end Go.Proofs.Ytefclohjeompkaa

/- The program's walk over the configurations (printed by gen_listc.py). -/
namespace Go.Proofs.Ytefclohjeompkaa
open Go Go.RowKit Go.Shelf Go.Proofs.Gen Go.Proofs.Bdd Go.Proofs.Bdd.T
attribute [local go_sem] Oper.semAt_some

theorem empty_is {w : World} {v : Value} {f : F} {b : Bool} (h : IsF w v f) (hb : nowhere f = b) : Calls Try.prog 35 #[v] w fun e w' => e = .returned (.bool b) ∧ Near w w' := hb ▸ empty_f h

set_option maxRecDepth 100000 in
set_option maxHeartbeats 1600000 in
theorem walk_none {w : World} {v : Value} {f : F} (h : IsF w v f) (hn : nowhere f = true) (i : Int) (c : Nat) (y : Value) :
    Calls Try.prog 96 #[v, .int .i64 i, .int .u32 c, y] w fun e w' => e = .returned (.bool true) ∧ Near w w' := by
  have HF := Lib.hid h
  obtain ⟨a1, a2, a3, a4, rfl⟩ := h.form
  have hN : Near w (w.alloc (.cells #[.slice a1 a2 a3, .int .i64 a4] 31)) := (Near.refl w).alloc _
  have HE := Lib.hid (empty_is (HF.out.near hN) hn)
  have HN := Lib.hid hN
  clear h hn hN
  go_enter Try.func96, Try.ntmps96
  go_wp2_with (go_at_call 35; refine HE.out.mono ?_; rintro e w1 ⟨rfl, n1⟩)
  exact bodyPost_ret (v := .bool true) (by simp [results, Try.results96, go_sem]) rfl ⟨rfl, HN.out.trans n1⟩

set_option maxRecDepth 100000 in
set_option maxHeartbeats 1600000 in
theorem walk_leaf {l n : Nat} (hn1 : 1 ≤ n) {R : Ending → World → Prop} {w : World} {v : Value} {f : F} (h : IsF w v f) (hn : nowhere f = false) (c : Nat)
    (hY : ∀ w1, Near w w1 → YieldAt Fence.wide (n - 1) Try.prog l #[uv c] w1 fun e w' => ∃ r : Bool, e = .returned (.bool r) ∧ R e w') :
    Calls Try.prog 96 #[v, .int .i64 (-1), .int .u32 c, .func (.yield l) #[] #[]] w R := by
  have HF := Lib.hid h
  obtain ⟨a1, a2, a3, a4, rfl⟩ := h.form
  have hN : Near w (w.alloc (.cells #[.slice a1 a2 a3, .int .i64 a4] 31)) := (Near.refl w).alloc _
  have HE := Lib.hid (empty_is (HF.out.near hN) hn)
  have HN := Lib.hid hN
  have HY := Lib.hid hY
  clear h hn hN hY
  refine (callsIn_wide (n := n)).1 ?_
  refine callsIn_of_wp Try.func96 rfl trivial ?_ rfl
  simp only [Try.ntmps96, List.size_toArray, List.length_cons, List.length_nil, Nat.reduceAdd, Nat.reduceSub, Array.replicate_succ, Array.replicate_zero, List.push_toArray, List.append_toArray, List.nil_append, List.cons_append]
  gi_wp2_with (refine ⟨trivial, ?_⟩; gi_at_call 35; refine (callsIn_wide.2 HE.out).mono ?_; rintro e w1 ⟨rfl, n1⟩; obtain ⟨fn, tmps, assign, body, hy, hR⟩ := HY.out w1 (HN.out.trans n1); simp only [uv] at hy)
  refine hR.mono ?_
  rintro e w3 ⟨r, rfl, hr⟩
  gi_wp2
  exact hr

set_option maxRecDepth 100000 in
set_option maxHeartbeats 3200000 in
theorem walk_step {w : World} {v : Value} {f : F} (h : IsF w v f) (hn : nowhere f = false) {k : Nat} (hk : k < 24) {c : Nat} (hc : c < 16777216) (y : Value) {P1 P2 : Bool → World → Prop}
    (h1 : ∀ v1 w1, Near w w1 → IsF w1 v1 (fun d => f (updI d k false)) → Calls Try.prog 96 #[v1, .int .i64 ((k : Int) - 1), .int .u32 c, y] w1 fun e w' => ∃ r, e = .returned (.bool r) ∧ (r = true → KeepD w1 w') ∧ P1 r w')
    (h2 : ∀ v2 w1 w2, P1 true w1 → Near w1 w2 → IsF w2 v2 (fun d => f (updI d k true)) → Calls Try.prog 96 #[v2, .int .i64 ((k : Int) - 1), .int .u32 ((c ||| 2 ^ k : Nat) : Int), y] w2 fun e w' => ∃ r, e = .returned (.bool r) ∧ P2 r w') :
    Calls Try.prog 96 #[v, .int .i64 k, .int .u32 c, y] w fun e w' => (∃ w1, P1 false w1 ∧ Near w1 w' ∧ e = .returned (.bool false)) ∨ (∃ r w2, P2 r w2 ∧ Near w2 w' ∧ e = .returned (.bool r)) := by
  have HF := Lib.hid h
  obtain ⟨u1, u2, u3, u4, rfl⟩ := h.form
  have hN : Near w (w.alloc (.cells #[.slice u1 u2 u3, .int .i64 u4] 31)) := (Near.refl w).alloc _
  have hA : (w.alloc (.cells #[.slice u1 u2 u3, .int .i64 u4] 31)).heap[w.heap.size]? = some (.cells #[.slice u1 u2 u3, .int .i64 u4] 31 (0, 0)) := heap_new_at rfl
  have HE := Lib.hid (empty_is (HF.out.near hN) hn)
  have HN := Lib.hid hN
  have HA := Lib.hid hA
  have H1 := Lib.hid h1
  have H2 := Lib.hid h2
  have hk0 : ¬ ((k : Int) < 0) := by omega
  have hwk : IntKind.i64.wrap ((k : Int) - 1) = (k : Int) - 1 := IntWalk.i64_in _ (by omega)
  clear h hn hN hA h1 h2
  go_enter Try.func96, Try.ntmps96
  go_upto_region 5 with (go_at_call 35; refine HE.out.mono ?_; rintro e w1 ⟨rfl, n1⟩; have N1 := Lib.hid (HN.out.trans n1); have HA1 := Lib.hid (keepN n1 HA.out); clear n1)
  have c0 := cell1 (o := 0) HA1.out rfl
  have c1 := cell1 (o := 1) HA1.out rfl
  refine wp_region_A (by kernel_rfl) ?_
  refine takeA1 (v := Value.int .i64 k) (by kernel_rfl) (by kernel_rfl) (by kernel_rfl) (fun _ _ _ h => h) (Or.inl ⟨by rfl, fun w' => by go_simp⟩) ?_
  try simp only [Act.put, List.setIfInBounds_toArray, List.set_cons_zero, List.set_cons_succ]
  refine takeA3 (v := Value.int .i64 k) (by kernel_rfl) (by kernel_rfl) (by kernel_rfl) (fun _ _ _ h => h) (Or.inl ⟨by rfl, fun w' => by go_simp⟩) ?_
  try simp only [Act.put, List.setIfInBounds_toArray, List.set_cons_zero, List.set_cons_succ]
  refine takeA4 (v := Value.int .i64 ((k : Int) - 1)) (by kernel_rfl) (by kernel_rfl) (by kernel_rfl) (fun _ _ _ h => h) (Or.inl ⟨by rfl, fun w' => by go_simp⟩) ?_
  try simp only [Act.put, List.setIfInBounds_toArray, List.set_cons_zero, List.set_cons_succ]
  refine takeA5 (v := Value.int .u32 c) (by kernel_rfl) (by kernel_rfl) (by kernel_rfl) (fun _ _ _ h => h) (Or.inl ⟨by rfl, fun w' => by go_simp⟩) ?_
  try simp only [Act.put, List.setIfInBounds_toArray, List.set_cons_zero, List.set_cons_succ]
  refine takeA6 (v := y) (by kernel_rfl) (by kernel_rfl) (by kernel_rfl) (fun _ _ _ h => h) (Or.inl ⟨by rfl, fun w' => by go_simp⟩) ?_
  try simp only [Act.put, List.setIfInBounds_toArray, List.set_cons_zero, List.set_cons_succ]
  refine oneA0 (by kernel_rfl) (fun K hK => ?_)
  go_simp
  refine hK.out _ _ ?_
  clear hK K
  try simp only [Act.put, List.setIfInBounds_toArray, List.set_cons_zero, List.set_cons_succ]
  refine oneA2 (by kernel_rfl) (fun K hK => ?_)
  go_simp
  go_wp2_with (go_at_call 41; refine (with_f (HF.out.near N1.out.drew) (k : Int) false).mono ?_; rintro e w2 ⟨v1, rfl, hv1, n2⟩)
  refine hK.out _ _ ?_
  clear hK K
  obtain ⟨b1, b2, b3, b4, rfl⟩ := hv1.form
  have N2 := Lib.hid (N1.out.drew.trans n2)
  have HA2 := Lib.hid (keepN ((Near.refl w1).drew.trans n2) HA1.out)
  have HV1 := Lib.hid hv1
  clear hv1 n2 c0 c1
  try simp only [Act.put, List.setIfInBounds_toArray, List.set_cons_zero, List.set_cons_succ]
  refine oneA7 (by kernel_rfl) (fun K hK => ?_)
  go_simp
  go_wp2_with (go_at_call 96; refine (H1.out _ _ N2.out HV1.out).mono ?_; rintro e w3 ⟨r, rfl, hkd, hp⟩)
  refine hK.out _ _ ?_
  clear hK K
  try simp only [Act.put, List.setIfInBounds_toArray, List.set_cons_zero, List.set_cons_succ]
  refine takeA8 (v := Value.bool r) (by kernel_rfl) (by kernel_rfl) (by kernel_rfl) (fun _ _ _ h => h) (Or.inl ⟨by rfl, fun w' => by go_simp⟩) ?_
  try simp only [Act.put, List.setIfInBounds_toArray, List.set_cons_zero, List.set_cons_succ]
  cases r with
  | false =>
    refine takeA9 (v := undef) (by kernel_rfl) (by kernel_rfl) (by kernel_rfl) (fun _ _ _ h => h) (Or.inr ⟨by rfl, rfl⟩) ?_
    try simp only [Act.put, List.setIfInBounds_toArray, List.set_cons_zero, List.set_cons_succ]
    refine takeA10 (v := undef) (by kernel_rfl) (by kernel_rfl) (by kernel_rfl) (fun _ _ _ h => h) (Or.inr ⟨by rfl, rfl⟩) ?_
    try simp only [Act.put, List.setIfInBounds_toArray, List.set_cons_zero, List.set_cons_succ]
    refine takeA11 (v := undef) (by kernel_rfl) (by kernel_rfl) (by kernel_rfl) (fun _ _ _ h => h) (Or.inr ⟨by rfl, rfl⟩) ?_
    try simp only [Act.put, List.setIfInBounds_toArray, List.set_cons_zero, List.set_cons_succ]
    refine takeA12 (v := undef) (by kernel_rfl) (by kernel_rfl) (by kernel_rfl) (fun _ _ _ h => h) (Or.inr ⟨by rfl, rfl⟩) ?_
    try simp only [Act.put, List.setIfInBounds_toArray, List.set_cons_zero, List.set_cons_succ]
    refine takeA13 (v := undef) (by kernel_rfl) (by kernel_rfl) (by kernel_rfl) (fun _ _ _ h => h) (Or.inr ⟨by rfl, rfl⟩) ?_
    try simp only [Act.put, List.setIfInBounds_toArray, List.set_cons_zero, List.set_cons_succ]
    refine takeA14 (v := undef) (by kernel_rfl) (by kernel_rfl) (by kernel_rfl) (fun _ _ _ h => h) (Or.inr ⟨by rfl, rfl⟩) ?_
    try simp only [Act.put, List.setIfInBounds_toArray, List.set_cons_zero, List.set_cons_succ]
    refine takeA15 (v := undef) (by kernel_rfl) (by kernel_rfl) (by kernel_rfl) (fun _ _ _ h => h) (Or.inr ⟨by rfl, rfl⟩) ?_
    try simp only [Act.put, List.setIfInBounds_toArray, List.set_cons_zero, List.set_cons_succ]
    refine takeA16 (v := undef) (by kernel_rfl) (by kernel_rfl) (by kernel_rfl) (fun _ _ _ h => h) (Or.inr ⟨by rfl, rfl⟩) ?_
    try simp only [Act.put, List.setIfInBounds_toArray, List.set_cons_zero, List.set_cons_succ]
    refine takeA17 (v := undef) (by kernel_rfl) (by kernel_rfl) (by kernel_rfl) (fun _ _ _ h => h) (Or.inr ⟨by rfl, rfl⟩) ?_
    try simp only [Act.put, List.setIfInBounds_toArray, List.set_cons_zero, List.set_cons_succ]
    refine takeA18 (v := undef) (by kernel_rfl) (by kernel_rfl) (by kernel_rfl) (fun _ _ _ h => h) (Or.inr ⟨by rfl, rfl⟩) ?_
    try simp only [Act.put, List.setIfInBounds_toArray, List.set_cons_zero, List.set_cons_succ]
    refine takeA19 (v := undef) (by kernel_rfl) (by kernel_rfl) (by kernel_rfl) (fun _ _ _ h => h) (Or.inr ⟨by rfl, rfl⟩) ?_
    try simp only [Act.put, List.setIfInBounds_toArray, List.set_cons_zero, List.set_cons_succ]
    refine takeA20 (v := Value.bool false) (by kernel_rfl) (by kernel_rfl) (by kernel_rfl) (fun _ _ _ h => h) (Or.inl ⟨by rfl, fun w' => by go_simp⟩) ?_
    try simp only [Act.put, List.setIfInBounds_toArray, List.set_cons_zero, List.set_cons_succ]
    refine oneA21 (by kernel_rfl) (fun K hK => ?_)
    go_simp
    refine hK.out _ _ ?_
    clear hK K
    try simp only [Act.put, List.setIfInBounds_toArray, List.set_cons_zero, List.set_cons_succ]
    refine wpAny_done (by kernel_rfl) ?_
    go_wp2_with fail
    exact bodyPost_ret (v := .bool false) (by simp [results, Try.results96, go_sem]) rfl (.inl ⟨w3, hp, Near.refl _, rfl⟩)
  | true =>
    have hkd' := hkd rfl
    have HA3 := Lib.hid (hkd'.box HA2.out)
    have HF3 := Lib.hid (HF.out.keepD (N2.out.keepD.trans hkd'))
    have HP := Lib.hid hp
    clear hp hkd hkd'
    have c0 : w3.cell? ⟨w.heap.size, 0, none⟩ = some (.slice u1 u2 u3) := cell1 (o := 0) HA3.out rfl
    have c1 : w3.cell? ⟨w.heap.size, 1, none⟩ = some (.int .i64 u4) := cell1 (o := 1) HA3.out rfl
    have hpk : 2 ^ k < 16777216 := Nat.lt_of_lt_of_le (Nat.pow_lt_pow_right (a := 2) (by omega) hk) (by decide)
    have hcast : ((2 ^ k : Nat) : Int) = (2 : Int) ^ k := by simp
    have hor : bits .or .u32 (c : Int) ((2 : Int) ^ k) = ((c ||| 2 ^ k : Nat) : Int) := by rw [← hcast]; generalize 2 ^ k = p at hpk; exact Go.Proofs.Gen.u32_or c p (by omega) (by omega)
    refine takeA10 (v := Value.int .i64 k) (by kernel_rfl) (by kernel_rfl) (by kernel_rfl) (fun _ _ _ h => h) (Or.inl ⟨by rfl, fun w' => by go_simp⟩) ?_
    try simp only [Act.put, List.setIfInBounds_toArray, List.set_cons_zero, List.set_cons_succ]
    refine takeA12 (v := Value.int .i64 k) (by kernel_rfl) (by kernel_rfl) (by kernel_rfl) (fun _ _ _ h => h) (Or.inl ⟨by rfl, fun w' => by go_simp⟩) ?_
    try simp only [Act.put, List.setIfInBounds_toArray, List.set_cons_zero, List.set_cons_succ]
    refine takeA13 (v := Value.int .i64 ((k : Int) - 1)) (by kernel_rfl) (by kernel_rfl) (by kernel_rfl) (fun _ _ _ h => h) (Or.inl ⟨by rfl, fun w' => by go_simp⟩) ?_
    try simp only [Act.put, List.setIfInBounds_toArray, List.set_cons_zero, List.set_cons_succ]
    refine takeA14 (v := Value.int .u32 c) (by kernel_rfl) (by kernel_rfl) (by kernel_rfl) (fun _ _ _ h => h) (Or.inl ⟨by rfl, fun w' => by go_simp⟩) ?_
    try simp only [Act.put, List.setIfInBounds_toArray, List.set_cons_zero, List.set_cons_succ]
    refine takeA15 (v := Value.int .i64 k) (by kernel_rfl) (by kernel_rfl) (by kernel_rfl) (fun _ _ _ h => h) (Or.inl ⟨by rfl, fun w' => by go_simp⟩) ?_
    try simp only [Act.put, List.setIfInBounds_toArray, List.set_cons_zero, List.set_cons_succ]
    have hsh : IntKind.u32.wrap ((2 : Int) ^ k) = (2 : Int) ^ k := by rw [← hcast]; generalize 2 ^ k = p at hpk; exact IntWalk.u32_in _ (by omega)
    clear hcast hpk
    refine takeA16 (v := Value.int .u32 ((2 : Int) ^ k)) (by kernel_rfl) (by kernel_rfl) (by kernel_rfl) (fun _ _ _ h => h) (Or.inl ⟨by rfl, fun w' => by go_simp⟩) ?_
    try simp only [Act.put, List.setIfInBounds_toArray, List.set_cons_zero, List.set_cons_succ]
    refine takeA17 (v := Value.int .u32 ((c ||| 2 ^ k : Nat) : Int)) (by kernel_rfl) (by kernel_rfl) (by kernel_rfl) (fun _ _ _ h => h) (Or.inl ⟨by rfl, fun w' => by go_simp⟩) ?_
    try simp only [Act.put, List.setIfInBounds_toArray, List.set_cons_zero, List.set_cons_succ]
    refine takeA18 (v := y) (by kernel_rfl) (by kernel_rfl) (by kernel_rfl) (fun _ _ _ h => h) (Or.inl ⟨by rfl, fun w' => by go_simp⟩) ?_
    try simp only [Act.put, List.setIfInBounds_toArray, List.set_cons_zero, List.set_cons_succ]
    refine oneA9 (by kernel_rfl) (fun K hK => ?_)
    go_simp
    refine hK.out _ _ ?_
    clear hK K
    try simp only [Act.put, List.setIfInBounds_toArray, List.set_cons_zero, List.set_cons_succ]
    refine oneA11 (by kernel_rfl) (fun K hK => ?_)
    go_simp
    go_wp2_with (go_at_call 41; refine (with_f HF3.out (k : Int) true).mono ?_; rintro e w4 ⟨v2, rfl, hv2, n4⟩)
    refine hK.out _ _ ?_
    clear hK K
    obtain ⟨d1, d2, d3, d4, rfl⟩ := hv2.form
    have N4 := Lib.hid n4
    have HV2 := Lib.hid hv2
    clear hv2 n4 c0 c1
    try simp only [Act.put, List.setIfInBounds_toArray, List.set_cons_zero, List.set_cons_succ]
    refine oneA19 (by kernel_rfl) (fun K hK => ?_)
    go_simp
    go_wp2_with (go_at_call 96; refine (H2.out _ _ _ HP.out N4.out HV2.out).mono ?_; rintro e w5 ⟨r, rfl, hp⟩)
    refine hK.out _ _ ?_
    clear hK K
    try simp only [Act.put, List.setIfInBounds_toArray, List.set_cons_zero, List.set_cons_succ]
    refine takeA20 (v := Value.bool r) (by kernel_rfl) (by kernel_rfl) (by kernel_rfl) (fun _ _ _ h => h) (Or.inl ⟨by rfl, fun w' => by go_simp⟩) ?_
    try simp only [Act.put, List.setIfInBounds_toArray, List.set_cons_zero, List.set_cons_succ]
    refine oneA21 (by kernel_rfl) (fun K hK => ?_)
    go_simp
    refine hK.out _ _ ?_
    clear hK K
    try simp only [Act.put, List.setIfInBounds_toArray, List.set_cons_zero, List.set_cons_succ]
    refine wpAny_done (by kernel_rfl) ?_
    go_wp2_with fail
    exact bodyPost_ret (v := .bool r) (by simp [results, Try.results96, go_sem]) rfl (.inr ⟨r, w5, hp, Near.refl _, rfl⟩)
end Go.Proofs.Ytefclohjeompkaa
