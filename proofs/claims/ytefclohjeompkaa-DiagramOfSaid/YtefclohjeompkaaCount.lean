/- The contract of Count. -/
import Derived.Test.YtefclohjeompkaaHas
namespace Go.Proofs.Ytefclohjeompkaa
open Go Go.RowKit Go.Proofs.Gen Go.Proofs.Bdd Go.Proofs.Bdd.T

theorem u64_in (n : Int) (h0 : 0 ≤ n) (h1 : n < 18446744073709551616) : IntKind.u64.wrap n = n := by
  simp [IntKind.wrap, IntKind.bits, IntKind.signed]
  omega

set_option maxRecDepth 100000 in
set_option maxHeartbeats 800000 in
theorem count1_walk (i l1 n1 l2 n2 : Nat) (w : World) (h1 : i + 1 ≤ l1) (h2 : i + 1 ≤ l2) (g1 : l1 ≤ 24) (g2 : l2 ≤ 24) (m1 : n1 * 2 ^ (l1 - i - 1) ≤ 16777216) (m2 : n2 * 2 ^ (l2 - i - 1) ≤ 16777216) :
    Calls Try.prog 89 #[.int .i64 i, .agg #[.int .i64 l1, .int .u64 n1], .agg #[.int .i64 l2, .int .u64 n2]] w fun e w' =>
      e = .returned (.agg #[.int .i64 i, .int .u64 ((n1 * 2 ^ (l1 - i - 1) + n2 * 2 ^ (l2 - i - 1) : Nat) : Int)]) ∧ Near w w' := by
  have i1 : (0 : Int) ≤ (l1 : Int) - i - 1 := by omega
  have i2 : (0 : Int) ≤ (l2 : Int) - i - 1 := by omega
  have e1 : ((l1 : Int) - i - 1).toNat < 64 := by omega
  have e2 : ((l2 : Int) - i - 1).toNat < 64 := by omega
  have q1 : IntKind.u64.wrap ((n1 : Int) * 2 ^ (l1 - i - 1)) = ((n1 * 2 ^ (l1 - i - 1) : Nat) : Int) := by
    rw [show ((n1 : Int) * 2 ^ (l1 - i - 1)) = ((n1 * 2 ^ (l1 - i - 1) : Nat) : Int) from by simp]
    exact u64_in _ (by omega) (by omega)
  have q2 : IntKind.u64.wrap ((n2 : Int) * 2 ^ (l2 - i - 1)) = ((n2 * 2 ^ (l2 - i - 1) : Nat) : Int) := by
    rw [show ((n2 : Int) * 2 ^ (l2 - i - 1)) = ((n2 * 2 ^ (l2 - i - 1) : Nat) : Int) from by simp]
    exact u64_in _ (by omega) (by omega)
  have q3 : IntKind.u64.wrap (IntKind.u64.wrap ((n1 : Int) * 2 ^ (l1 - i - 1)) + IntKind.u64.wrap ((n2 : Int) * 2 ^ (l2 - i - 1))) = ((n1 * 2 ^ (l1 - i - 1) + n2 * 2 ^ (l2 - i - 1) : Nat) : Int) := by
    rw [q1, q2, u64_in _ (by omega) (by omega)]
    omega
  have Q3 := Lib.hid q3
  clear q1 q2 q3 m1 m2
  go_enter Try.func89, Try.ntmps89
  go_wp2
  go_region
  all_goals
    go_wp2
    rw [Q3.out]
    exact bodyPost_ret (v := .agg #[.int .i64 i, .int .u64 ((n1 * 2 ^ (l1 - i - 1) + n2 * 2 ^ (l2 - i - 1) : Nat) : Int)]) (by simp [results, Try.results89, go_sem]) rfl ⟨rfl, (((((Near.refl w).alloc _).alloc _).alloc _)).drew⟩

/-- A level and a count. -/
structure CV where
  lev : Nat
  n : Nat

def cvC (x : CV) : List Value := [.int .i64 x.lev, .int .u64 x.n]
def cvs (l : List CV) : List Value := l.flatMap cvC

theorem cv_cells {w : World} {base : Nat} {v : Value} {l : List CV} (h : w.ownsRow base 117 2 v l.length (cvs l)) {k : Nat} {x : CV} (hk : l[k]? = some x) :
    ∃ g cap, v = .slice (some ⟨g, 0, none⟩) l.length cap ∧ w.cell? ⟨g, k * 2, none⟩ = some (.int .i64 x.lev) ∧ w.cell? ⟨g, k * 2 + 1, none⟩ = some (.int .u64 x.n) := by
  have hlt : k < l.length := (List.getElem?_eq_some_iff.1 hk).1
  rcases h.2 with ⟨_, h0⟩ | ⟨g, cap, cur, rfl, _, hg, _, _, hs, ht⟩
  · omega
  · refine ⟨g, cap, rfl, ?_⟩
    have at' : ∀ (l : List CV) (k : Nat) (x : CV), l[k]? = some x → ∀ j, j < 2 → (cvs l)[k * 2 + j]? = (cvC x)[j]? := by
      intro l
      induction l with
      | nil => intro k x h; simp at h
      | cons y r ih =>
        intro k x hk j hj
        have e : cvs (y :: r) = cvC y ++ cvs r := rfl
        have ly : (cvC y).length = 2 := rfl
        rw [e]
        cases k with
        | zero =>
          simp at hk
          subst hk
          rw [List.getElem?_append_left (by omega), Nat.zero_mul, Nat.zero_add]
        | succ k =>
          rw [List.getElem?_append_right (by omega), ly, show (k + 1) * 2 + j - 2 = k * 2 + j from by omega]
          exact ih k x (by simpa using hk) j hj
    have look : ∀ j, j < 2 → w.cell? ⟨g, k * 2 + j, none⟩ = (cvC x)[j]? := by
      intro j hj
      have a := at' l k x hk j hj
      rw [← ht, List.getElem?_take, if_pos (by omega)] at a
      simp only [World.cell?, hg]
      simpa using a
    exact ⟨look 0 (by omega), look 1 (by omega)⟩

/-- What 'Fold' keeps of a tree: from which level on, how many. -/
def cv (n : Nat) : T → CV
  | .leaf b => ⟨n, b.toNat⟩
  | .node i l h => ⟨i, (cv n l).n * 2 ^ ((cv n l).lev - i - 1) + (cv n h).n * 2 ^ ((cv n h).lev - i - 1)⟩

/-- The values behind k nodes. -/
def cvL (n : Nat) (L : List T) : List CV := ⟨n, 0⟩ :: ⟨n, 1⟩ :: L.map (cv n)

theorem cvL_get {n : Nat} {L : List T} {t : T} (h : In L t) : (cvL n L)[pl L t]? = some (cv n t) := by
  cases t with
  | leaf b => cases b <;> rfl
  | node i l r =>
    have h2 := pl_node (L := L) i l r
    have e : pl L (node i l r) = (pl L (node i l r) - 2) + 1 + 1 := by omega
    rw [e]
    simp only [cvL, List.getElem?_cons_succ, List.getElem?_map]
    rw [pl_get h]
    rfl

theorem cvL_len {n k : Nat} {L : List T} (hk : k ≤ L.length) : (cvL n (L.take k)).length = k + 2 := by simp [cvL, Nat.min_eq_left hk]

theorem cvs_snoc {n k : Nat} {L : List T} (hk : k < L.length) : cvs (cvL n (L.take (k + 1))) = cvs (cvL n (L.take k)) ++ cvC (cv n L[k]) := by
  have e : cvL n (L.take (k + 1)) = cvL n (L.take k) ++ [cv n L[k]] := by
    rw [cvL, cvL, List.take_succ_eq_append_getElem hk, List.map_append]
    rfl
  rw [e, cvs, cvs, List.flatMap_append]
  simp

theorem cell_two_at {w : World} {b : Nat} (hb : b = w.heap.size) (x y : Value) (t : TypeId) : ∀ j u, [x, y][j]? = some u → (w.alloc (.cells #[x, y] t)).cell? ((⟨b, 0, none⟩ : Addr).add j) = some u := by
  subst hb
  intro j u hj
  match j, hj with
  | 0, hj => simp at hj; subst hj; simp [Addr.add]
  | 1, hj => simp at hj; subst hj; simp [Addr.add]

theorem info117 : (Try.prog.info? 117).map (fun i => (i.zero, i.size, i.bytes)) = some (some (.agg #[.int .i64 0, .int .u64 0]), 2, 16) := by kernel_rfl

/-- A call of a function value, as one step of a region that draws. -/
theorem step_enter {P : Program} {w : World} {ops : Array Oper} {o : Oper} {a : Act} {K : Act → World → Prop} {Q : Exit → Act → World → Prop} {E : Prop}
    (hg : o.guard = none) (c x y z : Operand) (tys : Array TypeId) (hop : o.op = Op.call { callee := Callee.value c, args := #[x, y, z], argTypes := tys })
    {f : FuncId} {fn : Func} {code : Code} (hf : P.funcs[f]? = some fn) (hname : (fn.name == "runtime.NumGoroutine") = false) (hb : fn.body = some code)
    (hc : a.eval c = .func (.func f) #[] #[]) (vx vy vz : Value) (hx : a.eval x = vx) (hy : a.eval y = vy) (hz : a.eval z = vz) {v : Value} {R : World → Prop}
    (hcall : Calls P f #[vx, vy, vz] w fun e w' => e = .returned v ∧ R w') (hK : ∀ w', R w' → K (a.put o.dst v) w') :
    if Region.wanted o (yielded ops a.tmps) = true then Oper.wp P o a w K Q else E := by
  have hw : Region.wanted o (yielded ops a.tmps) = true := by simp [Region.wanted, hg]
  rw [if_pos hw]
  have hv : (#[x, y, z] : Array Operand).map a.eval = #[vx, vy, vz] := by simp [hx, hy, hz]
  have he : (execOp a.eval o).run P w = .ok (.enter f #[vx, vy, vz]) w := by
    unfold execOp
    simp only [hop, resolve, Deferred.ofValue, hv, hc, invoke, Sem.run_bind, Sem.run_pure, Result.andThen_ok, Array.append_empty, Array.empty_append, call_enters hf hname hb]
  unfold Oper.wp
  rw [he, Oper.upon_enter]
  refine hcall.mono ?_
  rintro e w' ⟨rfl, h⟩
  exact hK w' h

set_option maxRecDepth 100000 in
set_option maxHeartbeats 800000 in
theorem fold_counted (n : Nat) (_hn : n ≤ 24) (L : List T) (g : T.Good L) (hlen : L.length < 1099511627776) (t0 : T) (hin : In L t0) (ao : Option Addr) (cap : Nat) (w : World)
    (hr : w.ownsRow 0 26 3 (.slice ao L.length cap) L.length (cellsOf (enc L)))
    (hj : ∀ i l h, node i l h ∈ L → ∀ w', Calls Try.prog 89 #[.int .i64 i, .agg #[.int .i64 (cv n l).lev, .int .u64 (cv n l).n], .agg #[.int .i64 (cv n h).lev, .int .u64 (cv n h).n]] w' fun e w'' =>
      e = .returned (.agg #[.int .i64 (cv n (node i l h)).lev, .int .u64 (cv n (node i l h)).n]) ∧ Near w' w'') :
    Calls Try.prog 88 #[.agg #[.slice ao L.length cap, .int .i64 (pl L t0 : Nat)], .agg #[.int .i64 n, .int .u64 0], .agg #[.int .i64 n, .int .u64 1], .func (.func 89) #[] #[]] w fun e w' =>
      e = .returned (.agg #[.int .i64 (cv n t0).lev, .int .u64 (cv n t0).n]) ∧ Below w.heap.size w w' := by
  have HR := Lib.hid hr
  have HJ := Lib.hid hj
  clear hr hj
  obtain ⟨i0, hi0, hz0, hz1, hz2⟩ := info_parts info117
  go_enter Try.func88, Try.ntmps88
  go_wp2_with fail
  have hN4 : Near w ((((w.alloc (.cells #[.slice ao L.length cap, .int .i64 (pl L t0 : Nat)] 31)).alloc (.cells #[.int .i64 n, .int .u64 0] 117)).alloc (.cells #[.int .i64 n, .int .u64 1] 117)).alloc (.cells #[.int .i64 0, .int .u64 0] 117)) := ((((Near.refl w).alloc _).alloc _).alloc _).alloc _
  have hA4 : ((((w.alloc (.cells #[.slice ao L.length cap, .int .i64 (pl L t0 : Nat)] 31)).alloc (.cells #[.int .i64 n, .int .u64 0] 117)).alloc (.cells #[.int .i64 n, .int .u64 1] 117)).alloc (.cells #[.int .i64 0, .int .u64 0] 117)).heap[w.heap.size]? = some (.cells #[.slice ao L.length cap, .int .i64 (pl L t0 : Nat)] 31 (0, 0)) := by
    rw [heap_old_at (by simp <;> omega), heap_old_at (by simp <;> omega), heap_old_at (by simp), heap_new_at rfl]
  have hR4 : ((((w.alloc (.cells #[.slice ao L.length cap, .int .i64 (pl L t0 : Nat)] 31)).alloc (.cells #[.int .i64 n, .int .u64 0] 117)).alloc (.cells #[.int .i64 n, .int .u64 1] 117)).alloc (.cells #[.int .i64 0, .int .u64 0] 117)).heap[w.heap.size + 1 + 1 + 1]? = some (.cells #[.int .i64 0, .int .u64 0] 117 (0, 0)) := heap_new_at (by simp)
  have hS4 : ((((w.alloc (.cells #[.slice ao L.length cap, .int .i64 (pl L t0 : Nat)] 31)).alloc (.cells #[.int .i64 n, .int .u64 0] 117)).alloc (.cells #[.int .i64 n, .int .u64 1] 117)).alloc (.cells #[.int .i64 0, .int .u64 0] 117)).heap.size = w.heap.size + 1 + 1 + 1 + 1 := by simp
  generalize hW : ((((w.alloc (.cells #[.slice ao L.length cap, .int .i64 (pl L t0 : Nat)] 31)).alloc (.cells #[.int .i64 n, .int .u64 0] 117)).alloc (.cells #[.int .i64 n, .int .u64 1] 117)).alloc (.cells #[.int .i64 0, .int .u64 0] 117)) = W at hN4 hA4 hR4 hS4 ⊢
  clear hW
  have HA4 := Lib.hid hA4
  have HR4 := Lib.hid hR4
  have HS4 := Lib.hid hS4
  clear hA4 hR4 hS4
  go_loopw [9, 18] (fun v i wr => ∃ k : Nat, k ≤ L.length ∧ i = .int .i64 k ∧ wr.ownsRow (w.heap.size + 1 + 1 + 1 + 1) 117 2 v (k + 2) (cvs (cvL n (L.take k))) ∧ Kept (fun b => w.heap.size + 1 + 1 + 1 + 1 ≤ b) W wr) (fun _ i _ => L.length - (intOf i).toNat)
  case atStart =>
    refine ⟨0, Nat.zero_le _, rfl, ⟨rfl, .inr ⟨w.heap.size + 1 + 1 + 1 + 1, 2, #[.int .i64 n, .int .u64 0, .int .i64 n, .int .u64 1], rfl, Nat.le_refl _, heap_new_at HS4.out.symm, Nat.le_refl _, by unfold maxLen; omega, rfl, rfl⟩⟩, (Kept.refl _ _).alloc _⟩
  case round =>
    obtain ⟨k, hk, rfl, hown, hkp⟩ := hrel
    have hz4 := hN4.size
    have hzr := hkp.size
    by_cases hlt : k < L.length
    · have hle : (enc L).length = L.length := by simp [enc]
      have hge : (enc L)[k]? = some (en L L[k]) := by simp [enc, hlt]
      obtain ⟨gb, cap', hsv, x0, x1, x2⟩ := tri_cells (by rw [hle]; exact HR.out) hge
      rw [hle] at hsv
      simp only [Value.slice.injEq, true_and] at hsv
      obtain ⟨rfl, rfl⟩ := hsv
      have hgb : gb < w.heap.size := World.block_lt_of_cell? w ⟨gb, k * 3, none⟩ x0
      have hmem : L[k] ∈ L := List.getElem_mem hlt
      have hnode := g.all L[k] hmem
      obtain ⟨i, l, h, hnd⟩ : ∃ i l h, L[k] = node i l h := by
        cases hx : L[k] with
        | leaf b => rw [hx] at hnode; exact hnode.1.elim
        | node j l' h' => exact ⟨j, l', h', rfl⟩
      have hpre := g.pre k i l h (by rw [List.getElem?_eq_getElem hlt, hnd])
      have hsnoc := cvs_snoc (n := n) hlt
      rw [hnd] at x0 x1 x2 hmem hsnoc
      have pL : pl L l = pl (L.take k) l := by
        have := pl_append (M := L.drop k) hpre.1
        rwa [List.take_append_drop] at this
      have pH : pl L h = pl (L.take k) h := by
        have := pl_append (M := L.drop k) hpre.2.1
        rwa [List.take_append_drop] at this
      have hlen2 := cvL_len (n := n) hk
      have bL := pl_lt hpre.1
      have bH := pl_lt hpre.2.1
      simp only [List.length_take] at bL bH
      obtain ⟨g2, cap2, hv, y0, y1⟩ := cv_cells (by rw [hlen2]; exact hown) (cvL_get (n := n) hpre.1)
      obtain ⟨g3, cap3, hv3, z0, z1⟩ := cv_cells (by rw [hlen2]; exact hown) (cvL_get (n := n) hpre.2.1)
      rw [hlen2] at hv hv3
      subst hv
      simp only [Value.slice.injEq, Option.some.injEq, Addr.mk.injEq, and_true, true_and] at hv3
      obtain ⟨rfl, rfl⟩ := hv3
      have x0' := hkp.cell (hN4.cell x0) (show ¬ w.heap.size + 1 + 1 + 1 + 1 ≤ gb by omega)
      have x1' := hkp.cell (hN4.cell x1) (show ¬ w.heap.size + 1 + 1 + 1 + 1 ≤ gb by omega)
      have x2' := hkp.cell (hN4.cell x2) (show ¬ w.heap.size + 1 + 1 + 1 + 1 ≤ gb by omega)
      simp only [en] at x0' x1' x2'
      rw [pL] at x1'
      rw [pH] at x2'
      have bL1 : ((pl (L.take k) l : Nat) : Int) < (k : Int) + 2 := by omega
      have bH1 : ((pl (L.take k) h : Nat) : Int) < (k : Int) + 2 := by omega
      have hi := (In.ok g (show In L (node i l h) from hmem)).1
      have HO := Lib.hid hown
      have HSn := Lib.hid hsnoc
      clear x0 x1 x2 hown hsnoc hnd hle hge pL pH hlen2 hnode
      go_upto_region 5 with fail
      have X0 : (wr.alloc (.cells #[.int .i64 i, .int .i64 (pl (L.take k) l : Nat), .int .i64 (pl (L.take k) h : Nat)] 26)).cell? ⟨wr.heap.size, 0, none⟩ = some (.int .i64 i) := by simp
      have X1 : (wr.alloc (.cells #[.int .i64 i, .int .i64 (pl (L.take k) l : Nat), .int .i64 (pl (L.take k) h : Nat)] 26)).cell? ⟨wr.heap.size, 1, none⟩ = some (.int .i64 (pl (L.take k) l : Nat)) := by simp
      have X2 : (wr.alloc (.cells #[.int .i64 i, .int .i64 (pl (L.take k) l : Nat), .int .i64 (pl (L.take k) h : Nat)] 26)).cell? ⟨wr.heap.size, 2, none⟩ = some (.int .i64 (pl (L.take k) h : Nat)) := by simp
      have Y0 := cell_alloc y0 (.cells #[.int .i64 i, .int .i64 (pl (L.take k) l : Nat), .int .i64 (pl (L.take k) h : Nat)] 26)
      have Y1 := cell_alloc y1 (.cells #[.int .i64 i, .int .i64 (pl (L.take k) l : Nat), .int .i64 (pl (L.take k) h : Nat)] 26)
      have Z0 := cell_alloc z0 (.cells #[.int .i64 i, .int .i64 (pl (L.take k) l : Nat), .int .i64 (pl (L.take k) h : Nat)] 26)
      have Z1 := cell_alloc z1 (.cells #[.int .i64 i, .int .i64 (pl (L.take k) l : Nat), .int .i64 (pl (L.take k) h : Nat)] 26)
      have HO5 := Lib.hid (HO.out.alloc (.cells #[.int .i64 i, .int .i64 (pl (L.take k) l : Nat), .int .i64 (pl (L.take k) h : Nat)] 26))
      have K5 := hkp.alloc (.cells #[.int .i64 i, .int .i64 (pl (L.take k) l : Nat), .int .i64 (pl (L.take k) h : Nat)] 26)
      clear x0' x1' x2' y0 y1 z0 z1
      have hb5 : w.heap.size + 1 + 1 + 1 + 1 ≤ (wr.alloc (.cells #[.int .i64 i, .int .i64 (pl (L.take k) l : Nat), .int .i64 (pl (L.take k) h : Nat)] 26)).heap.size := by
        have := K5.size
        rw [HS4.out] at this
        exact this
      have hg2b : w.heap.size + 1 + 1 + 1 + 1 ≤ g2 := by
        rcases HO5.out.2 with ⟨h0, _⟩ | ⟨g, c, cur, e, hb, _⟩
        · cases h0
        · cases e
          exact hb
      generalize (wr.alloc (.cells #[.int .i64 i, .int .i64 (pl (L.take k) l : Nat), .int .i64 (pl (L.take k) h : Nat)] 26)) = W5 at X0 X1 X2 Y0 Y1 Z0 Z1 HO5 K5 hb5 ⊢
      go_region_law (first
        | (refine step_enter rfl (.tmp 23) (.tmp 25) (.tmp 30) (.tmp 35) #[3, 117, 117] rfl Try.func89 (by kernel_rfl) rfl rfl (.int .i64 i) (.agg #[.int .i64 (cv n l).lev, .int .u64 (cv n l).n]) (.agg #[.int .i64 (cv n h).lev, .int .u64 (cv n h).n]) rfl rfl rfl (HJ.out i l h hmem _) ?_; intro w1 n1)
        | (refine step_append_own rfl (.tmp 22) (.tmp 37) 164 rfl (w.heap.size+1+1+1+1) 117 i0 (.agg #[.int .i64 0, .int .u64 0]) 2 16 Try.underlying164 hi0 hz0 hz1 hz2 rfl (by decide) _ _ _ rfl ((owns_kept HO5.out.drew n1.kept (fun _ _ x => x)).alloc _) ⟨w1.heap.size, 0, none⟩ 1 1 (cvC (cv n (node i l h))) rfl rfl (cell_two_at rfl _ _ _) (by simp [cvC, Value.oneCell']) (by unfold maxLen; omega) (by omega) (Nat.le_trans (Nat.le_trans hb5 n1.size) (by simp)) ?_; intro ao cap w2 hown2 hg2 hl2; have kp2 := (((K5.drew.trans n1.kept).alloc _).grown hg2 (fun k e _ => by cases e; exact hg2b))))
      all_goals
        go_wp2_with fail
        go_roundw
        case rel => exact ⟨k + 1, hlt, by go_num, by rw [HSn.out]; exact hown2, kp2⟩
        case measure =>
          simp only [intOf]
          omega
    · have hkl : k = L.length := by omega
      subst hkl
      have hlen2 := cvL_len (n := n) hk
      rw [List.take_length] at hown hlen2
      obtain ⟨g2, cap2, hv, y0, y1⟩ := cv_cells (by rw [hlen2]; exact hown) (cvL_get (n := n) hin)
      rw [hlen2] at hv
      subst hv
      have bT := pl_lt hin
      have bT1 : ((pl L t0 : Nat) : Int) < (L.length : Int) + 2 := by omega
      have a0 : W.cell? ⟨w.heap.size, 1, none⟩ = some (.int .i64 (pl L t0 : Nat)) := by simp [World.cell?, HA4.out]
      have a0' := hkp.cell a0 (show ¬ w.heap.size + 1 + 1 + 1 + 1 ≤ w.heap.size by omega)
      have r0 : wr.heap[w.heap.size + 1 + 1 + 1]? = some (.cells #[.int .i64 0, .int .u64 0] 117 (0, 0)) := (hkp.block _ (by rw [HS4.out]; omega) (show ¬ w.heap.size + 1 + 1 + 1 + 1 ≤ w.heap.size + 1 + 1 + 1 by omega)).trans HR4.out
      have c0 : wr.cell? ⟨w.heap.size + 1 + 1 + 1, 0, none⟩ = some (.int .i64 0) := by simp [World.cell?, r0]
      have c1 : wr.cell? ⟨w.heap.size + 1 + 1 + 1, 1, none⟩ = some (.int .u64 0) := by simp [World.cell?, r0]
      have f0 : wr.frozen? ⟨w.heap.size + 1 + 1 + 1, 0, none⟩ = false := by simp [World.frozen?, r0]
      have f1 : wr.frozen? ⟨w.heap.size + 1 + 1 + 1, 1, none⟩ = false := by simp [World.frozen?, r0]
      have KB : Near w wr := hN4.trans (Kept.mono hkp (fun b hb (h : w.heap.size + 1 + 1 + 1 + 1 ≤ b) => by rw [HS4.out] at hb; omega))
      clear hown a0 hz2 hz1 hz0 HS4 HA4 HR4 r0 hkp HJ HR
      go_wp2_with fail
      exact bodyPost_ret (v := .agg #[.int .i64 (cv n t0).lev, .int .u64 (cv n t0).n]) (by simp [results, Try.results88, go_sem, c0, c1]) rfl ⟨rfl, ((KB.set (by show w.heap.size ≤ w.heap.size + 1 + 1 + 1; omega) _).set (by show w.heap.size ≤ w.heap.size + 1 + 1 + 1; omega) _).below⟩

end Go.Proofs.Ytefclohjeompkaa
