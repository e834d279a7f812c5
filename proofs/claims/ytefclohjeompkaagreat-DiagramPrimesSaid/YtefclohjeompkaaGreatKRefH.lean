/- Parts of a proof: Bits, Has, Count, CountB, Wakes, Ref, RefB, RefC, RefD, RefE, RefF, RefG, RefH. -/
import Derived.WalkKit
import Derived.Maps.OwnSet
import Derived.Deep.QuietTactic
import Derived.Test.YtefclohjeompkaaGreatProg
import Derived.KernelRfl
import Derived.DeepKeys4
import Derived.Deep.RegionLaw
import Derived.StillTailTactics
import Derived.Maps.AppendAt
import Derived.WalkSpells
import Derived.WalkLawsBesides
import Derived.BigQuiet
import Derived.Lib.Hide
import Derived.Deep.DeepCutAuto
import Derived.Laws.EntriesVeiled
import Derived.Deep.RegionHeld3
import Derived.Laws.OwnMore
import Derived.Test.YtefclohjeompkaaGreatKTreeC
import Derived.Test.YtefclohjeompkaaGreatKRep
import Derived.Test.YtefclohjeompkaaGreatKJoinD
import Derived.Test.YtefclohjeompkaaGreatKCmpA
/- Bits: what is needed of it. -/
namespace Go.Proofs.Gen
open Go
theorem wraps_u32 (n : Int) (h₀ : 0 ≤ n) (h₁ : n < 2 ^ 32) : IntKind.u32.wrap n = n := by rw [IntKind.wrap_u32]; omega

theorem u32_and (a b : Nat) (ha : a < 4294967296) (hb : b < 4294967296) : bits .and .u32 a b = ((a &&& b : Nat) : Int) := (bits_nat .u32 32 (by decide) wraps_u32 a b ha hb).1

theorem u32_or (a b : Nat) (ha : a < 4294967296) (hb : b < 4294967296) : bits .or .u32 a b = ((a ||| b : Nat) : Int) := (bits_nat .u32 32 (by decide) wraps_u32 a b ha hb).2

theorem u32_shr (c i : Nat) (hi : i < 32) : (c : Int) / 2 ^ min i 32 = ((c / 2 ^ i : Nat) : Int) := by
  rw [Nat.min_eq_left (by omega)]
  simp

theorem u32_bit (c i : Nat) (hc : c < 4294967296) (hi : i < 32) : (bits .and .u32 ((c : Int) / 2 ^ min i 32) 1 == 1) = c.testBit i := by
  have hd : c / 2 ^ i < 4294967296 := Nat.lt_of_le_of_lt (Nat.div_le_self _ _) hc
  have h := u32_and (c / 2 ^ i) 1 hd (by decide)
  rw [u32_shr c i hi]
  have h' : bits .and .u32 ((c / 2 ^ i : Nat) : Int) 1 = ((c / 2 ^ i % 2 : Nat) : Int) := by
    rw [Nat.and_one_is_mod] at h
    exact h
  rw [h', Nat.testBit_eq_decide_div_mod_eq, Bool.eq_iff_iff, beq_iff_eq, decide_eq_true_iff]
  omega

theorem u32_bit' (c i : Nat) (hc : c < 4294967296) (hi : i < 32) : (bits .and .u32 ((c : Int) / 2 ^ i) 1 == 1) = c.testBit i := by
  have h := u32_bit c i hc hi
  rw [Nat.min_eq_left (by omega)] at h
  exact h

theorem u32_or_bit (s v : Nat) (hs : s < 4294967296) (hv : v < 32) : bits .or .u32 (s : Int) (2 ^ v % 4294967296) = ((s ||| 2 ^ v : Nat) : Int) := by
  have hp : 2 ^ v < 4294967296 := by
    have : 2 ^ v < 2 ^ 32 := Nat.pow_lt_pow_right (by omega) hv
    simpa using this
  have e : ((2 : Int) ^ v % 4294967296) = ((2 ^ v : Nat) : Int) := by
    have h1 : ((2 : Int) ^ v) = ((2 ^ v : Nat) : Int) := by simp
    rw [h1]
    generalize 2 ^ v = z at hp
    omega
  rw [e]
  exact u32_or s (2 ^ v) hs hp

end Go.Proofs.Gen

/- Has: what is needed of it. -/
namespace Go.Proofs.YtefclohjeompkaaGreat
open Go Go.RowKit Go.Proofs.Gen Go.Proofs.Bdd Go.Proofs.Bdd.T
set_option maxRecDepth 100000 in
set_option maxHeartbeats 800000 in
theorem has_walk (L : List T) (g : T.Good L) (hlen : L.length < 1099511627776) (sv : Value) (t0 : T) (hin : In L t0) (c : Nat) (hc : c < 4294967296) (w : World) (hr : w.ownsRow 0 84 3 sv L.length (cellsOf (enc L))) :
    Calls Tryz.prog 17 #[.agg #[sv, .int .i64 (pl L t0 : Nat)], .int .u32 c] w fun e w' => e = .returned (.bool (t0.ev (fun i => c.testBit i))) ∧ Near w w' := by
  have HR := Lib.hid hr
  clear hr
  have a0 : (w.alloc (.cells #[sv, .int .i64 (pl L t0 : Nat)] 34)).cell? ⟨w.heap.size, 0, none⟩ = some sv := by simp
  have hN : Near w (w.alloc (.cells #[sv, .int .i64 (pl L t0 : Nat)] 34)) := (Near.refl w).alloc _
  go_enter Tryz.func17, Tryz.ntmps17
  go_wp2_with fail
  go_loopw [5] (fun r wr => ∃ t : T, In L t ∧ r = .int .i64 (pl L t : Nat) ∧ t.ev (fun i => c.testBit i) = t0.ev (fun i => c.testBit i) ∧ Near (w.alloc (.cells #[sv, .int .i64 (pl L t0 : Nat)] 34)) wr) (fun r _ => (intOf r).toNat)
  case atStart => exact ⟨t0, hin, rfl, rfl, Near.refl _⟩
  case round =>
    obtain ⟨t, ht, rfl, hev, hn⟩ := hrel
    have b0 := hn.cell a0
    cases t with
    | leaf b =>
      have hp : ((pl L (leaf b) : Nat) : Int) ≤ 1 := by rw [pl_leaf]; cases b <;> decide
      have he : (((pl L (leaf b) : Nat) : Int) == 1) = b := by rw [pl_leaf]; cases b <;> rfl
      go_wp2
      go_ret
      exact ⟨by rw [← hev]; rfl, hN.trans hn⟩
    | node i l h =>
      have hp := pl_node (L := L) i l h
      have hpl := pl_lt ht
      have hkd := g.down (show node i l h ∈ L from ht)
      have hk := g.kids (show node i l h ∈ L from ht)
      have hge : (enc L)[pl L (node i l h) - 2]? = some ⟨i, pl L l, pl L h⟩ := by simp [enc, pl_get (L := L) (i := i) (l := l) (h := h) ht, en]
      have hle : (enc L).length = L.length := by simp [enc]
      obtain ⟨gb, cap, hsv, x0, x1, x2⟩ := tri_cells (by rw [hle]; exact HR.out) hge
      rw [hle] at hsv
      clear hge hle
      subst hsv
      have y0 := hn.cell (hN.cell x0)
      have y1 := hn.cell (hN.cell x1)
      have y2 := hn.cell (hN.cell x2)
      clear x0 x1 x2
      have hi := (In.ok g ht).1
      have hbit := u32_bit' c i hc (by omega)
      have HB := Lib.hid hbit
      clear hbit
      have HE := Lib.hid hev
      clear hev
      cases hb : c.testBit i with
      | true =>
        have hbt : (bits BinOp.and IntKind.u32 ((c : Int) / 2 ^ i) 1 == 1) = true := HB.out.trans hb
        have HBT := Lib.hid hb
        clear hb
        go_wp2
        go_roundw
        case rel => exact ⟨h, hk.2, rfl, by rw [← HE.out]; simp [ev, HBT.out], hn.alloc _⟩
        case measure => simp [intOf]; omega
      | false =>
        have hbt : (bits BinOp.and IntKind.u32 ((c : Int) / 2 ^ i) 1 == 1) = false := HB.out.trans hb
        have HBT := Lib.hid hb
        clear hb
        go_wp2
        go_roundw
        case rel => exact ⟨l, hk.1, rfl, by rw [← HE.out]; simp [ev, HBT.out], hn.alloc _⟩
        case measure => simp [intOf]; omega

/-- THE CONTRACT OF 'Has'. -/
theorem has_calls {w : World} {v : Value} {t : T} (h : IsD w v t) {c : Nat} (hc : c < 4294967296) {x : Int} (hx : x = c) : Calls Tryz.prog 17 #[v, .int .u32 x] w fun e w' => e = .returned (.bool (t.ev (fun i => c.testBit i))) ∧ Near w w' := by
  subst hx
  obtain ⟨ok, sv, rfl, hr⟩ := h
  have := nodes_len ok
  exact has_walk (nodes t) (nodes_good ok) (by omega) sv t (nodes_in t) c hc w hr

set_option maxRecDepth 100000 in
set_option maxHeartbeats 800000 in
theorem support_walk (L : List T) (g : T.Good L) (hlen : L.length < 1099511627776) (ao : Option Addr) (cap : Nat) (r : Int) (w : World) (hr : w.ownsRow 0 84 3 (.slice ao L.length cap) L.length (cellsOf (enc L))) :
    Calls Tryz.prog 23 #[.agg #[.slice ao L.length cap, .int .i64 r]] w fun e w' => e = .returned (.int .u32 (sup L : Nat)) ∧ Near w w' := by
  have HR := Lib.hid hr
  clear hr
  have a0 : (w.alloc (.cells #[.slice ao L.length cap, .int .i64 r] 34)).cell? ⟨w.heap.size, 0, none⟩ = some (.slice ao L.length cap) := by simp
  have hN : Near w (w.alloc (.cells #[.slice ao L.length cap, .int .i64 r] 34)) := (Near.refl w).alloc _
  go_enter Tryz.func23, Tryz.ntmps23
  go_wp2_with fail
  go_loopw [3, 9] (fun s i wr => ∃ k : Nat, k ≤ L.length ∧ i = .int .i64 k ∧ s = .int .u32 (sup (L.take k) : Nat) ∧ Near (w.alloc (.cells #[.slice ao L.length cap, .int .i64 r] 34)) wr) (fun _ i _ => L.length - (intOf i).toNat)
  case atStart => exact ⟨0, Nat.zero_le _, rfl, rfl, Near.refl _⟩
  case round =>
    obtain ⟨k, hk, rfl, rfl, hn⟩ := hrel
    by_cases hlt : k < L.length
    · have hle : (enc L).length = L.length := by simp [enc]
      have hge : (enc L)[k]? = some (en L L[k]) := by simp [enc, hlt]
      obtain ⟨gb, cap', hsv, x0, x1, x2⟩ := tri_cells (by rw [hle]; exact HR.out) hge
      rw [hle] at hsv
      simp only [Value.slice.injEq, true_and] at hsv
      obtain ⟨rfl, rfl⟩ := hsv
      have hnode := g.all L[k] (List.getElem_mem hlt)
      have hv : (en L L[k]).v = (L[k]).lv := by
        cases hx : L[k] with
        | leaf b => rw [hx] at hnode; exact hnode.1.elim
        | node j l' h' => rfl
      have hl24 : (L[k]).lv < 24 := by
        cases hx : L[k] with
        | leaf b => rw [hx] at hnode; exact hnode.1.elim
        | node j l' h' => rw [hx] at hnode; exact hnode.2.1
      rw [hv] at x0
      have hts : sup (L.take (k + 1)) = sup (L.take k) ||| 2 ^ (L[k]).lv := by rw [List.take_succ_eq_append_getElem hlt, sup_snoc]
      have y0 := hn.cell (hN.cell x0)
      have y1 := hn.cell (hN.cell x1)
      have y2 := hn.cell (hN.cell x2)
      clear x0 x1 x2 hge hle hv
      have HT := Lib.hid hts
      clear hts
      obtain ⟨lo', hlo⟩ : ∃ z, z = (en L L[k]).lo := ⟨_, rfl⟩
      obtain ⟨hi', hhi⟩ : ∃ z, z = (en L L[k]).hi := ⟨_, rfl⟩
      obtain ⟨v', hv'⟩ : ∃ z, z = (L[k]).lv := ⟨_, rfl⟩
      rw [← hv'] at y0 hl24
      rw [← hlo] at y1
      rw [← hhi] at y2
      have HV := Lib.hid hv'
      clear hlo hhi hv' hnode
      have hsl : sup (L.take k) < 16777216 := sup_lt fun t ht => by
        have hm := g.all t (List.mem_of_mem_take ht)
        cases t with
        | leaf b => exact hm.1.elim
        | node j l' h' => exact hm.2.1
      go_wp2
      go_roundw
      case rel => exact ⟨k + 1, by omega, by go_num, by rw [HT.out, u32_or_bit _ _ (by omega) (by omega), HV.out], hn.alloc _⟩
      case measure => simp [intOf]; omega
    · have hkl : k = L.length := by omega
      subst hkl
      go_wp2
      go_ret
      exact ⟨congrArg (fun z : List T => Ending.returned (Value.int .u32 ((sup z : Nat) : Int))) (List.take_length (l := L)), hN.trans hn⟩

/-- THE CONTRACT OF 'Support'. -/
theorem support_calls {w : World} {v : Value} {t : T} (h : IsD w v t) : Calls Tryz.prog 23 #[v] w fun e w' => e = .returned (.int .u32 (sup (nodes t) : Nat)) ∧ Near w w' := by
  obtain ⟨ok, sv, rfl, hr⟩ := h
  obtain ⟨ao, cap, rfl⟩ := owns_form hr
  have := nodes_len ok
  exact support_walk (nodes t) (nodes_good ok) (by omega) ao cap _ w hr

end Go.Proofs.YtefclohjeompkaaGreat

/- Count: what is needed of it. -/
namespace Go.Proofs.YtefclohjeompkaaGreat
open Go Go.RowKit Go.Proofs.Gen Go.Proofs.Bdd Go.Proofs.Bdd.T
theorem u64_in (n : Int) (h0 : 0 ≤ n) (h1 : n < 18446744073709551616) : IntKind.u64.wrap n = n := by
  simp [IntKind.wrap, IntKind.bits, IntKind.signed]
  omega

set_option maxRecDepth 100000 in
set_option maxHeartbeats 800000 in
theorem count1_walk (i l1 n1 l2 n2 : Nat) (w : World) (h1 : i + 1 ≤ l1) (h2 : i + 1 ≤ l2) (g1 : l1 ≤ 24) (g2 : l2 ≤ 24) (m1 : n1 * 2 ^ (l1 - i - 1) ≤ 16777216) (m2 : n2 * 2 ^ (l2 - i - 1) ≤ 16777216) :
    Calls Tryz.prog 47 #[.int .i64 i, .agg #[.int .i64 l1, .int .u64 n1], .agg #[.int .i64 l2, .int .u64 n2]] w fun e w' =>
      e = .returned (.agg #[.int .i64 i, .int .u64 ((n1 * 2 ^ (l1 - i - 1) + n2 * 2 ^ (l2 - i - 1) : Nat) : Int)]) ∧ Near w w' := by
  have i1 : (0 : Int) ≤ (l1 : Int) - i - 1 := by omega
  have i2 : (0 : Int) ≤ (l2 : Int) - i - 1 := by omega
  have e1 : ((l1 : Int) - i - 1).toNat < 64 := by omega
  have e2 : ((l2 : Int) - i - 1).toNat < 64 := by omega
  have q1 : IntKind.u64.wrap ((n1 : Int) * 2 ^ (l1 - i - 1)) = ((n1 * 2 ^ (l1 - i - 1) : Nat) : Int) := by
    rw [show ((n1 : Int) * 2 ^ (l1 - i - 1)) = ((n1 * 2 ^ (l1 - i - 1) : Nat) : Int) from by simp]
    exact u64_in _ (by omega) (by omega)
  have q2 : IntKind.u64.wrap ((n2 : Int) * 2 ^ (l2 - i - 1)) = ((n2 * 2 ^ (l2 - i - 1) : Nat) : Int) := by
    rw [show ((n2 : Int) * 2 ^ (l2 - i - 1)) = ((n2 * 2 ^ (l2 - i - 1) : Nat) : Int) from by simp]
    exact u64_in _ (by omega) (by omega)
  have q3 : IntKind.u64.wrap (IntKind.u64.wrap ((n1 : Int) * 2 ^ (l1 - i - 1)) + IntKind.u64.wrap ((n2 : Int) * 2 ^ (l2 - i - 1))) = ((n1 * 2 ^ (l1 - i - 1) + n2 * 2 ^ (l2 - i - 1) : Nat) : Int) := by
    rw [q1, q2, u64_in _ (by omega) (by omega)]
    omega
  have Q3 := Lib.hid q3
  clear q1 q2 q3 m1 m2
  go_enter Tryz.func47, Tryz.ntmps47
  go_wp2
  go_region
  all_goals
    go_wp2
    rw [Q3.out]
    exact bodyPost_ret (v := .agg #[.int .i64 i, .int .u64 ((n1 * 2 ^ (l1 - i - 1) + n2 * 2 ^ (l2 - i - 1) : Nat) : Int)]) (by simp [results, Tryz.results47, go_sem]) rfl ⟨rfl, (((((Near.refl w).alloc _).alloc _).alloc _)).drew⟩

/-- A level and a count. -/
structure CV where
  lev : Nat
  n : Nat

def cvC (x : CV) : List Value := [.int .i64 x.lev, .int .u64 x.n]

def cvs (l : List CV) : List Value := l.flatMap cvC

theorem cv_cells {w : World} {base : Nat} {v : Value} {l : List CV} (h : w.ownsRow base 88 2 v l.length (cvs l)) {k : Nat} {x : CV} (hk : l[k]? = some x) :
    ∃ g cap, v = .slice (some ⟨g, 0, none⟩) l.length cap ∧ w.cell? ⟨g, k * 2, none⟩ = some (.int .i64 x.lev) ∧ w.cell? ⟨g, k * 2 + 1, none⟩ = some (.int .u64 x.n) := by
  have hlt : k < l.length := (List.getElem?_eq_some_iff.1 hk).1
  rcases h.2 with ⟨_, h0⟩ | ⟨g, cap, cur, rfl, _, hg, _, _, hs, ht⟩
  · omega
  · refine ⟨g, cap, rfl, ?_⟩
    have at' : ∀ (l : List CV) (k : Nat) (x : CV), l[k]? = some x → ∀ j, j < 2 → (cvs l)[k * 2 + j]? = (cvC x)[j]? := by
      intro l
      induction l with
      | nil => intro k x h; simp at h
      | cons y r ih =>
        intro k x hk j hj
        have e : cvs (y :: r) = cvC y ++ cvs r := rfl
        have ly : (cvC y).length = 2 := rfl
        rw [e]
        cases k with
        | zero =>
          simp at hk
          subst hk
          rw [List.getElem?_append_left (by omega), Nat.zero_mul, Nat.zero_add]
        | succ k =>
          rw [List.getElem?_append_right (by omega), ly, show (k + 1) * 2 + j - 2 = k * 2 + j from by omega]
          exact ih k x (by simpa using hk) j hj
    have look : ∀ j, j < 2 → w.cell? ⟨g, k * 2 + j, none⟩ = (cvC x)[j]? := by
      intro j hj
      have a := at' l k x hk j hj
      rw [← ht, List.getElem?_take, if_pos (by omega)] at a
      simp only [World.cell?, hg]
      simpa using a
    exact ⟨look 0 (by omega), look 1 (by omega)⟩

/-- What 'Fold' keeps of a tree: from which level on, how many. -/
def cv (n : Nat) : T → CV
  | .leaf b => ⟨n, b.toNat⟩
  | .node i l h => ⟨i, (cv n l).n * 2 ^ ((cv n l).lev - i - 1) + (cv n h).n * 2 ^ ((cv n h).lev - i - 1)⟩

/-- The values behind k nodes. -/
def cvL (n : Nat) (L : List T) : List CV := ⟨n, 0⟩ :: ⟨n, 1⟩ :: L.map (cv n)

theorem cvL_get {n : Nat} {L : List T} {t : T} (h : In L t) : (cvL n L)[pl L t]? = some (cv n t) := by
  cases t with
  | leaf b => cases b <;> rfl
  | node i l r =>
    have h2 := pl_node (L := L) i l r
    have e : pl L (node i l r) = (pl L (node i l r) - 2) + 1 + 1 := by omega
    rw [e]
    simp only [cvL, List.getElem?_cons_succ, List.getElem?_map]
    rw [pl_get h]
    rfl

theorem cvL_len {n k : Nat} {L : List T} (hk : k ≤ L.length) : (cvL n (L.take k)).length = k + 2 := by simp [cvL, Nat.min_eq_left hk]

theorem cvs_snoc {n k : Nat} {L : List T} (hk : k < L.length) : cvs (cvL n (L.take (k + 1))) = cvs (cvL n (L.take k)) ++ cvC (cv n L[k]) := by
  have e : cvL n (L.take (k + 1)) = cvL n (L.take k) ++ [cv n L[k]] := by
    rw [cvL, cvL, List.take_succ_eq_append_getElem hk, List.map_append]
    rfl
  rw [e, cvs, cvs, List.flatMap_append]
  simp

theorem cell_two_at {w : World} {b : Nat} (hb : b = w.heap.size) (x y : Value) (t : TypeId) : ∀ j u, [x, y][j]? = some u → (w.alloc (.cells #[x, y] t)).cell? ((⟨b, 0, none⟩ : Addr).add j) = some u := by
  subst hb
  intro j u hj
  match j, hj with
  | 0, hj => simp at hj; subst hj; simp [Addr.add]
  | 1, hj => simp at hj; subst hj; simp [Addr.add]

theorem info117 : (Tryz.prog.info? 88).map (fun i => (i.zero, i.size, i.bytes)) = some (some (.agg #[.int .i64 0, .int .u64 0]), 2, 16) := by kernel_rfl

/-- A call of a function value, as one step of a region that draws. -/
theorem step_enter {P : Program} {w : World} {ops : Array Oper} {o : Oper} {a : Act} {K : Act → World → Prop} {Q : Exit → Act → World → Prop} {E : Prop}
    (hg : o.guard = none) (c x y z : Operand) (tys : Array TypeId) (hop : o.op = Op.call { callee := Callee.value c, args := #[x, y, z], argTypes := tys })
    {f : FuncId} {fn : Func} {code : Code} (hf : P.funcs[f]? = some fn) (hname : (fn.name == "runtime.NumGoroutine") = false) (hb : fn.body = some code)
    (hc : a.eval c = .func (.func f) #[] #[]) (vx vy vz : Value) (hx : a.eval x = vx) (hy : a.eval y = vy) (hz : a.eval z = vz) {v : Value} {R : World → Prop}
    (hcall : Calls P f #[vx, vy, vz] w fun e w' => e = .returned v ∧ R w') (hK : ∀ w', R w' → K (a.put o.dst v) w') :
    if Region.wanted o (yielded ops a.tmps) = true then Oper.wp P o a w K Q else E := by
  have hw : Region.wanted o (yielded ops a.tmps) = true := by simp [Region.wanted, hg]
  rw [if_pos hw]
  have hv : (#[x, y, z] : Array Operand).map a.eval = #[vx, vy, vz] := by simp [hx, hy, hz]
  have he : (execOp a.eval o).run P w = .ok (.enter f #[vx, vy, vz]) w := by
    unfold execOp
    simp only [hop, resolve, Deferred.ofValue, hv, hc, invoke, Sem.run_bind, Sem.run_pure, Result.andThen_ok, Array.append_empty, Array.empty_append, call_enters hf hname hb]
  unfold Oper.wp
  rw [he, Oper.upon_enter]
  refine hcall.mono ?_
  rintro e w' ⟨rfl, h⟩
  exact hK w' h

set_option maxRecDepth 100000 in
set_option maxHeartbeats 800000 in
theorem fold_counted (n : Nat) (_hn : n ≤ 24) (L : List T) (g : T.Good L) (hlen : L.length < 1099511627776) (t0 : T) (hin : In L t0) (ao : Option Addr) (cap : Nat) (w : World)
    (hr : w.ownsRow 0 84 3 (.slice ao L.length cap) L.length (cellsOf (enc L)))
    (hj : ∀ i l h, node i l h ∈ L → ∀ w', Calls Tryz.prog 47 #[.int .i64 i, .agg #[.int .i64 (cv n l).lev, .int .u64 (cv n l).n], .agg #[.int .i64 (cv n h).lev, .int .u64 (cv n h).n]] w' fun e w'' =>
      e = .returned (.agg #[.int .i64 (cv n (node i l h)).lev, .int .u64 (cv n (node i l h)).n]) ∧ Near w' w'') :
    Calls Tryz.prog 46 #[.agg #[.slice ao L.length cap, .int .i64 (pl L t0 : Nat)], .agg #[.int .i64 n, .int .u64 0], .agg #[.int .i64 n, .int .u64 1], .func (.func 47) #[] #[]] w fun e w' =>
      e = .returned (.agg #[.int .i64 (cv n t0).lev, .int .u64 (cv n t0).n]) ∧ Below w.heap.size w w' := by
  have HR := Lib.hid hr
  have HJ := Lib.hid hj
  clear hr hj
  obtain ⟨i0, hi0, hz0, hz1, hz2⟩ := info_parts info117
  go_enter Tryz.func46, Tryz.ntmps46
  go_wp2_with fail
  have hN4 : Near w ((((w.alloc (.cells #[.slice ao L.length cap, .int .i64 (pl L t0 : Nat)] 34)).alloc (.cells #[.int .i64 n, .int .u64 0] 88)).alloc (.cells #[.int .i64 n, .int .u64 1] 88)).alloc (.cells #[.int .i64 0, .int .u64 0] 88)) := ((((Near.refl w).alloc _).alloc _).alloc _).alloc _
  have hA4 : ((((w.alloc (.cells #[.slice ao L.length cap, .int .i64 (pl L t0 : Nat)] 34)).alloc (.cells #[.int .i64 n, .int .u64 0] 88)).alloc (.cells #[.int .i64 n, .int .u64 1] 88)).alloc (.cells #[.int .i64 0, .int .u64 0] 88)).heap[w.heap.size]? = some (.cells #[.slice ao L.length cap, .int .i64 (pl L t0 : Nat)] 34 (0, 0)) := by
    rw [heap_old_at (by simp <;> omega), heap_old_at (by simp <;> omega), heap_old_at (by simp), heap_new_at rfl]
  have hR4 : ((((w.alloc (.cells #[.slice ao L.length cap, .int .i64 (pl L t0 : Nat)] 34)).alloc (.cells #[.int .i64 n, .int .u64 0] 88)).alloc (.cells #[.int .i64 n, .int .u64 1] 88)).alloc (.cells #[.int .i64 0, .int .u64 0] 88)).heap[w.heap.size + 1 + 1 + 1]? = some (.cells #[.int .i64 0, .int .u64 0] 88 (0, 0)) := heap_new_at (by simp)
  have hS4 : ((((w.alloc (.cells #[.slice ao L.length cap, .int .i64 (pl L t0 : Nat)] 34)).alloc (.cells #[.int .i64 n, .int .u64 0] 88)).alloc (.cells #[.int .i64 n, .int .u64 1] 88)).alloc (.cells #[.int .i64 0, .int .u64 0] 88)).heap.size = w.heap.size + 1 + 1 + 1 + 1 := by simp
  generalize hW : ((((w.alloc (.cells #[.slice ao L.length cap, .int .i64 (pl L t0 : Nat)] 34)).alloc (.cells #[.int .i64 n, .int .u64 0] 88)).alloc (.cells #[.int .i64 n, .int .u64 1] 88)).alloc (.cells #[.int .i64 0, .int .u64 0] 88)) = W at hN4 hA4 hR4 hS4 ⊢
  clear hW
  have HA4 := Lib.hid hA4
  have HR4 := Lib.hid hR4
  have HS4 := Lib.hid hS4
  clear hA4 hR4 hS4
  go_loopw [9, 18] (fun v i wr => ∃ k : Nat, k ≤ L.length ∧ i = .int .i64 k ∧ wr.ownsRow (w.heap.size + 1 + 1 + 1 + 1) 88 2 v (k + 2) (cvs (cvL n (L.take k))) ∧ Kept (fun b => w.heap.size + 1 + 1 + 1 + 1 ≤ b) W wr) (fun _ i _ => L.length - (intOf i).toNat)
  case atStart =>
    refine ⟨0, Nat.zero_le _, rfl, ⟨rfl, .inr ⟨w.heap.size + 1 + 1 + 1 + 1, 2, #[.int .i64 n, .int .u64 0, .int .i64 n, .int .u64 1], rfl, Nat.le_refl _, heap_new_at HS4.out.symm, Nat.le_refl _, by unfold maxLen; omega, rfl, rfl⟩⟩, (Kept.refl _ _).alloc _⟩
  case round =>
    obtain ⟨k, hk, rfl, hown, hkp⟩ := hrel
    have hz4 := hN4.size
    have hzr := hkp.size
    by_cases hlt : k < L.length
    · have hle : (enc L).length = L.length := by simp [enc]
      have hge : (enc L)[k]? = some (en L L[k]) := by simp [enc, hlt]
      obtain ⟨gb, cap', hsv, x0, x1, x2⟩ := tri_cells (by rw [hle]; exact HR.out) hge
      rw [hle] at hsv
      simp only [Value.slice.injEq, true_and] at hsv
      obtain ⟨rfl, rfl⟩ := hsv
      have hgb : gb < w.heap.size := World.block_lt_of_cell? w ⟨gb, k * 3, none⟩ x0
      have hmem : L[k] ∈ L := List.getElem_mem hlt
      have hnode := g.all L[k] hmem
      obtain ⟨i, l, h, hnd⟩ : ∃ i l h, L[k] = node i l h := by
        cases hx : L[k] with
        | leaf b => rw [hx] at hnode; exact hnode.1.elim
        | node j l' h' => exact ⟨j, l', h', rfl⟩
      have hpre := g.pre k i l h (by rw [List.getElem?_eq_getElem hlt, hnd])
      have hsnoc := cvs_snoc (n := n) hlt
      rw [hnd] at x0 x1 x2 hmem hsnoc
      have pL : pl L l = pl (L.take k) l := by
        have := pl_append (M := L.drop k) hpre.1
        rwa [List.take_append_drop] at this
      have pH : pl L h = pl (L.take k) h := by
        have := pl_append (M := L.drop k) hpre.2.1
        rwa [List.take_append_drop] at this
      have hlen2 := cvL_len (n := n) hk
      have bL := pl_lt hpre.1
      have bH := pl_lt hpre.2.1
      simp only [List.length_take] at bL bH
      obtain ⟨g2, cap2, hv, y0, y1⟩ := cv_cells (by rw [hlen2]; exact hown) (cvL_get (n := n) hpre.1)
      obtain ⟨g3, cap3, hv3, z0, z1⟩ := cv_cells (by rw [hlen2]; exact hown) (cvL_get (n := n) hpre.2.1)
      rw [hlen2] at hv hv3
      subst hv
      simp only [Value.slice.injEq, Option.some.injEq, Addr.mk.injEq, and_true, true_and] at hv3
      obtain ⟨rfl, rfl⟩ := hv3
      have x0' := hkp.cell (hN4.cell x0) (show ¬ w.heap.size + 1 + 1 + 1 + 1 ≤ gb by omega)
      have x1' := hkp.cell (hN4.cell x1) (show ¬ w.heap.size + 1 + 1 + 1 + 1 ≤ gb by omega)
      have x2' := hkp.cell (hN4.cell x2) (show ¬ w.heap.size + 1 + 1 + 1 + 1 ≤ gb by omega)
      simp only [en] at x0' x1' x2'
      rw [pL] at x1'
      rw [pH] at x2'
      have bL1 : ((pl (L.take k) l : Nat) : Int) < (k : Int) + 2 := by omega
      have bH1 : ((pl (L.take k) h : Nat) : Int) < (k : Int) + 2 := by omega
      have hi := (In.ok g (show In L (node i l h) from hmem)).1
      have HO := Lib.hid hown
      have HSn := Lib.hid hsnoc
      clear x0 x1 x2 hown hsnoc hnd hle hge pL pH hlen2 hnode
      go_upto_region 5 with fail
      have X0 : (wr.alloc (.cells #[.int .i64 i, .int .i64 (pl (L.take k) l : Nat), .int .i64 (pl (L.take k) h : Nat)] 84)).cell? ⟨wr.heap.size, 0, none⟩ = some (.int .i64 i) := by simp
      have X1 : (wr.alloc (.cells #[.int .i64 i, .int .i64 (pl (L.take k) l : Nat), .int .i64 (pl (L.take k) h : Nat)] 84)).cell? ⟨wr.heap.size, 1, none⟩ = some (.int .i64 (pl (L.take k) l : Nat)) := by simp
      have X2 : (wr.alloc (.cells #[.int .i64 i, .int .i64 (pl (L.take k) l : Nat), .int .i64 (pl (L.take k) h : Nat)] 84)).cell? ⟨wr.heap.size, 2, none⟩ = some (.int .i64 (pl (L.take k) h : Nat)) := by simp
      have Y0 := cell_alloc y0 (.cells #[.int .i64 i, .int .i64 (pl (L.take k) l : Nat), .int .i64 (pl (L.take k) h : Nat)] 84)
      have Y1 := cell_alloc y1 (.cells #[.int .i64 i, .int .i64 (pl (L.take k) l : Nat), .int .i64 (pl (L.take k) h : Nat)] 84)
      have Z0 := cell_alloc z0 (.cells #[.int .i64 i, .int .i64 (pl (L.take k) l : Nat), .int .i64 (pl (L.take k) h : Nat)] 84)
      have Z1 := cell_alloc z1 (.cells #[.int .i64 i, .int .i64 (pl (L.take k) l : Nat), .int .i64 (pl (L.take k) h : Nat)] 84)
      have HO5 := Lib.hid (HO.out.alloc (.cells #[.int .i64 i, .int .i64 (pl (L.take k) l : Nat), .int .i64 (pl (L.take k) h : Nat)] 84))
      have K5 := hkp.alloc (.cells #[.int .i64 i, .int .i64 (pl (L.take k) l : Nat), .int .i64 (pl (L.take k) h : Nat)] 84)
      clear x0' x1' x2' y0 y1 z0 z1
      have hb5 : w.heap.size + 1 + 1 + 1 + 1 ≤ (wr.alloc (.cells #[.int .i64 i, .int .i64 (pl (L.take k) l : Nat), .int .i64 (pl (L.take k) h : Nat)] 84)).heap.size := by
        have := K5.size
        rw [HS4.out] at this
        exact this
      have hg2b : w.heap.size + 1 + 1 + 1 + 1 ≤ g2 := by
        rcases HO5.out.2 with ⟨h0, _⟩ | ⟨g, c, cur, e, hb, _⟩
        · cases h0
        · cases e
          exact hb
      generalize (wr.alloc (.cells #[.int .i64 i, .int .i64 (pl (L.take k) l : Nat), .int .i64 (pl (L.take k) h : Nat)] 84)) = W5 at X0 X1 X2 Y0 Y1 Z0 Z1 HO5 K5 hb5 ⊢
      go_region_law (first
        | (refine step_enter rfl (.tmp 23) (.tmp 25) (.tmp 30) (.tmp 35) #[3, 88, 88] rfl Tryz.func47 (by kernel_rfl) rfl rfl (.int .i64 i) (.agg #[.int .i64 (cv n l).lev, .int .u64 (cv n l).n]) (.agg #[.int .i64 (cv n h).lev, .int .u64 (cv n h).n]) rfl rfl rfl (HJ.out i l h hmem _) ?_; intro w1 n1)
        | (refine step_append_own rfl (.tmp 22) (.tmp 37) 121 rfl (w.heap.size+1+1+1+1) 88 i0 (.agg #[.int .i64 0, .int .u64 0]) 2 16 Tryz.underlying121 hi0 hz0 hz1 hz2 rfl (by decide) _ _ _ rfl ((owns_kept HO5.out.drew n1.kept (fun _ _ x => x)).alloc _) ⟨w1.heap.size, 0, none⟩ 1 1 (cvC (cv n (node i l h))) rfl rfl (cell_two_at rfl _ _ _) (by simp [cvC, Value.oneCell']) (by unfold maxLen; omega) (by omega) (Nat.le_trans (Nat.le_trans hb5 n1.size) (by simp)) ?_; intro ao cap w2 hown2 hg2 hl2; have kp2 := (((K5.drew.trans n1.kept).alloc _).grown hg2 (fun k e _ => by cases e; exact hg2b))))
      all_goals
        go_wp2_with fail
        go_roundw
        case rel => exact ⟨k + 1, hlt, by go_num, by rw [HSn.out]; exact hown2, kp2⟩
        case measure =>
          simp only [intOf]
          omega
    · have hkl : k = L.length := by omega
      subst hkl
      have hlen2 := cvL_len (n := n) hk
      rw [List.take_length] at hown hlen2
      obtain ⟨g2, cap2, hv, y0, y1⟩ := cv_cells (by rw [hlen2]; exact hown) (cvL_get (n := n) hin)
      rw [hlen2] at hv
      subst hv
      have bT := pl_lt hin
      have bT1 : ((pl L t0 : Nat) : Int) < (L.length : Int) + 2 := by omega
      have a0 : W.cell? ⟨w.heap.size, 1, none⟩ = some (.int .i64 (pl L t0 : Nat)) := by simp [World.cell?, HA4.out]
      have a0' := hkp.cell a0 (show ¬ w.heap.size + 1 + 1 + 1 + 1 ≤ w.heap.size by omega)
      have r0 : wr.heap[w.heap.size + 1 + 1 + 1]? = some (.cells #[.int .i64 0, .int .u64 0] 88 (0, 0)) := (hkp.block _ (by rw [HS4.out]; omega) (show ¬ w.heap.size + 1 + 1 + 1 + 1 ≤ w.heap.size + 1 + 1 + 1 by omega)).trans HR4.out
      have c0 : wr.cell? ⟨w.heap.size + 1 + 1 + 1, 0, none⟩ = some (.int .i64 0) := by simp [World.cell?, r0]
      have c1 : wr.cell? ⟨w.heap.size + 1 + 1 + 1, 1, none⟩ = some (.int .u64 0) := by simp [World.cell?, r0]
      have f0 : wr.frozen? ⟨w.heap.size + 1 + 1 + 1, 0, none⟩ = false := by simp [World.frozen?, r0]
      have f1 : wr.frozen? ⟨w.heap.size + 1 + 1 + 1, 1, none⟩ = false := by simp [World.frozen?, r0]
      have KB : Near w wr := hN4.trans (Kept.mono hkp (fun b hb (h : w.heap.size + 1 + 1 + 1 + 1 ≤ b) => by rw [HS4.out] at hb; omega))
      clear hown a0 hz2 hz1 hz0 HS4 HA4 HR4 r0 hkp HJ HR
      go_wp2_with fail
      exact bodyPost_ret (v := .agg #[.int .i64 (cv n t0).lev, .int .u64 (cv n t0).n]) (by simp [results, Tryz.results46, go_sem, c0, c1]) rfl ⟨rfl, ((KB.set (by show w.heap.size ≤ w.heap.size + 1 + 1 + 1; omega) _).set (by show w.heap.size ≤ w.heap.size + 1 + 1 + 1; omega) _).below⟩

end Go.Proofs.YtefclohjeompkaaGreat

/- CountB: what is needed of it. -/
namespace Go.Proofs.YtefclohjeompkaaGreat
open Go Go.RowKit Go.Proofs.Gen Go.Proofs.Bdd Go.Proofs.Bdd.T
/-- How many settings of k variables from lo on satisfy t, the others as c says. -/
def cA : Nat → Nat → (Nat → Bool) → T → Nat
  | 0, _, c, t => (t.ev c).toNat
  | k + 1, lo, c, t => cA k (lo + 1) (upd c lo false) t + cA k (lo + 1) (upd c lo true) t

/-- All levels below n. -/
def Low (n : Nat) : T → Prop
  | .leaf _ => True
  | .node i l h => i < n ∧ Low n l ∧ Low n h

theorem cA_skip {i : Nat} {l h : T} : ∀ (k lo : Nat) (c : Nat → Bool), i < lo → cA k lo c (node i l h) = if c i then cA k lo c h else cA k lo c l
  | 0, lo, c, _ => by simp only [cA, T.ev]; split <;> rfl
  | k + 1, lo, c, hi => by
    simp only [cA]
    rw [cA_skip k (lo + 1) _ (by omega), cA_skip k (lo + 1) _ (by omega), upd_other _ _ (by omega), upd_other _ _ (by omega)]
    split <;> rfl

theorem cA_le : ∀ (k lo : Nat) (c : Nat → Bool) (t : T), cA k lo c t ≤ 2 ^ k
  | 0, lo, c, t => by simp only [cA]; cases t.ev c <;> simp
  | k + 1, lo, c, t => by
    have h1 := cA_le k (lo + 1) (upd c lo false) t
    have h2 := cA_le k (lo + 1) (upd c lo true) t
    simp only [cA]
    rw [Nat.pow_succ]
    omega

theorem cv_lev {n i : Nat} {t : T} (hl : Low n t) (h1 : i < t.lv) (h2 : i < n) : i + 1 ≤ (cv n t).lev := by
  cases t with
  | leaf b => exact h2
  | node j l h => exact h1

theorem cA_cv (n : Nat) : ∀ (k lo : Nat) (c : Nat → Bool) (t : T), lo + k = n → t.Ok → Low n t → lo ≤ (cv n t).lev → cA k lo c t = (cv n t).n * 2 ^ ((cv n t).lev - lo)
  | 0, lo, c, t, e, ok, hl, h => by
    cases t with
    | leaf b =>
      simp only [cA, cv, T.ev]
      rw [show n - lo = 0 by omega]
      simp
    | node i l r =>
      have := hl.1
      simp only [cv] at h
      omega
  | k + 1, lo, c, t, e, ok, hl, h => by
    by_cases hlt : lo < (cv n t).lev
    · simp only [cA]
      rw [cA_cv n k (lo + 1) _ t (by omega) ok hl hlt, cA_cv n k (lo + 1) _ t (by omega) ok hl hlt, show (cv n t).lev - lo = ((cv n t).lev - (lo + 1)) + 1 by omega, Nat.pow_succ]
      have : (cv n t).n * (2 ^ ((cv n t).lev - (lo + 1)) * 2) = ((cv n t).n * 2 ^ ((cv n t).lev - (lo + 1))) * 2 := by rw [Nat.mul_assoc]
      omega
    · cases t with
      | leaf b =>
        simp only [cv] at h hlt
        omega
      | node i l r =>
        simp only [cv] at h hlt
        have hi : lo = i := by omega
        subst hi
        have bl := cv_lev hl.2.1 ok.2.1 hl.1
        have bh := cv_lev hl.2.2 ok.2.2.1 hl.1
        simp only [cA]
        rw [cA_skip k (lo + 1) _ (by omega), cA_skip k (lo + 1) _ (by omega), upd_same, upd_same]
        simp only [if_true, Bool.false_eq_true, if_false]
        rw [cA_cv n k (lo + 1) _ l (by omega) ok.2.2.2.2.1 hl.2.1 bl, cA_cv n k (lo + 1) _ r (by omega) ok.2.2.2.2.2 hl.2.2 bh]
        simp only [cv, Nat.sub_self, Nat.pow_zero, Nat.mul_one, Nat.sub_sub]

theorem low_of {n : Nat} {L : List T} (g : T.Good L) (h : ∀ t ∈ L, t.lv < n) : ∀ t : T, In L t → Low n t
  | .leaf _, _ => trivial
  | .node i l r, hin =>
    have hm : node i l r ∈ L := hin
    ⟨h _ hm, low_of g h l (g.kids hm).1, low_of g h r (g.kids hm).2⟩

theorem sup_low {n : Nat} {L : List T} (h : sup L < 2 ^ n) : ∀ t ∈ L, t.lv < n := by
  intro t ht
  by_cases hlt : t.lv < n
  · exact hlt
  · have h1 := sup_bit L t.lv
    rw [Nat.testBit_lt_two_pow (Nat.lt_of_lt_of_le h (Nat.pow_le_pow_right (by omega) (by omega)))] at h1
    have h2 : L.any (fun u => u.lv == t.lv) = true := List.any_eq_true.2 ⟨t, ht, by simp⟩
    rw [h2] at h1
    cases h1

theorem cv_bound {n i : Nat} (t : T) (ok : t.Ok) (hl : Low n t) (h : i + 1 ≤ (cv n t).lev) (hn : n ≤ 24) (hi : i < n) : (cv n t).n * 2 ^ ((cv n t).lev - i - 1) ≤ 16777216 := by
  have h1 := cA_cv n (n - (i + 1)) (i + 1) (fun _ => false) t (by omega) ok hl h
  have h2 := cA_le (n - (i + 1)) (i + 1) (fun _ => false) t
  rw [Nat.sub_sub, ← h1]
  exact Nat.le_trans h2 (Nat.le_trans (Nat.pow_le_pow_right (by omega) (show n - (i + 1) ≤ 24 by omega)) (by decide))

theorem cv_lev_le {n : Nat} {t : T} (hl : Low n t) : (cv n t).lev ≤ n := by
  cases t with
  | leaf b => exact Nat.le_refl _
  | node j l h => exact Nat.le_of_lt hl.1

theorem fold_count_calls {n : Nat} (hn : n ≤ 24) {w : World} {v : Value} {t : T} (h : IsD w v t) (hs : sup (nodes t) < 2 ^ n) :
    Calls Tryz.prog 46 #[v, .agg #[.int .i64 n, .int .u64 0], .agg #[.int .i64 n, .int .u64 1], .func (.func 47) #[] #[]] w fun e w' =>
      e = .returned (.agg #[.int .i64 (cv n t).lev, .int .u64 (cv n t).n]) ∧ Below w.heap.size w w' := by
  obtain ⟨ok, sv, rfl, hr⟩ := h
  obtain ⟨ao, cap, rfl⟩ := owns_form hr
  have g := nodes_good ok
  have hL := sup_low hs
  have := nodes_len ok
  refine fold_counted n hn (nodes t) g (by omega) t (nodes_in t) ao cap w hr ?_
  intro i l r hm w'
  have k := g.kids hm
  have o := (g.all _ hm).2
  have ll := low_of g hL l k.1
  have lr := low_of g hL r k.2
  have hi : i < n := hL _ hm
  have b1 := cv_lev ll o.2.1 hi
  have b2 := cv_lev lr o.2.2.1 hi
  exact count1_walk i _ _ _ _ w' b1 b2 (Nat.le_trans (cv_lev_le ll) hn) (Nat.le_trans (cv_lev_le lr) hn) (cv_bound l o.2.2.2.2.1 ll b1 hn hi) (cv_bound r o.2.2.2.2.2 lr b2 hn hi)

set_option maxRecDepth 100000 in
set_option maxHeartbeats 800000 in
theorem count_calls {w : World} {v : Value} {t : T} (h : IsD w v t) {n : Nat} (hn : n ≤ 24) (hs : sup (nodes t) < 2 ^ n) :
    Calls Tryz.prog 15 #[v, .int .i64 n] w fun e w' => e = .returned (.tuple #[.int .u64 (cA n 0 (fun _ => false) t : Nat), .int .i64 0]) ∧ Near w w' := by
  have h1 : ¬ (24 : Int) < (n : Int) := by omega
  have h2 : ¬ (n : Int) < 0 := by omega
  obtain ⟨ao, m, cap, rfl, hm⟩ := h.form
  have H := Lib.hid h
  have HS := Lib.hid hs
  clear h hs hm
  have hq : ((sup (nodes t) : Nat) : Int) / 2 ^ n = 0 := by
    rw [show ((2 : Int) ^ n) = ((2 ^ n : Nat) : Int) from by simp, ← Int.natCast_ediv, Nat.div_eq_of_lt HS.out]
    rfl
  have hN : Near w (w.alloc (.cells #[.slice ao m cap, .int .i64 (pl (nodes t) t : Nat)] 34)) := (Near.refl w).alloc _
  have a0 : (w.alloc (.cells #[.slice ao m cap, .int .i64 (pl (nodes t) t : Nat)] 34)).cell? ⟨w.heap.size, 0, none⟩ = some (.slice ao m cap) := by simp
  have a1 : (w.alloc (.cells #[.slice ao m cap, .int .i64 (pl (nodes t) t : Nat)] 34)).cell? ⟨w.heap.size, 1, none⟩ = some (.int .i64 (pl (nodes t) t : Nat)) := by simp
  have A0 := Lib.hid a0
  have A1 := Lib.hid a1
  have HN := Lib.hid hN
  clear a0 a1 hN
  go_enter Tryz.func15, Tryz.ntmps15
  go_wp2_with (first
    | (go_at_call 23; refine (support_calls (H.out.near HN.out)).mono ?_; rintro e w1 ⟨rfl, n1⟩; have b0 := n1.cell A0.out; have b1 := n1.cell A1.out)
    | (go_at_call 46; refine (fold_count_calls hn (H.out.near (HN.out.trans n1)) HS.out).mono ?_; rintro e w2 ⟨rfl, n2⟩))
  have hcv : (cv n t).n * 2 ^ (cv n t).lev = cA n 0 (fun _ => false) t := by
    have := cA_cv n n 0 (fun _ => false) t (by omega) H.out.1 (low_of (nodes_good H.out.1) (sup_low HS.out) t (nodes_in t)) (Nat.zero_le _)
    rw [this, Nat.sub_zero]
  have hle := cv_lev_le (low_of (nodes_good H.out.1) (sup_low HS.out) t (nodes_in t))
  have hb := cA_le n 0 (fun _ => false) t
  have hb2 : (2 : Nat) ^ n ≤ 2 ^ 24 := Nat.pow_le_pow_right (by omega) hn
  have hb3 : (2 : Nat) ^ 24 = 16777216 := by decide
  have hw : IntKind.u64.wrap (((cv n t).n : Int) * 2 ^ min (cv n t).lev 64) = (cA n 0 (fun _ => false) t : Nat) := by
    rw [Nat.min_eq_left (by omega), ← hcv, show (((cv n t).n : Int) * 2 ^ (cv n t).lev) = (((cv n t).n * 2 ^ (cv n t).lev : Nat) : Int) from by simp, hcv]
    exact u64_in _ (by omega) (by omega)
  rw [hw]
  exact bodyPost_ret (v := .tuple #[.int .u64 (cA n 0 (fun _ => false) t : Nat), .int .i64 0]) (by simp [results, Tryz.results15, go_sem]) rfl ⟨rfl, ((HN.out.trans n1).trans (Near.of_below n2)).alloc _⟩

end Go.Proofs.YtefclohjeompkaaGreat

/- Wakes: what is needed of it. -/
namespace Go.Proofs.YtefclohjeompkaaGreat
open Go Go.RowKit Go.Proofs.Gen Go.Proofs.Bdd Go.Proofs.Bdd.T
/-- x0 and x1, or x2. -/
def t3 : T := node 0 (node 2 (leaf false) (leaf true)) (node 1 (node 2 (leaf false) (leaf true)) (leaf true))

theorem t3_ok : t3.Ok := by
  refine ⟨by decide, by decide, by decide, by decide, ⟨by decide, by decide, by decide, by decide, trivial, trivial⟩, ⟨by decide, by decide, by decide, by decide, ⟨by decide, by decide, by decide, by decide, trivial, trivial⟩, trivial⟩⟩

theorem t3_ev (c : Nat → Bool) : t3.ev c = (c 0 && c 1 || c 2) := by
  simp only [t3, T.ev]
  cases c 0 <;> cases c 1 <;> cases c 2 <;> rfl

theorem t3_len : (nodes t3).length = 3 := by decide

theorem t3_sup : sup (nodes t3) = 7 := by decide

theorem t3_count : cA 3 0 (fun _ => false) t3 = 5 := by decide

theorem var_n (i : Nat) (h : i < 24) {x : Int} (hx : x = i) (w : World) : Calls Tryz.prog 12 #[.int .i64 x] w fun e w' => ∃ ao n cap, e = .returned (.tuple #[.agg #[.slice ao n cap, .int .i64 2], .int .i64 0]) ∧ IsD w' (.agg #[.slice ao n cap, .int .i64 2]) (node i (leaf false) (leaf true)) ∧ Near w w' := by
  subst hx
  refine (var_in i h w).mono ?_
  rintro e w' ⟨v, rfl, hd, hn⟩
  obtain ⟨ao, n, cap, rfl, -⟩ := hd.form
  have hnn : nodes (node i (leaf false) (leaf true)) = [node i (leaf false) (leaf true)] := by simp [nodes, go]
  have hp : pl [node i (leaf false) (leaf true)] (node i (leaf false) (leaf true)) = 2 := by simp [pl]
  rw [hnn, hp] at hd ⊢
  exact ⟨ao, n, cap, rfl, hd, hn⟩

theorem count3 {w : World} {v : Value} (h : IsD w v t3) : Calls Tryz.prog 15 #[v, .int .i64 3] w fun e w' => e = .returned (.tuple #[.int .u64 5, .int .i64 0]) ∧ Near w w' := by
  have := count_calls h (n := 3) (by decide) (by rw [t3_sup]; decide)
  rw [t3_count] at this
  exact this

theorem size3 {w : World} {v : Value} (h : IsD w v t3) : Calls Tryz.prog 16 #[v] w fun e w' => e = .returned (.int .i64 3) ∧ Near w w' := by
  have := size_calls h
  rw [t3_len] at this
  exact this

theorem has34 {w : World} {v : Value} (h : IsD w v t3) : Calls Tryz.prog 17 #[v, .int .u32 4] w fun e w' => e = .returned (.bool true) ∧ Near w w' := by
  have := has_calls h (c := 4) (by decide) (x := 4) rfl
  rw [t3_ev] at this
  exact this

theorem has32 {w : World} {v : Value} (h : IsD w v t3) : Calls Tryz.prog 17 #[v, .int .u32 2] w fun e w' => e = .returned (.bool false) ∧ Near w w' := by
  have := has_calls h (c := 2) (by decide) (x := 2) rfl
  rw [t3_ev] at this
  exact this

theorem xor_same {w : World} {v : Value} {t : T} (h : IsD w v t) : Calls Tryz.prog 18 #[v, v] w fun e w' => ∃ ao n cap, e = .returned (.agg #[.slice ao n cap, .int .i64 0]) ∧ IsD w' (.agg #[.slice ao n cap, .int .i64 0]) (leaf false) ∧ Near w w' := by
  refine (xor_calls h h).mono ?_
  rintro e w' ⟨s, hev, v, rfl, hs, hbl⟩
  have hsf : s = leaf false := canon hs.1 trivial (fun c => by rw [hev]; simp [T.ev])
  subst hsf
  obtain ⟨ao, n, cap, rfl, -⟩ := hs.form
  rw [pl_leaf] at hs ⊢
  exact ⟨ao, n, cap, rfl, hs, Near.of_below hbl⟩

theorem empty_false {w : World} {v : Value} (h : IsD w v (leaf false)) : Calls Tryz.prog 19 #[v] w fun e w' => e = .returned (.bool true) ∧ Near w w' := by
  have := empty_calls h
  simpa using this

theorem keepE {w w' : World} (h : Below w.heap.size w w') {k : Nat} {o : Obj} (hk : w.heap[k]? = some o) : w'.heap[k]? = some o :=
  (h.block k (Array.getElem?_eq_some_iff.1 hk).1).trans hk

theorem Near.size' {a b : World} (h : Near a b) : a.heap.size ≤ b.heap.size := h.size

theorem keepN {w w' : World} (h : Near w w') {k : Nat} {o : Obj} (hk : w.heap[k]? = some o) : w'.heap[k]? = some o := keepE h.below hk

/-- A set's variable after the three terms' joining. -/
def Joined (W : World) (s9 : Value) (wx : World) : Prop :=
  ∃ pb ao n cap r, s9 = .pointer (some ⟨pb, 0, none⟩) ∧ wx.heap[pb]? = some (.cells #[.slice ao n cap, .int .i64 r] 34 (0, 0)) ∧ IsD wx (.agg #[.slice ao n cap, .int .i64 r]) t3 ∧ Near W wx

theorem stored31 {w : World} {b : Nat} {x y u v : Value} (h : w.heap[b]? = some (.cells #[x, y] 34 (0, 0))) :
    ((w.setCell ⟨b, 0, none⟩ u).setCell ⟨b, 1, none⟩ v).heap[b]? = some (.cells #[u, v] 34 (0, 0)) := by
  have := setCell_heap (setCell_heap h 0 u) 1 v
  simpa using this

set_option maxRecDepth 100000 in
set_option maxHeartbeats 1600000 in
theorem wakes_calls (w : World) : Calls Tryz.prog 5 #[] w fun e w' => e = .returned (.bool true) ∧ Near w w' := by
  go_enter Tryz.func5, Tryz.ntmps5
  go_wp2_with (first
    | (go_at_call_of 12 (Value.int IntKind.i64 0); refine (var_n 0 (by decide) rfl _).mono ?_; rintro e w1 ⟨a1, m1, c1, rfl, d1, n1⟩)
    | (go_at_call_of 12 (Value.int IntKind.i64 1); refine (var_n 1 (by decide) rfl _).mono ?_; rintro e w2 ⟨a2, m2, c2, rfl, d2, n2⟩)
    | (go_at_call_of 12 (Value.int IntKind.i64 2); refine (var_n 2 (by decide) rfl _).mono ?_; rintro e w3 ⟨a3, m3, c3, rfl, d3, n3⟩)
    | (go_at_call_of 12 (Value.int IntKind.i64 24); refine (var_out 24 (by decide) _).mono ?_; rintro e w4 ⟨rfl, n4⟩))
  have N4 : Near (w4.alloc (.cells #[.slice none 0 0, .int .i64 0] 34)) (w4.alloc (.cells #[.slice none 0 0, .int .i64 0] 34)) := Near.refl _
  have k34 : Near (w3.alloc (.cells #[.slice a3 m3 c3, .int .i64 2] 34)) (w4.alloc (.cells #[.slice none 0 0, .int .i64 0] 34)) := n4.alloc _
  have k24 : Near (w2.alloc (.cells #[.slice a2 m2 c2, .int .i64 2] 34)) (w4.alloc (.cells #[.slice none 0 0, .int .i64 0] 34)) := (n3.alloc _).trans k34
  have k14 : Near (w1.alloc (.cells #[.slice a1 m1 c1, .int .i64 2] 34)) (w4.alloc (.cells #[.slice none 0 0, .int .i64 0] 34)) := (n2.alloc _).trans k24
  have E1 := Lib.hid (keepN k14 (heap_new_at rfl))
  have E2 := Lib.hid (keepN k24 (heap_new_at rfl))
  have E3 := Lib.hid (keepN k34 (heap_new_at rfl))
  have D1 := Lib.hid (d1.near (((Near.refl w1).alloc _).trans k14))
  have D2 := Lib.hid (d2.near (((Near.refl w2).alloc _).trans k24))
  have D3 := Lib.hid (d3.near (((Near.refl w3).alloc _).trans k34))
  have HW := Lib.hid ((n1.alloc _).trans k14)
  clear N4 k34 k24 k14 d1 d2 d3 n1 n2 n3 n4
  generalize (w4.alloc (.cells #[.slice none 0 0, .int .i64 0] 34)) = W at E1 E2 E3 D1 D2 D3 HW ⊢
  have sOf : ∀ w', Near W w' → w'.cell? ⟨w1.heap.size, 0, none⟩ = some (.slice a1 m1 c1) ∧ w'.cell? ⟨w1.heap.size, 1, none⟩ = some (.int .i64 2) ∧ w'.cell? ⟨w2.heap.size, 0, none⟩ = some (.slice a2 m2 c2) ∧ w'.cell? ⟨w2.heap.size, 1, none⟩ = some (.int .i64 2) ∧ w'.cell? ⟨w3.heap.size, 0, none⟩ = some (.slice a3 m3 c3) ∧ w'.cell? ⟨w3.heap.size, 1, none⟩ = some (.int .i64 2) ∧ Near W w' :=
    fun w' h => ⟨cell1 (keepN h E1.out) rfl, cell1 (keepN h E1.out) rfl, cell1 (keepN h E2.out) rfl, cell1 (keepN h E2.out) rfl, cell1 (keepN h E3.out) rfl, cell1 (keepN h E3.out) rfl, h⟩
  go_cut [9] (fun s9 wx => Joined W s9 wx)
  case first =>
    go_region_held3 (fun w' => w'.cell? ⟨w1.heap.size, 0, none⟩ = some (.slice a1 m1 c1) ∧ w'.cell? ⟨w1.heap.size, 1, none⟩ = some (.int .i64 2) ∧ w'.cell? ⟨w2.heap.size, 0, none⟩ = some (.slice a2 m2 c2) ∧ w'.cell? ⟨w2.heap.size, 1, none⟩ = some (.int .i64 2) ∧ w'.cell? ⟨w3.heap.size, 0, none⟩ = some (.slice a3 m3 c3) ∧ w'.cell? ⟨w3.heap.size, 1, none⟩ = some (.int .i64 2) ∧ Near W w')
      ((refine sOf _ ?_; repeat (first | assumption | exact Near.refl _ | refine Near.drew ?_ | refine Near.alloc ?_ _ | refine Near.drewN ?_ _ | refine Near.set ?_ (by show W.heap.size ≤ _; first | exact Nat.le_refl _ | (refine Near.size' ?_; assumption) | omega) _)))
      (first
        | (go_at_call 13; refine (and_calls (D1.out.near (by first | assumption | exact (Near.refl W).drew | exact (Near.refl W).drew.alloc _)) (D2.out.near (by first | assumption | exact (Near.refl W).drew | exact (Near.refl W).drew.alloc _))).mono ?_; rintro e w5 ⟨s5, ev5, v5, rfl, i5, b5⟩; obtain ⟨o5, l5, p5, rfl, -⟩ := i5.form; have z5 : Near W w5 := Near.trans (by first | assumption | exact (Near.refl W).drew | exact (Near.refl W).drew.alloc _) (Near.of_below b5); have I5 := Lib.hid i5; clear i5; first | (have E5 := Lib.hid (keepE b5 (heap_new_at rfl)); have q50 := cell1 (o := 0) E5.out rfl; have q51 := cell1 (o := 1) E5.out rfl; have g50 := free1 E5.out 0; have g51 := free1 E5.out 1) | skip)
        | (go_at_call 14; refine (or_calls (I5.out.near (by first | exact Near.refl _ | exact (Near.refl _).alloc _)) (D3.out.near (by first | assumption | exact z5.alloc _))).mono ?_; rintro e w6 ⟨s6, ev6, v6, rfl, i6, b6⟩; obtain ⟨o6, l6, p6, rfl, -⟩ := i6.form; have z6 : Near W w6 := Near.trans (by first | assumption | exact z5.alloc _) (Near.of_below b6); have I6 := Lib.hid i6; clear i6; first | (have E6 := Lib.hid (keepE b6 E5.out); have q60 := cell1 (o := 0) E6.out rfl; have q61 := cell1 (o := 1) E6.out rfl; have g60 := free1 E6.out 0; have g61 := free1 E6.out 1) | (have E6 := Lib.hid (keepE b6 (heap_new_at rfl)); have q60 := cell1 (o := 0) E6.out rfl; have q61 := cell1 (o := 1) E6.out rfl; have g60 := free1 E6.out 0; have g61 := free1 E6.out 1) | skip))
    all_goals
      have hs6 : s6 = t3 := canon I6.out.1 t3_ok (fun c => by rw [ev6, ev5, t3_ev]; simp [T.ev])
      subst hs6
      go_wp2_with fail
      go_meet
      first
        | exact ⟨_, _, _, _, _, rfl, heap_new_at rfl, I6.out.near ((Near.refl _).alloc _), z6.alloc _⟩
        | exact ⟨_, _, _, _, _, rfl, stored31 E6.out, isD_store I6.out E6.out, (z6.set (by show W.heap.size ≤ _; first | exact Nat.le_refl _ | exact z5.size') _).set (by show W.heap.size ≤ _; first | exact Nat.le_refl _ | exact z5.size') _⟩
  case rest =>
    obtain ⟨pb, ao, n, cap, r, rfl, hb, hd, hn⟩ := hcut
    have hq : ∀ w', Near wc w' → w'.cell? ⟨pb, 0, none⟩ = some (.slice ao n cap) ∧ w'.cell? ⟨pb, 1, none⟩ = some (.int .i64 r) ∧ w'.cell? ⟨w1.heap.size, 0, none⟩ = some (.slice a1 m1 c1) ∧ w'.cell? ⟨w1.heap.size, 1, none⟩ = some (.int .i64 2) :=
      fun w' h => ⟨cell1 (keepN h hb) rfl, cell1 (keepN h hb) rfl, cell1 (keepN (hn.trans h) E1.out) rfl, cell1 (keepN (hn.trans h) E1.out) rfl⟩
    have d1 := Lib.hid (D1.out.near hn)
    have HD := Lib.hid hd
    have HN := Lib.hid hn
    clear E2 E3 D1 D2 D3 sOf hd hn hb E1
    obtain ⟨x1, x2, x3, x4⟩ := hq _ (Near.refl _)
    go_wp2_with (first
      | (go_at_call 15; refine (count3 HD.out).mono ?_; rintro e v1 ⟨rfl, k1⟩; obtain ⟨x11, x12, x13, x14⟩ := hq _ k1)
      | (go_at_call 16; refine (size3 (HD.out.near k1)).mono ?_; rintro e v2 ⟨rfl, n2⟩; have k2 := k1.trans n2; obtain ⟨x21, x22, x23, x24⟩ := hq _ k2)
      | (go_at_call_of 17 (Value.int IntKind.u32 4); refine (has34 (HD.out.near k2)).mono ?_; rintro e v3 ⟨rfl, n3⟩; have k3 := k2.trans n3; obtain ⟨x31, x32, x33, x34⟩ := hq _ k3)
      | (go_at_call_of 17 (Value.int IntKind.u32 2); refine (has32 (HD.out.near k3)).mono ?_; rintro e v4 ⟨rfl, n4⟩; have k4 := k3.trans n4; obtain ⟨x41, x42, x43, x44⟩ := hq _ k4)
      | (go_at_call 18; refine (xor_same (d1.out.near k4)).mono ?_; rintro e v5 ⟨ax, mx, cx, rfl, dx, n5⟩; have k5 := k4.trans n5)
      | (go_at_call 19; refine (empty_false dx).mono ?_; rintro e v6 ⟨rfl, n6⟩; have k6 := k5.trans n6))
    exact bodyPost_ret (v := .bool true) (by simp [results, Tryz.results5, go_sem]) rfl ⟨rfl, (HW.out.trans HN.out).trans k6⟩

end Go.Proofs.YtefclohjeompkaaGreat

/- Ref: what is needed of it. -/
namespace Go.Proofs.YtefclohjeompkaaGreat
open Go Go.RowKit Go.Proofs.Gen Go.Proofs.Bdd Go.Proofs.Bdd.T
/-- The features of a number, rising, below k. -/
def featsTo (f k : Nat) : List Nat := (List.range k).filter (fun i => f.testBit i)

def feats (f : Nat) : List Nat := featsTo f 24

theorem featsTo_succ (f k : Nat) : featsTo f (k + 1) = featsTo f k ++ if f.testBit k = true then [k] else [] := by
  unfold featsTo
  rw [List.range_succ, List.filter_append]
  simp only [List.filter_cons, List.filter_nil]

theorem featsTo_len (f k : Nat) : (featsTo f k).length ≤ k := Nat.le_trans (List.length_filter_le _ _) (by simp)

def iv (i : Nat) : Value := .int .i64 i

/-- A row of one cell each. -/
theorem row1 {w : World} {base e n : Nat} {v : Value} {xs : List Value} (h : w.ownsRow base e 1 v n xs) {k : Nat} {u : Value} (hk : xs[k]? = some u) (hn : k < n) :
    ∃ g cap, v = .slice (some ⟨g, 0, none⟩) n cap ∧ w.cell? ⟨g, k, none⟩ = some u ∧ g < w.heap.size := by
  rcases h.2 with ⟨_, h0⟩ | ⟨g, cap, cur, rfl, _, hg, _, _, hs, ht⟩
  · omega
  · refine ⟨g, cap, rfl, ?_, (Array.getElem?_eq_some_iff.1 hg).1⟩
    rw [← ht, List.getElem?_take, if_pos (by omega)] at hk
    simp only [World.cell?, hg]
    simpa using hk

theorem ownsRow_base {w : World} {base e size n : Nat} {v : Value} {xs : List Value} (h : w.ownsRow base e size v n xs) {m : Nat} : ∀ k, v.ownBlock = some k → k < m → base ≤ k := by
  intro k hk _
  rcases h.2 with ⟨rfl, _⟩ | ⟨g, cap, cur, rfl, hb, _⟩
  · cases hk
  · cases hk
    exact hb

theorem cell_one_at {w : World} {b : Nat} (hb : b = w.heap.size) (x : Value) (t : TypeId) : ∀ j u, [x][j]? = some u → (w.alloc (.cells #[x] t)).cell? ((⟨b, 0, none⟩ : Addr).add j) = some u := by
  subst hb
  intro j u hj
  match j, hj with
  | 0, hj => simp at hj; subst hj; simp [Addr.add]

theorem info3 : (Tryz.prog.info? 3).map (fun i => (i.zero, i.size, i.bytes)) = some (some (.int .i64 0), 1, 8) := by kernel_rfl

set_option maxRecDepth 100000 in
set_option maxHeartbeats 800000 in
theorem features_calls (f : Nat) (hf : f < 4294967296) (w : World) :
    Calls Tryz.prog 10 #[.int .u32 f] w fun e w' => ∃ v, e = .returned v ∧ w'.ownsRow w.heap.size 3 1 v (feats f).length ((feats f).map iv) ∧ Near w w' := by
  obtain ⟨i0, hi0, hz0, hz1, hz2⟩ := info_parts info3
  go_enter Tryz.func10, Tryz.ntmps10
  go_wp2_with fail
  go_loopw [0, 3, 4] (fun x v i wr => ∃ k : Nat, k ≤ 24 ∧ i = .int .i64 k ∧ x = .int .u32 ((f / 2 ^ k : Nat) : Int) ∧ wr.ownsRow w.heap.size 3 1 v (featsTo f k).length ((featsTo f k).map iv) ∧ Kept (fun b => w.heap.size ≤ b) w wr) (fun _ _ i _ => 24 - (intOf i).toNat)
  case atStart => exact ⟨0, Nat.zero_le _, rfl, by simp, World.ownsRow_nil _ _ _ _, Kept.refl _ _⟩
  case round =>
    obtain ⟨k, hk, rfl, rfl, hown, hkp⟩ := hrel
    have hsz := hkp.size
    by_cases hlt : k < 24
    · have hlt' : (k : Int) < 24 := by omega
      have hl := featsTo_len f k
      have hs := featsTo_succ f k
      have hd : f / 2 ^ k / 2 = f / 2 ^ (k + 1) := by rw [Nat.div_div_eq_div_mul, Nat.pow_succ]
      have hfk : f / 2 ^ k < 4294967296 := Nat.lt_of_le_of_lt (Nat.div_le_self _ _) hf
      obtain ⟨y, hy⟩ : ∃ y, y = f / 2 ^ k := ⟨_, rfl⟩
      rw [Nat.testBit_eq_decide_div_mod_eq] at hs
      rw [← hy] at hd hfk hs ⊢
      obtain ⟨fl, hfl⟩ : ∃ z, z = featsTo f k := ⟨_, rfl⟩
      rw [← hfl] at hl hs hown
      have HY := Lib.hid hy
      have HD := Lib.hid hd
      have HS := Lib.hid hs
      clear hy hd hs hfl
      obtain ⟨ao, cap, rfl⟩ := owns_form hown
      have HO := Lib.hid hown
      clear hown
      by_cases h1 : y % 2 = 1
      · have h1' : ((y : Int) % 2 == 1) = true := by
          have : (y : Int) % 2 = 1 := by omega
          rw [this]; rfl
        go_wp2_with (first | (at_builtin; refine wpList_append_in rfl (.tmp 12) (.tmp 14) 36 rfl w.heap.size 3 i0 (.int .i64 0) 1 8 Tryz.underlying36 hi0 hz0 hz1 hz2 rfl (by decide) _ _ _ rfl (by exact HO.out.alloc _) ⟨wr.heap.size, 0, none⟩ 1 1 [.int .i64 k] rfl rfl (by exact cell_one_at rfl _ _) (by simp [Value.oneCell']) (by unfold maxLen; omega) (by omega) (by simp <;> omega) ?_; intro ao' cap' w3 hown3 hg3 hl3))
        have hs' : featsTo f (k + 1) = fl ++ [k] := by rw [HS.out, if_pos (by simpa using h1)]
        refine ⟨⟨k + 1, by omega, by go_num, ?_, ?_, (hkp.alloc _).grown hg3 (ownsRow_base HO.out)⟩, by simp [intOf]; omega⟩
        · rw [← HD.out]
          rfl
        · rw [hs', List.length_append, List.map_append]
          exact hown3
      · have h1' : ((y : Int) % 2 == 1) = false := by
          have : (y : Int) % 2 = 0 := by omega
          rw [this]; rfl
        have hs' : featsTo f (k + 1) = fl := by rw [HS.out, if_neg (by simpa using h1), List.append_nil]
        go_wp2_with fail
        refine ⟨⟨k + 1, by omega, by go_num, ?_, ?_, hkp⟩, by simp [intOf]; omega⟩
        · rw [← HD.out]
          rfl
        · rw [hs']
          exact HO.out
    · have hk24 : k = 24 := by omega
      subst hk24
      obtain ⟨y, hy⟩ : ∃ y, y = f / 2 ^ 24 := ⟨_, rfl⟩
      rw [← hy]
      obtain ⟨ao, cap, rfl⟩ := owns_form hown
      have HO := Lib.hid hown
      clear hown
      go_wp2_with fail
      go_ret
      exact ⟨_, rfl, HO.out, Kept.mono hkp (fun b hb h => by omega)⟩

end Go.Proofs.YtefclohjeompkaaGreat

/- RefB: what is needed of it. -/
namespace Go.Proofs.YtefclohjeompkaaGreat
open Go Go.RowKit Go.Proofs.Gen Go.Proofs.Bdd Go.Proofs.Bdd.T
/-- The number of a list of features. -/
def numb (V : List Nat) : Nat := V.foldl (fun a i => a ||| 2 ^ i) 0

theorem numb_snoc (V : List Nat) (i : Nat) : numb (V ++ [i]) = numb V ||| 2 ^ i := by simp [numb, List.foldl_append]

theorem numb_bit_aux (i : Nat) : ∀ (V : List Nat) (a : Nat), (V.foldl (fun a i => a ||| 2 ^ i) a).testBit i = (a.testBit i || V.contains i)
  | [], a => by simp
  | j :: V, a => by
    rw [List.foldl_cons, numb_bit_aux i V, Nat.testBit_or, Nat.testBit_two_pow, List.contains_cons, Bool.or_assoc]
    congr 1
    congr 1
    by_cases h : j = i
    · subst h; simp
    · simp [h, Ne.symm h]

theorem numb_bit (V : List Nat) (i : Nat) : (numb V).testBit i = V.contains i := by
  unfold numb
  rw [numb_bit_aux]
  simp

theorem numb_lt {V : List Nat} (h : ∀ i ∈ V, i < 24) : numb V < 16777216 := by
  have e : (16777216 : Nat) = 2 ^ 24 := by decide
  rw [e]
  refine Nat.lt_pow_two_of_testBit _ fun i hi => ?_
  rw [numb_bit]
  have : i ∉ V := fun hm => by have := h i hm; omega
  simpa using this

/-- The configuration of an index. -/
def cfg : List Nat → Nat → Nat
  | [], _ => 0
  | i :: V, k => k % 2 * 2 ^ i + cfg V (k / 2)

theorem cfg_snoc (i : Nat) : ∀ (V : List Nat) (k : Nat), cfg (V ++ [i]) k = cfg V k + k / 2 ^ V.length % 2 * 2 ^ i
  | [], k => by simp [cfg]
  | j :: V, k => by
    simp only [List.cons_append, cfg, List.length_cons]
    rw [cfg_snoc i V, Nat.div_div_eq_div_mul, Nat.pow_succ, Nat.mul_comm (2 ^ V.length) 2, Nat.add_assoc]

/-- Rising, from m, below 24. -/
def Rising : Nat → List Nat → Prop
  | m, [] => m ≤ 24
  | m, i :: V => m ≤ i ∧ Rising (i + 1) V

theorem Rising.le : ∀ {V : List Nat} {m : Nat}, Rising m V → m ≤ 24
  | [], _, h => h
  | i :: V, m, h => by have := Rising.le h.2; have := h.1; omega

theorem Rising.all : ∀ {V : List Nat} {m : Nat}, Rising m V → ∀ i ∈ V, m ≤ i ∧ i < 24
  | [], _, _, i, hi => by cases hi
  | j :: V, m, h, i, hi => by
    have h1 := h.1
    have h2 := h.2.le
    rcases List.mem_cons.1 hi with rfl | hm
    · omega
    · have := h.2.all i hm
      omega

theorem cfg_le : ∀ {V : List Nat} {m : Nat}, Rising m V → ∀ k, cfg V k + 2 ^ m ≤ 2 ^ 24
  | [], m, h, k => by
    simp only [cfg, Nat.zero_add]
    exact Nat.pow_le_pow_right (by omega) h
  | i :: V, m, h, k => by
    have h1 := cfg_le h.2 (k / 2)
    have h2 : 2 ^ m ≤ 2 ^ i := Nat.pow_le_pow_right (by omega) h.1
    have h3 : k % 2 * 2 ^ i ≤ 1 * 2 ^ i := Nat.mul_le_mul_right _ (by omega)
    rw [Nat.pow_succ] at h1
    simp only [cfg]
    omega

theorem cfg_lt {V : List Nat} {m : Nat} (h : Rising m V) (k : Nat) : cfg V k < 16777216 := by
  have h1 := cfg_le h k
  have h2 := Nat.two_pow_pos m
  have e : (16777216 : Nat) = 2 ^ 24 := by decide
  omega

theorem Rising.take : ∀ {V : List Nat} {m : Nat}, Rising m V → ∀ j, Rising m (V.take j)
  | [], m, h, j => by simpa using h
  | i :: V, m, h, 0 => by
    have h1 := h.1
    have h2 := h.2.le
    show m ≤ 24
    omega
  | i :: V, m, h, j + 1 => ⟨h.1, h.2.take j⟩

theorem add_bit (z i : Nat) (hz : z < 16777216) (hi : i < 24) : ((z : Int) + 2 ^ i % 4294967296) % 4294967296 = ((z + 2 ^ i : Nat) : Int) := by
  have hp : (2 : Nat) ^ i < 2 ^ 24 := Nat.pow_lt_pow_right (by omega) hi
  have e : (2 : Nat) ^ 24 = 16777216 := by decide
  rw [show ((2 : Int) ^ i) = ((2 ^ i : Nat) : Int) from by simp]
  rw [e] at hp
  generalize (2 : Nat) ^ i = p at *
  omega

theorem sel_bit (c i : Nat) : (((c : Int) / 2 ^ i).tmod 2 == 1) = c.testBit i := by
  rw [show ((2 : Int) ^ i) = ((2 ^ i : Nat) : Int) from by simp, ← Int.natCast_ediv, show (2 : Int) = ((2 : Nat) : Int) from rfl, ← Int.ofNat_tmod, Nat.testBit_eq_decide_div_mod_eq]
  by_cases h : c / 2 ^ i % 2 = 1
  · rw [h]; rfl
  · have h0 : c / 2 ^ i % 2 = 0 := by omega
    rw [h0]; rfl

set_option maxRecDepth 100000 in
set_option maxHeartbeats 800000 in
theorem selected_calls (c i : Nat) (_hc : c < 4294967296) (hi : i < 24) (w : World) :
    Calls Tryz.prog 80 #[.int .u32 c, .int .i64 i] w fun e w' => e = .returned (.bool (c.testBit i)) ∧ w' = w := by
  go_enter Tryz.func80, Tryz.ntmps80
  go_wp2_with fail
  rw [sel_bit]
  exact bodyPost_ret (v := .bool (c.testBit i)) (by simp [results, Tryz.results80, go_sem]) rfl ⟨rfl, rfl⟩

set_option maxRecDepth 100000 in
set_option maxHeartbeats 800000 in
theorem number_calls {V : List Nat} (hV : ∀ i ∈ V, i < 24) (hl : V.length ≤ 1000) {v : Value} {w : World} (hr : w.ownsRow 0 3 1 v V.length (V.map iv)) :
    Calls Tryz.prog 42 #[v] w fun e w' => e = .returned (.int .u32 (numb V)) ∧ Near w w' := by
  obtain ⟨ao, cap, rfl⟩ := owns_form hr
  have HR := Lib.hid hr
  clear hr
  go_enter Tryz.func42, Tryz.ntmps42
  go_wp2_with fail
  go_loopw [3, 4] (fun x i wr => ∃ k : Nat, k ≤ V.length ∧ i = .int .i64 k ∧ x = .int .u32 (numb (V.take k)) ∧ Near w wr) (fun _ i _ => V.length - (intOf i).toNat)
  case atStart => exact ⟨0, Nat.zero_le _, rfl, rfl, Near.refl _⟩
  case round =>
    obtain ⟨k, hk, rfl, rfl, hn⟩ := hrel
    by_cases hlt : k < V.length
    · have hlt' : (k : Int) < V.length := by omega
      obtain ⟨g, cap', hv, x0, hg⟩ := row1 HR.out (k := k) (u := iv V[k]) (by simp [hlt]) hlt
      simp only [Value.slice.injEq, true_and] at hv
      obtain ⟨rfl, rfl⟩ := hv
      have y0 := hn.cell x0
      have hs : numb (V.take (k + 1)) = numb (V.take k) ||| 2 ^ V[k] := by rw [List.take_succ_eq_append_getElem hlt, numb_snoc]
      have hi := hV _ (List.getElem_mem hlt)
      have hb := numb_lt (V := V.take k) (fun i hm => hV i (List.mem_of_mem_take hm))
      obtain ⟨i, hii⟩ : ∃ i, i = V[k] := ⟨_, rfl⟩
      rw [← hii] at y0 hs hi
      simp only [iv] at y0
      have hi64 : ((i : Nat) : Int) < 64 := by omega
      have HS := Lib.hid hs
      clear x0 hs hii
      go_wp2_with fail
      exact ⟨⟨k + 1, by omega, by go_num, by rw [HS.out, u32_or_bit _ _ (by omega) (by omega)], hn⟩, by simp [intOf]; omega⟩
    · have hkl : k = V.length := by omega
      subst hkl
      go_wp2_with fail
      go_ret
      exact ⟨congrArg (fun z : List Nat => Ending.returned (Value.int .u32 ((numb z : Nat) : Int))) (List.take_length (l := V)), hn⟩

set_option maxRecDepth 100000 in
set_option maxHeartbeats 800000 in
theorem config_calls {V : List Nat} (hV : Rising 0 V) (hl : V.length ≤ 1000) {v : Value} {w : World} (hr : w.ownsRow 0 3 1 v V.length (V.map iv)) (n : Nat) (hn63 : n < 9223372036854775808) :
    Calls Tryz.prog 37 #[v, .int .i64 n] w fun e w' => e = .returned (.int .u32 (cfg V n)) ∧ Near w w' := by
  obtain ⟨ao, cap, rfl⟩ := owns_form hr
  have HR := Lib.hid hr
  clear hr
  go_enter Tryz.func37, Tryz.ntmps37
  go_wp2_with fail
  go_loopw [1, 5, 6] (fun m x i wr => ∃ k : Nat, k ≤ V.length ∧ i = .int .i64 k ∧ m = .int .i64 ((n / 2 ^ k : Nat) : Int) ∧ x = .int .u32 (cfg (V.take k) n) ∧ Near w wr) (fun _ _ i _ => V.length - (intOf i).toNat)
  case atStart => exact ⟨0, Nat.zero_le _, rfl, by simp, rfl, Near.refl _⟩
  case round =>
    obtain ⟨k, hk, rfl, rfl, rfl, hn⟩ := hrel
    by_cases hlt : k < V.length
    · have hlt' : (k : Int) < V.length := by omega
      obtain ⟨g, cap', hv, x0, hg⟩ := row1 HR.out (k := k) (u := iv V[k]) (by simp [hlt]) hlt
      simp only [Value.slice.injEq, true_and] at hv
      obtain ⟨rfl, rfl⟩ := hv
      have y0 := hn.cell x0
      have hs := cfg_snoc V[k] (V.take k) n
      rw [← List.take_succ_eq_append_getElem hlt, List.length_take, Nat.min_eq_left hk] at hs
      have hi := (hV.all _ (List.getElem_mem hlt)).2
      have hb := cfg_lt (hV.take k) n
      have hb1 := cfg_lt (hV.take (k + 1)) n
      have hd : n / 2 ^ k / 2 = n / 2 ^ (k + 1) := by rw [Nat.div_div_eq_div_mul, Nat.pow_succ]
      have hnk : n / 2 ^ k ≤ n := Nat.div_le_self _ _
      obtain ⟨i, hii⟩ : ∃ i, i = V[k] := ⟨_, rfl⟩
      obtain ⟨y, hy⟩ : ∃ y, y = n / 2 ^ k := ⟨_, rfl⟩
      obtain ⟨z, hz⟩ : ∃ z, z = cfg (V.take k) n := ⟨_, rfl⟩
      obtain ⟨z1, hz1⟩ : ∃ z, z = cfg (V.take (k + 1)) n := ⟨_, rfl⟩
      rw [← hy, ← hz, ← hz1, ← hii] at hs
      rw [← hz] at hb ⊢
      rw [← hz1] at hb1
      rw [← hy] at hd hnk ⊢
      rw [← hii] at y0 hi
      simp only [iv] at y0
      have hi64 : ((i : Nat) : Int) < 64 := by omega
      have HS := Lib.hid hs
      have HZ := Lib.hid hz1
      have HD := Lib.hid hd
      clear x0 hs hii hz hz1 hy hd
      by_cases h1 : y % 2 = 1
      · have h1' : ((y : Int) % 2 == 1) = true := by
          have : (y : Int) % 2 = 1 := by omega
          rw [this]; rfl
        go_wp2_with fail
        exact ⟨⟨k + 1, by omega, by go_num, by rw [← HD.out]; rfl, by rw [add_bit z i hb hi, ← HZ.out, HS.out, h1, Nat.one_mul], hn⟩, by simp [intOf]; omega⟩
      · have h1' : ((y : Int) % 2 == 1) = false := by
          have : (y : Int) % 2 = 0 := by omega
          rw [this]; rfl
        have h0 : y % 2 = 0 := by omega
        go_wp2_with fail
        exact ⟨⟨k + 1, by omega, by go_num, by rw [← HD.out]; rfl, by rw [← HZ.out, HS.out, h0, Nat.zero_mul, Nat.add_zero], hn⟩, by simp [intOf]; omega⟩
    · have hkl : k = V.length := by omega
      subst hkl
      go_wp2_with fail
      go_ret
      exact ⟨congrArg (fun z : List Nat => Ending.returned (Value.int .u32 ((cfg z n : Nat) : Int))) (List.take_length (l := V)), hn⟩

end Go.Proofs.YtefclohjeompkaaGreat

/- RefC: what is needed of it. -/
namespace Go.Proofs.YtefclohjeompkaaGreat
open Go Go.RowKit Go.Proofs.Gen Go.Proofs.Bdd Go.Proofs.Bdd.T
/-- The index of a configuration. -/
def idx : List Nat → (Nat → Bool) → Nat
  | [], _ => 0
  | i :: V, c => (c i).toNat + 2 * idx V c

theorem idx_snoc (i : Nat) (c : Nat → Bool) : ∀ V : List Nat, idx (V ++ [i]) c = idx V c + (c i).toNat * 2 ^ V.length
  | [] => by simp [idx]
  | j :: V => by
    simp only [List.cons_append, idx, List.length_cons]
    rw [idx_snoc i c V, Nat.pow_succ, Nat.mul_add, ← Nat.mul_assoc, Nat.mul_comm 2 ((c i).toNat), Nat.mul_assoc, Nat.mul_comm 2 (2 ^ V.length), Nat.add_assoc]

theorem idx_lt (c : Nat → Bool) : ∀ V : List Nat, idx V c < 2 ^ V.length
  | [] => by simp [idx]
  | j :: V => by
    have h := idx_lt c V
    simp only [idx, List.length_cons]
    rw [Nat.pow_succ]
    cases c j <;> simp <;> omega

theorem Rising.len : ∀ {V : List Nat} {m : Nat}, Rising m V → V.length + m ≤ 24
  | [], m, h => by
    have := h.le
    simpa using this
  | i :: V, m, h => by
    have h1 := h.2.len
    have h2 := h.1
    simp only [List.length_cons]
    omega

/-- A set of the reference: features and table. -/
structure IsR (w : World) (v : Value) (V : List Nat) (T : List Bool) : Prop where
  rise : Rising 0 V
  len : T.length = 2 ^ V.length
  rows : ∃ sv st, v = .agg #[sv, st] ∧ w.ownsRow 0 3 1 sv V.length (V.map iv) ∧ w.ownsRow 0 4 1 st T.length (T.map Value.bool)

theorem IsR.near {w w' : World} {v : Value} {V : List Nat} {T : List Bool} (h : IsR w v V T) (hn : Near w w') : IsR w' v V T := by
  obtain ⟨h1, h2, sv, st, rfl, r1, r2⟩ := h
  exact ⟨h1, h2, sv, st, rfl, owns_kept r1 hn.kept (fun _ _ x => x), owns_kept r2 hn.kept (fun _ _ x => x)⟩

/-- What a set says of a configuration. -/
def rf (V : List Nat) (T : List Bool) (c : Nat → Bool) : Bool := T.getD (idx V c) false

set_option maxRecDepth 100000 in
set_option maxHeartbeats 800000 in
theorem rhas_calls {w : World} {v : Value} {V : List Nat} {T : List Bool} (h : IsR w v V T) (c : Nat) (hc : c < 4294967296) :
    Calls Tryz.prog 81 #[v, .int .u32 c] w fun e w' => e = .returned (.bool (rf V T c.testBit)) ∧ Near w w' := by
  obtain ⟨hV, hT, sv, st, rfl, r1, r2⟩ := h
  obtain ⟨ao, cap, rfl⟩ := owns_form r1
  obtain ⟨bo, cbp, rfl⟩ := owns_form r2
  have HR := Lib.hid r1
  have HT := Lib.hid r2
  have hl := hV.len
  have hp : (2 : Nat) ^ V.length ≤ 2 ^ 24 := Nat.pow_le_pow_right (by omega) (by omega)
  have e24 : (2 : Nat) ^ 24 = 16777216 := by decide
  rw [e24] at hp
  have hTb : T.length ≤ 16777216 := by omega
  have HL := Lib.hid hT
  clear hT e24
  have a0 : (w.alloc (.cells #[.slice ao V.length cap, .slice bo T.length cbp] 39)).cell? ⟨w.heap.size, 0, none⟩ = some (.slice ao V.length cap) := by simp
  have a1 : (w.alloc (.cells #[.slice ao V.length cap, .slice bo T.length cbp] 39)).cell? ⟨w.heap.size, 1, none⟩ = some (.slice bo T.length cbp) := by simp
  have hN : Near w (w.alloc (.cells #[.slice ao V.length cap, .slice bo T.length cbp] 39)) := (Near.refl w).alloc _
  clear r1 r2
  go_enter Tryz.func81, Tryz.ntmps81
  go_wp2_with fail
  generalize (w.alloc (.cells #[.slice ao V.length cap, .slice bo T.length cbp] 39)) = W at a0 a1 hN ⊢
  have A0 := Lib.hid a0
  have A1 := Lib.hid a1
  clear a0 a1
  go_loopw [5, 6, 7] (fun m x i wr => ∃ k : Nat, k ≤ V.length ∧ i = .int .i64 k ∧ m = .int .i64 (idx (V.take k) c.testBit) ∧ x = .int .i64 ((2 ^ k : Nat) : Int) ∧ Near W wr) (fun _ _ i _ => V.length - (intOf i).toNat)
  case atStart => exact ⟨0, Nat.zero_le _, rfl, rfl, rfl, Near.refl _⟩
  case round =>
    obtain ⟨k, hk, rfl, rfl, rfl, hn⟩ := hrel
    have b0 := hn.cell A0.out
    have b1 := hn.cell A1.out
    have hx := idx_lt c.testBit (V.take k)
    rw [List.length_take, Nat.min_eq_left hk] at hx
    have hpk : (2 : Nat) ^ k ≤ 2 ^ V.length := Nat.pow_le_pow_right (by omega) hk
    by_cases hlt : k < V.length
    · have hlt' : (k : Int) < V.length := by omega
      obtain ⟨g, cap', hv, x0, hg⟩ := row1 HR.out (k := k) (u := iv V[k]) (by simp [hlt]) hlt
      simp only [Value.slice.injEq, true_and] at hv
      obtain ⟨rfl, rfl⟩ := hv
      have y0 := hn.cell (hN.cell x0)
      have hs := idx_snoc V[k] c.testBit (V.take k)
      rw [← List.take_succ_eq_append_getElem hlt, List.length_take, Nat.min_eq_left hk] at hs
      have hi := (hV.all _ (List.getElem_mem hlt)).2
      have hps : (2 : Nat) ^ (k + 1) = 2 ^ k * 2 := Nat.pow_succ 2 k
      obtain ⟨i, hii⟩ : ∃ i, i = V[k] := ⟨_, rfl⟩
      obtain ⟨y, hy⟩ : ∃ y, y = 2 ^ k := ⟨_, rfl⟩
      obtain ⟨z, hz⟩ : ∃ z, z = idx (V.take k) c.testBit := ⟨_, rfl⟩
      rw [← hz, ← hii, ← hy] at hs
      rw [← hz, ← hy] at hx
      rw [← hy] at hps hpk
      rw [← hz, ← hy]
      rw [← hii] at y0 hi
      simp only [iv] at y0
      have HS := Lib.hid hs
      have HP := Lib.hid hps
      clear x0 hs hii hz hy hps
      by_cases h1 : c.testBit i = true
      · go_wp2_with (first | (go_at_call 80; refine (selected_calls c i hc hi _).mono ?_; rintro e w1 ⟨rfl, rfl⟩))
        exact ⟨⟨k + 1, by omega, by go_num, by rw [HS.out, h1, Bool.toNat_true, Nat.one_mul]; rfl, by rw [HP.out, Nat.mul_comm]; rfl, hn⟩, by simp [intOf]; omega⟩
      · have h1' : c.testBit i = false := by simpa using h1
        go_wp2_with (first | (go_at_call 80; refine (selected_calls c i hc hi _).mono ?_; rintro e w1 ⟨rfl, rfl⟩))
        exact ⟨⟨k + 1, by omega, by go_num, by rw [HS.out, h1', Bool.toNat_false, Nat.zero_mul, Nat.add_zero], by rw [HP.out, Nat.mul_comm]; rfl, hn⟩, by simp [intOf]; omega⟩
    · have hkl : k = V.length := by omega
      subst hkl
      rw [List.take_length] at hx ⊢
      have hxl : idx V c.testBit < T.length := by rw [HL.out]; exact hx
      obtain ⟨g, cap', hv, x0, hg⟩ := row1 HT.out (k := idx V c.testBit) (u := .bool (rf V T c.testBit)) (by rw [List.getElem?_map, List.getElem?_eq_getElem hxl]; simp [rf, List.getD, List.getElem?_eq_getElem hxl]) hxl
      simp only [Value.slice.injEq, true_and] at hv
      obtain ⟨rfl, rfl⟩ := hv
      have y0 := hn.cell (hN.cell x0)
      have hxT : ((idx V c.testBit : Nat) : Int) < T.length := by omega
      go_wp2_with fail
      exact bodyPost_ret (v := .bool (rf V T c.testBit)) (by simp [results, Tryz.results81, go_sem]) rfl ⟨rfl, hN.trans hn⟩

end Go.Proofs.YtefclohjeompkaaGreat

/- RefD: what is needed of it. -/
namespace Go.Proofs.YtefclohjeompkaaGreat
open Go Go.RowKit Go.Proofs.Gen Go.Proofs.Bdd Go.Proofs.Bdd.T
theorem ownsRow_low {w : World} {base base' e size n : Nat} {v : Value} {xs : List Value} (h : w.ownsRow base e size v n xs) (hb : base' ≤ base) : w.ownsRow base' e size v n xs := by
  refine ⟨h.1, ?_⟩
  rcases h.2 with hh | ⟨g, cap, cur, rfl, hbg, r⟩
  · exact .inl hh
  · exact .inr ⟨g, cap, cur, rfl, Nat.le_trans hb hbg, r⟩

theorem info4 : (Tryz.prog.info? 4).map (fun i => (i.zero, i.size, i.bytes)) = some (some (.bool false), 1, 1) := by kernel_rfl

set_option maxRecDepth 100000 in
set_option maxHeartbeats 800000 in
theorem blank_calls {w : World} {v : Value} {V : List Nat} (hV : Rising 0 V) (hr : w.ownsRow 0 3 1 v V.length (V.map iv)) :
    Calls Tryz.prog 79 #[v] w fun e w' => ∃ st, e = .returned (.agg #[v, st]) ∧ w'.ownsRow w.heap.size 4 1 st (2 ^ V.length) ((List.replicate (2 ^ V.length) false).map Value.bool) ∧ Near w w' := by
  obtain ⟨ao, cap, rfl⟩ := owns_form hr
  have hl := hV.len
  obtain ⟨n, hn⟩ : ∃ n, n = V.length := ⟨_, rfl⟩
  rw [← hn] at hl ⊢
  have hp : (2 : Nat) ^ n ≤ 2 ^ 24 := Nat.pow_le_pow_right (by omega) (by omega)
  have e24 : (2 : Nat) ^ 24 = 16777216 := by decide
  rw [e24] at hp
  clear e24 hr hn
  obtain ⟨i0, hi0, hz0, hz1, hz2⟩ := info_parts info4
  obtain ⟨w1, hmk, hown, hgr⟩ := run_make_full (P := Tryz.prog) (w.alloc (.cells #[.slice none 0 0, .slice none 0 0] 39)) w.heap.size 37 4 i0 (.bool false) 1 Tryz.underlying37 hi0 hz0 hz1 .i64 .i64 (2 ^ n) (by rw [hz2]; omega) (by unfold maxLen; omega) (by simp)
  have hc : (madeCells (Value.bool false).cells (2 ^ n * 1)).toList = (List.replicate (2 ^ n) false).map Value.bool := by
    rw [Nat.mul_one]
    generalize 2 ^ n = m
    have e : (Value.bool false).cells = #[Value.bool false] := by simp [Value.cells]
    rw [e, toList_madeCells_one, List.map_replicate]
  have hz : (w.alloc (.cells #[.slice none 0 0, .slice none 0 0] 39)).heap.size = w.heap.size + 1 := by simp
  rw [hc, hz] at hown
  rw [hz] at hmk
  have hw64 : wrap64 ((2 : Int) ^ n) = ((2 ^ n : Nat) : Int) := by
    rw [show ((2 : Int) ^ n) = ((2 ^ n : Nat) : Int) from by simp]
    generalize (2 : Nat) ^ n = m at *
    simp only [wrap64]
    omega
  rw [← hw64] at hmk
  have HO := Lib.hid hown
  have HG := Lib.hid hgr
  have hc0 : (w.alloc (.cells #[.slice none 0 0, .slice none 0 0] 39)).heap[w.heap.size]? = some (.cells #[.slice none 0 0, .slice none 0 0] 39 (0, 0)) := heap_new_at rfl
  have E := Lib.hid ((hgr.block w.heap.size (by simp) (by simp)).trans hc0)
  have q0 := cell1 (o := 0) E.out rfl
  have q1 := cell1 (o := 1) E.out rfl
  have f0 := free1 E.out 0
  have f1 := free1 E.out 1
  clear hown hgr hc hc0 hz0 hz1 hz2 hw64 hz
  go_enter Tryz.func79, Tryz.ntmps79
  go_wp2_with fail
  have hne := owns_ne HO.out E.out (by decide : (4 : Nat) ≠ 39)
  have hN : Near w w1 := Kept.grown ((Near.refl w).alloc _) HG.out (by intro k e; cases e)
  exact bodyPost_ret (v := .agg #[.slice ao n cap, .slice (some ⟨w.heap.size + 1, 0, none⟩) (2 ^ n) (2 ^ n)]) (by simp [results, Tryz.results79, go_sem, q0, q1]) rfl
    ⟨_, rfl, ownsRow_setCell_other (ownsRow_setCell_other HO.out hne _) hne _, (hN.set (Nat.le_refl _) _).set (Nat.le_refl _) _⟩

set_option maxRecDepth 100000 in
set_option maxHeartbeats 800000 in
theorem rjoin_calls {w : World} {v u : Value} {V U : List Nat} (hV : Rising 0 V) (hU : Rising 0 U) (hr : w.ownsRow 0 3 1 v V.length (V.map iv)) (hq : w.ownsRow 0 3 1 u U.length (U.map iv)) :
    Calls Tryz.prog 107 #[v, u] w fun e w' => ∃ x, e = .returned x ∧ w'.ownsRow w.heap.size 3 1 x (feats (numb V ||| numb U)).length ((feats (numb V ||| numb U)).map iv) ∧ Near w w' := by
  have bV := numb_lt (fun i hi => (hV.all i hi).2)
  have bU := numb_lt (fun i hi => (hU.all i hi).2)
  have hor : numb V ||| numb U < 4294967296 := by
    have : numb V ||| numb U < 2 ^ 24 := Nat.or_lt_two_pow (n := 24) bV bU
    have e24 : (2 : Nat) ^ 24 = 16777216 := by decide
    omega
  have HR := Lib.hid hr
  have HQ := Lib.hid hq
  have lV := hV.len
  have lU := hU.len
  clear hr hq
  have ho' : bits .or .u32 (numb V : Nat) (numb U : Nat) = ((numb V ||| numb U : Nat) : Int) := Go.Proofs.Gen.u32_or (numb V) (numb U) (by omega) (by omega)
  have ho := Lib.hid ho'
  clear ho'
  go_enter Tryz.func107, Tryz.ntmps107
  go_wp2_with (first
    | (go_at_call_of 42 v; refine (number_calls (fun i hi => (hV.all i hi).2) (by omega) HR.out).mono ?_; rintro e w1 ⟨rfl, n1⟩)
    | (go_at_call_of 42 u; refine (number_calls (fun i hi => (hU.all i hi).2) (by omega) (owns_kept HQ.out n1.kept (fun _ _ x => x))).mono ?_; rintro e w2 ⟨rfl, n2⟩)
    | (go_at_call 10; rw [ho.out]; refine (features_calls _ hor _).mono ?_; rintro e w3 ⟨x, rfl, r3, n3⟩))
  refine bodyPost_ret (v := x) (by simp [results, Tryz.results107, go_sem]) rfl ⟨x, rfl, ownsRow_low r3 ?_, (n1.trans n2).trans n3⟩
  exact Nat.le_trans n1.size' n2.size'

end Go.Proofs.YtefclohjeompkaaGreat

/- RefE: what is needed of it. -/
namespace Go.Proofs.YtefclohjeompkaaGreat
open Go Go.RowKit Go.Proofs.Gen Go.Proofs.Bdd Go.Proofs.Bdd.T
theorem Rising.snoc : ∀ {V : List Nat} {m i : Nat}, Rising m V → m ≤ i → (∀ j ∈ V, j < i) → i < 24 → Rising m (V ++ [i])
  | [], _, _, _, hm, _, hi => ⟨hm, hi⟩
  | j :: _, _, _, h, _, ha, hi => ⟨h.1, Rising.snoc h.2 (ha j (List.mem_cons_self ..)) (fun x hx => ha x (List.mem_cons_of_mem _ hx)) hi⟩

theorem featsTo_lt {f k i : Nat} (h : i ∈ featsTo f k) : i < k := by
  have := List.mem_filter.1 h
  simpa using this.1

theorem featsTo_rising (f : Nat) : ∀ k, k ≤ 24 → Rising 0 (featsTo f k)
  | 0, _ => Nat.zero_le _
  | k + 1, h => by
    rw [featsTo_succ]
    have ih := featsTo_rising f k (by omega)
    split
    · exact ih.snoc (Nat.zero_le _) (fun j hj => featsTo_lt hj) (by omega)
    · rw [List.append_nil]
      exact ih

theorem feats_rising (f : Nat) : Rising 0 (feats f) := featsTo_rising f 24 (Nat.le_refl _)

/-- A table that is filled up to k. -/
def tabTo (n : Nat) (g : Nat → Bool) (k : Nat) : List Bool := (List.range n).map (fun j => decide (j < k) && g j)

theorem tabTo_zero (n : Nat) (g : Nat → Bool) : tabTo n g 0 = List.replicate n false := by
  apply List.ext_getElem (by simp [tabTo])
  intro i h1 h2
  simp [tabTo]

theorem tabTo_succ (n : Nat) (g : Nat → Bool) (k : Nat) : tabTo n g (k + 1) = (tabTo n g k).set k (g k) := by
  apply List.ext_getElem (by simp [tabTo])
  intro i h1 h2
  rw [List.getElem_set]
  simp only [tabTo, List.getElem_map, List.getElem_range]
  by_cases h : k = i
  · subst h; simp
  · rw [if_neg h]
    have : decide (i < k + 1) = decide (i < k) := by
      rw [decide_eq_decide]; omega
    rw [this]

theorem tabTo_len (n : Nat) (g : Nat → Bool) (k : Nat) : (tabTo n g k).length = n := by simp [tabTo]

def jop (how : Nat) (x y : Bool) : Bool := if how = 0 then x && y else if how = 1 then x || y else x != y

end Go.Proofs.YtefclohjeompkaaGreat

/- RefF: what is needed of it. -/
namespace Go.Proofs.YtefclohjeompkaaGreat
open Go Go.RowKit Go.Proofs.Gen Go.Proofs.Bdd Go.Proofs.Bdd.T
/-- A row's block. -/
theorem row1' {w : World} {base e n : Nat} {v : Value} {xs : List Value} (h : w.ownsRow base e 1 v n xs) {k : Nat} {u : Value} (hk : xs[k]? = some u) (hn : k < n) :
    ∃ g cap cur, v = .slice (some ⟨g, 0, none⟩) n cap ∧ w.heap[g]? = some (.cells cur e (0, 0)) ∧ cur[k]? = some u ∧ base ≤ g := by
  rcases h.2 with ⟨_, h0⟩ | ⟨g, cap, cur, rfl, hb, hg, _, _, hs, ht⟩
  · omega
  · refine ⟨g, cap, cur, rfl, hg, ?_, hb⟩
    rw [← ht, List.getElem?_take, if_pos (by omega)] at hk
    simpa using hk

/-- What one cell of a joined table says. -/
def jcell (how : Nat) (U V V' : List Nat) (T T' : List Bool) (k : Nat) : Bool := jop how (rf V T (cfg U k).testBit) (rf V' T' (cfg U k).testBit)

set_option maxRecDepth 100000 in
set_option maxHeartbeats 1600000 in
theorem join2_calls {w : World} {va vb : Value} {V V' : List Nat} {T T' : List Bool} (ha : IsR w va V T) (hb : IsR w vb V' T') (how : Nat) (hh : how < 3) :
    Calls Tryz.prog 91 #[va, vb, .int .i64 how] w fun e w' => ∃ v, e = .returned v ∧ IsR w' v (feats (numb V ||| numb V')) (tabTo (2 ^ (feats (numb V ||| numb V')).length) (jcell how (feats (numb V ||| numb V')) V V' T T') (2 ^ (feats (numb V ||| numb V')).length)) ∧ Below w.heap.size w w' := by
  have HA := Lib.hid ha
  have HB := Lib.hid hb
  obtain ⟨hV, hT, sv, st, rfl, r1, r2⟩ := ha
  obtain ⟨hV', hT', sv', st', rfl, r1', r2'⟩ := hb
  have hU := feats_rising (numb V ||| numb V')
  have R1 := Lib.hid r1
  have R1' := Lib.hid r1'
  have HV := Lib.hid hV
  have HV' := Lib.hid hV'
  obtain ⟨U, hUU⟩ : ∃ U, U = feats (numb V ||| numb V') := ⟨_, rfl⟩
  rw [← hUU] at hU ⊢
  have HU := Lib.hid hUU
  have HRU := Lib.hid hU
  obtain ⟨ao, cap, rfl⟩ := owns_form r1
  obtain ⟨bo, cbp, rfl⟩ := owns_form r1'
  obtain ⟨co, ccp, rfl⟩ := owns_form r2
  obtain ⟨d, dcp, rfl⟩ := owns_form r2'
  clear r1 r2 r1' r2' hT hT' hV hV' hU hUU
  have N3 : Near w (((w.alloc (.cells #[.slice ao V.length cap, .slice co T.length ccp] 39)).alloc (.cells #[.slice bo V'.length cbp, .slice d T'.length dcp] 39)).alloc (.cells #[.slice none 0 0, .slice none 0 0] 39)) := (((Near.refl w).alloc _).alloc _).alloc _
  have HN3 := Lib.hid N3
  have EA : (((w.alloc (.cells #[.slice ao V.length cap, .slice co T.length ccp] 39)).alloc (.cells #[.slice bo V'.length cbp, .slice d T'.length dcp] 39)).alloc (.cells #[.slice none 0 0, .slice none 0 0] 39)).heap[w.heap.size]? = some (.cells #[.slice ao V.length cap, .slice co T.length ccp] 39 (0, 0)) := by
    rw [heap_old_at (by simp <;> omega), heap_old_at (by simp), heap_new_at rfl]
  have EB : (((w.alloc (.cells #[.slice ao V.length cap, .slice co T.length ccp] 39)).alloc (.cells #[.slice bo V'.length cbp, .slice d T'.length dcp] 39)).alloc (.cells #[.slice none 0 0, .slice none 0 0] 39)).heap[w.heap.size + 1]? = some (.cells #[.slice bo V'.length cbp, .slice d T'.length dcp] 39 (0, 0)) := by
    rw [heap_old_at (by simp), heap_new_at (by simp)]
  have EC : (((w.alloc (.cells #[.slice ao V.length cap, .slice co T.length ccp] 39)).alloc (.cells #[.slice bo V'.length cbp, .slice d T'.length dcp] 39)).alloc (.cells #[.slice none 0 0, .slice none 0 0] 39)).heap[w.heap.size + 1 + 1]? = some (.cells #[.slice none 0 0, .slice none 0 0] 39 (0, 0)) := heap_new_at (by simp)
  have HEA := Lib.hid EA
  have HEB := Lib.hid EB
  have HEC := Lib.hid EC
  have E37 : w.heap.size < w.heap.size + 1 := Nat.lt_succ_self _
  clear N3 EA EB EC E37
  go_enter Tryz.func91, Tryz.ntmps91
  go_wp2_with (first
    | (go_at_call 107; refine (rjoin_calls HV.out HV'.out (owns_kept R1.out HN3.out.kept (fun _ _ x => x)) (owns_kept R1'.out HN3.out.kept (fun _ _ x => x))).mono ?_; rw [← HU.out]; rintro e w4 ⟨x, rfl, rx, n4⟩; have RX := Lib.hid rx; clear rx)
    | (go_at_call 79; refine (blank_calls HRU.out (ownsRow_low RX.out (Nat.zero_le _))).mono ?_; rintro e w5 ⟨sn, rfl, rn, n5⟩; have RN := Lib.hid rn; clear rn; obtain ⟨xo, xcp, rfl⟩ := owns_form RX.out; obtain ⟨no, ncp, rfl⟩ := owns_form RN.out))
  obtain ⟨tb, tcp, tcur, htv, htg, -, htb⟩ := row1' RN.out (k := 0) (u := .bool false) (by simp [Nat.two_pow_pos]) (Nat.two_pow_pos _)
  simp only [Value.slice.injEq, true_and] at htv
  obtain ⟨rfl, rfl⟩ := htv
  have htl : tb < w5.heap.size := (Array.getElem?_eq_some_iff.1 htg).1
  have a3 : w.heap.size + 1 + 1 + 1 ≤ w4.heap.size := by
    have := n4.size'
    simpa using this
  have W45 : Near w4 (w5.alloc (.cells #[.slice xo U.length xcp, .slice (some ⟨tb, 0, none⟩) (2 ^ U.length) ncp] 39)) := n5.alloc _
  have NW : Near w (w5.alloc (.cells #[.slice xo U.length xcp, .slice (some ⟨tb, 0, none⟩) (2 ^ U.length) ncp] 39)) := (HN3.out.trans n4).trans W45
  have HWW := Lib.hid W45
  have HNW := Lib.hid NW
  have EA4 := Lib.hid (keepN n4 HEA.out)
  have EB4 := Lib.hid (keepN n4 HEB.out)
  have EC4 := Lib.hid (keepN n4 HEC.out)
  have EO : (w5.alloc (.cells #[.slice xo U.length xcp, .slice (some ⟨tb, 0, none⟩) (2 ^ U.length) ncp] 39)).heap[w5.heap.size]? = some (.cells #[.slice xo U.length xcp, .slice (some ⟨tb, 0, none⟩) (2 ^ U.length) ncp] 39 (0, 0)) := heap_new_at rfl
  have HEO := Lib.hid EO
  have RNW := Lib.hid (RN.out.alloc (.cells #[.slice xo U.length xcp, .slice (some ⟨tb, 0, none⟩) (2 ^ U.length) ncp] 39))
  have hWs : w5.heap.size < (w5.alloc (.cells #[.slice xo U.length xcp, .slice (some ⟨tb, 0, none⟩) (2 ^ U.length) ncp] 39)).heap.size := by simp
  have RX' := Lib.hid (ownsRow_low RX.out (Nat.zero_le _))
  have lU := HRU.out.len
  clear W45 NW EO RX RN HEA HEB HEC n4 n5 htg HN3
  obtain ⟨N, hN⟩ : ∃ N, N = 2 ^ U.length := ⟨_, rfl⟩
  have hNb : N ≤ 16777216 := by
    have hp : (2 : Nat) ^ U.length ≤ 2 ^ 24 := Nat.pow_le_pow_right (by omega) (by omega)
    have e24 : (2 : Nat) ^ 24 = 16777216 := by decide
    omega
  rw [← hN] at hWs HWW HNW HEO RNW ⊢
  have HNN := Lib.hid hN
  clear hN
  generalize (w5.alloc (.cells #[.slice xo U.length xcp, .slice (some ⟨tb, 0, none⟩) N ncp] 39)) = W at hWs HWW HNW HEO RNW ⊢
  have HG : ∃ g, g = jcell how U V V' T T' := ⟨_, rfl⟩
  obtain ⟨g, hg⟩ := HG
  have HG := Lib.hid hg
  clear hg
  go_loopw [8] (fun i wr => ∃ k : Nat, k ≤ N ∧ i = .int .i64 k ∧ wr.ownsRow w4.heap.size 4 1 (.slice (some ⟨tb, 0, none⟩) N ncp) N ((tabTo N g k).map Value.bool) ∧ Kept (fun b => b = tb) W wr) (fun i _ => N - (intOf i).toNat)
  case atStart =>
    refine ⟨0, Nat.zero_le _, rfl, ?_, Kept.refl _ _⟩
    rw [tabTo_zero]
    exact RNW.out
  case round =>
    obtain ⟨k, hk, rfl, hown, hkp⟩ := hrel
    have z4 : Near w4 wr := Kept.mono ((HWW.out.kept (S := fun b => b = tb)).trans hkp) (fun b hb e => by omega)
    have z0 : Near w wr := Kept.mono ((HNW.out.kept (S := fun b => b = tb)).trans hkp) (fun b hb e => by omega)
    have xo' : wr.heap[w5.heap.size]? = some (.cells #[.slice xo U.length xcp, .slice (some ⟨tb, 0, none⟩) N ncp] 39 (0, 0)) := (hkp.block _ hWs (by omega)).trans HEO.out
    have o0 := cell1 (o := 0) xo' rfl
    have o1 := cell1 (o := 1) xo' rfl
    have HXO := Lib.hid xo'
    have HOwn := Lib.hid hown
    clear xo' hown
    by_cases hlt : k < N
    · have hlt' : (k : Int) < N := by omega
      go_wp2_with (first
        | (go_at_call 37; refine (config_calls HRU.out (by omega) (owns_kept RX'.out z4.kept (fun _ _ x => x)) k (by omega)).mono ?_; rintro e w6 ⟨rfl, n6⟩))
      have zw := z0.trans n6
      have z46 := z4.trans n6
      have hc6 := cfg_lt HRU.out k
      have sOf : ∀ w', Near w6 w' → w'.cell? ⟨w.heap.size, 0, none⟩ = some (.slice ao V.length cap) ∧ w'.cell? ⟨w.heap.size, 1, none⟩ = some (.slice co T.length ccp) ∧ w'.cell? ⟨w.heap.size + 1, 0, none⟩ = some (.slice bo V'.length cbp) ∧ w'.cell? ⟨w.heap.size + 1, 1, none⟩ = some (.slice d T'.length dcp) ∧ Near w6 w' :=
        fun w' h => ⟨cell1 (keepN (z46.trans h) EA4.out) rfl, cell1 (keepN (z46.trans h) EA4.out) rfl, cell1 (keepN (z46.trans h) EB4.out) rfl, cell1 (keepN (z46.trans h) EB4.out) rfl, h⟩
      have hvx : ((if k < N then true else false) = true) := by simp [hlt]
      obtain ⟨tcur', htk, htc⟩ : ∃ cur, wr.heap[tb]? = some (.cells cur 4 (0, 0)) ∧ ∃ u, cur[k]? = some u := by
        obtain ⟨g', c', cur, e, hg', hc', _⟩ := row1' HOwn.out (k := k) (u := .bool ((tabTo N g k)[k]'(by rw [tabTo_len]; exact hlt))) (by rw [List.getElem?_map, List.getElem?_eq_getElem (by rw [tabTo_len]; exact hlt)]; rfl) hlt
        cases e
        exact ⟨cur, hg', _, hc'⟩
      have HTK := Lib.hid htk
      obtain ⟨u0, hu0⟩ := htc
      have HU0 := Lib.hid hu0
      clear htk hu0 hvx o0 o1
      go_region_held3 (fun w' => w'.cell? ⟨w.heap.size, 0, none⟩ = some (.slice ao V.length cap) ∧ w'.cell? ⟨w.heap.size, 1, none⟩ = some (.slice co T.length ccp) ∧ w'.cell? ⟨w.heap.size + 1, 0, none⟩ = some (.slice bo V'.length cbp) ∧ w'.cell? ⟨w.heap.size + 1, 1, none⟩ = some (.slice d T'.length dcp) ∧ Near w6 w')
        ((refine sOf _ ?_; repeat (first | assumption | exact Near.refl _ | refine Near.drew ?_ | refine Near.alloc ?_ _ | refine Near.drewN ?_ _)))
        (first
          | (go_at_call_of 81 (Value.slice co T.length ccp); refine (rhas_calls (HA.out.near (zw.trans (by first | assumption | exact (Near.refl w6).drew))) (cfg U k) (by omega)).mono ?_; rintro e w7 ⟨rfl, m7⟩; have n7 : Near w6 w7 := Near.trans (by first | assumption | exact (Near.refl w6).drew) m7)
          | (go_at_call_of 81 (Value.slice d T'.length dcp); refine (rhas_calls (HB.out.near (zw.trans (by first | assumption | exact (Near.refl w6).drew))) (cfg U k) (by omega)).mono ?_; rintro e w8 ⟨rfl, m8⟩; have n8 : Near w6 w8 := Near.trans (by first | assumption | exact (Near.refl w6).drew) m8))
      have n68 := n6.trans n8
      have p0 := cell1 (o := 0) (keepN n68 HXO.out) rfl
      have p1 := cell1 (o := 1) (keepN n68 HXO.out) rfl
      have t0 := cell1 (keepN n68 HTK.out) HU0.out
      have tf := free1 (keepN n68 HTK.out) k
      have HO8 := Lib.hid (owns_kept HOwn.out n68.kept (fun _ _ x => x))
      have hkp8 := hkp.trans n68.kept
      have hgk : g k = jop how (rf V T (cfg U k).testBit) (rf V' T' (cfg U k).testBit) := by rw [HG.out]; rfl
      have hts : ((tabTo N g (k + 1)).map Value.bool) = ((tabTo N g k).map Value.bool).set k (.bool (g k)) := by rw [tabTo_succ, List.map_set]
      have HGK := Lib.hid hgk
      have HTS := Lib.hid hts
      generalize rf V T (cfg U k).testBit = bx at HGK ⊢
      generalize rf V' T' (cfg U k).testBit = by' at HGK ⊢
      clear hgk hts hc6 sOf n6 m7 n7 m8 n8 zw z46
      have hend : ∀ z, z = g k → ∀ wz, wz = w8.setCell ⟨tb, k, none⟩ (.bool z) → wz.ownsRow w4.heap.size 4 1 (.slice (some ⟨tb, 0, none⟩) N ncp) N ((tabTo N g (k + 1)).map Value.bool) ∧ Kept (fun b => b = tb) W wz := by
        rintro z rfl wz rfl
        rw [HTS.out]
        exact ⟨(HO8.out.stored k _).1, hkp8.setCell (fun _ => rfl) _⟩
      rcases (show how = 0 ∨ how = 1 ∨ how = 2 by omega) with rfl | rfl | rfl <;> cases bx <;> cases by'
      all_goals
        go_wp2_with fail
        exact ⟨⟨k + 1, by omega, by go_num, (hend _ (by rw [HGK.out]; rfl) _ rfl).1, (hend _ (by rw [HGK.out]; rfl) _ rfl).2⟩, by simp [intOf]; omega⟩
    · have hkN : k = N := by omega
      subst hkN
      have rc := keepN z4 EC4.out
      have c0 := cell1 (o := 0) rc rfl
      have c1 := cell1 (o := 1) rc rfl
      have f0 := free1 rc 0
      have f1 := free1 rc 1
      have RXr := owns_kept (R := fun _ => False) RX'.out z4.kept (fun _ _ x => x)
      have ne1 := owns_ne RXr rc (by decide : (3 : Nat) ≠ 39)
      have ne2 := owns_ne HOwn.out rc (by decide : (4 : Nat) ≠ 39)
      have RX2 := Lib.hid RXr
      clear RXr HXO
      go_wp2_with fail
      have e1 := HNN.out
      have e2 := HG.out
      have e3 := HU.out
      refine bodyPost_ret (v := .agg #[.slice xo U.length xcp, .slice (some ⟨tb, 0, none⟩) k ncp]) (by simp [results, Tryz.results91, go_sem, c0, c1]) rfl ⟨_, rfl, ?_, (((z0.below).setCell (by show w.heap.size ≤ w.heap.size + 1 + 1; omega) _).setCell (by show w.heap.size ≤ w.heap.size + 1 + 1; omega) _)⟩
      refine ⟨HRU.out, by rw [tabTo_len], _, _, rfl, ownsRow_setCell_other (ownsRow_setCell_other RX2.out ne1 _) ne1 _, ?_⟩
      rw [tabTo_len, ← e1, ← e2]
      exact ownsRow_low (ownsRow_setCell_other (ownsRow_setCell_other HOwn.out ne2 _) ne2 _) (Nat.zero_le _)

end Go.Proofs.YtefclohjeompkaaGreat

/- RefG: what is needed of it. -/
namespace Go.Proofs.YtefclohjeompkaaGreat
open Go Go.RowKit Go.Proofs.Gen Go.Proofs.Bdd Go.Proofs.Bdd.T
/-- The bits of a configuration. -/
def bitOf : List Nat → Nat → Nat → Bool
  | [], _, _ => false
  | i :: V, k, j => (j == i && k % 2 == 1) || bitOf V (k / 2) j

theorem cfg_dvd : ∀ {V : List Nat} {m : Nat}, Rising m V → ∀ k, ∃ q, cfg V k = 2 ^ m * q
  | [], m, _, k => ⟨0, by simp [cfg]⟩
  | i :: V, m, h, k => by
    obtain ⟨q, hq⟩ := cfg_dvd h.2 (k / 2)
    refine ⟨2 ^ (i - m) * (k % 2 + 2 * q), ?_⟩
    have e : (2 : Nat) ^ i = 2 ^ m * 2 ^ (i - m) := by
      rw [← Nat.pow_add]
      congr 1
      have := h.1
      omega
    rw [← Nat.mul_assoc, ← e, Nat.mul_add, cfg, hq, Nat.pow_succ, Nat.mul_comm (k % 2), Nat.mul_assoc]

theorem cfg_bit : ∀ {V : List Nat} {m : Nat}, Rising m V → ∀ k j, (cfg V k).testBit j = bitOf V k j
  | [], m, _, k, j => by simp [cfg, bitOf]
  | i :: V, m, h, k, j => by
    have ih := cfg_bit h.2 (k / 2) j
    obtain ⟨q, hq⟩ := cfg_dvd h.2 (k / 2)
    have hlt : k % 2 * 2 ^ i < 2 ^ (i + 1) := by
      have h3 : k % 2 * 2 ^ i ≤ 1 * 2 ^ i := Nat.mul_le_mul_right _ (by omega)
      have h4 := Nat.two_pow_pos i
      rw [Nat.pow_succ]
      omega
    have e : cfg (i :: V) k = cfg V (k / 2) ||| k % 2 * 2 ^ i := by
      rw [cfg, Nat.add_comm, hq, Nat.two_pow_add_eq_or_of_lt hlt]
    rw [e, Nat.testBit_or, ih, bitOf, Bool.or_comm]
    congr 1
    rcases (show k % 2 = 0 ∨ k % 2 = 1 by omega) with h0 | h0
    · rw [h0]; simp
    · rw [h0, Nat.one_mul, Nat.testBit_two_pow]
      by_cases hj : i = j
      · subst hj; simp
      · simp [hj, Ne.symm hj]

theorem bitOf_not : ∀ {V : List Nat} {k j : Nat}, j ∉ V → bitOf V k j = false
  | [], _, _, _ => rfl
  | i :: V, k, j, h => by
    have h1 : j ≠ i := fun e => h (by rw [e]; exact List.mem_cons_self ..)
    have h2 : j ∉ V := fun e => h (List.mem_cons_of_mem _ e)
    simp [bitOf, h1, bitOf_not h2]

theorem idx_congr : ∀ {V : List Nat} {c c' : Nat → Bool}, (∀ i ∈ V, c i = c' i) → idx V c = idx V c'
  | [], _, _, _ => rfl
  | i :: V, c, c', h => by
    rw [idx, idx, h i (List.mem_cons_self ..), idx_congr (fun j hj => h j (List.mem_cons_of_mem _ hj))]

theorem rf_congr {V : List Nat} {T : List Bool} {c c' : Nat → Bool} (h : ∀ i ∈ V, c i = c' i) : rf V T c = rf V T c' := by
  rw [rf, rf, idx_congr h]

theorem idx_bitOf : ∀ {V : List Nat} {m : Nat}, Rising m V → ∀ k, k < 2 ^ V.length → idx V (bitOf V k) = k
  | [], m, _, k, h => by simp at h; subst h; rfl
  | i :: V, m, h, k, hk => by
    rw [List.length_cons, Nat.pow_succ] at hk
    have ih := idx_bitOf h.2 (k / 2) (by omega)
    have hn : i ∉ V := fun hm => by have := (h.2.all i hm).1; omega
    have e1 : bitOf (i :: V) k i = (k % 2 == 1) := by simp [bitOf, bitOf_not hn]
    have e2 : idx V (bitOf (i :: V) k) = idx V (bitOf V (k / 2)) := idx_congr fun j hj => by
      have : j ≠ i := fun e => hn (e ▸ hj)
      simp [bitOf, this]
    rw [idx, e1, e2, ih]
    rcases (show k % 2 = 0 ∨ k % 2 = 1 by omega) with h0 | h0 <;> rw [h0] <;> simp <;> omega

theorem idx_cfg {V : List Nat} {m : Nat} (h : Rising m V) {k : Nat} (hk : k < 2 ^ V.length) : idx V (cfg V k).testBit = k := by
  rw [show (cfg V k).testBit = bitOf V k from funext fun j => cfg_bit h k j]
  exact idx_bitOf h k hk

theorem bitOf_idx (c : Nat → Bool) (j : Nat) : ∀ {V : List Nat}, bitOf V (idx V c) j = (V.contains j && c j)
  | [] => rfl
  | i :: V => by
    have e1 : ((c i).toNat + 2 * idx V c) % 2 = (c i).toNat := by cases c i <;> simp <;> omega
    have e2 : ((c i).toNat + 2 * idx V c) / 2 = idx V c := by cases c i <;> simp <;> omega
    rw [bitOf, idx, e1, e2, bitOf_idx c j, List.contains_cons]
    by_cases h : j = i
    · subst h
      cases c j <;> simp
    · have : (j == i) = false := by simpa using h
      rw [this]
      simp

theorem cfg_idx {V : List Nat} {m : Nat} (h : Rising m V) (c : Nat → Bool) {j : Nat} (hj : j ∈ V) : (cfg V (idx V c)).testBit j = c j := by
  rw [cfg_bit h, bitOf_idx]
  simp [hj]

theorem feats_mem {f i : Nat} : i ∈ feats f ↔ i < 24 ∧ f.testBit i = true := by
  simp [feats, featsTo]

/-- A set of the reference: features and function. -/
def IsS (w : World) (v : Value) (V : List Nat) (f : (Nat → Bool) → Bool) : Prop := ∃ T, IsR w v V T ∧ ∀ c, rf V T c = f c

theorem tabTo_rf {V : List Nat} {g : Nat → Bool} (c : Nat → Bool) : rf V (tabTo (2 ^ V.length) g (2 ^ V.length)) c = g (idx V c) := by
  have h := idx_lt c V
  rw [rf, List.getD_eq_getElem?_getD, List.getElem?_eq_getElem (by rw [tabTo_len]; exact h)]
  simp [tabTo, h]

theorem join2_says {w : World} {va vb : Value} {V V' : List Nat} {f f' : (Nat → Bool) → Bool} (ha : IsS w va V f) (hb : IsS w vb V' f') (how : Nat) (hh : how < 3) :
    Calls Tryz.prog 91 #[va, vb, .int .i64 how] w fun e w' => ∃ v, e = .returned v ∧ IsS w' v (feats (numb V ||| numb V')) (fun c => jop how (f c) (f' c)) ∧ Below w.heap.size w w' := by
  obtain ⟨T, hT, hf⟩ := ha
  obtain ⟨T', hT', hf'⟩ := hb
  refine (join2_calls hT hT' how hh).mono ?_
  rintro e w' ⟨v, rfl, hv, hbl⟩
  refine ⟨v, rfl, ⟨_, hv, fun c => ?_⟩, hbl⟩
  rw [tabTo_rf]
  have hU := feats_rising (numb V ||| numb V')
  have m1 : ∀ i ∈ V, i ∈ feats (numb V ||| numb V') := fun i hi => feats_mem.2 ⟨(hT.rise.all i hi).2, by rw [Nat.testBit_or, numb_bit]; simp [hi]⟩
  have m2 : ∀ i ∈ V', i ∈ feats (numb V ||| numb V') := fun i hi => feats_mem.2 ⟨(hT'.rise.all i hi).2, by rw [Nat.testBit_or, numb_bit V']; simp [hi]⟩
  rw [jcell, rf_congr (fun i hi => cfg_idx hU c (m1 i hi)), rf_congr (fun i hi => cfg_idx hU c (m2 i hi)), hf, hf']

end Go.Proofs.YtefclohjeompkaaGreat

/- RefH: what is needed of it. -/
namespace Go.Proofs.YtefclohjeompkaaGreat
open Go Go.RowKit Go.Proofs.Gen Go.Proofs.Bdd Go.Proofs.Bdd.T
theorem IsS.below {w w' : World} {v : Value} {V : List Nat} {f : (Nat → Bool) → Bool} (h : IsS w v V f) (hb : Below w.heap.size w w') : IsS w' v V f := by
  obtain ⟨T, hT, hf⟩ := h
  exact ⟨T, hT.near (Near.of_below hb), hf⟩

theorem IsS.near {w w' : World} {v : Value} {V : List Nat} {f : (Nat → Bool) → Bool} (h : IsS w v V f) (hb : Near w w') : IsS w' v V f := h.below hb.below

theorem IsS.form {w : World} {v : Value} {V : List Nat} {f : (Nat → Bool) → Bool} (h : IsS w v V f) : ∃ ao n cap bo m cbp, v = .agg #[.slice ao n cap, .slice bo m cbp] := by
  obtain ⟨T, ⟨_, _, sv, st, rfl, r1, r2⟩, hf⟩ := h
  obtain ⟨ao, cap, rfl⟩ := owns_form r1
  obtain ⟨bo, cbp, rfl⟩ := owns_form r2
  exact ⟨_, _, _, _, _, _, rfl⟩

theorem IsS.rise {w : World} {v : Value} {V : List Nat} {f : (Nat → Bool) → Bool} (h : IsS w v V f) : Rising 0 V := by
  obtain ⟨T, hT, hf⟩ := h
  exact hT.rise

theorem isS_store {w : World} {x y : Value} {V : List Nat} {f : (Nat → Bool) → Bool} {b : Nat} {p q : Value} (h : IsS w (.agg #[x, y]) V f) (hb : w.heap[b]? = some (.cells #[p, q] 39 (0, 0))) :
    IsS ((w.setCell ⟨b, 0, none⟩ x).setCell ⟨b, 1, none⟩ y) (.agg #[x, y]) V f := by
  obtain ⟨T, ⟨h1, h2, sv, st, he, r1, r2⟩, hf⟩ := h
  cases he
  have n1 := owns_ne r1 hb (by decide : (3 : Nat) ≠ 39)
  have n2 := owns_ne r2 hb (by decide : (4 : Nat) ≠ 39)
  exact ⟨T, ⟨h1, h2, _, _, rfl, ownsRow_setCell_other (ownsRow_setCell_other r1 n1 _) n1 _, ownsRow_setCell_other (ownsRow_setCell_other r2 n2 _) n2 _⟩, hf⟩

/-- What a function of the reference that makes a set returns. -/
def SPost (w : World) (V : List Nat) (f : (Nat → Bool) → Bool) (e : Ending) (w' : World) : Prop := ∃ v, e = .returned v ∧ IsS w' v V f ∧ Below w.heap.size w w'

set_option maxRecDepth 100000 in
set_option maxHeartbeats 800000 in
theorem rand_calls {w : World} {va vb : Value} {V V' : List Nat} {f f' : (Nat → Bool) → Bool} (ha : IsS w va V f) (hb : IsS w vb V' f') :
    Calls Tryz.prog 63 #[va, vb] w (SPost w (feats (numb V ||| numb V')) (fun c => jop 0 (f c) (f' c))) := by
  obtain ⟨ao, n, cap, co, k, ccp, rfl⟩ := ha.form
  obtain ⟨bo, m, cbp, d, l, dcp, rfl⟩ := hb.form
  have HA := Lib.hid ha
  have HB := Lib.hid hb
  clear ha hb
  go_enter Tryz.func63, Tryz.ntmps63
  go_wp2_with fail
  have hC : (((w.alloc (.cells #[.slice ao n cap, .slice co k ccp] 39)).alloc (.cells #[.slice bo m cbp, .slice d l dcp] 39)).alloc (.cells #[.slice none 0 0, .slice none 0 0] 39)).heap[w.heap.size + 1 + 1]? = some (.cells #[.slice none 0 0, .slice none 0 0] 39 (0, 0)) := heap_new_at (by simp)
  have hN : Near w (((w.alloc (.cells #[.slice ao n cap, .slice co k ccp] 39)).alloc (.cells #[.slice bo m cbp, .slice d l dcp] 39)).alloc (.cells #[.slice none 0 0, .slice none 0 0] 39)) := (((Near.refl w).alloc _).alloc _).alloc _
  have HC := Lib.hid hC
  clear hC
  refine (join2_says (HA.out.near hN) (HB.out.near hN) 0 (by decide)).mono ?_
  rintro e w1 ⟨v, rfl, hs, hbl⟩
  obtain ⟨xo, xn, xc, yo, yn, yc, rfl⟩ := hs.form
  have E := Lib.hid (keepE hbl HC.out)
  have q0 : w1.cell? ⟨w.heap.size + 1 + 1, 0, none⟩ = some (.slice none 0 0) := cell1 E.out rfl
  have q1 : w1.cell? ⟨w.heap.size + 1 + 1, 1, none⟩ = some (.slice none 0 0) := cell1 E.out rfl
  have f0 := free1 E.out 0
  have f1 := free1 E.out 1
  have HS := Lib.hid hs
  clear hs
  go_wp2_with fail
  exact bodyPost_ret (v := .agg #[.slice xo xn xc, .slice yo yn yc]) (by simp [results, Tryz.results63, go_sem, q0, q1]) rfl
    ⟨_, rfl, isS_store HS.out E.out, (((hN.below.trans (hbl.mono hN.size)).setCell (by show w.heap.size ≤ w.heap.size + 1 + 1; omega) _).setCell (by show w.heap.size ≤ w.heap.size + 1 + 1; omega) _)⟩

set_option maxRecDepth 100000 in
set_option maxHeartbeats 800000 in
theorem ror_calls {w : World} {va vb : Value} {V V' : List Nat} {f f' : (Nat → Bool) → Bool} (ha : IsS w va V f) (hb : IsS w vb V' f') :
    Calls Tryz.prog 64 #[va, vb] w (SPost w (feats (numb V ||| numb V')) (fun c => jop 1 (f c) (f' c))) := by
  obtain ⟨ao, n, cap, co, k, ccp, rfl⟩ := ha.form
  obtain ⟨bo, m, cbp, d, l, dcp, rfl⟩ := hb.form
  have HA := Lib.hid ha
  have HB := Lib.hid hb
  clear ha hb
  go_enter Tryz.func64, Tryz.ntmps64
  go_wp2_with fail
  have hC : (((w.alloc (.cells #[.slice ao n cap, .slice co k ccp] 39)).alloc (.cells #[.slice bo m cbp, .slice d l dcp] 39)).alloc (.cells #[.slice none 0 0, .slice none 0 0] 39)).heap[w.heap.size + 1 + 1]? = some (.cells #[.slice none 0 0, .slice none 0 0] 39 (0, 0)) := heap_new_at (by simp)
  have hN : Near w (((w.alloc (.cells #[.slice ao n cap, .slice co k ccp] 39)).alloc (.cells #[.slice bo m cbp, .slice d l dcp] 39)).alloc (.cells #[.slice none 0 0, .slice none 0 0] 39)) := (((Near.refl w).alloc _).alloc _).alloc _
  have HC := Lib.hid hC
  clear hC
  refine (join2_says (HA.out.near hN) (HB.out.near hN) 1 (by decide)).mono ?_
  rintro e w1 ⟨v, rfl, hs, hbl⟩
  obtain ⟨xo, xn, xc, yo, yn, yc, rfl⟩ := hs.form
  have E := Lib.hid (keepE hbl HC.out)
  have q0 : w1.cell? ⟨w.heap.size + 1 + 1, 0, none⟩ = some (.slice none 0 0) := cell1 E.out rfl
  have q1 : w1.cell? ⟨w.heap.size + 1 + 1, 1, none⟩ = some (.slice none 0 0) := cell1 E.out rfl
  have f0 := free1 E.out 0
  have f1 := free1 E.out 1
  have HS := Lib.hid hs
  clear hs
  go_wp2_with fail
  exact bodyPost_ret (v := .agg #[.slice xo xn xc, .slice yo yn yc]) (by simp [results, Tryz.results64, go_sem, q0, q1]) rfl
    ⟨_, rfl, isS_store HS.out E.out, (((hN.below.trans (hbl.mono hN.size)).setCell (by show w.heap.size ≤ w.heap.size + 1 + 1; omega) _).setCell (by show w.heap.size ≤ w.heap.size + 1 + 1; omega) _)⟩

set_option maxRecDepth 100000 in
set_option maxHeartbeats 800000 in
theorem rxor_calls {w : World} {va vb : Value} {V V' : List Nat} {f f' : (Nat → Bool) → Bool} (ha : IsS w va V f) (hb : IsS w vb V' f') :
    Calls Tryz.prog 65 #[va, vb] w (SPost w (feats (numb V ||| numb V')) (fun c => jop 2 (f c) (f' c))) := by
  obtain ⟨ao, n, cap, co, k, ccp, rfl⟩ := ha.form
  obtain ⟨bo, m, cbp, d, l, dcp, rfl⟩ := hb.form
  have HA := Lib.hid ha
  have HB := Lib.hid hb
  clear ha hb
  go_enter Tryz.func65, Tryz.ntmps65
  go_wp2_with fail
  have hC : (((w.alloc (.cells #[.slice ao n cap, .slice co k ccp] 39)).alloc (.cells #[.slice bo m cbp, .slice d l dcp] 39)).alloc (.cells #[.slice none 0 0, .slice none 0 0] 39)).heap[w.heap.size + 1 + 1]? = some (.cells #[.slice none 0 0, .slice none 0 0] 39 (0, 0)) := heap_new_at (by simp)
  have hN : Near w (((w.alloc (.cells #[.slice ao n cap, .slice co k ccp] 39)).alloc (.cells #[.slice bo m cbp, .slice d l dcp] 39)).alloc (.cells #[.slice none 0 0, .slice none 0 0] 39)) := (((Near.refl w).alloc _).alloc _).alloc _
  have HC := Lib.hid hC
  clear hC
  refine (join2_says (HA.out.near hN) (HB.out.near hN) 2 (by decide)).mono ?_
  rintro e w1 ⟨v, rfl, hs, hbl⟩
  obtain ⟨xo, xn, xc, yo, yn, yc, rfl⟩ := hs.form
  have E := Lib.hid (keepE hbl HC.out)
  have q0 : w1.cell? ⟨w.heap.size + 1 + 1, 0, none⟩ = some (.slice none 0 0) := cell1 E.out rfl
  have q1 : w1.cell? ⟨w.heap.size + 1 + 1, 1, none⟩ = some (.slice none 0 0) := cell1 E.out rfl
  have f0 := free1 E.out 0
  have f1 := free1 E.out 1
  have HS := Lib.hid hs
  clear hs
  go_wp2_with fail
  exact bodyPost_ret (v := .agg #[.slice xo xn xc, .slice yo yn yc]) (by simp [results, Tryz.results65, go_sem, q0, q1]) rfl
    ⟨_, rfl, isS_store HS.out E.out, (((hN.below.trans (hbl.mono hN.size)).setCell (by show w.heap.size ≤ w.heap.size + 1 + 1; omega) _).setCell (by show w.heap.size ≤ w.heap.size + 1 + 1; omega) _)⟩

end Go.Proofs.YtefclohjeompkaaGreat
