/- The contracts of Has, Support. -/
import Derived.Test.YtefclohjeompkaaOps
import Derived.Test.YtefclohjeompkaaBits
import Derived.Test.YtefclohjeompkaaTreeB
namespace Go.Proofs.Ytefclohjeompkaa
open Go Go.RowKit Go.Proofs.Gen Go.Proofs.Bdd Go.Proofs.Bdd.T

set_option maxRecDepth 100000 in
set_option maxHeartbeats 800000 in
theorem has_walk (L : List T) (g : T.Good L) (hlen : L.length < 1099511627776) (sv : Value) (t0 : T) (hin : In L t0) (c : Nat) (hc : c < 4294967296) (w : World) (hr : w.ownsRow 0 26 3 sv L.length (cellsOf (enc L))) :
    Calls Try.prog 70 #[.agg #[sv, .int .i64 (pl L t0 : Nat)], .int .u32 c] w fun e w' => e = .returned (.bool (t0.ev (fun i => c.testBit i))) ∧ Near w w' := by
  have HR := Lib.hid hr
  clear hr
  have a0 : (w.alloc (.cells #[sv, .int .i64 (pl L t0 : Nat)] 31)).cell? ⟨w.heap.size, 0, none⟩ = some sv := by simp
  have hN : Near w (w.alloc (.cells #[sv, .int .i64 (pl L t0 : Nat)] 31)) := (Near.refl w).alloc _
  go_enter Try.func70, Try.ntmps70
  go_wp2_with fail
  go_loopw [5] (fun r wr => ∃ t : T, In L t ∧ r = .int .i64 (pl L t : Nat) ∧ t.ev (fun i => c.testBit i) = t0.ev (fun i => c.testBit i) ∧ Near (w.alloc (.cells #[sv, .int .i64 (pl L t0 : Nat)] 31)) wr) (fun r _ => (intOf r).toNat)
  case atStart => exact ⟨t0, hin, rfl, rfl, Near.refl _⟩
  case round =>
    obtain ⟨t, ht, rfl, hev, hn⟩ := hrel
    have b0 := hn.cell a0
    cases t with
    | leaf b =>
      have hp : ((pl L (leaf b) : Nat) : Int) ≤ 1 := by rw [pl_leaf]; cases b <;> decide
      have he : (((pl L (leaf b) : Nat) : Int) == 1) = b := by rw [pl_leaf]; cases b <;> rfl
      go_wp2
      go_ret
      exact ⟨by rw [← hev]; rfl, hN.trans hn⟩
    | node i l h =>
      have hp := pl_node (L := L) i l h
      have hpl := pl_lt ht
      have hkd := g.down (show node i l h ∈ L from ht)
      have hk := g.kids (show node i l h ∈ L from ht)
      have hge : (enc L)[pl L (node i l h) - 2]? = some ⟨i, pl L l, pl L h⟩ := by simp [enc, pl_get (L := L) (i := i) (l := l) (h := h) ht, en]
      have hle : (enc L).length = L.length := by simp [enc]
      obtain ⟨gb, cap, hsv, x0, x1, x2⟩ := tri_cells (by rw [hle]; exact HR.out) hge
      rw [hle] at hsv
      clear hge hle
      subst hsv
      have y0 := hn.cell (hN.cell x0)
      have y1 := hn.cell (hN.cell x1)
      have y2 := hn.cell (hN.cell x2)
      clear x0 x1 x2
      have hi := (In.ok g ht).1
      have hbit := u32_bit' c i hc (by omega)
      have HB := Lib.hid hbit
      clear hbit
      have HE := Lib.hid hev
      clear hev
      cases hb : c.testBit i with
      | true =>
        have hbt : (bits BinOp.and IntKind.u32 ((c : Int) / 2 ^ i) 1 == 1) = true := HB.out.trans hb
        have HBT := Lib.hid hb
        clear hb
        go_wp2
        go_roundw
        case rel => exact ⟨h, hk.2, rfl, by rw [← HE.out]; simp [ev, HBT.out], hn.alloc _⟩
        case measure => simp [intOf]; omega
      | false =>
        have hbt : (bits BinOp.and IntKind.u32 ((c : Int) / 2 ^ i) 1 == 1) = false := HB.out.trans hb
        have HBT := Lib.hid hb
        clear hb
        go_wp2
        go_roundw
        case rel => exact ⟨l, hk.1, rfl, by rw [← HE.out]; simp [ev, HBT.out], hn.alloc _⟩
        case measure => simp [intOf]; omega

/-- THE CONTRACT OF 'Has'. -/
theorem has_calls {w : World} {v : Value} {t : T} (h : IsD w v t) {c : Nat} (hc : c < 4294967296) {x : Int} (hx : x = c) : Calls Try.prog 70 #[v, .int .u32 x] w fun e w' => e = .returned (.bool (t.ev (fun i => c.testBit i))) ∧ Near w w' := by
  subst hx
  obtain ⟨ok, sv, rfl, hr⟩ := h
  have := nodes_len ok
  exact has_walk (nodes t) (nodes_good ok) (by omega) sv t (nodes_in t) c hc w hr

set_option maxRecDepth 100000 in
set_option maxHeartbeats 800000 in
theorem support_walk (L : List T) (g : T.Good L) (hlen : L.length < 1099511627776) (ao : Option Addr) (cap : Nat) (r : Int) (w : World) (hr : w.ownsRow 0 26 3 (.slice ao L.length cap) L.length (cellsOf (enc L))) :
    Calls Try.prog 44 #[.agg #[.slice ao L.length cap, .int .i64 r]] w fun e w' => e = .returned (.int .u32 (sup L : Nat)) ∧ Near w w' := by
  have HR := Lib.hid hr
  clear hr
  have a0 : (w.alloc (.cells #[.slice ao L.length cap, .int .i64 r] 31)).cell? ⟨w.heap.size, 0, none⟩ = some (.slice ao L.length cap) := by simp
  have hN : Near w (w.alloc (.cells #[.slice ao L.length cap, .int .i64 r] 31)) := (Near.refl w).alloc _
  go_enter Try.func44, Try.ntmps44
  go_wp2_with fail
  go_loopw [3, 9] (fun s i wr => ∃ k : Nat, k ≤ L.length ∧ i = .int .i64 k ∧ s = .int .u32 (sup (L.take k) : Nat) ∧ Near (w.alloc (.cells #[.slice ao L.length cap, .int .i64 r] 31)) wr) (fun _ i _ => L.length - (intOf i).toNat)
  case atStart => exact ⟨0, Nat.zero_le _, rfl, rfl, Near.refl _⟩
  case round =>
    obtain ⟨k, hk, rfl, rfl, hn⟩ := hrel
    by_cases hlt : k < L.length
    · have hle : (enc L).length = L.length := by simp [enc]
      have hge : (enc L)[k]? = some (en L L[k]) := by simp [enc, hlt]
      obtain ⟨gb, cap', hsv, x0, x1, x2⟩ := tri_cells (by rw [hle]; exact HR.out) hge
      rw [hle] at hsv
      simp only [Value.slice.injEq, true_and] at hsv
      obtain ⟨rfl, rfl⟩ := hsv
      have hnode := g.all L[k] (List.getElem_mem hlt)
      have hv : (en L L[k]).v = (L[k]).lv := by
        cases hx : L[k] with
        | leaf b => rw [hx] at hnode; exact hnode.1.elim
        | node j l' h' => rfl
      have hl24 : (L[k]).lv < 24 := by
        cases hx : L[k] with
        | leaf b => rw [hx] at hnode; exact hnode.1.elim
        | node j l' h' => rw [hx] at hnode; exact hnode.2.1
      rw [hv] at x0
      have hts : sup (L.take (k + 1)) = sup (L.take k) ||| 2 ^ (L[k]).lv := by rw [List.take_succ_eq_append_getElem hlt, sup_snoc]
      have y0 := hn.cell (hN.cell x0)
      have y1 := hn.cell (hN.cell x1)
      have y2 := hn.cell (hN.cell x2)
      clear x0 x1 x2 hge hle hv
      have HT := Lib.hid hts
      clear hts
      obtain ⟨lo', hlo⟩ : ∃ z, z = (en L L[k]).lo := ⟨_, rfl⟩
      obtain ⟨hi', hhi⟩ : ∃ z, z = (en L L[k]).hi := ⟨_, rfl⟩
      obtain ⟨v', hv'⟩ : ∃ z, z = (L[k]).lv := ⟨_, rfl⟩
      rw [← hv'] at y0 hl24
      rw [← hlo] at y1
      rw [← hhi] at y2
      have HV := Lib.hid hv'
      clear hlo hhi hv' hnode
      have hsl : sup (L.take k) < 16777216 := sup_lt fun t ht => by
        have hm := g.all t (List.mem_of_mem_take ht)
        cases t with
        | leaf b => exact hm.1.elim
        | node j l' h' => exact hm.2.1
      go_wp2
      go_roundw
      case rel => exact ⟨k + 1, by omega, by go_num, by rw [HT.out, u32_or_bit _ _ (by omega) (by omega), HV.out], hn.alloc _⟩
      case measure => simp [intOf]; omega
    · have hkl : k = L.length := by omega
      subst hkl
      go_wp2
      go_ret
      exact ⟨congrArg (fun z : List T => Ending.returned (Value.int .u32 ((sup z : Nat) : Int))) (List.take_length (l := L)), hN.trans hn⟩

/-- THE CONTRACT OF 'Support'. -/
theorem support_calls {w : World} {v : Value} {t : T} (h : IsD w v t) : Calls Try.prog 44 #[v] w fun e w' => e = .returned (.int .u32 (sup (nodes t) : Nat)) ∧ Near w w' := by
  obtain ⟨ok, sv, rfl, hr⟩ := h
  obtain ⟨ao, cap, rfl⟩ := owns_form hr
  have := nodes_len ok
  exact support_walk (nodes t) (nodes_good ok) (by omega) ao cap _ w hr

end Go.Proofs.Ytefclohjeompkaa
