/- The reference's Of. -/
import Derived.Test.YtefclohjeompkaaSeq
namespace Go.Proofs.Ytefclohjeompkaa
open Go Go.RowKit Go.Proofs.Gen Go.Proofs.Bdd Go.Proofs.Bdd.T

theorem IsS.congr {w : World} {v : Value} {V : List Nat} {f g : F} (h : IsS w v V f) (e : ∀ c, f c = g c) : IsS w v V g := by
  obtain ⟨T, hT, hf⟩ := h
  exact ⟨T, hT, fun c => (hf c).trans (e c)⟩

theorem info37 : (Try.prog.info? 37).map (fun i => (i.zero, i.size, i.bytes)) = some (some (.agg #[.slice none 0 0, .slice none 0 0]), 2, 48) := by kernel_rfl

/-- One bit, as a region that draws spells it. -/
theorem shl_form {i : Nat} (hi : i < 24) : IntKind.u32.wrap (2 ^ min (IntKind.u64.wrap (i : Int)).toNat 32) = ((2 ^ i : Nat) : Int) := by
  have hp : (2 : Nat) ^ i < 2 ^ 24 := Nat.pow_lt_pow_right (by omega) hi
  have e : (2 : Nat) ^ 24 = 16777216 := by decide
  rw [u64_in _ (by omega) (by omega), Int.toNat_natCast, Nat.min_eq_left (by omega), show ((2 : Int) ^ i) = ((2 ^ i : Nat) : Int) from by simp]
  rw [e] at hp
  generalize (2 : Nat) ^ i = z at *
  rw [wraps_u32 _ (by omega) (by omega)]

/-- The functions of the trees. -/
def evs (ts : List T) : List F := ts.map fun t => t.ev

def ROfPost (l : List Dec) (root : Int) (w : World) (e : Ending) (w' : World) : Prop :=
  ∃ v n t, e = .returned (.tuple #[v, .int .i64 n]) ∧ Near w w' ∧ IsG w' v t.ev ∧ OfSays l root n t

set_option maxRecDepth 100000 in
set_option maxHeartbeats 6400000 in
theorem rof_calls {w : World} {v : Value} {l : List Dec} {root : Int} (h : RdDec w v l) (hl : l.length ≤ 65536) :
    Calls Try.prog 20 #[v, .int .i64 root] w (ROfPost l root w) := by
  obtain ⟨i0, hi0, hz0, hz1, hz2⟩ := info_parts info37
  have HL := Lib.hid h
  obtain ⟨ao, cap, rfl, hc⟩ := h
  have HC := Lib.hid hc
  clear hc
  have hl' : ¬ (65536 : Int) < (l.length : Int) := by omega
  go_enter Try.func20, Try.ntmps20
  go_wp2_with (first
    | (go_at_call_of 80 (Value.bool false); refine (const_calls false _).mono ?_; rintro e w1 ⟨v1, rfl, s1, b1⟩; have S1 := Lib.hid s1; have B1 := Lib.hid b1; obtain ⟨a1, a2, a3, a4, a5, a6, rfl⟩ := s1.form; clear s1 b1)
    | (go_at_call_of 80 (Value.bool true); refine (const_calls true _).mono ?_; rintro e w2 ⟨v2, rfl, s2, b2⟩; have S2 := Lib.hid s2; have B2 := Lib.hid b2; obtain ⟨c1, c2, c3, c4, c5, c6, rfl⟩ := s2.form; clear s2 b2))
  have hW : ∀ W, W = w2.alloc (Obj.cells #[Value.slice a1 a2 a3, Value.slice a4 a5 a6, Value.slice c1 c2 c3, Value.slice c4 c5 c6] 37) →
      Near w W ∧ W.heap[w.heap.size]? = some (.cells #[.slice none 0 0, .slice none 0 0] 37 (0, 0)) ∧ Sets 37 IsG (w.heap.size + 1) W (Value.slice (some ⟨w2.heap.size, 0, none⟩) 2 2) (evs (trTo l 0)) ∧ w.heap.size + 1 ≤ W.heap.size := by
    rintro W rfl
    have m1 : w.heap.size + 1 ≤ w1.heap.size := by
      have := B1.out.size
      simpa using this
    have m2 := B2.out.size
    have z1 : Near (w.alloc (Obj.cells #[Value.slice none 0 0, Value.slice none 0 0] 37)) w2 := (Near.of_below B1.out).trans (Near.of_below B2.out)
    refine ⟨(((Near.refl w).alloc _).trans z1).alloc _, (heap_old_at (by omega)).trans (keepN z1 (heap_new_at rfl)), ⟨[(Value.slice a1 a2 a3, Value.slice a4 a5 a6), (Value.slice c1 c2 c3, Value.slice c4 c5 c6)], ?_, rfl, ?_⟩, by simp; omega⟩
    · exact ⟨rfl, .inr ⟨w2.heap.size, 2, _, rfl, by omega, heap_new_at rfl, Nat.le_refl _, by unfold maxLen; omega, rfl, rfl⟩⟩
    · intro j f p hj hp
      match j, hj, hp with
      | 0, hj, hp =>
        cases hj
        cases hp
        exact ⟨[], (S1.out.near ((Near.of_below B2.out).alloc _)).congr fun c => rfl⟩
      | 1, hj, hp =>
        cases hj
        cases hp
        exact ⟨[], (S2.out.near ((Near.refl _).alloc _)).congr fun c => rfl⟩
  have hW' := hW _ rfl
  generalize w2.alloc (Obj.cells #[Value.slice a1 a2 a3, Value.slice a4 a5 a6, Value.slice c1 c2 c3, Value.slice c4 c5 c6] 37) = W at hW' ⊢
  clear hW
  obtain ⟨n0, r0, p0, s0⟩ := hW'
  have HN0 := Lib.hid n0
  have HR0 := Lib.hid r0
  have HP0 := Lib.hid p0
  clear n0 r0 p0
  go_loopw [6, 7] (fun x i wr => ∃ k, k ≤ l.length ∧ i = .int .i64 (k : Nat) ∧ (∀ j, j < k → Fine l j) ∧ Sets 37 IsG (w.heap.size + 1) wr x (evs (trTo l k)) ∧ Near w wr ∧ wr.heap[w.heap.size]? = some (.cells #[.slice none 0 0, .slice none 0 0] 37 (0, 0)) ∧ w.heap.size + 1 ≤ wr.heap.size) (fun _ i _ => l.length - (intOf i).toNat)
  case atStart => exact ⟨0, Nat.zero_le _, rfl, fun j hj => absurd hj (Nat.not_lt_zero _), HP0.out, HN0.out, HR0.out, s0⟩
  case round =>
    clear HN0 HR0 HP0 s0
    obtain ⟨k, hk, rfl, hfin, hpl, hn, hres, hs⟩ := hrel
    have HF := Lib.hid hfin
    have HP := Lib.hid hpl
    have HN := Lib.hid hn
    have HRes := Lib.hid hres
    clear hfin hpl hn hres
    have htl := trTo_len l k
    by_cases hlt : k < l.length
    · have hlt' : (k : Int) < l.length := by omega
      have hx : l[k]? = some l[k] := List.getElem?_eq_getElem hlt
      obtain ⟨b, off, rfl, x0, x1, x2⟩ := HC.out k _ hx
      have y0 := HN.out.cell x0
      have y1 := HN.out.cell x1
      have y2 := HN.out.cell x2
      obtain ⟨d, hd⟩ : ∃ d, d = l[k] := ⟨_, rfl⟩
      rw [← hd] at hx y0 y1 y2
      have HX := Lib.hid hx
      clear x0 x1 x2 hx hd
      obtain ⟨dv, dl, dh⟩ := d
      simp only at y0 y1 y2
      have HTL := Lib.hid htl
      clear htl
      have HA := Lib.hid (keepN ((Near.refl wr).alloc (.cells #[.int .i64 dv, .int .i64 dl, .int .i64 dh] 26)) HRes.out)
      have HNA := Lib.hid (HN.out.alloc (.cells #[.int .i64 dv, .int .i64 dl, .int .i64 dh] 26))
      go_upto_region 8 with fail
      have e0 : (wr.alloc (Obj.cells #[Value.int IntKind.i64 dv, Value.int IntKind.i64 dl, Value.int IntKind.i64 dh] 26)).cell? ⟨wr.heap.size, 0, none⟩ = some (.int .i64 dv) := by simp
      have e1 : (wr.alloc (Obj.cells #[Value.int IntKind.i64 dv, Value.int IntKind.i64 dl, Value.int IntKind.i64 dh] 26)).cell? ⟨wr.heap.size, 1, none⟩ = some (.int .i64 dl) := by simp
      have e2 : (wr.alloc (Obj.cells #[Value.int IntKind.i64 dv, Value.int IntKind.i64 dl, Value.int IntKind.i64 dh] 26)).cell? ⟨wr.heap.size, 2, none⟩ = some (.int .i64 dh) := by simp
      have N1 : Near wr (wr.alloc (Obj.cells #[Value.int IntKind.i64 dv, Value.int IntKind.i64 dl, Value.int IntKind.i64 dh] 26)) := (Near.refl wr).alloc _
      have hs1 : wr.heap.size < (wr.alloc (Obj.cells #[Value.int IntKind.i64 dv, Value.int IntKind.i64 dl, Value.int IntKind.i64 dh] 26)).heap.size := by simp
      generalize (wr.alloc (Obj.cells #[Value.int IntKind.i64 dv, Value.int IntKind.i64 dl, Value.int IntKind.i64 dh] 26)) = W1 at HA HNA e0 e1 e2 N1 hs1 ⊢
      clear y0 y1 y2
      have HN1 := Lib.hid N1
      clear N1
      have bad : ¬ Fine l k → ∀ wz, Near W1 wz → ∀ w3 v3, IsS w3 v3 [] (fun _ => false) → Near wz w3 → ∀ a b c d e f, v3 = .agg #[.slice a b c, .slice d e f] → ROfPost l root w (.returned (.tuple #[.agg #[.slice a b c, .slice d e f], .int .i64 4])) ((w3.setCell ⟨w.heap.size, 0, none⟩ (.slice a b c)).setCell ⟨w.heap.size, 1, none⟩ (.slice d e f)) := by
        rintro hnf wz nz w3 v3 s3 n3 a b c d e f rfl
        refine ⟨_, _, _, rfl, (((HNA.out.trans nz).trans n3).set (by show w.heap.size ≤ w.heap.size; omega) _).set (by show w.heap.size ≤ w.heap.size; omega) _, ⟨[], (isS_store s3 (keepN (nz.trans n3) HA.out)).congr fun c => ?_⟩, .inl ⟨⟨k, hlt, hnf⟩, rfl, rfl⟩⟩
        rfl
      have HB := Lib.hid bad
      clear bad
      by_cases h8 : 0 ≤ dv ∧ dv ≤ 23 ∧ 0 ≤ dl ∧ dl ≤ (k : Int) + 1 ∧ 0 ≤ dh ∧ dh ≤ (k : Int) + 1
      · obtain ⟨g0, g1, g2, g3, g4, g5⟩ := h8
        have cell : ∀ r : Int, 0 ≤ r → r ≤ (k : Int) + 1 → (BelowOk l k r ∧ r < 2) ∨ (∃ (j : Nat) (a : Int), r = j + 2 ∧ j < k ∧ W1.cell? ⟨b, off + j * 3, none⟩ = some (.int .i64 a) ∧ ((BelowOk l k r ∧ dv < a) ∨ (¬ BelowOk l k r ∧ a ≤ dv))) := by
          intro r hr0 hr
          by_cases h2 : r < 2
          · exact .inl ⟨⟨by omega, by omega, .inl (by omega)⟩, h2⟩
          · refine .inr ⟨(r - 2).toNat, (l[(r - 2).toNat]'(by omega)).v, by omega, by omega, ?_, ?_⟩
            · obtain ⟨b', off', he, x0, -, -⟩ := HC.out (r - 2).toNat _ (List.getElem?_eq_getElem (by omega))
              cases he
              exact HN1.out.cell (HN.out.cell x0)
            · have hq : l[(r - 2).toNat]? = some (l[(r - 2).toNat]'(by omega)) := List.getElem?_eq_getElem (by omega)
              by_cases h : dv < (l[(r - 2).toNat]'(by omega)).v
              · refine .inl ⟨⟨by omega, by omega, .inr fun x y hx hy => ?_⟩, h⟩
                rw [hq] at hx
                rw [HX.out] at hy
                cases hx
                cases hy
                exact h
              · refine .inr ⟨fun hb => ?_, by omega⟩
                rcases hb.2.2 with h' | h'
                · omega
                · exact h (h' _ _ hq HX.out)
        have CP := cell dl g2 g3
        have CQ := cell dh g4 g5
        clear cell
        obtain ⟨bb, hbb⟩ : ∃ bb : Bool, bb = true ↔ BelowOk l k dl ∧ BelowOk l k dh := by
          by_cases h : BelowOk l k dl ∧ BelowOk l k dh
          · exact ⟨true, by simp [h]⟩
          · exact ⟨false, by simp [h]⟩
        have HBB := Lib.hid hbb
        clear hbb
        go_upto_region 10 with fail
        go_cut [90] (fun s90 wx => s90 = .bool (!bb) ∧ Near W1 wx)
        case first =>
          have t1 : BelowOk l k dl → BelowOk l k dh → (!bb) = false := fun x y => by rw [HBB.out.2 ⟨x, y⟩]; rfl
          have t2 : ¬ BelowOk l k dl → (!bb) = true := fun x => by
            cases h : bb
            · rfl
            · exact (x (HBB.out.1 h).1).elim
          have t3 : BelowOk l k dl → ∀ a', (BelowOk l k dh ∧ dv < a' ∨ ¬BelowOk l k dh ∧ a' ≤ dv) → (!bb) = decide (a' ≤ dv) := fun x a' h => by
            rcases h with ⟨h1, h2⟩ | ⟨h1, h2⟩
            · rw [HBB.out.2 ⟨x, h1⟩]
              simp; omega
            · have : bb = false := by
                cases h : bb
                · rfl
                · exact (h1 (HBB.out.1 h).2).elim
              rw [this]
              simp; omega
          have T1 := Lib.hid t1
          have T2 := Lib.hid t2
          have T3 := Lib.hid t3
          clear t1 t2 t3 HB HF HP HC HL HTL HA HNA HN HRes
          rcases CP with ⟨bp, cp⟩ | ⟨j, a, rfl, jk, cp, ⟨bp, ap⟩ | ⟨bp, ap⟩⟩
          · rcases CQ with ⟨bq, cq⟩ | ⟨j', a', rfl, jk', cq, hq⟩
            · have BP := Lib.hid bp
              have BQ := Lib.hid bq
              clear bp bq
              have dp : decide (1 < dl) = false := by simp; omega
              have dq : decide (1 < dh) = false := by simp; omega
              go_quiet (fail)
              go_wp2_with fail
              go_meet
              exact ⟨by rw [T1.out BP.out BQ.out], (Near.refl _).drewN _⟩
            · have HQ := Lib.hid hq
              have BP := Lib.hid bp
              clear bp hq
              have dp : decide (1 < dl) = false := by simp; omega
              have dq : decide (1 < (j' : Int) + 2) = true := by simp; omega
              have jl : (j' : Int) < l.length := by omega
              go_quiet (fail)
              go_wp2_with fail
              go_meet
              exact ⟨by rw [T3.out BP.out _ HQ.out], (Near.refl _).drewN _⟩
          · have dp : decide (1 < (j : Int) + 2) = true := by simp; omega
            have da : decide (a ≤ dv) = false := by simp; omega
            have jlp : (j : Int) < l.length := by omega
            rcases CQ with ⟨bq, cq⟩ | ⟨j', a', rfl, jk', cq, hq⟩
            · have BP := Lib.hid bp
              have BQ := Lib.hid bq
              clear bp bq
              have dq : decide (1 < dh) = false := by simp; omega
              go_quiet (fail)
              go_wp2_with fail
              go_meet
              exact ⟨by rw [T1.out BP.out BQ.out], (Near.refl _).drewN _⟩
            · have HQ := Lib.hid hq
              have BP := Lib.hid bp
              clear bp hq
              have dq : decide (1 < (j' : Int) + 2) = true := by simp; omega
              have jl : (j' : Int) < l.length := by omega
              go_quiet (fail)
              go_wp2_with fail
              go_meet
              exact ⟨by rw [T3.out BP.out _ HQ.out], (Near.refl _).drewN _⟩
          · have dp : decide (1 < (j : Int) + 2) = true := by simp; omega
            have da : decide (a ≤ dv) = true := by simp; omega
            have jlp : (j : Int) < l.length := by omega
            have BP := Lib.hid bp
            clear bp CQ
            go_quiet (fail)
            go_wp2_with fail
            go_meet
            exact ⟨by rw [T2.out BP.out], (Near.refl _).drewN _⟩
        case rest =>
          obtain ⟨rfl, hn1⟩ := hcut
          have HN2 := Lib.hid hn1
          have d0 := hn1.cell e0
          have d1 := hn1.cell e1
          have d2 := hn1.cell e2
          clear hn1 e0 e1 e2 CP CQ
          by_cases hgood : BelowOk l k dl ∧ BelowOk l k dh
          · rw [HBB.out.2 hgood]
            have HFk : Hid (Fine l k) := Lib.hid ⟨_, HX.out, g0, by show dv < 24; omega, hgood.1, hgood.2⟩
            obtain ⟨tl, htl1, otl, vtl⟩ := tr_kid HF.out hgood.1 HX.out (show dv < 24 by omega)
            obtain ⟨th, hth1, oth, vth⟩ := tr_kid HF.out hgood.2 HX.out (show dv < 24 by omega)
            have hnx := trTo_next HX.out htl1 hth1
            clear hgood
            obtain ⟨i, rfl⟩ : ∃ i : Nat, dv = i := ⟨dv.toNat, by omega⟩
            obtain ⟨p, rfl⟩ : ∃ p : Nat, dl = p := ⟨dl.toNat, by omega⟩
            obtain ⟨q, rfl⟩ : ∃ q : Nat, dh = q := ⟨dh.toNat, by omega⟩
            simp only [Int.toNat_natCast] at htl1 hth1 hnx vtl vth
            have HW := Lib.hid (HN1.out.trans HN2.out)
            obtain ⟨vs, hrow, hvl, his⟩ := HP.out.map HW.out (fun _ _ h => h.near HW.out)
            have hevl : (evs (trTo l k)).length = k + 2 := by unfold evs; rw [List.length_map]; exact HTL.out
            have eq1 : (evs (trTo l k))[p]? = some tl.ev := by unfold evs; rw [List.getElem?_map, htl1]; rfl
            have eq2 : (evs (trTo l k))[q]? = some th.ev := by unfold evs; rw [List.getElem?_map, hth1]; rfl
            have ev1 : vs[p]? = some (vs[p]'(by omega)) := List.getElem?_eq_getElem (by omega)
            have ev2 : vs[q]? = some (vs[q]'(by omega)) := List.getElem?_eq_getElem (by omega)
            have is1 := his _ _ _ eq1 ev1
            have is2 := his _ _ _ eq2 ev2
            obtain ⟨p1, p2, p3, p4, p5, p6, pe⟩ := is1.form
            obtain ⟨q1, q2, q3, q4, q5, q6, qe⟩ := is2.form
            simp only [Value.agg.injEq, Array.mk.injEq, List.cons.injEq, and_true] at pe qe
            rw [pe.1, pe.2] at is1
            rw [qe.1, qe.2] at is2
            obtain ⟨f1a, f1b⟩ := flat2_at ev1
            obtain ⟨f2a, f2b⟩ := flat2_at ev2
            rw [pe.1] at f1a
            rw [pe.2] at f1b
            rw [qe.1] at f2a
            rw [qe.2] at f2b
            rw [hevl] at hrow
            have cells : ∀ w' : World, w'.ownsRow (w.heap.size + 1) 37 2 u6 (k + 2) (flat2 vs) → ∃ g xc, u6 = .slice (some ⟨g, 0, none⟩) (k + 2) xc ∧ w.heap.size + 1 ≤ g ∧ w'.cell? ⟨g, p * 2, none⟩ = some (.slice p1 p2 p3) ∧ w'.cell? ⟨g, p * 2 + 1, none⟩ = some (.slice p4 p5 p6) ∧ w'.cell? ⟨g, q * 2, none⟩ = some (.slice q1 q2 q3) ∧ w'.cell? ⟨g, q * 2 + 1, none⟩ = some (.slice q4 q5 q6) := by
              intro w' h'
              rcases h'.2 with ⟨_, h0⟩ | ⟨g, cap, cur, hu, hb, hg, _, _, hs, ht⟩
              · omega
              · refine ⟨g, cap, hu, hb, ?_, ?_, ?_, ?_⟩
                · rw [← ht, List.getElem?_take, if_pos (by omega)] at f1a
                  simp only [World.cell?, hg]; simpa using f1a
                · rw [← ht, List.getElem?_take, if_pos (by omega)] at f1b
                  simp only [World.cell?, hg]; simpa using f1b
                · rw [← ht, List.getElem?_take, if_pos (by omega)] at f2a
                  simp only [World.cell?, hg]; simpa using f2a
                · rw [← ht, List.getElem?_take, if_pos (by omega)] at f2b
                  simp only [World.cell?, hg]; simpa using f2b
            obtain ⟨g, xc, rfl, hgb, z0, z1, z2, z3⟩ := cells _ hrow
            have hgl := (hrow.lt g rfl).2
            obtain ⟨V1, is1⟩ := is1
            obtain ⟨V2, is2⟩ := is2
            have HI1 := Lib.hid is1
            have HI2 := Lib.hid is2
            have HR := Lib.hid hrow
            have HNx := Lib.hid hnx
            have HCe := Lib.hid cells
            have HIS := Lib.hid his
            have HVL := Lib.hid hvl
            have HEV := Lib.hid hevl
            clear is1 is2 hrow hnx cells his hvl hevl eq1 eq2 ev1 ev2 pe qe f1a f1b f2a f2b htl1 hth1
            have hgw : g ≠ wr.heap.size := by
              have := HP.out
              obtain ⟨vs', hr', _⟩ := this
              have := (hr'.lt g rfl).2
              omega
            have hsk : ∀ w' : World, Kept (fun b => b = g) wc w' → w'.ownsRow (w.heap.size + 1) 37 2 (.slice (some ⟨g, 0, none⟩) (k + 2) xc) (k + 2) (flat2 vs) →
                w'.cell? ⟨wr.heap.size, 0, none⟩ = some (.int .i64 i) ∧ w'.cell? ⟨wr.heap.size, 1, none⟩ = some (.int .i64 p) ∧ w'.cell? ⟨wr.heap.size, 2, none⟩ = some (.int .i64 q) ∧ w'.cell? ⟨g, p * 2, none⟩ = some (.slice p1 p2 p3) ∧ w'.cell? ⟨g, p * 2 + 1, none⟩ = some (.slice p4 p5 p6) ∧ w'.cell? ⟨g, q * 2, none⟩ = some (.slice q1 q2 q3) ∧ w'.cell? ⟨g, q * 2 + 1, none⟩ = some (.slice q4 q5 q6) := by
              intro w' hk' hr'
              obtain ⟨g', xc', e, -, y0, y1, y2, y3⟩ := HCe.out _ hr'
              cases e
              exact ⟨hk'.cell d0 (fun e => hgw e.symm), hk'.cell d1 (fun e => hgw e.symm), hk'.cell d2 (fun e => hgw e.symm), y0, y1, y2, y3⟩
            have HSK := Lib.hid hsk
            clear hsk
            have hi24 : i < 24 := by omega
            have hi64 : (i : Int) < 64 := by omega
            have hp2 : (p : Int) < (k : Int) + 2 := by omega
            have hq2 : (q : Int) < (k : Int) + 2 := by omega
            have hshl := shl_form hi24
            have HSH := Lib.hid hshl
            clear hshl
            have hszc := HW.out.size'
            go_wp2_with fail
            go_region_held3 (fun w' => w'.cell? ⟨wr.heap.size, 0, none⟩ = some (.int .i64 i) ∧ w'.cell? ⟨wr.heap.size, 1, none⟩ = some (.int .i64 p) ∧ w'.cell? ⟨wr.heap.size, 2, none⟩ = some (.int .i64 q) ∧ w'.cell? ⟨g, p * 2, none⟩ = some (.slice p1 p2 p3) ∧ w'.cell? ⟨g, p * 2 + 1, none⟩ = some (.slice p4 p5 p6) ∧ w'.cell? ⟨g, q * 2, none⟩ = some (.slice q1 q2 q3) ∧ w'.cell? ⟨g, q * 2 + 1, none⟩ = some (.slice q4 q5 q6))
              (first
                | exact HSK.out _ HG6.out HO6.out
                | exact HSK.out _ (HN5.out.alloc _).kept (owns_kept HR.out (HN5.out.alloc _).kept (fun _ _ x => x))
                | exact HSK.out _ HN5.out.kept (owns_kept HR.out HN5.out.kept (fun _ _ x => x))
                | exact HSK.out _ HN4.out.kept (owns_kept HR.out HN4.out.kept (fun _ _ x => x))
                | exact HSK.out _ (Near.refl _).drew.kept (owns_kept HR.out (Near.refl _).drew.kept (fun _ _ x => x)))
              (first
                | (go_at_call 82; rw [HSH.out]; refine (cube_one hi24).mono ?_; rintro e w4 ⟨v4, rfl, s4, b4⟩; have S4 := Lib.hid s4; have HN4 := Lib.hid ((Near.refl wc).drew.trans (Near.of_below b4)); obtain ⟨t1, t2, t3, t4, t5, t6, rfl⟩ := s4.form; clear s4 b4)
                | (go_at_call 81; refine (rite_calls S4.out (HI2.out.near HN4.out) (HI1.out.near HN4.out)).mono ?_; rintro e w5 ⟨v5, rfl, s5, b5⟩; have S5 := Lib.hid s5; have HN5 := Lib.hid (HN4.out.trans (Near.of_below b5)); obtain ⟨r1, r2, r3, r4, r5, r6, rfl⟩ := s5.form; clear s5 b5)
                | (refine step_append_keep rfl (.tmp 92) (.tmp 109) 46 rfl (w.heap.size + 1) 37 i0 (.agg #[.slice none 0 0, .slice none 0 0]) 2 48 Try.underlying46 hi0 hz0 hz1 hz2 rfl (by decide) _ _ _ rfl (owns_kept HR.out (HN5.out.alloc _).kept (fun _ _ x => x)) ⟨w5.heap.size, 0, none⟩ 1 1 [.slice r1 r2 r3, .slice r4 r5 r6] rfl rfl (cell_two_at rfl _ _ _) (by simp [Value.oneCell']) (by unfold maxLen; omega) (by omega) (by have := HN5.out.size'; simp; omega) ?_; intro ao' cap' w6 hown6 hg6 hl6 hold6; have HO6 := Lib.hid hold6; have HG6 := Lib.hid ((HN5.out.kept.alloc _).grown hg6 (S := fun b => b = g) (fun b hb _ => by cases hb; rfl)); have HOw6 := Lib.hid hown6; have HGr6 := Lib.hid hg6; clear hown6 hg6 hl6 hold6))
            have O56 : OnlyOf 37 w5 w6 := only_grown (owns_kept HR.out HN5.out.kept (fun _ _ x => x)) HGr6.out
            have hpush : Sets 37 IsG (w.heap.size + 1) w6 (.slice ao' (k + 2 + 1) cap') (evs (trTo l (k + 1))) := by
              have e : evs (trTo l (k + 1)) = evs (trTo l k) ++ [(T.mk i tl th).ev] := by rw [HNx.out]; simp [evs]
              rw [e]
              refine Sets.push (w := w5) HVL.out (fun j f p hj hp => (HIS.out j f p hj hp).near HN5.out) (f := (T.mk i tl th).ev) ⟨_, S5.out.congr fun c => (mk_ev c i tl th).symm⟩ (fun v f h => h.only O56 (by decide) (by decide)) ?_
              rw [HEV.out]
              exact HOw6.out
            have HPu := Lib.hid hpush
            have HK := Lib.hid (HW.out.kept.trans HG6.out)
            clear O56 hpush
            go_wp2_with fail
            refine ⟨⟨k + 1, hlt, by go_num, fun j hj => ?_, HPu.out, ?_, ?_, ?_⟩, by simp [intOf]; omega⟩
            · by_cases h : j < k
              · exact HF.out j h
              · rw [show j = k from by omega]
                exact HFk.out
            · exact Kept.mono (HN.out.kept.trans HK.out) (fun b hb h => by omega)
            · exact (HK.out.block _ (by omega) (by omega)).trans HRes.out
            · have := HK.out.size
              omega
          · have hnf : ¬ Fine l k := by
              rintro ⟨x, hx, _, _, p2, p3⟩
              rw [HX.out] at hx
              cases hx
              exact hgood ⟨p2, p3⟩
            have HNF := Lib.hid hnf
            have hbf : bb = false := by
              cases h : bb
              · rfl
              · exact (hgood (HBB.out.1 h)).elim
            rw [hbf]
            clear hbf hgood hnf
            go_wp2_with (first
              | (go_at_call 80; refine (const_calls false _).mono ?_; rintro e w3 ⟨v3, rfl, s3, b3⟩; have S3 := Lib.hid s3; have B3 := Lib.hid b3; have q0 := cell1 (o := 0) (keepE b3 (keepN HN2.out HA.out)) rfl; have q1 := cell1 (o := 1) (keepE b3 (keepN HN2.out HA.out)) rfl; have f0 := free1 (keepE b3 (keepN HN2.out HA.out)) 0; have f1 := free1 (keepE b3 (keepN HN2.out HA.out)) 1; obtain ⟨t1, t2, t3, t4, t5, t6, rfl⟩ := s3.form; clear s3 b3))
            exact bodyPost_ret (v := .tuple #[.agg #[.slice t1 t2 t3, .slice t4 t5 t6], .int .i64 4]) (by simp [results, Try.results20, go_sem, q0, q1]) rfl (HB.out HNF.out _ HN2.out _ _ S3.out (Near.of_below B3.out) _ _ _ _ _ _ rfl)
      · have hnf : ¬ Fine l k := by
          rintro ⟨x, hx, p0, p1, ⟨p2, p3, -⟩, ⟨p4, p5, -⟩⟩
          rw [HX.out] at hx
          cases hx
          simp only at p0 p1 p2 p3 p4 p5
          exact h8 ⟨by omega, by omega, by omega, by omega, by omega, by omega⟩
        have HNF := Lib.hid hnf
        have h8' : dv < 0 ∨ 0 ≤ dv ∧ (23 < dv ∨ dv ≤ 23 ∧ (dl < 0 ∨ 0 ≤ dl ∧ ((k : Int) + 1 < dl ∨ dl ≤ (k : Int) + 1 ∧ (dh < 0 ∨ 0 ≤ dh ∧ (k : Int) + 1 < dh)))) := by omega
        clear hnf h8
        rcases h8' with h | ⟨g0, h | ⟨g1, h | ⟨g2, h | ⟨g3, h | ⟨g4, h⟩⟩⟩⟩⟩
        all_goals
          go_wp2_with (first
            | (go_at_call 80; refine (const_calls false _).mono ?_; rintro e w3 ⟨v3, rfl, s3, b3⟩; have S3 := Lib.hid s3; have B3 := Lib.hid b3; have q0 := cell1 (o := 0) (keepE b3 HA.out) rfl; have q1 := cell1 (o := 1) (keepE b3 HA.out) rfl; have f0 := free1 (keepE b3 HA.out) 0; have f1 := free1 (keepE b3 HA.out) 1; obtain ⟨t1, t2, t3, t4, t5, t6, rfl⟩ := s3.form; clear s3 b3))
          exact bodyPost_ret (v := .tuple #[.agg #[.slice t1 t2 t3, .slice t4 t5 t6], .int .i64 4]) (by simp [results, Try.results20, go_sem, q0, q1]) rfl (HB.out HNF.out _ (Near.refl _) _ _ S3.out (Near.of_below B3.out) _ _ _ _ _ _ rfl)
    · have hkl : k = l.length := by omega
      subst hkl
      obtain ⟨xo, xc, rfl⟩ := HP.out.form
      have hevl : (evs (trTo l l.length)).length = l.length + 2 := by unfold evs; rw [List.length_map]; exact htl
      have hnl : ¬ ((l.length : Int) < (l.length : Int)) := by omega
      have fin : ∀ w3 v3, IsS w3 v3 [] (fun _ => false) → Near wr w3 → (root < 0 ∨ (l.length : Int) + 2 ≤ root) → ∀ a b c d e f, v3 = .agg #[.slice a b c, .slice d e f] → ROfPost l root w (.returned (.tuple #[.agg #[.slice a b c, .slice d e f], .int .i64 3])) ((w3.setCell ⟨w.heap.size, 0, none⟩ (.slice a b c)).setCell ⟨w.heap.size, 1, none⟩ (.slice d e f)) := by
        rintro w3 v3 s3 n3 hroot a b c d e f rfl
        refine ⟨_, _, _, rfl, ((HN.out.trans n3).set (by show w.heap.size ≤ w.heap.size; omega) _).set (by show w.heap.size ≤ w.heap.size; omega) _, ⟨[], (isS_store s3 (keepN n3 HRes.out)).congr fun c => ?_⟩, .inr (.inl ⟨HF.out, hroot, rfl, rfl⟩)⟩
        rfl
      have FIN := Lib.hid fin
      clear fin
      by_cases hr0 : root < 0 ∨ (l.length : Int) + 2 ≤ root
      · rcases hr0 with hr0 | hr0
        all_goals
          rw [hevl]
          first
            | have hr1 : ¬ root < 0 := by omega
            | skip
          go_wp2_with (first
            | (go_at_call 80; refine (const_calls false _).mono ?_; rintro e w3 ⟨v3, rfl, s3, b3⟩; have S3 := Lib.hid s3; have B3 := Lib.hid b3; have q0 := cell1 (o := 0) (keepE b3 HRes.out) rfl; have q1 := cell1 (o := 1) (keepE b3 HRes.out) rfl; have f0 := free1 (keepE b3 HRes.out) 0; have f1 := free1 (keepE b3 HRes.out) 1; obtain ⟨t1, t2, t3, t4, t5, t6, rfl⟩ := s3.form; clear s3 b3))
          exact bodyPost_ret (v := .tuple #[.agg #[.slice t1 t2 t3, .slice t4 t5 t6], .int .i64 3]) (by simp [results, Try.results20, go_sem, q0, q1]) rfl (FIN.out _ _ S3.out (Near.of_below B3.out) (by first | exact .inl hr0 | exact .inr hr0) _ _ _ _ _ _ rfl)
      · obtain ⟨r, rfl⟩ : ∃ r : Nat, root = r := ⟨root.toNat, by omega⟩
        have htr : (trTo l l.length)[r]? = some ((trTo l l.length)[r]'(by omega)) := List.getElem?_eq_getElem (by omega)
        obtain ⟨t, ht⟩ : ∃ t, t = (trTo l l.length)[r]'(by omega) := ⟨_, rfl⟩
        rw [← ht] at htr
        obtain ⟨g, xc', u, v, he, -, -, z0, z1, hi⟩ := HP.out.get (j := r) (f := t.ev) (by unfold evs; rw [List.getElem?_map, htr]; rfl)
        obtain ⟨t1, t2, t3, t4, t5, t6, hte⟩ := hi.form
        simp only [Value.agg.injEq, Array.mk.injEq, List.cons.injEq, and_true] at hte
        obtain ⟨rfl, rfl⟩ := hte
        simp only [Value.slice.injEq, true_and] at he
        obtain ⟨rfl, rfl⟩ := he
        have hr1 : (r : Int) < (l.length : Int) + 2 := by omega
        have hr2 : ¬ ((l.length : Int) + 1 < (r : Int)) := by omega
        have HI := Lib.hid hi
        have HTR := Lib.hid htr
        have f0 := free1 HRes.out 0
        have f1 := free1 HRes.out 1
        have q0 := cell1 (o := 0) HRes.out rfl
        have q1 := cell1 (o := 1) HRes.out rfl
        rw [hevl]
        clear hi htr ht htl hevl hr0
        go_wp2_with fail
        obtain ⟨V, hs⟩ := HI.out
        exact bodyPost_ret (v := .tuple #[.agg #[.slice t1 t2 t3, .slice t4 t5 t6], .int .i64 0]) (by simp [results, Try.results20, go_sem, q0, q1]) rfl ⟨_, _, t, rfl, (HN.out.set (by show w.heap.size ≤ w.heap.size; omega) _).set (by show w.heap.size ≤ w.heap.size; omega) _, ⟨V, isS_store hs HRes.out⟩, .inr (.inr ⟨HF.out, by omega, by omega, rfl, HTR.out⟩)⟩

end Go.Proofs.Ytefclohjeompkaa
