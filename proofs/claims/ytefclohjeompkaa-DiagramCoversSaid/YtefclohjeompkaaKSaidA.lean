/- Parts of a proof: OfD, LawOf, FNodes, AddA, AddB, AlgA, FixA, RefW, RefX, RefY, SaidA. -/
import Derived.WalkSpells
import Derived.Laws.BitsAllLaws
import Derived.Test.YtefclohjeompkaaKRefP
import Derived.Test.YtefclohjeompkaaKLinF
import Derived.Test.YtefclohjeompkaaKFAsk
import Derived.Test.YtefclohjeompkaaKOpenA
import Derived.Test.YtefclohjeompkaaKRefJ
import Derived.Test.YtefclohjeompkaaKRefV
import Derived.Test.YtefclohjeompkaaKOfB
/- The reference's Of. -/
namespace Go.Proofs.Ytefclohjeompkaa
open Go Go.RowKit Go.Proofs.Gen Go.Proofs.Bdd Go.Proofs.Bdd.T

theorem IsS.congr {w : World} {v : Value} {V : List Nat} {f g : F} (h : IsS w v V f) (e : ∀ c, f c = g c) : IsS w v V g := by
  obtain ⟨T, hT, hf⟩ := h
  exact ⟨T, hT, fun c => (hf c).trans (e c)⟩

theorem info37 : (Try.prog.info? 37).map (fun i => (i.zero, i.size, i.bytes)) = some (some (.agg #[.slice none 0 0, .slice none 0 0]), 2, 48) := by kernel_rfl

/-- One bit, as a region that draws spells it. -/
theorem shl_form {i : Nat} (hi : i < 24) : IntKind.u32.wrap (2 ^ min (IntKind.u64.wrap (i : Int)).toNat 32) = ((2 ^ i : Nat) : Int) := by
  have hp : (2 : Nat) ^ i < 2 ^ 24 := Nat.pow_lt_pow_right (by omega) hi
  have e : (2 : Nat) ^ 24 = 16777216 := by decide
  rw [u64_in _ (by omega) (by omega), Int.toNat_natCast, Nat.min_eq_left (by omega), show ((2 : Int) ^ i) = ((2 ^ i : Nat) : Int) from by simp]
  rw [e] at hp
  generalize (2 : Nat) ^ i = z at *
  rw [wraps_u32 _ (by omega) (by omega)]

/-- The functions of the trees. -/
def evs (ts : List T) : List F := ts.map fun t => t.ev

def ROfPost (l : List Dec) (root : Int) (w : World) (e : Ending) (w' : World) : Prop :=
  ∃ v n t, e = .returned (.tuple #[v, .int .i64 n]) ∧ Near w w' ∧ IsG w' v t.ev ∧ OfSays l root n t

set_option maxRecDepth 100000 in
set_option maxHeartbeats 6400000 in
theorem rof_calls {w : World} {v : Value} {l : List Dec} {root : Int} (h : RdDec w v l) (hl : l.length ≤ 65536) :
    Calls Try.prog 20 #[v, .int .i64 root] w (ROfPost l root w) := by
  obtain ⟨i0, hi0, hz0, hz1, hz2⟩ := info_parts info37
  have HL := Lib.hid h
  obtain ⟨ao, cap, rfl, hc⟩ := h
  have HC := Lib.hid hc
  clear hc
  have hl' : ¬ (65536 : Int) < (l.length : Int) := by omega
  go_enter Try.func20, Try.ntmps20
  go_wp2_with (first
    | (go_at_call_of 80 (Value.bool false); refine (const_calls false _).mono ?_; rintro e w1 ⟨v1, rfl, s1, b1⟩; have S1 := Lib.hid s1; have B1 := Lib.hid b1; obtain ⟨a1, a2, a3, a4, a5, a6, rfl⟩ := s1.form; clear s1 b1)
    | (go_at_call_of 80 (Value.bool true); refine (const_calls true _).mono ?_; rintro e w2 ⟨v2, rfl, s2, b2⟩; have S2 := Lib.hid s2; have B2 := Lib.hid b2; obtain ⟨c1, c2, c3, c4, c5, c6, rfl⟩ := s2.form; clear s2 b2))
  have hW : ∀ W, W = w2.alloc (Obj.cells #[Value.slice a1 a2 a3, Value.slice a4 a5 a6, Value.slice c1 c2 c3, Value.slice c4 c5 c6] 37) →
      Near w W ∧ W.heap[w.heap.size]? = some (.cells #[.slice none 0 0, .slice none 0 0] 37 (0, 0)) ∧ Sets 37 IsG (w.heap.size + 1) W (Value.slice (some ⟨w2.heap.size, 0, none⟩) 2 2) (evs (trTo l 0)) ∧ w.heap.size + 1 ≤ W.heap.size := by
    rintro W rfl
    have m1 : w.heap.size + 1 ≤ w1.heap.size := by
      have := B1.out.size
      simpa using this
    have m2 := B2.out.size
    have z1 : Near (w.alloc (Obj.cells #[Value.slice none 0 0, Value.slice none 0 0] 37)) w2 := (Near.of_below B1.out).trans (Near.of_below B2.out)
    refine ⟨(((Near.refl w).alloc _).trans z1).alloc _, (heap_old_at (by omega)).trans (keepN z1 (heap_new_at rfl)), ⟨[(Value.slice a1 a2 a3, Value.slice a4 a5 a6), (Value.slice c1 c2 c3, Value.slice c4 c5 c6)], ?_, rfl, ?_⟩, by simp; omega⟩
    · exact ⟨rfl, .inr ⟨w2.heap.size, 2, _, rfl, by omega, heap_new_at rfl, Nat.le_refl _, by unfold maxLen; omega, rfl, rfl⟩⟩
    · intro j f p hj hp
      match j, hj, hp with
      | 0, hj, hp =>
        cases hj
        cases hp
        exact ⟨[], (S1.out.near ((Near.of_below B2.out).alloc _)).congr fun c => rfl⟩
      | 1, hj, hp =>
        cases hj
        cases hp
        exact ⟨[], (S2.out.near ((Near.refl _).alloc _)).congr fun c => rfl⟩
  have hW' := hW _ rfl
  generalize w2.alloc (Obj.cells #[Value.slice a1 a2 a3, Value.slice a4 a5 a6, Value.slice c1 c2 c3, Value.slice c4 c5 c6] 37) = W at hW' ⊢
  clear hW
  obtain ⟨n0, r0, p0, s0⟩ := hW'
  have HN0 := Lib.hid n0
  have HR0 := Lib.hid r0
  have HP0 := Lib.hid p0
  clear n0 r0 p0
  go_loopw [6, 7] (fun x i wr => ∃ k, k ≤ l.length ∧ i = .int .i64 (k : Nat) ∧ (∀ j, j < k → Fine l j) ∧ Sets 37 IsG (w.heap.size + 1) wr x (evs (trTo l k)) ∧ Near w wr ∧ wr.heap[w.heap.size]? = some (.cells #[.slice none 0 0, .slice none 0 0] 37 (0, 0)) ∧ w.heap.size + 1 ≤ wr.heap.size) (fun _ i _ => l.length - (intOf i).toNat)
  case atStart => exact ⟨0, Nat.zero_le _, rfl, fun j hj => absurd hj (Nat.not_lt_zero _), HP0.out, HN0.out, HR0.out, s0⟩
  case round =>
    clear HN0 HR0 HP0 s0
    obtain ⟨k, hk, rfl, hfin, hpl, hn, hres, hs⟩ := hrel
    have HF := Lib.hid hfin
    have HP := Lib.hid hpl
    have HN := Lib.hid hn
    have HRes := Lib.hid hres
    clear hfin hpl hn hres
    have htl := trTo_len l k
    by_cases hlt : k < l.length
    · have hlt' : (k : Int) < l.length := by omega
      have hx : l[k]? = some l[k] := List.getElem?_eq_getElem hlt
      obtain ⟨b, off, rfl, x0, x1, x2⟩ := HC.out k _ hx
      have y0 := HN.out.cell x0
      have y1 := HN.out.cell x1
      have y2 := HN.out.cell x2
      obtain ⟨d, hd⟩ : ∃ d, d = l[k] := ⟨_, rfl⟩
      rw [← hd] at hx y0 y1 y2
      have HX := Lib.hid hx
      clear x0 x1 x2 hx hd
      obtain ⟨dv, dl, dh⟩ := d
      simp only at y0 y1 y2
      have HTL := Lib.hid htl
      clear htl
      have HA := Lib.hid (keepN ((Near.refl wr).alloc (.cells #[.int .i64 dv, .int .i64 dl, .int .i64 dh] 26)) HRes.out)
      have HNA := Lib.hid (HN.out.alloc (.cells #[.int .i64 dv, .int .i64 dl, .int .i64 dh] 26))
      go_upto_region 8 with fail
      have e0 : (wr.alloc (Obj.cells #[Value.int IntKind.i64 dv, Value.int IntKind.i64 dl, Value.int IntKind.i64 dh] 26)).cell? ⟨wr.heap.size, 0, none⟩ = some (.int .i64 dv) := by simp
      have e1 : (wr.alloc (Obj.cells #[Value.int IntKind.i64 dv, Value.int IntKind.i64 dl, Value.int IntKind.i64 dh] 26)).cell? ⟨wr.heap.size, 1, none⟩ = some (.int .i64 dl) := by simp
      have e2 : (wr.alloc (Obj.cells #[Value.int IntKind.i64 dv, Value.int IntKind.i64 dl, Value.int IntKind.i64 dh] 26)).cell? ⟨wr.heap.size, 2, none⟩ = some (.int .i64 dh) := by simp
      have N1 : Near wr (wr.alloc (Obj.cells #[Value.int IntKind.i64 dv, Value.int IntKind.i64 dl, Value.int IntKind.i64 dh] 26)) := (Near.refl wr).alloc _
      have hs1 : wr.heap.size < (wr.alloc (Obj.cells #[Value.int IntKind.i64 dv, Value.int IntKind.i64 dl, Value.int IntKind.i64 dh] 26)).heap.size := by simp
      generalize (wr.alloc (Obj.cells #[Value.int IntKind.i64 dv, Value.int IntKind.i64 dl, Value.int IntKind.i64 dh] 26)) = W1 at HA HNA e0 e1 e2 N1 hs1 ⊢
      clear y0 y1 y2
      have HN1 := Lib.hid N1
      clear N1
      have bad : ¬ Fine l k → ∀ wz, Near W1 wz → ∀ w3 v3, IsS w3 v3 [] (fun _ => false) → Near wz w3 → ∀ a b c d e f, v3 = .agg #[.slice a b c, .slice d e f] → ROfPost l root w (.returned (.tuple #[.agg #[.slice a b c, .slice d e f], .int .i64 4])) ((w3.setCell ⟨w.heap.size, 0, none⟩ (.slice a b c)).setCell ⟨w.heap.size, 1, none⟩ (.slice d e f)) := by
        rintro hnf wz nz w3 v3 s3 n3 a b c d e f rfl
        refine ⟨_, _, _, rfl, (((HNA.out.trans nz).trans n3).set (by show w.heap.size ≤ w.heap.size; omega) _).set (by show w.heap.size ≤ w.heap.size; omega) _, ⟨[], (isS_store s3 (keepN (nz.trans n3) HA.out)).congr fun c => ?_⟩, .inl ⟨⟨k, hlt, hnf⟩, rfl, rfl⟩⟩
        rfl
      have HB := Lib.hid bad
      clear bad
      by_cases h8 : 0 ≤ dv ∧ dv ≤ 23 ∧ 0 ≤ dl ∧ dl ≤ (k : Int) + 1 ∧ 0 ≤ dh ∧ dh ≤ (k : Int) + 1
      · obtain ⟨g0, g1, g2, g3, g4, g5⟩ := h8
        have cell : ∀ r : Int, 0 ≤ r → r ≤ (k : Int) + 1 → (BelowOk l k r ∧ r < 2) ∨ (∃ (j : Nat) (a : Int), r = j + 2 ∧ j < k ∧ W1.cell? ⟨b, off + j * 3, none⟩ = some (.int .i64 a) ∧ ((BelowOk l k r ∧ dv < a) ∨ (¬ BelowOk l k r ∧ a ≤ dv))) := by
          intro r hr0 hr
          by_cases h2 : r < 2
          · exact .inl ⟨⟨by omega, by omega, .inl (by omega)⟩, h2⟩
          · refine .inr ⟨(r - 2).toNat, (l[(r - 2).toNat]'(by omega)).v, by omega, by omega, ?_, ?_⟩
            · obtain ⟨b', off', he, x0, -, -⟩ := HC.out (r - 2).toNat _ (List.getElem?_eq_getElem (by omega))
              cases he
              exact HN1.out.cell (HN.out.cell x0)
            · have hq : l[(r - 2).toNat]? = some (l[(r - 2).toNat]'(by omega)) := List.getElem?_eq_getElem (by omega)
              by_cases h : dv < (l[(r - 2).toNat]'(by omega)).v
              · refine .inl ⟨⟨by omega, by omega, .inr fun x y hx hy => ?_⟩, h⟩
                rw [hq] at hx
                rw [HX.out] at hy
                cases hx
                cases hy
                exact h
              · refine .inr ⟨fun hb => ?_, by omega⟩
                rcases hb.2.2 with h' | h'
                · omega
                · exact h (h' _ _ hq HX.out)
        have CP := cell dl g2 g3
        have CQ := cell dh g4 g5
        clear cell
        obtain ⟨bb, hbb⟩ : ∃ bb : Bool, bb = true ↔ BelowOk l k dl ∧ BelowOk l k dh := by
          by_cases h : BelowOk l k dl ∧ BelowOk l k dh
          · exact ⟨true, by simp [h]⟩
          · exact ⟨false, by simp [h]⟩
        have HBB := Lib.hid hbb
        clear hbb
        go_upto_region 10 with fail
        go_cut [90] (fun s90 wx => s90 = .bool (!bb) ∧ Near W1 wx)
        case first =>
          have t1 : BelowOk l k dl → BelowOk l k dh → (!bb) = false := fun x y => by rw [HBB.out.2 ⟨x, y⟩]; rfl
          have t2 : ¬ BelowOk l k dl → (!bb) = true := fun x => by
            cases h : bb
            · rfl
            · exact (x (HBB.out.1 h).1).elim
          have t3 : BelowOk l k dl → ∀ a', (BelowOk l k dh ∧ dv < a' ∨ ¬BelowOk l k dh ∧ a' ≤ dv) → (!bb) = decide (a' ≤ dv) := fun x a' h => by
            rcases h with ⟨h1, h2⟩ | ⟨h1, h2⟩
            · rw [HBB.out.2 ⟨x, h1⟩]
              simp; omega
            · have : bb = false := by
                cases h : bb
                · rfl
                · exact (h1 (HBB.out.1 h).2).elim
              rw [this]
              simp; omega
          have T1 := Lib.hid t1
          have T2 := Lib.hid t2
          have T3 := Lib.hid t3
          clear t1 t2 t3 HB HF HP HC HL HTL HA HNA HN HRes
          rcases CP with ⟨bp, cp⟩ | ⟨j, a, rfl, jk, cp, ⟨bp, ap⟩ | ⟨bp, ap⟩⟩
          · rcases CQ with ⟨bq, cq⟩ | ⟨j', a', rfl, jk', cq, hq⟩
            · have BP := Lib.hid bp
              have BQ := Lib.hid bq
              clear bp bq
              have dp : decide (1 < dl) = false := by simp; omega
              have dq : decide (1 < dh) = false := by simp; omega
              go_quiet (fail)
              go_wp2_with fail
              go_meet
              exact ⟨by rw [T1.out BP.out BQ.out], (Near.refl _).drewN _⟩
            · have HQ := Lib.hid hq
              have BP := Lib.hid bp
              clear bp hq
              have dp : decide (1 < dl) = false := by simp; omega
              have dq : decide (1 < (j' : Int) + 2) = true := by simp; omega
              have jl : (j' : Int) < l.length := by omega
              go_quiet (fail)
              go_wp2_with fail
              go_meet
              exact ⟨by rw [T3.out BP.out _ HQ.out], (Near.refl _).drewN _⟩
          · have dp : decide (1 < (j : Int) + 2) = true := by simp; omega
            have da : decide (a ≤ dv) = false := by simp; omega
            have jlp : (j : Int) < l.length := by omega
            rcases CQ with ⟨bq, cq⟩ | ⟨j', a', rfl, jk', cq, hq⟩
            · have BP := Lib.hid bp
              have BQ := Lib.hid bq
              clear bp bq
              have dq : decide (1 < dh) = false := by simp; omega
              go_quiet (fail)
              go_wp2_with fail
              go_meet
              exact ⟨by rw [T1.out BP.out BQ.out], (Near.refl _).drewN _⟩
            · have HQ := Lib.hid hq
              have BP := Lib.hid bp
              clear bp hq
              have dq : decide (1 < (j' : Int) + 2) = true := by simp; omega
              have jl : (j' : Int) < l.length := by omega
              go_quiet (fail)
              go_wp2_with fail
              go_meet
              exact ⟨by rw [T3.out BP.out _ HQ.out], (Near.refl _).drewN _⟩
          · have dp : decide (1 < (j : Int) + 2) = true := by simp; omega
            have da : decide (a ≤ dv) = true := by simp; omega
            have jlp : (j : Int) < l.length := by omega
            have BP := Lib.hid bp
            clear bp CQ
            go_quiet (fail)
            go_wp2_with fail
            go_meet
            exact ⟨by rw [T2.out BP.out], (Near.refl _).drewN _⟩
        case rest =>
          obtain ⟨rfl, hn1⟩ := hcut
          have HN2 := Lib.hid hn1
          have d0 := hn1.cell e0
          have d1 := hn1.cell e1
          have d2 := hn1.cell e2
          clear hn1 e0 e1 e2 CP CQ
          by_cases hgood : BelowOk l k dl ∧ BelowOk l k dh
          · rw [HBB.out.2 hgood]
            have HFk : Hid (Fine l k) := Lib.hid ⟨_, HX.out, g0, by show dv < 24; omega, hgood.1, hgood.2⟩
            obtain ⟨tl, htl1, otl, vtl⟩ := tr_kid HF.out hgood.1 HX.out (show dv < 24 by omega)
            obtain ⟨th, hth1, oth, vth⟩ := tr_kid HF.out hgood.2 HX.out (show dv < 24 by omega)
            have hnx := trTo_next HX.out htl1 hth1
            clear hgood
            obtain ⟨i, rfl⟩ : ∃ i : Nat, dv = i := ⟨dv.toNat, by omega⟩
            obtain ⟨p, rfl⟩ : ∃ p : Nat, dl = p := ⟨dl.toNat, by omega⟩
            obtain ⟨q, rfl⟩ : ∃ q : Nat, dh = q := ⟨dh.toNat, by omega⟩
            simp only [Int.toNat_natCast] at htl1 hth1 hnx vtl vth
            have HW := Lib.hid (HN1.out.trans HN2.out)
            obtain ⟨vs, hrow, hvl, his⟩ := HP.out.map HW.out (fun _ _ h => h.near HW.out)
            have hevl : (evs (trTo l k)).length = k + 2 := by unfold evs; rw [List.length_map]; exact HTL.out
            have eq1 : (evs (trTo l k))[p]? = some tl.ev := by unfold evs; rw [List.getElem?_map, htl1]; rfl
            have eq2 : (evs (trTo l k))[q]? = some th.ev := by unfold evs; rw [List.getElem?_map, hth1]; rfl
            have ev1 : vs[p]? = some (vs[p]'(by omega)) := List.getElem?_eq_getElem (by omega)
            have ev2 : vs[q]? = some (vs[q]'(by omega)) := List.getElem?_eq_getElem (by omega)
            have is1 := his _ _ _ eq1 ev1
            have is2 := his _ _ _ eq2 ev2
            obtain ⟨p1, p2, p3, p4, p5, p6, pe⟩ := is1.form
            obtain ⟨q1, q2, q3, q4, q5, q6, qe⟩ := is2.form
            simp only [Value.agg.injEq, Array.mk.injEq, List.cons.injEq, and_true] at pe qe
            rw [pe.1, pe.2] at is1
            rw [qe.1, qe.2] at is2
            obtain ⟨f1a, f1b⟩ := flat2_at ev1
            obtain ⟨f2a, f2b⟩ := flat2_at ev2
            rw [pe.1] at f1a
            rw [pe.2] at f1b
            rw [qe.1] at f2a
            rw [qe.2] at f2b
            rw [hevl] at hrow
            have cells : ∀ w' : World, w'.ownsRow (w.heap.size + 1) 37 2 u6 (k + 2) (flat2 vs) → ∃ g xc, u6 = .slice (some ⟨g, 0, none⟩) (k + 2) xc ∧ w.heap.size + 1 ≤ g ∧ w'.cell? ⟨g, p * 2, none⟩ = some (.slice p1 p2 p3) ∧ w'.cell? ⟨g, p * 2 + 1, none⟩ = some (.slice p4 p5 p6) ∧ w'.cell? ⟨g, q * 2, none⟩ = some (.slice q1 q2 q3) ∧ w'.cell? ⟨g, q * 2 + 1, none⟩ = some (.slice q4 q5 q6) := by
              intro w' h'
              rcases h'.2 with ⟨_, h0⟩ | ⟨g, cap, cur, hu, hb, hg, _, _, hs, ht⟩
              · omega
              · refine ⟨g, cap, hu, hb, ?_, ?_, ?_, ?_⟩
                · rw [← ht, List.getElem?_take, if_pos (by omega)] at f1a
                  simp only [World.cell?, hg]; simpa using f1a
                · rw [← ht, List.getElem?_take, if_pos (by omega)] at f1b
                  simp only [World.cell?, hg]; simpa using f1b
                · rw [← ht, List.getElem?_take, if_pos (by omega)] at f2a
                  simp only [World.cell?, hg]; simpa using f2a
                · rw [← ht, List.getElem?_take, if_pos (by omega)] at f2b
                  simp only [World.cell?, hg]; simpa using f2b
            obtain ⟨g, xc, rfl, hgb, z0, z1, z2, z3⟩ := cells _ hrow
            have hgl := (hrow.lt g rfl).2
            obtain ⟨V1, is1⟩ := is1
            obtain ⟨V2, is2⟩ := is2
            have HI1 := Lib.hid is1
            have HI2 := Lib.hid is2
            have HR := Lib.hid hrow
            have HNx := Lib.hid hnx
            have HCe := Lib.hid cells
            have HIS := Lib.hid his
            have HVL := Lib.hid hvl
            have HEV := Lib.hid hevl
            clear is1 is2 hrow hnx cells his hvl hevl eq1 eq2 ev1 ev2 pe qe f1a f1b f2a f2b htl1 hth1
            have hgw : g ≠ wr.heap.size := by
              have := HP.out
              obtain ⟨vs', hr', _⟩ := this
              have := (hr'.lt g rfl).2
              omega
            have hsk : ∀ w' : World, Kept (fun b => b = g) wc w' → w'.ownsRow (w.heap.size + 1) 37 2 (.slice (some ⟨g, 0, none⟩) (k + 2) xc) (k + 2) (flat2 vs) →
                w'.cell? ⟨wr.heap.size, 0, none⟩ = some (.int .i64 i) ∧ w'.cell? ⟨wr.heap.size, 1, none⟩ = some (.int .i64 p) ∧ w'.cell? ⟨wr.heap.size, 2, none⟩ = some (.int .i64 q) ∧ w'.cell? ⟨g, p * 2, none⟩ = some (.slice p1 p2 p3) ∧ w'.cell? ⟨g, p * 2 + 1, none⟩ = some (.slice p4 p5 p6) ∧ w'.cell? ⟨g, q * 2, none⟩ = some (.slice q1 q2 q3) ∧ w'.cell? ⟨g, q * 2 + 1, none⟩ = some (.slice q4 q5 q6) := by
              intro w' hk' hr'
              obtain ⟨g', xc', e, -, y0, y1, y2, y3⟩ := HCe.out _ hr'
              cases e
              exact ⟨hk'.cell d0 (fun e => hgw e.symm), hk'.cell d1 (fun e => hgw e.symm), hk'.cell d2 (fun e => hgw e.symm), y0, y1, y2, y3⟩
            have HSK := Lib.hid hsk
            clear hsk
            have hi24 : i < 24 := by omega
            have hi64 : (i : Int) < 64 := by omega
            have hp2 : (p : Int) < (k : Int) + 2 := by omega
            have hq2 : (q : Int) < (k : Int) + 2 := by omega
            have hshl := shl_form hi24
            have HSH := Lib.hid hshl
            clear hshl
            have hszc := HW.out.size'
            go_wp2_with fail
            go_region_held3 (fun w' => w'.cell? ⟨wr.heap.size, 0, none⟩ = some (.int .i64 i) ∧ w'.cell? ⟨wr.heap.size, 1, none⟩ = some (.int .i64 p) ∧ w'.cell? ⟨wr.heap.size, 2, none⟩ = some (.int .i64 q) ∧ w'.cell? ⟨g, p * 2, none⟩ = some (.slice p1 p2 p3) ∧ w'.cell? ⟨g, p * 2 + 1, none⟩ = some (.slice p4 p5 p6) ∧ w'.cell? ⟨g, q * 2, none⟩ = some (.slice q1 q2 q3) ∧ w'.cell? ⟨g, q * 2 + 1, none⟩ = some (.slice q4 q5 q6))
              (first
                | exact HSK.out _ HG6.out HO6.out
                | exact HSK.out _ (HN5.out.alloc _).kept (owns_kept HR.out (HN5.out.alloc _).kept (fun _ _ x => x))
                | exact HSK.out _ HN5.out.kept (owns_kept HR.out HN5.out.kept (fun _ _ x => x))
                | exact HSK.out _ HN4.out.kept (owns_kept HR.out HN4.out.kept (fun _ _ x => x))
                | exact HSK.out _ (Near.refl _).drew.kept (owns_kept HR.out (Near.refl _).drew.kept (fun _ _ x => x)))
              (first
                | (go_at_call 82; rw [HSH.out]; refine (cube_one hi24).mono ?_; rintro e w4 ⟨v4, rfl, s4, b4⟩; have S4 := Lib.hid s4; have HN4 := Lib.hid ((Near.refl wc).drew.trans (Near.of_below b4)); obtain ⟨t1, t2, t3, t4, t5, t6, rfl⟩ := s4.form; clear s4 b4)
                | (go_at_call 81; refine (rite_calls S4.out (HI2.out.near HN4.out) (HI1.out.near HN4.out)).mono ?_; rintro e w5 ⟨v5, rfl, s5, b5⟩; have S5 := Lib.hid s5; have HN5 := Lib.hid (HN4.out.trans (Near.of_below b5)); obtain ⟨r1, r2, r3, r4, r5, r6, rfl⟩ := s5.form; clear s5 b5)
                | (refine step_append_keep rfl (.tmp 92) (.tmp 109) 46 rfl (w.heap.size + 1) 37 i0 (.agg #[.slice none 0 0, .slice none 0 0]) 2 48 Try.underlying46 hi0 hz0 hz1 hz2 rfl (by decide) _ _ _ rfl (owns_kept HR.out (HN5.out.alloc _).kept (fun _ _ x => x)) ⟨w5.heap.size, 0, none⟩ 1 1 [.slice r1 r2 r3, .slice r4 r5 r6] rfl rfl (cell_two_at rfl _ _ _) (by simp [Value.oneCell']) (by unfold maxLen; omega) (by omega) (by have := HN5.out.size'; simp; omega) ?_; intro ao' cap' w6 hown6 hg6 hl6 hold6; have HO6 := Lib.hid hold6; have HG6 := Lib.hid ((HN5.out.kept.alloc _).grown hg6 (S := fun b => b = g) (fun b hb _ => by cases hb; rfl)); have HOw6 := Lib.hid hown6; have HGr6 := Lib.hid hg6; clear hown6 hg6 hl6 hold6))
            have O56 : OnlyOf 37 w5 w6 := only_grown (owns_kept HR.out HN5.out.kept (fun _ _ x => x)) HGr6.out
            have hpush : Sets 37 IsG (w.heap.size + 1) w6 (.slice ao' (k + 2 + 1) cap') (evs (trTo l (k + 1))) := by
              have e : evs (trTo l (k + 1)) = evs (trTo l k) ++ [(T.mk i tl th).ev] := by rw [HNx.out]; simp [evs]
              rw [e]
              refine Sets.push (w := w5) HVL.out (fun j f p hj hp => (HIS.out j f p hj hp).near HN5.out) (f := (T.mk i tl th).ev) ⟨_, S5.out.congr fun c => (mk_ev c i tl th).symm⟩ (fun v f h => h.only O56 (by decide) (by decide)) ?_
              rw [HEV.out]
              exact HOw6.out
            have HPu := Lib.hid hpush
            have HK := Lib.hid (HW.out.kept.trans HG6.out)
            clear O56 hpush
            go_wp2_with fail
            refine ⟨⟨k + 1, hlt, by go_num, fun j hj => ?_, HPu.out, ?_, ?_, ?_⟩, by simp [intOf]; omega⟩
            · by_cases h : j < k
              · exact HF.out j h
              · rw [show j = k from by omega]
                exact HFk.out
            · exact Kept.mono (HN.out.kept.trans HK.out) (fun b hb h => by omega)
            · exact (HK.out.block _ (by omega) (by omega)).trans HRes.out
            · have := HK.out.size
              omega
          · have hnf : ¬ Fine l k := by
              rintro ⟨x, hx, _, _, p2, p3⟩
              rw [HX.out] at hx
              cases hx
              exact hgood ⟨p2, p3⟩
            have HNF := Lib.hid hnf
            have hbf : bb = false := by
              cases h : bb
              · rfl
              · exact (hgood (HBB.out.1 h)).elim
            rw [hbf]
            clear hbf hgood hnf
            go_wp2_with (first
              | (go_at_call 80; refine (const_calls false _).mono ?_; rintro e w3 ⟨v3, rfl, s3, b3⟩; have S3 := Lib.hid s3; have B3 := Lib.hid b3; have q0 := cell1 (o := 0) (keepE b3 (keepN HN2.out HA.out)) rfl; have q1 := cell1 (o := 1) (keepE b3 (keepN HN2.out HA.out)) rfl; have f0 := free1 (keepE b3 (keepN HN2.out HA.out)) 0; have f1 := free1 (keepE b3 (keepN HN2.out HA.out)) 1; obtain ⟨t1, t2, t3, t4, t5, t6, rfl⟩ := s3.form; clear s3 b3))
            exact bodyPost_ret (v := .tuple #[.agg #[.slice t1 t2 t3, .slice t4 t5 t6], .int .i64 4]) (by simp [results, Try.results20, go_sem, q0, q1]) rfl (HB.out HNF.out _ HN2.out _ _ S3.out (Near.of_below B3.out) _ _ _ _ _ _ rfl)
      · have hnf : ¬ Fine l k := by
          rintro ⟨x, hx, p0, p1, ⟨p2, p3, -⟩, ⟨p4, p5, -⟩⟩
          rw [HX.out] at hx
          cases hx
          simp only at p0 p1 p2 p3 p4 p5
          exact h8 ⟨by omega, by omega, by omega, by omega, by omega, by omega⟩
        have HNF := Lib.hid hnf
        have h8' : dv < 0 ∨ 0 ≤ dv ∧ (23 < dv ∨ dv ≤ 23 ∧ (dl < 0 ∨ 0 ≤ dl ∧ ((k : Int) + 1 < dl ∨ dl ≤ (k : Int) + 1 ∧ (dh < 0 ∨ 0 ≤ dh ∧ (k : Int) + 1 < dh)))) := by omega
        clear hnf h8
        rcases h8' with h | ⟨g0, h | ⟨g1, h | ⟨g2, h | ⟨g3, h | ⟨g4, h⟩⟩⟩⟩⟩
        all_goals
          go_wp2_with (first
            | (go_at_call 80; refine (const_calls false _).mono ?_; rintro e w3 ⟨v3, rfl, s3, b3⟩; have S3 := Lib.hid s3; have B3 := Lib.hid b3; have q0 := cell1 (o := 0) (keepE b3 HA.out) rfl; have q1 := cell1 (o := 1) (keepE b3 HA.out) rfl; have f0 := free1 (keepE b3 HA.out) 0; have f1 := free1 (keepE b3 HA.out) 1; obtain ⟨t1, t2, t3, t4, t5, t6, rfl⟩ := s3.form; clear s3 b3))
          exact bodyPost_ret (v := .tuple #[.agg #[.slice t1 t2 t3, .slice t4 t5 t6], .int .i64 4]) (by simp [results, Try.results20, go_sem, q0, q1]) rfl (HB.out HNF.out _ (Near.refl _) _ _ S3.out (Near.of_below B3.out) _ _ _ _ _ _ rfl)
    · have hkl : k = l.length := by omega
      subst hkl
      obtain ⟨xo, xc, rfl⟩ := HP.out.form
      have hevl : (evs (trTo l l.length)).length = l.length + 2 := by unfold evs; rw [List.length_map]; exact htl
      have hnl : ¬ ((l.length : Int) < (l.length : Int)) := by omega
      have fin : ∀ w3 v3, IsS w3 v3 [] (fun _ => false) → Near wr w3 → (root < 0 ∨ (l.length : Int) + 2 ≤ root) → ∀ a b c d e f, v3 = .agg #[.slice a b c, .slice d e f] → ROfPost l root w (.returned (.tuple #[.agg #[.slice a b c, .slice d e f], .int .i64 3])) ((w3.setCell ⟨w.heap.size, 0, none⟩ (.slice a b c)).setCell ⟨w.heap.size, 1, none⟩ (.slice d e f)) := by
        rintro w3 v3 s3 n3 hroot a b c d e f rfl
        refine ⟨_, _, _, rfl, ((HN.out.trans n3).set (by show w.heap.size ≤ w.heap.size; omega) _).set (by show w.heap.size ≤ w.heap.size; omega) _, ⟨[], (isS_store s3 (keepN n3 HRes.out)).congr fun c => ?_⟩, .inr (.inl ⟨HF.out, hroot, rfl, rfl⟩)⟩
        rfl
      have FIN := Lib.hid fin
      clear fin
      by_cases hr0 : root < 0 ∨ (l.length : Int) + 2 ≤ root
      · rcases hr0 with hr0 | hr0
        all_goals
          rw [hevl]
          first
            | have hr1 : ¬ root < 0 := by omega
            | skip
          go_wp2_with (first
            | (go_at_call 80; refine (const_calls false _).mono ?_; rintro e w3 ⟨v3, rfl, s3, b3⟩; have S3 := Lib.hid s3; have B3 := Lib.hid b3; have q0 := cell1 (o := 0) (keepE b3 HRes.out) rfl; have q1 := cell1 (o := 1) (keepE b3 HRes.out) rfl; have f0 := free1 (keepE b3 HRes.out) 0; have f1 := free1 (keepE b3 HRes.out) 1; obtain ⟨t1, t2, t3, t4, t5, t6, rfl⟩ := s3.form; clear s3 b3))
          exact bodyPost_ret (v := .tuple #[.agg #[.slice t1 t2 t3, .slice t4 t5 t6], .int .i64 3]) (by simp [results, Try.results20, go_sem, q0, q1]) rfl (FIN.out _ _ S3.out (Near.of_below B3.out) (by first | exact .inl hr0 | exact .inr hr0) _ _ _ _ _ _ rfl)
      · obtain ⟨r, rfl⟩ : ∃ r : Nat, root = r := ⟨root.toNat, by omega⟩
        have htr : (trTo l l.length)[r]? = some ((trTo l l.length)[r]'(by omega)) := List.getElem?_eq_getElem (by omega)
        obtain ⟨t, ht⟩ : ∃ t, t = (trTo l l.length)[r]'(by omega) := ⟨_, rfl⟩
        rw [← ht] at htr
        obtain ⟨g, xc', u, v, he, -, -, z0, z1, hi⟩ := HP.out.get (j := r) (f := t.ev) (by unfold evs; rw [List.getElem?_map, htr]; rfl)
        obtain ⟨t1, t2, t3, t4, t5, t6, hte⟩ := hi.form
        simp only [Value.agg.injEq, Array.mk.injEq, List.cons.injEq, and_true] at hte
        obtain ⟨rfl, rfl⟩ := hte
        simp only [Value.slice.injEq, true_and] at he
        obtain ⟨rfl, rfl⟩ := he
        have hr1 : (r : Int) < (l.length : Int) + 2 := by omega
        have hr2 : ¬ ((l.length : Int) + 1 < (r : Int)) := by omega
        have HI := Lib.hid hi
        have HTR := Lib.hid htr
        have f0 := free1 HRes.out 0
        have f1 := free1 HRes.out 1
        have q0 := cell1 (o := 0) HRes.out rfl
        have q1 := cell1 (o := 1) HRes.out rfl
        rw [hevl]
        clear hi htr ht htl hevl hr0
        go_wp2_with fail
        obtain ⟨V, hs⟩ := HI.out
        exact bodyPost_ret (v := .tuple #[.agg #[.slice t1 t2 t3, .slice t4 t5 t6], .int .i64 0]) (by simp [results, Try.results20, go_sem, q0, q1]) rfl ⟨_, _, t, rfl, (HN.out.set (by show w.heap.size ≤ w.heap.size; omega) _).set (by show w.heap.size ≤ w.heap.size; omega) _, ⟨V, isS_store hs HRes.out⟩, .inr (.inr ⟨HF.out, by omega, by omega, rfl, HTR.out⟩)⟩

end Go.Proofs.Ytefclohjeompkaa

/- The law DiagramOf: the walk. -/
namespace Go.Proofs.Ytefclohjeompkaa
open Go Go.RowKit Go.Proofs.Gen Go.Proofs.Bdd Go.Proofs.Bdd.T

theorem OfSays.fun {l : List Dec} {root n n' : Int} {t t' : T} (h : OfSays l root n t) (h' : OfSays l root n' t') : n = n' ∧ t = t' := by
  rcases h with ⟨⟨k, hk, hf⟩, rfl, rfl⟩ | ⟨hf, hr, rfl, rfl⟩ | ⟨hf, h0, h1, rfl, ht⟩ <;> rcases h' with ⟨⟨k', hk', hf'⟩, rfl, rfl⟩ | ⟨hf', hr', rfl, rfl⟩ | ⟨hf', h0', h1', rfl, ht'⟩
  · exact ⟨rfl, rfl⟩
  · exact (hf (hf' k hk)).elim
  · exact (hf (hf' k hk)).elim
  · exact (hf' (hf k' hk')).elim
  · exact ⟨rfl, rfl⟩
  · omega
  · exact (hf' (hf k' hk')).elim
  · omega
  · rw [ht] at ht'
    cases ht'
    exact ⟨rfl, rfl⟩

theorem decs_cell : ∀ {l : List Dec} {j : Nat} {u : Value}, (decs l)[j]? = some u → ∃ k x, l[k]? = some x ∧ ((j = k * 3 ∧ u = .int .i64 x.v) ∨ (j = k * 3 + 1 ∧ u = .int .i64 x.lo) ∨ (j = k * 3 + 2 ∧ u = .int .i64 x.hi))
  | [], j, u, h => by simp [decs] at h
  | y :: l, j, u, h => by
    have e : decs (y :: l) = .int .i64 y.v :: .int .i64 y.lo :: .int .i64 y.hi :: decs l := rfl
    rw [e] at h
    match j, h with
    | 0, h => exact ⟨0, y, rfl, .inl ⟨rfl, by simpa using h.symm⟩⟩
    | 1, h => exact ⟨0, y, rfl, .inr (.inl ⟨rfl, by simpa using h.symm⟩)⟩
    | 2, h => exact ⟨0, y, rfl, .inr (.inr ⟨rfl, by simpa using h.symm⟩)⟩
    | j + 3, h =>
      obtain ⟨k, x, hk, hx⟩ := decs_cell (l := l) (j := j) (u := u) (by simpa using h)
      refine ⟨k + 1, x, by simpa using hk, ?_⟩
      rcases hx with ⟨e1, e2⟩ | ⟨e1, e2⟩ | ⟨e1, e2⟩
      · exact .inl ⟨by omega, e2⟩
      · exact .inr (.inl ⟨by omega, e2⟩)
      · exact .inr (.inr ⟨by omega, e2⟩)

theorem decs_len (l : List Dec) : (decs l).length = l.length * 3 := by
  induction l with
  | nil => rfl
  | cons y l ih =>
    have e : decs (y :: l) = .int .i64 y.v :: .int .i64 y.lo :: .int .i64 y.hi :: decs l := rfl
    rw [e]
    simp only [List.length_cons, ih]
    omega

theorem decs_one {l : List Dec} : ∀ u ∈ decs l, u.oneCell' = true := by
  intro u hu
  obtain ⟨j, hj⟩ := List.getElem?_of_mem hu
  obtain ⟨k, x, -, ⟨-, rfl⟩ | ⟨-, rfl⟩ | ⟨-, rfl⟩⟩ := decs_cell hj <;> rfl

theorem RdDec.yields {w : World} {v : Value} {l : List Dec} (h : RdDec w v l) (hnil : ∀ cap, v = .slice none 0 cap → cap = 0) : SrcOf w 3 l.length v (decs l) := by
  obtain ⟨ao, cap, rfl, hc⟩ := h
  refine ⟨decs_len l, ?_⟩
  cases ao with
  | none =>
    have h0 : l.length = 0 := by
      rcases Nat.eq_zero_or_pos l.length with h | h
      · exact h
      · obtain ⟨b, off, e, _⟩ := hc 0 _ (List.getElem?_eq_getElem h)
        cases e
    rw [h0] at hnil ⊢
    exact .inl ⟨by rw [hnil cap rfl], rfl⟩
  | some ad =>
    refine .inr ⟨ad, cap, rfl, fun j u hj => ?_⟩
    obtain ⟨k, x, hk, hx⟩ := decs_cell hj
    obtain ⟨b, off, e, h0, h1, h2⟩ := hc k x hk
    cases e
    have ea : ∀ n, (⟨b, off, none⟩ : Addr).add n = ⟨b, off + n, none⟩ := fun n => by
      unfold Addr.add
      by_cases h : n = 0 <;> simp [h]
    rw [ea]
    rcases hx with ⟨rfl, rfl⟩ | ⟨rfl, rfl⟩ | ⟨rfl, rfl⟩
    · exact h0
    · rw [← Nat.add_assoc]; exact h1
    · rw [← Nat.add_assoc]; exact h2

set_option maxRecDepth 100000 in
set_option maxHeartbeats 1600000 in
theorem law_of {w : World} {v : Value} {l : List Dec} {root : Int} (h : RdDec w v l) (hnil : ∀ cap, v = .slice none 0 cap → cap = 0) :
    Calls Try.prog 3 #[v, .int .i64 root] w fun e w' => e = .returned (.bool true) ∧ Near w w' := by
  obtain ⟨i0, hi0, hz0, hz1, hz2⟩ := info_parts info26
  have HL := Lib.hid h
  obtain ⟨ao, cap, rfl, hc⟩ := h
  have HC := Lib.hid hc
  clear hc
  by_cases h12 : 12 < l.length
  · have h12' : (12 : Int) < (l.length : Int) := by omega
    go_enter Try.func3, Try.ntmps3
    go_wp2_with (first
      | (go_at_call 17; refine (wakes_calls _).mono ?_; rintro e w1 ⟨rfl, n1⟩))
    go_ret
    exact ⟨rfl, n1⟩
  · have h12' : ¬ (12 : Int) < (l.length : Int) := by omega
    have HNil := Lib.hid hnil
    clear hnil
    go_enter Try.func3, Try.ntmps3
    go_wp2_with fail
    go_loopw [5, 6] (fun f i wr => ∃ (k : Nat) (x : Nat), k ≤ l.length ∧ i = .int .i64 k ∧ f = .int .u32 x ∧ x < 16777216 ∧ Near w wr) (fun _ i _ => l.length - (intOf i).toNat)
    case atStart => exact ⟨0, 0, Nat.zero_le _, rfl, rfl, by decide, Near.refl _⟩
    case round =>
      obtain ⟨k, x, hk, rfl, rfl, hx, hn⟩ := hrel
      by_cases hlt : k < l.length
      · have hlt' : (k : Int) < l.length := by omega
        obtain ⟨b, off, rfl, x0, -, -⟩ := HC.out k _ (List.getElem?_eq_getElem hlt)
        have y0 := hn.cell x0
        clear x0
        generalize l[k].v = d at y0
        by_cases h0 : 0 ≤ d ∧ d < 24
        · obtain ⟨d, rfl⟩ : ∃ n : Nat, d = n := ⟨d.toNat, by omega⟩
          obtain ⟨h0, h1⟩ := h0
          have h64 : (d : Int) < 64 := by omega
          have hor := u32_or_bit x d (by omega) (by omega)
          have hlt2 : x ||| 2 ^ d < 16777216 := Nat.or_lt_two_pow (n := 24) (by simpa using hx) (Nat.pow_lt_pow_right (by omega) (by omega))
          have HO := Lib.hid hor
          clear hor
          go_wp2_with fail
          exact ⟨⟨k + 1, x ||| 2 ^ d, by omega, by go_num, by rw [HO.out], hlt2, hn⟩, by simp [intOf]; omega⟩
        · have h0' : d < 0 ∨ 0 ≤ d ∧ 24 ≤ d := by omega
          clear h0
          rcases h0' with h0 | ⟨h0, h1⟩
          all_goals
            go_wp2_with fail
            exact ⟨⟨k + 1, x, by omega, by go_num, rfl, hx, hn⟩, by simp [intOf]; omega⟩
      · have hkl : k = l.length := by omega
        subst hkl
        by_cases h7 : 7 < (feats x).length
        · have h7' : (7 : Int) < ((feats x).length : Int) := by omega
          go_wp2_with (first
            | (go_at_call 18; refine (features_calls _ (by omega) _).mono ?_; rintro e w1 ⟨xv, rfl, r1, n1⟩; obtain ⟨xo, xc, rfl⟩ := owns_form r1)
            | (go_at_call 17; refine (wakes_calls _).mono ?_; rintro e w2 ⟨rfl, n2⟩))
          go_ret
          exact ⟨rfl, (hn.trans n1).trans n2⟩
        · have h7' : ¬ (7 : Int) < ((feats x).length : Int) := by omega
          go_upto_region 11 with (first
            | (go_at_call 18; refine (features_calls _ (by omega) _).mono ?_; rintro e w1 ⟨xv, rfl, r1, n1⟩; obtain ⟨xo, xc, rfl⟩ := owns_form r1))
          have HN1 := Lib.hid (hn.trans n1)
          clear hn n1 r1 h7 h7'
          have HY := Lib.hid ((HL.out.near HN1.out).yields HNil.out)
          go_wp2_with (first
            | (at_builtin; refine wpList_append_more rfl (.const (.slice none 0 0)) (.tmp 50) 22 rfl 0 26 i0 (.agg #[.int .i64 0, .int .i64 0, .int .i64 0]) 3 24 Try.underlying22 hi0 hz0 hz1 hz2 rfl (by decide) (.slice none 0 0) 0 [] rfl (World.ownsRow_nil _ _ _ _) _ l.length (decs l) rfl HY.out decs_one (by unfold maxLen; omega) (by omega) (Nat.zero_le _) ?_; intro bo bcp w2 hown2 hg2; simp only [Nat.zero_add, List.nil_append] at hown2; have HO2 := Lib.hid (RdDec.owns hown2); have HN2 := Lib.hid (HN1.out.kept.grown (S := fun _ => False) hg2 (fun k hk => by cases hk)); clear hown2 hg2)
            | (go_at_call 19; refine (of_calls HO2.out (by omega)).mono ?_; rintro e w3 ⟨v3, n3, t3, rfl, nn3, d3, s3⟩; obtain ⟨a1, a2, a3, rfl, -⟩ := d3.form; have HD3 := Lib.hid d3; have HN3 := Lib.hid nn3; have HS3 := Lib.hid s3; clear d3 nn3 s3)
            | (go_at_call 20; refine (rof_calls (HL.out.near ((Near.trans HN2.out HN3.out).alloc _)) (by omega)).mono ?_; rintro e w4 ⟨v4, n4, t4, rfl, nn4, d4, s4⟩; obtain ⟨c1, c2, c3, c4, c5, c6, rfl⟩ := d4.form; have HD4 := Lib.hid d4; have HN4 := Lib.hid nn4; obtain ⟨e1, e2⟩ := OfSays.fun HS3.out s4; subst e1; subst e2; have HE4 := Lib.hid (keepN ((Near.refl w4).alloc (Obj.cells #[Value.slice c1 c2 c3, Value.slice c4 c5 c6] 37)) (keepN nn4 (heap_new_at rfl))); have q0 := cell1 (o := 0) HE4.out rfl; have q1 := cell1 (o := 1) HE4.out rfl; have HN5 := Lib.hid ((((Near.trans HN2.out HN3.out).alloc _).trans nn4).alloc (Obj.cells #[Value.slice c1 c2 c3, Value.slice c4 c5 c6] 37)); have HD5 := Lib.hid (HD3.out.near ((((Near.refl w3).alloc _).trans nn4).alloc (Obj.cells #[Value.slice c1 c2 c3, Value.slice c4 c5 c6] 37))); have HG5 := Lib.hid (d4.near ((Near.refl w4).alloc (Obj.cells #[Value.slice c1 c2 c3, Value.slice c4 c5 c6] 37))); have HR5 := Lib.hid (HO2.out.near ((HN3.out.alloc _).trans nn4 |>.alloc (Obj.cells #[Value.slice c1 c2 c3, Value.slice c4 c5 c6] 37))); clear d4 nn4 s4)
            | (go_at_call 21; refine (alike_calls ⟨_, HD5.out, fun c => rfl⟩ HG5.out).mono ?_; rintro e w6 ⟨rfl, n6⟩; have HN6 := Lib.hid n6; clear n6)
            | (go_at_call 22; refine (same_calls (HR5.out.near HN6.out) (HL.out.near (HN5.out.trans HN6.out)) (by omega)).mono ?_; rintro e w7 ⟨rfl, n7⟩; have HN7 := Lib.hid n7; clear n7)
            | (go_at_call 17; refine (wakes_calls _).mono ?_; rintro e w8 ⟨rfl, n8⟩; have HN8 := Lib.hid n8; clear n8))
          go_ret
          exact ⟨rfl, ((HN5.out.trans HN6.out).trans HN7.out).trans HN8.out⟩

end Go.Proofs.Ytefclohjeompkaa

/- Nodes, and the law's equal. -/
namespace Go.Proofs.Ytefclohjeompkaa
open Go Go.RowKit Go.Proofs.Gen Go.Proofs.Bdd Go.Proofs.Bdd.T

set_option maxRecDepth 100000 in
set_option maxHeartbeats 800000 in
theorem clone_calls {w : World} {v : Value} {l : List Dec} (hr : w.ownsRow 0 26 3 v l.length (decs l)) (hl : l.length < 1099511627776) :
    Calls Try.prog 94 #[v] w fun e w' => ∃ ao cap, e = .returned (.slice ao l.length cap) ∧ w'.ownsRow 0 26 3 (.slice ao l.length cap) l.length (decs l) ∧ Near w w' := by
  obtain ⟨i0, hi0, hz0, hz1, hz2⟩ := info_parts info26
  have hq := fun (w : World) (a : Option Addr) (n c : Nat) => Lib.run_eql_slice_nil (P := Try.prog) w 22 26 a n c 0 0 Try.underlying22
  have HR := Lib.hid hr
  rcases hr.2 with ⟨rfl, h0⟩ | ⟨g, cap, cur, rfl, _, hg, _⟩
  · rw [h0]
    have HL := Lib.hid h0
    clear hr h0
    go_enter Try.func94, Try.ntmps94
    go_wp2_with fail
    go_ret
    have := HR.out
    rw [HL.out] at this
    exact ⟨none, 0, rfl, this, Near.refl _⟩
  · clear hr hg
    have hd : (decs l).length = l.length * 3 := decs_len l
    have HD := Lib.hid hd
    clear hd
    go_enter Try.func94, Try.ntmps94
    go_wp2_with (first
      | (at_builtin; refine wpList_append_more rfl (.tmp 5) (.tmp 6) 22 rfl w.heap.size 26 i0 (.agg #[.int .i64 0, .int .i64 0, .int .i64 0]) 3 24 Try.underlying22 hi0 hz0 hz1 hz2 rfl (by decide) (.slice (some ⟨w.heap.size, 0, none⟩) 0 0) 0 [] rfl ?c1 _ l.length (decs l) rfl ?c2 decs_one (by unfold maxLen; omega) (by omega) (by simp) ?_; rotate_left 2; intro bo bcp w2 hown2 hg2; simp only [Nat.zero_add, List.nil_append] at hown2; have HO2 := Lib.hid hown2; have HG2 := Lib.hid hg2; clear hown2 hg2))
    case c1 => exact ⟨rfl, .inr ⟨w.heap.size, 0, #[], rfl, Nat.le_refl _, heap_new_at rfl, Nat.le_refl _, by unfold maxLen; omega, rfl, rfl⟩⟩
    case c2 => exact ⟨HD.out, .inr ⟨⟨g, 0, none⟩, cap, rfl, (HR.out.alloc (.cells #[] 26)).cells (g := g) rfl⟩⟩
    go_ret
    exact ⟨bo, bcp, rfl, ownsRow_low HO2.out (Nat.zero_le _), Kept.mono (((Kept.refl (fun k => w.heap.size ≤ k) w).alloc _).grown HG2.out (fun k hk _ => by cases hk; exact Nat.le_refl _)) (fun b hb h => by omega)⟩

set_option maxRecDepth 100000 in
set_option maxHeartbeats 800000 in
theorem nodes_f {w : World} {v : Value} {t : T} (h : IsD w v t) :
    Calls Try.prog 36 #[v] w fun e w' => ∃ ao cap, e = .returned (.tuple #[.slice ao (ndec t).length cap, .int .i64 (pl (nodes t) t : Nat)]) ∧ RdDec w' (.slice ao (ndec t).length cap) (ndec t) ∧ Near w w' := by
  obtain ⟨ao, n, cap, rfl, hn⟩ := h.form
  have hr := h.rd.2
  have hl := nodes_len h.1
  have hnl : (ndec t).length < 1099511627776 := by rw [ndec_len]; omega
  rw [← ndec_len] at hn
  subst hn
  have hN : Near w (w.alloc (.cells #[.slice ao (ndec t).length cap, .int .i64 (pl (nodes t) t : Nat)] 31)) := (Near.refl w).alloc _
  have HE := Lib.hid (show (w.alloc (.cells #[.slice ao (ndec t).length cap, .int .i64 (pl (nodes t) t : Nat)] 31)).heap[w.heap.size]? = some (.cells #[.slice ao (ndec t).length cap, .int .i64 (pl (nodes t) t : Nat)] 31 (0, 0)) from heap_new_at rfl)
  have HN := Lib.hid hN
  have HR := Lib.hid hr
  clear h hr hN
  go_enter Try.func36, Try.ntmps36
  go_upto_region 1 with fail
  generalize (w.alloc (.cells #[.slice ao (ndec t).length cap, .int .i64 (pl (nodes t) t : Nat)] 31)) = W at *
  have sOf : ∀ w', Near W w' → w'.cell? ⟨w.heap.size, 0, none⟩ = some (.slice ao (ndec t).length cap) ∧ w'.cell? ⟨w.heap.size, 1, none⟩ = some (.int .i64 (pl (nodes t) t : Nat)) :=
    fun w' h => ⟨cell1 (keepN h HE.out) rfl, cell1 (keepN h HE.out) rfl⟩
  go_region_held3 (fun w' => w'.cell? ⟨w.heap.size, 0, none⟩ = some (.slice ao (ndec t).length cap) ∧ w'.cell? ⟨w.heap.size, 1, none⟩ = some (.int .i64 (pl (nodes t) t : Nat)))
    ((refine sOf _ ?_; first | exact z1 | exact (Near.refl _).drew))
    (first
      | (go_at_call 94; refine (clone_calls (owns_kept HR.out (HN.out.trans (Near.refl _).drew).kept (R := fun _ => False) (fun _ _ x => x)) hnl).mono ?_; rintro e v1 ⟨bo, bcp, rfl, s1, m1⟩; have S1 := Lib.hid s1; clear s1; have z1 : Near W v1 := (Near.refl _).drew.trans m1))
  all_goals
    go_wp2_with fail
    go_ret2
    exact ⟨bo, bcp, rfl, RdDec.owns S1.out, HN.out.trans z1⟩

set_option maxRecDepth 100000 in
set_option maxHeartbeats 1600000 in
theorem equal_f {w : World} {va vb : Value} {f g : F} (ha : IsF w va f) (hb : IsF w vb g) (hfg : ∀ c, f c = g c) : Calls Try.prog 42 #[va, vb] w fun e w' => e = .returned (.bool true) ∧ Near w w' := by
  obtain ⟨t, hd, he⟩ := ha
  obtain ⟨u, hd', he'⟩ := hb
  have htu : u = t := canon hd'.1 hd.1 fun c => by rw [he', he, hfg]
  subst htu
  obtain ⟨a1, a2, a3, rfl, -⟩ := hd.form
  obtain ⟨b1, b2, b3, rfl, -⟩ := hd'.form
  have hl := nodes_len hd.1
  have hnl : (ndec u).length < 1099511627776 := by rw [ndec_len]; omega
  have hs : sameF f g = true := sameF_iff.2 hfg
  have HSF := Lib.hid hs
  have hN : Near w ((w.alloc (.cells #[.slice a1 a2 a3, .int .i64 (pl (nodes u) u : Nat)] 31)).alloc (.cells #[.slice b1 b2 b3, .int .i64 (pl (nodes u) u : Nat)] 31)) := ((Near.refl w).alloc _).alloc _
  have EA : ((w.alloc (.cells #[.slice a1 a2 a3, .int .i64 (pl (nodes u) u : Nat)] 31)).alloc (.cells #[.slice b1 b2 b3, .int .i64 (pl (nodes u) u : Nat)] 31)).heap[w.heap.size]? = some (.cells #[.slice a1 a2 a3, .int .i64 (pl (nodes u) u : Nat)] 31 (0, 0)) := by
    rw [heap_old_at (by simp), heap_new_at rfl]
  have EB : ((w.alloc (.cells #[.slice a1 a2 a3, .int .i64 (pl (nodes u) u : Nat)] 31)).alloc (.cells #[.slice b1 b2 b3, .int .i64 (pl (nodes u) u : Nat)] 31)).heap[w.heap.size + 1]? = some (.cells #[.slice b1 b2 b3, .int .i64 (pl (nodes u) u : Nat)] 31 (0, 0)) := heap_new_at (by simp)
  have HD := Lib.hid hd
  have HD' := Lib.hid hd'
  have HE := Lib.hid he
  have HE' := Lib.hid he'
  have HN := Lib.hid hN
  have HEA := Lib.hid EA
  have HEB := Lib.hid EB
  clear hd hd' he he' hN EA EB hs
  go_enter Try.func42, Try.ntmps42
  go_upto_region 1 with fail
  generalize ((w.alloc (.cells #[.slice a1 a2 a3, .int .i64 (pl (nodes u) u : Nat)] 31)).alloc (.cells #[.slice b1 b2 b3, .int .i64 (pl (nodes u) u : Nat)] 31)) = W at *
  have q0 := cell1 (o := 0) HEA.out rfl
  have q1 := cell1 (o := 1) HEA.out rfl
  have ca : ∀ w', Near W w' → w'.cell? ⟨w.heap.size, 0, none⟩ = some (.slice a1 a2 a3) ∧ w'.cell? ⟨w.heap.size, 1, none⟩ = some (.int .i64 (pl (nodes u) u : Nat)) ∧ w'.cell? ⟨w.heap.size + 1, 0, none⟩ = some (.slice b1 b2 b3) ∧ w'.cell? ⟨w.heap.size + 1, 1, none⟩ = some (.int .i64 (pl (nodes u) u : Nat)) :=
    fun w' h => ⟨cell1 (keepN h HEA.out) rfl, cell1 (keepN h HEA.out) rfl, cell1 (keepN h HEB.out) rfl, cell1 (keepN h HEB.out) rfl⟩
  go_wp2_with (first
    | (go_at_call_of 36 (Value.slice a1 a2 a3); refine (nodes_f (HD.out.near HN.out)).mono ?_; rintro e v1 ⟨c1, d1, rfl, r1, n1⟩; have R1 := Lib.hid r1; have N1 := Lib.hid n1; obtain ⟨x0, x1, x2, x3⟩ := ca _ n1; clear r1 n1)
    | (go_at_call_of 36 (Value.slice b1 b2 b3); refine (nodes_f (HD'.out.near (HN.out.trans N1.out))).mono ?_; rintro e v2 ⟨c2, d2, rfl, r2, n2⟩; have R2 := Lib.hid r2; have N2 := Lib.hid (N1.out.trans n2); have M2 := Lib.hid n2; obtain ⟨y0, y1, y2, y3⟩ := ca _ N2.out; clear r2 n2)
    | (go_at_call 52; refine (same_f ⟨u, HD.out.near (HN.out.trans N2.out), HE.out⟩ ⟨u, HD'.out.near (HN.out.trans N2.out), HE'.out⟩).mono ?_; rw [HSF.out]; rintro e v3 ⟨rfl, n3⟩; have N3 := Lib.hid n3; clear n3)
    | (go_at_call 22; refine (same_calls ((R1.out.near M2.out).near N3.out) (R2.out.near N3.out) hnl).mono ?_; rintro e v4 ⟨rfl, n4⟩; have N4 := Lib.hid n4; clear n4))
  go_ret
  exact ⟨rfl, ((HN.out.trans N2.out).trans N3.out).trans N4.out⟩

end Go.Proofs.Ytefclohjeompkaa

/- Counting by function: the plain laws. -/
namespace Go.Proofs.Ytefclohjeompkaa
open Go Go.RowKit Go.Proofs.Gen Go.Proofs.Bdd Go.Proofs.Bdd.T

/-- How many settings of k features from lo on a function takes. -/
def cF : Nat → Nat → (Nat → Bool) → F → Nat
  | 0, _, c, f => (f c).toNat
  | k + 1, lo, c, f => cF k (lo + 1) (upd c lo false) f + cF k (lo + 1) (upd c lo true) f

theorem cA_cF (t : T) : ∀ (k lo : Nat) (c : Nat → Bool), cA k lo c t = cF k lo c t.ev
  | 0, _, _ => rfl
  | k + 1, lo, c => by
    show cA k (lo + 1) (upd c lo false) t + cA k (lo + 1) (upd c lo true) t = _
    rw [cA_cF t k, cA_cF t k]
    rfl

theorem cF_not (f : F) : ∀ (k lo : Nat) (c : Nat → Bool), cF k lo c f + cF k lo c (fun c => !f c) = 2 ^ k
  | 0, _, c => by simp only [cF]; cases f c <;> rfl
  | k + 1, lo, c => by
    have h1 := cF_not f k (lo + 1) (upd c lo false)
    have h2 := cF_not f k (lo + 1) (upd c lo true)
    simp only [cF, Nat.pow_succ]
    omega

theorem cF_add (f g : F) : ∀ (k lo : Nat) (c : Nat → Bool), cF k lo c f + cF k lo c g = cF k lo c (fun c => f c || g c) + cF k lo c (fun c => f c && g c)
  | 0, _, c => by simp only [cF]; cases f c <;> cases g c <;> rfl
  | k + 1, lo, c => by
    have h1 := cF_add f g k (lo + 1) (upd c lo false)
    have h2 := cF_add f g k (lo + 1) (upd c lo true)
    simp only [cF]
    omega

theorem cF_le (f : F) (k lo : Nat) (c : Nat → Bool) : cF k lo c f ≤ 2 ^ k := by
  have := cF_not f k lo c
  omega

theorem cF_zero {f : F} : ∀ (k lo : Nat) (c : Nat → Bool), cF k lo c f = 0 → ∀ d : Nat → Bool, (∀ i, i < lo ∨ lo + k ≤ i → d i = c i) → f d = false
  | 0, lo, c, h, d, hd => by
    have e : d = c := funext fun i => hd i (by omega)
    subst e
    simp only [cF] at h
    cases hf : f d
    · rfl
    · rw [hf] at h
      cases h
  | k + 1, lo, c, h, d, hd => by
    simp only [cF] at h
    cases hl : d lo with
    | false =>
      refine cF_zero k (lo + 1) (upd c lo false) (by omega) d fun i hi => ?_
      by_cases e : i = lo
      · subst e
        rw [upd_same, hl]
      · rw [upd_other _ _ e]
        exact hd i (by omega)
    | true =>
      refine cF_zero k (lo + 1) (upd c lo true) (by omega) d fun i hi => ?_
      by_cases e : i = lo
      · subst e
        rw [upd_same, hl]
      · rw [upd_other _ _ e]
        exact hd i (by omega)

theorem cF_none {f : F} (h : ∀ c, f c = false) : ∀ (k lo : Nat) (c : Nat → Bool), cF k lo c f = 0
  | 0, _, c => by simp [cF, h]
  | k + 1, lo, c => by simp only [cF]; rw [cF_none h k, cF_none h k]

/-- The number of configurations. -/
def numF (f : F) : Nat := cF 24 0 (fun _ => false) f

theorem numF_le (f : F) : numF f ≤ 16777216 := cF_le f 24 0 _
theorem numF_not (f : F) : numF f + numF (fun c => !f c) = 16777216 := cF_not f 24 0 _
theorem numF_add (f g : F) : numF f + numF g = numF (fun c => f c || g c) + numF (fun c => f c && g c) := cF_add f g 24 0 _
theorem numF_zero {w : World} {v : Value} {f : F} (h : IsF w v f) : ((numF f : Int) == 0) = nowhere f := by
  obtain ⟨t, ⟨ok, -⟩, he⟩ := h
  rw [Bool.eq_iff_iff, beq_iff_eq, nowhere_iff]
  constructor
  · intro h c
    have h0 : numF f = 0 := by omega
    rw [← he, ← ev_congr (c := fun i => decide (i < 24) && c i) t ok fun j _ hj => by simp [hj], he]
    exact cF_zero 24 0 _ h0 _ fun i hi => by
      have : ¬ i < 24 := by omega
      simp [this]
  · intro h
    rw [show numF f = 0 from cF_none h 24 0 _]
    rfl

theorem count_f {w : World} {v : Value} {f : F} (h : IsF w v f) : Calls Try.prog 29 #[v, .int .i64 24] w fun e w' => e = .returned (.tuple #[.int .u64 (numF f), .int .i64 0]) ∧ Near w w' := by
  obtain ⟨t, hd, he⟩ := h
  have hf : f = t.ev := funext fun c => (he c).symm
  subst hf
  have hs : sup (nodes t) < 2 ^ 24 := sup_lt fun u hu => by
    obtain ⟨hn, ok⟩ := (nodes_good hd.1).all u hu
    cases u with
    | leaf b => exact hn.elim
    | node i l h => exact ok.1
  have := count_calls hd (n := 24) (Nat.le_refl _) hs
  rwa [cA_cF] at this

end Go.Proofs.Ytefclohjeompkaa

/- The law DiagramAdds: the walk. -/
namespace Go.Proofs.Ytefclohjeompkaa
open Go Go.RowKit Go.Proofs.Gen Go.Proofs.Bdd Go.Proofs.Bdd.T

theorem ThreePost.mk {w w' : World} {l : List SOp} {e : Ending} (h : ThreePost w l e w') : ∃ a1 a2 a3 a4 b1 b2 b3 b4 c1 c2 c3 c4, e = .returned (.tuple #[.agg #[.slice a1 a2 a3, .int .i64 a4], .agg #[.slice b1 b2 b3, .int .i64 b4], .agg #[.slice c1 c2 c3, .int .i64 c4], .bool (decide (ThreeOk l))]) ∧
    IsF w' (.agg #[.slice a1 a2 a3, .int .i64 a4]) (tF l 1) ∧ IsF w' (.agg #[.slice b1 b2 b3, .int .i64 b4]) (tF l 2) ∧ IsF w' (.agg #[.slice c1 c2 c3, .int .i64 c4]) (tF l 3) ∧ Near w w' := by
  obtain ⟨va, vb, vc, rfl, ia, ib, ic, hn⟩ := h
  obtain ⟨a1, a2, a3, a4, rfl⟩ := ia.form
  obtain ⟨b1, b2, b3, b4, rfl⟩ := ib.form
  obtain ⟨c1, c2, c3, c4, rfl⟩ := ic.form
  exact ⟨_, _, _, _, _, _, _, _, _, _, _, _, rfl, ia, ib, ic, hn⟩

set_option maxRecDepth 100000 in
set_option maxHeartbeats 3200000 in
theorem law_adds {w : World} {v : Value} {l : List SOp} (h : RdOps w v l) : Calls Try.prog 7 #[v] w fun e w' => e = .returned (.bool true) ∧ Near w w' := by
  have h3 := three_calls h
  have H3 := Lib.hid h3
  clear h3
  obtain ⟨ao, cap, rfl, -⟩ := h
  by_cases hok : ThreeOk l
  · have hd : decide (ThreeOk l) = true := decide_eq_true hok
    have HD := Lib.hid hd
    clear hd hok
    go_enter Try.func7, Try.ntmps7
    go_upto_region 4 with (first
      | (go_at_call 31; refine H3.out.mono ?_; rintro e w3 h3; obtain ⟨a1, a2, a3, a4, b1, b2, b3, b4, c1, c2, c3, c4, rfl, ia, ib, ic, n3⟩ := h3.mk; rw [HD.out]; have HIA := Lib.hid ia; have HIB := Lib.hid ib; have HIC := Lib.hid ic; have HN3 := Lib.hid n3; clear h3 ia ib ic n3))
    have hn : Near w3 (((w3.alloc (.cells #[.slice a1 a2 a3, .int .i64 a4] 31)).alloc (.cells #[.slice b1 b2 b3, .int .i64 b4] 31)).alloc (.cells #[.slice c1 c2 c3, .int .i64 c4] 31)) := (((Near.refl w3).alloc _).alloc _).alloc _
    have ha : (((w3.alloc (.cells #[.slice a1 a2 a3, .int .i64 a4] 31)).alloc (.cells #[.slice b1 b2 b3, .int .i64 b4] 31)).alloc (.cells #[.slice c1 c2 c3, .int .i64 c4] 31)).heap[w3.heap.size]? = some (.cells #[.slice a1 a2 a3, .int .i64 a4] 31 (0, 0)) := (heap_old_at (by simp <;> omega)).trans ((heap_old_at (by simp)).trans (heap_new_at rfl))
    have hb : (((w3.alloc (.cells #[.slice a1 a2 a3, .int .i64 a4] 31)).alloc (.cells #[.slice b1 b2 b3, .int .i64 b4] 31)).alloc (.cells #[.slice c1 c2 c3, .int .i64 c4] 31)).heap[w3.heap.size + 1]? = some (.cells #[.slice b1 b2 b3, .int .i64 b4] 31 (0, 0)) := (heap_old_at (by simp)).trans (heap_new_at (by simp))
    generalize ((w3.alloc (.cells #[.slice a1 a2 a3, .int .i64 a4] 31)).alloc (.cells #[.slice b1 b2 b3, .int .i64 b4] 31)).alloc (.cells #[.slice c1 c2 c3, .int .i64 c4] 31) = W at hn ha hb ⊢
    have HFA := Lib.hid (HIA.out.near hn)
    have HFB := Lib.hid (HIB.out.near hn)
    have HNW := Lib.hid (HN3.out.trans hn)
    have pa0 := cell1 (o := 0) ha rfl
    have pa1 := cell1 (o := 1) ha rfl
    have pb0 := cell1 (o := 0) hb rfl
    have pb1 := cell1 (o := 1) hb rfl
    have HA0 := Lib.hid pa0
    have HA1 := Lib.hid pa1
    have HB0 := Lib.hid pb0
    have HB1 := Lib.hid pb1
    have q1 := numF_not (tF l 1)
    have q2 := numF_add (tF l 1) (tF l 2)
    have q3 := numF_zero HFA.out
    have m1 := numF_le (tF l 1)
    have m2 := numF_le (tF l 2)
    obtain ⟨z, hz⟩ : ∃ z : Bool, z = nowhere (tF l 1) := ⟨_, rfl⟩
    rw [← hz] at q3
    have HZ := Lib.hid hz
    have hem : ∀ x, IsF x (.agg #[.slice a1 a2 a3, .int .i64 a4]) (tF l 1) → Calls Try.prog 35 #[.agg #[.slice a1 a2 a3, .int .i64 a4]] x fun e w' => e = .returned (.bool z) ∧ Near x w' := fun x hx => by
      rw [HZ.out]
      exact empty_f hx
    have HEM := Lib.hid hem
    obtain ⟨nA, hA⟩ : ∃ n, n = numF (tF l 1) := ⟨_, rfl⟩
    obtain ⟨nN, hN⟩ : ∃ n, n = numF (fun c => !tF l 1 c) := ⟨_, rfl⟩
    obtain ⟨nB, hB⟩ : ∃ n, n = numF (tF l 2) := ⟨_, rfl⟩
    obtain ⟨nO, hO⟩ : ∃ n, n = numF (fun c => tF l 1 c || tF l 2 c) := ⟨_, rfl⟩
    obtain ⟨nI, hI⟩ : ∃ n, n = numF (fun c => tF l 1 c && tF l 2 c) := ⟨_, rfl⟩
    rw [← hA, ← hN] at q1
    rw [← hA, ← hB, ← hO, ← hI] at q2
    rw [← hA] at q3 m1
    rw [← hB] at m2
    have cnt : ∀ (f : F) (n : Nat), n = numF f → ∀ x v, IsF x v f → Calls Try.prog 29 #[v, .int .i64 24] x fun e w' => e = .returned (.tuple #[.int .u64 n, .int .i64 0]) ∧ Near x w' := fun f n hn x v hx => by
      rw [hn]
      exact count_f hx
    have HCA := Lib.hid (cnt _ _ hA)
    have HCN := Lib.hid (cnt _ _ hN)
    have HCB := Lib.hid (cnt _ _ hB)
    have HCO := Lib.hid (cnt _ _ hO)
    have HCI := Lib.hid (cnt _ _ hI)
    have e1 : IntKind.u64.wrap ((nA : Int) + nN) = 16777216 := by rw [IntWalk.u64_in _ (by omega)]; omega
    have e2 : IntKind.u64.wrap ((nA : Int) + nB) = ((nA + nB : Nat) : Int) := by rw [IntWalk.u64_in _ (by omega)]; omega
    have e3 : IntKind.u64.wrap ((nO : Int) + nI) = ((nA + nB : Nat) : Int) := by rw [IntWalk.u64_in _ (by omega)]; omega
    generalize nA + nB = nS at e2 e3
    clear hn ha hb hz hem hA hN hB hO hI cnt q1 q2 m1 m2
    go_wp2_with (first
      | (go_at_call 17; refine (wakes_calls _).mono ?_; rintro e x20 ⟨rfl, n20⟩)
      | (go_at_call 35; refine (HEM.out _ (HFA.out.near HN18.out)).mono ?_; rintro e x19 ⟨rfl, n⟩; have HN19 := Lib.hid (HN18.out.trans n); clear n; replace pa0 := HN19.out.cell HA0.out; replace pa1 := HN19.out.cell HA1.out; replace pb0 := HN19.out.cell HB0.out; replace pb1 := HN19.out.cell HB1.out)
      | (go_at_call 29; refine (HCI.out _ _ HD17.out).mono ?_; rintro e x18 ⟨rfl, n⟩; have HN18 := Lib.hid (HN17.out.trans n); clear n; replace pa0 := HN18.out.cell HA0.out; replace pa1 := HN18.out.cell HA1.out; replace pb0 := HN18.out.cell HB0.out; replace pb1 := HN18.out.cell HB1.out)
      | (go_at_call 34; refine (and_f (HFA.out.near HN16.out) (HFB.out.near HN16.out)).mono ?_; rintro e x17 ⟨v17, rfl, d, n⟩; obtain ⟨p17, q17, r17, s17, rfl⟩ := d.form; have HD17 := Lib.hid d; have HN17 := Lib.hid (HN16.out.trans n); clear d n; replace pa0 := HN17.out.cell HA0.out; replace pa1 := HN17.out.cell HA1.out; replace pb0 := HN17.out.cell HB0.out; replace pb1 := HN17.out.cell HB1.out)
      | (go_at_call 29; refine (HCO.out _ _ HD15.out).mono ?_; rintro e x16 ⟨rfl, n⟩; have HN16 := Lib.hid (HN15.out.trans n); clear n; replace pa0 := HN16.out.cell HA0.out; replace pa1 := HN16.out.cell HA1.out; replace pb0 := HN16.out.cell HB0.out; replace pb1 := HN16.out.cell HB1.out)
      | (go_at_call 33; refine (or_f (HFA.out.near HN14.out) (HFB.out.near HN14.out)).mono ?_; rintro e x15 ⟨v15, rfl, d, n⟩; obtain ⟨p15, q15, r15, s15, rfl⟩ := d.form; have HD15 := Lib.hid d; have HN15 := Lib.hid (HN14.out.trans n); clear d n; replace pa0 := HN15.out.cell HA0.out; replace pa1 := HN15.out.cell HA1.out; replace pb0 := HN15.out.cell HB0.out; replace pb1 := HN15.out.cell HB1.out)
      | (go_at_call 29; refine (HCB.out _ _ (HFB.out.near HN13.out)).mono ?_; rintro e x14 ⟨rfl, n⟩; have HN14 := Lib.hid (HN13.out.trans n); clear n; replace pa0 := HN14.out.cell HA0.out; replace pa1 := HN14.out.cell HA1.out; replace pb0 := HN14.out.cell HB0.out; replace pb1 := HN14.out.cell HB1.out)
      | (go_at_call 29; refine (HCN.out _ _ HD12.out).mono ?_; rintro e x13 ⟨rfl, n⟩; have HN13 := Lib.hid (HN12.out.trans n); clear n; replace pa0 := HN13.out.cell HA0.out; replace pa1 := HN13.out.cell HA1.out; replace pb0 := HN13.out.cell HB0.out; replace pb1 := HN13.out.cell HB1.out)
      | (go_at_call 32; refine (not_f (HFA.out.near HN11.out)).mono ?_; rintro e x12 ⟨v12, rfl, d, n⟩; obtain ⟨p12, q12, r12, s12, rfl⟩ := d.form; have HD12 := Lib.hid d; have HN12 := Lib.hid (HN11.out.trans n); clear d n; replace pa0 := HN12.out.cell HA0.out; replace pa1 := HN12.out.cell HA1.out; replace pb0 := HN12.out.cell HB0.out; replace pb1 := HN12.out.cell HB1.out)
      | (go_at_call 29; refine (HCA.out _ _ HFA.out).mono ?_; rintro e x11 ⟨rfl, n⟩; have HN11 := Lib.hid (n); clear n; replace pa0 := HN11.out.cell HA0.out; replace pa1 := HN11.out.cell HA1.out; replace pb0 := HN11.out.cell HB0.out; replace pb1 := HN11.out.cell HB1.out))
    go_ret
    exact ⟨rfl, (HNW.out.trans HN19.out).trans n20⟩
  · have hd : decide (ThreeOk l) = false := decide_eq_false hok
    have HD := Lib.hid hd
    clear hd hok
    go_enter Try.func7, Try.ntmps7
    go_wp2_with (first
      | (go_at_call 31; refine H3.out.mono ?_; rintro e w3 h3; obtain ⟨a1, a2, a3, a4, b1, b2, b3, b4, c1, c2, c3, c4, rfl, ia, ib, ic, n3⟩ := h3.mk; rw [HD.out]; have HN3 := Lib.hid n3; clear ia ib ic n3)
      | (go_at_call 17; refine (wakes_calls _).mono ?_; rintro e w4 ⟨rfl, n4⟩))
    go_ret
    exact ⟨rfl, (((HN3.out.alloc _).alloc _).alloc _).trans n4⟩

end Go.Proofs.Ytefclohjeompkaa

/- What laws of sets lean on: contracts whose answer is known. -/
namespace Go.Proofs.Ytefclohjeompkaa
open Go Go.RowKit Go.Proofs.Gen Go.Proofs.Bdd Go.Proofs.Bdd.T

theorem empty_true {w : World} {v : Value} {f : F} (h : IsF w v f) (hf : ∀ c, f c = false) : Calls Try.prog 35 #[v] w fun e w' => e = .returned (.bool true) ∧ Near w w' := by
  have e : nowhere f = true := nowhere_iff.2 hf
  rw [← e]
  exact empty_f h

theorem full_true {w : World} {v : Value} {f : F} (h : IsF w v f) (hf : ∀ c, f c = true) : Calls Try.prog 49 #[v] w fun e w' => e = .returned (.bool true) ∧ Near w w' := by
  obtain ⟨t, hd, he⟩ := h
  have ht : t = leaf true := canon hd.1 trivial fun c => (he c).trans (hf c)
  have := full_calls hd
  rwa [decide_eq_true ht] at this

theorem within_is {w : World} {va vb : Value} {f g : F} {q : Bool} (ha : IsF w va f) (hb : IsF w vb g) (hq : q = nowhere (fun c => f c && !g c)) : Calls Try.prog 47 #[va, vb] w fun e w' => e = .returned (.bool q) ∧ Near w w' := by
  subst hq
  exact within_f ha hb
theorem same_is {w : World} {va vb : Value} {f g : F} {q : Bool} (ha : IsF w va f) (hb : IsF w vb g) (hq : q = sameF f g) : Calls Try.prog 52 #[va, vb] w fun e w' => e = .returned (.bool q) ∧ Near w w' := by
  subst hq
  exact same_f ha hb
theorem meets_is {w : World} {va vb : Value} {f g : F} {q : Bool} (ha : IsF w va f) (hb : IsF w vb g) (hq : q = nowhere (fun c => f c && g c)) : Calls Try.prog 53 #[va, vb] w fun e w' => e = .returned (.bool (!q)) ∧ Near w w' := by
  subst hq
  exact meets_f ha hb

theorem nowhere_congr {f g : F} (h : ∀ c, f c = g c) : nowhere f = nowhere g := by rw [show f = g from funext h]
theorem nowhere_same (f g : F) : nowhere (fun c => f c && !g c) = sameF (fun c => f c || g c) g := by
  rw [Bool.eq_iff_iff, nowhere_iff, sameF_iff]
  refine forall_congr' fun c => ?_
  cases f c <;> cases g c <;> simp

/-- Three sets laid in a row. -/
theorem sets3 {w : World} {a0 a1 b0 b1 c0 c1 : Value} {f g h : F} (ha : IsF w (.agg #[a0, a1]) f) (hb : IsF w (.agg #[b0, b1]) g) (hc : IsF w (.agg #[c0, c1]) h) :
    Sets 31 IsF 0 (w.alloc (.cells #[a0, a1, b0, b1, c0, c1] 31)) (.slice (some ⟨w.heap.size, 0, none⟩) 3 3) [f, g, h] := by
  have hn := (Near.refl w).alloc (.cells #[a0, a1, b0, b1, c0, c1] 31)
  refine ⟨[(a0, a1), (b0, b1), (c0, c1)], ⟨rfl, .inr ⟨w.heap.size, 3, _, rfl, Nat.zero_le _, heap_new_at rfl, Nat.le_refl _, by unfold maxLen; omega, rfl, rfl⟩⟩, rfl, fun j k p h1 h2 => ?_⟩
  match j, h1, h2 with
  | 0, h1, h2 => cases h1; cases h2; exact ha.near hn
  | 1, h1, h2 => cases h1; cases h2; exact hb.near hn
  | 2, h1, h2 => cases h1; cases h2; exact hc.near hn
  | j + 3, h1, h2 => simp at h1

end Go.Proofs.Ytefclohjeompkaa

/- Quantified features: the plain laws; the support by function. -/
namespace Go.Proofs.Ytefclohjeompkaa
open Go Go.RowKit Go.Proofs.Gen Go.Proofs.Bdd Go.Proofs.Bdd.T

theorem updI_self (c : Nat → Bool) (i : Nat) : updI c i (c i) = c := by
  funext j
  unfold updI
  split
  · rename_i h
    rw [show j = i by omega]
  · rfl
theorem updI_updI (c : Nat → Bool) (i : Nat) (a b : Bool) : updI (updI c i a) i b = updI c i b := by
  funext j
  unfold updI
  split <;> rfl
theorem updI_other (c : Nat → Bool) {i j : Nat} (b : Bool) (h : j ≠ i) : updI c i b j = c j := by
  unfold updI
  rw [if_neg (by omega)]
theorem updI_upd (c : Nat → Bool) (i : Nat) (b : Bool) : updI c i b = upd c i b := by
  funext j
  unfold updI upd
  by_cases h : j = i
  · rw [if_pos (by omega), if_pos h]
  · rw [if_neg (by omega), if_neg h]

abbrev exF (xs : List Nat) (f : F) : F := qF (fun p q => p || q) xs f
abbrev faF (xs : List Nat) (f : F) : F := qF (fun p q => p && q) xs f

theorem exF_iff : ∀ (xs : List Nat) (f : F) (c : Nat → Bool), exF xs f c = true ↔ ∃ d : Nat → Bool, (∀ i, i ∉ xs → d i = c i) ∧ f d = true
  | [], f, c => by
    constructor
    · intro h
      exact ⟨c, fun _ _ => rfl, h⟩
    · rintro ⟨d, hd, h⟩
      have e : d = c := funext fun i => hd i (by simp)
      subst e
      exact h
  | x :: xs, f, c => by
    have ih := exF_iff xs (fun c => f (updI c x false) || f (updI c x true)) c
    show exF xs _ c = true ↔ _
    rw [ih]
    constructor
    · rintro ⟨d, hd, h⟩
      rw [Bool.or_eq_true] at h
      have one : ∀ b, f (updI d x b) = true → ∃ d' : Nat → Bool, (∀ i, i ∉ x :: xs → d' i = c i) ∧ f d' = true := fun b hb => by
        refine ⟨updI d x b, fun i hi => ?_, hb⟩
        rw [List.mem_cons, not_or] at hi
        rw [updI_other _ _ hi.1]
        exact hd i hi.2
      rcases h with h | h
      · exact one _ h
      · exact one _ h
    · rintro ⟨d, hd, h⟩
      refine ⟨updI d x (c x), fun i hi => ?_, ?_⟩
      · by_cases e : i = x
        · subst e
          unfold updI
          rw [if_pos rfl]
        · rw [updI_other _ _ e]
          exact hd i (by simp [e, hi])
      · rw [updI_updI, updI_updI, Bool.or_eq_true]
        have hs := updI_self d x
        cases hx : d x with
        | false => rw [hx] at hs; exact .inl (by rw [hs]; exact h)
        | true => rw [hx] at hs; exact .inr (by rw [hs]; exact h)

theorem faF_not : ∀ (xs : List Nat) (f : F) (c : Nat → Bool), faF xs f c = !exF xs (fun c => !f c) c
  | [], f, c => by show f c = !(!f c); simp
  | x :: xs, f, c => by
    have ih := faF_not xs (fun c => f (updI c x false) && f (updI c x true)) c
    show faF xs _ c = !exF xs _ c
    rw [ih]
    congr 2
    funext e
    simp [Bool.not_and]

theorem ex_in (xs : List Nat) (f : F) : nowhere (fun c => f c && !exF xs f c) = true := by
  rw [nowhere_iff]
  intro c
  cases h : f c
  · rfl
  · rw [(exF_iff xs f c).2 ⟨c, fun _ _ => rfl, h⟩]
    rfl
theorem fa_in (xs : List Nat) (f : F) : nowhere (fun c => faF xs f c && !f c) = true := by
  rw [nowhere_iff]
  intro c
  rw [faF_not]
  cases h : f c
  · rw [(exF_iff xs (fun c => !f c) c).2 ⟨c, fun _ _ => rfl, by simp [h]⟩]
    rfl
  · simp

theorem ex_or (xs : List Nat) (f g : F) (c : Nat → Bool) : exF xs (fun c => f c || g c) c = (exF xs f c || exF xs g c) := by
  rw [Bool.eq_iff_iff, Bool.or_eq_true, exF_iff, exF_iff, exF_iff]
  constructor
  · rintro ⟨d, hd, h⟩
    rw [Bool.or_eq_true] at h
    exact h.imp (fun h => ⟨d, hd, h⟩) (fun h => ⟨d, hd, h⟩)
  · rintro (⟨d, hd, h⟩ | ⟨d, hd, h⟩)
    · exact ⟨d, hd, by simp [h]⟩
    · exact ⟨d, hd, by simp [h]⟩
theorem ex_ex (xs : List Nat) (f : F) (c : Nat → Bool) : exF xs (exF xs f) c = exF xs f c := by
  rw [Bool.eq_iff_iff, exF_iff, exF_iff]
  constructor
  · rintro ⟨d, hd, h⟩
    obtain ⟨d', hd', h'⟩ := (exF_iff xs f d).1 h
    exact ⟨d', fun i hi => (hd' i hi).trans (hd i hi), h'⟩
  · rintro ⟨d, hd, h⟩
    exact ⟨c, fun _ _ => rfl, (exF_iff xs f c).2 ⟨d, hd, h⟩⟩

theorem ex_dep {xs : List Nat} {i : Nat} (hi : i ∈ xs) (f : F) : dep (exF xs f) i = false := by
  rw [Bool.eq_false_iff]
  intro h
  obtain ⟨c, hc⟩ := dep_true.1 h
  refine hc ?_
  rw [Bool.eq_iff_iff, exF_iff, exF_iff]
  have one : ∀ a b, (∃ d : Nat → Bool, (∀ j, j ∉ xs → d j = upd c i a j) ∧ f d = true) → ∃ d : Nat → Bool, (∀ j, j ∉ xs → d j = upd c i b j) ∧ f d = true := by
    rintro a b ⟨d, hd, h⟩
    refine ⟨d, fun j hj => ?_, h⟩
    have hne : j ≠ i := fun e => hj (e ▸ hi)
    rw [hd j hj, upd_other _ _ hne, upd_other _ _ hne]
  exact ⟨one _ _, one _ _⟩
theorem fa_dep {xs : List Nat} {i : Nat} (hi : i ∈ xs) (f : F) : dep (faF xs f) i = false := by
  rw [dep_congr (faF_not xs f)]
  rw [Bool.eq_false_iff]
  intro h
  obtain ⟨c, hc⟩ := dep_true.1 h
  have h0 := ex_dep hi (fun c => !f c)
  rw [Bool.eq_false_iff] at h0
  exact h0 (dep_true.2 ⟨c, fun e => hc (by rw [e])⟩)
theorem with_dep (f : F) (n : Nat) (b : Bool) : dep (fun c => f (updI c n b)) n = false := by
  rw [Bool.eq_false_iff]
  intro h
  obtain ⟨c, hc⟩ := dep_true.1 h
  refine hc ?_
  rw [← updI_upd, ← updI_upd, updI_updI, updI_updI]

theorem feats_one {n : Nat} (h : n < 24) : feats (2 ^ n) = [n] := by
  unfold feats featsTo
  have e : (fun i => (2 ^ n).testBit i) = fun i => decide (n = i) := funext fun i => by rw [Nat.testBit_two_pow]
  rw [e]
  have : ∀ n, n < 24 → (List.range 24).filter (fun i => decide (n = i)) = [n] := by decide
  exact this n h

theorem support_f {w : World} {v : Value} {f : F} (h : IsF w v f) : ∃ s : Nat, s < 16777216 ∧ (∀ i, s.testBit i = dep f i) ∧ Calls Try.prog 44 #[v] w fun e w' => e = .returned (.int .u32 s) ∧ Near w w' := by
  obtain ⟨t, hd, he⟩ := h
  have hf : f = t.ev := funext fun c => (he c).symm
  subst hf
  refine ⟨sup (nodes t), sup_lt fun u hu => ?_, sup_dep hd.1, support_calls hd⟩
  obtain ⟨hn, ok⟩ := (nodes_good hd.1).all u hu
  cases u with
  | leaf b => exact hn.elim
  | node i l h => exact ok.1

end Go.Proofs.Ytefclohjeompkaa

/- The reference's Changed: the plain facts. -/
namespace Go.Proofs.Ytefclohjeompkaa
open Go Go.RowKit Go.Proofs.Gen Go.Proofs.Bdd Go.Proofs.Bdd.T

/-- What the inner loop keeps, behind j indices: a says which indices are looked at, g what the table says there. -/
def chg (every : Bool) (a g : Nat → Bool) : Nat → Bool
  | 0 => every
  | j + 1 => if a j then (if every then chg every a g j && g j else chg every a g j || g j) else chg every a g j

theorem chg_false (a g : Nat → Bool) : ∀ n, chg false a g n = true ↔ ∃ j, j < n ∧ a j = true ∧ g j = true
  | 0 => by simp [chg]
  | n + 1 => by
    have ih := chg_false a g n
    unfold chg
    constructor
    · intro h
      by_cases ha : a n = true
      · simp only [ha, if_true, Bool.false_eq_true, if_false, Bool.or_eq_true] at h
        rcases h with h | h
        · obtain ⟨j, h1, h2⟩ := ih.1 h
          exact ⟨j, by omega, h2⟩
        · exact ⟨n, by omega, ha, h⟩
      · simp only [ha, Bool.false_eq_true, if_false] at h
        obtain ⟨j, h1, h2⟩ := ih.1 h
        exact ⟨j, by omega, h2⟩
    · rintro ⟨j, h1, h2, h3⟩
      by_cases e : j = n
      · subst e
        simp [h2, h3]
      · have := ih.2 ⟨j, by omega, h2, h3⟩
        simp [this]

theorem chg_true (a g : Nat → Bool) : ∀ n, chg true a g n = !chg false a (fun j => !g j) n
  | 0 => rfl
  | n + 1 => by
    have ih := chg_true a g n
    unfold chg
    rw [ih]
    cases a n <;> cases chg false a (fun j => !g j) n <;> cases g n <;> rfl

theorem exF_V {V : List Nat} {f : F} (hf : ∀ c d : Nat → Bool, (∀ i ∈ V, c i = d i) → f c = f d) (xs : List Nat) {c c' : Nat → Bool} (h : ∀ i ∈ V, c i = c' i) : exF xs f c = exF xs f c' := by
  have one : ∀ c c' : Nat → Bool, (∀ i ∈ V, c i = c' i) → exF xs f c = true → exF xs f c' = true := fun c c' h he => by
    obtain ⟨d, hd, hfd⟩ := (exF_iff xs f c).1 he
    refine (exF_iff xs f c').2 ⟨fun i => if i ∈ V then d i else c' i, fun i hi => ?_, ?_⟩
    · simp only
      split
      · rename_i hv
        rw [hd i hi, h i hv]
      · rfl
    · rw [← hfd]
      exact hf _ _ fun i hi => by simp [hi]
  rw [Bool.eq_iff_iff]
  exact ⟨one c c' h, one c' c fun i hi => (h i hi).symm⟩

theorem changed_ex {V : List Nat} (hV : Rising 0 V) {f : F} (hf : ∀ c d : Nat → Bool, (∀ i ∈ V, c i = d i) → f c = f d) (m k : Nat) {a : Nat → Bool}
    (ha : ∀ j, a j = true ↔ ∀ i, i < 24 → m.testBit i = false → (cfg V k).testBit i = (cfg V j).testBit i) : chg false a (fun j => f (cfg V j).testBit) (2 ^ V.length) = exF (feats m) f (cfg V k).testBit := by
  rw [Bool.eq_iff_iff, chg_false, exF_iff]
  have high : ∀ j i, 24 ≤ i → (cfg V j).testBit i = false := fun j i hi => Nat.testBit_lt_two_pow (Nat.lt_of_lt_of_le (cfg_lt hV j) (by rw [show (16777216 : Nat) = 2 ^ 24 by decide]; exact Nat.pow_le_pow_right (by omega) hi))
  constructor
  · rintro ⟨j, -, h1, h2⟩
    refine ⟨(cfg V j).testBit, fun i hi => ?_, h2⟩
    by_cases h24 : i < 24
    · refine ((ha j).1 h1 i h24 ?_).symm
      cases hb : m.testBit i
      · rfl
      · exact (hi (feats_mem.2 ⟨h24, hb⟩)).elim
    · rw [high j i (by omega), high k i (by omega)]
  · rintro ⟨d, hd, h⟩
    have hb : ∀ i, (cfg V (idx V d)).testBit i = (V.contains i && d i) := fun i => by rw [cfg_bit hV, bitOf_idx]
    have hbk : ∀ i, i ∉ V → (cfg V k).testBit i = false := fun i hi => by rw [cfg_bit hV]; exact bitOf_not hi
    refine ⟨idx V d, idx_lt d V, (ha _).2 fun i hi hm => ?_, ?_⟩
    · rw [hb]
      have hnot : i ∉ feats m := fun h => by
        have := (feats_mem.1 h).2
        rw [hm] at this
        cases this
      by_cases hv : i ∈ V
      · rw [show V.contains i = true from List.contains_iff_mem.2 hv, Bool.true_and, hd i hnot]
      · rw [hbk i hv]
        have : V.contains i = false := by
          rw [Bool.eq_false_iff]
          exact fun h => hv (List.contains_iff_mem.1 h)
        rw [this]
        rfl
    · rw [← h]
      exact hf _ _ fun i hi => by rw [hb, List.contains_iff_mem.2 hi]; rfl

theorem changed_fa {V : List Nat} (hV : Rising 0 V) {f : F} (hf : ∀ c d : Nat → Bool, (∀ i ∈ V, c i = d i) → f c = f d) (m k : Nat) {a : Nat → Bool}
    (ha : ∀ j, a j = true ↔ ∀ i, i < 24 → m.testBit i = false → (cfg V k).testBit i = (cfg V j).testBit i) : chg true a (fun j => f (cfg V j).testBit) (2 ^ V.length) = faF (feats m) f (cfg V k).testBit := by
  rw [chg_true, faF_not, changed_ex (f := fun c => !f c) hV (fun c d h => by rw [hf c d h]) m k ha]

end Go.Proofs.Ytefclohjeompkaa

/- The reference's Changed (printed by gen_refx.py). -/
namespace Go.Proofs.Ytefclohjeompkaa
open Go Go.RowKit Go.Proofs.Gen Go.Proofs.Bdd Go.Proofs.Bdd.T

/-- Do the configurations of two indices agree off the features m? -/
def agr (V : List Nat) (m k j : Nat) : Bool := (cfg V k &&& (4294967295 - m)) == (cfg V j &&& (4294967295 - m))

theorem agr_iff {V : List Nat} (hV : Rising 0 V) {m : Nat} (hm : m < 4294967296) (k j : Nat) : agr V m k j = true ↔ ∀ i, i < 24 → m.testBit i = false → (cfg V k).testBit i = (cfg V j).testBit i := by
  have hb : ∀ i, (4294967295 - m).testBit i = (decide (i < 32) && !m.testBit i) := fun i => by
    have := Nat.testBit_two_pow_sub_succ (x := m) (n := 32) (by simpa using hm) i
    rwa [show 2 ^ 32 - (m + 1) = 4294967295 - m by omega] at this
  unfold agr
  rw [beq_iff_eq]
  constructor
  · intro h i hi h0
    have : (cfg V k &&& (4294967295 - m)).testBit i = (cfg V j &&& (4294967295 - m)).testBit i := by rw [h]
    rw [Nat.testBit_and, Nat.testBit_and, hb, h0] at this
    simpa [show i < 32 by omega] using this
  · intro h
    apply Nat.eq_of_testBit_eq
    intro i
    rw [Nat.testBit_and, Nat.testBit_and, hb]
    by_cases hi : i < 24
    · cases h0 : m.testBit i
      · rw [h i hi h0]
      · simp
    · have high : ∀ j, (cfg V j).testBit i = false := fun j => Nat.testBit_lt_two_pow (Nat.lt_of_lt_of_le (cfg_lt hV j) (by rw [show (16777216 : Nat) = 2 ^ 24 by decide]; exact Nat.pow_le_pow_right (by omega) (by omega)))
      rw [high, high]

set_option maxRecDepth 100000 in
set_option maxHeartbeats 1600000 in
theorem changed_table {w : World} {va : Value} {V : List Nat} {T0 : List Bool} (h : IsR w va V T0) (m : Nat) (hm : m < 4294967296) (every : Bool) :
    Calls Try.prog 129 #[va, .int .u32 m, .bool every] w fun e w' => ∃ v, e = .returned v ∧ IsR w' v V (tabTo (2 ^ V.length) (fun k => chg every (agr V m k) (fun j => T0.getD j false) (2 ^ V.length)) (2 ^ V.length)) ∧ Below w.heap.size w w' := by
  obtain ⟨T, hTT⟩ : ∃ T, T = T0 := ⟨_, rfl⟩
  rw [← hTT] at h ⊢
  clear hTT
  obtain ⟨hV, hT, sv, st, rfl, r1, r2⟩ := h
  obtain ⟨ao, cap, rfl⟩ := owns_form r1
  obtain ⟨co, ccp, rfl⟩ := owns_form r2
  have R1 := Lib.hid r1
  have R2 := Lib.hid r2
  have HV := Lib.hid hV
  have HTL := Lib.hid hT
  clear r1 r2 hV hT
  have N3 : Near w ((w.alloc (.cells #[.slice ao V.length cap, .slice co T.length ccp] 37)).alloc (.cells #[.slice none 0 0, .slice none 0 0] 37)) := ((Near.refl w).alloc _).alloc _
  have HN3 := Lib.hid N3
  have EA : ((w.alloc (.cells #[.slice ao V.length cap, .slice co T.length ccp] 37)).alloc (.cells #[.slice none 0 0, .slice none 0 0] 37)).heap[w.heap.size]? = some (.cells #[.slice ao V.length cap, .slice co T.length ccp] 37 (0, 0)) := by
    rw [heap_old_at (by simp), heap_new_at rfl]
  have EC : ((w.alloc (.cells #[.slice ao V.length cap, .slice co T.length ccp] 37)).alloc (.cells #[.slice none 0 0, .slice none 0 0] 37)).heap[w.heap.size + 1]? = some (.cells #[.slice none 0 0, .slice none 0 0] 37 (0, 0)) := heap_new_at (by simp)
  have hs3 : ((w.alloc (.cells #[.slice ao V.length cap, .slice co T.length ccp] 37)).alloc (.cells #[.slice none 0 0, .slice none 0 0] 37)).heap.size = w.heap.size + 1 + 1 := by simp
  have HEA := Lib.hid EA
  have HEC := Lib.hid EC
  have HS3 := Lib.hid hs3
  clear N3 EA EC hs3
  go_enter Try.func129, Try.ntmps129
  go_wp2_with (first
    | (go_at_call 127; refine (blank_calls HV.out (owns_kept R1.out HN3.out.kept (fun _ _ x => x))).mono ?_; rintro e w5 ⟨sn, rfl, rn, n5⟩; have RN := Lib.hid rn; clear rn; obtain ⟨no, ncp, rfl⟩ := owns_form RN.out))
  obtain ⟨tb, tcp, tcur, htv, htg, -, htb⟩ := row1' RN.out (k := 0) (u := .bool false) (by simp [Nat.two_pow_pos]) (Nat.two_pow_pos _)
  simp only [Value.slice.injEq, true_and] at htv
  obtain ⟨rfl, rfl⟩ := htv
  have htl : tb < w5.heap.size := (Array.getElem?_eq_some_iff.1 htg).1
  rw [HS3.out] at htb
  have W45 : Near w (w5.alloc (.cells #[.slice ao V.length cap, .slice (some ⟨tb, 0, none⟩) (2 ^ V.length) ncp] 37)) := (HN3.out.trans n5).alloc _
  have HWW := Lib.hid W45
  have EA4 := Lib.hid (heap_old_at (o := .cells #[.slice ao V.length cap, .slice (some ⟨tb, 0, none⟩) (2 ^ V.length) ncp] 37) (Array.getElem?_eq_some_iff.1 (keepN n5 HEA.out)).1 |>.trans (keepN n5 HEA.out))
  have EC4 := Lib.hid (heap_old_at (o := .cells #[.slice ao V.length cap, .slice (some ⟨tb, 0, none⟩) (2 ^ V.length) ncp] 37) (Array.getElem?_eq_some_iff.1 (keepN n5 HEC.out)).1 |>.trans (keepN n5 HEC.out))
  have EO : (w5.alloc (.cells #[.slice ao V.length cap, .slice (some ⟨tb, 0, none⟩) (2 ^ V.length) ncp] 37)).heap[w5.heap.size]? = some (.cells #[.slice ao V.length cap, .slice (some ⟨tb, 0, none⟩) (2 ^ V.length) ncp] 37 (0, 0)) := heap_new_at rfl
  have HEO := Lib.hid EO
  have RNW := Lib.hid (ownsRow_low (RN.out.alloc (.cells #[.slice ao V.length cap, .slice (some ⟨tb, 0, none⟩) (2 ^ V.length) ncp] 37)) (Nat.zero_le _))
  have hWs : w5.heap.size < (w5.alloc (.cells #[.slice ao V.length cap, .slice (some ⟨tb, 0, none⟩) (2 ^ V.length) ncp] 37)).heap.size := by simp
  have lV := HV.out.len
  have hw5 := n5.size'
  rw [HS3.out] at hw5
  clear W45 EO RN HEA HEC n5 htg HN3 HS3
  obtain ⟨N, hN⟩ : ∃ N, N = 2 ^ V.length := ⟨_, rfl⟩
  have hNb : N ≤ 16777216 := by
    have hp : (2 : Nat) ^ V.length ≤ 2 ^ 24 := Nat.pow_le_pow_right (by omega) (by omega)
    have e24 : (2 : Nat) ^ 24 = 16777216 := by decide
    omega
  have hTN : T.length = N := by rw [HTL.out, hN]
  rw [← hN] at hWs HWW HEO RNW EA4 EC4 ⊢
  have HNN := Lib.hid hN
  clear hN
  generalize (w5.alloc (.cells #[.slice ao V.length cap, .slice (some ⟨tb, 0, none⟩) N ncp] 37)) = W at hWs HWW HEO RNW EA4 EC4 ⊢
  rw [hTN] at R2 EA4 ⊢
  have HTN := Lib.hid hTN
  clear hTN
  have HG : ∃ g : Nat → Bool, g = fun k => chg every (agr V m k) (fun j => T.getD j false) N := ⟨_, rfl⟩
  obtain ⟨g, hg⟩ := HG
  have HG := Lib.hid hg
  clear hg
  go_loopw [8] (fun i wr => ∃ k : Nat, k ≤ N ∧ i = .int .i64 k ∧ wr.ownsRow 0 4 1 (.slice (some ⟨tb, 0, none⟩) N ncp) N ((tabTo N g k).map Value.bool) ∧ Kept (fun b => b = tb) W wr) (fun i _ => N - (intOf i).toNat)
  case atStart =>
    refine ⟨0, Nat.zero_le _, rfl, ?_, Kept.refl _ _⟩
    rw [tabTo_zero]
    exact RNW.out
  case round =>
    obtain ⟨k, hk, rfl, hown, hkp⟩ := hrel
    have z0 : Near w wr := Kept.mono ((HWW.out.kept (S := fun b => b = tb)).trans hkp) (fun b hb e => by omega)
    have xo' : wr.heap[w5.heap.size]? = some (.cells #[.slice ao V.length cap, .slice (some ⟨tb, 0, none⟩) N ncp] 37 (0, 0)) := (hkp.block _ hWs (by omega)).trans HEO.out
    have xa' : wr.heap[w.heap.size]? = some (.cells #[.slice ao V.length cap, .slice co N ccp] 37 (0, 0)) := (hkp.block _ (by omega) (by omega)).trans EA4.out
    have o0 := cell1 (o := 0) xo' rfl
    have o1 := cell1 (o := 1) xo' rfl
    have a0 := cell1 (o := 0) xa' rfl
    have a1 := cell1 (o := 1) xa' rfl
    have HOwn := Lib.hid hown
    have HXO := Lib.hid xo'
    have HXA := Lib.hid xa'
    clear xo' xa' hown
    by_cases hlt : k < N
    · have hlt' : (k : Int) < N := by omega
      obtain ⟨tcur', htk, u0, hu0⟩ : ∃ cur, wr.heap[tb]? = some (.cells cur 4 (0, 0)) ∧ ∃ u, cur[k]? = some u := by
        obtain ⟨g', c', cur, e, hg', hc', _⟩ := row1' HOwn.out (k := k) (u := .bool ((tabTo N g k)[k]'(by rw [tabTo_len]; exact hlt))) (by rw [List.getElem?_map, List.getElem?_eq_getElem (by rw [tabTo_len]; exact hlt)]; rfl) hlt
        cases e
        exact ⟨cur, hg', _, hc'⟩
      have t0 := cell1 htk hu0
      have tf := free1 htk k
      have hts : ((tabTo N g (k + 1)).map Value.bool) = ((tabTo N g k).map Value.bool).set k (.bool (g k)) := by rw [tabTo_succ, List.map_set]
      have HTS := Lib.hid hts
      have HTK := Lib.hid htk
      have HU0 := Lib.hid hu0
      clear hts htk hu0 t0 tf
      go_wp2_with (first
        | (go_at_call 83; refine (config_calls HV.out (by omega) (owns_kept R1.out z0.kept (fun _ _ x => x)) k (by omega)).mono ?_; rintro e w6 ⟨rfl, n6⟩; have HN6 := Lib.hid n6; clear n6))
      have Z6 := Lib.hid (z0.trans HN6.out)
      have HKP := Lib.hid hkp
      clear o0 o1 a0 a1 z0 hkp
      go_loopw [10, 11] (fun p j wi => ∃ q : Nat, q ≤ N ∧ j = .int .i64 q ∧ p = .bool (chg every (agr V m k) (fun j => T.getD j false) q) ∧ Near w6 wi) (fun _ j _ => N - (intOf j).toNat)
      case atStart => exact ⟨0, Nat.zero_le _, rfl, rfl, Near.refl _⟩
      case round =>
        obtain ⟨q, hq, rfl, rfl, hni⟩ := hrel
        have HNi := Lib.hid (HN6.out.trans hni)
        have HWi := Lib.hid (Z6.out.trans hni)
        have HNs := Lib.hid hni
        clear hni
        have a0 := cell1 (o := 0) (keepN HNi.out HXA.out) rfl
        have a1 := cell1 (o := 1) (keepN HNi.out HXA.out) rfl
        by_cases hqn : q < N
        · have hqn' : (q : Int) < N := by omega
          obtain ⟨tq, htq⟩ : ∃ b, b = T.getD q false := ⟨_, rfl⟩
          obtain ⟨gT, cT, curT, eT, hgT, hcT, _⟩ := row1' R2.out (k := q) (u := .bool tq) (by
            have hl : q < T.length := by rw [HTN.out]; exact hqn
            rw [List.getElem?_map, List.getElem?_eq_getElem hl, htq, List.getD_eq_getElem?_getD, List.getElem?_eq_getElem hl]
            rfl) hqn
          simp only [Value.slice.injEq, true_and] at eT
          obtain ⟨rfl, rfl⟩ := eT
          have HCT := Lib.hid (cell1 hgT hcT)
          obtain ⟨p, hp⟩ : ∃ b, b = chg every (agr V m k) (fun j => T.getD j false) q := ⟨_, rfl⟩
          obtain ⟨ag, hag⟩ : ∃ b, b = agr V m k q := ⟨_, rfl⟩
          have hnext : chg every (agr V m k) (fun j => T.getD j false) (q + 1) = if ag = true then (if every = true then p && tq else p || tq) else p := by rw [hp, hag, htq]; rfl
          have hne : (bits .andNot .u32 ((cfg V k : Nat) : Int) (m : Int) != bits .andNot .u32 ((cfg V q : Nat) : Int) (m : Int)) = !ag := by
            rw [u32_andNot_nat _ _ (by have := cfg_lt HV.out k; omega) hm, u32_andNot_nat _ _ (by have := cfg_lt HV.out q; omega) hm, hag]
            unfold agr
            rw [Bool.eq_iff_iff]
            simp only [bne_iff_ne, Bool.not_eq_true', beq_eq_false_iff_ne, ne_eq]
            omega
          rw [← hp]
          have HNext := Lib.hid hnext
          have HM := Lib.hid hm
          clear hnext hp hag htq hgT hcT hm
          cases ag <;> cases every <;> cases p <;> cases tq
          all_goals
            go_wp2_with (first
              | (go_at_call 83; refine (config_calls HV.out (by omega) (owns_kept R1.out HWi.out.kept (fun _ _ x => x)) q (by omega)).mono ?_; rintro e w8 ⟨rfl, n8⟩; have b0 := cell1 (o := 0) (keepN n8 (keepN HNi.out HXA.out)) rfl; have b1 := cell1 (o := 1) (keepN n8 (keepN HNi.out HXA.out)) rfl; have ct := (HWi.out.trans n8).cell HCT.out))
            exact ⟨⟨q + 1, hqn, by go_num, by rw [HNext.out]; rfl, HNs.out.trans n8⟩, by simp [intOf]; omega⟩
        · have hqN : q = N := by omega
          subst hqN
          have hgk : g k = chg every (agr V m k) (fun j => T.getD j false) q := by rw [HG.out]
          have p1 := cell1 (o := 1) (keepN HNi.out HXO.out) rfl
          have t0 := cell1 (keepN HNi.out HTK.out) HU0.out
          have tf := free1 (keepN HNi.out HTK.out) k
          have hend : ((fun wz : World => wz.ownsRow 0 4 1 (.slice (some ⟨tb, 0, none⟩) q ncp) q ((tabTo q g (k + 1)).map Value.bool) ∧ Kept (fun b => b = tb) W wz) (World.setCell wr ⟨tb, k, none⟩ (.bool (chg every (agr V m k) (fun j => T.getD j false) q)))) := by
            rw [← hgk, HTS.out]
            exact ⟨((owns_kept HOwn.out HNi.out.kept (fun _ _ x => x)).stored k _).1, (HKP.out.trans HNi.out.kept).setCell (fun _ => rfl) _⟩
          have HEnd := Lib.hid hend
          clear hend hgk
          go_wp2_with fail
          exact ⟨⟨k + 1, by omega, by go_num, HEnd.out.1, HEnd.out.2⟩, by simp [intOf]; omega⟩
    · have hkN : k = N := by omega
      subst hkN
      have rc := (hkp.block _ (by omega) (by omega)).trans EC4.out
      have c0 := cell1 (o := 0) rc rfl
      have c1 := cell1 (o := 1) rc rfl
      have f0 := free1 rc 0
      have f1 := free1 rc 1
      have R1r := owns_kept (R := fun _ => False) R1.out z0.kept (fun _ _ x => x)
      have ne1 := owns_ne R1r rc (by decide : (3 : Nat) ≠ 37)
      have ne2 := owns_ne HOwn.out rc (by decide : (4 : Nat) ≠ 37)
      have RX3 := Lib.hid R1r
      clear R1r
      go_wp2_with fail
      have e1 := HNN.out
      have e2 := HG.out
      refine bodyPost_ret (v := .agg #[.slice ao V.length cap, .slice (some ⟨tb, 0, none⟩) k ncp]) (by simp [results, Try.results129, go_sem, c0, c1]) rfl ⟨_, rfl, ?_, (((z0.below).setCell (by show w.heap.size ≤ w.heap.size + 1; omega) _).setCell (by show w.heap.size ≤ w.heap.size + 1; omega) _)⟩
      refine ⟨HV.out, by rw [tabTo_len], _, _, rfl, ownsRow_setCell_other (ownsRow_setCell_other RX3.out ne1 _) ne1 _, ?_⟩
      rw [tabTo_len, ← e1, ← e2]
      exact ownsRow_setCell_other (ownsRow_setCell_other HOwn.out ne2 _) ne2 _

end Go.Proofs.Ytefclohjeompkaa

/- The reference's Changed, by function. -/
namespace Go.Proofs.Ytefclohjeompkaa
open Go Go.RowKit Go.Proofs.Gen Go.Proofs.Bdd Go.Proofs.Bdd.T

theorem chg_congr {every : Bool} {a g g' : Nat → Bool} : ∀ n, (∀ j, j < n → g j = g' j) → chg every a g n = chg every a g' n
  | 0, _ => rfl
  | n + 1, h => by
    have ih := chg_congr (every := every) (a := a) n fun j hj => h j (by omega)
    unfold chg
    rw [ih, h n (by omega)]

theorem rchanged_f {w : World} {va : Value} {V : List Nat} {f : F} (h : IsS w va V f) {m : Nat} (hm : m < 4294967296) (every : Bool) :
    Calls Try.prog 129 #[va, .int .u32 m, .bool every] w (SPost w V (if every = true then faF (feats m) f else exF (feats m) f)) := by
  obtain ⟨T, hr, hf⟩ := h
  have hV := hr.rise
  have hc : ∀ c d : Nat → Bool, (∀ i ∈ V, c i = d i) → f c = f d := fun c d h => by
    rw [← hf, ← hf]
    exact rf_congr h
  refine (changed_table hr m hm every).mono ?_
  rintro e w' ⟨v, rfl, hv, hb⟩
  refine ⟨v, rfl, ⟨_, hv, fun c => ?_⟩, hb⟩
  rw [tabTo_rf, chg_congr (g' := fun j => f (cfg V j).testBit) (2 ^ V.length) fun j hj => by
    rw [← hf]
    unfold rf
    rw [idx_cfg hV hj]]
  have hag : ∀ i ∈ V, (cfg V (idx V c)).testBit i = c i := fun i hi => cfg_idx hV c hi
  cases every with
  | false =>
    rw [changed_ex hV hc m (idx V c) (agr_iff hV hm _), if_neg (by decide)]
    exact exF_V hc _ hag
  | true =>
    rw [changed_fa hV hc m (idx V c) (agr_iff hV hm _), if_pos rfl, faF_not, faF_not, exF_V (f := fun c => !f c) (fun c d h => by rw [hc c d h]) _ hag]

end Go.Proofs.Ytefclohjeompkaa

/- The reference's operations by function: contracts over IsG. -/
namespace Go.Proofs.Ytefclohjeompkaa
open Go Go.RowKit Go.Proofs.Gen Go.Proofs.Bdd Go.Proofs.Bdd.T

def GPost (w : World) (f : F) (e : Ending) (w' : World) : Prop := ∃ v, e = .returned v ∧ IsG w' v f ∧ Near w w'

theorem SPost.g {w w' : World} {V : List Nat} {f g : F} {e : Ending} (h : SPost w V f e w') (hg : ∀ c, f c = g c) : GPost w g e w' := by
  obtain ⟨v, he, hs, hb⟩ := h
  have e : f = g := funext hg
  exact ⟨v, he, ⟨V, e ▸ hs⟩, Near.of_below hb⟩

theorem const_g (b : Bool) (w : World) : Calls Try.prog 80 #[.bool b] w (GPost w (fun _ => b)) := (const_calls b w).mono fun _ _ h => h.g fun _ => rfl
theorem cube_g {w : World} {on off : Nat} (h1 : on < 4294967296) (h2 : off < 4294967296) : Calls Try.prog 82 #[.int .u32 on, .int .u32 off] w (GPost w (cubeF on off)) := (rcube_f h1 h2).mono fun _ _ h => h.g fun _ => rfl
theorem not_g {w : World} {va : Value} {f : F} (ha : IsG w va f) : Calls Try.prog 126 #[va] w (GPost w (fun c => !f c)) := let ⟨_, h⟩ := ha; (rnot_calls h).mono fun _ _ h => h.g fun _ => rfl
theorem and_g {w : World} {va vb : Value} {f g : F} (ha : IsG w va f) (hb : IsG w vb g) : Calls Try.prog 56 #[va, vb] w (GPost w (fun c => f c && g c)) := let ⟨_, h⟩ := ha; let ⟨_, k⟩ := hb; (rand_calls h k).mono fun _ _ h => h.g fun _ => rfl
theorem or_g {w : World} {va vb : Value} {f g : F} (ha : IsG w va f) (hb : IsG w vb g) : Calls Try.prog 125 #[va, vb] w (GPost w (fun c => f c || g c)) := let ⟨_, h⟩ := ha; let ⟨_, k⟩ := hb; (ror_calls h k).mono fun _ _ h => h.g fun _ => rfl
theorem xor_g {w : World} {va vb : Value} {f g : F} (ha : IsG w va f) (hb : IsG w vb g) : Calls Try.prog 105 #[va, vb] w (GPost w (fun c => f c != g c)) := let ⟨_, h⟩ := ha; let ⟨_, k⟩ := hb; (rxor_calls h k).mono fun _ _ h => h.g fun _ => rfl
theorem with_g {w : World} {va : Value} {f : F} (ha : IsG w va f) (i : Int) (on : Bool) : Calls Try.prog 106 #[va, .int .i64 i, .bool on] w (GPost w (fun c => f (updI c i on))) := let ⟨_, h⟩ := ha; (rwith_f h i on).mono fun _ _ h => h.g fun _ => rfl
theorem exists_g {w : World} {va : Value} {f : F} (ha : IsG w va f) {m : Nat} (hm : m < 4294967296) : Calls Try.prog 129 #[va, .int .u32 m, .bool false] w (GPost w (exF (feats m) f)) := let ⟨_, h⟩ := ha; (rchanged_f h hm false).mono fun _ _ h => h.g fun _ => rfl
theorem forall_g {w : World} {va : Value} {f : F} (ha : IsG w va f) {m : Nat} (hm : m < 4294967296) : Calls Try.prog 129 #[va, .int .u32 m, .bool true] w (GPost w (faF (feats m) f)) := let ⟨_, h⟩ := ha; (rchanged_f h hm true).mono fun _ _ h => h.g fun _ => rfl
theorem between_g {f : Nat} (hf : f < 4294967296) (low high : Int) (w : World) : Calls Try.prog 130 #[.int .u32 f, .int .i64 low, .int .i64 high] w (GPost w (betF f low high)) := (rbet_f hf low high).mono fun _ _ h => h.g fun _ => rfl
theorem ite_g {w : World} {va vb vc : Value} {f g k : F} (ha : IsG w va f) (hb : IsG w vb g) (hc : IsG w vc k) : Calls Try.prog 81 #[va, vb, vc] w (GPost w (fun c => if f c then g c else k c)) := let ⟨_, h1⟩ := ha; let ⟨_, h2⟩ := hb; let ⟨_, h3⟩ := hc; (rite_calls h1 h2 h3).mono fun _ _ h => h.g fun _ => rfl

theorem linear_g {w : World} {v : Value} {l : List Int} {rel : Nat} {bound : Int} (h : RdInts w v l) (hl : l.length ≤ 1000) : Calls Try.prog 131 #[v, .int .u8 rel, .int .i64 bound] w fun e w' =>
    ∃ u, e = .returned (.tuple #[u, .int .i64 (if LinOk l rel then 0 else 2)]) ∧ IsG w' u (if LinOk l rel then linF l rel bound else fun _ => false) ∧ Near w w' :=
  (rlinear_f h hl).mono fun _ _ ⟨u, h1, h2, h3⟩ => ⟨u, h1, ⟨_, h2⟩, h3⟩

end Go.Proofs.Ytefclohjeompkaa
