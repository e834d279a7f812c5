/- The contracts of Alike and same. -/
import Derived.Test.YtefclohjeompkaaSeq
namespace Go.Proofs.Ytefclohjeompkaa
open Go Go.RowKit Go.Proofs.Gen Go.Proofs.Bdd Go.Proofs.Bdd.T

set_option maxRecDepth 100000 in
set_option maxHeartbeats 800000 in
theorem same_calls {w : World} {va vb : Value} {l : List Dec} (ha : RdDec w va l) (hb : RdDec w vb l) (hl : l.length < 1099511627776) :
    Calls Try.prog 22 #[va, vb] w fun e w' => e = .returned (.bool true) ∧ Near w w' := by
  obtain ⟨ao, cap, rfl, hca⟩ := ha
  obtain ⟨bo, cbp, rfl, hcb⟩ := hb
  have HA := Lib.hid hca
  have HB := Lib.hid hcb
  clear hca hcb
  have hll : ((l.length : Int) != l.length) = false := by simp
  go_enter Try.func22, Try.ntmps22
  go_wp2_with fail
  go_loopw [5] (fun i wr => ∃ k : Nat, k ≤ l.length ∧ i = .int .i64 k ∧ Near w wr) (fun i _ => l.length - (intOf i).toNat)
  case atStart => exact ⟨0, Nat.zero_le _, rfl, Near.refl _⟩
  case round =>
    obtain ⟨k, hk, rfl, hn⟩ := hrel
    by_cases hlt : k < l.length
    · have hlt' : (k : Int) < l.length := by omega
      obtain ⟨b, off, rfl, x0, x1, x2⟩ := HA.out k _ (List.getElem?_eq_getElem hlt)
      obtain ⟨b', off', rfl, y0, y1, y2⟩ := HB.out k _ (List.getElem?_eq_getElem hlt)
      have p0 := hn.cell x0
      have p1 := hn.cell x1
      have p2 := hn.cell x2
      have q0 := hn.cell y0
      have q1 := hn.cell y1
      have q2 := hn.cell y2
      clear x0 x1 x2 y0 y1 y2
      generalize l[k] = d at p0 p1 p2 q0 q1 q2
      obtain ⟨dv, dl, dh⟩ := d
      simp only at p0 p1 p2 q0 q1 q2
      go_wp2_with fail
      go_quiet (fail)
      all_goals
        go_wp2_with fail
        exact ⟨⟨k + 1, by omega, by go_num, hn.drewN _⟩, by simp [intOf]; omega⟩
    · have hkl : k = l.length := by omega
      subst hkl
      go_wp2_with fail
      go_ret
      exact ⟨rfl, hn⟩

/-- What a table's set depends on lies among its features. -/
theorem dep_mem {w : World} {v : Value} {V : List Nat} {f : F} (h : IsS w v V f) {i : Nat} (hd : dep f i = true) : i ∈ V := by
  obtain ⟨T, hT, hf⟩ := h
  refine Classical.byContradiction fun hn => ?_
  obtain ⟨c, hc⟩ := dep_true.1 hd
  refine hc ?_
  rw [← hf, ← hf]
  refine rf_congr fun j hj => ?_
  have : j ≠ i := fun e => hn (e ▸ hj)
  rw [upd_other _ _ this, upd_other _ _ this]

theorem supp_same {w w' : World} {v v' : Value} {V : List Nat} {f : F} {t : T} (h : IsS w v V f) (hd : IsD w' v' t) (he : ∀ c, t.ev c = f c) : sup (nodes t) = numb (deps f V) := by
  apply Nat.eq_of_testBit_eq
  intro i
  rw [sup_dep hd.1, numb_bit, dep_congr he, Bool.eq_iff_iff]
  simp only [deps, List.contains_iff_mem, List.mem_filter]
  exact ⟨fun h' => ⟨dep_mem h h', h'⟩, fun h' => h'.2⟩

theorem high_bits (c i : Nat) (hi : i < 24) : (c ||| 4278190080).testBit i = c.testBit i := by
  rw [Nat.testBit_or]
  have : (4278190080 : Nat).testBit i = false := by
    have e : (4278190080 : Nat) = 2 ^ 24 * 255 := by decide
    rw [e, Nat.testBit_two_pow_mul]
    simp; omega
  rw [this, Bool.or_false]

theorem ev_high {t : T} (ok : t.Ok) (c : Nat) : t.ev (c ||| 4278190080).testBit = t.ev c.testBit :=
  ev_congr t ok fun j _ hj => high_bits c j hj

theorem has_says {w : World} {v : Value} {t : T} (h : IsD w v t) {c : Nat} {b : Bool} (hb : t.ev c.testBit = b) (hc : c < 4294967296) :
    Calls Try.prog 70 #[v, .int .u32 c] w fun e w' => e = .returned (.bool b) ∧ Near w w' := by
  subst hb
  exact has_calls h hc rfl

theorem rsupport_says {w : World} {v : Value} {V : List Nat} {f : F} (h : IsS w v V f) {n : Nat} (hn : n = numb (deps f V)) :
    Calls Try.prog 60 #[v] w fun e w' => e = .returned (.int .u32 (n : Nat)) ∧ Near w w' := by
  subst hn
  exact rsupport_calls h

set_option maxRecDepth 100000 in
set_option maxHeartbeats 1600000 in
theorem alike_calls {w : World} {va vb : Value} {f : F} (ha : IsF w va f) (hb : IsG w vb f) :
    Calls Try.prog 21 #[va, vb] w fun e w' => e = .returned (.bool true) ∧ Near w w' := by
  obtain ⟨t, hd, he⟩ := ha
  obtain ⟨V, hs⟩ := hb
  have HSU := Lib.hid (supp_same hs hd he)
  have HD := Lib.hid hd
  have HS := Lib.hid hs
  have HE := Lib.hid he
  obtain ⟨ao, n, cap, rfl, -⟩ := hd.form
  obtain ⟨T, ⟨hV, hT, sv, st, rfl, r1, r2⟩, hf⟩ := hs
  obtain ⟨bo, cbp, rfl⟩ := owns_form r1
  obtain ⟨co, ccp, rfl⟩ := owns_form r2
  have HV := Lib.hid hV
  have HT := Lib.hid hT
  have HF := Lib.hid hf
  have R1 := Lib.hid r1
  have R2 := Lib.hid r2
  have hl := hV.len
  have hTb : T.length ≤ 16777216 := by
    have hp : (2 : Nat) ^ V.length ≤ 2 ^ 24 := Nat.pow_le_pow_right (by omega) (by omega)
    have e24 : (2 : Nat) ^ 24 = 16777216 := by decide
    omega
  clear hd he hf hV hT r1 r2
  have hN : Near w ((w.alloc (.cells #[.slice ao n cap, .int .i64 (pl (nodes t) t : Nat)] 31)).alloc (.cells #[.slice bo V.length cbp, .slice co T.length ccp] 37)) := ((Near.refl w).alloc _).alloc _
  have hA : ((w.alloc (.cells #[.slice ao n cap, .int .i64 (pl (nodes t) t : Nat)] 31)).alloc (.cells #[.slice bo V.length cbp, .slice co T.length ccp] 37)).heap[w.heap.size]? = some (.cells #[.slice ao n cap, .int .i64 (pl (nodes t) t : Nat)] 31 (0, 0)) := by
    rw [heap_old_at (by simp), heap_new_at rfl]
  have hB : ((w.alloc (.cells #[.slice ao n cap, .int .i64 (pl (nodes t) t : Nat)] 31)).alloc (.cells #[.slice bo V.length cbp, .slice co T.length ccp] 37)).heap[w.heap.size + 1]? = some (.cells #[.slice bo V.length cbp, .slice co T.length ccp] 37 (0, 0)) := heap_new_at (by simp)
  go_enter Try.func21, Try.ntmps21
  go_wp2_with fail
  generalize ((w.alloc (.cells #[.slice ao n cap, .int .i64 (pl (nodes t) t : Nat)] 31)).alloc (.cells #[.slice bo V.length cbp, .slice co T.length ccp] 37)) = W at hN hA hB ⊢
  have HN := Lib.hid hN
  have HA := Lib.hid hA
  have HB := Lib.hid hB
  clear hN hA hB
  have sOf : ∀ w', Near W w' → w'.cell? ⟨w.heap.size, 0, none⟩ = some (.slice ao n cap) ∧ w'.cell? ⟨w.heap.size, 1, none⟩ = some (.int .i64 (pl (nodes t) t : Nat)) ∧ w'.cell? ⟨w.heap.size + 1, 0, none⟩ = some (.slice bo V.length cbp) ∧ w'.cell? ⟨w.heap.size + 1, 1, none⟩ = some (.slice co T.length ccp) :=
    fun w' h => ⟨cell1 (keepN h HA.out) rfl, cell1 (keepN h HA.out) rfl, cell1 (keepN h HB.out) rfl, cell1 (keepN h HB.out) rfl⟩
  go_region_held3 (fun w' => w'.cell? ⟨w.heap.size, 0, none⟩ = some (.slice ao n cap) ∧ w'.cell? ⟨w.heap.size, 1, none⟩ = some (.int .i64 (pl (nodes t) t : Nat)) ∧ w'.cell? ⟨w.heap.size + 1, 0, none⟩ = some (.slice bo V.length cbp) ∧ w'.cell? ⟨w.heap.size + 1, 1, none⟩ = some (.slice co T.length ccp))
    ((refine sOf _ ?_; first | exact z2 | exact z1 | exact (Near.refl _).drew))
    (first
      | (go_at_call 44; refine (support_calls (HD.out.near (HN.out.trans (Near.refl _).drew))).mono ?_; rintro e v1 ⟨rfl, n1⟩; have z1 : Near W v1 := (Near.refl _).drew.trans n1)
      | (go_at_call 60; refine (rsupport_says (HS.out.near (HN.out.trans z1)) HSU.out).mono ?_; rintro e v2 ⟨rfl, n2⟩; have z2 : Near W v2 := z1.trans n2))
  go_wp2_with fail
  go_loopw [5] (fun i wr => ∃ k : Nat, k ≤ T.length ∧ i = .int .i64 k ∧ Near W wr) (fun i _ => T.length - (intOf i).toNat)
  case atStart => exact ⟨0, Nat.zero_le _, rfl, z2⟩
  case round =>
    clear n1 n2 z1 z2
    obtain ⟨k, hk, rfl, hn⟩ := hrel
    have HK := Lib.hid hn
    obtain ⟨c0, c1, c2, c3⟩ := sOf _ hn
    clear hn
    by_cases hlt : k < T.length
    · have hlt' : (k : Int) < T.length := by omega
      obtain ⟨g, ccp', hv, x0, -⟩ := row1 R2.out (k := k) (u := .bool T[k]) (by rw [List.getElem?_map, List.getElem?_eq_getElem hlt]; rfl) hlt
      simp only [Value.slice.injEq, true_and] at hv
      obtain ⟨rfl, rfl⟩ := hv
      have y0 := HK.out.cell (HN.out.cell x0)
      have hc := cfg_lt HV.out k
      have hev : t.ev (cfg V k).testBit = T[k] := by
        rw [HE.out, ← HF.out, rf, idx_cfg HV.out (by rw [← HT.out]; exact hlt), List.getD_eq_getElem?_getD, List.getElem?_eq_getElem hlt]
        rfl
      have hev2 : t.ev (cfg V k ||| 4278190080).testBit = T[k] := by rw [ev_high HD.out.1, hev]
      have hor : bits .or .u32 (cfg V k : Nat) (4278190080 : Int) = ((cfg V k ||| 4278190080 : Nat) : Int) := Go.Proofs.Gen.u32_or (cfg V k) 4278190080 (by omega) (by decide)
      have hor2 : cfg V k ||| 4278190080 < 4294967296 := Nat.or_lt_two_pow (n := 32) (by omega) (by decide)
      have Y0 := Lib.hid y0
      go_wp2_with (first
        | (go_at_call 83; refine (config_calls HV.out (by omega) (owns_kept R1.out (HN.out.trans HK.out).kept (fun _ _ x => x)) k (by omega)).mono ?_; rintro e w6 ⟨rfl, n6⟩))
      generalize cfg V k = c at hc hev hev2 hor hor2 ⊢
      generalize T[k] = b at hev hev2 y0 Y0
      have HO := Lib.hid hor
      have HEV := Lib.hid hev
      have HEV2 := Lib.hid hev2
      have H6 := Lib.hid n6
      clear hor hev hev2 n6 x0 y0 c0 c1 c2 c3
      have sOf6 : ∀ w', Near w6 w' → w'.cell? ⟨w.heap.size, 0, none⟩ = some (.slice ao n cap) ∧ w'.cell? ⟨w.heap.size, 1, none⟩ = some (.int .i64 (pl (nodes t) t : Nat)) ∧ w'.cell? ⟨w.heap.size + 1, 0, none⟩ = some (.slice bo V.length cbp) ∧ w'.cell? ⟨w.heap.size + 1, 1, none⟩ = some (.slice (some ⟨g, 0, none⟩) T.length ccp) ∧ w'.cell? ⟨g, k, none⟩ = some (.bool b) :=
        fun w' h => by
          have := sOf w' ((HK.out.trans H6.out).trans h)
          exact ⟨this.1, this.2.1, this.2.2.1, this.2.2.2, h.cell (H6.out.cell Y0.out)⟩
      cases b
      · go_region_held3 (fun w' => w'.cell? ⟨w.heap.size, 0, none⟩ = some (.slice ao n cap) ∧ w'.cell? ⟨w.heap.size, 1, none⟩ = some (.int .i64 (pl (nodes t) t : Nat)) ∧ w'.cell? ⟨w.heap.size + 1, 0, none⟩ = some (.slice bo V.length cbp) ∧ w'.cell? ⟨w.heap.size + 1, 1, none⟩ = some (.slice (some ⟨g, 0, none⟩) T.length ccp) ∧ w'.cell? ⟨g, k, none⟩ = some (.bool false))
          ((refine sOf6 _ ?_; first | exact z8 | exact z7 | exact (Near.refl _).drew))
          (first
            | (go_at_call_of 70 (Value.int IntKind.u32 c); refine (has_says (HD.out.near ((HN.out.trans (HK.out.trans H6.out)).trans (Near.refl _).drew)) HEV.out (by omega)).mono ?_; rintro e w7 ⟨rfl, n7⟩; have z7 : Near w6 w7 := (Near.refl _).drew.trans n7)
            | (go_at_call 70; rw [HO.out]; refine (has_says (HD.out.near ((HN.out.trans (HK.out.trans H6.out)).trans z7)) HEV2.out hor2).mono ?_; rintro e w8 ⟨rfl, n8⟩; have z8 : Near w6 w8 := z7.trans n8))
        go_wp2_with fail
        exact ⟨⟨k + 1, by omega, by go_num, (HK.out.trans H6.out).trans z8⟩, by simp [intOf]; omega⟩
      · go_region_held3 (fun w' => w'.cell? ⟨w.heap.size, 0, none⟩ = some (.slice ao n cap) ∧ w'.cell? ⟨w.heap.size, 1, none⟩ = some (.int .i64 (pl (nodes t) t : Nat)) ∧ w'.cell? ⟨w.heap.size + 1, 0, none⟩ = some (.slice bo V.length cbp) ∧ w'.cell? ⟨w.heap.size + 1, 1, none⟩ = some (.slice (some ⟨g, 0, none⟩) T.length ccp) ∧ w'.cell? ⟨g, k, none⟩ = some (.bool true))
          ((refine sOf6 _ ?_; first | exact z8 | exact z7 | exact (Near.refl _).drew))
          (first
            | (go_at_call_of 70 (Value.int IntKind.u32 c); refine (has_says (HD.out.near ((HN.out.trans (HK.out.trans H6.out)).trans (Near.refl _).drew)) HEV.out (by omega)).mono ?_; rintro e w7 ⟨rfl, n7⟩; have z7 : Near w6 w7 := (Near.refl _).drew.trans n7)
            | (go_at_call 70; rw [HO.out]; refine (has_says (HD.out.near ((HN.out.trans (HK.out.trans H6.out)).trans z7)) HEV2.out hor2).mono ?_; rintro e w8 ⟨rfl, n8⟩; have z8 : Near w6 w8 := z7.trans n8))
        go_wp2_with fail
        exact ⟨⟨k + 1, by omega, by go_num, (HK.out.trans H6.out).trans z8⟩, by simp [intOf]; omega⟩
    · have hkl : k = T.length := by omega
      subst hkl
      go_wp2_with fail
      go_ret
      exact ⟨rfl, HN.out.trans HK.out⟩

end Go.Proofs.Ytefclohjeompkaa
