/- Parts of a proof: Steps3, FAsk. -/
import Derived.Laws.OwnMore
import Derived.Test.YtefclohjeompkaaKRefP
import Derived.Test.YtefclohjeompkaaKLinF
/- append to a slice of the call's own, out of a slice that came in (nil too). Over any program. -/
namespace Go.Proofs.Gen
open Go Go.RowKit
open Go.ChangeMaps Go.MapKept

section
variable {P : Program} {w : World}

/-- What a source yields: its cells, or nothing. -/
def SrcOf (w : World) (size m : Nat) (x : Value) (news : List Value) : Prop :=
  news.length = m * size ∧ ((x = .slice none 0 0 ∧ m = 0) ∨ ∃ ad c, x = .slice (some ad) m c ∧ ∀ j u, news[j]? = some u → w.cell? (ad.add j) = some u)

theorem wpList_append_more {ops : Array Oper} {rest : List Oper} {o : Oper} {a : Act} {Q : Exit → Act → World → Prop} (hgd : o.guard = none) (s x : Operand) (t : TypeId)
    (ho : o.op = .call { callee := .builtin .append, args := #[s, x], argTypes := #[t, t] })
    (base : Nat) (e : TypeId) (i : TypeInfo) (z : Value) (size bytes : Nat) (ht : P.underlying t = some (.slice e)) (hi : P.info? e = some i) (hz : i.zero = some z)
    (hsize : i.size = size) (hby : i.bytes = bytes) (hzs : z.cells.size = size) (hsz : 0 < size)
    (v : Value) (n : Nat) (xs : List Value) (hs : a.eval s = v) (hown : w.ownsRow base e size v n xs)
    (vx : Value) (m : Nat) (news : List Value) (hx : a.eval x = vx) (hy : SrcOf w size m vx news) (h1 : ∀ u ∈ news, u.oneCell' = true)
    (h63 : n + m ≤ maxLen) (hbytes : (n + m) * bytes ≤ 140737488355328) (hbase : base ≤ w.heap.size)
    (h : ∀ ao cap w', w'.ownsRow base e size (.slice ao (n + m) cap) (n + m) (xs ++ news) → w.grownBy w' v.ownBlock → wpList P ops Q rest (a.put o.dst (.slice ao (n + m) cap)) w') :
    wpList P ops Q (o :: rest) a w := by
  obtain ⟨hl, ⟨rfl, rfl⟩ | ⟨ad, c, rfl, hc⟩⟩ := hy
  · have hn : news = [] := List.eq_nil_of_length_eq_zero (by simpa using hl)
    subst hn
    refine wpList_plain hgd fun K hK => ?_
    have hr := run_append_owned_none w base t o.type e i size ht hi v n xs hown
    obtain ⟨ao, cap, rfl⟩ := owns_form hown
    unfold Oper.wp execOp
    simp only [ho, resolve, invoke, builtin, Sem.run_bind, Sem.run_pure, Result.andThen_ok, List.map_toArray, List.map_cons, List.map_nil, hs, hx, hr]
    exact hK _ _ (h ao cap w (by simpa using hown) ⟨rfl, rfl, rfl, Nat.le_refl _, fun _ _ _ => rfl⟩)
  · exact wpList_append_in hgd s x t ho base e i z size bytes ht hi hz hsize hby hzs hsz v n xs hs hown ad m c news hx hl hc h1 h63 hbytes hbase fun ao cap w' h2 h3 _ => h ao cap w' h2 h3
end

end Go.Proofs.Gen

/- Within, Meets, Same, Nodes, and the law's equal. -/
namespace Go.Proofs.Ytefclohjeompkaa
open Go Go.RowKit Go.Proofs.Gen Go.Proofs.Bdd Go.Proofs.Bdd.T

def triD (x : Tri) : Dec := ⟨x.v, x.lo, x.hi⟩
/-- The listing of a tree as decisions. -/
def ndec (t : T) : List Dec := (enc (nodes t)).map triD
theorem cells_decs (l : List Tri) : cellsOf l = decs (l.map triD) := by
  induction l with
  | nil => rfl
  | cons x l ih =>
    have e1 : cellsOf (x :: l) = triC x ++ cellsOf l := rfl
    have e2 : decs ((x :: l).map triD) = decC (triD x) ++ decs (l.map triD) := rfl
    rw [e1, e2, ih]
    rfl
theorem ndec_len (t : T) : (ndec t).length = (nodes t).length := by simp [ndec, enc]
theorem IsD.rd {w : World} {ao : Option Addr} {n cap : Nat} {r : Value} {t : T} (h : IsD w (.agg #[.slice ao n cap, r]) t) : RdDec w (.slice ao n cap) (ndec t) ∧ w.ownsRow 0 26 3 (.slice ao n cap) (ndec t).length (decs (ndec t)) := by
  obtain ⟨ok, sv, he, hr⟩ := h
  simp only [Value.agg.injEq, Array.mk.injEq, List.cons.injEq, and_true] at he
  obtain ⟨rfl, _⟩ := he
  have h2 : w.ownsRow 0 26 3 (.slice ao n cap) (ndec t).length (decs (ndec t)) := by
    rw [ndec_len, ndec, ← cells_decs]
    exact hr
  exact ⟨RdDec.owns h2, h2⟩

theorem triD_inj {x y : Tri} (h : triD x = triD y) : x = y := by
  cases x; cases y
  simp only [triD, Dec.mk.injEq] at h
  obtain ⟨h1, h2, h3⟩ := h
  simp only [Tri.mk.injEq]
  exact ⟨by omega, by omega, by omega⟩
theorem map_triD_inj : ∀ {l m : List Tri}, l.map triD = m.map triD → l = m
  | [], [], _ => rfl
  | [], _ :: _, h => by simp at h
  | _ :: _, [], h => by simp at h
  | x :: l, y :: m, h => by
    simp only [List.map_cons, List.cons.injEq] at h
    rw [triD_inj h.1, map_triD_inj h.2]
theorem ndec_inj {t u : T} (ht : t.Ok) (hu : u.Ok) (h1 : ndec t = ndec u) (h2 : pl (nodes t) t = pl (nodes u) u) : t = u := enc_inj ht hu (map_triD_inj h1) h2

set_option maxRecDepth 100000 in
set_option maxHeartbeats 800000 in
theorem sequal_true {w : World} {va vb : Value} {l : List Dec} (ha : RdDec w va l) (hb : RdDec w vb l) (hl : l.length < 1099511627776) :
    Calls Try.prog 101 #[va, vb] w fun e w' => e = .returned (.bool true) ∧ Near w w' := by
  obtain ⟨ao, cap, rfl, hca⟩ := ha
  obtain ⟨bo, cbp, rfl, hcb⟩ := hb
  have HA := Lib.hid hca
  have HB := Lib.hid hcb
  clear hca hcb
  have hll : ((l.length : Int) != l.length) = false := by simp
  go_enter Try.func101, Try.ntmps101
  go_wp2_with fail
  go_loopw [5, 13] (fun x i wr => ∃ k : Nat, k ≤ l.length ∧ i = .int .i64 k ∧ Near w wr) (fun _ i _ => l.length - (intOf i).toNat)
  case atStart => exact ⟨0, Nat.zero_le _, rfl, Near.refl _⟩
  case round =>
    obtain ⟨k, hk, rfl, hn⟩ := hrel
    by_cases hlt : k < l.length
    · have hlt' : (k : Int) < l.length := by omega
      obtain ⟨g, off, rfl, x0, x1, x2⟩ := HA.out k _ (List.getElem?_eq_getElem hlt)
      obtain ⟨g', off', rfl, y0, y1, y2⟩ := HB.out k _ (List.getElem?_eq_getElem hlt)
      have p0 := hn.cell x0
      have p1 := hn.cell x1
      have p2 := hn.cell x2
      have q0 := hn.cell y0
      have q1 := hn.cell y1
      have q2 := hn.cell y2
      clear x0 x1 x2 y0 y1 y2
      generalize l[k] = d at p0 p1 p2 q0 q1 q2
      obtain ⟨dv, dl, dh⟩ := d
      simp only at p0 p1 p2 q0 q1 q2
      go_wp2_with fail
      go_quiet (fail)
      all_goals
        go_wp2_with fail
        exact ⟨⟨k + 1, by omega, by go_num, hn.drewN _⟩, by simp [intOf]; omega⟩
    · have hkl : k = l.length := by omega
      subst hkl
      go_wp2_with fail
      go_ret
      exact ⟨rfl, hn⟩

set_option maxRecDepth 100000 in
set_option maxHeartbeats 800000 in
theorem sequal_false {w : World} {va vb : Value} {l m : List Dec} (ha : RdDec w va l) (hb : RdDec w vb m) (hl : l.length < 1099511627776) (hne : l ≠ m) :
    Calls Try.prog 101 #[va, vb] w fun e w' => e = .returned (.bool false) ∧ Near w w' := by
  obtain ⟨ao, cap, rfl, hca⟩ := ha
  obtain ⟨bo, cbp, rfl, hcb⟩ := hb
  have HA := Lib.hid hca
  have HB := Lib.hid hcb
  have HNE := Lib.hid hne
  clear hca hcb hne
  by_cases hlm : l.length = m.length
  · have hll : ((l.length : Int) != m.length) = false := by simp [hlm]
    have HLM := Lib.hid hlm
    clear hlm
    go_enter Try.func101, Try.ntmps101
    go_wp2_with fail
    go_loopw [5, 13] (fun x i wr => ∃ k : Nat, k ≤ l.length ∧ i = .int .i64 k ∧ l.take k = m.take k ∧ Near w wr) (fun _ i _ => l.length - (intOf i).toNat)
    case atStart => exact ⟨0, Nat.zero_le _, rfl, rfl, Near.refl _⟩
    case round =>
      obtain ⟨k, hk, rfl, htk, hn⟩ := hrel
      have HTK := Lib.hid htk
      clear htk
      by_cases hlt : k < l.length
      · have hltm : k < m.length := by rw [← HLM.out]; exact hlt
        have hlt' : (k : Int) < l.length := by omega
        have hltm' : (k : Int) < m.length := by omega
        obtain ⟨g, off, rfl, x0, x1, x2⟩ := HA.out k _ (List.getElem?_eq_getElem hlt)
        obtain ⟨g', off', rfl, y0, y1, y2⟩ := HB.out k _ (List.getElem?_eq_getElem hltm)
        have p0 := hn.cell x0
        have p1 := hn.cell x1
        have p2 := hn.cell x2
        have q0 := hn.cell y0
        have q1 := hn.cell y1
        have q2 := hn.cell y2
        clear x0 x1 x2 y0 y1 y2
        have hs : l.take (k + 1) = l.take k ++ [l[k]] := List.take_succ_eq_append_getElem hlt
        have hs' : m.take (k + 1) = m.take k ++ [m[k]] := List.take_succ_eq_append_getElem hltm
        have HS := Lib.hid hs
        have HS' := Lib.hid hs'
        clear hs hs'
        generalize l[k] = d at p0 p1 p2 HS
        generalize m[k] = d' at q0 q1 q2 HS'
        obtain ⟨dv, dl, dh⟩ := d
        obtain ⟨dv', dl', dh'⟩ := d'
        simp only at p0 p1 p2 q0 q1 q2
        by_cases he : dv = dv' ∧ dl = dl' ∧ dh = dh'
        · obtain ⟨rfl, rfl, rfl⟩ := he
          go_wp2_with fail
          go_quiet (fail)
          all_goals
            go_wp2_with fail
            exact ⟨⟨k + 1, by omega, by go_num, by rw [HS.out, HS'.out, HTK.out], hn.drewN _⟩, by simp [intOf]; omega⟩
        · have he' : (dv == dv') = false ∨ dv = dv' ∧ ((dl == dl') = false ∨ dl = dl' ∧ (dh == dh') = false) := by
            simp only [beq_eq_false_iff_ne, ne_eq]
            omega
          clear he
          rcases he' with h1 | ⟨rfl, h1 | ⟨rfl, h1⟩⟩
          all_goals
            go_wp2_with fail
            go_quiet (fail)
            all_goals
              go_wp2_with fail
              go_ret
              exact ⟨rfl, hn.drewN _⟩
      · have hkl : k = l.length := by omega
        subst hkl
        refine (HNE.out ?_).elim
        have h1 := HTK.out
        rw [List.take_length, HLM.out, List.take_length] at h1
        exact h1
  · have hll : ((l.length : Int) != m.length) = true := by simp; omega
    clear hlm
    go_enter Try.func101, Try.ntmps101
    go_wp2_with fail
    go_ret
    exact ⟨rfl, Near.refl _⟩

theorem sameF_iff {f g : F} : sameF f g = true ↔ ∀ c, f c = g c := by
  unfold sameF
  simp

set_option maxRecDepth 100000 in
set_option maxHeartbeats 800000 in
theorem same_walk (ao bo : Option Addr) (n cap m cbp : Nat) (r q : Int) (b : Bool) (w : World) (h : (r == q) = false ∧ b = false ∨ (r == q) = true ∧ ∀ w', Near w w' → Calls Try.prog 101 #[.slice ao n cap, .slice bo m cbp] w' fun e w'' => e = .returned (.bool b) ∧ Near w' w'') :
    Calls Try.prog 52 #[.agg #[.slice ao n cap, .int .i64 r], .agg #[.slice bo m cbp, .int .i64 q]] w fun e w' => e = .returned (.bool b) ∧ Near w w' := by
  rcases h with ⟨h, rfl⟩ | ⟨h, hc⟩
  · go_enter Try.func52, Try.ntmps52
    go_wp2_with fail
    go_ret
    exact ⟨rfl, ((Near.refl w).alloc _).alloc _⟩
  · have HC := Lib.hid hc
    have hN : Near w ((w.alloc (.cells #[.slice ao n cap, .int .i64 r] 31)).alloc (.cells #[.slice bo m cbp, .int .i64 q] 31)) := ((Near.refl w).alloc _).alloc _
    have HN := Lib.hid hN
    clear hc hN
    go_enter Try.func52, Try.ntmps52
    go_wp2_with (first
      | (go_at_call 101; refine (HC.out _ HN.out).mono ?_; rintro e w1 ⟨rfl, n1⟩))
    go_ret
    exact ⟨rfl, HN.out.trans n1⟩

theorem same_f {w : World} {va vb : Value} {f g : F} (ha : IsF w va f) (hb : IsF w vb g) : Calls Try.prog 52 #[va, vb] w fun e w' => e = .returned (.bool (sameF f g)) ∧ Near w w' := by
  obtain ⟨t, hd, he⟩ := ha
  obtain ⟨u, hd', he'⟩ := hb
  obtain ⟨ao, n, cap, rfl, -⟩ := hd.form
  obtain ⟨bo, m, cbp, rfl, -⟩ := hd'.form
  have l1 := nodes_len hd.1
  have l2 := nodes_len hd'.1
  by_cases htu : t = u
  · subst htu
    have hs : sameF f g = true := sameF_iff.2 fun c => by rw [← he, ← he']
    rw [hs]
    refine same_walk _ _ _ _ _ _ _ _ true w (.inr ⟨by simp, fun w' hn => ?_⟩)
    exact sequal_true (hd.rd.1.near hn) (hd'.rd.1.near hn) (by rw [ndec_len]; omega)
  · have hs : sameF f g = false := by
      rw [Bool.eq_false_iff]
      intro h
      exact htu (canon hd.1 hd'.1 fun c => by rw [he, he', sameF_iff.1 h])
    rw [hs]
    by_cases hr : pl (nodes t) t = pl (nodes u) u
    · refine same_walk _ _ _ _ _ _ _ _ false w (.inr ⟨by simp [hr], fun w' hn => ?_⟩)
      exact sequal_false (hd.rd.1.near hn) (hd'.rd.1.near hn) (by rw [ndec_len]; omega) (fun h => htu (ndec_inj hd.1 hd'.1 h hr))
    · refine same_walk _ _ _ _ _ _ _ _ false w (.inl ⟨?_, rfl⟩)
      rw [beq_eq_false_iff_ne]
      omega

set_option maxRecDepth 100000 in
set_option maxHeartbeats 800000 in
theorem within_f {w : World} {va vb : Value} {f g : F} (ha : IsF w va f) (hb : IsF w vb g) : Calls Try.prog 47 #[va, vb] w fun e w' => e = .returned (.bool (nowhere (fun c => f c && !g c))) ∧ Near w w' := by
  obtain ⟨a1, a2, a3, a4, rfl⟩ := ha.form
  obtain ⟨b1, b2, b3, b4, rfl⟩ := hb.form
  have hN : Near w ((w.alloc (.cells #[.slice a1 a2 a3, .int .i64 a4] 31)).alloc (.cells #[.slice b1 b2 b3, .int .i64 b4] 31)) := ((Near.refl w).alloc _).alloc _
  have EA : ((w.alloc (.cells #[.slice a1 a2 a3, .int .i64 a4] 31)).alloc (.cells #[.slice b1 b2 b3, .int .i64 b4] 31)).heap[w.heap.size]? = some (.cells #[.slice a1 a2 a3, .int .i64 a4] 31 (0, 0)) := by
    rw [heap_old_at (by simp), heap_new_at rfl]
  have EB : ((w.alloc (.cells #[.slice a1 a2 a3, .int .i64 a4] 31)).alloc (.cells #[.slice b1 b2 b3, .int .i64 b4] 31)).heap[w.heap.size + 1]? = some (.cells #[.slice b1 b2 b3, .int .i64 b4] 31 (0, 0)) := heap_new_at (by simp)
  have HA := Lib.hid (ha.near hN)
  have HB := Lib.hid (hb.near hN)
  have HN := Lib.hid hN
  have HEA := Lib.hid EA
  have HEB := Lib.hid EB
  clear ha hb hN EA EB
  go_enter Try.func47, Try.ntmps47
  go_upto_region 1 with fail
  generalize ((w.alloc (.cells #[.slice a1 a2 a3, .int .i64 a4] 31)).alloc (.cells #[.slice b1 b2 b3, .int .i64 b4] 31)) = W at *
  have sOf : ∀ w', Near W w' → w'.cell? ⟨w.heap.size, 0, none⟩ = some (.slice a1 a2 a3) ∧ w'.cell? ⟨w.heap.size, 1, none⟩ = some (.int .i64 a4) ∧ w'.cell? ⟨w.heap.size + 1, 0, none⟩ = some (.slice b1 b2 b3) ∧ w'.cell? ⟨w.heap.size + 1, 1, none⟩ = some (.int .i64 b4) :=
    fun w' h => ⟨cell1 (keepN h HEA.out) rfl, cell1 (keepN h HEA.out) rfl, cell1 (keepN h HEB.out) rfl, cell1 (keepN h HEB.out) rfl⟩
  go_region_held3 (fun w' => w'.cell? ⟨w.heap.size, 0, none⟩ = some (.slice a1 a2 a3) ∧ w'.cell? ⟨w.heap.size, 1, none⟩ = some (.int .i64 a4) ∧ w'.cell? ⟨w.heap.size + 1, 0, none⟩ = some (.slice b1 b2 b3) ∧ w'.cell? ⟨w.heap.size + 1, 1, none⟩ = some (.int .i64 b4))
    ((refine sOf _ ?_; first | exact z3 | exact z2 | exact z1 | exact (Near.refl _).drew))
    (first
      | (go_at_call 32; refine (not_f (HB.out.near (Near.refl _).drew)).mono ?_; rintro e v1 ⟨x1, rfl, s1, m1⟩; have S1 := Lib.hid s1; obtain ⟨x11, x12, x13, x14, rfl⟩ := s1.form; clear s1; have z1 : Near W v1 := (Near.refl _).drew.trans m1)
      | (go_at_call 34; refine (and_f (HA.out.near z1) S1.out).mono ?_; rintro e v2 ⟨x2, rfl, s2, m2⟩; have S2 := Lib.hid s2; obtain ⟨x21, x22, x23, x24, rfl⟩ := s2.form; clear s2; have z2 : Near W v2 := z1.trans m2)
      | (go_at_call 35; refine (empty_f S2.out).mono ?_; rintro e v3 ⟨rfl, m3⟩; have z3 : Near W v3 := z2.trans m3))
  all_goals
    go_wp2_with fail
    exact bodyPost_ret (v := .bool (nowhere (fun c => f c && !g c))) (by simp [results, Try.results47, go_sem]) rfl ⟨rfl, HN.out.trans z3⟩

set_option maxRecDepth 100000 in
set_option maxHeartbeats 800000 in
theorem meets_f {w : World} {va vb : Value} {f g : F} (ha : IsF w va f) (hb : IsF w vb g) : Calls Try.prog 53 #[va, vb] w fun e w' => e = .returned (.bool (!nowhere (fun c => f c && g c))) ∧ Near w w' := by
  obtain ⟨a1, a2, a3, a4, rfl⟩ := ha.form
  obtain ⟨b1, b2, b3, b4, rfl⟩ := hb.form
  have hN : Near w ((w.alloc (.cells #[.slice a1 a2 a3, .int .i64 a4] 31)).alloc (.cells #[.slice b1 b2 b3, .int .i64 b4] 31)) := ((Near.refl w).alloc _).alloc _
  have HA := Lib.hid (ha.near hN)
  have HB := Lib.hid (hb.near hN)
  have HN := Lib.hid hN
  clear ha hb hN
  go_enter Try.func53, Try.ntmps53
  go_wp2_with (first
    | (go_at_call 34; refine (and_f HA.out HB.out).mono ?_; rintro e v2 ⟨x2, rfl, s2, m2⟩; have S2 := Lib.hid s2; have M2 := Lib.hid m2; obtain ⟨x21, x22, x23, x24, rfl⟩ := s2.form; clear s2 m2)
    | (go_at_call 35; refine (empty_f S2.out).mono ?_; rintro e v3 ⟨rfl, m3⟩))
  exact bodyPost_ret (v := .bool (!nowhere (fun c => f c && g c))) (by simp [results, Try.results53, go_sem]) rfl ⟨rfl, (HN.out.trans M2.out).trans m3⟩

end Go.Proofs.Ytefclohjeompkaa
