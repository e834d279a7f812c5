/- Parts of a proof: Exi, OpA, RefU, RefV. -/
import Derived.Test.YtefclohjeompkaaKEachB
import Derived.Test.YtefclohjeompkaaKLinJ
import Derived.Test.YtefclohjeompkaaKFAsk
import Derived.Test.YtefclohjeompkaaKRefP
import Derived.Test.YtefclohjeompkaaKFAll
import Derived.Test.YtefclohjeompkaaKRefQ
import Derived.Test.YtefclohjeompkaaKRefT
/- The contracts of Exists and Forall (printed by gen_exi.py). -/
namespace Go.Proofs.Ytefclohjeompkaa
open Go Go.RowKit Go.Shelf Go.Proofs.Gen Go.Proofs.Bdd Go.Proofs.Bdd.T
attribute [local go_sem] Oper.semAt_some

/-! ### What does not hang on a feature -/
theorem dep_false {f : F} {i : Nat} (h : dep f i = false) (c : Nat → Bool) (b : Bool) : f (updI c i b) = f c := by
  have h1 : ∀ c, f (upd c i true) = f (upd c i false) := fun c => by
    refine Classical.byContradiction fun hne => ?_
    rw [dep_true.2 ⟨c, hne⟩] at h
    cases h
  have h2 : updI c i b = upd c i b := by
    funext j
    unfold updI upd
    by_cases e : j = i
    · simp [e]
    · simp [e, show ¬ ((j : Int) = i) by omega]
  have h3 : c = upd c i (c i) := by
    funext j
    unfold upd
    by_cases e : j = i <;> simp [e]
  have h4 : ∀ a b, f (upd c i a) = f (upd c i b) := fun a b => by cases a <;> cases b <;> simp [h1 c]
  rw [h2]
  exact (h4 b (c i)).trans (congrArg f h3.symm)

/-- Features outside the support need no quantifying. -/
theorem qF_skip {op : Bool → Bool → Bool} (hop : ∀ b, op b b = b) (p : Nat → Bool) : ∀ (xs : List Nat) (f : F), (∀ i c b, p i = false → f (updI c i b) = f c) → qF op (xs.filter p) f = qF op xs f
  | [], _, _ => rfl
  | i :: xs, f, h => by
    have hs : ∀ (j : Nat) (c : Nat → Bool) (b : Bool), p j = false → (fun c => op (f (updI c i false)) (f (updI c i true))) (updI c j b) = (fun c => op (f (updI c i false)) (f (updI c i true))) c := fun j c b hj => by
      by_cases e : i = j
      · subst e
        show op (f _) (f _) = op (f _) (f _)
        simp only [h i _ _ hj]
      · have hc : ∀ a, updI (updI c j b) i a = updI (updI c i a) j b := fun a => by
          funext k
          unfold updI
          by_cases e1 : (k : Int) = i
          · simp [e1, show ¬ ((i : Int) = j) by omega]
          · simp [e1]
        show op (f _) (f _) = op (f _) (f _)
        rw [hc, hc, h j _ _ hj, h j _ _ hj]
    have ih := qF_skip hop p xs (fun c => op (f (updI c i false)) (f (updI c i true))) hs
    by_cases e : p i = true
    · rw [List.filter_cons_of_pos e]
      exact ih
    · have e' : p i = false := by simpa using e
      rw [List.filter_cons_of_neg e]
      have hf : (fun c => op (f (updI c i false)) (f (updI c i true))) = f := by
        funext c
        rw [h i _ _ e', h i _ _ e', hop]
      show qF op (xs.filter p) f = qF op xs (fun c => op (f (updI c i false)) (f (updI c i true)))
      rw [hf]
      exact qF_skip hop p xs f h

theorem qF_supp {op : Bool → Bool → Bool} (hop : ∀ b, op b b = b) {t : T} (ok : t.Ok) (m : Nat) : qF op (feats (m &&& sup (nodes t))) t.ev = qF op (feats m) t.ev := by
  have he : feats (m &&& sup (nodes t)) = (feats m).filter (fun i => dep t.ev i) := by
    unfold feats featsTo
    rw [List.filter_filter]
    refine List.filter_congr fun i _ => ?_
    rw [Nat.testBit_and, sup_dep ok, Bool.and_comm]
  rw [he]
  exact qF_skip hop _ _ _ (fun i c b h => dep_false h c b)

set_option maxRecDepth 100000 in
set_option maxHeartbeats 1600000 in
theorem exists_f {w : World} {v : Value} {f : F} (h : IsF w v f) {m : Nat} (hm : m < 4294967296) :
    Calls Try.prog 45 #[v, .int .u32 m] w (FPost w (qF (fun x y => x || y) (feats m) f)) := by
  obtain ⟨t, hD, he⟩ := h
  have hef : f = t.ev := by
    funext c
    exact (he c).symm
  subst hef
  have HE := Lib.hid (qF_supp (op := fun x y => x || y) (fun b => by cases b <;> rfl) hD.1 m)
  obtain ⟨ao, k, cap, rfl, -⟩ := hD.form
  have hc := each_or (hD.near (((Near.refl w).alloc (.cells #[.slice ao k cap, .int .i64 (pl (nodes t) t : Nat)] 31)).alloc (.cells #[.slice none 0 0, .int .i64 0] 31))) hm
  have HC := Lib.hid hc
  clear hc hD he
  go_enter Try.func45, Try.ntmps45
  go_wp2_with (go_at_call 98; refine HC.out.mono ?_; rintro e w1 ⟨v1, rfl, h1, n1⟩; obtain ⟨y1, y2, y3, y4, rfl⟩ := h1.form; have hr := keepN n1 (k := w.heap.size + 1) (o := .cells #[.slice none 0 0, .int .i64 0] 31) (heap_new_at (by simp)); have d0 := cell1 (o := 0) hr rfl; have d1 := cell1 (o := 1) hr rfl; have df := free1 hr)
  have q0 := cell1 (o := 0) (setCell_heap (setCell_heap hr 0 (.slice y1 y2 y3)) 1 (.int .i64 y4)) rfl
  have q1 := cell1 (o := 1) (setCell_heap (setCell_heap hr 0 (.slice y1 y2 y3)) 1 (.int .i64 y4)) rfl
  refine bodyPost_ret (v := .agg #[.slice y1 y2 y3, .int .i64 y4]) (by simp [results, Try.results45, go_sem, q0, q1]) rfl ⟨_, rfl, (isF_store h1 hr).congr fun c => congrFun HE.out c, ?_⟩
  exact ((((((Near.refl w).alloc _).alloc _).trans n1).set (by show w.heap.size ≤ w.heap.size + 1; omega) _).set (by show w.heap.size ≤ w.heap.size + 1; omega) _)

set_option maxRecDepth 100000 in
set_option maxHeartbeats 1600000 in
theorem forall_f {w : World} {v : Value} {f : F} (h : IsF w v f) {m : Nat} (hm : m < 4294967296) :
    Calls Try.prog 46 #[v, .int .u32 m] w (FPost w (qF (fun x y => x && y) (feats m) f)) := by
  obtain ⟨t, hD, he⟩ := h
  have hef : f = t.ev := by
    funext c
    exact (he c).symm
  subst hef
  have HE := Lib.hid (qF_supp (op := fun x y => x && y) (fun b => by cases b <;> rfl) hD.1 m)
  obtain ⟨ao, k, cap, rfl, -⟩ := hD.form
  have hc := each_and (hD.near (((Near.refl w).alloc (.cells #[.slice ao k cap, .int .i64 (pl (nodes t) t : Nat)] 31)).alloc (.cells #[.slice none 0 0, .int .i64 0] 31))) hm
  have HC := Lib.hid hc
  clear hc hD he
  go_enter Try.func46, Try.ntmps46
  go_wp2_with (go_at_call 98; refine HC.out.mono ?_; rintro e w1 ⟨v1, rfl, h1, n1⟩; obtain ⟨y1, y2, y3, y4, rfl⟩ := h1.form; have hr := keepN n1 (k := w.heap.size + 1) (o := .cells #[.slice none 0 0, .int .i64 0] 31) (heap_new_at (by simp)); have d0 := cell1 (o := 0) hr rfl; have d1 := cell1 (o := 1) hr rfl; have df := free1 hr)
  have q0 := cell1 (o := 0) (setCell_heap (setCell_heap hr 0 (.slice y1 y2 y3)) 1 (.int .i64 y4)) rfl
  have q1 := cell1 (o := 1) (setCell_heap (setCell_heap hr 0 (.slice y1 y2 y3)) 1 (.int .i64 y4)) rfl
  refine bodyPost_ret (v := .agg #[.slice y1 y2 y3, .int .i64 y4]) (by simp [results, Try.results46, go_sem, q0, q1]) rfl ⟨_, rfl, (isF_store h1 hr).congr fun c => congrFun HE.out c, ?_⟩
  exact ((((((Near.refl w).alloc _).alloc _).trans n1).set (by show w.heap.size ≤ w.heap.size + 1; omega) _).set (by show w.heap.size ≤ w.heap.size + 1; omega) _)

end Go.Proofs.Ytefclohjeompkaa

/- A script's operation as it is read; what it makes. And: an append of a slice that came in, as a step of a region that draws its order. -/
namespace Go.Proofs.Gen
open Go Go.RowKit
open Go.ChangeMaps Go.MapKept

section
variable {P : Program} {w : World}

theorem step_append_more {ops : Array Oper} {o : Oper} {a : Act} {K : Act → World → Prop} {Q : Exit → Act → World → Prop} {E : Prop}
    (hg : o.guard = none) (s x : Operand) (t : TypeId) (hop : o.op = Op.call { callee := Callee.builtin Builtin.append, args := #[s, x], argTypes := #[t, t] })
    (base : Nat) (e : TypeId) (i : TypeInfo) (z : Value) (size bytes : Nat) (ht : P.underlying t = some (.slice e)) (hi : P.info? e = some i) (hz : i.zero = some z)
    (hsize : i.size = size) (hby : i.bytes = bytes) (hzs : z.cells.size = size) (hsz : 0 < size)
    (v : Value) (n : Nat) (xs : List Value) (hs : a.eval s = v) (hown : w.ownsRow base e size v n xs)
    (vx : Value) (m : Nat) (news : List Value) (hx : a.eval x = vx) (hy : SrcOf w size m vx news) (h1 : ∀ u ∈ news, u.oneCell' = true)
    (h63 : n + m ≤ maxLen) (hbytes : (n + m) * bytes ≤ 140737488355328) (hbase : base ≤ w.heap.size)
    (hK : ∀ ao cap w', w'.ownsRow base e size (.slice ao (n + m) cap) (n + m) (xs ++ news) → w.grownBy w' v.ownBlock → K (a.put o.dst (.slice ao (n + m) cap)) w') :
    if Region.wanted o (yielded ops a.tmps) = true then Oper.wp P o a w K Q else E := by
  have hw : Region.wanted o (yielded ops a.tmps) = true := by simp [Region.wanted, hg]
  rw [if_pos hw]
  obtain ⟨hl, ⟨rfl, rfl⟩ | ⟨ad, c, rfl, hc⟩⟩ := hy
  · have hn : news = [] := List.eq_nil_of_length_eq_zero (by simpa using hl)
    subst hn
    have hr := run_append_owned_none w base t o.type e i size ht hi v n xs hown
    obtain ⟨ao, cap, rfl⟩ := owns_form hown
    unfold Oper.wp execOp
    simp only [hop, resolve, invoke, builtin, Sem.run_bind, Sem.run_pure, Result.andThen_ok, List.map_toArray, List.map_cons, List.map_nil, hs, hx, hr]
    exact hK ao cap w (by simpa using hown) ⟨rfl, rfl, rfl, Nat.le_refl _, fun _ _ _ => rfl⟩
  · obtain ⟨v', w', hr, h2, h3, _, _⟩ := run_append_own_at (P := P) w base t o.type e i z size bytes ht hi hz hsize hby hzs hsz v n xs hown ad m c news hl hc h1 h63 hbytes hbase
    obtain ⟨ao, cap, rfl⟩ := owns_form h2
    unfold Oper.wp execOp
    simp only [hop, resolve, invoke, builtin, Sem.run_bind, Sem.run_pure, Result.andThen_ok, List.map_toArray, List.map_cons, List.map_nil, hs, hx, hr]
    exact hK ao cap w' h2 h3
end

end Go.Proofs.Gen

namespace Go.Proofs.Ytefclohjeompkaa
open Go Go.RowKit Go.Proofs.Gen Go.Proofs.Bdd Go.Proofs.Bdd.T

theorem info2 : (Try.prog.info? 2).map (fun i => (i.zero, i.size, i.bytes)) = some (some (.int .i64 0), 1, 8) := by kernel_rfl

theorem RdInts.yields {w : World} {v : Value} {l : List Int} (h : RdInts w v l) (hnil : ∀ cap, v = .slice none 0 cap → cap = 0) : SrcOf w 1 l.length v (l.map fun x => .int .i64 x) := by
  refine ⟨by simp, ?_⟩
  obtain ⟨ao, cap, rfl, hc⟩ := id h
  cases l with
  | nil =>
    cases ao with
    | none => exact .inl ⟨by rw [List.length_nil, hnil cap rfl], rfl⟩
    | some ad => exact .inr ⟨ad, cap, rfl, fun j u hj => by simp at hj⟩
  | cons x l =>
    obtain ⟨ad, rfl, hs⟩ := h.copyable (by simp)
    exact .inr ⟨ad, cap, rfl, hs⟩

theorem RdInts.owns {w : World} {base : Nat} {v : Value} {l : List Int} (h : w.ownsRow base 2 1 v l.length (l.map fun x => .int .i64 x)) : RdInts w v l := by
  obtain ⟨ao, cap, rfl⟩ := owns_form h
  refine ⟨ao, cap, rfl, fun k x hk => ?_⟩
  have hlt : k < l.length := (List.getElem?_eq_some_iff.1 hk).1
  cases ao with
  | none =>
    rcases h.2 with ⟨e, _⟩ | ⟨g, cp, cur, e, _⟩
    · simp only [Value.slice.injEq] at e
      omega
    · cases e
  | some ad =>
    rcases h.2 with ⟨e, _⟩ | ⟨g, cp, cur, e, _, hg, _, _, hs, ht⟩
    · cases e
    · cases e
      have hj : (l.map fun x => Value.int .i64 x)[k]? = some (.int .i64 x) := by rw [List.getElem?_map, hk]; rfl
      refine ⟨g, 0, rfl, ?_⟩
      rw [← ht, List.getElem?_take, if_pos (by omega)] at hj
      simp only [World.cell?, hg, Nat.zero_add]
      simpa using hj

/-- An operation of a script. -/
structure SOp where
  op : Nat
  rel : Nat
  a : Nat
  b : Nat
  c : Nat
  i : Int
  j : Int
  on : Bool
  f : Nat
  g : Nat
  lv : Value
  ls : List Int
  bound : Int

/-- Its cells. -/
def SOp.cells (x : SOp) : List Value := [.int .u8 x.op, .int .u8 x.rel, .int .u8 x.a, .int .u8 x.b, .int .u8 x.c, .int .i64 x.i, .int .i64 x.j, .bool x.on, .int .u32 x.f, .int .u32 x.g, x.lv, .int .i64 x.bound]

/-- Its list is read; its numbers are in their ranges. -/
structure SOpOk (w : World) (x : SOp) : Prop where
  list : RdInts w x.lv x.ls
  nil : ∀ cap, x.lv = .slice none 0 cap → cap = 0
  f : x.f < 4294967296
  g : x.g < 4294967296
  op : x.op < 256
  a : x.a < 256
  b : x.b < 256
  c : x.c < 256

theorem SOpOk.near {w w' : World} {x : SOp} (h : SOpOk w x) (hn : Near w w') : SOpOk w' x := ⟨h.list.near hn, h.nil, h.f, h.g, h.op, h.a, h.b, h.c⟩

/-- What is made: a set, by its function; an error. -/
def opF (x : SOp) (fs : List F) : F :=
  let n := fs.length
  let a := fs.getD (x.a % n) fun _ => false
  let b := fs.getD (x.b % n) fun _ => false
  let c := fs.getD (x.c % n) fun _ => false
  match x.op with
  | 1 => fun _ => true
  | 2 => fun s => if 0 ≤ x.i ∧ x.i < 24 then s x.i.toNat else false
  | 3 => cubeF x.f x.g
  | 4 => fun s => !a s
  | 5 => fun s => a s && b s
  | 6 => fun s => a s || b s
  | 7 => fun s => a s != b s
  | 8 => fun s => if a s then b s else c s
  | 9 => fun s => a (updI s x.i x.on)
  | 10 => qF (fun p q => p || q) (feats x.f) a
  | 11 => qF (fun p q => p && q) (feats x.f) a
  | 12 => betF x.f x.i x.j
  | 13 => if LinOk x.ls x.rel then linF x.ls x.rel x.bound else fun _ => false
  | 14 => allF fs
  | 15 => anyF fs
  | _ => fun _ => false

def opN (x : SOp) : Int :=
  match x.op with
  | 2 => if 0 ≤ x.i ∧ x.i < 24 then 0 else 3
  | 13 => if LinOk x.ls x.rel then 0 else 2
  | _ => 0

theorem opN_else {x : SOp} (h : x.op = 0 ∨ 16 ≤ x.op) : opN x = 0 := by
  unfold opN
  split <;> first | rfl | omega
theorem opF_else {x : SOp} (fs : List F) (h : x.op = 0 ∨ 16 ≤ x.op) : opF x fs = fun _ => false := by
  unfold opF
  simp only
  split <;> first | rfl | omega

def OnePost (w : World) (x : SOp) (fs : List F) (e : Ending) (w' : World) : Prop :=
  ∃ v, e = .returned (.tuple #[v, .int .i64 (opN x)]) ∧ IsF w' v (opF x fs) ∧ Near w w'

end Go.Proofs.Ytefclohjeompkaa

/- The contract of the reference's Linear (printed by gen_refu.py). -/
namespace Go.Proofs.Ytefclohjeompkaa
open Go Go.RowKit Go.Proofs.Gen Go.Proofs.Bdd Go.Proofs.Bdd.T

def RLinPost (w : World) (l : List Int) (rel : Nat) (bound : Int) (e : Ending) (w' : World) : Prop :=
  ∃ v, e = .returned (.tuple #[v, .int .i64 (if LinOk l rel then 0 else 2)]) ∧ IsS w' v (if LinOk l rel then nz l l.length else []) (if LinOk l rel then linF l rel bound else fun _ => false) ∧ Near w w'

set_option maxRecDepth 100000 in
set_option maxHeartbeats 1600000 in
theorem rlinear_bad {w : World} {v : Value} {l : List Int} {rel : Nat} {bound : Int} (h : RdInts w v l) (hl : l.length ≤ 1000) (hbad : ¬ LinOk l rel) : Calls Try.prog 131 #[v, .int .u8 rel, .int .i64 bound] w (RLinPost w l rel bound) := by
  have HB := Lib.hid hbad
  have hor : ¬ CostsOk l ∨ (CostsOk l ∧ (rel = 0 ∨ 4 ≤ rel)) := by
    by_cases hc : CostsOk l
    · exact .inr ⟨hc, by have h2 : ¬ (1 ≤ rel ∧ rel ≤ 3) := fun h => hbad ⟨hc, h⟩; omega⟩
    · exact .inl hc
  clear hbad
  have hv := fun w' (n : Near w w') => costs_calls (h.near n) hl
  have HV := Lib.hid hv
  clear hv h
  have go : ∀ b : Bool, decide (CostsOk l) = b → (b = false ∨ rel = 0 ∨ 4 ≤ rel) → Calls Try.prog 131 #[v, .int .u8 rel, .int .i64 bound] w (RLinPost w l rel bound) := by
    intro b hb hr
    rw [hb] at HV
    clear hb hor
    have fin : ∀ w1 b1 b2 b3 c1 c2 c3, Near w w1 → IsS w1 (.agg #[.slice b1 b2 b3, .slice c1 c2 c3]) [] (fun _ => false) → w1.heap[w.heap.size]? = some (.cells #[.slice none 0 0, .slice none 0 0] 37 (0, 0)) →
        (((w1.setCell ⟨w.heap.size, 0, none⟩ (.slice b1 b2 b3)).setCell ⟨w.heap.size, 1, none⟩ (.slice c1 c2 c3)).cell? ⟨w.heap.size, 0, none⟩ = some (.slice b1 b2 b3) ∧ ((w1.setCell ⟨w.heap.size, 0, none⟩ (.slice b1 b2 b3)).setCell ⟨w.heap.size, 1, none⟩ (.slice c1 c2 c3)).cell? ⟨w.heap.size, 1, none⟩ = some (.slice c1 c2 c3)) ∧
        RLinPost w l rel bound (.returned (.tuple #[.agg #[.slice b1 b2 b3, .slice c1 c2 c3], .int .i64 2])) ((w1.setCell ⟨w.heap.size, 0, none⟩ (.slice b1 b2 b3)).setCell ⟨w.heap.size, 1, none⟩ (.slice c1 c2 c3)) := by
      intro w1 b1 b2 b3 c1 c2 c3 hn hs hr
      have hz := setCell_heap (setCell_heap hr 0 (.slice b1 b2 b3)) 1 (.slice c1 c2 c3)
      refine ⟨⟨cell1 (o := 0) hz rfl, cell1 (o := 1) hz rfl⟩, _, by rw [if_neg HB.out], ?_, (hn.set (Nat.le_refl _) _).set (Nat.le_refl _) _⟩
      rw [if_neg HB.out, if_neg HB.out]
      exact isS_store hs hr
    have HFin := Lib.hid fin
    clear fin
    cases b
    · go_enter Try.func131, Try.ntmps131
      go_wp2_with (first
        | (go_at_call 69; refine (HV.out _ ((Near.refl w).alloc _)).mono ?_; rintro e w1 ⟨rfl, n1⟩)
        | (go_at_call 80; refine (const_calls false _).mono ?_; rintro e w2 ⟨v2, rfl, s2, b2⟩; obtain ⟨x1, x2, x3, y1, y2, y3, rfl⟩ := s2.form; have hn2 := ((Near.refl w).alloc _).trans (n1.trans (Near.of_below b2)); have hr2 := keepN (Near.of_below b2) (keepN n1 (heap_new_at rfl)); have z0 := cell1 (o := 0) hr2 rfl; have z1 := cell1 (o := 1) hr2 rfl; have zf := free1 hr2; have HS2 := Lib.hid s2; have HR2 := Lib.hid hr2; have HN2 := Lib.hid hn2; clear s2 hr2 hn2))
      obtain ⟨⟨q0, q1⟩, hp⟩ := HFin.out _ x1 x2 x3 y1 y2 y3 HN2.out HS2.out HR2.out
      exact bodyPost_ret (v := .tuple #[.agg #[.slice x1 x2 x3, .slice y1 y2 y3], .int .i64 2]) (by simp [results, Try.results131, go_sem, q0, q1]) rfl hp
    · have hr' : rel = 0 ∨ 4 ≤ rel := hr.resolve_left (by decide)
      clear hr
      rcases hr' with rfl | hr'
      · go_enter Try.func131, Try.ntmps131
        go_wp2_with (first
          | (go_at_call 69; refine (HV.out _ ((Near.refl w).alloc _)).mono ?_; rintro e w1 ⟨rfl, n1⟩)
          | (go_at_call 80; refine (const_calls false _).mono ?_; rintro e w2 ⟨v2, rfl, s2, b2⟩; obtain ⟨x1, x2, x3, y1, y2, y3, rfl⟩ := s2.form; have hn2 := ((Near.refl w).alloc _).trans (n1.trans (Near.of_below b2)); have hr2 := keepN (Near.of_below b2) (keepN n1 (heap_new_at rfl)); have z0 := cell1 (o := 0) hr2 rfl; have z1 := cell1 (o := 1) hr2 rfl; have zf := free1 hr2; have HS2 := Lib.hid s2; have HR2 := Lib.hid hr2; have HN2 := Lib.hid hn2; clear s2 hr2 hn2))
        obtain ⟨⟨q0, q1⟩, hp⟩ := HFin.out _ x1 x2 x3 y1 y2 y3 HN2.out HS2.out HR2.out
        exact bodyPost_ret (v := .tuple #[.agg #[.slice x1 x2 x3, .slice y1 y2 y3], .int .i64 2]) (by simp [results, Try.results131, go_sem, q0, q1]) rfl hp
      · have h1 : ¬ (rel : Int) < 1 := by omega
        have h2 : (3 : Int) < rel := by omega
        clear hr'
        go_enter Try.func131, Try.ntmps131
        go_wp2_with (first
          | (go_at_call 69; refine (HV.out _ ((Near.refl w).alloc _)).mono ?_; rintro e w1 ⟨rfl, n1⟩)
          | (go_at_call 80; refine (const_calls false _).mono ?_; rintro e w2 ⟨v2, rfl, s2, b2⟩; obtain ⟨x1, x2, x3, y1, y2, y3, rfl⟩ := s2.form; have hn2 := ((Near.refl w).alloc _).trans (n1.trans (Near.of_below b2)); have hr2 := keepN (Near.of_below b2) (keepN n1 (heap_new_at rfl)); have z0 := cell1 (o := 0) hr2 rfl; have z1 := cell1 (o := 1) hr2 rfl; have zf := free1 hr2; have HS2 := Lib.hid s2; have HR2 := Lib.hid hr2; have HN2 := Lib.hid hn2; clear s2 hr2 hn2))
        obtain ⟨⟨q0, q1⟩, hp⟩ := HFin.out _ x1 x2 x3 y1 y2 y3 HN2.out HS2.out HR2.out
        exact bodyPost_ret (v := .tuple #[.agg #[.slice x1 x2 x3, .slice y1 y2 y3], .int .i64 2]) (by simp [results, Try.results131, go_sem, q0, q1]) rfl hp
  rcases hor with hc | ⟨hc, hr⟩
  · exact go false (decide_eq_false hc) (.inl rfl)
  · exact go true (decide_eq_true hc) (.inr hr)

end Go.Proofs.Ytefclohjeompkaa

/- The contract of the reference's Linear (printed by gen_refv.py). -/
namespace Go.Proofs.Ytefclohjeompkaa
open Go Go.RowKit Go.Proofs.Gen Go.Proofs.Bdd Go.Proofs.Bdd.T

set_option maxRecDepth 100000 in
set_option maxHeartbeats 3200000 in
theorem rlinear_good1 {w : World} {v : Value} {l : List Int} {bound : Int} (h : RdInts w v l) (hlin : LinOk l 1) : Calls Try.prog 131 #[v, .int .u8 1, .int .i64 bound] w (RLinPost w l 1 bound) := by
  obtain ⟨i0, hi0, hz0, hz1, hz2⟩ := info_parts info3
  have hlen := hlin.1.1
  have HLin := Lib.hid hlin
  have HOK := Lib.hid hlin.1
  have hv := fun w' (n : Near w w') => costs_calls (h.near n) (by omega)
  rw [decide_eq_true hlin.1] at hv
  have HVd := Lib.hid hv
  have HRd := Lib.hid h
  obtain ⟨ao0, cap0, rfl, hc0⟩ := h
  have HC := Lib.hid hc0
  clear hv hlin hc0
  go_enter Try.func131, Try.ntmps131
  go_wp2_with (first
    | (go_at_call 69; refine (HVd.out _ ((Near.refl w).alloc _)).mono ?_; rintro e w1 ⟨rfl, n1⟩; have HN1 := Lib.hid (((Near.refl w).alloc (.cells #[.slice none 0 0, .slice none 0 0] 37)).trans n1); have HEC1 := Lib.hid (keepN n1 (heap_new_at (w := w) (o := .cells #[.slice none 0 0, .slice none 0 0] 37) rfl)); have HLT1 := Lib.hid (show w.heap.size + 1 ≤ w1.heap.size by simpa using n1.size'); clear n1))
  go_loopw [8, 9] (fun s i wr => ∃ k : Nat, k ≤ l.length ∧ i = .int .i64 k ∧ wr.ownsRow w1.heap.size 3 1 s (nz l k).length ((nz l k).map iv) ∧ Near w1 wr) (fun _ i _ => l.length - (intOf i).toNat)
  case atStart => exact ⟨0, Nat.zero_le _, rfl, World.ownsRow_nil _ _ _ _, Near.refl _⟩
  case round =>
    obtain ⟨k, hk, rfl, hown, hn1⟩ := hrel
    have hnl := nz_len l k
    have HO := Lib.hid hown
    obtain ⟨so, sc, rfl⟩ := owns_form hown
    clear hown
    by_cases hlt : k < l.length
    · have hlt' : (k : Int) < l.length := by omega
      obtain ⟨g, off, rfl, p0⟩ := HC.out k _ (List.getElem?_eq_getElem hlt)
      have hd : l[k] = costOf l k := by
        unfold costOf
        rw [List.getD_eq_getElem?_getD, List.getElem?_eq_getElem hlt]
        rfl
      rw [hd] at p0
      replace p0 := (HN1.out.trans hn1).cell p0
      have hs := nz_succ l k
      have HS := Lib.hid hs
      have HNr := Lib.hid hn1
      clear hd hs hn1
      obtain ⟨d, hd⟩ : ∃ d, d = costOf l k := ⟨_, rfl⟩
      rw [← hd] at p0
      have HDd := Lib.hid hd
      clear hd
      obtain ⟨m, hm⟩ : ∃ m, m = (nz l k).length := ⟨_, rfl⟩
      rw [← hm] at hnl ⊢
      have HM := Lib.hid hm
      clear hm
      by_cases hz : d = 0
      · subst hz
        go_wp2_with fail
        have e : nz l (k + 1) = nz l k := by rw [HS.out, if_pos HDd.out.symm, List.append_nil]
        exact ⟨⟨k + 1, hlt, by go_num, by rw [e, HM.out]; exact HO.out, HNr.out⟩, by simp [intOf]; omega⟩
      · have hz' : (d != 0) = true := bne_iff_ne.2 hz
        have HOm := Lib.hid (show wr.ownsRow w1.heap.size 3 1 (.slice so m sc) m ((nz l k).map iv) by rw [HM.out]; exact HO.out)
        have HZd := Lib.hid hz
        clear hz
        go_wp2_with (first
          | (at_builtin; refine wpList_append_more rfl (.tmp 36) (.tmp 38) 28 rfl w1.heap.size 3 i0 (.int .i64 0) 1 8 Try.underlying28 hi0 hz0 hz1 hz2 rfl (by decide) (.slice so m sc) m ((nz l k).map iv) rfl (owns_kept HOm.out ((Near.refl wr).alloc _) (fun _ _ x => x)) _ 1 [.int .i64 k] rfl ⟨rfl, .inr ⟨_, 1, rfl, cell_one_at (by simp) _ _⟩⟩ (by simp [Value.oneCell']) (by unfold maxLen; omega) (by omega) (by have := HNr.out.size'; simp; omega) ?_; intro bo bcp w4 hown4 hg4; have HO4 := Lib.hid hown4; have HG4 := Lib.hid hg4; clear hown4 hg4))
        have e : nz l (k + 1) = nz l k ++ [k] := by rw [HS.out, if_neg (fun h => HZd.out (HDd.out.trans h))]
        refine ⟨⟨k + 1, hlt, by go_num, ?_, Kept.grown (HNr.out.alloc _) HG4.out (fun kk hk hlt => absurd (HOm.out.lt kk hk).1 (by omega))⟩, by simp [intOf]; omega⟩
        rw [e, List.length_append, List.map_append, ← HM.out]
        exact HO4.out
    · have hke : k = l.length := by omega
      have hlt' : ¬ (k : Int) < l.length := by omega
      obtain ⟨V, hVV⟩ : ∃ V, V = nz l l.length := ⟨_, rfl⟩
      have hV : Rising 0 V := by rw [hVV]; exact nz_rising l _ hlen
      have HV := Lib.hid hV
      have HU := Lib.hid hVV
      have hrow : wr.ownsRow w1.heap.size 3 1 (.slice so V.length sc) V.length (V.map iv) := by
        have := HO.out
        rw [hke, ← hVV] at this
        exact this
      rw [show nz l k = V by rw [hke, hVV]] at ⊢
      have RX := Lib.hid hrow
      have HN3 := Lib.hid (HN1.out.trans hn1)
      have HEC := Lib.hid (keepN hn1 HEC1.out)
      have HLT4 := Lib.hid (Nat.le_trans HLT1.out hn1.size')
      clear hV hVV hrow hke hn1 HO HN1 HEC1 hnl hk hlt
      rename World => w4
      go_wp2_with (first
        | (go_at_call 127; refine (blank_calls HV.out (ownsRow_low RX.out (Nat.zero_le _))).mono ?_; rintro e w5 ⟨sn, rfl, rn, n5⟩; have RN := Lib.hid rn; clear rn; obtain ⟨ao, cap, hx⟩ := owns_form RX.out; obtain ⟨no, ncp, rfl⟩ := owns_form RN.out; cases hx))
      obtain ⟨tb, tcp, tcur, htv, htg, -, htb⟩ := row1' RN.out (k := 0) (u := .bool false) (by simp [Nat.two_pow_pos]) (Nat.two_pow_pos _)
      simp only [Value.slice.injEq, true_and] at htv
      obtain ⟨rfl, rfl⟩ := htv
      have htl : tb < w5.heap.size := (Array.getElem?_eq_some_iff.1 htg).1
      have W45 : Near w (w5.alloc (.cells #[.slice so V.length sc, .slice (some ⟨tb, 0, none⟩) (2 ^ V.length) ncp] 37)) := (HN3.out.trans n5).alloc _
      have HWW := Lib.hid W45
      have EC4 := Lib.hid (heap_old_at (o := .cells #[.slice so V.length sc, .slice (some ⟨tb, 0, none⟩) (2 ^ V.length) ncp] 37) (Array.getElem?_eq_some_iff.1 (keepN n5 HEC.out)).1 |>.trans (keepN n5 HEC.out))
      have EO : (w5.alloc (.cells #[.slice so V.length sc, .slice (some ⟨tb, 0, none⟩) (2 ^ V.length) ncp] 37)).heap[w5.heap.size]? = some (.cells #[.slice so V.length sc, .slice (some ⟨tb, 0, none⟩) (2 ^ V.length) ncp] 37 (0, 0)) := heap_new_at rfl
      have HEO := Lib.hid EO
      have RNW := Lib.hid (ownsRow_low (RN.out.alloc (.cells #[.slice so V.length sc, .slice (some ⟨tb, 0, none⟩) (2 ^ V.length) ncp] 37)) (Nat.zero_le _))
      have hWs : w5.heap.size < (w5.alloc (.cells #[.slice so V.length sc, .slice (some ⟨tb, 0, none⟩) (2 ^ V.length) ncp] 37)).heap.size := by simp
      have lV := HV.out.len
      have hw4 : w.heap.size + 1 ≤ w4.heap.size := HLT4.out
      have W44 := Lib.hid (n5.alloc (.cells #[.slice so V.length sc, .slice (some ⟨tb, 0, none⟩) (2 ^ V.length) ncp] 37))
      have RX2 := Lib.hid (ownsRow_low RX.out (Nat.zero_le _))
      clear W45 EO RN RX HEC n5 htg HN3
      obtain ⟨N, hN⟩ : ∃ N, N = 2 ^ V.length := ⟨_, rfl⟩
      have hNb : N ≤ 16777216 := by
        have hp : (2 : Nat) ^ V.length ≤ 2 ^ 24 := Nat.pow_le_pow_right (by omega) (by omega)
        have e24 : (2 : Nat) ^ 24 = 16777216 := by decide
        omega
      rw [← hN] at hWs HWW HEO RNW W44 EC4 ⊢
      have HNN := Lib.hid hN
      clear hN
      generalize (w5.alloc (.cells #[.slice so V.length sc, .slice (some ⟨tb, 0, none⟩) N ncp] 37)) = W at hWs HWW HEO RNW W44 EC4 ⊢
      have HG : ∃ g : Nat → Bool, g = fun k => linN l 1 bound V k := ⟨_, rfl⟩
      obtain ⟨g, hg⟩ := HG
      have HG := Lib.hid hg
      clear hg
      go_loopw [11] (fun i wr => ∃ k : Nat, k ≤ N ∧ i = .int .i64 k ∧ wr.ownsRow 0 4 1 (.slice (some ⟨tb, 0, none⟩) N ncp) N ((tabTo N g k).map Value.bool) ∧ Kept (fun b => b = tb) W wr) (fun i _ => N - (intOf i).toNat)
      case atStart =>
        refine ⟨0, Nat.zero_le _, rfl, ?_, Kept.refl _ _⟩
        rw [tabTo_zero]
        exact RNW.out
      case round =>
        obtain ⟨k, hk, rfl, hown, hkp⟩ := hrel
        have z0 : Near w wr := Kept.mono ((HWW.out.kept (S := fun b => b = tb)).trans hkp) (fun b hb e => by omega)
        have xo' : wr.heap[w5.heap.size]? = some (.cells #[.slice so V.length sc, .slice (some ⟨tb, 0, none⟩) N ncp] 37 (0, 0)) := (hkp.block _ hWs (by omega)).trans HEO.out
        have z4 : Near w4 wr := Kept.mono ((W44.out.kept (S := fun b => b = tb)).trans hkp) (fun b hb e => by omega)
        have o0 := cell1 (o := 0) xo' rfl
        have o1 := cell1 (o := 1) xo' rfl
        have HOwn := Lib.hid hown
        have HXO := Lib.hid xo'
        clear xo' hown
        by_cases hlt : k < N
        · have hlt' : (k : Int) < N := by omega
          obtain ⟨tcur', htk, u0, hu0⟩ : ∃ cur, wr.heap[tb]? = some (.cells cur 4 (0, 0)) ∧ ∃ u, cur[k]? = some u := by
            obtain ⟨g', c', cur, e, hg', hc', _⟩ := row1' HOwn.out (k := k) (u := .bool ((tabTo N g k)[k]'(by rw [tabTo_len]; exact hlt))) (by rw [List.getElem?_map, List.getElem?_eq_getElem (by rw [tabTo_len]; exact hlt)]; rfl) hlt
            cases e
            exact ⟨cur, hg', _, hc'⟩
          have t0 := cell1 htk hu0
          have tf := free1 htk k
          have hgk : g k = relB 1 (costSum l (cfg V k).testBit l.length) bound := by rw [HG.out]; rfl
          have hts : ((tabTo N g (k + 1)).map Value.bool) = ((tabTo N g k).map Value.bool).set k (.bool (g k)) := by rw [tabTo_succ, List.map_set]
          have HGK := Lib.hid hgk
          have HTS := Lib.hid hts
          have HTK := Lib.hid htk
          have HU0 := Lib.hid hu0
          clear hgk hts htk hu0 t0 tf
          have HC6 := Lib.hid (show cfg V k < 4294967296 by have := cfg_lt HV.out k; omega)
          obtain ⟨n, hn⟩ : ∃ n, n = costSum l (cfg V k).testBit l.length := ⟨_, rfl⟩
          have hz : g k = relB 1 n bound := by rw [HGK.out, hn]
          have HZ := Lib.hid hz
          have HNn := Lib.hid hn
          clear hz hn
          have hend : ∀ w6, Near wr w6 → ∀ z, z = g k → ∀ wz, wz = w6.setCell ⟨tb, k, none⟩ (.bool z) → wz.ownsRow 0 4 1 (.slice (some ⟨tb, 0, none⟩) N ncp) N ((tabTo N g (k + 1)).map Value.bool) ∧ Kept (fun b => b = tb) W wz := by
            rintro w6 n6 z rfl wz rfl
            rw [HTS.out]
            exact ⟨((owns_kept HOwn.out n6.kept (fun _ _ x => x)).stored k _).1, (hkp.trans n6.kept).setCell (fun _ => rfl) _⟩
          have fin : ∀ w6, Near wr w6 → ∀ z, z = g k → (∃ q : Nat, q ≤ N ∧ (Value.int .i64 ((k : Int) + 1)) = .int .i64 q ∧ (w6.setCell ⟨tb, k, none⟩ (.bool z)).ownsRow 0 4 1 (.slice (some ⟨tb, 0, none⟩) N ncp) N ((tabTo N g q).map Value.bool) ∧ Kept (fun b => b = tb) W (w6.setCell ⟨tb, k, none⟩ (.bool z))) := fun w6 n6 z hz =>
            ⟨k + 1, by omega, by simp, (hend _ n6 _ hz _ rfl).1, (hend _ n6 _ hz _ rfl).2⟩
          have HFin := Lib.hid fin
          clear fin hend
          by_cases hb1 : n ≤ bound
          · have hz : g k = true := by rw [HZ.out]; simp [relB, hb1]
            have HZ2 := Lib.hid hz
            clear hz
            go_wp2_with (first
              | (go_at_call 83; refine (config_calls HV.out (by omega) (owns_kept RX2.out z4.kept (fun _ _ x => x)) k (by omega)).mono ?_; rintro e w6 ⟨rfl, n6⟩; have HN6 := Lib.hid n6; clear n6)
              | (go_at_call 71; refine (cost_calls (HRd.out.near ((z0.trans HN6.out))) HOK.out _ HC6.out).mono ?_; rw [← HNn.out]; rintro e w7 ⟨rfl, n7⟩; have HN7 := Lib.hid (HN6.out.trans n7); clear n7; have p1 := cell1 (o := 1) (keepN HN7.out HXO.out) rfl; have t0 := cell1 (keepN HN7.out HTK.out) HU0.out; have tf := free1 (keepN HN7.out HTK.out) k))
            exact ⟨HFin.out _ HN7.out _ (by first | (rw [HZ2.out]; done) | (rw [HZ2.out]; exact decide_eq_false (by omega))), by simp [intOf]; omega⟩
          · have hz : g k = false := by rw [HZ.out]; simp [relB, hb1]
            have HZ2 := Lib.hid hz
            clear hz
            have hb1' : bound < n := by omega
            go_wp2_with (first
              | (go_at_call 83; refine (config_calls HV.out (by omega) (owns_kept RX2.out z4.kept (fun _ _ x => x)) k (by omega)).mono ?_; rintro e w6 ⟨rfl, n6⟩; have HN6 := Lib.hid n6; clear n6)
              | (go_at_call 71; refine (cost_calls (HRd.out.near ((z0.trans HN6.out))) HOK.out _ HC6.out).mono ?_; rw [← HNn.out]; rintro e w7 ⟨rfl, n7⟩; have HN7 := Lib.hid (HN6.out.trans n7); clear n7; have p1 := cell1 (o := 1) (keepN HN7.out HXO.out) rfl; have t0 := cell1 (keepN HN7.out HTK.out) HU0.out; have tf := free1 (keepN HN7.out HTK.out) k))
            exact ⟨HFin.out _ HN7.out _ (by first | (rw [HZ2.out]; done) | (rw [HZ2.out]; exact decide_eq_false (by omega))), by simp [intOf]; omega⟩
        · have hkN : k = N := by omega
          subst hkN
          have rc := (hkp.block _ (by omega) (by omega)).trans EC4.out
          have c0 := cell1 (o := 0) rc rfl
          have c1 := cell1 (o := 1) rc rfl
          have f0 := free1 rc 0
          have f1 := free1 rc 1
          have R1r := owns_kept (R := fun _ => False) RX2.out z4.kept (fun _ _ x => x)
          have ne1 := owns_ne R1r rc (by decide : (3 : Nat) ≠ 37)
          have ne2 := owns_ne HOwn.out rc (by decide : (4 : Nat) ≠ 37)
          have RX3 := Lib.hid R1r
          clear R1r
          go_wp2_with fail
          have e1 := HNN.out
          have e2 := HG.out
          have hbox : IsS ((wr.setCell ⟨w.heap.size, 0, none⟩ (.slice so V.length sc)).setCell ⟨w.heap.size, 1, none⟩ (.slice (some ⟨tb, 0, none⟩) k ncp)) (.agg #[.slice so V.length sc, .slice (some ⟨tb, 0, none⟩) k ncp]) V (linF l 1 bound) := ⟨tabTo (2 ^ V.length) (fun k => linN l 1 bound V k) (2 ^ V.length), ⟨HV.out, by rw [tabTo_len], _, _, rfl, ownsRow_setCell_other (ownsRow_setCell_other RX3.out ne1 (.slice so V.length sc)) ne1 (.slice (some ⟨tb, 0, none⟩) k ncp), by
            rw [tabTo_len, ← e1, ← e2]
            exact ownsRow_setCell_other (a := ⟨w.heap.size, 1, none⟩) (ownsRow_setCell_other (a := ⟨w.heap.size, 0, none⟩) HOwn.out ne2 (.slice so V.length sc)) ne2 (.slice (some ⟨tb, 0, none⟩) k ncp)⟩, fun c => by
              rw [tabTo_rf, HU.out]
              exact linN_linF HOK.out.1 1 bound c⟩
          refine bodyPost_ret (v := .tuple #[.agg #[.slice so V.length sc, .slice (some ⟨tb, 0, none⟩) k ncp], .int .i64 0]) (by simp [results, Try.results131, go_sem, c0, c1]) rfl ⟨_, by rw [if_pos HLin.out], ?_, (z0.set (Nat.le_refl _) _).set (Nat.le_refl _) _⟩
          rw [if_pos HLin.out, if_pos HLin.out, ← HU.out]
          exact hbox

set_option maxRecDepth 100000 in
set_option maxHeartbeats 3200000 in
theorem rlinear_good2 {w : World} {v : Value} {l : List Int} {bound : Int} (h : RdInts w v l) (hlin : LinOk l 2) : Calls Try.prog 131 #[v, .int .u8 2, .int .i64 bound] w (RLinPost w l 2 bound) := by
  obtain ⟨i0, hi0, hz0, hz1, hz2⟩ := info_parts info3
  have hlen := hlin.1.1
  have HLin := Lib.hid hlin
  have HOK := Lib.hid hlin.1
  have hv := fun w' (n : Near w w') => costs_calls (h.near n) (by omega)
  rw [decide_eq_true hlin.1] at hv
  have HVd := Lib.hid hv
  have HRd := Lib.hid h
  obtain ⟨ao0, cap0, rfl, hc0⟩ := h
  have HC := Lib.hid hc0
  clear hv hlin hc0
  go_enter Try.func131, Try.ntmps131
  go_wp2_with (first
    | (go_at_call 69; refine (HVd.out _ ((Near.refl w).alloc _)).mono ?_; rintro e w1 ⟨rfl, n1⟩; have HN1 := Lib.hid (((Near.refl w).alloc (.cells #[.slice none 0 0, .slice none 0 0] 37)).trans n1); have HEC1 := Lib.hid (keepN n1 (heap_new_at (w := w) (o := .cells #[.slice none 0 0, .slice none 0 0] 37) rfl)); have HLT1 := Lib.hid (show w.heap.size + 1 ≤ w1.heap.size by simpa using n1.size'); clear n1))
  go_loopw [8, 9] (fun s i wr => ∃ k : Nat, k ≤ l.length ∧ i = .int .i64 k ∧ wr.ownsRow w1.heap.size 3 1 s (nz l k).length ((nz l k).map iv) ∧ Near w1 wr) (fun _ i _ => l.length - (intOf i).toNat)
  case atStart => exact ⟨0, Nat.zero_le _, rfl, World.ownsRow_nil _ _ _ _, Near.refl _⟩
  case round =>
    obtain ⟨k, hk, rfl, hown, hn1⟩ := hrel
    have hnl := nz_len l k
    have HO := Lib.hid hown
    obtain ⟨so, sc, rfl⟩ := owns_form hown
    clear hown
    by_cases hlt : k < l.length
    · have hlt' : (k : Int) < l.length := by omega
      obtain ⟨g, off, rfl, p0⟩ := HC.out k _ (List.getElem?_eq_getElem hlt)
      have hd : l[k] = costOf l k := by
        unfold costOf
        rw [List.getD_eq_getElem?_getD, List.getElem?_eq_getElem hlt]
        rfl
      rw [hd] at p0
      replace p0 := (HN1.out.trans hn1).cell p0
      have hs := nz_succ l k
      have HS := Lib.hid hs
      have HNr := Lib.hid hn1
      clear hd hs hn1
      obtain ⟨d, hd⟩ : ∃ d, d = costOf l k := ⟨_, rfl⟩
      rw [← hd] at p0
      have HDd := Lib.hid hd
      clear hd
      obtain ⟨m, hm⟩ : ∃ m, m = (nz l k).length := ⟨_, rfl⟩
      rw [← hm] at hnl ⊢
      have HM := Lib.hid hm
      clear hm
      by_cases hz : d = 0
      · subst hz
        go_wp2_with fail
        have e : nz l (k + 1) = nz l k := by rw [HS.out, if_pos HDd.out.symm, List.append_nil]
        exact ⟨⟨k + 1, hlt, by go_num, by rw [e, HM.out]; exact HO.out, HNr.out⟩, by simp [intOf]; omega⟩
      · have hz' : (d != 0) = true := bne_iff_ne.2 hz
        have HOm := Lib.hid (show wr.ownsRow w1.heap.size 3 1 (.slice so m sc) m ((nz l k).map iv) by rw [HM.out]; exact HO.out)
        have HZd := Lib.hid hz
        clear hz
        go_wp2_with (first
          | (at_builtin; refine wpList_append_more rfl (.tmp 36) (.tmp 38) 28 rfl w1.heap.size 3 i0 (.int .i64 0) 1 8 Try.underlying28 hi0 hz0 hz1 hz2 rfl (by decide) (.slice so m sc) m ((nz l k).map iv) rfl (owns_kept HOm.out ((Near.refl wr).alloc _) (fun _ _ x => x)) _ 1 [.int .i64 k] rfl ⟨rfl, .inr ⟨_, 1, rfl, cell_one_at (by simp) _ _⟩⟩ (by simp [Value.oneCell']) (by unfold maxLen; omega) (by omega) (by have := HNr.out.size'; simp; omega) ?_; intro bo bcp w4 hown4 hg4; have HO4 := Lib.hid hown4; have HG4 := Lib.hid hg4; clear hown4 hg4))
        have e : nz l (k + 1) = nz l k ++ [k] := by rw [HS.out, if_neg (fun h => HZd.out (HDd.out.trans h))]
        refine ⟨⟨k + 1, hlt, by go_num, ?_, Kept.grown (HNr.out.alloc _) HG4.out (fun kk hk hlt => absurd (HOm.out.lt kk hk).1 (by omega))⟩, by simp [intOf]; omega⟩
        rw [e, List.length_append, List.map_append, ← HM.out]
        exact HO4.out
    · have hke : k = l.length := by omega
      have hlt' : ¬ (k : Int) < l.length := by omega
      obtain ⟨V, hVV⟩ : ∃ V, V = nz l l.length := ⟨_, rfl⟩
      have hV : Rising 0 V := by rw [hVV]; exact nz_rising l _ hlen
      have HV := Lib.hid hV
      have HU := Lib.hid hVV
      have hrow : wr.ownsRow w1.heap.size 3 1 (.slice so V.length sc) V.length (V.map iv) := by
        have := HO.out
        rw [hke, ← hVV] at this
        exact this
      rw [show nz l k = V by rw [hke, hVV]] at ⊢
      have RX := Lib.hid hrow
      have HN3 := Lib.hid (HN1.out.trans hn1)
      have HEC := Lib.hid (keepN hn1 HEC1.out)
      have HLT4 := Lib.hid (Nat.le_trans HLT1.out hn1.size')
      clear hV hVV hrow hke hn1 HO HN1 HEC1 hnl hk hlt
      rename World => w4
      go_wp2_with (first
        | (go_at_call 127; refine (blank_calls HV.out (ownsRow_low RX.out (Nat.zero_le _))).mono ?_; rintro e w5 ⟨sn, rfl, rn, n5⟩; have RN := Lib.hid rn; clear rn; obtain ⟨ao, cap, hx⟩ := owns_form RX.out; obtain ⟨no, ncp, rfl⟩ := owns_form RN.out; cases hx))
      obtain ⟨tb, tcp, tcur, htv, htg, -, htb⟩ := row1' RN.out (k := 0) (u := .bool false) (by simp [Nat.two_pow_pos]) (Nat.two_pow_pos _)
      simp only [Value.slice.injEq, true_and] at htv
      obtain ⟨rfl, rfl⟩ := htv
      have htl : tb < w5.heap.size := (Array.getElem?_eq_some_iff.1 htg).1
      have W45 : Near w (w5.alloc (.cells #[.slice so V.length sc, .slice (some ⟨tb, 0, none⟩) (2 ^ V.length) ncp] 37)) := (HN3.out.trans n5).alloc _
      have HWW := Lib.hid W45
      have EC4 := Lib.hid (heap_old_at (o := .cells #[.slice so V.length sc, .slice (some ⟨tb, 0, none⟩) (2 ^ V.length) ncp] 37) (Array.getElem?_eq_some_iff.1 (keepN n5 HEC.out)).1 |>.trans (keepN n5 HEC.out))
      have EO : (w5.alloc (.cells #[.slice so V.length sc, .slice (some ⟨tb, 0, none⟩) (2 ^ V.length) ncp] 37)).heap[w5.heap.size]? = some (.cells #[.slice so V.length sc, .slice (some ⟨tb, 0, none⟩) (2 ^ V.length) ncp] 37 (0, 0)) := heap_new_at rfl
      have HEO := Lib.hid EO
      have RNW := Lib.hid (ownsRow_low (RN.out.alloc (.cells #[.slice so V.length sc, .slice (some ⟨tb, 0, none⟩) (2 ^ V.length) ncp] 37)) (Nat.zero_le _))
      have hWs : w5.heap.size < (w5.alloc (.cells #[.slice so V.length sc, .slice (some ⟨tb, 0, none⟩) (2 ^ V.length) ncp] 37)).heap.size := by simp
      have lV := HV.out.len
      have hw4 : w.heap.size + 1 ≤ w4.heap.size := HLT4.out
      have W44 := Lib.hid (n5.alloc (.cells #[.slice so V.length sc, .slice (some ⟨tb, 0, none⟩) (2 ^ V.length) ncp] 37))
      have RX2 := Lib.hid (ownsRow_low RX.out (Nat.zero_le _))
      clear W45 EO RN RX HEC n5 htg HN3
      obtain ⟨N, hN⟩ : ∃ N, N = 2 ^ V.length := ⟨_, rfl⟩
      have hNb : N ≤ 16777216 := by
        have hp : (2 : Nat) ^ V.length ≤ 2 ^ 24 := Nat.pow_le_pow_right (by omega) (by omega)
        have e24 : (2 : Nat) ^ 24 = 16777216 := by decide
        omega
      rw [← hN] at hWs HWW HEO RNW W44 EC4 ⊢
      have HNN := Lib.hid hN
      clear hN
      generalize (w5.alloc (.cells #[.slice so V.length sc, .slice (some ⟨tb, 0, none⟩) N ncp] 37)) = W at hWs HWW HEO RNW W44 EC4 ⊢
      have HG : ∃ g : Nat → Bool, g = fun k => linN l 2 bound V k := ⟨_, rfl⟩
      obtain ⟨g, hg⟩ := HG
      have HG := Lib.hid hg
      clear hg
      go_loopw [11] (fun i wr => ∃ k : Nat, k ≤ N ∧ i = .int .i64 k ∧ wr.ownsRow 0 4 1 (.slice (some ⟨tb, 0, none⟩) N ncp) N ((tabTo N g k).map Value.bool) ∧ Kept (fun b => b = tb) W wr) (fun i _ => N - (intOf i).toNat)
      case atStart =>
        refine ⟨0, Nat.zero_le _, rfl, ?_, Kept.refl _ _⟩
        rw [tabTo_zero]
        exact RNW.out
      case round =>
        obtain ⟨k, hk, rfl, hown, hkp⟩ := hrel
        have z0 : Near w wr := Kept.mono ((HWW.out.kept (S := fun b => b = tb)).trans hkp) (fun b hb e => by omega)
        have xo' : wr.heap[w5.heap.size]? = some (.cells #[.slice so V.length sc, .slice (some ⟨tb, 0, none⟩) N ncp] 37 (0, 0)) := (hkp.block _ hWs (by omega)).trans HEO.out
        have z4 : Near w4 wr := Kept.mono ((W44.out.kept (S := fun b => b = tb)).trans hkp) (fun b hb e => by omega)
        have o0 := cell1 (o := 0) xo' rfl
        have o1 := cell1 (o := 1) xo' rfl
        have HOwn := Lib.hid hown
        have HXO := Lib.hid xo'
        clear xo' hown
        by_cases hlt : k < N
        · have hlt' : (k : Int) < N := by omega
          obtain ⟨tcur', htk, u0, hu0⟩ : ∃ cur, wr.heap[tb]? = some (.cells cur 4 (0, 0)) ∧ ∃ u, cur[k]? = some u := by
            obtain ⟨g', c', cur, e, hg', hc', _⟩ := row1' HOwn.out (k := k) (u := .bool ((tabTo N g k)[k]'(by rw [tabTo_len]; exact hlt))) (by rw [List.getElem?_map, List.getElem?_eq_getElem (by rw [tabTo_len]; exact hlt)]; rfl) hlt
            cases e
            exact ⟨cur, hg', _, hc'⟩
          have t0 := cell1 htk hu0
          have tf := free1 htk k
          have hgk : g k = relB 2 (costSum l (cfg V k).testBit l.length) bound := by rw [HG.out]; rfl
          have hts : ((tabTo N g (k + 1)).map Value.bool) = ((tabTo N g k).map Value.bool).set k (.bool (g k)) := by rw [tabTo_succ, List.map_set]
          have HGK := Lib.hid hgk
          have HTS := Lib.hid hts
          have HTK := Lib.hid htk
          have HU0 := Lib.hid hu0
          clear hgk hts htk hu0 t0 tf
          have HC6 := Lib.hid (show cfg V k < 4294967296 by have := cfg_lt HV.out k; omega)
          obtain ⟨n, hn⟩ : ∃ n, n = costSum l (cfg V k).testBit l.length := ⟨_, rfl⟩
          have hz : g k = relB 2 n bound := by rw [HGK.out, hn]
          have HZ := Lib.hid hz
          have HNn := Lib.hid hn
          clear hz hn
          have hend : ∀ w6, Near wr w6 → ∀ z, z = g k → ∀ wz, wz = w6.setCell ⟨tb, k, none⟩ (.bool z) → wz.ownsRow 0 4 1 (.slice (some ⟨tb, 0, none⟩) N ncp) N ((tabTo N g (k + 1)).map Value.bool) ∧ Kept (fun b => b = tb) W wz := by
            rintro w6 n6 z rfl wz rfl
            rw [HTS.out]
            exact ⟨((owns_kept HOwn.out n6.kept (fun _ _ x => x)).stored k _).1, (hkp.trans n6.kept).setCell (fun _ => rfl) _⟩
          have fin : ∀ w6, Near wr w6 → ∀ z, z = g k → (∃ q : Nat, q ≤ N ∧ (Value.int .i64 ((k : Int) + 1)) = .int .i64 q ∧ (w6.setCell ⟨tb, k, none⟩ (.bool z)).ownsRow 0 4 1 (.slice (some ⟨tb, 0, none⟩) N ncp) N ((tabTo N g q).map Value.bool) ∧ Kept (fun b => b = tb) W (w6.setCell ⟨tb, k, none⟩ (.bool z))) := fun w6 n6 z hz =>
            ⟨k + 1, by omega, by simp, (hend _ n6 _ hz _ rfl).1, (hend _ n6 _ hz _ rfl).2⟩
          have HFin := Lib.hid fin
          clear fin hend
          by_cases hb1 : bound ≤ n
          · have hz : g k = true := by rw [HZ.out]; simp [relB, hb1]
            have HZ2 := Lib.hid hz
            clear hz
            go_wp2_with (first
              | (go_at_call 83; refine (config_calls HV.out (by omega) (owns_kept RX2.out z4.kept (fun _ _ x => x)) k (by omega)).mono ?_; rintro e w6 ⟨rfl, n6⟩; have HN6 := Lib.hid n6; clear n6)
              | (go_at_call 71; refine (cost_calls (HRd.out.near ((z0.trans HN6.out))) HOK.out _ HC6.out).mono ?_; rw [← HNn.out]; rintro e w7 ⟨rfl, n7⟩; have HN7 := Lib.hid (HN6.out.trans n7); clear n7; have p1 := cell1 (o := 1) (keepN HN7.out HXO.out) rfl; have t0 := cell1 (keepN HN7.out HTK.out) HU0.out; have tf := free1 (keepN HN7.out HTK.out) k))
            exact ⟨HFin.out _ HN7.out _ (by first | (rw [HZ2.out]; done) | (rw [HZ2.out]; exact decide_eq_false (by omega))), by simp [intOf]; omega⟩
          · have hz : g k = false := by rw [HZ.out]; simp [relB, hb1]
            have HZ2 := Lib.hid hz
            clear hz
            have hb1' : n < bound := by omega
            go_wp2_with (first
              | (go_at_call 83; refine (config_calls HV.out (by omega) (owns_kept RX2.out z4.kept (fun _ _ x => x)) k (by omega)).mono ?_; rintro e w6 ⟨rfl, n6⟩; have HN6 := Lib.hid n6; clear n6)
              | (go_at_call 71; refine (cost_calls (HRd.out.near ((z0.trans HN6.out))) HOK.out _ HC6.out).mono ?_; rw [← HNn.out]; rintro e w7 ⟨rfl, n7⟩; have HN7 := Lib.hid (HN6.out.trans n7); clear n7; have p1 := cell1 (o := 1) (keepN HN7.out HXO.out) rfl; have t0 := cell1 (keepN HN7.out HTK.out) HU0.out; have tf := free1 (keepN HN7.out HTK.out) k))
            exact ⟨HFin.out _ HN7.out _ (by first | (rw [HZ2.out]; done) | (rw [HZ2.out]; exact decide_eq_false (by omega))), by simp [intOf]; omega⟩
        · have hkN : k = N := by omega
          subst hkN
          have rc := (hkp.block _ (by omega) (by omega)).trans EC4.out
          have c0 := cell1 (o := 0) rc rfl
          have c1 := cell1 (o := 1) rc rfl
          have f0 := free1 rc 0
          have f1 := free1 rc 1
          have R1r := owns_kept (R := fun _ => False) RX2.out z4.kept (fun _ _ x => x)
          have ne1 := owns_ne R1r rc (by decide : (3 : Nat) ≠ 37)
          have ne2 := owns_ne HOwn.out rc (by decide : (4 : Nat) ≠ 37)
          have RX3 := Lib.hid R1r
          clear R1r
          go_wp2_with fail
          have e1 := HNN.out
          have e2 := HG.out
          have hbox : IsS ((wr.setCell ⟨w.heap.size, 0, none⟩ (.slice so V.length sc)).setCell ⟨w.heap.size, 1, none⟩ (.slice (some ⟨tb, 0, none⟩) k ncp)) (.agg #[.slice so V.length sc, .slice (some ⟨tb, 0, none⟩) k ncp]) V (linF l 2 bound) := ⟨tabTo (2 ^ V.length) (fun k => linN l 2 bound V k) (2 ^ V.length), ⟨HV.out, by rw [tabTo_len], _, _, rfl, ownsRow_setCell_other (ownsRow_setCell_other RX3.out ne1 (.slice so V.length sc)) ne1 (.slice (some ⟨tb, 0, none⟩) k ncp), by
            rw [tabTo_len, ← e1, ← e2]
            exact ownsRow_setCell_other (a := ⟨w.heap.size, 1, none⟩) (ownsRow_setCell_other (a := ⟨w.heap.size, 0, none⟩) HOwn.out ne2 (.slice so V.length sc)) ne2 (.slice (some ⟨tb, 0, none⟩) k ncp)⟩, fun c => by
              rw [tabTo_rf, HU.out]
              exact linN_linF HOK.out.1 2 bound c⟩
          refine bodyPost_ret (v := .tuple #[.agg #[.slice so V.length sc, .slice (some ⟨tb, 0, none⟩) k ncp], .int .i64 0]) (by simp [results, Try.results131, go_sem, c0, c1]) rfl ⟨_, by rw [if_pos HLin.out], ?_, (z0.set (Nat.le_refl _) _).set (Nat.le_refl _) _⟩
          rw [if_pos HLin.out, if_pos HLin.out, ← HU.out]
          exact hbox

set_option maxRecDepth 100000 in
set_option maxHeartbeats 3200000 in
theorem rlinear_good3 {w : World} {v : Value} {l : List Int} {bound : Int} (h : RdInts w v l) (hlin : LinOk l 3) : Calls Try.prog 131 #[v, .int .u8 3, .int .i64 bound] w (RLinPost w l 3 bound) := by
  obtain ⟨i0, hi0, hz0, hz1, hz2⟩ := info_parts info3
  have hlen := hlin.1.1
  have HLin := Lib.hid hlin
  have HOK := Lib.hid hlin.1
  have hv := fun w' (n : Near w w') => costs_calls (h.near n) (by omega)
  rw [decide_eq_true hlin.1] at hv
  have HVd := Lib.hid hv
  have HRd := Lib.hid h
  obtain ⟨ao0, cap0, rfl, hc0⟩ := h
  have HC := Lib.hid hc0
  clear hv hlin hc0
  go_enter Try.func131, Try.ntmps131
  go_wp2_with (first
    | (go_at_call 69; refine (HVd.out _ ((Near.refl w).alloc _)).mono ?_; rintro e w1 ⟨rfl, n1⟩; have HN1 := Lib.hid (((Near.refl w).alloc (.cells #[.slice none 0 0, .slice none 0 0] 37)).trans n1); have HEC1 := Lib.hid (keepN n1 (heap_new_at (w := w) (o := .cells #[.slice none 0 0, .slice none 0 0] 37) rfl)); have HLT1 := Lib.hid (show w.heap.size + 1 ≤ w1.heap.size by simpa using n1.size'); clear n1))
  go_loopw [8, 9] (fun s i wr => ∃ k : Nat, k ≤ l.length ∧ i = .int .i64 k ∧ wr.ownsRow w1.heap.size 3 1 s (nz l k).length ((nz l k).map iv) ∧ Near w1 wr) (fun _ i _ => l.length - (intOf i).toNat)
  case atStart => exact ⟨0, Nat.zero_le _, rfl, World.ownsRow_nil _ _ _ _, Near.refl _⟩
  case round =>
    obtain ⟨k, hk, rfl, hown, hn1⟩ := hrel
    have hnl := nz_len l k
    have HO := Lib.hid hown
    obtain ⟨so, sc, rfl⟩ := owns_form hown
    clear hown
    by_cases hlt : k < l.length
    · have hlt' : (k : Int) < l.length := by omega
      obtain ⟨g, off, rfl, p0⟩ := HC.out k _ (List.getElem?_eq_getElem hlt)
      have hd : l[k] = costOf l k := by
        unfold costOf
        rw [List.getD_eq_getElem?_getD, List.getElem?_eq_getElem hlt]
        rfl
      rw [hd] at p0
      replace p0 := (HN1.out.trans hn1).cell p0
      have hs := nz_succ l k
      have HS := Lib.hid hs
      have HNr := Lib.hid hn1
      clear hd hs hn1
      obtain ⟨d, hd⟩ : ∃ d, d = costOf l k := ⟨_, rfl⟩
      rw [← hd] at p0
      have HDd := Lib.hid hd
      clear hd
      obtain ⟨m, hm⟩ : ∃ m, m = (nz l k).length := ⟨_, rfl⟩
      rw [← hm] at hnl ⊢
      have HM := Lib.hid hm
      clear hm
      by_cases hz : d = 0
      · subst hz
        go_wp2_with fail
        have e : nz l (k + 1) = nz l k := by rw [HS.out, if_pos HDd.out.symm, List.append_nil]
        exact ⟨⟨k + 1, hlt, by go_num, by rw [e, HM.out]; exact HO.out, HNr.out⟩, by simp [intOf]; omega⟩
      · have hz' : (d != 0) = true := bne_iff_ne.2 hz
        have HOm := Lib.hid (show wr.ownsRow w1.heap.size 3 1 (.slice so m sc) m ((nz l k).map iv) by rw [HM.out]; exact HO.out)
        have HZd := Lib.hid hz
        clear hz
        go_wp2_with (first
          | (at_builtin; refine wpList_append_more rfl (.tmp 36) (.tmp 38) 28 rfl w1.heap.size 3 i0 (.int .i64 0) 1 8 Try.underlying28 hi0 hz0 hz1 hz2 rfl (by decide) (.slice so m sc) m ((nz l k).map iv) rfl (owns_kept HOm.out ((Near.refl wr).alloc _) (fun _ _ x => x)) _ 1 [.int .i64 k] rfl ⟨rfl, .inr ⟨_, 1, rfl, cell_one_at (by simp) _ _⟩⟩ (by simp [Value.oneCell']) (by unfold maxLen; omega) (by omega) (by have := HNr.out.size'; simp; omega) ?_; intro bo bcp w4 hown4 hg4; have HO4 := Lib.hid hown4; have HG4 := Lib.hid hg4; clear hown4 hg4))
        have e : nz l (k + 1) = nz l k ++ [k] := by rw [HS.out, if_neg (fun h => HZd.out (HDd.out.trans h))]
        refine ⟨⟨k + 1, hlt, by go_num, ?_, Kept.grown (HNr.out.alloc _) HG4.out (fun kk hk hlt => absurd (HOm.out.lt kk hk).1 (by omega))⟩, by simp [intOf]; omega⟩
        rw [e, List.length_append, List.map_append, ← HM.out]
        exact HO4.out
    · have hke : k = l.length := by omega
      have hlt' : ¬ (k : Int) < l.length := by omega
      obtain ⟨V, hVV⟩ : ∃ V, V = nz l l.length := ⟨_, rfl⟩
      have hV : Rising 0 V := by rw [hVV]; exact nz_rising l _ hlen
      have HV := Lib.hid hV
      have HU := Lib.hid hVV
      have hrow : wr.ownsRow w1.heap.size 3 1 (.slice so V.length sc) V.length (V.map iv) := by
        have := HO.out
        rw [hke, ← hVV] at this
        exact this
      rw [show nz l k = V by rw [hke, hVV]] at ⊢
      have RX := Lib.hid hrow
      have HN3 := Lib.hid (HN1.out.trans hn1)
      have HEC := Lib.hid (keepN hn1 HEC1.out)
      have HLT4 := Lib.hid (Nat.le_trans HLT1.out hn1.size')
      clear hV hVV hrow hke hn1 HO HN1 HEC1 hnl hk hlt
      rename World => w4
      go_wp2_with (first
        | (go_at_call 127; refine (blank_calls HV.out (ownsRow_low RX.out (Nat.zero_le _))).mono ?_; rintro e w5 ⟨sn, rfl, rn, n5⟩; have RN := Lib.hid rn; clear rn; obtain ⟨ao, cap, hx⟩ := owns_form RX.out; obtain ⟨no, ncp, rfl⟩ := owns_form RN.out; cases hx))
      obtain ⟨tb, tcp, tcur, htv, htg, -, htb⟩ := row1' RN.out (k := 0) (u := .bool false) (by simp [Nat.two_pow_pos]) (Nat.two_pow_pos _)
      simp only [Value.slice.injEq, true_and] at htv
      obtain ⟨rfl, rfl⟩ := htv
      have htl : tb < w5.heap.size := (Array.getElem?_eq_some_iff.1 htg).1
      have W45 : Near w (w5.alloc (.cells #[.slice so V.length sc, .slice (some ⟨tb, 0, none⟩) (2 ^ V.length) ncp] 37)) := (HN3.out.trans n5).alloc _
      have HWW := Lib.hid W45
      have EC4 := Lib.hid (heap_old_at (o := .cells #[.slice so V.length sc, .slice (some ⟨tb, 0, none⟩) (2 ^ V.length) ncp] 37) (Array.getElem?_eq_some_iff.1 (keepN n5 HEC.out)).1 |>.trans (keepN n5 HEC.out))
      have EO : (w5.alloc (.cells #[.slice so V.length sc, .slice (some ⟨tb, 0, none⟩) (2 ^ V.length) ncp] 37)).heap[w5.heap.size]? = some (.cells #[.slice so V.length sc, .slice (some ⟨tb, 0, none⟩) (2 ^ V.length) ncp] 37 (0, 0)) := heap_new_at rfl
      have HEO := Lib.hid EO
      have RNW := Lib.hid (ownsRow_low (RN.out.alloc (.cells #[.slice so V.length sc, .slice (some ⟨tb, 0, none⟩) (2 ^ V.length) ncp] 37)) (Nat.zero_le _))
      have hWs : w5.heap.size < (w5.alloc (.cells #[.slice so V.length sc, .slice (some ⟨tb, 0, none⟩) (2 ^ V.length) ncp] 37)).heap.size := by simp
      have lV := HV.out.len
      have hw4 : w.heap.size + 1 ≤ w4.heap.size := HLT4.out
      have W44 := Lib.hid (n5.alloc (.cells #[.slice so V.length sc, .slice (some ⟨tb, 0, none⟩) (2 ^ V.length) ncp] 37))
      have RX2 := Lib.hid (ownsRow_low RX.out (Nat.zero_le _))
      clear W45 EO RN RX HEC n5 htg HN3
      obtain ⟨N, hN⟩ : ∃ N, N = 2 ^ V.length := ⟨_, rfl⟩
      have hNb : N ≤ 16777216 := by
        have hp : (2 : Nat) ^ V.length ≤ 2 ^ 24 := Nat.pow_le_pow_right (by omega) (by omega)
        have e24 : (2 : Nat) ^ 24 = 16777216 := by decide
        omega
      rw [← hN] at hWs HWW HEO RNW W44 EC4 ⊢
      have HNN := Lib.hid hN
      clear hN
      generalize (w5.alloc (.cells #[.slice so V.length sc, .slice (some ⟨tb, 0, none⟩) N ncp] 37)) = W at hWs HWW HEO RNW W44 EC4 ⊢
      have HG : ∃ g : Nat → Bool, g = fun k => linN l 3 bound V k := ⟨_, rfl⟩
      obtain ⟨g, hg⟩ := HG
      have HG := Lib.hid hg
      clear hg
      go_loopw [11] (fun i wr => ∃ k : Nat, k ≤ N ∧ i = .int .i64 k ∧ wr.ownsRow 0 4 1 (.slice (some ⟨tb, 0, none⟩) N ncp) N ((tabTo N g k).map Value.bool) ∧ Kept (fun b => b = tb) W wr) (fun i _ => N - (intOf i).toNat)
      case atStart =>
        refine ⟨0, Nat.zero_le _, rfl, ?_, Kept.refl _ _⟩
        rw [tabTo_zero]
        exact RNW.out
      case round =>
        obtain ⟨k, hk, rfl, hown, hkp⟩ := hrel
        have z0 : Near w wr := Kept.mono ((HWW.out.kept (S := fun b => b = tb)).trans hkp) (fun b hb e => by omega)
        have xo' : wr.heap[w5.heap.size]? = some (.cells #[.slice so V.length sc, .slice (some ⟨tb, 0, none⟩) N ncp] 37 (0, 0)) := (hkp.block _ hWs (by omega)).trans HEO.out
        have z4 : Near w4 wr := Kept.mono ((W44.out.kept (S := fun b => b = tb)).trans hkp) (fun b hb e => by omega)
        have o0 := cell1 (o := 0) xo' rfl
        have o1 := cell1 (o := 1) xo' rfl
        have HOwn := Lib.hid hown
        have HXO := Lib.hid xo'
        clear xo' hown
        by_cases hlt : k < N
        · have hlt' : (k : Int) < N := by omega
          obtain ⟨tcur', htk, u0, hu0⟩ : ∃ cur, wr.heap[tb]? = some (.cells cur 4 (0, 0)) ∧ ∃ u, cur[k]? = some u := by
            obtain ⟨g', c', cur, e, hg', hc', _⟩ := row1' HOwn.out (k := k) (u := .bool ((tabTo N g k)[k]'(by rw [tabTo_len]; exact hlt))) (by rw [List.getElem?_map, List.getElem?_eq_getElem (by rw [tabTo_len]; exact hlt)]; rfl) hlt
            cases e
            exact ⟨cur, hg', _, hc'⟩
          have t0 := cell1 htk hu0
          have tf := free1 htk k
          have hgk : g k = relB 3 (costSum l (cfg V k).testBit l.length) bound := by rw [HG.out]; rfl
          have hts : ((tabTo N g (k + 1)).map Value.bool) = ((tabTo N g k).map Value.bool).set k (.bool (g k)) := by rw [tabTo_succ, List.map_set]
          have HGK := Lib.hid hgk
          have HTS := Lib.hid hts
          have HTK := Lib.hid htk
          have HU0 := Lib.hid hu0
          clear hgk hts htk hu0 t0 tf
          have HC6 := Lib.hid (show cfg V k < 4294967296 by have := cfg_lt HV.out k; omega)
          obtain ⟨n, hn⟩ : ∃ n, n = costSum l (cfg V k).testBit l.length := ⟨_, rfl⟩
          have hz : g k = relB 3 n bound := by rw [HGK.out, hn]
          have HZ := Lib.hid hz
          have HNn := Lib.hid hn
          clear hz hn
          have hend : ∀ w6, Near wr w6 → ∀ z, z = g k → ∀ wz, wz = w6.setCell ⟨tb, k, none⟩ (.bool z) → wz.ownsRow 0 4 1 (.slice (some ⟨tb, 0, none⟩) N ncp) N ((tabTo N g (k + 1)).map Value.bool) ∧ Kept (fun b => b = tb) W wz := by
            rintro w6 n6 z rfl wz rfl
            rw [HTS.out]
            exact ⟨((owns_kept HOwn.out n6.kept (fun _ _ x => x)).stored k _).1, (hkp.trans n6.kept).setCell (fun _ => rfl) _⟩
          have fin : ∀ w6, Near wr w6 → ∀ z, z = g k → (∃ q : Nat, q ≤ N ∧ (Value.int .i64 ((k : Int) + 1)) = .int .i64 q ∧ (w6.setCell ⟨tb, k, none⟩ (.bool z)).ownsRow 0 4 1 (.slice (some ⟨tb, 0, none⟩) N ncp) N ((tabTo N g q).map Value.bool) ∧ Kept (fun b => b = tb) W (w6.setCell ⟨tb, k, none⟩ (.bool z))) := fun w6 n6 z hz =>
            ⟨k + 1, by omega, by simp, (hend _ n6 _ hz _ rfl).1, (hend _ n6 _ hz _ rfl).2⟩
          have HFin := Lib.hid fin
          clear fin hend
          by_cases hb1 : n = bound
          · have hz : g k = true := by rw [HZ.out]; simp [relB, hb1]
            have HZ2 := Lib.hid hz
            clear hz
            go_wp2_with (first
              | (go_at_call 83; refine (config_calls HV.out (by omega) (owns_kept RX2.out z4.kept (fun _ _ x => x)) k (by omega)).mono ?_; rintro e w6 ⟨rfl, n6⟩; have HN6 := Lib.hid n6; clear n6)
              | (go_at_call 71; refine (cost_calls (HRd.out.near ((z0.trans HN6.out))) HOK.out _ HC6.out).mono ?_; rw [← HNn.out]; rintro e w7 ⟨rfl, n7⟩; have HN7 := Lib.hid (HN6.out.trans n7); clear n7; have p1 := cell1 (o := 1) (keepN HN7.out HXO.out) rfl; have t0 := cell1 (keepN HN7.out HTK.out) HU0.out; have tf := free1 (keepN HN7.out HTK.out) k))
            exact ⟨HFin.out _ HN7.out _ (by first | (rw [HZ2.out]; done) | (rw [HZ2.out]; exact decide_eq_false (by omega))), by simp [intOf]; omega⟩
          · have hz : g k = false := by rw [HZ.out]; simp [relB, hb1]
            have HZ2 := Lib.hid hz
            clear hz
            have hb1' : (n == bound) = false := beq_eq_false_iff_ne.2 hb1
            go_wp2_with (first
              | (go_at_call 83; refine (config_calls HV.out (by omega) (owns_kept RX2.out z4.kept (fun _ _ x => x)) k (by omega)).mono ?_; rintro e w6 ⟨rfl, n6⟩; have HN6 := Lib.hid n6; clear n6)
              | (go_at_call 71; refine (cost_calls (HRd.out.near ((z0.trans HN6.out))) HOK.out _ HC6.out).mono ?_; rw [← HNn.out]; rintro e w7 ⟨rfl, n7⟩; have HN7 := Lib.hid (HN6.out.trans n7); clear n7; have p1 := cell1 (o := 1) (keepN HN7.out HXO.out) rfl; have t0 := cell1 (keepN HN7.out HTK.out) HU0.out; have tf := free1 (keepN HN7.out HTK.out) k))
            exact ⟨HFin.out _ HN7.out _ (by first | (rw [HZ2.out]; done) | (rw [HZ2.out]; exact decide_eq_false (by omega))), by simp [intOf]; omega⟩
        · have hkN : k = N := by omega
          subst hkN
          have rc := (hkp.block _ (by omega) (by omega)).trans EC4.out
          have c0 := cell1 (o := 0) rc rfl
          have c1 := cell1 (o := 1) rc rfl
          have f0 := free1 rc 0
          have f1 := free1 rc 1
          have R1r := owns_kept (R := fun _ => False) RX2.out z4.kept (fun _ _ x => x)
          have ne1 := owns_ne R1r rc (by decide : (3 : Nat) ≠ 37)
          have ne2 := owns_ne HOwn.out rc (by decide : (4 : Nat) ≠ 37)
          have RX3 := Lib.hid R1r
          clear R1r
          go_wp2_with fail
          have e1 := HNN.out
          have e2 := HG.out
          have hbox : IsS ((wr.setCell ⟨w.heap.size, 0, none⟩ (.slice so V.length sc)).setCell ⟨w.heap.size, 1, none⟩ (.slice (some ⟨tb, 0, none⟩) k ncp)) (.agg #[.slice so V.length sc, .slice (some ⟨tb, 0, none⟩) k ncp]) V (linF l 3 bound) := ⟨tabTo (2 ^ V.length) (fun k => linN l 3 bound V k) (2 ^ V.length), ⟨HV.out, by rw [tabTo_len], _, _, rfl, ownsRow_setCell_other (ownsRow_setCell_other RX3.out ne1 (.slice so V.length sc)) ne1 (.slice (some ⟨tb, 0, none⟩) k ncp), by
            rw [tabTo_len, ← e1, ← e2]
            exact ownsRow_setCell_other (a := ⟨w.heap.size, 1, none⟩) (ownsRow_setCell_other (a := ⟨w.heap.size, 0, none⟩) HOwn.out ne2 (.slice so V.length sc)) ne2 (.slice (some ⟨tb, 0, none⟩) k ncp)⟩, fun c => by
              rw [tabTo_rf, HU.out]
              exact linN_linF HOK.out.1 3 bound c⟩
          refine bodyPost_ret (v := .tuple #[.agg #[.slice so V.length sc, .slice (some ⟨tb, 0, none⟩) k ncp], .int .i64 0]) (by simp [results, Try.results131, go_sem, c0, c1]) rfl ⟨_, by rw [if_pos HLin.out], ?_, (z0.set (Nat.le_refl _) _).set (Nat.le_refl _) _⟩
          rw [if_pos HLin.out, if_pos HLin.out, ← HU.out]
          exact hbox

theorem rlinear_f {w : World} {v : Value} {l : List Int} {rel : Nat} {bound : Int} (h : RdInts w v l) (hl : l.length ≤ 1000) : Calls Try.prog 131 #[v, .int .u8 rel, .int .i64 bound] w (RLinPost w l rel bound) := by
  by_cases hok : LinOk l rel
  · rcases (show rel = 1 ∨ rel = 2 ∨ rel = 3 by obtain ⟨_, h1, h2⟩ := hok; omega) with rfl | rfl | rfl
    · exact rlinear_good1 h hok
    · exact rlinear_good2 h hok
    · exact rlinear_good3 h hok
  · exact rlinear_bad h hl hok

end Go.Proofs.Ytefclohjeompkaa
