/- Parts of a proof: Tree, TreeB, TreeC. -/
/- Tree: what is needed of it. -/
namespace Go.Proofs.Bdd
/-- A decision tree: features rise downwards. -/
inductive T where
  | leaf (b : Bool)
  | node (i : Nat) (l h : T)
  deriving DecidableEq, Inhabited

namespace T
def lv : T → Nat
  | .leaf _ => 24
  | .node i _ _ => i

def ev (c : Nat → Bool) : T → Bool
  | .leaf b => b
  | .node i l h => if c i then h.ev c else l.ev c

def Ok : T → Prop
  | .leaf _ => True
  | .node i l h => i < 24 ∧ i < l.lv ∧ i < h.lv ∧ l ≠ h ∧ l.Ok ∧ h.Ok

def size : T → Nat
  | .leaf _ => 0
  | .node _ l h => l.size + h.size + 1

theorem ev_congr {c d : Nat → Bool} : ∀ (t : T), t.Ok → (∀ j, t.lv ≤ j → j < 24 → c j = d j) → t.ev c = t.ev d
  | .leaf _, _, _ => rfl
  | .node i l h, ⟨hi, hl, hh, _, ol, oh⟩, hcd => by
    simp only [ev]
    rw [hcd i (Nat.le_refl _) hi, ev_congr l ol (fun j hj h24 => hcd j (by simp only [lv] at *; omega) h24), ev_congr h oh (fun j hj h24 => hcd j (by simp only [lv] at *; omega) h24)]

/-- A configuration with one feature set. -/
def upd (c : Nat → Bool) (i : Nat) (b : Bool) : Nat → Bool := fun j => if j = i then b else c j

theorem upd_same (c : Nat → Bool) (i : Nat) (b : Bool) : upd c i b i = b := by simp [upd]

theorem upd_other (c : Nat → Bool) {i j : Nat} (b : Bool) (h : j ≠ i) : upd c i b j = c j := by simp [upd, h]

theorem ev_upd {c : Nat → Bool} {i : Nat} {b : Bool} (t : T) (ok : t.Ok) (h : i < t.lv) : t.ev (upd c i b) = t.ev c :=
  ev_congr t ok fun j hj _ => upd_other c b (by omega)

theorem lv_le (t : T) (ok : t.Ok) : t.lv ≤ 24 := by
  cases t with
  | leaf b => exact Nat.le_refl _
  | node i l h => exact Nat.le_of_lt ok.1

theorem ev_low (c : Nat → Bool) (i : Nat) (l h : T) (ok : (node i l h).Ok) : (node i l h).ev (upd c i false) = l.ev c := by
  simp only [ev, upd_same]
  exact ev_upd l ok.2.2.2.2.1 ok.2.1

theorem ev_high (c : Nat → Bool) (i : Nat) (l h : T) (ok : (node i l h).Ok) : (node i l h).ev (upd c i true) = h.ev c := by
  simp only [ev, upd_same, if_true]
  exact ev_upd h ok.2.2.2.2.2 ok.2.2.1

theorem canon_aux : ∀ (n : Nat) (t u : T), t.size + u.size ≤ n → t.Ok → u.Ok → (∀ c, t.ev c = u.ev c) → t = u := by
  intro n
  induction n with
  | zero =>
    intro t u hn ht hu h
    cases t with
    | node => simp [size] at hn
    | leaf a =>
      cases u with
      | node => simp [size] at hn
      | leaf b => have := h (fun _ => false); simp only [ev] at this; rw [this]
  | succ n ih =>
    intro t u hn ht hu h
    have one : ∀ (i : Nat) (l r : T) (v : T), l.size + r.size ≤ n → (node i l r).Ok → v.Ok → i < v.lv → (∀ c, (node i l r).ev c = v.ev c) → False := by
      intro i l r v hs ok hv hlv he
      refine ok.2.2.2.1 (ih l r hs ok.2.2.2.2.1 ok.2.2.2.2.2 fun c => ?_)
      rw [← ev_low c i l r ok, ← ev_high c i l r ok, he, he, ev_upd v hv hlv, ev_upd v hv hlv]
    cases t with
    | leaf a =>
      cases u with
      | leaf b => have := h (fun _ => false); simp only [ev] at this; rw [this]
      | node j l r =>
        simp only [size] at hn
        exact (one j l r (leaf a) (by omega) hu trivial (by simp only [lv]; exact hu.1) (fun c => (h c).symm)).elim
    | node i l r =>
      simp only [size] at hn
      cases u with
      | leaf b => exact (one i l r (leaf b) (by omega) ht trivial (by simp only [lv]; exact ht.1) h).elim
      | node j l' r' =>
        simp only [size] at hn
        rcases Nat.lt_trichotomy i j with hij | hij | hij
        · exact (one i l r (node j l' r') (by omega) ht hu (by simpa only [lv] using hij) h).elim
        · subst hij
          have e1 : l = l' := ih l l' (by omega) ht.2.2.2.2.1 hu.2.2.2.2.1 fun c => by rw [← ev_low c i l r ht, ← ev_low c i l' r' hu, h]
          have e2 : r = r' := ih r r' (by omega) ht.2.2.2.2.2 hu.2.2.2.2.2 fun c => by rw [← ev_high c i l r ht, ← ev_high c i l' r' hu, h]
          rw [e1, e2]
        · exact (one j l' r' (node i l r) (by omega) hu ht (by simpa only [lv] using hij) (fun c => (h c).symm)).elim

/-- ONE TREE FOR ONE SET. -/
theorem canon {t u : T} (ht : t.Ok) (hu : u.Ok) (h : ∀ c, t.ev c = u.ev c) : t = u := canon_aux _ t u (Nat.le_refl _) ht hu h

/-- A node, or its child if both are the same. -/
def mk (i : Nat) (l h : T) : T := if l = h then l else .node i l h

theorem mk_ev (c : Nat → Bool) (i : Nat) (l h : T) : (mk i l h).ev c = if c i then h.ev c else l.ev c := by
  unfold mk
  split
  · rename_i e; subst e; simp
  · rfl

theorem mk_ok {i : Nat} {l h : T} (hi : i < 24) (hl : i < l.lv) (hh : i < h.lv) (ol : l.Ok) (oh : h.Ok) : (mk i l h).Ok := by
  unfold mk
  split
  · exact ol
  · rename_i e; exact ⟨hi, hl, hh, e, ol, oh⟩

theorem mk_lv {i : Nat} {l h : T} (hl : i < l.lv) : i ≤ (mk i l h).lv := by
  unfold mk
  split
  · omega
  · exact Nat.le_refl _

def isNode : T → Prop
  | .leaf _ => False
  | .node .. => True

/-- Has a list a place for a tree? -/
def In (L : List T) : T → Prop
  | .leaf _ => True
  | t@(.node ..) => t ∈ L

/-- Nodes, each once, children first. -/
inductive Good : List T → Prop where
  | nil : Good []
  | snoc {L : List T} {i : Nat} {l h : T} (g : Good L) (il : In L l) (ih : In L h) (ok : (node i l h).Ok) (new : node i l h ∉ L) : Good (L ++ [node i l h])

theorem In.mono {L : List T} (M : List T) {t : T} (h : In L t) : In (L ++ M) t := by
  cases t with
  | leaf => trivial
  | node => exact List.mem_append_left _ h

/-- The place of a tree. -/
def pl (L : List T) : T → Nat
  | .leaf false => 0
  | .leaf true => 1
  | t@(.node ..) => L.idxOf t + 2

theorem pl_append {L M : List T} {t : T} (h : In L t) : pl (L ++ M) t = pl L t := by
  cases t with
  | leaf b => cases b <;> rfl
  | node i l r =>
    simp only [pl]
    rw [List.idxOf_append, if_pos (show node i l r ∈ L from h)]

theorem pl_lt {L : List T} {t : T} (h : In L t) : pl L t < L.length + 2 := by
  cases t with
  | leaf b => cases b <;> simp only [pl] <;> omega
  | node i l r =>
    simp only [pl]
    have := List.idxOf_lt_length_of_mem (show node i l r ∈ L from h)
    omega

theorem pl_get {L : List T} {i : Nat} {l h : T} (hi : node i l h ∈ L) : L[pl L (node i l h) - 2]? = some (node i l h) := by
  simp only [pl, Nat.add_sub_cancel]
  have hlt := List.idxOf_lt_length_of_mem hi
  rw [List.getElem?_eq_getElem hlt, List.getElem_idxOf hlt]

theorem pl_node {L : List T} (i : Nat) (l h : T) : 2 ≤ pl L (node i l h) := by simp only [pl]; omega

theorem pl_inj {L : List T} {t u : T} (ht : In L t) (hu : In L u) (h : pl L t = pl L u) : t = u := by
  cases t with
  | leaf a =>
    cases u with
    | leaf b => cases a <;> cases b <;> simp [pl] at h <;> rfl
    | node i l r => have := pl_node (L := L) i l r; cases a <;> simp only [pl] at h this <;> omega
  | node i l r =>
    cases u with
    | leaf b => have := pl_node (L := L) i l r; cases b <;> simp only [pl] at h this <;> omega
    | node j l' r' =>
      have a := pl_get (L := L) (i := i) (l := l) (h := r) ht
      have b := pl_get (L := L) (i := j) (l := l') (h := r') hu
      rw [h, b] at a
      exact (Option.some.inj a).symm

theorem Good.all {L : List T} (g : Good L) : ∀ t ∈ L, isNode t ∧ t.Ok := by
  induction g with
  | nil => intro t ht; cases ht
  | snoc g il ihh ok new ih =>
    intro t ht
    rcases List.mem_append.1 ht with h | h
    · exact ih t h
    · simp at h; subst h; exact ⟨trivial, ok⟩

theorem Good.nodup {L : List T} (g : Good L) : L.Nodup := by
  induction g with
  | nil => exact List.nodup_nil
  | snoc g il ihh ok new ih =>
    rw [List.nodup_append]
    refine ⟨ih, by simp, fun a ha b hb => ?_⟩
    simp at hb; subst hb
    intro e; subst e; exact new ha

theorem Good.pre {L : List T} (g : Good L) : ∀ (k : Nat) (i : Nat) (l h : T), L[k]? = some (node i l h) → In (L.take k) l ∧ In (L.take k) h ∧ (node i l h).Ok := by
  induction g with
  | nil => intro k i l h hk; simp at hk
  | @snoc L j l' h' g il ihh ok new ih =>
    intro k i l h hk
    rcases Nat.lt_or_ge k L.length with hlt | hge
    · rw [List.getElem?_append_left hlt] at hk
      rw [List.take_append_of_le_length (Nat.le_of_lt hlt)]
      exact ih k i l h hk
    · have hkl : k = L.length := by
        have := (List.getElem?_eq_some_iff.1 hk).1
        simp at this; omega
      subst hkl
      simp at hk
      obtain ⟨rfl, rfl, rfl⟩ := hk
      simp only [List.take_left']
      exact ⟨il, ihh, ok⟩

theorem Good.kids {L : List T} (g : Good L) {i : Nat} {l h : T} (hm : node i l h ∈ L) : In L l ∧ In L h := by
  obtain ⟨k, hk⟩ := List.getElem?_of_mem hm
  have := g.pre k i l h hk
  have e : L = L.take k ++ L.drop k := (List.take_append_drop k L).symm
  rw [e]
  exact ⟨this.1.mono _, this.2.1.mono _⟩

theorem Good.idx {L : List T} (g : Good L) {k : Nat} {t : T} (hk : L[k]? = some t) : pl L t = k + 2 := by
  obtain ⟨hlt, he⟩ := List.getElem?_eq_some_iff.1 hk
  have hm : t ∈ L := by rw [← he]; exact List.getElem_mem _
  have hn := (g.all t hm).1
  cases t with
  | leaf => exact hn.elim
  | node i l h =>
    simp only [pl]
    have := g.nodup.idxOf_getElem k hlt
    rw [he] at this
    omega

/-- The places of the children lie below a node's own. -/
theorem Good.down {L : List T} (g : Good L) {i : Nat} {l h : T} (hm : node i l h ∈ L) : pl L l < pl L (node i l h) ∧ pl L h < pl L (node i l h) := by
  obtain ⟨k, hk⟩ := List.getElem?_of_mem hm
  have p := g.pre k i l h hk
  have hlt : k < L.length := (List.getElem?_eq_some_iff.1 hk).1
  have e : L = L.take k ++ L.drop k := (List.take_append_drop k L).symm
  have hl : pl L l = pl (L.take k) l := by
    have := pl_append (M := L.drop k) p.1
    rw [← e] at this
    exact this
  have hh : pl L h = pl (L.take k) h := by
    have := pl_append (M := L.drop k) p.2.1
    rw [← e] at this
    exact this
  rw [g.idx hk, hl, hh]
  have a := pl_lt p.1
  have b := pl_lt p.2.1
  simp only [List.length_take] at a b
  omega

def go : T → List T → List T
  | .leaf _, acc => acc
  | .node i l h, acc => if node i l h ∈ acc then acc else go h (go l acc) ++ [node i l h]

theorem go_prefix : ∀ (t : T) (acc : List T), ∃ M, go t acc = acc ++ M ∧ ∀ s ∈ M, s.size ≤ t.size
  | .leaf _, acc => ⟨[], by simp [go]⟩
  | .node i l h, acc => by
    simp only [go]
    split
    · exact ⟨[], by simp⟩
    · obtain ⟨M, e1, s1⟩ := go_prefix l acc
      obtain ⟨N, e2, s2⟩ := go_prefix h (go l acc)
      refine ⟨M ++ N ++ [node i l h], by rw [e2, e1]; simp, fun s hs => ?_⟩
      simp only [List.mem_append, List.mem_singleton] at hs
      simp only [size]
      rcases hs with (hs | hs) | rfl
      · have := s1 s hs; omega
      · have := s2 s hs; omega
      · exact Nat.le_refl _

theorem go_in : ∀ (t : T) (acc : List T), In (go t acc) t
  | .leaf _, _ => trivial
  | .node i l h, acc => by
    show node i l h ∈ go (node i l h) acc
    simp only [go]
    split
    · assumption
    · simp

theorem go_mono {t s : T} {acc : List T} (h : In acc s) : In (go t acc) s := by
  obtain ⟨M, e, _⟩ := go_prefix t acc
  rw [e]; exact h.mono _

theorem go_new (i : Nat) (l h : T) (acc : List T) (hn : node i l h ∉ acc) : node i l h ∉ go h (go l acc) := by
  obtain ⟨M, e1, s1⟩ := go_prefix l acc
  obtain ⟨N, e2, s2⟩ := go_prefix h (go l acc)
  rw [e2, e1]
  simp only [List.mem_append]
  rintro ((h1 | h1) | h1)
  · exact hn h1
  · have := s1 _ h1; simp only [size] at this; omega
  · have := s2 _ h1; simp only [size] at this; omega

theorem go_good : ∀ (t : T) (acc : List T), t.Ok → Good acc → Good (go t acc)
  | .leaf _, _, _, g => g
  | .node i l h, acc, ok, g => by
    simp only [go]
    split
    · exact g
    · rename_i hn
      exact .snoc (go_good h _ ok.2.2.2.2.2 (go_good l _ ok.2.2.2.2.1 g)) (go_mono (go_in l acc)) (go_in h _) ok (go_new i l h acc hn)

theorem go_pl {t s : T} {acc : List T} (h : In acc s) : pl (go t acc) s = pl acc s := by
  obtain ⟨M, e, _⟩ := go_prefix t acc
  rw [e]; exact pl_append h

theorem go_len : ∀ (t : T) (acc : List T), t.Ok → (go t acc).length + 1 ≤ acc.length + 2 ^ (24 - t.lv)
  | .leaf _, acc, _ => by simp [go, lv]
  | .node i l h, acc, ok => by
    have hp : 0 < 2 ^ (24 - (node i l h).lv) := Nat.two_pow_pos _
    simp only [go]
    split
    · omega
    · have a := go_len l acc ok.2.2.2.2.1
      have b := go_len h (go l acc) ok.2.2.2.2.2
      have c : 2 ^ (24 - l.lv) ≤ 2 ^ (23 - i) := Nat.pow_le_pow_right (by omega) (by have := ok.2.1; omega)
      have d : 2 ^ (24 - h.lv) ≤ 2 ^ (23 - i) := Nat.pow_le_pow_right (by omega) (by have := ok.2.2.1; omega)
      have e : 2 ^ (24 - (node i l h).lv) = 2 * 2 ^ (23 - i) := by
        simp only [lv]
        rw [show 24 - i = (23 - i) + 1 from by have := ok.1; omega, Nat.pow_succ]; omega
      simp only [List.length_append, List.length_singleton]
      omega

/-- The nodes of a tree, in the document's order. -/
def nodes (t : T) : List T := go t []

theorem nodes_good {t : T} (ok : t.Ok) : Good (nodes t) := go_good t [] ok .nil

theorem nodes_in (t : T) : In (nodes t) t := go_in t []

theorem nodes_len {t : T} (ok : t.Ok) : (nodes t).length < 16777216 := by
  have a := go_len t [] ok
  have b : 2 ^ (24 - t.lv) ≤ 2 ^ 24 := Nat.pow_le_pow_right (by omega) (by omega)
  have e : (2 : Nat) ^ 24 = 16777216 := by decide
  rw [e] at b
  simp only [List.length_nil] at a
  unfold nodes
  omega

structure Tri where
  v : Nat
  lo : Nat
  hi : Nat
  deriving DecidableEq, Inhabited

def en (L : List T) : T → Tri
  | .leaf _ => ⟨24, 0, 0⟩
  | .node i l h => ⟨i, pl L l, pl L h⟩

def enc (L : List T) : List Tri := L.map (en L)

theorem enc_snoc {L : List T} {i : Nat} {l h : T} (g : Good L) (il : In L l) (ih : In L h) : enc (L ++ [node i l h]) = enc L ++ [⟨i, pl L l, pl L h⟩] := by
  unfold enc
  rw [List.map_append]
  congr 1
  · refine List.map_congr_left fun t ht => ?_
    cases t with
    | leaf => rfl
    | node j l' h' =>
      have k := g.kids ht
      simp only [en]
      rw [pl_append k.1, pl_append k.2]
  · simp only [List.map_cons, List.map_nil, en]
    rw [pl_append il, pl_append ih]

/-- A node tells itself. -/
theorem en_inj {L : List T} (g : Good L) {s : T} {i : Nat} {l h : T} (hs : s ∈ L) (il : In L l) (ih : In L h) (e : en L s = en L (node i l h)) : s = node i l h := by
  cases s with
  | leaf => exact (g.all _ hs).1.elim
  | node j l' h' =>
    have k := g.kids hs
    simp only [en, Tri.mk.injEq] at e
    obtain ⟨rfl, e1, e2⟩ := e
    rw [pl_inj k.1 il e1, pl_inj k.2 ih e2]

theorem en_append {L M : List T} (g : Good L) {s : T} (hs : s ∈ L) : en (L ++ M) s = en L s := by
  cases s with
  | leaf => rfl
  | node j l h =>
    have k := g.kids hs
    simp only [en]
    rw [pl_append k.1, pl_append k.2]

/-- The nodes behind 'node': a new one, if there is none yet. -/
def add (L : List T) (i : Nat) (l h : T) : List T := if l = h ∨ node i l h ∈ L then L else L ++ [node i l h]

theorem add_prefix (L : List T) (i : Nat) (l h : T) : ∃ M, add L i l h = L ++ M := by
  unfold add
  split
  · exact ⟨[], by simp⟩
  · exact ⟨_, rfl⟩

theorem add_len (L : List T) (i : Nat) (l h : T) : (add L i l h).length ≤ L.length + 1 := by
  unfold add
  split
  · omega
  · simp

theorem add_good {L : List T} (g : Good L) {i : Nat} {l h : T} (il : In L l) (ih : In L h) (hi : i < 24) (hl : i < l.lv) (hh : i < h.lv) (ol : l.Ok) (oh : h.Ok) : Good (add L i l h) := by
  unfold add
  split
  · exact g
  · rename_i hn
    exact .snoc g il ih ⟨hi, hl, hh, fun e => hn (.inl e), ol, oh⟩ (fun hm => hn (.inr hm))

theorem add_in {L : List T} {i : Nat} {l h : T} (il : In L l) : In (add L i l h) (mk i l h) := by
  unfold add mk
  by_cases e : l = h
  · rw [if_pos e, if_pos (.inl e)]
    exact il
  · rw [if_neg e]
    by_cases hm : node i l h ∈ L
    · rw [if_pos (.inr hm)]
      exact hm
    · rw [if_neg (by simp [e, hm])]
      show node i l h ∈ L ++ [node i l h]
      simp

theorem pl_snoc {L : List T} {i : Nat} {l h : T} (hn : node i l h ∉ L) : pl (L ++ [node i l h]) (node i l h) = L.length + 2 := by
  simp [pl, List.idxOf_append, hn]

theorem go_sub {L : List T} (g : Good L) : ∀ (t : T) (acc : List T), In L t → (∀ s ∈ acc, s ∈ L) → ∀ s ∈ go t acc, s ∈ L
  | .leaf _, _, _, ha => ha
  | .node i l h, acc, hi, ha => by
    simp only [go]
    split
    · exact ha
    · have k := g.kids (show node i l h ∈ L from hi)
      have a := go_sub g l acc k.1 ha
      have b := go_sub g h (go l acc) k.2 a
      intro s hs
      rcases List.mem_append.1 hs with hs | hs
      · exact b s hs
      · simp at hs
        subst hs
        exact hi

/-- Room for what a tree lists. -/
def room (t : T) : Nat := 2 ^ (24 - t.lv)

theorem room_pos (t : T) : 0 < room t := Nat.two_pow_pos _

theorem room_kids {i : Nat} {l h : T} (ok : (node i l h).Ok) : room l + room h ≤ room (node i l h) := by
  have c : room l ≤ 2 ^ (23 - i) := Nat.pow_le_pow_right (by omega) (by have := ok.2.1; omega)
  have d : room h ≤ 2 ^ (23 - i) := Nat.pow_le_pow_right (by omega) (by have := ok.2.2.1; omega)
  have e : room (node i l h) = 2 * 2 ^ (23 - i) := by
    simp only [room, lv]
    rw [show 24 - i = (23 - i) + 1 from by have := ok.1; omega, Nat.pow_succ]; omega
  omega

theorem room_le (t : T) : room t ≤ 16777216 := by
  have e : (2 : Nat) ^ 24 = 16777216 := by decide
  rw [← e]
  exact Nat.pow_le_pow_right (by omega) (by omega)

theorem go_room (t : T) (acc : List T) (ok : t.Ok) : (go t acc).length + 1 ≤ acc.length + room t := go_len t acc ok

def lo : T → T
  | .leaf b => .leaf b
  | .node _ l _ => l

def hi : T → T
  | .leaf b => .leaf b
  | .node _ _ h => h

/-- A tree with feature i fixed, where i is not above it. -/
def cof0 (i : Nat) (t : T) : T := if t.lv = i then t.lo else t

def cof1 (i : Nat) (t : T) : T := if t.lv = i then t.hi else t

theorem cof_facts {t : T} (ok : t.Ok) {i : Nat} (hi : i < 24) (hl : i ≤ t.lv) :
    (cof0 i t).Ok ∧ (cof1 i t).Ok ∧ i < (cof0 i t).lv ∧ i < (cof1 i t).lv ∧ ∀ c, t.ev c = if c i then (cof1 i t).ev c else (cof0 i t).ev c := by
  unfold cof0 cof1
  by_cases e : t.lv = i
  · rw [if_pos e, if_pos e]
    cases t with
    | leaf b => simp only [lv] at e; omega
    | node j l h =>
      simp only [lv] at e
      subst e
      exact ⟨ok.2.2.2.2.1, ok.2.2.2.2.2, ok.2.1, ok.2.2.1, fun c => rfl⟩
  · rw [if_neg e, if_neg e]
    exact ⟨ok, ok, by omega, by omega, fun c => by split <;> rfl⟩

theorem cof_in {L : List T} (g : Good L) {t : T} (h : In L t) (i : Nat) : In L (cof0 i t) ∧ In L (cof1 i t) := by
  unfold cof0 cof1
  by_cases e : t.lv = i
  · rw [if_pos e, if_pos e]
    cases t with
    | leaf b => exact ⟨trivial, trivial⟩
    | node j l r => exact g.kids h
  · rw [if_neg e, if_neg e]
    exact ⟨h, h⟩

theorem lv_leaf_of {t : T} (ok : t.Ok) (h : 24 ≤ t.lv) : ∃ b, t = leaf b := by
  cases t with
  | leaf b => exact ⟨b, rfl⟩
  | node i l r => have := ok.1; simp only [lv] at h; omega

end T
end Go.Proofs.Bdd

/- TreeB: what is needed of it. -/
namespace Go.Proofs.Bdd
namespace T
def sup (L : List T) : Nat := L.foldl (fun a t => a ||| 2 ^ t.lv) 0

theorem sup_snoc (L : List T) (t : T) : sup (L ++ [t]) = sup L ||| 2 ^ t.lv := by simp [sup, List.foldl_append]

theorem sup_bit_aux (i : Nat) : ∀ (L : List T) (a : Nat), (L.foldl (fun a t => a ||| 2 ^ t.lv) a).testBit i = (a.testBit i || L.any (fun t => t.lv == i))
  | [], a => by simp
  | t :: L, a => by
    simp only [List.foldl_cons, List.any_cons]
    have e : decide (t.lv = i) = (t.lv == i) := by rw [Bool.eq_iff_iff]; simp
    rw [sup_bit_aux i L, Nat.testBit_or, Nat.testBit_two_pow, e, Bool.or_assoc]

theorem sup_bit (L : List T) (i : Nat) : (sup L).testBit i = L.any (fun t => t.lv == i) := by
  unfold sup
  rw [sup_bit_aux]
  simp

theorem sup_lt {L : List T} (h : ∀ t ∈ L, t.lv < 24) : sup L < 16777216 := by
  have e : (16777216 : Nat) = 2 ^ 24 := by decide
  rw [e]
  refine Nat.lt_pow_two_of_testBit _ fun i hi => ?_
  rw [sup_bit, List.any_eq_false]
  intro t ht
  have := h t ht
  simp; omega

end T
end Go.Proofs.Bdd

/- TreeC: what is needed of it. -/
namespace Go.Proofs.Bdd
namespace T
open Classical in
/-- Does a function depend on a feature? -/
noncomputable def dep (f : (Nat → Bool) → Bool) (i : Nat) : Bool := decide (∃ c, f (upd c i true) ≠ f (upd c i false))

theorem dep_true {f : (Nat → Bool) → Bool} {i : Nat} : dep f i = true ↔ ∃ c, f (upd c i true) ≠ f (upd c i false) := by
  unfold dep
  simp

/-- Does a level occur in a tree? -/
def occ (i : Nat) : T → Prop
  | .leaf _ => False
  | .node j l h => j = i ∨ occ i l ∨ occ i h

theorem ev_occ {c d : Nat → Bool} : ∀ {t : T}, (∀ j, occ j t → c j = d j) → t.ev c = t.ev d
  | .leaf _, _ => rfl
  | .node i l r, h => by
    simp only [ev]
    rw [h i (.inl rfl), ev_occ (t := l) (fun j hj => h j (.inr (.inl hj))), ev_occ (t := r) (fun j hj => h j (.inr (.inr hj)))]

theorem upd_comm {c : Nat → Bool} {i j : Nat} {a b : Bool} (h : i ≠ j) : upd (upd c i a) j b = upd (upd c j b) i a := by
  funext k
  unfold upd
  by_cases h1 : k = j
  · subst h1
    simp [Ne.symm h]
  · simp [h1]

theorem occ_dep {i : Nat} : ∀ {t : T}, t.Ok → occ i t → ∃ c, t.ev (upd c i true) ≠ t.ev (upd c i false)
  | .leaf _, _, h => h.elim
  | .node j l r, ok, h => by
    by_cases hji : j = i
    · subst hji
      have hne : ∃ c, l.ev c ≠ r.ev c := Classical.byContradiction fun hn => ok.2.2.2.1 (canon ok.2.2.2.2.1 ok.2.2.2.2.2 fun c => Classical.byContradiction fun h => hn ⟨c, h⟩)
      obtain ⟨c, hc⟩ := hne
      refine ⟨c, ?_⟩
      rw [ev_low c j l r ok, ev_high c j l r ok]
      exact fun e => hc e.symm
    · have sub : ∀ {s : T} (b : Bool), s.Ok → j < s.lv → (∀ c, (node j l r).ev (upd c j b) = s.ev c) → (∃ c, s.ev (upd c i true) ≠ s.ev (upd c i false)) → ∃ c, (node j l r).ev (upd c i true) ≠ (node j l r).ev (upd c i false) := by
        intro s b os hls he ⟨c, hc⟩
        refine ⟨upd c j b, ?_⟩
        rw [upd_comm hji, upd_comm hji, he, he]
        exact hc
      rcases h with h | h | h
      · exact (hji h).elim
      · exact sub false ok.2.2.2.2.1 ok.2.1 (fun c => ev_low c j l r ok) (occ_dep ok.2.2.2.2.1 h)
      · exact sub true ok.2.2.2.2.2 ok.2.2.1 (fun c => ev_high c j l r ok) (occ_dep ok.2.2.2.2.2 h)

theorem dep_occ {i : Nat} {t : T} (ok : t.Ok) : dep t.ev i = true ↔ occ i t := by
  rw [dep_true]
  constructor
  · intro ⟨c, hc⟩
    refine Classical.byContradiction fun h => hc ?_
    refine ev_occ fun j hj => ?_
    have : j ≠ i := fun e => h (e ▸ hj)
    rw [upd_other _ _ this, upd_other _ _ this]
  · exact occ_dep ok

/-- A part of a tree. -/
def sub (s : T) : T → Prop
  | .leaf b => s = .leaf b
  | .node i l h => s = .node i l h ∨ sub s l ∨ sub s h

theorem go_mem_sub {s : T} : ∀ (t : T) (acc : List T), s ∈ go t acc → s ∈ acc ∨ sub s t
  | .leaf _, acc, h => .inl h
  | .node i l r, acc, h => by
    simp only [go] at h
    split at h
    · exact .inl h
    · rcases List.mem_append.1 h with h | h
      · rcases go_mem_sub r _ h with h | h
        · rcases go_mem_sub l _ h with h | h
          · exact .inl h
          · exact .inr (.inr (.inl h))
        · exact .inr (.inr (.inr h))
      · simp at h
        exact .inr (.inl h)

theorem sub_occ {s : T} {i : Nat} : ∀ {t : T}, sub s t → occ i s → occ i t
  | .leaf b, h, ho => by
    rw [show s = .leaf b from h] at ho
    exact ho
  | .node j l r, h, ho => by
    rcases h with h | h | h
    · rw [h] at ho
      exact ho
    · exact .inr (.inl (sub_occ h ho))
    · exact .inr (.inr (sub_occ h ho))

theorem occ_in {L : List T} (g : Good L) {i : Nat} : ∀ {t : T}, In L t → occ i t → ∃ s ∈ L, s.lv = i
  | .leaf _, _, h => h.elim
  | .node j l r, hin, h => by
    have k := g.kids (show node j l r ∈ L from hin)
    rcases h with h | h | h
    · exact ⟨node j l r, hin, h⟩
    · exact occ_in g k.1 h
    · exact occ_in g k.2 h

/-- THE LISTED LEVELS ARE THE FEATURES ON WHICH THE FUNCTION DEPENDS. -/
theorem sup_dep {t : T} (ok : t.Ok) (i : Nat) : (sup (nodes t)).testBit i = dep t.ev i := by
  rw [sup_bit, Bool.eq_iff_iff, dep_occ ok, List.any_eq_true]
  constructor
  · intro ⟨s, hs, hl⟩
    have h1 := go_mem_sub t [] hs
    rcases h1 with h1 | h1
    · cases h1
    · have hn := (nodes_good ok).all s hs
      cases s with
      | leaf => exact hn.1.elim
      | node j l r =>
        refine sub_occ h1 (.inl ?_)
        simpa [lv] using hl
  · intro h
    obtain ⟨s, hs, hl⟩ := occ_in (nodes_good ok) (nodes_in t) h
    exact ⟨s, hs, by simp [hl]⟩

end T
end Go.Proofs.Bdd
