/- Parts of a proof: Steps, Node, Done, Done2, JoinA, JoinW, JoinC, JoinD. -/
import Derived.Maps.OwnSet
import Derived.WalkKit
import Derived.Deep.QuietTactic
import Derived.Deep.RegionLaw
import Derived.StillTailTactics
import Derived.Maps.AppendAt
import Derived.Test.YtefclohjeompkaaGreatProg
import Derived.KernelRfl
import Derived.DeepKeys4
import Derived.WalkSpells
import Derived.WalkLawsBesides
import Derived.BigQuiet
import Derived.Lib.Hide
import Derived.Deep.DeepCutAuto
import Derived.Laws.EntriesVeiled
import Derived.Deep.RegionHeld3
import Derived.Test.YtefclohjeompkaaGreatKRep
import Derived.Test.YtefclohjeompkaaGreatKTreeC
/- Steps: what is needed of it. -/
namespace Go.Proofs.Gen
open Go Go.RowKit
open Go.ChangeMaps Go.MapKept
open Go.Maps (Keyed)
section
variable {P : Program} {w : World}
/-- What a slice of the call's own looks like. -/
theorem owns_form {base size n : Nat} {e : TypeId} {v : Value} {xs : List Value} (h : w.ownsRow base e size v n xs) : ∃ ao cap, v = .slice ao n cap := by
  rcases h.2 with ⟨rfl, rfl⟩ | ⟨g, cap, cur, rfl, _⟩
  · exact ⟨none, 0, rfl⟩
  · exact ⟨some ⟨g, 0, none⟩, cap, rfl⟩

/-- append to a slice of the call's own, as one step of a region that draws. -/
theorem step_append_own {ops : Array Oper} {o : Oper} {a : Act} {K : Act → World → Prop} {Q : Exit → Act → World → Prop} {E : Prop}
    (hg : o.guard = none) (s x : Operand) (t : TypeId) (hop : o.op = Op.call { callee := Callee.builtin Builtin.append, args := #[s, x], argTypes := #[t, t] })
    (base : Nat) (e : TypeId) (i : TypeInfo) (z : Value) (size bytes : Nat) (ht : P.underlying t = some (.slice e)) (hi : P.info? e = some i) (hz : i.zero = some z)
    (hsize : i.size = size) (hby : i.bytes = bytes) (hzs : z.cells.size = size) (hsz : 0 < size)
    (v : Value) (n : Nat) (xs : List Value) (hs : a.eval s = v) (hown : w.ownsRow base e size v n xs)
    (ad : Addr) (m c : Nat) (news : List Value) (hx : a.eval x = .slice (some ad) m c) (hl : news.length = m * size) (hnews : ∀ j u, news[j]? = some u → w.cell? (ad.add j) = some u) (h1 : ∀ u ∈ news, u.oneCell' = true)
    (h63 : n + m ≤ maxLen) (hbytes : (n + m) * bytes ≤ 140737488355328) (hbase : base ≤ w.heap.size)
    (hK : ∀ ao cap w', w'.ownsRow base e size (.slice ao (n + m) cap) (n + m) (xs ++ news) → w.grownBy w' v.ownBlock → ((Value.slice ao (n + m) cap).ownBlock = v.ownBlock ∨ (Value.slice ao (n + m) cap).ownBlock = some w.heap.size) → K (a.put o.dst (.slice ao (n + m) cap)) w') :
    if Region.wanted o (yielded ops a.tmps) = true then Oper.wp P o a w K Q else E := by
  have hw : Region.wanted o (yielded ops a.tmps) = true := by simp [Region.wanted, hg]
  rw [if_pos hw]
  obtain ⟨v', w', hr, h2, h3, _, h5⟩ := run_append_own_at (P := P) w base t o.type e i z size bytes ht hi hz hsize hby hzs hsz v n xs hown ad m c news hl hnews h1 h63 hbytes hbase
  obtain ⟨ao, cap, rfl⟩ := owns_form h2
  unfold Oper.wp execOp
  simp only [hop, resolve, invoke, builtin, Sem.run_bind, Sem.run_pure, Result.andThen_ok, List.map_toArray, List.map_cons, List.map_nil, hs, hx, hr]
  exact hK ao cap w' h2 h3 h5

/-- .. outside such a region. -/
theorem wpList_append_in {ops : Array Oper} {rest : List Oper} {o : Oper} {a : Act} {Q : Exit → Act → World → Prop} (hgd : o.guard = none) (s x : Operand) (t : TypeId)
    (ho : o.op = .call { callee := .builtin .append, args := #[s, x], argTypes := #[t, t] })
    (base : Nat) (e : TypeId) (i : TypeInfo) (z : Value) (size bytes : Nat) (ht : P.underlying t = some (.slice e)) (hi : P.info? e = some i) (hz : i.zero = some z)
    (hsize : i.size = size) (hby : i.bytes = bytes) (hzs : z.cells.size = size) (hsz : 0 < size)
    (v : Value) (n : Nat) (xs : List Value) (hs : a.eval s = v) (hown : w.ownsRow base e size v n xs)
    (ad : Addr) (m c : Nat) (news : List Value) (hx : a.eval x = .slice (some ad) m c) (hl : news.length = m * size) (hnews : ∀ j u, news[j]? = some u → w.cell? (ad.add j) = some u) (h1 : ∀ u ∈ news, u.oneCell' = true)
    (h63 : n + m ≤ maxLen) (hbytes : (n + m) * bytes ≤ 140737488355328) (hbase : base ≤ w.heap.size)
    (h : ∀ ao cap w', w'.ownsRow base e size (.slice ao (n + m) cap) (n + m) (xs ++ news) → w.grownBy w' v.ownBlock → ((Value.slice ao (n + m) cap).ownBlock = v.ownBlock ∨ (Value.slice ao (n + m) cap).ownBlock = some w.heap.size) → wpList P ops Q rest (a.put o.dst (.slice ao (n + m) cap)) w') :
    wpList P ops Q (o :: rest) a w :=
  wpList_append_own_at w hgd s x t ho base e i z size bytes ht hi hz hsize hby hzs hsz v n xs hs hown ad m c news hx hl hnews h1 h63 hbytes hbase fun v' w' h2 h3 _ h5 => by
    obtain ⟨ao, cap, rfl⟩ := owns_form h2
    exact h ao cap w' h2 h3 h5

/-- Three cells of a new block. -/
theorem cell_three_at {w : World} {b : Nat} (hb : b = w.heap.size) (x y z : Value) (t : TypeId) : ∀ j u, [x, y, z][j]? = some u → (w.alloc (.cells #[x, y, z] t)).cell? ((⟨b, 0, none⟩ : Addr).add j) = some u := by
  subst hb
  intro j u hj
  match j, hj with
  | 0, hj => simp at hj; subst hj; simp [Addr.add]
  | 1, hj => simp at hj; subst hj; simp [Addr.add]
  | 2, hj => simp at hj; subst hj; simp [Addr.add]

/-- A call of a function that has a body. -/
theorem call_enters {f : FuncId} {fn : Func} {c : Code} (hf : P.funcs[f]? = some fn) (hname : (fn.name == "runtime.NumGoroutine") = false) (hb : fn.body = some c) (args : Array Value) (w : World) :
    (callFunc f args).run P w = .ok (.enter f args) w := by
  have h1 : fn.name ≠ "runtime.NumGoroutine" := by simpa using hname
  simp [callFunc, hf, h1, hb]

variable {k e t : TypeId} {b n : Nat} {M : Value → Int → Prop}
theorem wpList_mapUpdate_is {ops : Array Oper} {rest : List Oper} {o : Oper} {a : Act} {Q : Exit → Act → World → Prop}
    (hg : o.guard = none) (m x v : Operand) (hop : o.op = Op.mapUpdate t m x v)
    (K : Keyed P k) (ht : P.underlying t = some (.map k e)) (he : P.underlying e = some (.int .i64))
    (hm : a.eval m = .map (some b)) (hown : mapIs w P k e b n M) (hn : n < maxLen) (key : Value) (u : Int) (kl : Lit) (hx : a.eval x = key) (hv : a.eval v = .int .i64 u) (hkey : keyOf P k key = some kl)
    (hw : (Lit.int .i64 u).wf = true)
    (hK : ∀ es clock, mapIs (setBlock w b (.map es clock)) P k e b (n + 1) (put M key u) → wpList P ops Q rest (a.put o.dst undef) (setBlock w b (.map es clock))) :
    wpList P ops Q (o :: rest) a w := by
  refine wpList_plain hg fun K' hK' => ?_
  obtain ⟨es, clock, hrun, h2⟩ := hown.store K ht he hn hkey hw
  unfold Oper.wp
  simp [execOp, hop, hm, hx, hv, hrun, Result.andThen]
  exact hK' _ _ (hK es clock h2)

theorem wpList_mapUpdate_at {ops : Array Oper} {rest : List Oper} {o : Oper} {a : Act} {Q : Exit → Act → World → Prop}
    (hg : o.guard = none) (m x v : Operand) (hop : o.op = Op.mapUpdate t m x v)
    (K : Keyed P k) (ht : P.underlying t = some (.map k e)) (he : P.underlying e = some (.int .i64))
    (hm : a.eval m = .map (some b)) (hown : mapIs w P k e b n M) (hn : n < maxLen) (key : Value) (u : Int) (kl : Lit) (hx : a.eval x = key) (hv : a.eval v = .int .i64 u) (hkey : keyOf P k key = some kl)
    (hw : (Lit.int .i64 u).wf = true)
    (hK : ∀ w', mapIs w' P k e b (n + 1) (put M key u) → Turned b w w' → wpList P ops Q rest (a.put o.dst undef) w') :
    wpList P ops Q (o :: rest) a w := by
  refine wpList_plain hg fun K' hK' => ?_
  obtain ⟨es, clock, hrun, h2⟩ := hown.store K ht he hn hkey hw
  unfold Oper.wp
  simp [execOp, hop, hm, hx, hv, hrun, Result.andThen]
  exact hK' _ _ (hK _ h2 (turned_setBlock w b _))

theorem wpList_insert_at {ops : Array Oper} {rest : List Oper} {o : Oper} {a : Act} {Q : Exit → Act → World → Prop}
    (hg : o.guard = none) (m x v : Operand) (hop : o.op = Op.insert t m x v)
    (K : Keyed P k) (ht : P.underlying t = some (.map k e)) (he : P.underlying e = some (.int .i64))
    (hm : a.eval m = .map (some b)) (hown : mapIs w P k e b n M) (hn : n < maxLen) (key : Value) (u : Int) (kl : Lit) (hx : a.eval x = key) (hv : a.eval v = .int .i64 u) (hkey : keyOf P k key = some kl)
    (hw : (Lit.int .i64 u).wf = true)
    (hK : ∀ w', mapIs w' P k e b (n + 1) (put M key u) → Turned b w w' → wpList P ops Q rest (a.put o.dst undef) w') :
    wpList P ops Q (o :: rest) a w := by
  refine wpList_plain hg fun K' hK' => ?_
  obtain ⟨es, clock, hrun, h2⟩ := hown.store K ht he hn hkey hw
  unfold Oper.wp
  simp [execOp, hop, hm, hx, hv, hrun, Result.andThen]
  exact hK' _ _ (hK _ h2 (turned_setBlock w b _))

theorem wpList_lookup_hit {ops : Array Oper} {rest : List Oper} {o : Oper} {a : Act} {Q : Exit → Act → World → Prop}
    (hg : o.guard = none) (m x : Operand) (hop : o.op = Op.lookup t m x true)
    (K : Keyed P k) (ht : P.underlying t = some (.map k e)) (he : P.underlying e = some (.int .i64)) (hz : (zeroValue e).run P w = .ok (.int .i64 0) w)
    (hm : a.eval m = .map (some b)) (hown : mapIs w P k e b n M) (key : Value) (u : Int) (kl : Lit) (hx : a.eval x = key) (hkey : keyOf P k key = some kl) (hM : M key u)
    (hK : wpList P ops Q rest (a.put o.dst (.tuple #[.int .i64 u, .bool true])) w) :
    wpList P ops Q (o :: rest) a w := by
  refine wpList_plain hg fun K' hK' => ?_
  have hrun := hown.hit K ht he hz hkey hM
  unfold Oper.wp
  simp [execOp, hop, hm, hx, hrun, Result.andThen]
  exact hK' _ _ hK

theorem wpList_lookup_miss {ops : Array Oper} {rest : List Oper} {o : Oper} {a : Act} {Q : Exit → Act → World → Prop}
    (hg : o.guard = none) (m x : Operand) (hop : o.op = Op.lookup t m x true)
    (K : Keyed P k) (ht : P.underlying t = some (.map k e)) (he : P.underlying e = some (.int .i64)) (hz : (zeroValue e).run P w = .ok (.int .i64 0) w)
    (hm : a.eval m = .map (some b)) (hown : mapIs w P k e b n M) (key : Value) (kl : Lit) (hx : a.eval x = key) (hkey : keyOf P k key = some kl) (hM : ∀ u, ¬ M key u)
    (hK : wpList P ops Q rest (a.put o.dst (.tuple #[.int .i64 0, .bool false])) w) :
    wpList P ops Q (o :: rest) a w := by
  refine wpList_plain hg fun K' hK' => ?_
  have hrun := hown.miss K ht he hz hkey hM
  unfold Oper.wp
  simp [execOp, hop, hm, hx, hrun, Result.andThen]
  exact hK' _ _ hK

end
end Go.Proofs.Gen

/- Node: what is needed of it. -/
namespace Go.Proofs.YtefclohjeompkaaGreat
open Go Go.RowKit Go.Proofs.Gen Go.Proofs.Bdd Go.Proofs.Bdd.T
set_option maxHeartbeats 400000 in
theorem node_same (mb : Nat) (i p : Nat) (w : World) :
    Calls Tryz.prog 85 #[.pointer (some ⟨mb, 0, none⟩), .int .i64 i, .int .i64 p, .int .i64 p] w fun e w' => e = .returned (.int .i64 p) ∧ w = w' := by
  go_enter Tryz.func85, Tryz.ntmps85
  go_wp2
  go_ret
  exact ⟨rfl, rfl⟩

set_option maxHeartbeats 400000 in
theorem node_found (mb kb : Nat) (sv : Value) (i p q : Nat) (u : Int) (w : World) (hne : ((p : Int) == (q : Int)) = false)
    (hmb : w.heap[mb]? = some (.cells #[sv, .map (some kb)] 149 (0, 0)))
    (hrun : ∀ w' : World, w'.heap[kb]? = w.heap[kb]? → (Instr.lookup 147 (.map (some kb)) (.agg #[.int .i64 i, .int .i64 p, .int .i64 q]) true).run Tryz.prog w' = .ok (.tuple #[.int .i64 u, .bool true]) w') (hkb : kb < w.heap.size) :
    Calls Tryz.prog 85 #[.pointer (some ⟨mb, 0, none⟩), .int .i64 i, .int .i64 p, .int .i64 q] w fun e w' => e = .returned (.int .i64 u) ∧ Below w.heap.size w w' := by
  have c1 : w.cell? ⟨mb, 1, none⟩ = some (.map (some kb)) := by simp [World.cell?, hmb]
  have hb1 : mb < w.heap.size := World.block_lt_of_cell? w ⟨mb, 1, none⟩ c1
  have hr : ∀ (n : Nat), (Instr.lookup 147 (.map (some kb)) (.agg #[.int .i64 i, .int .i64 p, .int .i64 q]) true).run Tryz.prog ((w.alloc (.cells #[.int .i64 i, .int .i64 p, .int .i64 q] 84)).drewN n) = .ok (.tuple #[.int .i64 u, .bool true]) ((w.alloc (.cells #[.int .i64 i, .int .i64 p, .int .i64 q] 84)).drewN n) :=
    fun n => hrun _ (Below.heap_alloc w _ kb hkb)
  clear hrun hmb
  go_enter Tryz.func85, Tryz.ntmps85
  go_wp2
  go_quiet (fail)
  go_wp2
  go_ret
  exact ⟨rfl, ((Below.refl _ _).alloc (Nat.le_refl _) _).trans ⟨rfl, rfl, rfl, Nat.le_refl _, fun _ _ => rfl⟩⟩

theorem info26 : (Tryz.prog.info? 84).map (fun i => (i.zero, i.size, i.bytes)) = some (some (.agg #[.int .i64 0, .int .i64 0, .int .i64 0]), 3, 24) := by kernel_rfl

/-- What the statement that appends leaves. -/
def Appended (S : Nat → Prop) (w : World) (mb kb n : Nat) (xs : List Value) (i p q : Nat) (wx : World) : Prop :=
  ∃ sv, wx.heap[mb]? = some (.cells #[sv, .map (some kb)] 149 (0, 0)) ∧ wx.ownsRow 0 84 3 sv (n + 1) (xs ++ [.int .i64 i, .int .i64 p, .int .i64 q]) ∧ Kept S w wx ∧ wx.heap[kb]? = w.heap[kb]? ∧
    wx.heap[w.heap.size]? = some (.cells #[.int .i64 i, .int .i64 p, .int .i64 q] 84 (0, 0)) ∧ ∀ k, sv.ownBlock = some k → S k

theorem appended_of {S : Nat → Prop} {w W1 w1 : World} {mb kb n N i p q cap : Nat} {ao : Option Addr} {sv : Value} {xs : List Value} {M : Value → Int → Prop}
    (hmb : w.heap[mb]? = some (.cells #[sv, .map (some kb)] 149 (0, 0))) (hown : w.ownsRow 0 84 3 sv n xs) (hmap : mapIs w Tryz.prog 84 3 kb N M)
    (hS : ∀ k, w.heap.size ≤ k → S k) (hSm : S mb) (hSr : ∀ k, sv.ownBlock = some k → S k)
    (h1 : w1.ownsRow 0 84 3 (.slice ao (n + 1) cap) (n + 1) (xs ++ [.int .i64 i, .int .i64 p, .int .i64 q])) (hg : W1.grownBy w1 sv.ownBlock)
    (hl : (Value.slice ao (n + 1) cap).ownBlock = sv.ownBlock ∨ (Value.slice ao (n + 1) cap).ownBlock = some W1.heap.size)
    (e1 : W1.heap = ((w.alloc (.cells #[.int .i64 i, .int .i64 p, .int .i64 q] 84)).alloc (.cells #[.int .i64 i, .int .i64 p, .int .i64 q] 84)).heap) (e2 : W1.os = w.os) (e3 : W1.tape = w.tape) (e4 : W1.output = w.output) :
    Appended S w mb kb n xs i p q (w1.setCell ⟨mb, 0, none⟩ (.slice ao (n + 1) cap)) := by
  have hne := owns_ne hown hmb (by decide : (84 : Nat) ≠ 149)
  have hkb := hmap.lt
  have hnk : sv.ownBlock ≠ some kb := by
    obtain ⟨es, clock, hb, _⟩ := hmap
    exact owns_ne_map hown hb
  have hmk : kb ≠ mb := by
    obtain ⟨es, clock, hb, _⟩ := hmap
    rintro rfl
    rw [hmb] at hb
    cases hb
  have hmlt : mb < w.heap.size := (Array.getElem?_eq_some_iff.1 hmb).1
  have hs1 : W1.heap.size = w.heap.size + 2 := by rw [e1]; simp
  have old : ∀ k, k < w.heap.size → W1.heap[k]? = w.heap[k]? := fun k hk => by
    rw [e1, Below.heap_alloc _ _ _ (by simp; omega), Below.heap_alloc _ _ _ hk]
  have hrs : ∀ k, sv.ownBlock = some k → k < w.heap.size := fun k hk => (hown.lt k hk).2
  have hm1 : w1.heap[mb]? = some (.cells #[sv, .map (some kb)] 149 (0, 0)) := by rw [hg.block mb (by omega) (Ne.symm hne), old mb hmlt, hmb]
  have hx1 : w1.heap[w.heap.size]? = some (.cells #[.int .i64 i, .int .i64 p, .int .i64 q] 84 (0, 0)) := by
    rw [hg.block _ (by omega) (fun e => by have := hrs _ e.symm; omega), e1, Below.heap_alloc _ _ _ (by simp)]
    exact heap_alloc_new w _
  have hk0 : Kept S w W1 := ⟨e2, e3, e4, by omega, fun k hk _ => old k hk⟩
  have hk1 : Kept S w w1 := hk0.grown hg (fun k hk _ => hSr k hk)
  refine ⟨.slice ao (n + 1) cap, ?_, owns_setCell h1 hm1 (by decide) 0 _, hk1.setCell (fun _ => hSm) _, ?_, ?_, ?_⟩
  · rw [setCell_heap hm1]; rfl
  · rw [Below.heap_setCell _ _ _ _ hmk, hg.block kb (by omega) (Ne.symm hnk), old kb hkb]
  · rw [Below.heap_setCell _ _ _ _ (by show w.heap.size ≠ mb; omega), hx1]
  · intro k hk
    rcases hl with h | h
    · exact hSr k (h ▸ hk)
    · rw [h] at hk
      cases hk
      exact hS _ (by omega)

/-- What a new node leaves. -/
def Stored (S : Nat → Prop) (w : World) (mb kb n N : Nat) (xs : List Value) (M : Value → Int → Prop) (i p q : Nat) (w' : World) : Prop :=
  ∃ sv, w'.heap[mb]? = some (.cells #[sv, .map (some kb)] 149 (0, 0)) ∧ w'.ownsRow 0 84 3 sv (n + 1) (xs ++ [.int .i64 i, .int .i64 p, .int .i64 q]) ∧
    mapIs w' Tryz.prog 84 3 kb (N + 1) (put M (.agg #[.int .i64 i, .int .i64 p, .int .i64 q]) (n + 1 + 1)) ∧ Kept S w w' ∧ ∀ k, sv.ownBlock = some k → S k

set_option maxRecDepth 100000 in
set_option maxHeartbeats 400000 in
theorem node_new (S : Nat → Prop) (mb kb n N : Nat) (sv : Value) (xs : List Value) (M : Value → Int → Prop) (i p q : Nat) (kl : Lit) (w : World) (hne : ((p : Int) == (q : Int)) = false)
    (hmb : w.heap[mb]? = some (.cells #[sv, .map (some kb)] 149 (0, 0)))
    (hown : w.ownsRow 0 84 3 sv n xs) (hmap : mapIs w Tryz.prog 84 3 kb N M) (hN : N ≤ n) (hn : n < 1099511627776)
    (hS : ∀ k, w.heap.size ≤ k → S k) (hSm : S mb) (hSk : S kb) (hSr : ∀ k, sv.ownBlock = some k → S k)
    (hkey : keyOf Tryz.prog 84 (.agg #[.int .i64 i, .int .i64 p, .int .i64 q]) = some kl) (hM : ∀ u, ¬ M (.agg #[.int .i64 i, .int .i64 p, .int .i64 q]) u) :
    Calls Tryz.prog 85 #[.pointer (some ⟨mb, 0, none⟩), .int .i64 i, .int .i64 p, .int .i64 q] w fun e w' => e = .returned (.int .i64 (n + 1 + 1)) ∧ Stored S w mb kb n N xs M i p q w' := by
  have c0 : w.cell? ⟨mb, 0, none⟩ = some sv := by simp [World.cell?, hmb]
  have c1 : w.cell? ⟨mb, 1, none⟩ = some (.map (some kb)) := by simp [World.cell?, hmb]
  have hb1 : mb < w.heap.size := World.block_lt_of_cell? w ⟨mb, 1, none⟩ c1
  have hkb := hmap.lt
  have hne := owns_ne hown hmb (by decide : (84 : Nat) ≠ 149)
  obtain ⟨i0, hi, hz0, hz1, hz2⟩ := info_parts info26
  have hr : ∀ (n : Nat), (Instr.lookup 147 (.map (some kb)) (.agg #[.int .i64 i, .int .i64 p, .int .i64 q]) true).run Tryz.prog ((w.alloc (.cells #[.int .i64 i, .int .i64 p, .int .i64 q] 84)).drewN n) = .ok (.tuple #[.int .i64 0, .bool false]) ((w.alloc (.cells #[.int .i64 i, .int .i64 p, .int .i64 q] 84)).drewN n) :=
    fun n => mapIs.miss (((hmap.of_block (w' := w.alloc (.cells #[.int .i64 i, .int .i64 p, .int .i64 q] 84)) (Below.heap_alloc w _ kb hkb)).drewN n)) law26 Tryz.underlying147 Tryz.underlying3 (zero3 _) hkey hM
  have cm : ∀ (W1 w1 : World), W1.grownBy w1 sv.ownBlock → W1.heap = ((w.alloc (.cells #[.int .i64 i, .int .i64 p, .int .i64 q] 84)).alloc (.cells #[.int .i64 i, .int .i64 p, .int .i64 q] 84)).heap → w1.cell? ⟨mb, 0, none⟩ = some sv ∧ w1.frozen? ⟨mb, 0, none⟩ = false := by
    intro W1 w1 hg e1
    have e : w1.heap[mb]? = some (.cells #[sv, .map (some kb)] 149 (0, 0)) := by
      rw [hg.block mb (by rw [e1]; simp; omega) (Ne.symm hne), e1, Below.heap_alloc _ _ _ (by simp; omega), Below.heap_alloc _ _ _ hb1, hmb]
    exact ⟨by simp [World.cell?, e], by simp [World.frozen?, e]⟩
  have HM := Lib.hid hmb
  have HO := Lib.hid hown
  have HMap := Lib.hid hmap
  clear hmb hown hmap
  go_enter Tryz.func85, Tryz.ntmps85
  go_wp2
  go_quiet (fail)
  go_upto_region 6 with fail
  go_cut [] (fun wx => Appended S w mb kb n xs i p q wx)
  case first =>
    go_region_law (refine step_append_own rfl (.tmp 35) (.tmp 37) 32 rfl 0 84 i0 (.agg #[.int .i64 0, .int .i64 0, .int .i64 0]) 3 24 Tryz.underlying32 hi hz0 hz1 hz2 rfl (by decide) sv n xs rfl (by exact (HO.out.alloc _).alloc _) ⟨w.heap.size + 1, 0, none⟩ 1 1 [.int .i64 i, .int .i64 p, .int .i64 q] rfl rfl (by exact cell_three_at (by simp) _ _ _ _) (by simp [Value.oneCell']) (by unfold maxLen; omega) (by omega) (by omega) ?_; intro ao cap w1 hown1 hg1 hl1; have c0' : w1.cell? ⟨mb, 0, none⟩ = some sv := (cm _ _ hg1 rfl).1; have f0' : w1.frozen? ⟨mb, 0, none⟩ = false := (cm _ _ hg1 rfl).2)
    all_goals
      go_wp2_with fail
      go_meet
      exact appended_of HM.out HO.out HMap.out hS hSm hSr hown1 hg1 hl1 rfl rfl rfl rfl
  case rest =>
    obtain ⟨sv', hmb', hown', hk', hkb', hx', hrow'⟩ := hcut
    obtain ⟨ao, cap, rfl⟩ := owns_form hown'
    have d0 : wc.cell? ⟨mb, 0, none⟩ = some (.slice ao (n + 1) cap) := by simp [World.cell?, hmb']
    have d1 : wc.cell? ⟨mb, 1, none⟩ = some (.map (some kb)) := by simp [World.cell?, hmb']
    have x0 : wc.cell? ⟨w.heap.size, 0, none⟩ = some (.int .i64 i) := by simp [World.cell?, hx']
    have x1 : wc.cell? ⟨w.heap.size, 1, none⟩ = some (.int .i64 p) := by simp [World.cell?, hx']
    have x2 : wc.cell? ⟨w.heap.size, 2, none⟩ = some (.int .i64 q) := by simp [World.cell?, hx']
    have hmap' := Lib.hid (HMap.out.of_block hkb')
    go_wp2
    go_still_tail 6, (by kernel_rfl)
    change wpList _ _ _ _ _ wc.drew
    refine wpList_mapUpdate_is rfl (.tmp 50) (.tmp 51) (.tmp 52) rfl law26 Tryz.underlying147 Tryz.underlying3 rfl (hmap'.out.drewN 1) (by unfold maxLen; omega) _ _ kl rfl rfl hkey (WalkArith.wf_i64 (by omega)) ?_
    intro es clock hm2
    go_wp2
    go_ret
    refine ⟨rfl, .slice ao (n + 1) cap, ?_, ?_, hm2, setBlock_kept hk'.drew (fun _ => hSk) _, hrow'⟩
    · obtain ⟨es0, clock0, hb0, _⟩ := hmap'.out
      rw [Go.ChangeMaps.heap_setBlock_other (w := wc.drew) hb0]
      · exact hmb'
      · rintro rfl
        rw [hmb'] at hb0
        cases hb0
    · obtain ⟨es0, clock0, hb0, _⟩ := hmap'.out
      refine hown'.kept (row := some kb) ⟨rfl, rfl, rfl, by simp [Go.ChangeMaps.setBlock], fun k _ hne' => ?_⟩ (.inr (owns_ne_map hown' hb0))
      exact Go.ChangeMaps.heap_setBlock_other (w := wc.drew) hb0 _ (fun e => hne' (by rw [e]))

/-- What 'node' leaves. -/
def NodePost (S : Nat → Prop) (w : World) (mb : Nat) (L : List T) (i : Nat) (l h : T) (e : Ending) (w' : World) : Prop :=
  e = .returned (.int .i64 ((pl (add L i l h) (mk i l h) : Nat) : Int)) ∧ IsMaker w' mb S (add L i l h) ∧ Kept S w w'

theorem known_snoc {L : List T} (g : T.Good L) {i : Nat} {l h : T} (il : In L l) (ih : In L h) (hn : node i l h ∉ L) (x : Value) (u : Int) :
    known (L ++ [node i l h]) x u ↔ put (known L) (.agg #[.int .i64 i, .int .i64 (pl L l : Nat), .int .i64 (pl L h : Nat)]) (L.length + 1 + 1) x u := by
  have key : Value.agg #[.int .i64 i, .int .i64 (pl L l : Nat), .int .i64 (pl L h : Nat)] = triV (en L (node i l h)) := rfl
  rw [key]
  have tri_inj : ∀ a b : Tri, triV a = triV b → a = b := by
    intro a b h
    cases a; cases b
    simp only [triV, Value.agg.injEq, Array.mk.injEq, List.cons.injEq, Value.int.injEq, true_and, and_true] at h
    obtain ⟨h1, h2, h3⟩ := h
    simp only [Tri.mk.injEq]
    exact ⟨by omega, by omega, by omega⟩
  have own : en (L ++ [node i l h]) (node i l h) = en L (node i l h) := by simp only [en]; rw [pl_append il, pl_append ih]
  unfold known put
  constructor
  · rintro ⟨t, ht, rfl, rfl⟩
    rcases List.mem_append.1 ht with ht | ht
    · refine .inr ⟨fun e => hn ?_, t, ht, by rw [en_append g ht], by rw [pl_append (by cases t with | leaf => trivial | node => exact ht)]⟩
      rw [en_append g ht] at e
      rw [← en_inj g ht il ih (tri_inj _ _ e)]
      exact ht
    · simp at ht
      subst ht
      exact .inl ⟨by rw [own], by rw [pl_snoc hn]; omega⟩
  · rintro (⟨rfl, rfl⟩ | ⟨hne, t, ht, rfl, rfl⟩)
    · exact ⟨node i l h, by simp, by rw [own], by rw [pl_snoc hn]; omega⟩
    · exact ⟨t, List.mem_append_left _ ht, by rw [en_append g ht], by rw [pl_append (by cases t with | leaf => trivial | node => exact ht)]⟩

/-- THE CONTRACT OF 'node'. -/
theorem node_calls {S : Nat → Prop} {L : List T} (g : T.Good L) {i : Nat} {l h : T} (il : In L l) (ih : In L h) (hi : i < 24) (hlen : L.length < 1099511627776) {mb : Nat} {w : World} (hS : ∀ k, w.heap.size ≤ k → S k)
    (hm : IsMaker w mb S L) {a b c : Int} (ha : a = i) (hb : b = (pl L l : Nat)) (hc : c = (pl L h : Nat)) :
    Calls Tryz.prog 85 #[.pointer (some ⟨mb, 0, none⟩), .int .i64 a, .int .i64 b, .int .i64 c] w (NodePost S w mb L i l h) := by
  subst ha hb hc
  have b1 := pl_lt il
  have b2 := pl_lt ih
  by_cases e : l = h
  · subst e
    refine (node_same mb i (pl L l) w).mono ?_
    rintro e w' ⟨rfl, rfl⟩
    have e1 : add L i l l = L := by simp [add]
    have e2 : mk i l l = l := by simp [mk]
    unfold NodePost
    rw [e1, e2]
    exact ⟨rfl, hm, Kept.refl _ _⟩
  · have hne : (((pl L l : Nat) : Int) == ((pl L h : Nat) : Int)) = false := by
      rw [beq_eq_false_iff_ne]
      intro e'
      exact e (pl_inj il ih (by omega))
    have hm0 := hm
    obtain ⟨sv, kb, N, hmb, hown, hmap, hN, hSm, hSk, hSr⟩ := hm
    obtain ⟨kl, hkey⟩ := key26 (wf_nat (n := i) (by omega)) (wf_nat (n := pl L l) (by omega)) (wf_nat (n := pl L h) (by omega))
    by_cases hin : node i l h ∈ L
    · have e1 : add L i l h = L := by simp [add, hin]
      have e2 : mk i l h = node i l h := by simp [mk, e]
      refine (node_found mb kb sv i (pl L l) (pl L h) (pl L (node i l h) : Nat) w hne hmb (fun w' hw' => ?_) hmap.lt).mono ?_
      · exact (hmap.of_block hw').hit law26 Tryz.underlying147 Tryz.underlying3 (zero3 _) hkey ⟨node i l h, hin, rfl, rfl⟩
      · rintro e w' ⟨rfl, hbl⟩
        unfold NodePost
        rw [e1, e2]
        exact ⟨rfl, hm0.of_kept (Kept.of_below hbl) (fun k hk _ => by omega), (Kept.of_below hbl).mono (fun k hk h => by omega)⟩
    · have e1 : add L i l h = L ++ [node i l h] := by simp [add, e, hin]
      have e2 : mk i l h = node i l h := by simp [mk, e]
      refine (node_new S mb kb L.length N sv _ _ i (pl L l) (pl L h) kl w hne hmb hown hmap hN hlen hS hSm hSk hSr hkey ?_).mono ?_
      · rintro u ⟨t, ht, he, _⟩
        refine hin ?_
        have : triV (en L (node i l h)) = triV (en L t) := he
        have h2 : en L t = en L (node i l h) := by
          cases h1 : en L t; cases h2 : en L (node i l h)
          rw [h1, h2] at this
          simp only [triV, Value.agg.injEq, Array.mk.injEq, List.cons.injEq, Value.int.injEq, true_and, and_true] at this
          obtain ⟨h1, h2, h3⟩ := this
          simp only [Tri.mk.injEq]
          exact ⟨by omega, by omega, by omega⟩
        rw [← en_inj g ht il ih h2]
        exact ht
      · rintro e w' ⟨rfl, sv', hmb', hown', hmap', hk, hSr'⟩
        unfold NodePost
        rw [e1, e2, pl_snoc hin]
        refine ⟨rfl, ⟨sv', kb, N + 1, hmb', ?_, hmap'.congr (known_snoc g il ih hin), by simp; omega, hSm, hSk, hSr'⟩, hk⟩
        rw [enc_snoc g il ih]
        simpa [cellsOf, triC] using hown'

end Go.Proofs.YtefclohjeompkaaGreat

/- Done: what is needed of it. -/
namespace Go.Proofs.YtefclohjeompkaaGreat
open Go Go.RowKit Go.Proofs.Gen Go.Proofs.Bdd Go.Proofs.Bdd.T
open Go.Maps (Keyed)
/-- What the map of places holds. -/
def placed (L acc : List T) (x : Value) (u : Int) : Prop :=
  (x = .int .i64 0 ∧ u = 0) ∨ (x = .int .i64 1 ∧ u = 1) ∨ ∃ t ∈ acc, x = .int .i64 (pl L t : Nat) ∧ u = (pl acc t : Nat)

/-- The blocks that 'visit' reads. -/
structure VisEnv (w : World) (L : List T) (mb kb pB mB vB oB place : Nat) (sv : Value) : Prop where
  mkr : w.heap[mb]? = some (.cells #[sv, .map (some kb)] 149 (0, 0))
  row : w.ownsRow 0 84 3 sv L.length (cellsOf (enc L))
  pc : w.heap[pB]? = some (.cells #[.map (some place)] 150 (0, 0))
  mc : w.heap[mB]? = some (.cells #[.pointer (some ⟨mb, 0, none⟩)] 114 (0, 0))
  vc : w.heap[vB]? = some (.cells #[.func (.func 105) #[] #[.pointer (some ⟨pB, 0, none⟩), .pointer (some ⟨mB, 0, none⟩), .pointer (some ⟨vB, 0, none⟩), .pointer (some ⟨oB, 0, none⟩)]] 151 (0, 0))

/-- The blocks that 'visit' writes, all in R: the list, of m nodes, and the map of places. -/
def VSt (w : World) (R : Nat → Prop) (oB place m : Nat) (xs : List Value) (M : Value → Int → Prop) : Prop :=
  ∃ ov n, w.heap[oB]? = some (.cells #[ov] 32 (0, 0)) ∧ w.ownsRow 0 84 3 ov m xs ∧ mapIs w Tryz.prog 3 3 place n M ∧ n ≤ m + 2 ∧ R oB ∧ R place ∧ ∀ k, ov.ownBlock = some k → R k

def VisSt (w : World) (R : Nat → Prop) (L acc : List T) (oB place : Nat) : Prop := VSt w R oB place acc.length (cellsOf (enc acc)) (placed L acc)

set_option maxHeartbeats 400000 in
theorem visit_hit (r u : Int) (pB mB vB oB place n : Nat) (M : Value → Int → Prop) (w : World) (hr : (Lit.int .i64 r).wf = true)
    (hp : w.heap[pB]? = some (.cells #[.map (some place)] 150 (0, 0))) (hmap : mapIs w Tryz.prog 3 3 place n M) (hM : M (.int .i64 r) u) :
    Calls Tryz.prog 105 #[.int .i64 r, .pointer (some ⟨pB, 0, none⟩), .pointer (some ⟨mB, 0, none⟩), .pointer (some ⟨vB, 0, none⟩), .pointer (some ⟨oB, 0, none⟩)] w fun e w' => e = .returned (.int .i64 u) ∧ w = w' := by
  have c0 : w.cell? ⟨pB, 0, none⟩ = some (.map (some place)) := by simp [World.cell?, hp]
  clear hp
  have HM := Lib.hid hmap
  clear hmap
  go_enter Tryz.func105, Tryz.ntmps105
  go_wp2_with (at_lookup; refine wpList_lookup_hit rfl (.tmp 13) (.tmp 14) rfl law3 Tryz.underlying150 Tryz.underlying3 (zero3 _) rfl HM.out _ u _ rfl (Maps.keyOf_int_mk Tryz.underlying3 hr) hM ?_)
  go_ret
  exact ⟨rfl, rfl⟩

theorem tri_cells {w : World} {v : Value} {l : List Tri} (h : w.ownsRow 0 84 3 v l.length (cellsOf l)) {k : Nat} {x : Tri} (hk : l[k]? = some x) :
    ∃ g cap, v = .slice (some ⟨g, 0, none⟩) l.length cap ∧ w.cell? ⟨g, k * 3, none⟩ = some (.int .i64 x.v) ∧ w.cell? ⟨g, k * 3 + 1, none⟩ = some (.int .i64 x.lo) ∧ w.cell? ⟨g, k * 3 + 2, none⟩ = some (.int .i64 x.hi) := by
  have hlt : k < l.length := (List.getElem?_eq_some_iff.1 hk).1
  rcases h.2 with ⟨_, h0⟩ | ⟨g, cap, cur, rfl, _, hg, _, _, hs, ht⟩
  · omega
  · refine ⟨g, cap, rfl, ?_⟩
    have at' : ∀ (l : List Tri) (k : Nat) (x : Tri), l[k]? = some x → ∀ j, j < 3 → (cellsOf l)[k * 3 + j]? = (triC x)[j]? := by
      intro l
      induction l with
      | nil => intro k x h; simp at h
      | cons y r ih =>
        intro k x hk j hj
        have e : cellsOf (y :: r) = triC y ++ cellsOf r := rfl
        have ly : (triC y).length = 3 := rfl
        rw [e]
        cases k with
        | zero =>
          simp at hk
          subst hk
          rw [List.getElem?_append_left (by omega), Nat.zero_mul, Nat.zero_add]
        | succ k =>
          rw [List.getElem?_append_right (by omega), ly, show (k + 1) * 3 + j - 3 = k * 3 + j from by omega]
          exact ih k x (by simpa using hk) j hj
    have look : ∀ j, j < 3 → w.cell? ⟨g, k * 3 + j, none⟩ = (triC x)[j]? := by
      intro j hj
      have a := at' l k x hk j hj
      rw [← ht, List.getElem?_take, if_pos (by omega)] at a
      simp only [World.cell?, hg]
      simpa using a
    exact ⟨look 0 (by omega), look 1 (by omega), look 2 (by omega)⟩

/-- What 'visit' leaves. -/
def VisPost (R : Nat → Prop) (w : World) (L : List T) (oB place : Nat) (t : T) (acc : List T) (e : Ending) (w' : World) : Prop :=
  e = .returned (.int .i64 ((pl (go t acc) t : Nat) : Int)) ∧ VisSt w' R L (go t acc) oB place ∧ Kept R w w'

theorem VisEnv.kept {w w' : World} {R : Nat → Prop} {L : List T} {mb kb pB mB vB oB place : Nat} {sv : Value} (h : VisEnv w L mb kb pB mB vB oB place sv) (hk : Kept R w w')
    (hd : ¬ R mb ∧ ¬ R pB ∧ ¬ R mB ∧ ¬ R vB ∧ ∀ k, sv.ownBlock = some k → ¬ R k) : VisEnv w' L mb kb pB mB vB oB place sv := by
  have lt : ∀ {b : Nat} {o : Obj}, w.heap[b]? = some o → b < w.heap.size := fun h => (Array.getElem?_eq_some_iff.1 h).1
  refine ⟨(hk.block _ (lt h.mkr) hd.1).trans h.mkr, ⟨h.row.1, ?_⟩, (hk.block _ (lt h.pc) hd.2.1).trans h.pc, (hk.block _ (lt h.mc) hd.2.2.1).trans h.mc, (hk.block _ (lt h.vc) hd.2.2.2.1).trans h.vc⟩
  rcases h.row.2 with hh | ⟨g, cap, cur, rfl, hb, hg, r⟩
  · exact .inl hh
  · exact .inr ⟨g, cap, cur, rfl, hb, (hk.block g (lt hg) (hd.2.2.2.2 g rfl)).trans hg, r⟩

theorem VSt.mono {w : World} {R R' : Nat → Prop} {oB place m : Nat} {xs : List Value} {M : Value → Int → Prop} (h : VSt w R oB place m xs M) (hs : ∀ k, k < w.heap.size → R k → R' k) : VSt w R' oB place m xs M := by
  obtain ⟨ov, n, ho, hr, hm, hn, r1, r2, r3⟩ := h
  exact ⟨ov, n, ho, hr, hm, hn, hs _ (Array.getElem?_eq_some_iff.1 ho).1 r1, hs _ hm.lt r2, fun k hk => hs _ (hr.lt k hk).2 (r3 k hk)⟩

theorem VSt.alloc {w : World} {R : Nat → Prop} {oB place m : Nat} {xs : List Value} {M : Value → Int → Prop} (h : VSt w R oB place m xs M) (o : Obj) : VSt (w.alloc o) R oB place m xs M := by
  obtain ⟨ov, n, ho, hr, hm, hn, r1, r2, r3⟩ := h
  exact ⟨ov, n, (Below.heap_alloc w o _ (Array.getElem?_eq_some_iff.1 ho).1).trans ho, hr.alloc o, hm.of_block (Below.heap_alloc w o _ hm.lt), hn, r1, r2, r3⟩

set_option maxRecDepth 100000 in
set_option maxHeartbeats 400000 in
/-- The way on which a node is listed; its children's listing is taken as it comes. -/
theorem visit_miss (R : Nat → Prop) (r : Nat) (x : Tri) (pB mB vB oB place mb kb g n cap N : Nat) (M : Value → Int → Prop) (lo hi : Int) (m : Nat) (xs : List Value) (M2 : Value → Int → Prop) (w : World)
    (hr : 2 ≤ r) (hrn : r < n + 2) (hn : n < 1099511627776) (hmn : m < 1099511627776) (hR : ∀ k, w.heap.size ≤ k → R k)
    (hp : w.heap[pB]? = some (.cells #[.map (some place)] 150 (0, 0))) (hmap : mapIs w Tryz.prog 3 3 place N M) (hM : ∀ u, ¬ M (.int .i64 r) u)
    (hmb : w.heap[mb]? = some (.cells #[.slice (some ⟨g, 0, none⟩) n cap, .map (some kb)] 149 (0, 0)))
    (hmc : w.heap[mB]? = some (.cells #[.pointer (some ⟨mb, 0, none⟩)] 114 (0, 0)))
    (hv : w.heap[vB]? = some (.cells #[.func (.func 105) #[] #[.pointer (some ⟨pB, 0, none⟩), .pointer (some ⟨mB, 0, none⟩), .pointer (some ⟨vB, 0, none⟩), .pointer (some ⟨oB, 0, none⟩)]] 151 (0, 0)))
    (x0 : w.cell? ⟨g, (r - 2) * 3, none⟩ = some (.int .i64 x.v)) (x1 : w.cell? ⟨g, (r - 2) * 3 + 1, none⟩ = some (.int .i64 x.lo)) (x2 : w.cell? ⟨g, (r - 2) * 3 + 2, none⟩ = some (.int .i64 x.hi))
    (hd : ¬ R mb ∧ ¬ R pB ∧ ¬ R mB ∧ ¬ R vB)
    (h1 : Calls Tryz.prog 105 #[.int .i64 x.lo, .pointer (some ⟨pB, 0, none⟩), .pointer (some ⟨mB, 0, none⟩), .pointer (some ⟨vB, 0, none⟩), .pointer (some ⟨oB, 0, none⟩)] (w.alloc (.cells #[.int .i64 x.v, .int .i64 x.lo, .int .i64 x.hi] 84))
      fun e w1 => e = .returned (.int .i64 lo) ∧ Kept (fun k => R k ∧ k ≠ w.heap.size) (w.alloc (.cells #[.int .i64 x.v, .int .i64 x.lo, .int .i64 x.hi] 84)) w1 ∧
        Calls Tryz.prog 105 #[.int .i64 x.hi, .pointer (some ⟨pB, 0, none⟩), .pointer (some ⟨mB, 0, none⟩), .pointer (some ⟨vB, 0, none⟩), .pointer (some ⟨oB, 0, none⟩)] w1
          fun e w2 => e = .returned (.int .i64 hi) ∧ Kept (fun k => R k ∧ k ≠ w.heap.size) (w.alloc (.cells #[.int .i64 x.v, .int .i64 x.lo, .int .i64 x.hi] 84)) w2 ∧ VSt w2 R oB place m xs M2) :
    Calls Tryz.prog 105 #[.int .i64 r, .pointer (some ⟨pB, 0, none⟩), .pointer (some ⟨mB, 0, none⟩), .pointer (some ⟨vB, 0, none⟩), .pointer (some ⟨oB, 0, none⟩)] w fun e w' => e = .returned (.int .i64 (m + 1 + 1)) ∧ VSt w' R oB place (m + 1) (xs ++ [.int .i64 x.v, .int .i64 lo, .int .i64 hi]) (put M2 (.int .i64 r) (m + 1 + 1)) ∧ Kept R w w' := by
  have c0 : w.cell? ⟨pB, 0, none⟩ = some (.map (some place)) := by simp [World.cell?, hp]
  have c1 : w.cell? ⟨mB, 0, none⟩ = some (.pointer (some ⟨mb, 0, none⟩)) := by simp [World.cell?, hmc]
  have c2 : w.cell? ⟨mb, 0, none⟩ = some (.slice (some ⟨g, 0, none⟩) n cap) := by simp [World.cell?, hmb]
  have c3 : w.cell? ⟨vB, 0, none⟩ = some (.func (.func 105) #[] #[.pointer (some ⟨pB, 0, none⟩), .pointer (some ⟨mB, 0, none⟩), .pointer (some ⟨vB, 0, none⟩), .pointer (some ⟨oB, 0, none⟩)]) := by simp [World.cell?, hv]
  have lv := World.block_lt_of_cell? w ⟨vB, 0, none⟩ c3
  have lp := World.block_lt_of_cell? w ⟨pB, 0, none⟩ c0
  clear hp hmc hmb hv
  have HM := Lib.hid hmap
  have H1 := Lib.hid h1
  clear hmap h1
  go_enter Tryz.func105, Tryz.ntmps105
  go_wp2_with (at_lookup; refine wpList_lookup_miss rfl (.tmp 13) (.tmp 14) rfl law3 Tryz.underlying150 Tryz.underlying3 (zero3 _) rfl HM.out _ _ rfl (Maps.keyOf_int_mk Tryz.underlying3 (wf_nat (by omega))) hM ?_)
  refine H1.out.mono ?_
  rintro e w1 ⟨rfl, hk1, h2⟩
  have H2 := Lib.hid h2
  clear h2
  have z0 := cell_alloc c0 (.cells #[.int .i64 x.v, .int .i64 x.lo, .int .i64 x.hi] 84)
  have z3 := cell_alloc c3 (.cells #[.int .i64 x.v, .int .i64 x.lo, .int .i64 x.hi] 84)
  have d3 := hk1.cell z3 (fun h => hd.2.2.2 h.1)
  have y2 := hk1.cell (b := w.heap.size) (o := 2) (v := .int .i64 x.hi) (by simp) (fun h => h.2 rfl)
  clear c0 c1 c2 c3 x0 x1 x2
  go_wp2_with fail
  refine H2.out.mono ?_
  rintro e w2 ⟨rfl, hk2, ov, N2, ho, hown, hmap2, hN2, r1, r2, r3⟩
  have b0 := hk2.cell z0 (fun h => hd.2.1 h.1)
  have b1 := hk2.cell (b := w.heap.size) (o := 0) (v := .int .i64 x.v) (by simp) (fun h => h.2 rfl)
  have b2 : w2.cell? ⟨oB, 0, none⟩ = some ov := by simp [World.cell?, ho]
  obtain ⟨i0, hi0, hz0, hz1, hz2⟩ := info_parts info26
  have hne := owns_ne hown ho (by decide : (84 : Nat) ≠ 32)
  have HO := Lib.hid ho
  have HW := Lib.hid hown
  have HM2 := Lib.hid hmap2
  clear z0 z3 d3 y2 ho hown hmap2
  have hpo : ¬ pB = oB := fun e => hd.2.1 (e ▸ r1)
  have hop : ¬ oB = pB := fun e => hd.2.1 (e ▸ r1)
  have hok : oB ≠ place := by
    rintro rfl
    obtain ⟨es, clock, hb, _⟩ := HM2.out
    rw [HO.out] at hb
    cases hb
  have hnk : ov.ownBlock ≠ some place := by
    obtain ⟨es, clock, hb, _⟩ := HM2.out
    exact owns_ne_map HW.out hb
  have hnp : ov.ownBlock ≠ some pB := fun e => hd.2.1 (r3 _ e)
  have hplt := HM2.out.lt
  have hp2 : Hid (∃ x, w2.heap[pB]? = some x) := Lib.hid ⟨w2.heap[pB]'(World.block_lt_of_cell? w2 ⟨pB, 0, none⟩ b0), Array.getElem?_eq_getElem _⟩
  have PC : ∀ w3 : World, (w2.alloc (.cells #[.int .i64 x.v, .int .i64 lo, .int .i64 hi] 84)).grownBy w3 ov.ownBlock → w3.cell? ⟨pB, 0, none⟩ = some (.map (some place)) := fun w3 hg3 => by
    obtain ⟨y, hy⟩ := hp2.out
    rw [← b0]
    exact World.cell?_of_block (w := w2) ((grown_alloc_heap hg3 hy hnp).trans hy.symm)
  go_wp2_with (first
    | (at_builtin; refine wpList_append_in rfl (.tmp 36) (.tmp 42) 32 rfl 0 84 i0 (.agg #[.int .i64 0, .int .i64 0, .int .i64 0]) 3 24 Tryz.underlying32 hi0 hz0 hz1 hz2 rfl (by decide) ov m xs rfl (by exact HW.out.alloc _) ⟨w2.heap.size, 0, none⟩ 1 1 [.int .i64 x.v, .int .i64 lo, .int .i64 hi] rfl rfl (by exact cell_three_at rfl _ _ _ _) (by simp [Value.oneCell']) (by unfold maxLen; omega) (by omega) (by omega) ?_; intro ao cap w3 hown3 hg3 hl3; have E3 := Lib.hid (grown_alloc_heap hg3 HO.out hne); have f1 := cell1 (o := 0) E3.out rfl; have f2 := free1 E3.out 0; have f3 := PC w3 hg3)
    | (at_mapUpdate; refine wpList_mapUpdate_is rfl (.tmp 44) (.tmp 45) (.tmp 48) rfl law3 Tryz.underlying150 Tryz.underlying3 rfl (M := M2) (n := N2) (b := place) (HM2.out.of_block ?_) (by unfold maxLen; omega) _ _ _ rfl rfl (Maps.keyOf_int_mk Tryz.underlying3 (wf_nat (by omega))) (WalkArith.wf_i64 (by omega)) ?_))
  · rw [Below.heap_setCell _ _ _ _ (Ne.symm hok)]
    obtain ⟨es, clock, hb, _⟩ := HM2.out
    exact (grown_alloc_heap hg3 hb hnk).trans hb.symm
  · intro es clock hm4
    have G1 : Hid ((Go.ChangeMaps.setBlock (w3.setCell ⟨oB, 0, none⟩ (.slice ao (m + 1) cap)) place (.map es clock)).heap[oB]? = some (.cells #[.slice ao (m + 1) cap] 32 (0, 0))) := by
      rw [setBlock_heap _ hok, setCell_heap E3.out]; rfl
    have g1 := cell1 (o := 0) G1.out rfl
    have HM4 := Lib.hid hm4
    clear hm4
    go_wp2_with fail
    go_ret
    have hp4 : (Value.slice ao (m + 1) cap).ownBlock ≠ some place := by
      rcases hl3 with h | h <;> rw [h]
      · exact hnk
      · simp; omega
    have hR2 : w.heap.size ≤ w2.heap.size := by have := hk2.size; simp at this; omega
    refine ⟨rfl, ⟨_, N2 + 1, G1.out, owns_setBlock (owns_setCell hown3 E3.out (by decide) 0 _) hp4 _, HM4.out, by omega, r1, r2, ?_⟩, ?_⟩
    · intro k hk
      rcases hl3 with h | h <;> rw [h] at hk
      · exact r3 k hk
      · simp at hk
        exact hR k (by omega)
    · refine setBlock_kept (Kept.setCell (Kept.grown (Kept.alloc (Kept.trans ((Kept.refl R w).alloc _) (hk2.mono fun k _ h => h.1)) _) hg3 (fun k hk _ => r3 k hk)) (fun _ => r1) _) (fun _ => r2) _

theorem placed_snoc {L acc : List T} (hsub : ∀ s ∈ acc, s ∈ L) {i : Nat} {l h : T} (hin : node i l h ∈ L) (hn : node i l h ∉ acc) (x : Value) (u : Int) :
    placed L (acc ++ [node i l h]) x u ↔ put (placed L acc) (.int .i64 (pl L (node i l h) : Nat)) (acc.length + 1 + 1) x u := by
  have inL : ∀ s ∈ acc, In L s := fun s hs => by
    cases s with
    | leaf => trivial
    | node => exact hsub _ hs
  have inA : ∀ s ∈ acc, In acc s := fun s hs => by
    cases s with
    | leaf => trivial
    | node => exact hs
  have h2 := pl_node (L := L) i l h
  unfold placed put
  constructor
  · rintro (⟨rfl, rfl⟩ | ⟨rfl, rfl⟩ | ⟨t, ht, rfl, rfl⟩)
    · exact .inr ⟨by simp; omega, .inl ⟨rfl, rfl⟩⟩
    · exact .inr ⟨by simp; omega, .inr (.inl ⟨rfl, rfl⟩)⟩
    · rcases List.mem_append.1 ht with ht | ht
      · refine .inr ⟨fun e => hn ?_, .inr (.inr ⟨t, ht, rfl, by rw [pl_append (inA t ht)]⟩)⟩
        simp only [Value.int.injEq, true_and] at e
        rw [← pl_inj (inL t ht) (show In L (node i l h) from hin) (by omega)]
        exact ht
      · simp at ht
        subst ht
        exact .inl ⟨rfl, by rw [pl_snoc hn]; omega⟩
  · rintro (⟨rfl, rfl⟩ | ⟨hne, ⟨rfl, rfl⟩ | ⟨rfl, rfl⟩ | ⟨t, ht, rfl, rfl⟩⟩)
    · exact .inr (.inr ⟨node i l h, by simp, rfl, by rw [pl_snoc hn]; omega⟩)
    · exact .inl ⟨rfl, rfl⟩
    · exact .inr (.inl ⟨rfl, rfl⟩)
    · exact .inr (.inr ⟨t, List.mem_append_left _ ht, rfl, by rw [pl_append (inA t ht)]⟩)

/-- THE CONTRACT OF 'visit'. -/
theorem visit_calls {L : List T} (g : T.Good L) (hlen : L.length < 1099511627776) {mb kb pB mB vB oB place : Nat} {sv : Value} :
    ∀ (t : T) (R : Nat → Prop) (acc : List T) (w : World), t.Ok → In L t → T.Good acc → (∀ s ∈ acc, s ∈ L) → acc.length + room t ≤ 1099511627776 →
      (∀ k, w.heap.size ≤ k → R k) → (¬ R mb ∧ ¬ R pB ∧ ¬ R mB ∧ ¬ R vB ∧ ∀ k, sv.ownBlock = some k → ¬ R k) → VisEnv w L mb kb pB mB vB oB place sv → VisSt w R L acc oB place → ∀ r : Int, r = (pl L t : Nat) →
      Calls Tryz.prog 105 #[.int .i64 r, .pointer (some ⟨pB, 0, none⟩), .pointer (some ⟨mB, 0, none⟩), .pointer (some ⟨vB, 0, none⟩), .pointer (some ⟨oB, 0, none⟩)] w (VisPost R w L oB place t acc) := by
  intro t
  induction t with
  | leaf b =>
    intro R acc w ok hin ga hsub hroom hR hd env st r hr
    subst hr
    obtain ⟨ov, n, ho, hown, hmap, hn, r1, r2, r3⟩ := st
    refine (visit_hit (pl L (leaf b) : Nat) (pl L (leaf b) : Nat) pB mB vB oB place n _ w (wf_nat (by cases b <;> simp [pl])) env.pc hmap ?_).mono ?_
    · cases b
      · exact .inl ⟨rfl, rfl⟩
      · exact .inr (.inl ⟨rfl, rfl⟩)
    · rintro e w' ⟨rfl, rfl⟩
      exact ⟨by cases b <;> rfl, ⟨ov, n, ho, hown, hmap, hn, r1, r2, r3⟩, Kept.refl _ _⟩
  | node i l h ihl ihh =>
    intro R acc w ok hin ga hsub hroom hR hd env st r hr
    subst hr
    have st0 := st
    obtain ⟨ov, n, ho, hown, hmap, hn, r1, r2, r3⟩ := st
    have hb := pl_lt hin
    have h2 := pl_node (L := L) i l h
    by_cases hm : node i l h ∈ acc
    · refine (visit_hit (pl L (node i l h) : Nat) (pl acc (node i l h) : Nat) pB mB vB oB place n _ w (wf_nat (by omega)) env.pc hmap ?_).mono ?_
      · exact .inr (.inr ⟨_, hm, rfl, rfl⟩)
      · rintro e w' ⟨rfl, rfl⟩
        have e1 : go (node i l h) acc = acc := by simp [go, hm]
        unfold VisPost
        rw [e1]
        exact ⟨rfl, st0, Kept.refl _ _⟩
    · have kk := g.kids (show node i l h ∈ L from hin)
      have rk := room_kids ok
      have hget := pl_get (L := L) (i := i) (l := l) (h := h) hin
      have hge : (enc L)[pl L (node i l h) - 2]? = some (en L (node i l h)) := by simp [enc, hget]
      have hle : (enc L).length = L.length := by simp [enc]
      obtain ⟨gb, cap, hsv, x0, x1, x2⟩ := tri_cells (by rw [hle]; exact env.row) hge
      rw [hle] at hsv
      subst hsv
      have rl := go_room l acc ok.2.2.2.2.1
      have rh := go_room h (go l acc) ok.2.2.2.2.2
      have hal := room_pos h
      have gl := go_good l acc ok.2.2.2.2.1 ga
      have hsl := go_sub g l acc kk.1 hsub
      have hsh := go_sub g h (go l acc) kk.2 hsl
      have hnew := go_new i l h acc hm
      have hlt0 : oB < w.heap.size := (Array.getElem?_eq_some_iff.1 ho).1
      have hd' : ∀ b, ¬ R b → ¬ (R b ∧ b ≠ w.heap.size) := fun b hb h => hb h.1
      have hdd : ¬ (R mb ∧ mb ≠ w.heap.size) ∧ ¬ (R pB ∧ pB ≠ w.heap.size) ∧ ¬ (R mB ∧ mB ≠ w.heap.size) ∧ ¬ (R vB ∧ vB ≠ w.heap.size) ∧
          ∀ k, (Value.slice (some ⟨gb, 0, none⟩) L.length cap).ownBlock = some k → ¬ (R k ∧ k ≠ w.heap.size) :=
        ⟨hd' _ hd.1, hd' _ hd.2.1, hd' _ hd.2.2.1, hd' _ hd.2.2.2.1, fun k hk => hd' _ (hd.2.2.2.2 k hk)⟩
      refine (visit_miss R (pl L (node i l h)) (en L (node i l h)) pB mB vB oB place mb kb gb L.length cap n (placed L acc) (pl (go l acc) l : Nat) (pl (go h (go l acc)) h : Nat)
        (go h (go l acc)).length (cellsOf (enc (go h (go l acc)))) (placed L (go h (go l acc))) w h2 hb hlen (by omega) hR env.pc hmap ?_ env.mkr env.mc env.vc x0 x1 x2
        ⟨hd.1, hd.2.1, hd.2.2.1, hd.2.2.2.1⟩ ?_).mono ?_
      · rintro u (⟨he, _⟩ | ⟨he, _⟩ | ⟨s, hs, he, _⟩)
        · simp only [Value.int.injEq, true_and] at he; omega
        · simp only [Value.int.injEq, true_and] at he; omega
        · simp only [Value.int.injEq, true_and] at he
          have hsi : In L s := by
            cases s with
            | leaf => trivial
            | node => exact hsub _ hs
          rw [pl_inj hin hsi (by omega)] at hm
          exact hm hs
      · have env1 : VisEnv (w.alloc (.cells #[.int .i64 (en L (node i l h)).v, .int .i64 (en L (node i l h)).lo, .int .i64 (en L (node i l h)).hi] 84)) L mb kb pB mB vB oB place (.slice (some ⟨gb, 0, none⟩) L.length cap) :=
          env.kept (R := fun _ => False) ((Kept.refl _ w).alloc _) ⟨id, id, id, id, fun _ _ => id⟩
        have st1 := (VSt.alloc st0 (.cells #[.int .i64 (en L (node i l h)).v, .int .i64 (en L (node i l h)).lo, .int .i64 (en L (node i l h)).hi] 84))
        have st1' : VisSt (w.alloc (.cells #[.int .i64 (en L (node i l h)).v, .int .i64 (en L (node i l h)).lo, .int .i64 (en L (node i l h)).hi] 84)) (fun k => R k ∧ k ≠ w.heap.size) L acc oB place := by
          obtain ⟨ov', n', ho', hw', hm', hn', q1, q2, q3⟩ := st0
          exact ⟨ov', n', (Below.heap_alloc w _ _ (Array.getElem?_eq_some_iff.1 ho').1).trans ho', hw'.alloc _, hm'.of_block (Below.heap_alloc w _ _ hm'.lt), hn', ⟨q1, by omega⟩, ⟨q2, by have := hm'.lt; omega⟩,
            fun k hk => ⟨q3 k hk, by have := (hw'.lt k hk).2; omega⟩⟩
        clear st1
        refine (ihl (fun k => R k ∧ k ≠ w.heap.size) acc _ ok.2.2.2.2.1 kk.1 ga hsub (by omega) (fun k hk => ?_) hdd env1 st1' _ rfl).mono ?_
        · simp at hk
          exact ⟨hR k (by omega), by omega⟩
        · rintro e w1 ⟨rfl, stl, hk1⟩
          refine ⟨rfl, hk1, ?_⟩
          have hz1 := hk1.size
          simp at hz1
          refine (ihh (fun k => R k ∧ k ≠ w.heap.size) (go l acc) w1 ok.2.2.2.2.2 kk.2 gl hsl (by omega) (fun k hk => ⟨hR k (by omega), by omega⟩) hdd (env1.kept hk1 hdd) stl _ rfl).mono ?_
          rintro e w2 ⟨rfl, sth, hk2⟩
          exact ⟨rfl, hk1.trans hk2, VSt.mono sth (fun k _ h => h.1)⟩
      · rintro e w' ⟨rfl, hst, hk⟩
        have e1 : go (node i l h) acc = go h (go l acc) ++ [node i l h] := by simp [go, hm]
        unfold VisPost
        rw [e1, pl_snoc hnew]
        refine ⟨rfl, ?_, hk⟩
        obtain ⟨ov', n', ho', hw', hm', hn', q1, q2, q3⟩ := hst
        have gh := go_good h _ ok.2.2.2.2.2 gl
        refine ⟨ov', n', ho', ?_, hm'.congr (placed_snoc hsh hin hnew), by simp; omega, q1, q2, q3⟩
        rw [enc_snoc gh (go_mono (go_in l acc)) (go_in h _), ← go_pl (t := h) (go_in l acc)] at *
        simpa [cellsOf, triC, en, go_pl (t := h) (go_in l acc)] using hw'

end Go.Proofs.YtefclohjeompkaaGreat

/- Done2: what is needed of it. -/
namespace Go.Proofs.YtefclohjeompkaaGreat
open Go Go.RowKit Go.Proofs.Gen Go.Proofs.Bdd Go.Proofs.Bdd.T
/-- What is handed back: the list that 'visit' left, and the root's place. -/
def DoneOut (w : World) (p : Int) (Q : Value → World → Prop) (e : Ending) (w' : World) : Prop :=
  ∃ sv w3, e = .returned (.agg #[sv, .int .i64 p]) ∧ Q sv w3 ∧ w' = (w3.setCell ⟨w.heap.size + 1, 0, none⟩ sv).setCell ⟨w.heap.size + 1, 1, none⟩ (.int .i64 p)

set_option maxRecDepth 100000 in
set_option maxHeartbeats 400000 in
theorem done_walk (mb : Nat) (r p : Int) (w : World) (Q : Value → World → Prop)
    (hv : ∀ w2 : World, mapIs w2 Tryz.prog 3 3 (w.heap.size + 1 + 1 + 1) 2 (put (put (fun _ _ => False) (.int .i64 0) 0) (.int .i64 1) 1) →
      Turned (w.heap.size + 1 + 1 + 1) ((((w.alloc (.cells #[.pointer (some ⟨mb, 0, none⟩)] 114)).alloc (.cells #[.slice none 0 0, .int .i64 0] 34)).alloc (.cells #[.slice none 0 0] 32)).alloc (.map #[] 0)) w2 →
      Calls Tryz.prog 105 #[.int .i64 r, .pointer (some ⟨w2.heap.size, 0, none⟩), .pointer (some ⟨w.heap.size, 0, none⟩), .pointer (some ⟨w2.heap.size + 1, 0, none⟩), .pointer (some ⟨w.heap.size + 1 + 1, 0, none⟩)]
        ((w2.alloc (.cells #[.map (some (w.heap.size + 1 + 1 + 1))] 150)).alloc
          (.cells #[.func (.func 105) #[] #[.pointer (some ⟨w2.heap.size, 0, none⟩), .pointer (some ⟨w.heap.size, 0, none⟩), .pointer (some ⟨w2.heap.size + 1, 0, none⟩), .pointer (some ⟨w.heap.size + 1 + 1, 0, none⟩)]] 151))
        fun e w3 => e = .returned (.int .i64 p) ∧ ∃ ao n cap, w3.heap[w.heap.size + 1 + 1]? = some (.cells #[.slice ao n cap] 32 (0, 0)) ∧ w3.heap[w.heap.size + 1]? = some (.cells #[.slice none 0 0, .int .i64 0] 34 (0, 0)) ∧ Q (.slice ao n cap) w3) :
    Calls Tryz.prog 83 #[.pointer (some ⟨mb, 0, none⟩), .int .i64 r] w (DoneOut w p Q) := by
  have hmm := @run_makeMap Tryz.prog
  have HV := Lib.hid hv
  clear hv
  go_enter Tryz.func83, Tryz.ntmps83
  go_wp2_with (first
    | ((with_reducible show wpList _ _ _ (⟨none, Op.insert _ _ _ (Operand.const (Value.int IntKind.i64 0)), _, _, _, _⟩ :: _) _ _); refine wpList_insert_at rfl (.tmp 9) (.const (.int .i64 0)) (.const (.int .i64 0)) rfl law3 Tryz.underlying150 Tryz.underlying3 rfl (mapIs.made_at (by simp)) (by unfold maxLen; omega) _ _ _ rfl rfl (Maps.keyOf_int_mk Tryz.underlying3 (WalkArith.wf_i64 (by omega))) (WalkArith.wf_i64 (by omega)) ?_; intro w1 hm1 ht1; have HM1 := Lib.hid hm1; have HT1 := Lib.hid ht1; clear hm1 ht1)
    | ((with_reducible show wpList _ _ _ (⟨none, Op.insert _ _ _ (Operand.const (Value.int IntKind.i64 1)), _, _, _, _⟩ :: _) _ _); refine wpList_insert_at rfl (.tmp 9) (.const (.int .i64 1)) (.const (.int .i64 1)) rfl law3 Tryz.underlying150 Tryz.underlying3 rfl HM1.out (by unfold maxLen; omega) _ _ _ rfl rfl (Maps.keyOf_int_mk Tryz.underlying3 (WalkArith.wf_i64 (by omega))) (WalkArith.wf_i64 (by omega)) ?_; intro w2 hm2 ht2; have HM2 := Lib.hid hm2; have HT2 := Lib.hid ht2; clear hm2 ht2))
  refine (HV.out w2 HM2.out (HT1.out.trans HT2.out)).mono ?_
  rintro e w3 ⟨rfl, ao, n, cap, ho, hres, hq⟩
  have o0 := cell1 (o := 0) ho rfl
  have q0 := cell1 (o := 0) hres rfl
  have q1 := cell1 (o := 1) hres rfl
  have f0 := free1 hres 0
  have f1 := free1 hres 1
  have HQ := Lib.hid hq
  clear ho hres hq
  go_wp2_with fail
  refine bodyPost_ret (v := .agg #[.slice ao n cap, .int .i64 p]) (by simp [results, Tryz.results83, go_sem, q0, q1]) rfl ⟨_, w3, rfl, HQ.out, rfl⟩

/-- THE CONTRACT OF 'done'. -/
theorem done_calls {S : Nat → Prop} {L : List T} (g : T.Good L) (hlen : L.length < 1099511627776) {t : T} (hin : In L t) (ok : t.Ok) {mb : Nat} {w : World} (hm : IsMaker w mb S L) {r : Int} (hr : r = (pl L t : Nat)) :
    Calls Tryz.prog 83 #[.pointer (some ⟨mb, 0, none⟩), .int .i64 r] w (DPost w t) := by
  obtain ⟨sv, kb, n, hmb, hown, hmap, hn, _⟩ := hm
  have hmlt : mb < w.heap.size := (Array.getElem?_eq_some_iff.1 hmb).1
  have rt := room_le t
  refine (done_walk mb r (pl (nodes t) t : Nat) w (fun v w3 => w3.ownsRow 0 84 3 v (nodes t).length (cellsOf (enc (nodes t))) ∧ Below w.heap.size w w3 ∧ w3.heap[w.heap.size + 1]? = some (.cells #[.slice none 0 0, .int .i64 0] 34 (0, 0))) fun w2 hm2 ht2 => ?_).mono ?_
  · have hs2 : w2.heap.size = w.heap.size + 4 := by rw [ht2.size]; simp
    have hb2 : ∀ k, k ≠ w.heap.size + 1 + 1 + 1 → w2.heap[k]? = ((((w.alloc (.cells #[.pointer (some ⟨mb, 0, none⟩)] 114)).alloc (.cells #[.slice none 0 0, .int .i64 0] 34)).alloc (.cells #[.slice none 0 0] 32)).alloc (.map #[] 0)).heap[k]? := ht2.block
    have hold : ∀ k, k < w.heap.size → w2.heap[k]? = w.heap[k]? := fun k hk => by
      rw [hb2 k (by omega), Below.heap_alloc _ _ _ (by simp; omega), Below.heap_alloc _ _ _ (by simp; omega), Below.heap_alloc _ _ _ (by simp; omega), Below.heap_alloc _ _ _ hk]
    have h0 : w2.heap[w.heap.size]? = some (.cells #[.pointer (some ⟨mb, 0, none⟩)] 114 (0, 0)) := by
      rw [hb2 _ (by omega), Below.heap_alloc _ _ _ (by simp; omega), Below.heap_alloc _ _ _ (by simp; omega), Below.heap_alloc _ _ _ (by simp)]
      exact heap_alloc_new w _
    have h1 : w2.heap[w.heap.size + 1]? = some (.cells #[.slice none 0 0, .int .i64 0] 34 (0, 0)) := by
      rw [hb2 _ (by omega), Below.heap_alloc _ _ _ (by simp <;> omega), Below.heap_alloc _ _ _ (by simp)]
      have := heap_alloc_new (w.alloc (.cells #[.pointer (some ⟨mb, 0, none⟩)] 114)) (.cells #[.slice none 0 0, .int .i64 0] 34)
      simpa using this
    have h2 : w2.heap[w.heap.size + 1 + 1]? = some (.cells #[.slice none 0 0] 32 (0, 0)) := by
      rw [hb2 _ (by omega), Below.heap_alloc _ _ _ (by simp)]
      have := heap_alloc_new ((w.alloc (.cells #[.pointer (some ⟨mb, 0, none⟩)] 114)).alloc (.cells #[.slice none 0 0, .int .i64 0] 34)) (.cells #[.slice none 0 0] 32)
      simpa using this
    have k2 : Kept (fun _ => False) w2 ((w2.alloc (.cells #[.map (some (w.heap.size + 1 + 1 + 1))] 150)).alloc
          (.cells #[.func (.func 105) #[] #[.pointer (some ⟨w2.heap.size, 0, none⟩), .pointer (some ⟨w.heap.size, 0, none⟩), .pointer (some ⟨w2.heap.size + 1, 0, none⟩), .pointer (some ⟨w.heap.size + 1 + 1, 0, none⟩)]] 151)) :=
      ((Kept.refl _ w2).alloc _).alloc _
    have hp : ((w2.alloc (.cells #[.map (some (w.heap.size + 1 + 1 + 1))] 150)).alloc
          (.cells #[.func (.func 105) #[] #[.pointer (some ⟨w2.heap.size, 0, none⟩), .pointer (some ⟨w.heap.size, 0, none⟩), .pointer (some ⟨w2.heap.size + 1, 0, none⟩), .pointer (some ⟨w.heap.size + 1 + 1, 0, none⟩)]] 151)).heap[w2.heap.size]? = some (.cells #[.map (some (w.heap.size + 1 + 1 + 1))] 150 (0, 0)) := by
      rw [Below.heap_alloc _ _ _ (by simp)]
      exact heap_alloc_new w2 _
    have hvv : ((w2.alloc (.cells #[.map (some (w.heap.size + 1 + 1 + 1))] 150)).alloc
          (.cells #[.func (.func 105) #[] #[.pointer (some ⟨w2.heap.size, 0, none⟩), .pointer (some ⟨w.heap.size, 0, none⟩), .pointer (some ⟨w2.heap.size + 1, 0, none⟩), .pointer (some ⟨w.heap.size + 1 + 1, 0, none⟩)]] 151)).heap[w2.heap.size + 1]? =
          some (.cells #[.func (.func 105) #[] #[.pointer (some ⟨w2.heap.size, 0, none⟩), .pointer (some ⟨w.heap.size, 0, none⟩), .pointer (some ⟨w2.heap.size + 1, 0, none⟩), .pointer (some ⟨w.heap.size + 1 + 1, 0, none⟩)]] 151 (0, 0)) := by
      have := heap_alloc_new (w2.alloc (.cells #[.map (some (w.heap.size + 1 + 1 + 1))] 150)) (.cells #[.func (.func 105) #[] #[.pointer (some ⟨w2.heap.size, 0, none⟩), .pointer (some ⟨w.heap.size, 0, none⟩), .pointer (some ⟨w2.heap.size + 1, 0, none⟩), .pointer (some ⟨w.heap.size + 1 + 1, 0, none⟩)]] 151)
      simpa using this
    have hsz : ((w2.alloc (.cells #[.map (some (w.heap.size + 1 + 1 + 1))] 150)).alloc
          (.cells #[.func (.func 105) #[] #[.pointer (some ⟨w2.heap.size, 0, none⟩), .pointer (some ⟨w.heap.size, 0, none⟩), .pointer (some ⟨w2.heap.size + 1, 0, none⟩), .pointer (some ⟨w.heap.size + 1 + 1, 0, none⟩)]] 151)).heap.size = w.heap.size + 6 := by simp; omega
    have kw : Kept (fun k => w.heap.size ≤ k) w w2 := ⟨by rw [ht2.os]; rfl, by rw [ht2.tape]; rfl, by rw [ht2.output]; rfl, by omega, fun k hk _ => hold k hk⟩
    generalize hW : ((w2.alloc (.cells #[.map (some (w.heap.size + 1 + 1 + 1))] 150)).alloc
          (.cells #[.func (.func 105) #[] #[.pointer (some ⟨w2.heap.size, 0, none⟩), .pointer (some ⟨w.heap.size, 0, none⟩), .pointer (some ⟨w2.heap.size + 1, 0, none⟩), .pointer (some ⟨w.heap.size + 1 + 1, 0, none⟩)]] 151)) = W at *
    have old : ∀ k, k < w.heap.size → W.heap[k]? = w.heap[k]? := fun k hk => (k2.block k (by omega) id).trans (hold k hk)
    have env : VisEnv W L mb kb w2.heap.size w.heap.size (w2.heap.size + 1) (w.heap.size + 1 + 1) (w.heap.size + 1 + 1 + 1) sv := by
      refine ⟨(old mb hmlt).trans hmb, ⟨hown.1, ?_⟩, hp, (k2.block _ (by omega) id).trans h0, hvv⟩
      rcases hown.2 with hh | ⟨gg, cap, cur, rfl, hb, hg, r⟩
      · exact .inl hh
      · exact .inr ⟨gg, cap, cur, rfl, hb, (old gg (Array.getElem?_eq_some_iff.1 hg).1).trans hg, r⟩
    have st : VisSt W (fun k => k = w.heap.size + 1 + 1 ∨ k = w.heap.size + 1 + 1 + 1 ∨ W.heap.size ≤ k) L [] (w.heap.size + 1 + 1) (w.heap.size + 1 + 1 + 1) := by
      refine ⟨.slice none 0 0, 2, (k2.block _ (by omega) id).trans h2, World.ownsRow_nil _ _ _ _, (hm2.kept k2 id).congr fun x u => ?_, by simp, .inl rfl, .inr (.inl rfl), fun k hk => by simp [Value.ownBlock] at hk⟩
      unfold placed put
      simp only [List.not_mem_nil, false_and, exists_false, or_false]
      constructor
      · rintro (⟨rfl, rfl⟩ | ⟨rfl, rfl⟩)
        · exact .inr ⟨by simp, .inl ⟨rfl, rfl⟩⟩
        · exact .inl ⟨rfl, rfl⟩
      · rintro (⟨rfl, rfl⟩ | ⟨_, ⟨rfl, rfl⟩ | ⟨_, h⟩⟩)
        · exact .inr ⟨rfl, rfl⟩
        · exact .inl ⟨rfl, rfl⟩
        · exact h.elim
    have hne : ∀ b, b < w.heap.size → ¬ (b = w.heap.size + 1 + 1 ∨ b = w.heap.size + 1 + 1 + 1 ∨ W.heap.size ≤ b) := fun b hb => by omega
    refine (visit_calls g hlen t _ [] W ok hin .nil (fun s hs => by cases hs) (by simp; omega) (fun k hk => .inr (.inr hk)) ⟨hne mb hmlt, by omega, by omega, by omega, fun k hk => hne k (hown.lt k hk).2⟩ env st r hr).mono ?_
    rintro e w3 ⟨rfl, ⟨ov, n3, ho, hw, hm3, hn3, r1, r2, r3⟩, hk3⟩
    obtain ⟨ao, cap, rfl⟩ := owns_form hw
    have h13 : w3.heap[w.heap.size + 1]? = some (.cells #[.slice none 0 0, .int .i64 0] 34 (0, 0)) := (hk3.block _ (by omega) (by omega)).trans ((k2.block _ (by omega) id).trans h1)
    refine ⟨rfl, ao, _, cap, ho, h13, hw, ?_, h13⟩
    exact Kept.below ((kw.trans (k2.mono fun _ _ h => h.elim)).trans (hk3.mono fun k _ h => by omega)) (Nat.le_refl _)
  · rintro e w' ⟨v, w3, rfl, ⟨hw, hbl, hres⟩, rfl⟩
    have hne := owns_ne hw hres (by decide : (84 : Nat) ≠ 34)
    refine ⟨_, rfl, ⟨ok, v, rfl, ?_⟩, (hbl.setCell (by show w.heap.size ≤ w.heap.size + 1; omega) _).setCell (by show w.heap.size ≤ w.heap.size + 1; omega) _⟩
    exact ownsRow_setCell_other (ownsRow_setCell_other hw hne _) hne _

end Go.Proofs.YtefclohjeompkaaGreat

/- JoinA: what is needed of it. -/
namespace Go.Proofs.YtefclohjeompkaaGreat
open Go Go.RowKit Go.Proofs.Gen Go.Proofs.Bdd Go.Proofs.Bdd.T
set_option maxHeartbeats 400000 in
theorem maker_new (w : World) : Calls Tryz.prog 82 #[] w fun e w' => e = .returned (.pointer (some ⟨w.heap.size + 1, 0, none⟩)) ∧
    w' = (w.alloc (.map #[] 0)).alloc (.cells #[.slice none 0 0, .map (some w.heap.size)] 149) := by
  have hmm := @run_makeMap Tryz.prog
  go_enter Tryz.func82, Tryz.ntmps82
  go_wp2
  go_ret
  exact ⟨rfl, rfl⟩

set_option maxHeartbeats 400000 in
theorem at_leaf (asv : Value) (ra : Int) (x : Nat) (hx : (x : Int) < 2) (w : World) :
    Calls Tryz.prog 106 #[.agg #[asv, .int .i64 ra], .int .i64 x] w fun e w' => e = .returned (.agg #[.int .i64 24, .int .i64 x, .int .i64 x]) ∧ w' = (w.alloc (.cells #[asv, .int .i64 ra] 34)).alloc (.cells #[.int .i64 24, .int .i64 x, .int .i64 x] 84) := by
  go_enter Tryz.func106, Tryz.ntmps106
  go_wp2
  exact bodyPost_ret (v := .agg #[.int .i64 24, .int .i64 x, .int .i64 x]) (by simp [results, Tryz.results106, go_sem]) rfl ⟨rfl, rfl⟩

set_option maxHeartbeats 400000 in
theorem at_node (g n cap : Nat) (ra : Int) (x : Nat) (t : Tri) (hx : 2 ≤ x) (hn : x < n + 2) (hm : n < 1099511627776) (w : World)
    (x0 : w.cell? ⟨g, (x - 2) * 3, none⟩ = some (.int .i64 t.v)) (x1 : w.cell? ⟨g, (x - 2) * 3 + 1, none⟩ = some (.int .i64 t.lo)) (x2 : w.cell? ⟨g, (x - 2) * 3 + 2, none⟩ = some (.int .i64 t.hi)) :
    Calls Tryz.prog 106 #[.agg #[.slice (some ⟨g, 0, none⟩) n cap, .int .i64 ra], .int .i64 x] w fun e w' => e = .returned (triV t) ∧ w' = (w.alloc (.cells #[.slice (some ⟨g, 0, none⟩) n cap, .int .i64 ra] 34)).alloc (.cells #[.int .i64 t.v, .int .i64 t.lo, .int .i64 t.hi] 84) := by
  have hg := World.block_lt_of_cell? w ⟨g, _, none⟩ x0
  have hx' : ¬ (x : Int) < 2 := by omega
  go_enter Tryz.func106, Tryz.ntmps106
  go_wp2
  exact bodyPost_ret (v := triV t) (by simp [results, Tryz.results106, go_sem, triV]) rfl ⟨rfl, rfl⟩

/-- A shortcut's answer. -/
def OpPost (o : Option Bool) (w : World) (e : Ending) (w' : World) : Prop :=
  w = w' ∧ match o with
    | some b => e = .returned (.tuple #[.int .i64 (b.toNat : Nat), .bool true])
    | none => ∃ r, e = .returned (.tuple #[.int .i64 r, .bool false])

def scBoth (x y : Nat) : Option Bool := if x = 0 ∨ y = 0 then some false else if x = 1 ∧ y = 1 then some true else none

def scEither (x y : Nat) : Option Bool := if x = 1 ∨ y = 1 then some true else if x = 0 ∧ y = 0 then some false else none

def scOdd (x y : Nat) : Option Bool := if x < 2 ∧ y < 2 then some (x != y) else none

theorem few (x : Nat) : x = 0 ∨ x = 1 ∨ ∃ k, x = k + 2 := by
  match x with
  | 0 => exact .inl rfl
  | 1 => exact .inr (.inl rfl)
  | k + 2 => exact .inr (.inr ⟨k, rfl⟩)

set_option maxRecDepth 100000 in
set_option maxHeartbeats 800000 in
theorem both_calls (x y : Nat) (w : World) : Calls Tryz.prog 44 #[.int .i64 x, .int .i64 y] w (OpPost (scBoth x y) w) := by
  have n0 : ∀ k : Nat, (((k : Int) + 2) == 0) = false := fun k => by rw [beq_eq_false_iff_ne]; omega
  have n1 : ∀ k : Nat, (((k : Int) + 2) == 1) = false := fun k => by rw [beq_eq_false_iff_ne]; omega
  have n2 : ∀ k : Nat, decide (((k : Int) + 2) < 2) = false := fun k => decide_eq_false (by omega)
  rcases few x with rfl | rfl | ⟨k, rfl⟩ <;> rcases few y with rfl | rfl | ⟨j, rfl⟩
  all_goals
    generalize hs : scBoth _ _ = o
    simp [scBoth] at hs
    subst hs
    try simp only [Int.natCast_add]
    try simp only [Int.natCast_zero]
    try simp only [Int.natCast_one]
    try simp only [Int.cast_ofNat_Int]
    go_enter Tryz.func44, Tryz.ntmps44
    go_wp2
    all_goals
      go_ret2
      first
        | exact ⟨rfl, rfl⟩
        | exact ⟨rfl, _, rfl⟩

set_option maxRecDepth 100000 in
set_option maxHeartbeats 800000 in
theorem either_calls (x y : Nat) (w : World) : Calls Tryz.prog 45 #[.int .i64 x, .int .i64 y] w (OpPost (scEither x y) w) := by
  have n0 : ∀ k : Nat, (((k : Int) + 2) == 0) = false := fun k => by rw [beq_eq_false_iff_ne]; omega
  have n1 : ∀ k : Nat, (((k : Int) + 2) == 1) = false := fun k => by rw [beq_eq_false_iff_ne]; omega
  have n2 : ∀ k : Nat, decide (((k : Int) + 2) < 2) = false := fun k => decide_eq_false (by omega)
  rcases few x with rfl | rfl | ⟨k, rfl⟩ <;> rcases few y with rfl | rfl | ⟨j, rfl⟩
  all_goals
    generalize hs : scEither _ _ = o
    simp [scEither] at hs
    subst hs
    try simp only [Int.natCast_add]
    try simp only [Int.natCast_zero]
    try simp only [Int.natCast_one]
    try simp only [Int.cast_ofNat_Int]
    go_enter Tryz.func45, Tryz.ntmps45
    go_wp2
    all_goals
      go_ret2
      first
        | exact ⟨rfl, rfl⟩
        | exact ⟨rfl, _, rfl⟩

set_option maxRecDepth 100000 in
set_option maxHeartbeats 800000 in
theorem odd_calls (x y : Nat) (w : World) : Calls Tryz.prog 48 #[.int .i64 x, .int .i64 y] w (OpPost (scOdd x y) w) := by
  have n0 : ∀ k : Nat, (((k : Int) + 2) == 0) = false := fun k => by rw [beq_eq_false_iff_ne]; omega
  have n1 : ∀ k : Nat, (((k : Int) + 2) == 1) = false := fun k => by rw [beq_eq_false_iff_ne]; omega
  have n2 : ∀ k : Nat, decide (((k : Int) + 2) < 2) = false := fun k => decide_eq_false (by omega)
  rcases few x with rfl | rfl | ⟨k, rfl⟩ <;> rcases few y with rfl | rfl | ⟨j, rfl⟩
  all_goals
    generalize hs : scOdd _ _ = o
    simp [scOdd] at hs
    subst hs
    try simp only [Int.natCast_add]
    try simp only [Int.natCast_zero]
    try simp only [Int.natCast_one]
    try simp only [Int.cast_ofNat_Int]
    go_enter Tryz.func48, Tryz.ntmps48
    go_wp2
    all_goals
      go_ret2
      first
        | exact ⟨rfl, rfl⟩
        | exact ⟨rfl, _, rfl⟩

/-- A node as 'at' tells it: of the empty and the full set, one behind all features. -/
def atT (L : List T) : T → Tri
  | .leaf b => ⟨24, b.toNat, b.toNat⟩
  | .node i l h => ⟨i, pl L l, pl L h⟩

theorem pl_leaf (L : List T) (b : Bool) : pl L (leaf b) = b.toNat := by cases b <;> rfl

/-- THE CONTRACT OF 'at'. -/
theorem at_calls {L : List T} {v : Value} (hlen : L.length < 1099511627776) {w : World} (hr : w.ownsRow 0 84 3 v L.length (cellsOf (enc L))) {t : T} (hin : In L t) (ra : Int) {x : Int} (hx : x = (pl L t : Nat)) :
    Calls Tryz.prog 106 #[.agg #[v, .int .i64 ra], .int .i64 x] w fun e w' => e = .returned (triV (atT L t)) ∧ w' = (w.alloc (.cells #[v, .int .i64 ra] 34)).alloc (.cells #[.int .i64 (atT L t).v, .int .i64 (atT L t).lo, .int .i64 (atT L t).hi] 84) := by
  subst hx
  cases t with
  | leaf b =>
    refine (at_leaf v ra (pl L (leaf b)) (by rw [pl_leaf]; cases b <;> decide) w).mono ?_
    rintro e w' ⟨rfl, rfl⟩
    rw [pl_leaf]
    exact ⟨rfl, rfl⟩
  | node i l h =>
    have hge : (enc L)[pl L (node i l h) - 2]? = some (en L (node i l h)) := by simp [enc, pl_get (L := L) (i := i) (l := l) (h := h) hin]
    have hle : (enc L).length = L.length := by simp [enc]
    obtain ⟨g, cap, rfl, x0, x1, x2⟩ := tri_cells (by rw [hle]; exact hr) hge
    rw [hle]
    exact at_node g L.length cap ra (pl L (node i l h)) (en L (node i l h)) (pl_node i l h) (pl_lt hin) hlen w x0 x1 x2

end Go.Proofs.YtefclohjeompkaaGreat

/- JoinW: what is needed of it. -/
namespace Go.Proofs.YtefclohjeompkaaGreat
open Go Go.RowKit Go.Proofs.Gen Go.Proofs.Bdd Go.Proofs.Bdd.T
/-- w' is w with new blocks and draws. -/
def Near (w w' : World) : Prop := Kept (fun _ => False) w w'

theorem Near.refl (w : World) : Near w w := Kept.refl _ _

theorem Near.trans {a b c : World} (h : Near a b) (k : Near b c) : Near a c := Kept.trans h k

theorem Near.drew {a b : World} (h : Near a b) : Near a b.drew := Kept.drew h

theorem Near.drewN {a b : World} (h : Near a b) (n : Nat) : Near a (b.drewN n) := Kept.drewN h n

theorem Near.alloc {a b : World} (h : Near a b) (o : Obj) : Near a (b.alloc o) := Kept.alloc h o

theorem Near.of_below {a b : World} (h : Below a.heap.size a b) : Near a b := ⟨h.os, h.tape, h.output, h.size, fun k hk _ => h.block k hk⟩

theorem Near.below {a b : World} (h : Near a b) : Below a.heap.size a b := ⟨h.os, h.tape, h.output, h.size, fun k hk => h.block k hk id⟩

theorem Near.kept {S : Nat → Prop} {a b : World} (h : Near a b) : Kept S a b := Kept.mono h (fun _ _ f => f.elim)

theorem Near.cell {a b : World} (h : Near a b) {k o : Nat} {v : Value} (hc : a.cell? ⟨k, o, none⟩ = some v) : b.cell? ⟨k, o, none⟩ = some v := Kept.cell h hc id

theorem Near.set {a b : World} (h : Near a b) {p : Addr} (hp : a.heap.size ≤ p.block) (u : Value) : Near a (b.setCell p u) := Kept.setCell h (fun hlt => by omega) u

/-- A call that hands back an int. -/
def RetI (f : FuncId) (args : Array Value) (w : World) (C : Int → World → Prop) : Prop :=
  Calls Tryz.prog f args w fun e w' => ∃ r : Int, e = .returned (.int .i64 r) ∧ C r w'

/-- R, but for the blocks that were laid between w and w1. -/
def Loc (R : Nat → Prop) (w w1 : World) (k : Nat) : Prop := R k ∧ ¬ (w.heap.size ≤ k ∧ k < w1.heap.size)

/-- What 'join' leaves on its long way. -/
def JOut (sk : Nat) (key : Value) (Fin : Int → Nat → (Value → Int → Prop) → World → Prop) (e : Ending) (w' : World) : Prop :=
  ∃ r n M w7, e = .returned (.int .i64 r) ∧ Fin r n M w7 ∧ mapIs w' Tryz.prog 152 3 sk (n + 1) (put M key r) ∧ Turned sk w7 w'

/-- What stands in the two nodes. -/
def TwoNodes (w : World) (v1 l1 h1 v2 l2 h2 : Int) (s14 s15 : Value) (wx : World) : Prop :=
  ∃ g1 g2, s14 = .pointer (some ⟨g1, 0, none⟩) ∧ s15 = .pointer (some ⟨g2, 0, none⟩) ∧ g1 ≠ g2 ∧ w.heap.size ≤ g1 ∧ w.heap.size ≤ g2 ∧
    wx.heap[g1]? = some (.cells #[.int .i64 v1, .int .i64 l1, .int .i64 h1] 84 (0, 0)) ∧ wx.heap[g2]? = some (.cells #[.int .i64 v2, .int .i64 l2, .int .i64 h2] 84 (0, 0)) ∧ Near w wx

set_option maxRecDepth 100000 in
set_option maxHeartbeats 1000000 in
theorem join_walk (F : Nat) (R : Nat → Prop) (pb mb sk n : Nat) (asv bsv : Value) (ra rb : Int) (x y : Nat) (kl : Lit) (v1 l1 h1 v2 l2 h2 p0 p1 q0 q1 i : Int) (M : Value → Int → Prop) (w : World)
    (Fin : Int → Nat → (Value → Int → Prop) → World → Prop)
    (hpb : w.heap[pb]? = some (.cells #[.pointer (some ⟨mb, 0, none⟩), asv, .int .i64 ra, bsv, .int .i64 rb, .map (some sk)] 118 (0, 0)))
    (hcf : ∀ args w', (callFunc F args).run Tryz.prog w' = .ok (.enter F args) w')
    (hop : ∀ w', Calls Tryz.prog F #[.int .i64 x, .int .i64 y] w' (OpPost none w'))
    (hmap : mapIs w Tryz.prog 152 3 sk n M) (hM : ∀ u, ¬ M (.agg #[.int .i64 x, .int .i64 y]) u) (hkey : keyOf Tryz.prog 152 (.agg #[.int .i64 x, .int .i64 y]) = some kl)
    (ha : ∀ w', Near w w' → Calls Tryz.prog 106 #[.agg #[asv, .int .i64 ra], .int .i64 x] w' fun e w'' => e = .returned (.agg #[.int .i64 v1, .int .i64 l1, .int .i64 h1]) ∧ w'' = (w'.alloc (.cells #[asv, .int .i64 ra] 34)).alloc (.cells #[.int .i64 v1, .int .i64 l1, .int .i64 h1] 84))
    (hb : ∀ w', Near w w' → Calls Tryz.prog 106 #[.agg #[bsv, .int .i64 rb], .int .i64 y] w' fun e w'' => e = .returned (.agg #[.int .i64 v2, .int .i64 l2, .int .i64 h2]) ∧ w'' = (w'.alloc (.cells #[bsv, .int .i64 rb] 34)).alloc (.cells #[.int .i64 v2, .int .i64 l2, .int .i64 h2] 84))
    (hR : ¬ R pb)
    (hcase : (v1 < v2 ∧ i = v1 ∧ p0 = l1 ∧ q0 = h1 ∧ p1 = y ∧ q1 = y) ∨ (v1 = v2 ∧ i = v1 ∧ p0 = l1 ∧ q0 = h1 ∧ p1 = l2 ∧ q1 = h2) ∨ (v2 < v1 ∧ i = v2 ∧ p0 = x ∧ q0 = x ∧ p1 = l2 ∧ q1 = h2))
    (H : ∀ w1, Near w w1 → RetI 84 #[.pointer (some ⟨pb, 0, none⟩), .int .i64 p0, .int .i64 p1, .func (.func F) #[] #[]] w1 fun r0 w2 => Kept (Loc R w w1) w1 w2 ∧
      ∀ w3, Near w2 w3 → RetI 84 #[.pointer (some ⟨pb, 0, none⟩), .int .i64 q0, .int .i64 q1, .func (.func F) #[] #[]] w3 fun r1 w4 => Kept (Loc R w w1) w3 w4 ∧
      ∀ w5, Near w4 w5 → RetI 85 #[.pointer (some ⟨mb, 0, none⟩), .int .i64 i, .int .i64 r0, .int .i64 r1] w5 fun r w6 => Kept (Loc R w w1) w5 w6 ∧ (Lit.int .i64 r).wf = true ∧
      ∃ n M, n < 1099511627776 ∧ mapIs w6 Tryz.prog 152 3 sk n M ∧ ∀ w7, Near w6 w7 → Fin r n M w7) :
    Calls Tryz.prog 84 #[.pointer (some ⟨pb, 0, none⟩), .int .i64 x, .int .i64 y, .func (.func F) #[] #[]] w (JOut sk (.agg #[.int .i64 x, .int .i64 y]) Fin) := by
  have c0 : w.cell? ⟨pb, 0, none⟩ = some (.pointer (some ⟨mb, 0, none⟩)) := cell1 hpb rfl
  have c1 : w.cell? ⟨pb, 1, none⟩ = some (asv) := cell1 hpb rfl
  have c2 : w.cell? ⟨pb, 2, none⟩ = some (.int .i64 ra) := cell1 hpb rfl
  have c3 : w.cell? ⟨pb, 3, none⟩ = some (bsv) := cell1 hpb rfl
  have c4 : w.cell? ⟨pb, 4, none⟩ = some (.int .i64 rb) := cell1 hpb rfl
  have c5 : w.cell? ⟨pb, 5, none⟩ = some (.map (some sk)) := cell1 hpb rfl
  have hlt := World.block_lt_of_cell? w ⟨pb, 0, none⟩ c0
  have hskl := hmap.lt
  have hr : ∀ (m : Nat), (Instr.lookup 116 (.map (some sk)) (.agg #[.int .i64 x, .int .i64 y]) true).run Tryz.prog ((w.alloc (.cells #[.int .i64 x, .int .i64 y] 152)).drewN m) = .ok (.tuple #[.int .i64 0, .bool false]) ((w.alloc (.cells #[.int .i64 x, .int .i64 y] 152)).drewN m) :=
    fun m => mapIs.miss (((hmap.of_block (w' := w.alloc (.cells #[.int .i64 x, .int .i64 y] 152)) (Below.heap_alloc w _ sk hskl)).drewN m)) law190 Tryz.underlying116 Tryz.underlying3 (zero3 _) hkey hM
  have HP := Lib.hid hpb
  have HOP := Lib.hid hop
  have HA := Lib.hid ha
  have HB := Lib.hid hb
  have HH := Lib.hid H
  have HC := Lib.hid hcase
  have HMap := Lib.hid hmap
  clear hpb hop ha hb H hcase hmap
  go_enter Tryz.func84, Tryz.ntmps84
  go_wp2_with fail
  refine (HOP.out _).mono ?_
  rintro e w' ⟨rfl, r, rfl⟩
  go_wp2_with fail
  go_quiet (fail)
  go_upto_region 8 with fail
  have sOf : ∀ w', Near w w' → w'.cell? ⟨pb, 1, none⟩ = some asv ∧ w'.cell? ⟨pb, 2, none⟩ = some (.int .i64 ra) ∧ w'.cell? ⟨pb, 3, none⟩ = some bsv ∧ w'.cell? ⟨pb, 4, none⟩ = some (.int .i64 rb) ∧ Near w w' :=
    fun w' h => ⟨h.cell c1, h.cell c2, h.cell c3, h.cell c4, h⟩
  go_cut [14, 15] (fun s14 s15 wx => TwoNodes (w.alloc (.cells #[.int .i64 x, .int .i64 y] 152)) v1 l1 h1 v2 l2 h2 s14 s15 wx)
  case first =>
    go_region_held3 (fun w' => w'.cell? ⟨pb, 1, none⟩ = some asv ∧ w'.cell? ⟨pb, 2, none⟩ = some (.int .i64 ra) ∧ w'.cell? ⟨pb, 3, none⟩ = some bsv ∧ w'.cell? ⟨pb, 4, none⟩ = some (.int .i64 rb) ∧ Near w w')
      ((refine sOf _ ?_; repeat (first | exact Near.refl _ | refine Near.drew ?_ | refine Near.alloc ?_ _ | refine Near.drewN ?_ _)))
      (first
        | (go_at_call_of 106 (Value.agg #[asv, Value.int IntKind.i64 ra]); refine (HA.out _ (‹_ ∧ _ ∧ _ ∧ _ ∧ Near w _›).2.2.2.2).mono ?_; rintro e w' ⟨rfl, rfl⟩)
        | (go_at_call_of 106 (Value.agg #[bsv, Value.int IntKind.i64 rb]); refine (HB.out _ (‹_ ∧ _ ∧ _ ∧ _ ∧ Near w _›).2.2.2.2).mono ?_; rintro e w' ⟨rfl, rfl⟩))
    all_goals
      go_wp2_with fail
      go_meet
      refine ⟨_, _, rfl, rfl, ?_, ?_, ?_, ?_, ?_, ?_⟩
      · first | omega | (simp; done)
      · simp <;> omega
      · simp <;> omega
      · repeat (first | (refine heap_new_at ?_; (simp; done)) | rw [heap_at_drewN] | refine (heap_old_at (by simp <;> omega)).trans ?_)
      · repeat (first | (refine heap_new_at ?_; (simp; done)) | rw [heap_at_drewN] | refine (heap_old_at (by simp <;> omega)).trans ?_)
      · repeat (first | exact Near.refl _ | refine Near.drew ?_ | refine Near.alloc ?_ _ | refine Near.drewN ?_ _)
  case rest =>
    obtain ⟨g1, g2, rfl, rfl, hg12, hg1, hg2, hh1, hh2, hn⟩ := hcut
    have hnW : Near w wc := Near.trans ((Near.refl w).alloc _) hn
    have k0 : wc.cell? ⟨w.heap.size, 0, none⟩ = some (.int .i64 x) := hn.cell (by simp)
    have k1 : wc.cell? ⟨w.heap.size, 1, none⟩ = some (.int .i64 y) := hn.cell (by simp)
    have d0 : wc.cell? ⟨g1, 0, none⟩ = some (.int .i64 v1) := cell1 hh1 rfl
    have d1 : wc.cell? ⟨g1, 1, none⟩ = some (.int .i64 l1) := cell1 hh1 rfl
    have d2 : wc.cell? ⟨g1, 2, none⟩ = some (.int .i64 h1) := cell1 hh1 rfl
    have e0 : wc.cell? ⟨g2, 0, none⟩ = some (.int .i64 v2) := cell1 hh2 rfl
    have e1 : wc.cell? ⟨g2, 1, none⟩ = some (.int .i64 l2) := cell1 hh2 rfl
    have e2 : wc.cell? ⟨g2, 2, none⟩ = some (.int .i64 h2) := cell1 hh2 rfl
    have gl1 : g1 < wc.heap.size := World.block_lt_of_cell? wc ⟨g1, 0, none⟩ d0
    have gl2 : g2 < wc.heap.size := World.block_lt_of_cell? wc ⟨g2, 0, none⟩ e0
    have c0' := c0
    have c5' := c5
    clear c0 c1 c2 c3 c4 c5 hh1 hh2 sOf hr
    have hC := HC.out
    clear HC
    rcases hC with ⟨hv, rfl, rfl, rfl, rfl, rfl⟩ | ⟨rfl, rfl, rfl, rfl, rfl, rfl⟩ | ⟨hv, rfl, rfl, rfl, rfl, rfl⟩
    · go_upto_region 15 with fail
      go_region
      all_goals (go_upto_region 15 with fail)
      go_wp2_with fail
      have hNW : Near w (((wc.alloc (.cells #[.int .i64 p0, .int .i64 y] 152)).alloc (.cells #[.int .i64 q0, .int .i64 y] 152)).drew) := by repeat (first | exact hnW | refine Near.drew ?_ | refine Near.alloc ?_ _)
      have t0 : (((wc.alloc (.cells #[.int .i64 p0, .int .i64 y] 152)).alloc (.cells #[.int .i64 q0, .int .i64 y] 152)).drew).cell? ⟨wc.heap.size + 1, 0, none⟩ = some (.int .i64 q0) := by simp
      have t1 : (((wc.alloc (.cells #[.int .i64 p0, .int .i64 y] 152)).alloc (.cells #[.int .i64 q0, .int .i64 y] 152)).drew).cell? ⟨wc.heap.size + 1, 1, none⟩ = some (.int .i64 y) := by simp
      have m0 : (((wc.alloc (.cells #[.int .i64 p0, .int .i64 y] 152)).alloc (.cells #[.int .i64 q0, .int .i64 y] 152)).drew).cell? ⟨w.heap.size, 0, none⟩ = some (.int .i64 x) := Near.cell (by repeat (first | exact Near.refl _ | refine Near.drew ?_ | refine Near.alloc ?_ _)) k0
      have m1 : (((wc.alloc (.cells #[.int .i64 p0, .int .i64 y] 152)).alloc (.cells #[.int .i64 q0, .int .i64 y] 152)).drew).cell? ⟨w.heap.size, 1, none⟩ = some (.int .i64 y) := Near.cell (by repeat (first | exact Near.refl _ | refine Near.drew ?_ | refine Near.alloc ?_ _)) k1
      have hsz : wc.heap.size + 1 < (((wc.alloc (.cells #[.int .i64 p0, .int .i64 y] 152)).alloc (.cells #[.int .i64 q0, .int .i64 y] 152)).drew).heap.size := by simp
      generalize ((wc.alloc (.cells #[.int .i64 p0, .int .i64 y] 152)).alloc (.cells #[.int .i64 q0, .int .i64 y] 152)).drew = W1 at hNW t0 t1 m0 m1 hsz ⊢
      refine (HH.out W1 hNW).mono ?_
      rintro e w2 ⟨r0, rfl, hk1, hc2⟩
      have HC2 := Lib.hid hc2
      clear hc2
      have keep : ∀ wa wb, Kept (Loc R w W1) wa wb → (∀ b o v, wa.cell? ⟨b, o, none⟩ = some v → ¬ Loc R w W1 b → wb.cell? ⟨b, o, none⟩ = some v) := fun wa wb h b o v hc hn => h.cell hc hn
      have lk : ¬ Loc R w W1 w.heap.size := fun h => h.2 ⟨Nat.le_refl _, by have := hn.size; simp at this; omega⟩
      have lt : ¬ Loc R w W1 (wc.heap.size + 1) := fun h => h.2 ⟨by have := hn.size; simp at this; omega, hsz⟩
      have lp : ¬ Loc R w W1 pb := fun h => hR h.1
      have sOf : ∀ wa wb, Kept (Loc R w W1) wa wb → (wa.cell? ⟨pb, 0, none⟩ = some (.pointer (some ⟨mb, 0, none⟩)) ∧ wa.cell? ⟨pb, 5, none⟩ = some (.map (some sk)) ∧ wa.cell? ⟨wc.heap.size + 1, 0, none⟩ = some (.int .i64 q0) ∧ wa.cell? ⟨wc.heap.size + 1, 1, none⟩ = some (.int .i64 y) ∧ wa.cell? ⟨w.heap.size, 0, none⟩ = some (.int .i64 x) ∧ wa.cell? ⟨w.heap.size, 1, none⟩ = some (.int .i64 y)) →
          (wb.cell? ⟨pb, 0, none⟩ = some (.pointer (some ⟨mb, 0, none⟩)) ∧ wb.cell? ⟨pb, 5, none⟩ = some (.map (some sk)) ∧ wb.cell? ⟨wc.heap.size + 1, 0, none⟩ = some (.int .i64 q0) ∧ wb.cell? ⟨wc.heap.size + 1, 1, none⟩ = some (.int .i64 y) ∧ wb.cell? ⟨w.heap.size, 0, none⟩ = some (.int .i64 x) ∧ wb.cell? ⟨w.heap.size, 1, none⟩ = some (.int .i64 y)) :=
        fun wa wb h ⟨a1, a2, a3, a4, a5, a6⟩ => ⟨h.cell a1 lp, h.cell a2 lp, h.cell a3 lt, h.cell a4 lt, h.cell a5 lk, h.cell a6 lk⟩
      have s2 := sOf _ _ hk1 ⟨hNW.cell c0', hNW.cell c5', t0, t1, m0, m1⟩
      clear t0 t1 m0 m1 keep
      go_upto_region 16 with fail
      go_region_held3 (fun w' => w'.cell? ⟨pb, 0, none⟩ = some (.pointer (some ⟨mb, 0, none⟩)) ∧ w'.cell? ⟨pb, 5, none⟩ = some (.map (some sk)) ∧ w'.cell? ⟨wc.heap.size + 1, 0, none⟩ = some (.int .i64 q0) ∧ w'.cell? ⟨wc.heap.size + 1, 1, none⟩ = some (.int .i64 y) ∧ w'.cell? ⟨w.heap.size, 0, none⟩ = some (.int .i64 x) ∧ w'.cell? ⟨w.heap.size, 1, none⟩ = some (.int .i64 y))
        (first
          | exact s2
          | exact sOf _ _ hk3 ‹_ ∧ _ ∧ _ ∧ _ ∧ _ ∧ _›
          | exact sOf _ _ hk5 ‹_ ∧ _ ∧ _ ∧ _ ∧ _ ∧ _›)
        (first
          | (go_at_call 84; refine (HC2.out _ (Near.drew (Near.refl _))).mono ?_; rintro e w4 ⟨r1, rfl, hk3, hc4⟩; have HC4 := Lib.hid hc4; clear hc4)
          | (go_at_call 85; refine (HC4.out _ (Near.refl _)).mono ?_; rintro e w6 ⟨r, rfl, hk5, hwf, n6, M6, hn6, hm6, hfin⟩; have HF := Lib.hid hfin; have HM6 := Lib.hid hm6; have HN6 := Lib.hid hn6; have HWF := Lib.hid hwf; clear hm6 hfin hn6 hwf))
      obtain ⟨z0, z5, _, _, z8, z9⟩ : w6.cell? ⟨pb, 0, none⟩ = some (.pointer (some ⟨mb, 0, none⟩)) ∧ w6.cell? ⟨pb, 5, none⟩ = some (.map (some sk)) ∧ w6.cell? ⟨wc.heap.size + 1, 0, none⟩ = some (.int .i64 q0) ∧ w6.cell? ⟨wc.heap.size + 1, 1, none⟩ = some (.int .i64 y) ∧ w6.cell? ⟨w.heap.size, 0, none⟩ = some (.int .i64 x) ∧ w6.cell? ⟨w.heap.size, 1, none⟩ = some (.int .i64 y) := by assumption
      go_wp2_with fail
      go_still_tail 6, (by kernel_rfl)
      change wpList _ _ _ _ _ w6.drew
      refine wpList_mapUpdate_at rfl (.tmp 111) (.tmp 112) (.tmp 113) rfl law190 Tryz.underlying116 Tryz.underlying3 rfl (HM6.out.drewN 1) (by unfold maxLen; have := HN6.out; omega) _ _ kl rfl rfl hkey HWF.out ?_
      intro w8 hm8 ht8
      go_wp2_with fail
      go_ret
      exact ⟨r, n6, M6, w6.drew, rfl, HF.out _ (Near.refl _).drew, hm8, ht8⟩
    · go_upto_region 15 with fail
      go_region
      all_goals (go_upto_region 15 with fail)
      all_goals go_region
      all_goals (go_upto_region 15 with fail)
      go_wp2_with fail
      have hNW : Near w (((wc.alloc (.cells #[.int .i64 p0, .int .i64 p1] 152)).alloc (.cells #[.int .i64 q0, .int .i64 q1] 152)).drew.drew) := by repeat (first | exact hnW | refine Near.drew ?_ | refine Near.alloc ?_ _)
      have t0 : (((wc.alloc (.cells #[.int .i64 p0, .int .i64 p1] 152)).alloc (.cells #[.int .i64 q0, .int .i64 q1] 152)).drew.drew).cell? ⟨wc.heap.size + 1, 0, none⟩ = some (.int .i64 q0) := by simp
      have t1 : (((wc.alloc (.cells #[.int .i64 p0, .int .i64 p1] 152)).alloc (.cells #[.int .i64 q0, .int .i64 q1] 152)).drew.drew).cell? ⟨wc.heap.size + 1, 1, none⟩ = some (.int .i64 q1) := by simp
      have m0 : (((wc.alloc (.cells #[.int .i64 p0, .int .i64 p1] 152)).alloc (.cells #[.int .i64 q0, .int .i64 q1] 152)).drew.drew).cell? ⟨w.heap.size, 0, none⟩ = some (.int .i64 x) := Near.cell (by repeat (first | exact Near.refl _ | refine Near.drew ?_ | refine Near.alloc ?_ _)) k0
      have m1 : (((wc.alloc (.cells #[.int .i64 p0, .int .i64 p1] 152)).alloc (.cells #[.int .i64 q0, .int .i64 q1] 152)).drew.drew).cell? ⟨w.heap.size, 1, none⟩ = some (.int .i64 y) := Near.cell (by repeat (first | exact Near.refl _ | refine Near.drew ?_ | refine Near.alloc ?_ _)) k1
      have hsz : wc.heap.size + 1 < (((wc.alloc (.cells #[.int .i64 p0, .int .i64 p1] 152)).alloc (.cells #[.int .i64 q0, .int .i64 q1] 152)).drew.drew).heap.size := by simp
      generalize ((wc.alloc (.cells #[.int .i64 p0, .int .i64 p1] 152)).alloc (.cells #[.int .i64 q0, .int .i64 q1] 152)).drew.drew = W1 at hNW t0 t1 m0 m1 hsz ⊢
      refine (HH.out W1 hNW).mono ?_
      rintro e w2 ⟨r0, rfl, hk1, hc2⟩
      have HC2 := Lib.hid hc2
      clear hc2
      have keep : ∀ wa wb, Kept (Loc R w W1) wa wb → (∀ b o v, wa.cell? ⟨b, o, none⟩ = some v → ¬ Loc R w W1 b → wb.cell? ⟨b, o, none⟩ = some v) := fun wa wb h b o v hc hn => h.cell hc hn
      have lk : ¬ Loc R w W1 w.heap.size := fun h => h.2 ⟨Nat.le_refl _, by have := hn.size; simp at this; omega⟩
      have lt : ¬ Loc R w W1 (wc.heap.size + 1) := fun h => h.2 ⟨by have := hn.size; simp at this; omega, hsz⟩
      have lp : ¬ Loc R w W1 pb := fun h => hR h.1
      have sOf : ∀ wa wb, Kept (Loc R w W1) wa wb → (wa.cell? ⟨pb, 0, none⟩ = some (.pointer (some ⟨mb, 0, none⟩)) ∧ wa.cell? ⟨pb, 5, none⟩ = some (.map (some sk)) ∧ wa.cell? ⟨wc.heap.size + 1, 0, none⟩ = some (.int .i64 q0) ∧ wa.cell? ⟨wc.heap.size + 1, 1, none⟩ = some (.int .i64 q1) ∧ wa.cell? ⟨w.heap.size, 0, none⟩ = some (.int .i64 x) ∧ wa.cell? ⟨w.heap.size, 1, none⟩ = some (.int .i64 y)) →
          (wb.cell? ⟨pb, 0, none⟩ = some (.pointer (some ⟨mb, 0, none⟩)) ∧ wb.cell? ⟨pb, 5, none⟩ = some (.map (some sk)) ∧ wb.cell? ⟨wc.heap.size + 1, 0, none⟩ = some (.int .i64 q0) ∧ wb.cell? ⟨wc.heap.size + 1, 1, none⟩ = some (.int .i64 q1) ∧ wb.cell? ⟨w.heap.size, 0, none⟩ = some (.int .i64 x) ∧ wb.cell? ⟨w.heap.size, 1, none⟩ = some (.int .i64 y)) :=
        fun wa wb h ⟨a1, a2, a3, a4, a5, a6⟩ => ⟨h.cell a1 lp, h.cell a2 lp, h.cell a3 lt, h.cell a4 lt, h.cell a5 lk, h.cell a6 lk⟩
      have s2 := sOf _ _ hk1 ⟨hNW.cell c0', hNW.cell c5', t0, t1, m0, m1⟩
      clear t0 t1 m0 m1 keep
      go_upto_region 16 with fail
      go_region_held3 (fun w' => w'.cell? ⟨pb, 0, none⟩ = some (.pointer (some ⟨mb, 0, none⟩)) ∧ w'.cell? ⟨pb, 5, none⟩ = some (.map (some sk)) ∧ w'.cell? ⟨wc.heap.size + 1, 0, none⟩ = some (.int .i64 q0) ∧ w'.cell? ⟨wc.heap.size + 1, 1, none⟩ = some (.int .i64 q1) ∧ w'.cell? ⟨w.heap.size, 0, none⟩ = some (.int .i64 x) ∧ w'.cell? ⟨w.heap.size, 1, none⟩ = some (.int .i64 y))
        (first
          | exact s2
          | exact sOf _ _ hk3 ‹_ ∧ _ ∧ _ ∧ _ ∧ _ ∧ _›
          | exact sOf _ _ hk5 ‹_ ∧ _ ∧ _ ∧ _ ∧ _ ∧ _›)
        (first
          | (go_at_call 84; refine (HC2.out _ (Near.drew (Near.refl _))).mono ?_; rintro e w4 ⟨r1, rfl, hk3, hc4⟩; have HC4 := Lib.hid hc4; clear hc4)
          | (go_at_call 85; refine (HC4.out _ (Near.refl _)).mono ?_; rintro e w6 ⟨r, rfl, hk5, hwf, n6, M6, hn6, hm6, hfin⟩; have HF := Lib.hid hfin; have HM6 := Lib.hid hm6; have HN6 := Lib.hid hn6; have HWF := Lib.hid hwf; clear hm6 hfin hn6 hwf))
      obtain ⟨z0, z5, _, _, z8, z9⟩ : w6.cell? ⟨pb, 0, none⟩ = some (.pointer (some ⟨mb, 0, none⟩)) ∧ w6.cell? ⟨pb, 5, none⟩ = some (.map (some sk)) ∧ w6.cell? ⟨wc.heap.size + 1, 0, none⟩ = some (.int .i64 q0) ∧ w6.cell? ⟨wc.heap.size + 1, 1, none⟩ = some (.int .i64 q1) ∧ w6.cell? ⟨w.heap.size, 0, none⟩ = some (.int .i64 x) ∧ w6.cell? ⟨w.heap.size, 1, none⟩ = some (.int .i64 y) := by assumption
      go_wp2_with fail
      go_still_tail 6, (by kernel_rfl)
      change wpList _ _ _ _ _ w6.drew
      refine wpList_mapUpdate_at rfl (.tmp 111) (.tmp 112) (.tmp 113) rfl law190 Tryz.underlying116 Tryz.underlying3 rfl (HM6.out.drewN 1) (by unfold maxLen; have := HN6.out; omega) _ _ kl rfl rfl hkey HWF.out ?_
      intro w8 hm8 ht8
      go_wp2_with fail
      go_ret
      exact ⟨r, n6, M6, w6.drew, rfl, HF.out _ (Near.refl _).drew, hm8, ht8⟩
    · go_upto_region 15 with fail
      go_region
      all_goals (go_upto_region 15 with fail)
      go_wp2_with fail
      have hNW : Near w (((wc.alloc (.cells #[.int .i64 x, .int .i64 p1] 152)).alloc (.cells #[.int .i64 x, .int .i64 q1] 152)).drew) := by repeat (first | exact hnW | refine Near.drew ?_ | refine Near.alloc ?_ _)
      have t0 : (((wc.alloc (.cells #[.int .i64 x, .int .i64 p1] 152)).alloc (.cells #[.int .i64 x, .int .i64 q1] 152)).drew).cell? ⟨wc.heap.size + 1, 0, none⟩ = some (.int .i64 x) := by simp
      have t1 : (((wc.alloc (.cells #[.int .i64 x, .int .i64 p1] 152)).alloc (.cells #[.int .i64 x, .int .i64 q1] 152)).drew).cell? ⟨wc.heap.size + 1, 1, none⟩ = some (.int .i64 q1) := by simp
      have m0 : (((wc.alloc (.cells #[.int .i64 x, .int .i64 p1] 152)).alloc (.cells #[.int .i64 x, .int .i64 q1] 152)).drew).cell? ⟨w.heap.size, 0, none⟩ = some (.int .i64 x) := Near.cell (by repeat (first | exact Near.refl _ | refine Near.drew ?_ | refine Near.alloc ?_ _)) k0
      have m1 : (((wc.alloc (.cells #[.int .i64 x, .int .i64 p1] 152)).alloc (.cells #[.int .i64 x, .int .i64 q1] 152)).drew).cell? ⟨w.heap.size, 1, none⟩ = some (.int .i64 y) := Near.cell (by repeat (first | exact Near.refl _ | refine Near.drew ?_ | refine Near.alloc ?_ _)) k1
      have hsz : wc.heap.size + 1 < (((wc.alloc (.cells #[.int .i64 x, .int .i64 p1] 152)).alloc (.cells #[.int .i64 x, .int .i64 q1] 152)).drew).heap.size := by simp
      generalize ((wc.alloc (.cells #[.int .i64 x, .int .i64 p1] 152)).alloc (.cells #[.int .i64 x, .int .i64 q1] 152)).drew = W1 at hNW t0 t1 m0 m1 hsz ⊢
      refine (HH.out W1 hNW).mono ?_
      rintro e w2 ⟨r0, rfl, hk1, hc2⟩
      have HC2 := Lib.hid hc2
      clear hc2
      have keep : ∀ wa wb, Kept (Loc R w W1) wa wb → (∀ b o v, wa.cell? ⟨b, o, none⟩ = some v → ¬ Loc R w W1 b → wb.cell? ⟨b, o, none⟩ = some v) := fun wa wb h b o v hc hn => h.cell hc hn
      have lk : ¬ Loc R w W1 w.heap.size := fun h => h.2 ⟨Nat.le_refl _, by have := hn.size; simp at this; omega⟩
      have lt : ¬ Loc R w W1 (wc.heap.size + 1) := fun h => h.2 ⟨by have := hn.size; simp at this; omega, hsz⟩
      have lp : ¬ Loc R w W1 pb := fun h => hR h.1
      have sOf : ∀ wa wb, Kept (Loc R w W1) wa wb → (wa.cell? ⟨pb, 0, none⟩ = some (.pointer (some ⟨mb, 0, none⟩)) ∧ wa.cell? ⟨pb, 5, none⟩ = some (.map (some sk)) ∧ wa.cell? ⟨wc.heap.size + 1, 0, none⟩ = some (.int .i64 x) ∧ wa.cell? ⟨wc.heap.size + 1, 1, none⟩ = some (.int .i64 q1) ∧ wa.cell? ⟨w.heap.size, 0, none⟩ = some (.int .i64 x) ∧ wa.cell? ⟨w.heap.size, 1, none⟩ = some (.int .i64 y)) →
          (wb.cell? ⟨pb, 0, none⟩ = some (.pointer (some ⟨mb, 0, none⟩)) ∧ wb.cell? ⟨pb, 5, none⟩ = some (.map (some sk)) ∧ wb.cell? ⟨wc.heap.size + 1, 0, none⟩ = some (.int .i64 x) ∧ wb.cell? ⟨wc.heap.size + 1, 1, none⟩ = some (.int .i64 q1) ∧ wb.cell? ⟨w.heap.size, 0, none⟩ = some (.int .i64 x) ∧ wb.cell? ⟨w.heap.size, 1, none⟩ = some (.int .i64 y)) :=
        fun wa wb h ⟨a1, a2, a3, a4, a5, a6⟩ => ⟨h.cell a1 lp, h.cell a2 lp, h.cell a3 lt, h.cell a4 lt, h.cell a5 lk, h.cell a6 lk⟩
      have s2 := sOf _ _ hk1 ⟨hNW.cell c0', hNW.cell c5', t0, t1, m0, m1⟩
      clear t0 t1 m0 m1 keep
      go_upto_region 16 with fail
      go_region_held3 (fun w' => w'.cell? ⟨pb, 0, none⟩ = some (.pointer (some ⟨mb, 0, none⟩)) ∧ w'.cell? ⟨pb, 5, none⟩ = some (.map (some sk)) ∧ w'.cell? ⟨wc.heap.size + 1, 0, none⟩ = some (.int .i64 x) ∧ w'.cell? ⟨wc.heap.size + 1, 1, none⟩ = some (.int .i64 q1) ∧ w'.cell? ⟨w.heap.size, 0, none⟩ = some (.int .i64 x) ∧ w'.cell? ⟨w.heap.size, 1, none⟩ = some (.int .i64 y))
        (first
          | exact s2
          | exact sOf _ _ hk3 ‹_ ∧ _ ∧ _ ∧ _ ∧ _ ∧ _›
          | exact sOf _ _ hk5 ‹_ ∧ _ ∧ _ ∧ _ ∧ _ ∧ _›)
        (first
          | (go_at_call 84; refine (HC2.out _ (Near.drew (Near.refl _))).mono ?_; rintro e w4 ⟨r1, rfl, hk3, hc4⟩; have HC4 := Lib.hid hc4; clear hc4)
          | (go_at_call 85; refine (HC4.out _ (Near.refl _)).mono ?_; rintro e w6 ⟨r, rfl, hk5, hwf, n6, M6, hn6, hm6, hfin⟩; have HF := Lib.hid hfin; have HM6 := Lib.hid hm6; have HN6 := Lib.hid hn6; have HWF := Lib.hid hwf; clear hm6 hfin hn6 hwf))
      obtain ⟨z0, z5, _, _, z8, z9⟩ : w6.cell? ⟨pb, 0, none⟩ = some (.pointer (some ⟨mb, 0, none⟩)) ∧ w6.cell? ⟨pb, 5, none⟩ = some (.map (some sk)) ∧ w6.cell? ⟨wc.heap.size + 1, 0, none⟩ = some (.int .i64 x) ∧ w6.cell? ⟨wc.heap.size + 1, 1, none⟩ = some (.int .i64 q1) ∧ w6.cell? ⟨w.heap.size, 0, none⟩ = some (.int .i64 x) ∧ w6.cell? ⟨w.heap.size, 1, none⟩ = some (.int .i64 y) := by assumption
      go_wp2_with fail
      go_still_tail 6, (by kernel_rfl)
      change wpList _ _ _ _ _ w6.drew
      refine wpList_mapUpdate_at rfl (.tmp 111) (.tmp 112) (.tmp 113) rfl law190 Tryz.underlying116 Tryz.underlying3 rfl (HM6.out.drewN 1) (by unfold maxLen; have := HN6.out; omega) _ _ kl rfl rfl hkey HWF.out ?_
      intro w8 hm8 ht8
      go_wp2_with fail
      go_ret
      exact ⟨r, n6, M6, w6.drew, rfl, HF.out _ (Near.refl _).drew, hm8, ht8⟩

end Go.Proofs.YtefclohjeompkaaGreat

/- JoinC: what is needed of it. -/
namespace Go.Proofs.YtefclohjeompkaaGreat
open Go Go.RowKit Go.Proofs.Gen Go.Proofs.Bdd Go.Proofs.Bdd.T
/-- Function F is an operation on the empty and the full set, with a shortcut. -/
structure OpOk (F : Nat) (bop : Bool → Bool → Bool) (sc : Nat → Nat → Option Bool) : Prop where
  enters : ∀ args w, (callFunc F args).run Tryz.prog w = .ok (.enter F args) w
  calls : ∀ (x y : Nat) w, Calls Tryz.prog F #[.int .i64 x, .int .i64 y] w (OpPost (sc x y) w)
  sound : ∀ x y b, sc x y = some b → ∀ p q : Bool, (x = 0 → p = false) → (x = 1 → p = true) → (y = 0 → q = false) → (y = 1 → q = true) → bop p q = b
  open_ : ∀ x y, sc x y = none → ¬ (x < 2 ∧ y < 2)

theorem op_both : OpOk 44 (fun p q => p && q) scBoth where
  enters := call_enters Tryz.func44 (by kernel_rfl) rfl
  calls := both_calls
  sound x y b h p q h1 h2 h3 h4 := by
    unfold scBoth at h
    split at h
    · rename_i hh
      cases h
      rcases hh with hh | hh
      · rw [h1 hh]; rfl
      · rw [h3 hh]; cases p <;> rfl
    · split at h
      · rename_i hh
        cases h
        rw [h2 hh.1, h4 hh.2]; rfl
      · cases h
  open_ x y h := by
    unfold scBoth at h
    split at h
    · cases h
    · split at h
      · cases h
      · omega

theorem op_either : OpOk 45 (fun p q => p || q) scEither where
  enters := call_enters Tryz.func45 (by kernel_rfl) rfl
  calls := either_calls
  sound x y b h p q h1 h2 h3 h4 := by
    unfold scEither at h
    split at h
    · rename_i hh
      cases h
      rcases hh with hh | hh
      · rw [h2 hh]; rfl
      · rw [h4 hh]; cases p <;> rfl
    · split at h
      · rename_i hh
        cases h
        rw [h1 hh.1, h3 hh.2]; rfl
      · cases h
  open_ x y h := by
    unfold scEither at h
    split at h
    · cases h
    · split at h
      · cases h
      · omega

theorem op_odd : OpOk 48 (fun p q => p != q) scOdd where
  enters := call_enters Tryz.func48 (by kernel_rfl) rfl
  calls := odd_calls
  sound x y b h p q h1 h2 h3 h4 := by
    unfold scOdd at h
    split at h
    · rename_i hh
      cases h
      have hx : x = 0 ∨ x = 1 := by omega
      have hy : y = 0 ∨ y = 1 := by omega
      rcases hx with rfl | rfl <;> rcases hy with rfl | rfl
      · rw [h1 rfl, h3 rfl]; rfl
      · rw [h1 rfl, h4 rfl]; rfl
      · rw [h2 rfl, h3 rfl]; rfl
      · rw [h2 rfl, h4 rfl]; rfl
    · cases h
  open_ x y h := by
    unfold scOdd at h
    split at h
    · cases h
    · assumption

set_option maxRecDepth 100000 in
set_option maxHeartbeats 400000 in
theorem join_short (F pb : Nat) (x y : Nat) (b : Bool) (w : World) (hcf : ∀ args w', (callFunc F args).run Tryz.prog w' = .ok (.enter F args) w')
    (hop : ∀ w', Calls Tryz.prog F #[.int .i64 x, .int .i64 y] w' (OpPost (some b) w')) :
    Calls Tryz.prog 84 #[.pointer (some ⟨pb, 0, none⟩), .int .i64 x, .int .i64 y, .func (.func F) #[] #[]] w fun e w' => e = .returned (.int .i64 (b.toNat : Nat)) ∧ w = w' := by
  have HOP := Lib.hid hop
  clear hop
  go_enter Tryz.func84, Tryz.ntmps84
  go_wp2_with fail
  refine (HOP.out _).mono ?_
  rintro e w' ⟨rfl, rfl⟩
  go_wp2_with fail
  go_ret
  exact ⟨rfl, rfl⟩

set_option maxRecDepth 100000 in
set_option maxHeartbeats 400000 in
theorem join_hit (F pb mb sk n : Nat) (asv bsv : Value) (ra rb u : Int) (x y : Nat) (kl : Lit) (M : Value → Int → Prop) (w : World) (hcf : ∀ args w', (callFunc F args).run Tryz.prog w' = .ok (.enter F args) w')
    (hop : ∀ w', Calls Tryz.prog F #[.int .i64 x, .int .i64 y] w' (OpPost none w'))
    (hpb : w.heap[pb]? = some (.cells #[.pointer (some ⟨mb, 0, none⟩), asv, .int .i64 ra, bsv, .int .i64 rb, .map (some sk)] 118 (0, 0)))
    (hmap : mapIs w Tryz.prog 152 3 sk n M) (hM : M (.agg #[.int .i64 x, .int .i64 y]) u) (hkey : keyOf Tryz.prog 152 (.agg #[.int .i64 x, .int .i64 y]) = some kl) :
    Calls Tryz.prog 84 #[.pointer (some ⟨pb, 0, none⟩), .int .i64 x, .int .i64 y, .func (.func F) #[] #[]] w fun e w' => e = .returned (.int .i64 u) ∧ Near w w' := by
  have c5 : w.cell? ⟨pb, 5, none⟩ = some (.map (some sk)) := cell1 hpb rfl
  have hlt := World.block_lt_of_cell? w ⟨pb, 5, none⟩ c5
  have hskl := hmap.lt
  have hr : ∀ (m : Nat), (Instr.lookup 116 (.map (some sk)) (.agg #[.int .i64 x, .int .i64 y]) true).run Tryz.prog ((w.alloc (.cells #[.int .i64 x, .int .i64 y] 152)).drewN m) = .ok (.tuple #[.int .i64 u, .bool true]) ((w.alloc (.cells #[.int .i64 x, .int .i64 y] 152)).drewN m) :=
    fun m => mapIs.hit (((hmap.of_block (w' := w.alloc (.cells #[.int .i64 x, .int .i64 y] 152)) (Below.heap_alloc w _ sk hskl)).drewN m)) law190 Tryz.underlying116 Tryz.underlying3 (zero3 _) hkey hM
  have HOP := Lib.hid hop
  clear hop hpb hmap
  go_enter Tryz.func84, Tryz.ntmps84
  go_wp2_with fail
  refine (HOP.out _).mono ?_
  rintro e w' ⟨rfl, r, rfl⟩
  go_wp2_with fail
  go_quiet (fail)
  go_wp2_with fail
  go_ret
  exact ⟨rfl, ((Near.refl w).alloc _).drewN _⟩

/-- What 'join' reads. -/
structure JEnv (w : World) (pb mb sk : Nat) (asv bsv : Value) (ra rb : Int) (La Lb : List T) : Prop where
  pbk : w.heap[pb]? = some (.cells #[.pointer (some ⟨mb, 0, none⟩), asv, .int .i64 ra, bsv, .int .i64 rb, .map (some sk)] 118 (0, 0))
  rowa : w.ownsRow 0 84 3 asv La.length (cellsOf (enc La))
  rowb : w.ownsRow 0 84 3 bsv Lb.length (cellsOf (enc Lb))

theorem owns_kept {w w' : World} {R : Nat → Prop} {base e size n : Nat} {v : Value} {xs : List Value} (h : w.ownsRow base e size v n xs) (hk : Kept R w w') (hd : ∀ k, v.ownBlock = some k → ¬ R k) : w'.ownsRow base e size v n xs := by
  refine ⟨h.1, ?_⟩
  rcases h.2 with hh | ⟨g, cap, cur, rfl, hb, hg, r⟩
  · exact .inl hh
  · exact .inr ⟨g, cap, cur, rfl, hb, (hk.block g (Array.getElem?_eq_some_iff.1 hg).1 (hd g rfl)).trans hg, r⟩

theorem JEnv.kept {w w' : World} {R : Nat → Prop} {pb mb sk : Nat} {asv bsv : Value} {ra rb : Int} {La Lb : List T} (h : JEnv w pb mb sk asv bsv ra rb La Lb) (hk : Kept R w w')
    (hd : ¬ R pb ∧ (∀ k, asv.ownBlock = some k → ¬ R k) ∧ ∀ k, bsv.ownBlock = some k → ¬ R k) : JEnv w' pb mb sk asv bsv ra rb La Lb :=
  ⟨(hk.block pb (Array.getElem?_eq_some_iff.1 h.pbk).1 hd.1).trans h.pbk, owns_kept h.rowa hk hd.2.1, owns_kept h.rowb hk hd.2.2⟩

/-- What stands in the map of pairs is right. -/
def SeenOk (La Lb : List T) (bop : Bool → Bool → Bool) (L : List T) (M : Value → Int → Prop) : Prop :=
  ∀ key u, M key u → ∃ t v s, In La t ∧ In Lb v ∧ key = .agg #[.int .i64 (pl La t : Nat), .int .i64 (pl Lb v : Nat)] ∧ In L s ∧ s.Ok ∧ u = (pl L s : Nat) ∧ min t.lv v.lv ≤ s.lv ∧ ∀ c, s.ev c = bop (t.ev c) (v.ev c)

theorem SeenOk.mono {La Lb : List T} {bop : Bool → Bool → Bool} {L : List T} {M : Value → Int → Prop} (h : SeenOk La Lb bop L M) (K : List T) : SeenOk La Lb bop (L ++ K) M := by
  intro key u hm
  obtain ⟨t, v, s, h1, h2, h3, h4, h5, h6, h7, h8⟩ := h key u hm
  exact ⟨t, v, s, h1, h2, h3, h4.mono K, h5, by rw [h6, pl_append h4], h7, h8⟩

/-- Room for what is joined. -/
def rm (t u : T) : Nat := 2 ^ (24 - min t.lv u.lv)

/-- What 'join' leaves. -/
def JPost (S : Nat → Prop) (w : World) (mb sk : Nat) (La Lb : List T) (bop : Bool → Bool → Bool) (t u : T) (L : List T) (n : Nat) (e : Ending) (w' : World) : Prop :=
  ∃ s K n' M, e = .returned (.int .i64 (pl (L ++ K) s : Nat)) ∧ In (L ++ K) s ∧ s.Ok ∧ min t.lv u.lv ≤ s.lv ∧ (∀ c, s.ev c = bop (t.ev c) (u.ev c)) ∧ T.Good (L ++ K) ∧ IsMaker w' mb S (L ++ K) ∧
    mapIs w' Tryz.prog 152 3 sk n' M ∧ SeenOk La Lb bop (L ++ K) M ∧ Kept (fun k => S k ∨ k = sk) w w' ∧ (L ++ K).length + 1 ≤ L.length + rm t u ∧ n' + 1 ≤ n + rm t u

end Go.Proofs.YtefclohjeompkaaGreat

/- JoinD: what is needed of it. -/
namespace Go.Proofs.YtefclohjeompkaaGreat
open Go Go.RowKit Go.Proofs.Gen Go.Proofs.Bdd Go.Proofs.Bdd.T
theorem atT_eq (L : List T) (t : T) : atT L t = ⟨t.lv, pl L t.lo, pl L t.hi⟩ := by
  cases t with
  | leaf b => simp [atT, lv, lo, hi, pl_leaf]
  | node i l h => rfl

theorem rm_pos (t u : T) : 0 < rm t u := Nat.two_pow_pos _

theorem rm_le (t u : T) : rm t u ≤ 16777216 := by
  have e : (2 : Nat) ^ 24 = 16777216 := by decide
  rw [← e]
  exact Nat.pow_le_pow_right (by omega) (by omega)

theorem rm_kids {t u t0 u0 t1 u1 : T} {i : Nat} (hi : i < 24) (he : min t.lv u.lv = i) (a : i < t0.lv) (b : i < u0.lv) (c : i < t1.lv) (d : i < u1.lv) : rm t0 u0 + rm t1 u1 ≤ rm t u := by
  have e1 : rm t0 u0 ≤ 2 ^ (23 - i) := Nat.pow_le_pow_right (by omega) (by omega)
  have e2 : rm t1 u1 ≤ 2 ^ (23 - i) := Nat.pow_le_pow_right (by omega) (by omega)
  have e3 : rm t u = 2 * 2 ^ (23 - i) := by
    unfold rm
    rw [he, show 24 - i = (23 - i) + 1 from by omega, Nat.pow_succ]; omega
  omega

theorem IsMaker.near {w w' : World} {mb : Nat} {S : Nat → Prop} {L : List T} (h : IsMaker w mb S L) (hn : Near w w') : IsMaker w' mb S L := h.of_kept hn (fun _ _ _ => id)

/-- THE CONTRACT OF 'join'. -/
theorem join_calls {F : Nat} {bop : Bool → Bool → Bool} {sc : Nat → Nat → Option Bool} (hop : OpOk F bop sc) {pb mb sk : Nat} {asv bsv : Value} {ra rb : Int} {La Lb : List T} (ga : T.Good La) (gb : T.Good Lb)
    (hla : La.length < 1099511627776) (hlb : Lb.length < 1099511627776) (okA : ∀ t, In La t → t.Ok) (okB : ∀ t, In Lb t → t.Ok) :
    ∀ (k : Nat) (S : Nat → Prop) (t u : T) (L : List T) (n : Nat) (M : Value → Int → Prop) (w : World), 24 - min t.lv u.lv ≤ k → In La t → In Lb u → T.Good L →
      L.length + rm t u ≤ 1099511627776 → n + rm t u ≤ 1099511627776 → (∀ k, w.heap.size ≤ k → S k) → JEnv w pb mb sk asv bsv ra rb La Lb → IsMaker w mb S L → mapIs w Tryz.prog 152 3 sk n M → SeenOk La Lb bop L M →
      ¬ S pb → ¬ S sk → (∀ k, asv.ownBlock = some k → ¬ S k) → (∀ k, bsv.ownBlock = some k → ¬ S k) → ∀ x y : Int, x = (pl La t : Nat) → y = (pl Lb u : Nat) →
      Calls Tryz.prog 84 #[.pointer (some ⟨pb, 0, none⟩), .int .i64 x, .int .i64 y, .func (.func F) #[] #[]] w (JPost S w mb sk La Lb bop t u L n) := by
  intro k
  induction k with
  | zero =>
    intro S t u L n M w hk ht hu g hL hn hS env hm hmap hseen hpb hsk hA hB x y hx hy
    subst hx hy
    obtain ⟨b, rfl⟩ := lv_leaf_of (okA t ht) (by omega)
    obtain ⟨b', rfl⟩ := lv_leaf_of (okB u hu) (by omega)
    cases hs : sc (pl La (leaf b)) (pl Lb (leaf b')) with
    | none =>
      have := hop.open_ _ _ hs
      rw [pl_leaf, pl_leaf] at this
      cases b <;> cases b' <;> simp at this
    | some r =>
      refine (join_short F pb _ _ r w hop.enters (fun w' => hs ▸ hop.calls _ _ w')).mono ?_
      rintro e w' ⟨rfl, rfl⟩
      refine ⟨leaf r, [], n, M, by rw [pl_leaf], trivial, trivial, by simp [lv], fun c => ?_, by simpa using g, by simpa using hm, hmap, by simpa using hseen, Kept.refl _ _, by simp; exact rm_pos _ _, by have := rm_pos (leaf b) (leaf b'); omega⟩
      exact (hop.sound _ _ r hs _ _ (by rw [pl_leaf]; cases b <;> simp [ev]) (by rw [pl_leaf]; cases b <;> simp [ev]) (by rw [pl_leaf]; cases b' <;> simp [ev]) (by rw [pl_leaf]; cases b' <;> simp [ev])).symm
  | succ k ih =>
    intro S t u L n M w hk ht hu g hL hn hS env hm hmap hseen hpb hsk hA hB x y hx hy
    subst hx hy
    have val0 : ∀ (L : List T) (t : T), pl L t = 0 → ∀ c, t.ev c = false := by
      intro L t h c
      cases t with
      | leaf b => rw [pl_leaf] at h; cases b <;> simp [ev] at h ⊢
      | node i l r => have := pl_node (L := L) i l r; omega
    have val1 : ∀ (L : List T) (t : T), pl L t = 1 → ∀ c, t.ev c = true := by
      intro L t h c
      cases t with
      | leaf b => rw [pl_leaf] at h; cases b <;> simp [ev] at h ⊢
      | node i l r => have := pl_node (L := L) i l r; omega
    have hpx := pl_lt ht
    have hpy := pl_lt hu
    have hrp := rm_pos t u
    cases hs : sc (pl La t) (pl Lb u) with
    | some r =>
      refine (join_short F pb _ _ r w hop.enters (fun w' => hs ▸ hop.calls _ _ w')).mono ?_
      rintro e w' ⟨rfl, rfl⟩
      refine ⟨leaf r, [], n, M, by rw [pl_leaf], trivial, trivial, ?_, fun c => ?_, by simpa using g, by simpa using hm, hmap, by simpa using hseen, Kept.refl _ _, by simp; omega, by omega⟩
      · have := lv_le t (okA t ht)
        show min t.lv u.lv ≤ 24
        omega
      · exact (hop.sound _ _ r hs _ _ (fun h => val0 _ _ h c) (fun h => val1 _ _ h c) (fun h => val0 _ _ h c) (fun h => val1 _ _ h c)).symm
    | none =>
      have hopn : ∀ w', Calls Tryz.prog F #[.int .i64 (pl La t : Nat), .int .i64 (pl Lb u : Nat)] w' (OpPost none w') := fun w' => hs ▸ hop.calls _ _ w'
      obtain ⟨kl, hkey⟩ := key190 (wf_nat (n := pl La t) (by omega)) (wf_nat (n := pl Lb u) (by omega))
      by_cases hM : ∃ v, M (.agg #[.int .i64 (pl La t : Nat), .int .i64 (pl Lb u : Nat)]) v
      · obtain ⟨v, hv⟩ := hM
        obtain ⟨t', u', s, h1, h2, h3, h4, h5, h6, h7, h8⟩ := hseen _ _ hv
        simp only [Value.agg.injEq, Array.mk.injEq, List.cons.injEq, Value.int.injEq, true_and, and_true] at h3
        obtain rfl : t = t' := pl_inj ht h1 (by omega)
        obtain rfl : u = u' := pl_inj hu h2 (by omega)
        refine (join_hit F pb mb sk n asv bsv ra rb v _ _ kl M w hop.enters hopn env.pbk hmap hv hkey).mono ?_
        rintro e w' ⟨rfl, hnr⟩
        exact ⟨s, [], n, M, by simp [h6], by simpa using h4, h5, h7, h8, by simpa using g, by simpa using hm.near hnr, hmap.kept hnr id, by simpa using hseen, hnr.kept, by simp; omega, by omega⟩
      · have hnone : ∀ v, ¬ M (.agg #[.int .i64 (pl La t : Nat), .int .i64 (pl Lb u : Nat)]) v := fun v hv => hM ⟨v, hv⟩
        -- the level of the next node
        have hi24 : min t.lv u.lv < 24 := by
          rcases Nat.lt_or_ge (min t.lv u.lv) 24 with h | h
          · exact h
          · obtain ⟨b, rfl⟩ := lv_leaf_of (okA t ht) (by omega)
            obtain ⟨b', rfl⟩ := lv_leaf_of (okB u hu) (by omega)
            have := hop.open_ _ _ hs
            rw [pl_leaf, pl_leaf] at this
            cases b <;> cases b' <;> simp at this
        obtain ⟨i, hi⟩ : ∃ i, i = min t.lv u.lv := ⟨_, rfl⟩
        have ca := cof_facts (okA t ht) (i := i) (by omega) (by omega)
        have cb := cof_facts (okB u hu) (i := i) (by omega) (by omega)
        have ia := cof_in ga ht i
        have ib := cof_in gb hu i
        have hrk := rm_kids (t := t) (u := u) (i := i) (by omega) hi.symm ca.2.2.1 cb.2.2.1 ca.2.2.2.1 cb.2.2.2.1
        have hr1 := rm_pos (cof1 i t) (cof1 i u)
        have hr0 := rm_pos (cof0 i t) (cof0 i u)
        have hrle := rm_le t u
        have hskl := hmap.lt
        have hpbl : pb < w.heap.size := (Array.getElem?_eq_some_iff.1 env.pbk).1
        let Fin : Int → Nat → (Value → Int → Prop) → World → Prop := fun r n7 M7 w7 => ∃ s K, r = (pl (L ++ K) s : Nat) ∧ In (L ++ K) s ∧ s.Ok ∧ min t.lv u.lv ≤ s.lv ∧ (∀ c, s.ev c = bop (t.ev c) (u.ev c)) ∧ T.Good (L ++ K) ∧
          IsMaker w7 mb S (L ++ K) ∧ SeenOk La Lb bop (L ++ K) M7 ∧ Kept (fun k => S k ∨ k = sk) w w7 ∧ (L ++ K).length + 1 ≤ L.length + rm t u ∧ n7 + 1 + 1 ≤ n + rm t u
        refine (join_walk F (fun k => S k ∨ k = sk) pb mb sk n asv bsv ra rb (pl La t) (pl Lb u) kl (atT La t).v (atT La t).lo (atT La t).hi (atT Lb u).v (atT Lb u).lo (atT Lb u).hi
          (pl La (cof0 i t) : Nat) (pl Lb (cof0 i u) : Nat) (pl La (cof1 i t) : Nat) (pl Lb (cof1 i u) : Nat) i M w Fin env.pbk hop.enters hopn hmap hnone hkey ?_ ?_ ?_ ?_ ?_).mono ?_
        · intro w' hn'
          exact at_calls hla (owns_kept env.rowa hn' (fun _ _ => id)) ht ra rfl
        · intro w' hn'
          exact at_calls hlb (owns_kept env.rowb hn' (fun _ _ => id)) hu rb rfl
        · rintro (h | h)
          · exact hpb h
          · subst h
            obtain ⟨es, clock, hb, _⟩ := hmap
            rw [env.pbk] at hb
            cases hb
        · rw [atT_eq, atT_eq]
          simp only [cof0, cof1]
          rcases Nat.lt_trichotomy t.lv u.lv with h | h | h
          · refine .inl ⟨by omega, by omega, ?_, ?_, ?_, ?_⟩
            · rw [if_pos (by omega)]
            · rw [if_pos (by omega)]
            · rw [if_neg (by omega)]
            · rw [if_neg (by omega)]
          · refine .inr (.inl ⟨by omega, by omega, ?_, ?_, ?_, ?_⟩)
            · rw [if_pos (by omega)]
            · rw [if_pos (by omega)]
            · rw [if_pos (by omega)]
            · rw [if_pos (by omega)]
          · refine .inr (.inr ⟨by omega, by omega, ?_, ?_, ?_, ?_⟩)
            · rw [if_neg (by omega)]
            · rw [if_neg (by omega)]
            · rw [if_pos (by omega)]
            · rw [if_pos (by omega)]
        · intro w1 hn1
          have hz1 := hn1.size
          -- the maker's blocks but for those that this call has laid
          have hSL : ∀ k, w1.heap.size ≤ k → Loc S w w1 k := fun k hk => ⟨hS k (by omega), by omega⟩
          have hm1 : IsMaker w1 mb (Loc S w w1) L := (hm.mono_lt (fun k hk h => ⟨h, by omega⟩)).near hn1
          have npb : ¬ Loc S w w1 pb := fun h => hpb h.1
          have nsk : ¬ Loc S w w1 sk := fun h => hsk h.1
          have nA : ∀ k, asv.ownBlock = some k → ¬ Loc S w w1 k := fun k hk h => hA k hk h.1
          have nB : ∀ k, bsv.ownBlock = some k → ¬ Loc S w w1 k := fun k hk h => hB k hk h.1
          have nskA : ∀ k, asv.ownBlock = some k → k ≠ sk := by
            rintro k hk rfl
            obtain ⟨es, clock, hb, _⟩ := hmap
            exact owns_ne_map env.rowa hb hk
          have nskB : ∀ k, bsv.ownBlock = some k → k ≠ sk := by
            rintro k hk rfl
            obtain ⟨es, clock, hb, _⟩ := hmap
            exact owns_ne_map env.rowb hb hk
          have npbk : pb ≠ sk := by
            rintro rfl
            obtain ⟨es, clock, hb, _⟩ := hmap
            rw [env.pbk] at hb
            cases hb
          have env1 := env.kept hn1 (R := fun _ => False) ⟨id, fun _ _ => id, fun _ _ => id⟩
          have toLoc : ∀ wa wb : World, Kept (fun k => Loc S w w1 k ∨ k = sk) wa wb → Kept (Loc (fun k => S k ∨ k = sk) w w1) wa wb := fun wa wb h => h.mono (fun k _ hk => by
            rcases hk with hk | rfl
            · exact ⟨.inl hk.1, hk.2⟩
            · exact ⟨.inr rfl, by omega⟩)
          have envK : ∀ wa wb : World, JEnv wa pb mb sk asv bsv ra rb La Lb → Kept (fun k => Loc S w w1 k ∨ k = sk) wa wb → JEnv wb pb mb sk asv bsv ra rb La Lb := fun wa wb he h =>
            he.kept h ⟨fun hh => hh.elim npb npbk, fun k hk hh => hh.elim (nA k hk) (nskA k hk), fun k hk hh => hh.elim (nB k hk) (nskB k hk)⟩
          refine (ih (Loc S w w1) (cof0 i t) (cof0 i u) L n M w1 (by omega) ia.1 ib.1 g (by omega) (by omega) hSL env1 hm1 (hmap.kept hn1 id) hseen npb nsk nA nB _ _ rfl rfl).mono ?_
          rintro e w2 ⟨s0, K0, n0, M0, rfl, hs0, ok0, lv0, ev0, g0, mk0, map0, seen0, kept0, len0, cnt0⟩
          refine ⟨_, rfl, toLoc _ _ kept0, fun w3 hn3 => ?_⟩
          have hz2 := kept0.size
          have hz3 := hn3.size
          have env2 := envK _ _ env1 kept0
          have env3 := env2.kept hn3 (R := fun _ => False) ⟨id, fun _ _ => id, fun _ _ => id⟩
          refine (ih (Loc S w w1) (cof1 i t) (cof1 i u) (L ++ K0) n0 M0 w3 (by omega) ia.2 ib.2 g0 (by omega) (by omega) (fun k hk => hSL k (by omega)) env3 (mk0.near hn3) (map0.kept hn3 id) seen0 npb nsk nA nB _ _ rfl rfl).mono ?_
          rintro e w4 ⟨s1, K1, n1, M1, rfl, hs1, ok1, lv1, ev1, g1, mk1, map1, seen1, kept1, len1, cnt1⟩
          refine ⟨_, rfl, toLoc _ _ kept1, fun w5 hn5 => ?_⟩
          have hz4 := kept1.size
          have hz5 := hn5.size
          have env4 := envK _ _ env3 kept1
          have env5 := env4.kept hn5 (R := fun _ => False) ⟨id, fun _ _ => id, fun _ _ => id⟩
          have l0 := ca.2.2.1
          have l1 := ca.2.2.2.1
          have l2 := cb.2.2.1
          have l3 := cb.2.2.2.1
          have hs01 : In (L ++ K0 ++ K1) s0 := hs0.mono K1
          refine (node_calls (S := Loc S w w1) g1 (i := i) hs01 hs1 (by omega) (by omega) (fun k hk => hSL k (by omega)) (mk1.near hn5) rfl (by rw [pl_append hs0]) rfl).mono ?_
          rintro e w6 ⟨rfl, mk6, kept6⟩
          obtain ⟨K2, hK2⟩ := add_prefix (L ++ K0 ++ K1) i s0 s1
          have hlen2 := add_len (L ++ K0 ++ K1) i s0 s1
          have hg2 := add_good g1 hs01 hs1 (i := i) (by omega) (by omega) (by omega) ok0 ok1
          have hin2 := add_in (L := L ++ K0 ++ K1) (i := i) (l := s0) (h := s1) hs01
          rw [hK2] at hlen2 hg2 hin2 mk6 ⊢
          have hp2 := pl_lt hin2
          refine ⟨_, rfl, kept6.mono (fun k _ hk => ⟨.inl hk.1, hk.2⟩), wf_nat (by omega), n1, M1, by omega, (map1.kept hn5 id).kept kept6 nsk, fun w7 hn7 => ?_⟩
          have assoc : L ++ K0 ++ K1 ++ K2 = L ++ (K0 ++ K1 ++ K2) := by simp
          refine ⟨mk i s0 s1, K0 ++ K1 ++ K2, by rw [assoc], by rw [← assoc]; exact hin2, mk_ok (by omega) (by omega) (by omega) ok0 ok1, ?_, fun c => ?_, by rw [← assoc]; exact hg2, ?_, ?_, ?_, ?_, by omega⟩
          · have := mk_lv (i := i) (l := s0) (h := s1) (by omega)
            omega
          · rw [mk_ev, ev0, ev1, ca.2.2.2.2 c, cb.2.2.2.2 c]
            split <;> rfl
          · rw [← assoc]
            exact (mk6.mono (fun k h => h.1)).near hn7
          · rw [← assoc]
            exact (seen1.mono K2)
          · have toS : ∀ wa wb : World, Kept (fun k => Loc S w w1 k ∨ k = sk) wa wb → Kept (fun k => S k ∨ k = sk) wa wb := fun wa wb h => h.mono (fun k _ hk => hk.imp (·.1) id)
            exact (((((hn1.kept.trans (toS _ _ kept0)).trans hn3.kept).trans (toS _ _ kept1)).trans hn5.kept).trans (kept6.mono (fun k _ h => .inl h.1))).trans hn7.kept
          · rw [← assoc]
            omega
        · rintro e w' ⟨r, n7, M7, w7, rfl, ⟨s, K, rfl, hsi, hok, hlv, hev, hg, hmk, hsn, hkp, hln, hcn⟩, hmap', htn⟩
          refine ⟨s, K, n7 + 1, _, rfl, hsi, hok, hlv, hev, hg, ?_, hmap', ?_, htn.kept hkp (fun _ => .inr rfl), hln, by omega⟩
          · exact hmk.of_kept (R := fun k => k = sk) (htn.kept (Kept.refl _ _) (fun _ => rfl)) (fun k _ hk e => hsk (e ▸ hk))
          · rintro key v (⟨rfl, rfl⟩ | ⟨_, hv⟩)
            · exact ⟨t, u, s, ht, hu, rfl, hsi, hok, rfl, hlv, hev⟩
            · exact hsn key v hv

end Go.Proofs.YtefclohjeompkaaGreat
