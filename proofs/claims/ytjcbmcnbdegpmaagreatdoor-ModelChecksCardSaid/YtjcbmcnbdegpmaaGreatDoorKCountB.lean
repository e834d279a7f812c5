/- JoinD, With, Ops, Has, Count, CountB. -/
import Derived.Test.YtjcbmcnbdegpmaaGreatDoorKMClo
set_option maxRecDepth 100000
set_option maxHeartbeats 12800000
set_option linter.unusedVariables false
open Array renaming getElem?_eq_some_iff->qk
open Array.mk renaming injEq->za
open Go renaming bodyPost_ret->qo,results->qC
open Go.IntKind renaming u32->ug
open Go.Lib renaming hid->q8
open Go.Proofs.Tryz renaming prog->qj
open Go.Region renaming wanted->yg
open Go.RowKit.Below renaming heap_setCell->zg
open Go.Value.agg renaming injEq->qY
open Go.Value.slice renaming injEq->qq
open Go.World renaming cell?->zV,frozen?->jx,ownsRow_nil->qW
open List renaming getElem_mem->xJ,take_append_drop->zO,take_length->qF,take_succ_eq_append_getElem->zM
open List.cons renaming injEq->qJ
open Nat renaming le_refl->qt,le_trans->qH,min_eq_left->xA,pow_le_pow_right->zr,pow_succ->jn,two_pow_pos->q2P,zero_le->qv
open Option.some renaming injEq->zo
open Go.Value renaming slice->vd,int->ve,string->vf,pointer->vg,agg->vi,bool->vj
open Go.Obj renaming cells->vk
open Go.Ending renaming returned->vm
open Go.IntKind renaming i64->vp,u8->vq,u32->vr,u64->vt
open Or renaming inl->vu,inr->vv
namespace Go.Proofs.YtjcbmcnbdegpmaaGreatDoor
open Go Go.RowKit Go.Proofs.Gen Go.Proofs.Bdd Go.Proofs.Bdd.T
variable{F c i k n:Nat}{L:List T}{S:Nat->Prop}{a b f t:T}{q v:Value}{sc:Nat→Nat→Option Bool}{w w':World}
theorem q4V(L:List T)(t:T):atTZz L t=⟨t.lv,pl L t.lo,pl L t.hi⟩:=by
 cases t with
 |leaf b=>simp [atTZz,lv,lo,hi,pl_leaf]
 |node i l h=>rfl
theorem Xd(t u:T):0<rm t u:=q2P _
theorem q77(t u:T):rm t u<=16777216:=by
 have e:(2:Nat)^24=16777216:=by decide
 rw [<-e];exact zr (by omega) (by omega)
theorem q5C{u h g e:T}(l:i<24)(j:min t.lv u.lv=i)(a:i<h.lv)(b:i<g.lv)(c:i<e.lv)(d:i<f.lv):rm h g+rm e f<=rm t u:=by
 have m:rm h g<=2^ (23 - i):=zr (by omega) (by omega);have n:rm e f<=2^ (23 - i):=zr (by omega) (by omega);have k:rm t u=2*2^ (23 - i):=by
  unfold rm;rw [j,show 24 - i=(23 - i)+1 from by omega,jn];omega
 omega
theorem IsMaker.near{a:Nat}(h:IsMaker w a S L)(b:Near w w'):IsMaker w' a S L:=h.of_kept b (fun _ _ _=>id)
theorem Gq{W:Bool→Bool→Bool}(q:q7B F W sc){J mb z:Nat}{D C:Value}{ra rb:Int}{o p:List T}(ga:T.Good o)(gb:T.Good p)
 (bk:o.length<1099511627776) (bs:p.length<1099511627776) (aa: ∀t,In o t→t.Ok) (al: ∀t,In p t→t.Ok):
 ∀(k:Nat)(S:Nat→Prop)(t u:T)(L:List T)(n:Nat)(M:Value→Int→Prop)(w:World),24 - min t.lv u.lv≤k→In o t→In p u→T.Good L→
  L.length+rm t u≤1099511627776→n+rm t u≤1099511627776→(∀k,w.heap.size≤k→S k)→JEnv w J mb z D C ra rb o p→IsMaker w mb S L→mapIs w qj 247 3 z n M→SeenOk o p W L M→
  ¬S J→ ¬S z→(∀k,D.ownBlock=some k→ ¬S k)→(∀k,C.ownBlock=some k→ ¬S k)→ ∀x y:Int,x=(pl o t:Nat)→y=(pl p u:Nat)→
  Calls qj 200 #[vg J,ve vp x,ve vp y,.func (.func F) #[] #[]] w (q81 S w mb z o p W t u L n):=by
 intro k;induction k with
 |zero=>
  intro S t u L n M w d Z hu g hL hn hS m hm a j aq aw hA hB x y hx hy;subst hx hy;obtain⟨b,rfl⟩:=uW (aa t Z) (by omega);obtain⟨b',rfl⟩:=uW (al u hu) (by omega)
  cases hs:sc (pl o (leaf b)) (pl p (leaf b'))with
  |none=>
   have:=q.open_ _ _ hs
   rw [pl_leaf,pl_leaf]at this
   cases b<;>cases b'<;>simp at this
  |some r=>
   refine(YB F J _ _ r w q.enters (fun I=>hs▸q.calls _ _ I)).mono ?_;rintro e I ⟨rfl,rfl⟩;refine⟨leaf r,[],n,M,by rw [pl_leaf],trivial,trivial,by simp [lv],fun c=> ?_,by simpa using g,by simpa using hm,a,by simpa using j,Kept.refl _ _,by simp;exact Xd _ _,by have:=Xd (leaf b) (leaf b');omega⟩;exact(q.sound _ _ r hs _ _ (by rw [pl_leaf];cases b<;>simp [ev]) (by rw [pl_leaf];cases b<;>simp [ev]) (by rw [pl_leaf];cases b'<;>simp [ev]) (by rw [pl_leaf];cases b'<;>simp [ev])).symm
 |succ k ih=>
  intro S t u L n M w d Z hu g hL hn hS m hm a j aq aw hA hB x y hx hy;subst hx hy;have ai: ∀(L:List T)(t:T),pl L t=0→ ∀c,t.ev c=false:=by
   intro L t h c
   cases t with
   |leaf b=>rw [pl_leaf]at h;cases b<;>simp [ev]at h⊢
   |node i l r=>have:=kF (L:=L) i l r;omega
  have ad: ∀(L:List T)(t:T),pl L t=1→ ∀c,t.ev c=true:=by
   intro L t h c
   cases t with
   |leaf b=>rw [pl_leaf]at h;cases b<;>simp [ev]at h⊢
   |node i l r=>have:=kF (L:=L) i l r;omega
  have ch:=wt Z;have ce:=wt hu;have b6:=Xd t u
  cases hs:sc (pl o t) (pl p u)with
  |some r=>
   refine(YB F J _ _ r w q.enters (fun I=>hs▸q.calls _ _ I)).mono ?_;rintro e I ⟨rfl,rfl⟩;refine⟨leaf r,[],n,M,by rw [pl_leaf],trivial,trivial,?_,fun c=> ?_,by simpa using g,by simpa using hm,a,by simpa using j,Kept.refl _ _,by simp;omega,by omega⟩
   ·have:=q7P t (aa t Z)
    show min t.lv u.lv≤24;omega
   ·exact(q.sound _ _ r hs _ _ (fun h=>ai _ _ h c) (fun h=>ad _ _ h c) (fun h=>ai _ _ h c) (fun h=>ad _ _ h c)).symm
  |none=>
   have ae: ∀I,Calls qj F #[ve vp (pl o t:Nat),ve vp (pl p u:Nat)] I (OpPost none I):=fun I=>hs▸q.calls _ _ I;have⟨kl,ag⟩:=q4O (wf_nat (n:=pl o t) (by omega)) (wf_nat (n:=pl p u) (by omega));by_cases hM: ∃v,M (vi #[ve vp (pl o t:Nat),ve vp (pl p u:Nat)]) v
   ·have⟨v,hv⟩:=hM
    have⟨t',u',s,h1,h2,h3,h4,h5,h6,h7,h8⟩:=j _ _ hv;simp only [qY,za,qJ,Value.int.injEq,true_and,and_true]at h3;obtain rfl:t=t':=Zr Z h1 (by omega);obtain rfl:u=u':=Zr hu h2 (by omega);refine(q3P F J mb z n D C ra rb v _ _ kl M w q.enters ae m.pbk a hv ag).mono ?_;rintro e I ⟨rfl,au⟩;exact⟨s,[],n,M,by simp [h6],by simpa using h4,h5,h7,h8,by simpa using g,by simpa using hm.near au,a.kept au id,by simpa using j,au.kept,by simp;omega,by omega⟩
   ·have ak: ∀v,¬M (vi #[ve vp (pl o t:Nat),ve vp (pl p u:Nat)]) v:=fun v hv=>hM ⟨v,hv⟩
    have bv:min t.lv u.lv<24:=by
     rcases Nat.lt_or_ge (min t.lv u.lv) 24 with h|h
     ·exact h
     ·obtain⟨b,rfl⟩:=uW (aa t Z) (by omega)
      obtain⟨b',rfl⟩:=uW (al u hu) (by omega)
      have:=q.open_ _ _ hs
      rw [pl_leaf,pl_leaf]at this
      cases b<;>cases b'<;>simp at this
    obtain⟨i,hi⟩: ∃i,i=min t.lv u.lv:=⟨_,rfl⟩;have ca:=Ki (aa t Z) (i:=i) (by omega) (by omega);have cb:=Ki (al u hu) (i:=i) (by omega) (by omega);have ia:=q4U ga Z i;have ib:=q4U gb hu i;have b5:=q5C (t:=t) (u:=u) (i:=i) (by omega) hi.symm ca.2.2.1 cb.2.2.1 ca.2.2.2.1 cb.2.2.2.1;have cg:=Xd (cof1 i t) (cof1 i u);have ck:=Xd (cof0 i t) (cof0 i u);have b0:=q77 t u;have b2:=a.lt;have b3:J<w.heap.size:=(qk.1 m.pbk).1;let Fin:Int→Nat→(Value→Int→Prop)→World→Prop:=fun r n7 M7 w7=> ∃s K,r=(pl (L++K) s:Nat)∧In (L++K) s∧s.Ok∧min t.lv u.lv≤s.lv∧(∀c,s.ev c=W (t.ev c) (u.ev c))∧T.Good (L++K)∧
     IsMaker w7 mb S (L++K)∧SeenOk o p W (L++K) M7∧Kept (fun k=>S k∨k=z) w w7∧(L++K).length+1≤L.length+rm t u∧n7+1+1≤n+rm t u
    refine(q1A F (fun k=>S k∨k=z) J mb z n D C ra rb (pl o t) (pl p u) kl (atTZz o t).v (atTZz o t).lo (atTZz o t).hi (atTZz p u).v (atTZz p u).lo (atTZz p u).hi
     (pl o (cof0 i t):Nat) (pl p (cof0 i u):Nat) (pl o (cof1 i t):Nat) (pl p (cof1 i u):Nat) i M w Fin m.pbk q.enters ae a ak ag ?_ ?_ ?_ ?_ ?_).mono ?_
    ·intro I ax
     exact Wq bk (owns_kept m.rowa ax (fun _ _=>id)) Z ra rfl
    ·intro I ax
     exact Wq bs (owns_kept m.rowb ax (fun _ _=>id)) hu rb rfl
    ·rintro(h|h)
     ·exact aq h
     ·subst h
      have⟨es,G,hb,_⟩:=a;rw [m.pbk]at hb
      cases hb
    ·rw [q4V,q4V]
     simp only [cof0,cof1];rcases Nat.lt_trichotomy t.lv u.lv with h|h|h
     ·refine vu ⟨by omega,by omega,?_,?_,?_,?_⟩
      ·rw [if_pos (by omega)]
      ·rw [if_pos (by omega)]
      ·rw [if_neg (by omega)]
      ·rw [if_neg (by omega)]
     ·refine vv (vu ⟨by omega,by omega,?_,?_,?_,?_⟩)
      ·rw [if_pos (by omega)]
      ·rw [if_pos (by omega)]
      ·rw [if_pos (by omega)]
      ·rw [if_pos (by omega)]
     ·refine vv (vv ⟨by omega,by omega,?_,?_,?_,?_⟩)
      ·rw [if_neg (by omega)]
      ·rw [if_neg (by omega)]
      ·rw [if_pos (by omega)]
      ·rw [if_pos (by omega)]
    ·intro E V
     have ci:=V.size;have an: ∀k,E.heap.size≤k→Loc S w E k:=fun k d=>⟨hS k (by omega),by omega⟩;have bo:IsMaker E mb (Loc S w E) L:=(hm.mono_lt (fun k d h=>⟨h,by omega⟩)).near V;have am: ¬Loc S w E J:=fun h=>aq h.1;have ao: ¬Loc S w E z:=fun h=>aw h.1;have nA: ∀k,D.ownBlock=some k→ ¬Loc S w E k:=fun k d h=>hA k d h.1;have nB: ∀k,C.ownBlock=some k→ ¬Loc S w E k:=fun k d h=>hB k d h.1;have a4: ∀k,D.ownBlock=some k→k≠z:=by
      rintro k d rfl;have⟨es,G,hb,_⟩:=a;exact jY m.rowa hb d
     have a8: ∀k,C.ownBlock=some k→k≠z:=by
      rintro k d rfl;have⟨es,G,hb,_⟩:=a;exact jY m.rowb hb d
     have a0:J≠z:=by
      rintro rfl;have⟨es,G,hb,_⟩:=a;rw [m.pbk]at hb
      cases hb
     have ah:=m.kept V (R:=fun _=>False) ⟨id,fun _ _=>id,fun _ _=>id⟩;have U: ∀X N:World,Kept (fun k=>Loc S w E k∨k=z) X N→Kept (Loc (fun k=>S k∨k=z) w E) X N:=fun X N h=>h.mono (fun k _ d=>by
      rcases d with d|rfl
      ·exact⟨vu d.1,d.2⟩
      ·exact⟨vv rfl,by omega⟩)
     have af: ∀X N:World,JEnv X J mb z D C ra rb o p→Kept (fun k=>Loc S w E k∨k=z) X N→JEnv N J mb z D C ra rb o p:=fun X N he h=>
      he.kept h ⟨fun hh=>hh.elim am a0,fun k d hh=>hh.elim (nA k d) (a4 k d),fun k d hh=>hh.elim (nB k d) (a8 k d)⟩
     refine(ih (Loc S w E) (cof0 i t) (cof0 i u) L n M E (by omega) ia.1 ib.1 g (by omega) (by omega) an ah bo (a.kept V id) j am ao nA nB _ _ rfl rfl).mono ?_;rintro e w2 ⟨s0,K0,n0,M0,rfl,bf,az,cj,bj,g0,bi,a1,av,A,bz,bx⟩;refine⟨_,rfl,U _ _ A,fun w3 O=> ?_⟩;have cd:=A.size;have cc:=O.size;have bg:=af _ _ ah A;have ab:=bg.kept O (R:=fun _=>False) ⟨id,fun _ _=>id,fun _ _=>id⟩;refine(ih (Loc S w E) (cof1 i t) (cof1 i u) (L++K0) n0 M0 w3 (by omega) ia.2 ib.2 g0 (by omega) (by omega) (fun k d=>an k (by omega)) ab (bi.near O) (a1.kept O id) av am ao nA nB _ _ rfl rfl).mono ?_;rintro e w4 ⟨s1,K1,n1,M1,rfl,bd,bh,cl,bt,g1,bn,a7,ar,B,b1,bw⟩;refine⟨_,rfl,U _ _ B,fun w5 Q=> ?_⟩;have b9:=B.size;have b7:=Q.size;have a3:=af _ _ ab B;have b4:=a3.kept Q (R:=fun _=>False) ⟨id,fun _ _=>id,fun _ _=>id⟩;have l0:=ca.2.2.1;have l1:=ca.2.2.2.1;have l2:=cb.2.2.1;have l3:=cb.2.2.2.1;have Y:In (L++K0++K1) s0:=bf.mono K1;refine(xf (S:=Loc S w E) g1 (i:=i) Y bd (by omega) (by omega) (fun k d=>an k (by omega)) (bn.near Q) rfl (by rw [pl_append bf]) rfl).mono ?_;rintro e w6 ⟨rfl,ay,H⟩;have⟨K2,bm⟩:=add_prefix (L++K0++K1) i s0 s1;have aj:=add_len (L++K0++K1) i s0 s1;have a9:=add_good g1 Y bd (i:=i) (by omega) (by omega) (by omega) az bh;have P:=add_in (L:=L++K0++K1) (i:=i) (l:=s0) (h:=s1) Y;rw [bm]at aj a9 P ay⊢;have b8:=wt P;refine⟨_,rfl,H.mono (fun k _ d=>⟨vu d.1,d.2⟩),wf_nat (by omega),n1,M1,by omega,(a7.kept Q id).kept H ao,fun w7 bb=> ?_⟩;have f:L++K0++K1++K2=L++(K0++K1++K2):=by simp
     refine⟨mk i s0 s1,K0++K1++K2,by rw [f],by rw [←f];exact P,mk_ok (by omega) (by omega) (by omega) az bh,?_,fun c=> ?_,by rw [←f];exact a9,?_,?_,?_,?_,by omega⟩
     ·have:=mk_lv (i:=i) (l:=s0) (h:=s1) (by omega)
      omega
     ·rw [mk_ev,bj,bt,ca.2.2.2.2 c,cb.2.2.2.2 c]
      split<;>rfl
     ·rw [←f]
      exact(ay.mono (fun k h=>h.1)).near bb
     ·rw [←f]
      exact(ar.mono K2)
     ·have a5: ∀X N:World,Kept (fun k=>Loc S w E k∨k=z) X N→Kept (fun k=>S k∨k=z) X N:=fun X N h=>h.mono (fun k _ d=>d.imp (·.1) id)
      exact(((((V.kept.trans (a5 _ _ A)).trans O.kept).trans (a5 _ _ B)).trans Q.kept).trans (H.mono (fun k _ h=>vu h.1))).trans bb.kept
     ·rw [←f]
      omega
    ·rintro e I ⟨r,n7,M7,w7,rfl,⟨s,K,rfl,bc,be,a6,ba,hg,bq,bl,br,bp,cf⟩,ap,a2⟩
     refine⟨s,K,n7+1,_,rfl,bc,be,a6,ba,hg,?_,ap,?_,a2.kept br (fun _=>vv rfl),bp,by omega⟩
     ·exact bq.of_kept (R:=fun k=>k=z) (a2.kept (Kept.refl _ _) (fun _=>rfl)) (fun k _ d e=>aw (e▸d))
     ·rintro bu v (⟨rfl,rfl⟩|⟨_,hv⟩)
      ·exact⟨t,u,s,Z,hu,rfl,bc,be,rfl,a6,ba⟩
      ·exact bl bu v hv
def q7Y(w:World)(asv bsv:Value)(ra rb:Int)(s7:Value)(wx:World):Prop:=
 ∃pb mb kb sk,s7= .pointer (some ⟨pb,0,none⟩)/\wx.heap[pb]? =some (.cells #[.pointer (some ⟨mb,0,none⟩),asv,.int .i64 ra,bsv,.int .i64 rb,.map (some sk)] 260 (0,0))/\
  wx.heap[mb]? =some (.cells #[.slice none 0 0,.map (some kb)] 194 (0,0))/\wx.heap[kb]? =some (.map #[] 0)/\wx.heap[sk]? =some (.map #[] 0)/\kb≠sk/\Near w wx/\
  w.heap.size<=pb/\w.heap.size<=mb/\w.heap.size<=kb/\w.heap.size<=sk
def q8n(w:World)(Fin:Value->Int->World->Prop)(e:Ending)(w':World):Prop:=
 ∃sv r w4 b,e= .returned (.agg #[sv,.int .i64 r])/\Fin sv r w4/\w.heap.size<=b/\w4.heap[b]? =some (.cells #[.slice none 0 0,.int .i64 0] 43 (0,0))/\w'=(w4.setCell ⟨b,0,none⟩ sv).setCell ⟨b,1,none⟩ (.int .i64 r)
theorem q0b(F:Nat)(asv bsv:Value)(ra rb:Int)(w:World)(Fin:Value→Int→World→Prop)
 (H: ∀w1 pb mb kb sk,Near w w1→w1.heap[pb]? =some (vk #[vg (some ⟨mb,0,none⟩),asv,ve vp ra,bsv,ve vp rb,.map (some sk)] 260 (0,0))→
   w1.heap[mb]? =some (vk #[vd none 0 0,.map (some kb)] 194 (0,0))→w1.heap[kb]? =some (.map #[] 0)→w1.heap[sk]? =some (.map #[] 0)→kb≠sk→
   w.heap.size≤pb→w.heap.size≤mb→w.heap.size≤kb→w.heap.size≤sk→
   RetI 200 #[vg (some ⟨pb,0,none⟩),ve vp ra,ve vp rb,.func (.func F) #[] #[]] w1 fun r w2=>Kept (fun k=>k=mb∨k=kb∨k=sk∨w1.heap.size≤k) w1 w2∧
   ∀w3,Near w2 w3→Calls qj 69 #[vg (some ⟨mb,0,none⟩),ve vp r] w3 fun e w4=> ∃ao n cap rr,e=vm (vi #[vd ao n cap,ve vp rr])∧Near w3 w4∧ ∀w5,Near w4 w5→Fin (vd ao n cap) rr w5):
 Calls qj 145 #[vi #[asv,ve vp ra],vi #[bsv,ve vp rb],.func (.func F) #[] #[]] w (q8n w Fin):=by
 have hmm:= @run_makeMap qj;have HH:=q8 H;go_enter Tryz.func145,Tryz.ntmps145;go_upto_region 1 with fail
 have hA:(((w.alloc (vk #[asv,ve vp ra] 43)).alloc (vk #[bsv,ve vp rb] 43)).alloc (vk #[vd none 0 0,ve vp 0] 43)).heap[w.heap.size]? =some (vk #[asv,ve vp ra] 43 (0,0)):=
  (qD (by simp<;>omega)).trans ((qD (by simp)).trans (heap_new_at rfl))
 have hB:(((w.alloc (vk #[asv,ve vp ra] 43)).alloc (vk #[bsv,ve vp rb] 43)).alloc (vk #[vd none 0 0,ve vp 0] 43)).heap[w.heap.size+1]? =some (vk #[bsv,ve vp rb] 43 (0,0)):=
  (qD (by simp)).trans (heap_new_at (by simp))
 have hC:(((w.alloc (vk #[asv,ve vp ra] 43)).alloc (vk #[bsv,ve vp rb] 43)).alloc (vk #[vd none 0 0,ve vp 0] 43)).heap[w.heap.size+1+1]? =some (vk #[vd none 0 0,ve vp 0] 43 (0,0)):=
  heap_new_at (by simp)
 have hN:Near w (((w.alloc (vk #[asv,ve vp ra] 43)).alloc (vk #[bsv,ve vp rb] 43)).alloc (vk #[vd none 0 0,ve vp 0] 43)):=(((Near.refl w).alloc _).alloc _).alloc _;have hsz:w.heap.size+1+1<(((w.alloc (vk #[asv,ve vp ra] 43)).alloc (vk #[bsv,ve vp rb] 43)).alloc (vk #[vd none 0 0,ve vp 0] 43)).heap.size:=by simp
 generalize(((w.alloc (vk #[asv,ve vp ra] 43)).alloc (vk #[bsv,ve vp rb] 43)).alloc (vk #[vd none 0 0,ve vp 0] 43))=W at hA hB hC hN hsz⊢;have a0:W.cell? ⟨w.heap.size,0,none⟩=some asv:=cell1 hA rfl;have a1:W.cell? ⟨w.heap.size,1,none⟩=some (ve vp ra):=cell1 hA rfl;have b0:W.cell? ⟨w.heap.size+1,0,none⟩=some bsv:=cell1 hB rfl;have b1:W.cell? ⟨w.heap.size+1,1,none⟩=some (ve vp rb):=cell1 hB rfl;have HC:=q8 hC;have sOf: ∀w',Near W w'→w'.cell? ⟨w.heap.size,0,none⟩=some asv∧w'.cell? ⟨w.heap.size,1,none⟩=some (ve vp ra)∧w'.cell? ⟨w.heap.size+1,0,none⟩=some bsv∧w'.cell? ⟨w.heap.size+1,1,none⟩=some (ve vp rb)∧Near W w':=
  fun w' h=>⟨h.cell a0,h.cell a1,h.cell b0,h.cell b1,h⟩
 go_cut [7] (fun s7 wx=>q7Y W asv bsv ra rb s7 wx)
 case first=>
  go_region_held3 (fun w'=>w'.cell? ⟨w.heap.size,0,none⟩=some asv∧w'.cell? ⟨w.heap.size,1,none⟩=some (ve vp ra)∧w'.cell? ⟨w.heap.size+1,0,none⟩=some bsv∧w'.cell? ⟨w.heap.size+1,1,none⟩=some (ve vp rb)∧Near W w')
   ((refine sOf _ ?_;repeat(first|exact Near.refl _|refine Near.drew ?_|refine Near.alloc ?_ _|refine Near.drewN ?_ _)))
   (first
     |(go_at_call 67;refine(xR _).mono ?_;rintro e w' ⟨rfl,rfl⟩))
  all_goals
   go_wp2_with fail
   go_meet
   iterate 4 apply Exists.intro
   refine⟨rfl,?_,?_,?_,?_,?_,?_,?_,?_,?_,?_⟩
   ·((try rw [kR]);(try rw [heap_at_drewN]);repeat(first|(refine heap_new_at ?_;(simp;done))|refine(qD (by simp<;>omega)).trans ?_))
   ·((try rw [kR]);(try rw [heap_at_drewN]);repeat(first|(refine heap_new_at ?_;(simp;done))|refine(qD (by simp<;>omega)).trans ?_))
   ·((try rw [kR]);(try rw [heap_at_drewN]);repeat(first|(refine heap_new_at ?_;(simp;done))|refine(qD (by simp<;>omega)).trans ?_))
   ·((try rw [kR]);(try rw [heap_at_drewN]);repeat(first|(refine heap_new_at ?_;(simp;done))|refine(qD (by simp<;>omega)).trans ?_))
   ·first|omega|(simp;done)
   ·repeat(first|exact Near.refl _|refine Near.drew ?_|refine Near.alloc ?_ _|refine Near.drewN ?_ _)
   ·omega
   ·omega
   ·omega
   ·omega
 case rest=>
  obtain⟨pb,mb,kb,sk,rfl,hpb,hmb,hkb,hsk,hks,hn,g1,g2,g3,g4⟩:=hcut;have p0:wc.cell? ⟨pb,0,none⟩=some (vg (some ⟨mb,0,none⟩)):=cell1 hpb rfl;have a1':=hn.cell a1;have b1':=hn.cell b1;have hz:=hn.size;have hw:=hN.size;have H1:=q8 (HH.out wc.drew pb mb kb sk (hN.trans hn).drew hpb hmb hkb hsk hks (by omega) (by omega) (by omega) (by omega));have hpl:pb<wc.heap.size:=(qk.1 hpb).1;have n1:pb≠mb:=by rintro rfl;rw [hpb]at hmb;cases hmb
  have n2:pb≠kb:=by rintro rfl;rw [hpb]at hkb;cases hkb
  have n3:pb≠sk:=by rintro rfl;rw [hpb]at hsk;cases hsk
  have HP:=q8 hpb;have HC2:Hid (wc.heap[w.heap.size+1+1]? =some (vk #[vd none 0 0,ve vp 0] 43 (0,0))):=(hn.block _ (by omega) id).trans HC.out;have s0:wc.drew.cell? ⟨pb,0,none⟩=some (vg (some ⟨mb,0,none⟩))∧wc.drew.cell? ⟨w.heap.size,1,none⟩=some (ve vp ra)∧wc.drew.cell? ⟨w.heap.size+1,1,none⟩=some (ve vp rb):=⟨p0,a1',b1'⟩;have sK: ∀wb:World,Kept (fun k=>k=mb∨k=kb∨k=sk∨wc.drew.heap.size≤k) wc.drew wb→wb.cell? ⟨pb,0,none⟩=some (vg (some ⟨mb,0,none⟩))∧wb.cell? ⟨w.heap.size,1,none⟩=some (ve vp ra)∧wb.cell? ⟨w.heap.size+1,1,none⟩=some (ve vp rb):=fun wb h=>by
   have hd:wc.drew.heap.size=wc.heap.size:=rfl;exact⟨h.cell s0.1 (by omega),h.cell s0.2.1 (by omega),h.cell s0.2.2 (by omega)⟩
  have cK: ∀wa wb:World,Kept (fun k=>k=mb∨k=kb∨k=sk∨wc.drew.heap.size≤k) wc.drew wa→Near wa wb→wb.heap[w.heap.size+1+1]? =some (vk #[vd none 0 0,ve vp 0] 43 (0,0)):=fun wa wb h h'=>by
   have hd:wc.drew.heap.size=wc.heap.size:=rfl;have hs:=h.size;exact(h'.block _ (by omega) id).trans ((h.block _ (by omega) (by omega)).trans HC2.out)
  have sN: ∀wa wb:World,Near wa wb→(wa.cell? ⟨pb,0,none⟩=some (vg (some ⟨mb,0,none⟩))∧wa.cell? ⟨w.heap.size,1,none⟩=some (ve vp ra)∧wa.cell? ⟨w.heap.size+1,1,none⟩=some (ve vp rb))→
   (wb.cell? ⟨pb,0,none⟩=some (vg (some ⟨mb,0,none⟩))∧wb.cell? ⟨w.heap.size,1,none⟩=some (ve vp ra)∧wb.cell? ⟨w.heap.size+1,1,none⟩=some (ve vp rb)):=fun wa wb h s=>⟨h.cell s.1,h.cell s.2.1,h.cell s.2.2⟩
  have sS: ∀(wa:World)(v0 v1:Value),(wa.cell? ⟨pb,0,none⟩=some (vg (some ⟨mb,0,none⟩))∧wa.cell? ⟨w.heap.size,1,none⟩=some (ve vp ra)∧wa.cell? ⟨w.heap.size+1,1,none⟩=some (ve vp rb))→
   (((wa.setCell ⟨w.heap.size+1+1,0,none⟩ v0).setCell ⟨w.heap.size+1+1,1,none⟩ v1).cell? ⟨pb,0,none⟩=some (vg (some ⟨mb,0,none⟩))∧((wa.setCell ⟨w.heap.size+1+1,0,none⟩ v0).setCell ⟨w.heap.size+1+1,1,none⟩ v1).cell? ⟨w.heap.size,1,none⟩=some (ve vp ra)∧((wa.setCell ⟨w.heap.size+1+1,0,none⟩ v0).setCell ⟨w.heap.size+1+1,1,none⟩ v1).cell? ⟨w.heap.size+1,1,none⟩=some (ve vp rb)):=fun wa v0 v1 s=>by
   have e: ∀k o,k≠w.heap.size+1+1→((wa.setCell ⟨w.heap.size+1+1,0,none⟩ v0).setCell ⟨w.heap.size+1+1,1,none⟩ v1).cell? ⟨k,o,none⟩=wa.cell? ⟨k,o,none⟩:=fun k o hk=>
    World.cell?_of_block (w:=wa) ((zg _ _ _ _ hk).trans (zg _ _ _ _ hk))
   exact⟨(e _ _ (by omega)).trans s.1,(e _ _ (by omega)).trans s.2.1,(e _ _ (by omega)).trans s.2.2⟩
  go_upto_region 2 with fail
  go_region_held3 (fun w'=>w'.cell? ⟨pb,0,none⟩=some (vg (some ⟨mb,0,none⟩))∧w'.cell? ⟨w.heap.size,1,none⟩=some (ve vp ra)∧w'.cell? ⟨w.heap.size+1,1,none⟩=some (ve vp rb))
   (first
     |exact s0
     |exact sK _ hk2
     |exact sN _ _ hn4 ‹_∧_∧_›
     |exact sS _ _ _ ‹_∧_∧_›)
   (first
     |(go_at_call 200;refine(H1.out).mono ?_;rintro e w2 ⟨r,rfl,hk2,hc2⟩;have H2:=q8 hc2)
     |(go_at_call 69;refine(H2.out _ (Near.refl _)).mono ?_;rintro e w4 ⟨ao,n,cap,rr,rfl,hn4,hf⟩;have HF:=q8 hf;have E4:=q8 (cK _ _ hk2 hn4);have q0:w4.cell? ⟨w.heap.size+1+1,0,none⟩=some (vd none 0 0):=cell1 E4.out rfl;have q1:w4.cell? ⟨w.heap.size+1+1,1,none⟩=some (ve vp 0):=cell1 E4.out rfl;have f0:=zQ E4.out 0;have f1:=zQ E4.out 1))
  go_wp2_with fail
  exact qo (v:=vi #[vd ao n cap,ve vp rr]) (by simp [qC,Tryz.results145,go_sem,q0,q1]) rfl ⟨_,rr,w4,w.heap.size+1+1,rfl,HF.out _ (Near.refl _),by omega,E4.out,rfl⟩
def DEv(w:World)(f:(Nat->Bool)->Bool)(e:Ending)(w':World):Prop:= ∃s:T,(∀c,s.ev c=f c)/\q4i w s e w'
theorem xF{kb:Nat}(a:w.heap[c]? =some (vk #[vd none 0 0,.map (some kb)] 194 (0,0)))(b:w.heap[kb]? =some (.map #[] 0))(s1:S c)(s2:S kb):IsMaker w c S []:=
 ⟨vd none 0 0,kb,0,a,qW _ _ _ _,(mapIs.empty b).congr (fun x u=>by simp [known]),qt _,s1,s2,fun k d=>by simp [Value.ownBlock]at d⟩
theorem In.ok(g:T.Good L)(h:In L t):t.Ok:=by
 cases t with
 |leaf=>trivial
 |node i l r=>exact(g.all _ h).2
theorem Qb{o:Bool→Bool→Bool}(V:q7B F o sc){va vb:Value}{j:T}(ha:IsD w va f)(J:IsD w vb j):
 Calls qj 145 #[va,vb,.func (.func F) #[] #[]] w (DEv w (fun c=>o (f.ev c) (j.ev c))):=by
 obtain⟨A,R,rfl,ra⟩:=ha;obtain⟨u,Y,rfl,rb⟩:=J;have ga:=yX A;have gb:=yX u;have la:=kH A;have lb:=kH u;refine(q0b F R Y (pl (nodes f) f:Nat) (pl (nodes j) j:Nat) w (fun N rr P=> ∃s:T,(∀c,s.ev c=o (f.ev c) (j.ev c))∧IsD P (vi #[N,ve vp rr]) s∧Below w.heap.size w P) ?_).mono ?_
 ·intro B U O Q sk d l a q p af b1 b2 b3 b4
  have hm:=xF (S:=fun k=>k=O∨k=Q∨B.heap.size≤k) a q (vu rfl) (vv (vu rfl));have ad:U<B.heap.size:=(qk.1 l).1;have ag:sk<B.heap.size:=(qk.1 p).1;have hz:=d.size;have n1:U≠O:=by rintro rfl;rw [l]at a;cases a
  have n2:U≠Q:=by rintro rfl;rw [l]at q;cases q
  have n3:sk≠O:=by rintro rfl;rw [p]at a;cases a
  have ae:=q77 f j;have m: ∀{L:List T},T.Good L→ ∀t,In L t→t.Ok:=fun g t h=>In.ok g h;refine(Gq V ga gb (by omega) (by omega) (m ga) (m gb) (24 - min f.lv j.lv) (fun k=>k=O∨k=Q∨B.heap.size≤k) f j [] 0 (fun _ _=>False) B (qt _) (xr f) (xr j) .nil
   (by simp;omega) (by omega) (fun k C=>vv (vv C)) ⟨l,owns_kept ra d (fun _ _=>id),owns_kept rb d (fun _ _=>id)⟩ hm (mapIs.empty p) (fun _ _ h=>h.elim) (by omega) (by omega) ?_ ?_ _ _ rfl rfl).mono ?_
  ·intro k C
   have:=(ra.lt k C).2
   omega
  ·intro k C
   have:=(rb.lt k C).2
   omega
  ·rintro e w2 ⟨s,K,n',M,rfl,aa,Z,_,n,g,mk,_,_,z,y,_⟩
   refine⟨_,rfl,z.mono (fun k _ h=>by omega),fun w3 D=> ?_⟩;refine(xh g (by simp at y⊢;omega) aa Z (mk.near D) rfl).mono ?_;rintro e w4 ⟨v,rfl,⟨X,N,rfl,E⟩,i⟩;obtain⟨ao,W,rfl⟩:=qR E;refine⟨ao,_,W,_,rfl,Near.of_below i,fun P H=>⟨s,n,⟨X,_,rfl,owns_kept E H (fun _ _=>id)⟩,?_⟩⟩;have h1:Kept (fun k=>w.heap.size≤k) w w2:=d.kept.trans (z.mono fun k _ h=>by omega);exact(((h1.trans D.kept).trans (Near.of_below i).kept).trans H.kept).below (qt _)
 ·rintro e w' ⟨N,r,w4,b,rfl,⟨s,n,⟨Z,ab,I,E⟩,i⟩,J,G,rfl⟩
  simp only [qY,za,qJ,and_true]at I;obtain⟨rfl,I⟩:=I;have x:=vV E G (by decide:(177:Nat)≠43);exact⟨s,n,_,rfl,⟨Z,N,by rw [I],ownsRow_setCell_other (ownsRow_setCell_other E x _) x _⟩,(i.setCell J _).setCell J _⟩
theorem IsD.near(h:IsD w v t)(a:Near w w'):IsD w' v t:=h.below a.below
theorem xS{d:Value}{r:Int}{b:Nat}{x y:Value}(h:IsD w (vi #[d,ve vp r]) t)(f:w.heap[b]? =some (vk #[x,y] 43 (0,0))):
 IsD ((w.setCell b d).setCell (vw b 1) (ve vp r)) (vi #[d,ve vp r]) t:=by
 have⟨i,g,c,e⟩:=h;simp only [qY,za,qJ,and_true]at c;obtain⟨rfl,c⟩:=c;have a:=vV e f (by decide:(177:Nat)≠43);exact⟨i,d,by rw [c],ownsRow_setCell_other (ownsRow_setCell_other e a _) a _⟩
theorem IsD.form(h:IsD w v t): ∃b n a,v=vi #[vd b n a,ve vp (pl (nodes t) t:Nat)]/\n=(nodes t).length:=by
 obtain⟨e,d,rfl,c⟩:=h;obtain⟨b,a,rfl⟩:=qR c;exact⟨b,_,a,rfl,rfl⟩
theorem q2C{t:Value}(u:IsD w t a)(l:IsD w q b):
 Calls qj 74 #[t,q] w (DEv w (fun c=>a.ev c&&b.ev c)):=by
 obtain⟨x,n,d,rfl,-⟩:=u.form;obtain⟨p,m,f,rfl,-⟩:=l.form;have B:=q8 u;have D:=q8 l;go_enter Tryz.func74,Tryz.ntmps74;go_wp2_with fail
 have C:(((w.alloc (vk #[vd x n d,ve vp (pl (nodes a) a:Nat)] 43)).alloc (vk #[vd p m f,ve vp (pl (nodes b) b:Nat)] 43)).alloc (vk #[vd none 0 0,ve vp 0] 43)).heap[w.heap.size+1+1]? =some (vk #[vd none 0 0,ve vp 0] 43 (0,0)):=heap_new_at (by simp);have h:Near w (((w.alloc (vk #[vd x n d,ve vp (pl (nodes a) a:Nat)] 43)).alloc (vk #[vd p m f,ve vp (pl (nodes b) b:Nat)] 43)).alloc (vk #[vd none 0 0,ve vp 0] 43)):=(((Near.refl w).alloc _).alloc _).alloc _;have y:=q8 C;refine(Qb q5O (B.near h) (D.near h)).mono ?_;rintro e o ⟨s,i,v,rfl,r,g⟩;obtain⟨G,k,j,rfl,-⟩:=r.form;have E:=q8 ((g.block _ (qk.1 y).1).trans y);have A:o.cell? (vw (w.heap.size+1+1) 0)=some (vd none 0 0):=cell1 E rfl;have H:o.cell? (vw (w.heap.size+1+1) 1)=some (ve vp 0):=cell1 E rfl;have I:=zQ E 0;have J:=zQ E 1;have z:=q8 r;go_wp2_with fail
 exact qo (v:=vi #[vd G k j,ve vp (pl (nodes s) s:Nat)]) (by simp [qC,Tryz.results74,go_sem,A,H]) rfl
  ⟨s,i,_,rfl,xS z E,(((h.below.trans (g.mono h.size)).setCell (by show w.heap.size<=w.heap.size+1+1;omega) _).setCell (by show w.heap.size<=w.heap.size+1+1;omega) _)⟩
theorem q3D{t:Value}(u:IsD w t a)(l:IsD w q b):
 Calls qj 148 #[t,q] w (DEv w (fun c=>a.ev c||b.ev c)):=by
 obtain⟨x,n,d,rfl,-⟩:=u.form;obtain⟨p,m,f,rfl,-⟩:=l.form;have B:=q8 u;have D:=q8 l;go_enter Tryz.func148,Tryz.ntmps148;go_wp2_with fail
 have C:(((w.alloc (vk #[vd x n d,ve vp (pl (nodes a) a:Nat)] 43)).alloc (vk #[vd p m f,ve vp (pl (nodes b) b:Nat)] 43)).alloc (vk #[vd none 0 0,ve vp 0] 43)).heap[w.heap.size+1+1]? =some (vk #[vd none 0 0,ve vp 0] 43 (0,0)):=heap_new_at (by simp);have h:Near w (((w.alloc (vk #[vd x n d,ve vp (pl (nodes a) a:Nat)] 43)).alloc (vk #[vd p m f,ve vp (pl (nodes b) b:Nat)] 43)).alloc (vk #[vd none 0 0,ve vp 0] 43)):=(((Near.refl w).alloc _).alloc _).alloc _;have y:=q8 C;refine(Qb q1a (B.near h) (D.near h)).mono ?_;rintro e o ⟨s,i,v,rfl,r,g⟩;obtain⟨G,k,j,rfl,-⟩:=r.form;have E:=q8 ((g.block _ (qk.1 y).1).trans y);have A:o.cell? (vw (w.heap.size+1+1) 0)=some (vd none 0 0):=cell1 E rfl;have H:o.cell? (vw (w.heap.size+1+1) 1)=some (ve vp 0):=cell1 E rfl;have I:=zQ E 0;have J:=zQ E 1;have z:=q8 r;go_wp2_with fail
 exact qo (v:=vi #[vd G k j,ve vp (pl (nodes s) s:Nat)]) (by simp [qC,Tryz.results148,go_sem,A,H]) rfl
  ⟨s,i,_,rfl,xS z E,(((h.below.trans (g.mono h.size)).setCell (by show w.heap.size<=w.heap.size+1+1;omega) _).setCell (by show w.heap.size<=w.heap.size+1+1;omega) _)⟩
theorem q05{t:Value}(u:IsD w t a)(l:IsD w q b):
 Calls qj 243 #[t,q] w (DEv w (fun c=>a.ev c !=b.ev c)):=by
 obtain⟨x,n,d,rfl,-⟩:=u.form;obtain⟨p,m,f,rfl,-⟩:=l.form;have B:=q8 u;have D:=q8 l;go_enter Tryz.func243,Tryz.ntmps243;go_wp2_with fail
 have C:(((w.alloc (vk #[vd x n d,ve vp (pl (nodes a) a:Nat)] 43)).alloc (vk #[vd p m f,ve vp (pl (nodes b) b:Nat)] 43)).alloc (vk #[vd none 0 0,ve vp 0] 43)).heap[w.heap.size+1+1]? =some (vk #[vd none 0 0,ve vp 0] 43 (0,0)):=heap_new_at (by simp);have h:Near w (((w.alloc (vk #[vd x n d,ve vp (pl (nodes a) a:Nat)] 43)).alloc (vk #[vd p m f,ve vp (pl (nodes b) b:Nat)] 43)).alloc (vk #[vd none 0 0,ve vp 0] 43)):=(((Near.refl w).alloc _).alloc _).alloc _;have y:=q8 C;refine(Qb q7e (B.near h) (D.near h)).mono ?_;rintro e o ⟨s,i,v,rfl,r,g⟩;obtain⟨G,k,j,rfl,-⟩:=r.form;have E:=q8 ((g.block _ (qk.1 y).1).trans y);have A:o.cell? (vw (w.heap.size+1+1) 0)=some (vd none 0 0):=cell1 E rfl;have H:o.cell? (vw (w.heap.size+1+1) 1)=some (ve vp 0):=cell1 E rfl;have I:=zQ E 0;have J:=zQ E 1;have z:=q8 r;go_wp2_with fail
 exact qo (v:=vi #[vd G k j,ve vp (pl (nodes s) s:Nat)]) (by simp [qC,Tryz.results243,go_sem,A,H]) rfl
  ⟨s,i,_,rfl,xS z E,(((h.below.trans (g.mono h.size)).setCell (by show w.heap.size<=w.heap.size+1+1;omega) _).setCell (by show w.heap.size<=w.heap.size+1+1;omega) _)⟩
theorem q5I:pl L t=0↔t=leaf false:=by
 cases t with
 |leaf b=>cases b<;>simp [pl]
 |node i l h=>have:=kF (L:=L) i l h;simp;omega
theorem GC(b:Value)(r:Nat)(w:World):
 Calls qj 19 #[vi #[b,ve vp r]] w fun e a=>e=vm (vj ((r:Int)==0))/\Near w a:=by
 go_enter Tryz.func19,Tryz.ntmps19;go_wp2
 go_ret;exact⟨rfl,(Near.refl w).alloc _⟩
theorem VU(h:IsD w v t):Calls qj 19 #[v] w fun e a=>e=vm (vj (decide (t=leaf false)))/\Near w a:=by
 obtain⟨d,n,b,rfl,_⟩:=h.form;refine(GC _ _ w).mono ?_;rintro e a ⟨rfl,c⟩;refine⟨?_,c⟩;congr 2;rw [Bool.eq_iff_iff,beq_iff_eq,decide_eq_true_iff,<-q5I (L:=nodes t)];omega
theorem Jp(w:World)(b:Bool):IsD w (vi #[vd none 0 0,ve vp (b.toNat:Nat)]) (leaf b):=
 ⟨trivial,vd none 0 0,by rw [pl_leaf],qW _ _ _ _⟩
theorem VR(w:World):Calls qj 242 #[] w (q4i w (leaf false)):=by
 go_enter Tryz.func242,Tryz.ntmps242;go_wp2
 exact qo (v:=vi #[vd none 0 0,ve vp 0]) (by simp [qC,Tryz.results242,go_sem]) rfl ⟨_,rfl,Jp _ false,(Below.refl _ w).alloc (qt _) _⟩
theorem WI(w:World):Calls qj 22 #[] w (q4i w (leaf true)):=by
 go_enter Tryz.func22,Tryz.ntmps22;go_wp2
 exact qo (v:=vi #[vd none 0 0,ve vp 1]) (by simp [qC,Tryz.results22,go_sem]) rfl ⟨_,rfl,Jp _ true,(Below.refl _ w).alloc (qt _) _⟩
theorem q6X(i:Nat)(h:i<24)(w:World):Calls qj 201 #[ve vp i] w fun e a=> ∃v,e=vm (.tuple #[v,ve vp 0])/\IsD a v (node i (leaf false) (leaf true))/\Near w a:=by
 have g: ¬(i:Int)<0:=by omega
 have f: ¬(24:Int)<=(i:Int):=by omega
 go_enter Tryz.func201,Tryz.ntmps201;go_wp2
 refine qo (v:= .tuple #[vi #[vd (some ⟨w.heap.size+1,0,none⟩) 1 1,ve vp 2],ve vp 0]) (by simp [qC,Tryz.results201,go_sem]) rfl ⟨_,rfl,?_,?_⟩
 .have d:(node i (leaf false) (leaf true)).Ok:=⟨h,h,h,by simp,trivial,trivial⟩
  have b:nodes (node i (leaf false) (leaf true))=[node i (leaf false) (leaf true)]:=by simp [nodes,go]
  have c:pl [node i (leaf false) (leaf true)] (node i (leaf false) (leaf true))=2:=by simp [pl]
  refine⟨d,vd (some ⟨w.heap.size+1,0,none⟩) 1 1,by rw [b,c];rfl,?_⟩;rw [b];exact⟨rfl,vv ⟨w.heap.size+1,1,#[ve vp i,ve vp 0,ve vp 1],rfl,qv _,heap_new_at (by simp),qt _,by unfold maxLen;omega,rfl,rfl⟩⟩
 .exact((Near.refl w).alloc _).alloc _
theorem q3R(L:List T)(g:T.Good L)(hlen:L.length<1099511627776)(sv:Value)(t0:T)(hin:In L t0)(c:Nat)(hc:c<4294967296)(w:World)(hr:w.ownsRow 0 177 3 sv L.length (cellsOf (enc L))):
 Calls qj 42 #[vi #[sv,ve vp (pl L t0:Nat)],ve vr c] w fun e w'=>e=vm (vj (t0.ev (fun i=>c.testBit i)))/\Near w w':=by
 have HR:=q8 hr;have a0:(w.alloc (vk #[sv,ve vp (pl L t0:Nat)] 43)).cell? w.heap.size=some sv:=by simp
 have hN:Near w (w.alloc (vk #[sv,ve vp (pl L t0:Nat)] 43)):=(Near.refl w).alloc _;go_enter Tryz.func42,Tryz.ntmps42;go_wp2_with fail
 go_loopw [5] (fun r wr=> ∃t:T,In L t/\r=ve vp (pl L t:Nat)/\t.ev (fun i=>c.testBit i)=t0.ev (fun i=>c.testBit i)/\Near (w.alloc (vk #[sv,ve vp (pl L t0:Nat)] 43)) wr) (fun r _=>(intOf r).toNat)
 case atStart=>exact⟨t0,hin,rfl,rfl,Near.refl _⟩
 case round=>
  obtain⟨t,ht,rfl,hev,hn⟩:=hrel;have b0:=hn.cell a0
  cases t with
  |leaf b=>
   have hp:((pl L (leaf b):Nat):Int)<=1:=by rw [pl_leaf];cases b<;>decide
   have he:(((pl L (leaf b):Nat):Int)==1)=b:=by rw [pl_leaf];cases b<;>rfl
   go_wp2
   go_ret;exact⟨by rw [<-hev];rfl,hN.trans hn⟩
  |node i l h=>
   have hp:=kF (L:=L) i l h;have hpl:=wt ht;have hkd:=g.down (show node i l h∈L from ht);have hk:=g.kids (show node i l h∈L from ht);have hge:(enc L)[pl L (node i l h) - 2]? =some ⟨i,pl L l,pl L h⟩:=by simp [enc,Zs (L:=L) (i:=i) (l:=l) (h:=h) ht,en]
   have hle:(enc L).length=L.length:=by simp [enc]
   obtain⟨gb,cap,hsv,x0,x1,x2⟩:=vI (by rw [hle];exact HR) hge;rw [hle]at hsv;subst hsv;have y0:=hn.cell (hN.cell x0);have y1:=hn.cell (hN.cell x1);have y2:=hn.cell (hN.cell x2);have hi:=(In.ok g ht).1;have hbit:=gD c i hc (by omega);have HB:=q8 hbit;have HE:=q8 hev
   cases hb:c.testBit i with
   |true=>
    have hbt:(bits BinOp.and ug ((c:Int)/2^i) 1==1)=true:=HB.trans hb;have HBT:=q8 hb;go_wp2
    go_roundw
    case rel=>exact⟨h,hk.2,rfl,by rw [<-HE.out];simp [ev,HBT.out],hn.alloc _⟩
    case measure=>simp [intOf];omega
   |false=>
    have hbt:(bits BinOp.and ug ((c:Int)/2^i) 1==1)=false:=HB.trans hb;have HBT:=q8 hb;go_wp2
    go_roundw
    case rel=>exact⟨l,hk.1,rfl,by rw [<-HE.out];simp [ev,HBT.out],hn.alloc _⟩
    case measure=>simp [intOf];omega
theorem q1E(h:IsD w v t)(j:c<4294967296){x:Int}(f:x=c):Calls qj 42 #[v,ve vr x] w fun e d=>e=vm (vj (t.ev (fun i=>c.testBit i)))/\Near w d:=by
 subst f;obtain⟨a,g,rfl,b⟩:=h
 have:=kH a
 exact q3R (nodes t) (yX a) (by omega) g t (xr t) c j w b
theorem JY(L:List T)(g:T.Good L)(hlen:L.length<1099511627776)(ao:Option Addr)(cap:Nat)(r:Int)(w:World)(hr:w.ownsRow 0 177 3 (vd ao L.length cap) L.length (cellsOf (enc L))):
 Calls qj 156 #[vi #[vd ao L.length cap,ve vp r]] w fun e w'=>e=vm (ve vr (sup L:Nat))/\Near w w':=by
 have HR:=q8 hr;clear hr;have a0:(w.alloc (vk #[vd ao L.length cap,ve vp r] 43)).cell? w.heap.size=some (vd ao L.length cap):=by simp
 have hN:Near w (w.alloc (vk #[vd ao L.length cap,ve vp r] 43)):=(Near.refl w).alloc _;go_enter Tryz.func156,Tryz.ntmps156;go_wp2_with fail
 go_loopw [3,9] (fun s i wr=> ∃k:Nat,k<=L.length/\i=ve vp k/\s=ve vr (sup (L.take k):Nat)/\Near (w.alloc (vk #[vd ao L.length cap,ve vp r] 43)) wr) (fun _ i _=>L.length - (intOf i).toNat)
 case atStart=>exact⟨0,qv _,rfl,rfl,Near.refl _⟩
 case round=>
  obtain⟨k,hk,rfl,rfl,hn⟩:=hrel;by_cases hlt:k<L.length
  .have hle:(enc L).length=L.length:=by simp [enc]
   have hge:(enc L)[k]? =some (en L L[k]):=by simp [enc,hlt]
   obtain⟨gb,cap',hsv,x0,x1,x2⟩:=vI (by rw [hle];exact HR) hge;rw [hle]at hsv;simp only [qq,true_and]at hsv;obtain⟨rfl,rfl⟩:=hsv;have hnode:=g.all L[k] (xJ hlt);have hv:(en L L[k]).v=(L[k]).lv:=by
    cases hx:L[k]with
    |leaf b=>rw [hx]at hnode;exact hnode.1.elim
    |node j l' h'=>rfl
   have hl24:(L[k]).lv<24:=by
    cases hx:L[k]with
    |leaf b=>rw [hx]at hnode;exact hnode.1.elim
    |node j l' h'=>rw [hx]at hnode;exact hnode.2.1
   rw [hv]at x0;have hts:sup (L.take (k+1))=sup (L.take k)|||2^ (L[k]).lv:=by rw [zM hlt,q34]
   have y0:=hn.cell (hN.cell x0);have y1:=hn.cell (hN.cell x1);have y2:=hn.cell (hN.cell x2);clear x0 x1 x2 hge hle hv;have HT:=q8 hts;clear hts;obtain⟨lo',hlo⟩: ∃z,z=(en L L[k]).lo:=⟨_,rfl⟩;obtain⟨hi',hhi⟩: ∃z,z=(en L L[k]).hi:=⟨_,rfl⟩;obtain⟨v',hv'⟩: ∃z,z=(L[k]).lv:=⟨_,rfl⟩;rw [<-hv']at y0 hl24;rw [<-hlo]at y1;rw [<-hhi]at y2;have HV:=q8 hv';clear hlo hhi hv' hnode;have hsl:sup (L.take k)<16777216:=q72 fun t ht=>by
    have hm:=g.all t (List.mem_of_mem_take ht)
    cases t with
    |leaf b=>exact hm.1.elim
    |node j l' h'=>exact hm.2.1
   go_wp2
   go_roundw
   case rel=>exact⟨k+1,by omega,by go_num,by rw [HT.out,vG _ _ (by omega) (by omega),HV.out],hn.alloc _⟩
   case measure=>simp [intOf];omega
  .have hkl:k=L.length:=by omega
   subst hkl;go_wp2
   go_ret;exact⟨congrArg (fun z:List T=>Ending.returned (Value.int vr ((sup z:Nat):Int))) (qF (l:=L)),hN.trans hn⟩
theorem gF(h:IsD w v t):Calls qj 156 #[v] w fun e d=>e=vm (ve vr (sup (nodes t):Nat))/\Near w d:=by
 obtain⟨c,g,rfl,b⟩:=h;obtain⟨f,a,rfl⟩:=qR b
 have:=kH c
 exact JY (nodes t) (yX c) (by omega) f a _ w b
theorem u64_in(n:Int)(b:0<=n)(a:n<18446744073709551616):IntKind.u64.wrap n=n:=by
 simp [IntKind.wrap,IntKind.bits,IntKind.signed];omega
theorem U2(i b d a c:Nat)(w:World)(n:i+1<=b)(t:i+1<=a)(r:b<=24)(o:a<=24)(m:d*2^ (b - i - 1)<=16777216)(j:c*2^ (a - i - 1)<=16777216):
 Calls qj 158 #[ve vp i,vi #[ve vp b,ve vt d],vi #[ve vp a,ve vt c]] w fun e l=>
  e=vm (vi #[ve vp i,ve vt ((d*2^ (b - i - 1)+c*2^ (a - i - 1):Nat):Int)])/\Near w l:=by
 have q:(0:Int)<=(b:Int) - i - 1:=by omega
 have u:(0:Int)<=(a:Int) - i - 1:=by omega
 have p:((b:Int) - i - 1).toNat<64:=by omega
 have s:((a:Int) - i - 1).toNat<64:=by omega
 have h:IntKind.u64.wrap ((d:Int)*2^ (b - i - 1))=((d*2^ (b - i - 1):Nat):Int):=by
  rw [show((d:Int)*2^ (b - i - 1))=((d*2^ (b - i - 1):Nat):Int)from by simp];exact u64_in _ (by omega) (by omega)
 have f:IntKind.u64.wrap ((c:Int)*2^ (a - i - 1))=((c*2^ (a - i - 1):Nat):Int):=by
  rw [show((c:Int)*2^ (a - i - 1))=((c*2^ (a - i - 1):Nat):Int)from by simp];exact u64_in _ (by omega) (by omega)
 have g:IntKind.u64.wrap (IntKind.u64.wrap ((d:Int)*2^ (b - i - 1))+IntKind.u64.wrap ((c:Int)*2^ (a - i - 1)))=((d*2^ (b - i - 1)+c*2^ (a - i - 1):Nat):Int):=by
  rw [h,f,u64_in _ (by omega) (by omega)];omega
 have k:=q8 g;clear h f g m j;go_enter Tryz.func158,Tryz.ntmps158;go_wp2
 go_region
 all_goals
  go_wp2
  rw [k.out];exact qo (v:=vi #[ve vp i,ve vt ((d*2^ (b - i - 1)+c*2^ (a - i - 1):Nat):Int)]) (by simp [qC,Tryz.results158,go_sem]) rfl ⟨rfl,(((((Near.refl w).alloc _).alloc _).alloc _)).drew⟩
structure CV where
 lev:Nat
 n:Nat
def cvC(x:CV):List Value:=[.int .i64 x.lev,.int .u64 x.n]
def cvs(l:List CV):List Value:=l.flatMap cvC
theorem JF{base:Nat}{l:List CV}(h:w.ownsRow base 215 2 v l.length (cvs l)){x:CV}(hk:l[k]? =some x):
 ∃g cap,v=vd (some ⟨g,0,none⟩) l.length cap/\w.cell? ⟨g,k*2,none⟩=some (ve vp x.lev)/\w.cell? ⟨g,k*2+1,none⟩=some (ve vt x.n):=by
 have hlt:k<l.length:=(List.getElem?_eq_some_iff.1 hk).1;rcases h.2 with⟨_,h0⟩|⟨g,cap,cur,rfl,_,hg,_,_,hs,ht⟩
 .omega
 .refine⟨g,cap,rfl,?_⟩
  have at': ∀(l:List CV)(k:Nat)(x:CV),l[k]? =some x-> ∀j,j<2->(cvs l)[k*2+j]? =(cvC x)[j]? :=by
   intro l;induction l with
   |nil=>intro k x h;simp at h
   |cons y r ih=>
    intro k x hk j hj;have e:cvs (y::r)=cvC y++cvs r:=rfl;have ly:(cvC y).length=2:=rfl;rw [e]
    cases k with
    |zero=>
     simp at hk;subst hk;rw [List.getElem?_append_left (by omega),Nat.zero_mul,Nat.zero_add]
    |succ k=>
     rw [List.getElem?_append_right (by omega),ly,show(k+1)*2+j - 2=k*2+j from by omega];exact ih k x (by simpa using hk) j hj
  have look: ∀j,j<2->w.cell? ⟨g,k*2+j,none⟩=(cvC x)[j]? :=by
   intro j hj;have a:=at' l k x hk j hj;rw [<-ht,List.getElem?_take,if_pos (by omega)]at a;simp only [zV,hg];simpa using a
  exact⟨look 0 (by omega),look 1 (by omega)⟩
def cv(n:Nat):T->CV
 | .leaf b=>⟨n,b.toNat⟩
 | .node i l h=>⟨i,(cv n l).n*2^ ((cv n l).lev - i - 1)+(cv n h).n*2^ ((cv n h).lev - i - 1)⟩
def cvL(n:Nat)(L:List T):List CV:=⟨n,0⟩::⟨n,1⟩::L.map (cv n)
theorem VV(h:In L t):(cvL n L)[pl L t]? =some (cv n t):=by
 cases t with
 |leaf b=>cases b<;>rfl
 |node i l r=>
  have a:=kF (L:=L) i l r;have e:pl L (node i l r)=(pl L (node i l r) - 2)+1+1:=by omega
  rw [e];simp only [cvL,List.getElem?_cons_succ,List.getElem?_map];rw [Zs h];rfl
theorem q29(a:k<=L.length):(cvL n (L.take k)).length=k+2:=by simp [cvL,xA a]
theorem q44(a:k<L.length):cvs (cvL n (L.take (k+1)))=cvs (cvL n (L.take k))++cvC (cv n L[k]):=by
 have e:cvL n (L.take (k+1))=cvL n (L.take k)++[cv n L[k]]:=by
  rw [cvL,cvL,zM a,List.map_append];rfl
 rw [e,cvs,cvs,List.flatMap_append];simp
theorem kK{b:Nat}(c:b=w.heap.size)(x y:Value)(t:TypeId): ∀j u,[x,y][j]? =some u->(w.alloc (vk #[x,y] t)).cell? ((⟨b,0,none⟩:Addr).add j)=some u:=by
 subst c;intro j u a;match j,a with
 |0,a=>simp at a;subst a;simp [Addr.add]
 |1,a=>simp at a;subst a;simp [Addr.add]
theorem q6o:(qj.info? 215).map (fun i=>(i.zero,i.size,i.bytes))=some (some (vi #[ve vp 0,ve vt 0]),2,16):=by kernel_rfl
theorem WM{P:Program}{i:Array Oper}{o:Oper}{a:Act}{K:Act->World->Prop}{Q:Exit->Act->World->Prop}{E:Prop}
 (t:o.guard=none) (c x y z:Operand) (q:Array TypeId) (p:o.op=Op.call {callee:=Callee.value c,args:= #[x,y,z],argTypes:=q})
 {f:FuncId}{n:Func}{j:Code}(A:P.funcs[f]? =some n)(b:(n.name== "runtime.NumGoroutine")=false)(C:n.body=some j)
 (B:a.eval c= .func (.func f) #[] #[]) (l k m:Value) (G:a.eval x=l) (r:a.eval y=k) (H:a.eval z=m) {R:World->Prop}
 (d:Calls P f #[l,k,m] w fun e g=>e=vm v/\R g) (I: ∀g,R g->K (a.put o.dst v) g):
 if yg o (yielded i a.tmps)=true then Oper.wp P o a w K Q else E:=by
 have D:yg o (yielded i a.tmps)=true:=by simp [yg,t]
 rw [if_pos D];have s:(#[x,y,z]:Array Operand).map a.eval= #[l,k,m]:=by simp [G,r,H]
 have u:(execOp a.eval o).run P w= .ok (.enter f #[l,k,m]) w:=by
  unfold execOp;simp only [p,resolve,Deferred.ofValue,s,B,invoke,Sem.run_bind,Sem.run_pure,Result.andThen_ok,Array.append_empty,Array.empty_append,j3 A b C]
 unfold Oper.wp;rw [u,Oper.upon_enter];refine d.mono ?_;rintro e g ⟨rfl,h⟩;exact I g h
theorem XQ(n:Nat)(_hn:n≤24)(L:List T)(g:T.Good L)(hlen:L.length<1099511627776)(t0:T)(hin:In L t0)(ao:Option Addr)(cap:Nat)(w:World)
 (hr:w.ownsRow 0 177 3 (vd ao L.length cap) L.length (cellsOf (enc L)))
 (hj: ∀i l h,node i l h∈L→ ∀w',Calls qj 158 #[ve vp i,vi #[ve vp (cv n l).lev,ve vt (cv n l).n],vi #[ve vp (cv n h).lev,ve vt (cv n h).n]] w' fun e w''=>
   e=vm (vi #[ve vp (cv n (node i l h)).lev,ve vt (cv n (node i l h)).n])∧Near w' w''):
 Calls qj 157 #[vi #[vd ao L.length cap,ve vp (pl L t0:Nat)],vi #[ve vp n,ve vt 0],vi #[ve vp n,ve vt 1],.func (.func 158) #[] #[]] w fun e w'=>
  e=vm (vi #[ve vp (cv n t0).lev,ve vt (cv n t0).n])∧Below w.heap.size w w':=by
 have HR:=q8 hr;have HJ:=q8 hj;clear hr hj;obtain⟨i0,hi0,hz0,hz1,hz2⟩:=info_parts q6o;go_enter Tryz.func157,Tryz.ntmps157;go_wp2_with fail
 have hN4:Near w ((((w.alloc (vk #[vd ao L.length cap,ve vp (pl L t0:Nat)] 43)).alloc (vk #[ve vp n,ve vt 0] 215)).alloc (vk #[ve vp n,ve vt 1] 215)).alloc (vk #[ve vp 0,ve vt 0] 215)):=((((Near.refl w).alloc _).alloc _).alloc _).alloc _;have hA4:((((w.alloc (vk #[vd ao L.length cap,ve vp (pl L t0:Nat)] 43)).alloc (vk #[ve vp n,ve vt 0] 215)).alloc (vk #[ve vp n,ve vt 1] 215)).alloc (vk #[ve vp 0,ve vt 0] 215)).heap[w.heap.size]? =some (vk #[vd ao L.length cap,ve vp (pl L t0:Nat)] 43 (0,0)):=by
  rw [qD (by simp<;>omega),qD (by simp<;>omega),qD (by simp),heap_new_at rfl]
 have hR4:((((w.alloc (vk #[vd ao L.length cap,ve vp (pl L t0:Nat)] 43)).alloc (vk #[ve vp n,ve vt 0] 215)).alloc (vk #[ve vp n,ve vt 1] 215)).alloc (vk #[ve vp 0,ve vt 0] 215)).heap[w.heap.size+1+1+1]? =some (vk #[ve vp 0,ve vt 0] 215 (0,0)):=heap_new_at (by simp);have hS4:((((w.alloc (vk #[vd ao L.length cap,ve vp (pl L t0:Nat)] 43)).alloc (vk #[ve vp n,ve vt 0] 215)).alloc (vk #[ve vp n,ve vt 1] 215)).alloc (vk #[ve vp 0,ve vt 0] 215)).heap.size=w.heap.size+1+1+1+1:=by simp
 generalize hW:((((w.alloc (vk #[vd ao L.length cap,ve vp (pl L t0:Nat)] 43)).alloc (vk #[ve vp n,ve vt 0] 215)).alloc (vk #[ve vp n,ve vt 1] 215)).alloc (vk #[ve vp 0,ve vt 0] 215))=W at hN4 hA4 hR4 hS4⊢;clear hW;have HA4:=q8 hA4;have HR4:=q8 hR4;have HS4:=q8 hS4;clear hA4 hR4 hS4;go_loopw [9,18] (fun v i wr=> ∃k:Nat,k≤L.length∧i=ve vp k∧wr.ownsRow (w.heap.size+1+1+1+1) 215 2 v (k+2) (cvs (cvL n (L.take k)))∧Kept (fun b=>w.heap.size+1+1+1+1≤b) W wr) (fun _ i _=>L.length - (intOf i).toNat)
 case atStart=>
  refine⟨0,qv _,rfl,⟨rfl,vv ⟨w.heap.size+1+1+1+1,2,#[ve vp n,ve vt 0,ve vp n,ve vt 1],rfl,qt _,heap_new_at HS4.symm,qt _,by unfold maxLen;omega,rfl,rfl⟩⟩,(Kept.refl _ _).alloc _⟩
 case round=>
  obtain⟨k,hk,rfl,hown,hkp⟩:=hrel;have hz4:=hN4.size;have hzr:=hkp.size;by_cases hlt:k<L.length
  ·have hle:(enc L).length=L.length:=by simp [enc]
   have hge:(enc L)[k]? =some (en L L[k]):=by simp [enc,hlt]
   obtain⟨gb,cap',hsv,x0,x1,x2⟩:=vI (by rw [hle];exact HR) hge;rw [hle]at hsv;simp only [qq,true_and]at hsv;obtain⟨rfl,rfl⟩:=hsv;have hgb:gb<w.heap.size:=World.block_lt_of_cell? w ⟨gb,k*3,none⟩ x0;have hmem:L[k]∈L:=xJ hlt;have hnode:=g.all L[k] hmem;obtain⟨i,l,h,hnd⟩: ∃i l h,L[k]=node i l h:=by
    cases hx:L[k]with
    |leaf b=>rw [hx]at hnode;exact hnode.1.elim
    |node j l' h'=>exact⟨j,l',h',rfl⟩
   have hpre:=g.pre k i l h (by rw [List.getElem?_eq_getElem hlt,hnd]);have hsnoc:=q44 (n:=n) hlt;rw [hnd]at x0 x1 x2 hmem hsnoc;have pL:pl L l=pl (L.take k) l:=by
    have:=pl_append (M:=L.drop k) hpre.1
    rwa [zO]at this
   have pH:pl L h=pl (L.take k) h:=by
    have:=pl_append (M:=L.drop k) hpre.2.1
    rwa [zO]at this
   have hlen2:=q29 (n:=n) hk;have bL:=wt hpre.1;have bH:=wt hpre.2.1;simp only [List.length_take]at bL bH;obtain⟨g2,cap2,hv,y0,y1⟩:=JF (by rw [hlen2];exact hown) (VV (n:=n) hpre.1);obtain⟨g3,cap3,hv3,z0,z1⟩:=JF (by rw [hlen2];exact hown) (VV (n:=n) hpre.2.1);rw [hlen2]at hv hv3;subst hv;simp only [qq,zo,Addr.mk.injEq,and_true,true_and]at hv3;obtain⟨rfl,rfl⟩:=hv3;have x0':=hkp.cell (hN4.cell x0) (show¬w.heap.size+1+1+1+1≤gb by omega);have x1':=hkp.cell (hN4.cell x1) (show¬w.heap.size+1+1+1+1≤gb by omega);have x2':=hkp.cell (hN4.cell x2) (show¬w.heap.size+1+1+1+1≤gb by omega);simp only [en]at x0' x1' x2';rw [pL]at x1';rw [pH]at x2';have bL1:((pl (L.take k) l:Nat):Int)<(k:Int)+2:=by omega
   have bH1:((pl (L.take k) h:Nat):Int)<(k:Int)+2:=by omega
   have hi:=(In.ok g (show In L (node i l h)from hmem)).1;have HO:=q8 hown;have HSn:=q8 hsnoc;clear x0 x1 x2 hown hsnoc hnd hle hge pL pH hlen2 hnode;go_upto_region 5 with fail
   have X0:(wr.alloc (vk #[ve vp i,ve vp (pl (L.take k) l:Nat),ve vp (pl (L.take k) h:Nat)] 177)).cell? wr.heap.size=some (ve vp i):=by simp
   have X1:(wr.alloc (vk #[ve vp i,ve vp (pl (L.take k) l:Nat),ve vp (pl (L.take k) h:Nat)] 177)).cell? (vw wr.heap.size 1)=some (ve vp (pl (L.take k) l:Nat)):=by simp
   have X2:(wr.alloc (vk #[ve vp i,ve vp (pl (L.take k) l:Nat),ve vp (pl (L.take k) h:Nat)] 177)).cell? (vw wr.heap.size 2)=some (ve vp (pl (L.take k) h:Nat)):=by simp
   have Y0:=kB y0 (vk #[ve vp i,ve vp (pl (L.take k) l:Nat),ve vp (pl (L.take k) h:Nat)] 177);have Y1:=kB y1 (vk #[ve vp i,ve vp (pl (L.take k) l:Nat),ve vp (pl (L.take k) h:Nat)] 177);have Z0:=kB z0 (vk #[ve vp i,ve vp (pl (L.take k) l:Nat),ve vp (pl (L.take k) h:Nat)] 177);have Z1:=kB z1 (vk #[ve vp i,ve vp (pl (L.take k) l:Nat),ve vp (pl (L.take k) h:Nat)] 177);have HO5:=q8 (HO.alloc (vk #[ve vp i,ve vp (pl (L.take k) l:Nat),ve vp (pl (L.take k) h:Nat)] 177));have K5:=hkp.alloc (vk #[ve vp i,ve vp (pl (L.take k) l:Nat),ve vp (pl (L.take k) h:Nat)] 177);clear x0' x1' x2' y0 y1 z0 z1;have hb5:w.heap.size+1+1+1+1≤(wr.alloc (vk #[ve vp i,ve vp (pl (L.take k) l:Nat),ve vp (pl (L.take k) h:Nat)] 177)).heap.size:=by
    have:=K5.size
    rw [HS4.out]at this;exact this
   have hg2b:w.heap.size+1+1+1+1≤g2:=by
    rcases HO5.2 with⟨h0,_⟩|⟨g,c,cur,e,hb,_⟩
    ·cases h0
    ·cases e
     exact hb
   generalize(wr.alloc (vk #[ve vp i,ve vp (pl (L.take k) l:Nat),ve vp (pl (L.take k) h:Nat)] 177))=W5 at X0 X1 X2 Y0 Y1 Z0 Z1 HO5 K5 hb5⊢;go_region_law (first
    |(refine WM rfl (.tmp 23) (.tmp 25) (.tmp 30) (.tmp 35) #[3,215,215] rfl Tryz.func158 (by kernel_rfl) rfl rfl (ve vp i) (vi #[ve vp (cv n l).lev,ve vt (cv n l).n]) (vi #[ve vp (cv n h).lev,ve vt (cv n h).n]) rfl rfl rfl (HJ i l h hmem _) ?_;intro w1 n1)
    |(refine jd rfl (.tmp 22) (.tmp 37) 277 rfl (w.heap.size+1+1+1+1) 215 i0 (vi #[ve vp 0,ve vt 0]) 2 16 Tryz.underlying277 hi0 hz0 hz1 hz2 rfl (by decide) _ _ _ rfl ((owns_kept HO5.drew n1.kept (fun _ _ x=>x)).alloc _) ⟨w1.heap.size,0,none⟩ 1 1 (cvC (cv n (node i l h))) rfl rfl (kK rfl _ _ _) (by simp [cvC,Value.oneCell']) (by unfold maxLen;omega) (by omega) (qH (qH hb5 n1.size) (by simp)) ?_;intro ao cap w2 hown2 hg2 hl2;have kp2:=(((K5.drew.trans n1.kept).alloc _).grown hg2 (fun k e _=>by cases e;exact hg2b))))
   all_goals
    go_wp2_with fail
    go_roundw
    case rel=>exact⟨k+1,hlt,by go_num,by rw [HSn.out];exact hown2,kp2⟩
    case measure=>
     simp only [intOf];omega
  ·have hkl:k=L.length:=by omega
   subst hkl;have hlen2:=q29 (n:=n) hk;rw [qF]at hown hlen2;obtain⟨g2,cap2,hv,y0,y1⟩:=JF (by rw [hlen2];exact hown) (VV (n:=n) hin);rw [hlen2]at hv;subst hv;have bT:=wt hin;have bT1:((pl L t0:Nat):Int)<(L.length:Int)+2:=by omega
   have a0:W.cell? (vw w.heap.size 1)=some (ve vp (pl L t0:Nat)):=by simp [zV,HA4.out]
   have a0':=hkp.cell a0 (show¬w.heap.size+1+1+1+1≤w.heap.size by omega);have r0:wr.heap[w.heap.size+1+1+1]? =some (vk #[ve vp 0,ve vt 0] 215 (0,0)):=(hkp.block _ (by rw [HS4.out];omega) (show¬w.heap.size+1+1+1+1≤w.heap.size+1+1+1 by omega)).trans HR4;have c0:wr.cell? (vw (w.heap.size+1+1+1) 0)=some (ve vp 0):=by simp [zV,r0]
   have c1:wr.cell? (vw (w.heap.size+1+1+1) 1)=some (ve vt 0):=by simp [zV,r0]
   have f0:wr.frozen? (vw (w.heap.size+1+1+1) 0)=false:=by simp [jx,r0]
   have f1:wr.frozen? (vw (w.heap.size+1+1+1) 1)=false:=by simp [jx,r0]
   have KB:Near w wr:=hN4.trans (Kept.mono hkp (fun b hb (h:w.heap.size+1+1+1+1≤b)=>by rw [HS4.out]at hb;omega));clear hown a0 hz2 hz1 hz0 HS4 HA4 HR4 r0 hkp HJ HR;go_wp2_with fail
   exact qo (v:=vi #[ve vp (cv n t0).lev,ve vt (cv n t0).n]) (by simp [qC,Tryz.results157,go_sem,c0,c1]) rfl ⟨rfl,((KB.set (by show w.heap.size≤w.heap.size+1+1+1;omega) _).set (by show w.heap.size≤w.heap.size+1+1+1;omega) _).below⟩
def cA:Nat->Nat->(Nat->Bool)->T->Nat
 |0,_,c,t=>(t.ev c).toNat
 |k+1,lo,c,t=>cA k (lo+1) (upd c lo false) t+cA k (lo+1) (upd c lo true) t
def Low(n:Nat):T->Prop
 | .leaf _=>True
 | .node i l h=>i<n/\Low n l/\Low n h
theorem JH{i:Nat}{l h:T}: ∀(k a:Nat)(c:Nat->Bool),i<a->cA k a c (node i l h)=if c i then cA k a c h else cA k a c l
 |0,a,c,_=>by simp only [cA,T.ev];split<;>rfl
 |k+1,a,c,b=>by
  simp only [cA];rw [JH k (a+1) _ (by omega),JH k (a+1) _ (by omega),uy _ _ (by omega),uy _ _ (by omega)];split<;>rfl
theorem q47: ∀(k a:Nat)(c:Nat->Bool)(t:T),cA k a c t<=2^k
 |0,a,c,t=>by simp only [cA];cases t.ev c<;>simp
 |k+1,a,c,t=>by
  have b:=q47 k (a+1) (upd c a false) t;have d:=q47 k (a+1) (upd c a true) t;simp only [cA];rw [jn];omega
theorem Wm(d:Low n t)(a:i<t.lv)(c:i<n):i+1<=(cv n t).lev:=by
 cases t with
 |leaf b=>exact c
 |node j l h=>exact a
theorem GV(n:Nat): ∀(k a:Nat)(c:Nat->Bool)(t:T),a+k=n->t.Ok->Low n t->a<=(cv n t).lev->cA k a c t=(cv n t).n*2^ ((cv n t).lev - a)
 |0,a,c,t,e,g,d,h=>by
  cases t with
  |leaf b=>
   simp only [cA,cv,T.ev];rw [show n - a=0 by omega];simp
  |node i l r=>
   have:=d.1
   simp only [cv]at h;omega
 |k+1,a,c,t,e,g,d,h=>by
  by_cases f:a<(cv n t).lev
  .simp only [cA]
   rw [GV n k (a+1) _ t (by omega) g d f,GV n k (a+1) _ t (by omega) g d f,show(cv n t).lev - a=((cv n t).lev - (a+1))+1 by omega,jn]
   have:(cv n t).n*(2^ ((cv n t).lev - (a+1))*2)=((cv n t).n*2^ ((cv n t).lev - (a+1)))*2:=by rw [Nat.mul_assoc]
   omega
  .cases t with
   |leaf b=>
    simp only [cv]at h f;omega
   |node i l r=>
    simp only [cv]at h f;have j:a=i:=by omega
    subst j;have o:=Wm d.2.1 g.2.1 d.1;have m:=Wm d.2.2 g.2.2.1 d.1;simp only [cA];rw [JH k (a+1) _ (by omega),JH k (a+1) _ (by omega),upd_same,upd_same];simp only [if_true,Bool.false_eq_true,if_false];rw [GV n k (a+1) _ l (by omega) g.2.2.2.2.1 d.2.1 o,GV n k (a+1) _ r (by omega) g.2.2.2.2.2 d.2.2 m];simp only [cv,Nat.sub_self,Nat.pow_zero,Nat.mul_one,Nat.sub_sub]
theorem Yy{n:Nat}{L:List T}(g:T.Good L)(h: ∀t∈L,t.lv<n): ∀t:T,In L t->Low n t
 | .leaf _,_=>trivial
 | .node i l r,a=>
  have b:node i l r∈L:=a;⟨h _ b,Yy g h l (g.kids b).1,Yy g h r (g.kids b).2⟩
theorem KL(h:sup L<2^n): ∀t∈L,t.lv<n:=by
 intro t c;by_cases a:t.lv<n
 .exact a
 .have b:=KM L t.lv
  rw [Nat.testBit_lt_two_pow (Nat.lt_of_lt_of_le h (zr (by omega) (by omega)))]at b;have d:L.any (fun u=>u.lv==t.lv)=true:=List.any_eq_true.2 ⟨t,c,by simp⟩;rw [d]at b
  cases b
theorem Wn(t:T)(d:t.Ok)(c:Low n t)(h:i+1<=(cv n t).lev)(f:n<=24)(e:i<n):(cv n t).n*2^ ((cv n t).lev - i - 1)<=16777216:=by
 have a:=GV n (n - (i+1)) (i+1) (fun _=>false) t (by omega) d c h;have b:=q47 (n - (i+1)) (i+1) (fun _=>false) t;rw [Nat.sub_sub,<-a];exact qH b (qH (zr (by omega) (show n - (i+1)<=24 by omega)) (by decide))
theorem ZO(a:Low n t):(cv n t).lev<=n:=by
 cases t with
 |leaf b=>exact qt _
 |node j l h=>exact Nat.le_of_lt a.1
theorem QV(a:n<=24)(h:IsD w v t)(y:sup (nodes t)<2^n):
 Calls qj 157 #[v,vi #[ve vp n,ve vt 0],vi #[ve vp n,ve vt 1],.func (.func 158) #[] #[]] w fun e j=>
  e=vm (vi #[ve vp (cv n t).lev,ve vt (cv n t).n])/\Below w.heap.size w j:=by
 obtain⟨x,A,rfl,q⟩:=h;obtain⟨z,d,rfl⟩:=qR q;have g:=yX x;have p:=KL y
 have:=kH x
 refine XQ n a (nodes t) g (by omega) t (xr t) z d w q ?_;intro i l r f j;have k:=g.kids f;have o:=(g.all _ f).2;have c:=Yy g p l k.1;have m:=Yy g p r k.2;have b:i<n:=p _ f;have s:=Wm c o.2.1 b;have u:=Wm m o.2.2.1 b;exact U2 i _ _ _ _ j s u (qH (ZO c) a) (qH (ZO m) a) (Wn l o.2.2.2.2.1 c s a b) (Wn r o.2.2.2.2.2 m u a b)
theorem q2d(v:Value)(b:Value)(r:Int)(c:v=vi #[b,ve vp r])(n:Int)(h:n<0\/24<n)(w:World):Calls qj 80 #[v,ve vp n] w fun e a=>e=vm (.tuple #[ve vt 0,ve vp 3])/\Near w a:=by
 subst c;rcases h with h|h
 .go_enter Tryz.func80,Tryz.ntmps80
  go_wp2
  exact qo (v:= .tuple #[ve vt 0,ve vp 3]) (by simp [qC,Tryz.results80,go_sem]) rfl ⟨rfl,(Near.refl w).alloc _⟩
 .have d: ¬n<0:=by omega
  go_enter Tryz.func80,Tryz.ntmps80;go_wp2
  exact qo (v:= .tuple #[ve vt 0,ve vp 3]) (by simp [qC,Tryz.results80,go_sem]) rfl ⟨rfl,(Near.refl w).alloc _⟩
theorem VZ(h:IsD w v t)(k:n<=24)(j:sup (nodes t)<2^n):
 Calls qj 80 #[v,ve vp n] w fun e x=>e=vm (.tuple #[ve vt (cA n 0 (fun _=>false) t:Nat),ve vp 0])/\Near w x:=by
 have B: ¬(24:Int)<(n:Int):=by omega
 have G: ¬(n:Int)<0:=by omega
 obtain⟨f,m,a,rfl,u⟩:=h.form;have H:=q8 h;have c:=q8 j;clear h j u;have K:((sup (nodes t):Nat):Int)/2^n=0:=by
  rw [show((2:Int)^n)=((2^n:Nat):Int)from by simp,<-Int.natCast_ediv,Nat.div_eq_of_lt c];rfl
 have i:Near w (w.alloc (vk #[vd f m a,ve vp (pl (nodes t) t:Nat)] 43)):=(Near.refl w).alloc _;have l:(w.alloc (vk #[vd f m a,ve vp (pl (nodes t) t:Nat)] 43)).cell? w.heap.size=some (vd f m a):=by simp
 have o:(w.alloc (vk #[vd f m a,ve vp (pl (nodes t) t:Nat)] 43)).cell? (vw w.heap.size 1)=some (ve vp (pl (nodes t) t:Nat)):=by simp
 have p:=q8 l;have z:=q8 o;have g:=q8 i;clear l o i;go_enter Tryz.func80,Tryz.ntmps80;go_wp2_with (first
  |(go_at_call 156;refine(gF (H.near g)).mono ?_;rintro e D ⟨rfl,d⟩;have I:=d.cell p;have E:=d.cell z)
  |(go_at_call 157;refine(QV k (H.near (g.trans d)) c).mono ?_;rintro e J ⟨rfl,q⟩))
 have b:(cv n t).n*2^ (cv n t).lev=cA n 0 (fun _=>false) t:=by
  have:=GV n n 0 (fun _=>false) t (by omega) H.1 (Yy (yX H.1) (KL c) t (xr t)) (qv _)
  rw [this,Nat.sub_zero]
 have s:=ZO (Yy (yX H.1) (KL c) t (xr t));have C:=q47 n 0 (fun _=>false) t;have y:(2:Nat)^n<=2^24:=zr (by omega) k;have A:(2:Nat)^24=16777216:=by decide
 have r:IntKind.u64.wrap (((cv n t).n:Int)*2^min (cv n t).lev 64)=(cA n 0 (fun _=>false) t:Nat):=by
  rw [xA (by omega),<-b,show(((cv n t).n:Int)*2^ (cv n t).lev)=(((cv n t).n*2^ (cv n t).lev:Nat):Int)from by simp,b];exact u64_in _ (by omega) (by omega)
 rw [r];exact qo (v:= .tuple #[ve vt (cA n 0 (fun _=>false) t:Nat),ve vp 0]) (by simp [qC,Tryz.results80,go_sem]) rfl ⟨rfl,((g.trans d).trans (Near.of_below q)).alloc _⟩
theorem GF(h:IsD w v t)(u:n<=24)(c:2^n<=sup (nodes t)):
 Calls qj 80 #[v,ve vp n] w fun e k=>e=vm (.tuple #[ve vt 0,ve vp 2])/\Near w k:=by
 have p: ¬(24:Int)<(n:Int):=by omega
 have r: ¬(n:Int)<0:=by omega
 obtain⟨l,m,a,rfl,j⟩:=h.form;have H:=q8 h;have f:=q8 c;clear h c j;have o:(((sup (nodes t):Nat):Int)/2^n==0)=false:=by
  have s:0<sup (nodes t)/2^n:=Nat.div_pos f (q2P n);rw [show((2:Int)^n)=((2^n:Nat):Int)from by simp,<-Int.natCast_ediv];simp only [beq_eq_false_iff_ne,ne_eq];omega
 have b:Near w (w.alloc (vk #[vd l m a,ve vp (pl (nodes t) t:Nat)] 43)):=(Near.refl w).alloc _;have d:=q8 b;have i:(((sup (nodes t):Nat):Int)/2^n !=0)=true:=by simp only [bne,o,Bool.not_false]
 clear b;go_enter Tryz.func80,Tryz.ntmps80;go_wp2_with (first
  |(go_at_call 156;refine(gF (H.near d)).mono ?_;rintro e q ⟨rfl,g⟩))
 exact qo (v:= .tuple #[ve vt 0,ve vp 2]) (by simp [qC,Tryz.results80,go_sem]) rfl ⟨rfl,d.trans g⟩
end Go.Proofs.YtjcbmcnbdegpmaaGreatDoor
