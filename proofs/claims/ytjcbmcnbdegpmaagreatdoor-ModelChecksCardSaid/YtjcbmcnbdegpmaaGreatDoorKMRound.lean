/- Seq, Fold, FoldM, Not, With1, FOps, LinA, Round, Takes, FCube, Ones, MMoves, MRound. -/
import Derived.RangeFuncNested
import Derived.RangeFuncBound
import Derived.RangeFuncCalls
import Derived.RangeFuncLeaves
import Derived.Shelf.Abstract
import Derived.Shelf.RegionOpen
import Derived.OwnWalkIn
import Derived.TacticsInMore
import Derived.LoopNIn
import Derived.LoopIn
import Derived.Lib.BitFns
import Derived.Test.YtjcbmcnbdegpmaaGreatDoorKMRChkP
set_option maxRecDepth 100000
set_option maxHeartbeats 12800000
set_option linter.unusedVariables false
open Array renaming getElem?_eq_none->gt,getElem?_eq_some_iff->qk
open Bool renaming and_eq_true->qy,or_eq_true->yM
open Classical renaming byContradiction->jG
open Go renaming bodyPost_ret->qo,results->qC,yielded->Ky
open Go.IntKind renaming i64->zD,u32->ug
open Go.Lib renaming hid->q8,pop8->xY
open Go.Obj renaming cells->zK
open Go.Oper renaming wp->xC
open Go.Proofs.Tryz renaming prog->qj
open Go.Region renaming Mode->yG,noSelect->YP,ready->yQ,wanted->yg
open Go.RowKit.Below renaming heap_setCell->zg
open Go.Value renaming int->qs,ownBlock->zN,pointer->zj,slice->qw
open Go.Value.slice renaming injEq->qq
open Go.World renaming cell?->zV,cell?_of_block->yr
open List renaming all_eq_true->qL,filter_append->ki,getElem?_append_left->zc,getElem?_append_right->qV,getElem?_eq_getElem->qi,getElem?_eq_some_iff->qm,getElem?_map->qA,getElem?_take->zH,length_append->qn,length_map->qG,mem_append->qK,mem_of_getElem?->qp,not_mem_nil->zh,range->qO,take_append_drop->zO,toArray->qx
open Nat renaming le_refl->qt,lt_of_le_of_lt->zR,lt_or_ge->wG,sub_self->xz,testBit_and->q2Q,zero_le->qv
open Option.some renaming injEq->zo
open Go.Value renaming slice->vd,int->ve,string->vf,pointer->vg,agg->vi,bool->vj
open Go.Obj renaming cells->vk
open Go.Ending renaming returned->vm
open Go.IntKind renaming i64->vp,u8->vq,u32->vr,u64->vt
open Or renaming inl->vu,inr->vv
namespace Go.Proofs.YtjcbmcnbdegpmaaGreatDoor
open Go Go.RowKit Go.Proofs.Gen Go.Proofs.Bdd Go.Proofs.Bdd.T
variable{J R S:Nat->Prop}{L M ts:List T}{X:World->(Nat->Prop)->Prop}{a v:Value}{b base c d f g i j k n:Nat}{cs:Array Value}{e:TypeId}{h l t:T}{on:Bool}{w w':World}{x y:Int}{φ:T->T}
abbrev F:=(Nat->Bool)->Bool
def IsF(w:World)(v:Value)(f:F):Prop:= ∃t,IsD w v t/\ ∀c,t.ev c=f c
theorem IsF.near{f:F}(h:IsF w v f)(c:Near w w'):IsF w' v f:=let⟨t,a,b⟩:=h;⟨t,a.near c,b⟩
theorem IsF.form{f:F}(h:IsF w v f): ∃b n a r,v=vi #[vd b n a,ve vp r]:=by
 have⟨t,c,_⟩:=h;obtain⟨b,n,a,rfl,-⟩:=c.form;exact⟨_,_,_,_,rfl⟩
def Y3(e:TypeId)(w w':World):Prop:= ∃R:Nat->Prop,Kept R w w'/\ ∀k,k<w.heap.size->R k-> ∃cur fr,w.heap[k]? =some (.cells cur e fr)
theorem Near.only(h:Near w w'):Y3 e w w':=⟨fun _=>False,h,fun _ _ h=>h.elim⟩
theorem Y3.owns{d:TypeId}{a:Nat}{i:List Value}(h:Y3 e w w')(c:d≠e)(b:w.ownsRow base d a v n i):w'.ownsRow base d a v n i:=by
 have⟨R,l,m⟩:=h;refine owns_kept b l fun k g f=> ?_;have⟨j,p,o⟩:=m k (b.lt k g).2 f;exact vV b o c g
theorem IsF.only{f:F}(h:IsF w v f)(c:Y3 e w w')(d:177≠e):IsF w' v f:=by
 obtain⟨t,⟨i,g,rfl,a⟩,b⟩:=h;exact⟨t,⟨i,g,rfl,c.owns d a⟩,b⟩
def uL(vs:List (Value×Value)):List Value:=vs.flatMap fun p=>[p.1,p.2]
theorem gY: ∀{vs:List (Value×Value)}{j:Nat}{p:Value×Value},vs[j]? =some p->(uL vs)[j*2]? =some p.1/\(uL vs)[j*2+1]? =some p.2
 |q::vs,0,p,h=>by simp at h;subst h;simp [uL]
 |q::vs,j+1,p,h=>by
  have ih:=gY (vs:=vs) (j:=j) (p:=p) (by simpa using h);have e:uL (q::vs)=q.1::q.2::uL vs:=rfl;rw [e,show(j+1)*2=j*2+1+1 from by omega];simpa using ih
theorem YF(vs:List (Value×Value))(p:Value×Value):uL (vs++[p])=uL vs++[p.1,p.2]:=by simp [uL]
def Sets(e:TypeId)(Is:World->Value->F->Prop)(b:Nat)(w:World)(x:Value)(fs:List F):Prop:=
 ∃vs:List (Value×Value),w.ownsRow b e 2 x fs.length (uL vs)/\vs.length=fs.length/\ ∀(j:Nat)(f:F)(p:Value×Value),fs[j]? =some f->vs[j]? =some p->Is w (.agg #[p.1,p.2]) f
theorem Sets.get{Is:World->Value->F->Prop}{x:Value}{fs:List F}(h:Sets e Is b w x fs){f:F}(hj:fs[j]? =some f):
 ∃g cap u v,x=vd (some ⟨g,0,none⟩) fs.length cap/\b<=g/\g<w.heap.size/\w.cell? ⟨g,j*2,none⟩=some u/\w.cell? ⟨g,j*2+1,none⟩=some v/\Is w (vi #[u,v]) f:=by
 obtain⟨vs,hr,hl,hi⟩:=h;have hjl:j<fs.length:=(qm.1 hj).1;have hv:vs[j]? =some (vs[j]'(by omega)):=qi (by omega);obtain⟨h0,h1⟩:=gY hv;rcases hr.2 with⟨_,hz⟩|⟨g,cap,cur,rfl,hb,hg,_,_,hs,ht⟩
 .omega
 .refine⟨g,cap,_,_,rfl,hb,(qk.1 hg).1,?_,?_,hi _ _ _ hj hv⟩
  .rw [<-ht,zH,if_pos (by omega)]at h0
   simp only [zV,hg];simpa using h0
  .rw [<-ht,zH,if_pos (by omega)]at h1
   simp only [zV,hg];simpa using h1
theorem Sets.form{f:World->Value->F->Prop}{x:Value}{fs:List F}(h:Sets e f b w x fs): ∃d a,x=vd d fs.length a:=by
 have⟨g,c,_⟩:=h;exact qR c
theorem Sets.map{a:World->Value->F->Prop}{x:Value}{fs:List F}(h:Sets e a b w x fs)(n:Near w w')(k: ∀v f,a w v f->a w' v f):Sets e a b w' x fs:=by
 have⟨l,d,i,c⟩:=h;exact⟨l,owns_kept d n.kept (fun _ _ x=>x),i,fun j f p g m=>k _ _ (c j f p g m)⟩
theorem Sets.push{c:World->Value->F->Prop}{k:Value}{fs:List F}{f:F}{u:Value}{vs:List (Value×Value)}(l:vs.length=fs.length)
 (g: ∀(j:Nat)(f:F)(p:Value×Value),fs[j]? =some f->vs[j]? =some p->c w (vi #[p.1,p.2]) f) (q:c w (vi #[u,v]) f)
 (n: ∀v f,c w v f->c w' v f) (i:w'.ownsRow b e 2 k (fs.length+1) (uL vs++[u,v])):Sets e c b w' k (fs++[f]):=by
 refine⟨vs++[(u,v)],?_,by simp [l],fun j o p a d=>n _ _ ?_⟩
 .rw [YF,qn]
  exact i
 .by_cases m:j<fs.length
  .rw [zc m]at a
   rw [zc (by omega)]at d;exact g j o p a d
  .have h:=(qm.1 a).1
   simp at h;have e:j=fs.length:=by omega
   subst e;rw [qV (qt _),xz]at a;rw [qV (by omega),l,xz]at d;simp at a d;subst a;subst d;exact q
theorem Qk{d:World}{a:Nat}{m:List Value}(i:w.ownsRow base e a v n m){o:Obj}(l:(w.alloc o).grownBy d v.ownBlock):Y3 e w d:=by
 refine⟨fun k=>v.ownBlock=some k,Kept.grown ((Kept.refl _ _).alloc o) l (fun k f _=>f),fun k f h=> ?_⟩;rcases i.2 with⟨rfl,_⟩|⟨g,j,b,rfl,_,c,_⟩
 .cases h
 .cases h
  exact⟨b,_,c⟩
theorem WL{P:Program}{g:Array Oper}{o:Oper}{a:Act}{K:Act->World->Prop}{Q:Exit->Act->World->Prop}{E:Prop}
 (s:o.guard=none) (c x y z:Operand) (p:Array TypeId) (n:o.op=Op.call {callee:=Callee.value c,args:= #[x,y,z],argTypes:=p})
 {f:FuncId}{m:Array Value}(i: ∀(args:Array Value)(w:World),(callFunc f args).run P w= .ok (.enter f args) w)
 (u:a.eval c= .func (.func f) m cs) (k j l:Value) (B:a.eval x=k) (q:a.eval y=j) (C:a.eval z=l) {R:Value->World->Prop}
 (b:Calls P f (m++ #[k,j,l]++cs) w fun e d=> ∃v,e=vm v/\R v d) (D: ∀v d,R v d->K (a.put o.dst v) d):
 if yg o (Ky g a.tmps)=true then xC P o a w K Q else E:=by
 have A:yg o (Ky g a.tmps)=true:=by simp [yg,s]
 rw [if_pos A];have r:(#[x,y,z]:Array Operand).map a.eval= #[k,j,l]:=by simp [B,q,C]
 have t:(execOp a.eval o).run P w= .ok (.enter f (m++ #[k,j,l]++cs)) w:=by
  unfold execOp;simp only [n,resolve,Deferred.ofValue,r,u,invoke,Sem.run_bind,Sem.run_pure,Result.andThen_ok,i]
 unfold xC;rw [t,Oper.upon_enter];refine b.mono ?_;rintro e d ⟨v,rfl,h⟩;exact D v d h
structure q6K(fn:FuncId)(bs cs:Array Value)(L:List T)(Inv:Nat->World->List Int->(Nat->Prop)->Prop):Prop where
 enters: ∀(args:Array Value)(w:World),(callFunc fn args).run qj w= .ok (.enter fn args) w
 mono: ∀k w outs J J',Inv k w outs J->(∀b,b<w.heap.size->J b->J' b)->Inv k w outs J'
 keep: ∀k w w' outs J R,Inv k w outs J->Kept R w w'->(∀b,b<w.heap.size->J b-> ¬R b)->Inv k w' outs J
 step: ∀k i l h w outs J,L[k]? =some (node i l h)->Inv k w outs J->(∀b,w.heap.size<=b->J b)->outs.length=k+2-> ∀x y:Int,outs[pl L l]? =some x->outs[pl L h]? =some y->
  Calls qj fn (bs++ #[.int .i64 i,.int .i64 x,.int .i64 y]++cs) w fun e w'=> ∃v,e= .returned v/\ ∃z,v= .int .i64 z/\Inv (k+1) w' (outs++[z]) J/\Kept J w w'
def jset(J:Nat->Prop)(n b:Nat):Prop:=(J b/\b<n)\/n+1<=b
theorem Jm(c:b<n)(h: ¬J b): ¬jset J n b:=by
 rintro(a|a)
 .exact h a.1
 .omega
def zs(outs:List Int):List Value:=outs.map (.int .i64)
def q4h(L:List T)(t0:T)(Inv:Nat->World->List Int->(Nat->Prop)->Prop)(J:Nat->Prop)(w:World)(e:Ending)(w':World):Prop:=
 ∃z outs,e= .returned (.int .i64 z)/\outs[pl L t0]? =some z/\Inv L.length w' outs (fun b=>J b\/w.heap.size<=b)/\Kept (fun b=>J b\/w.heap.size<=b) w w'
theorem Wf{fn:FuncId}{bs:Array Value}{Inv:Nat→World→List Int→(Nat→Prop)→Prop}(hJ:q6K fn bs cs L Inv)(g:T.Good L)(hlen:L.length<1099511627776){t0:T}(hin:In L t0){J:Nat→Prop}{sv:Value}{e0 f0 r:Int}
 (hr:w.ownsRow 0 177 3 sv L.length (cellsOf (enc L))) (hsv: ∀k,sv.ownBlock=some k→ ¬J k) (h0:Inv 0 w [e0,f0] J) (hrr:r=(pl L t0:Nat)):
 Calls qj 152 #[vi #[sv,ve vp r],ve vp e0,ve vp f0,.func (.func fn) bs cs] w (q4h L t0 Inv J w):=by
 subst hrr;obtain⟨i0,hi0,hz0,hz1,hz2⟩:=info_parts q7p;obtain⟨ao,cap,rfl⟩:=qR hr;have HR:=q8 hr;have HJ:=q8 hJ;have HSV:=q8 hsv;have H0:=q8 h0;clear hr hJ hsv h0;have hN:Near w (w.alloc (vk #[vd ao L.length cap,ve vp (pl L t0:Nat)] 43)):=(Near.refl w).alloc _;have hA:(w.alloc (vk #[vd ao L.length cap,ve vp (pl L t0:Nat)] 43)).heap[w.heap.size]? =some (vk #[vd ao L.length cap,ve vp (pl L t0:Nat)] 43 (0,0)):=heap_new_at rfl;have hs:(w.alloc (vk #[vd ao L.length cap,ve vp (pl L t0:Nat)] 43)).heap.size=w.heap.size+1:=by simp
 go_enter Tryz.func152,Tryz.ntmps152;go_wp2_with fail
 generalize(w.alloc (vk #[vd ao L.length cap,ve vp (pl L t0:Nat)] 43))=W at hN hA hs⊢;have HN:=q8 hN;have HA:=q8 hA;have HS:=q8 hs;clear hN hA hs;go_loopw [9,18] (fun x i wr=> ∃k outs,k≤L.length∧i=ve vp (k:Nat)∧outs.length=k+2∧wr.ownsRow (w.heap.size+1) 3 1 x (k+2) (zs outs)∧
  Inv k wr outs (fun b=>jset J w.heap.size b∧x.ownBlock≠some b)∧Kept (jset J w.heap.size) W wr∧w.heap.size+2≤wr.heap.size) (fun _ i _=>L.length - (intOf i).toNat)
 case atStart=>
  have hz:W.heap.size=w.heap.size+1:=HS.out;refine⟨0,[e0,f0],qv _,rfl,rfl,?_,?_,(Kept.refl _ _).alloc _,by simp;omega⟩
  ·exact⟨rfl,vv ⟨w.heap.size+1,2,_,rfl,qt _,heap_new_at hz.symm,qt _,by unfold maxLen;omega,rfl,rfl⟩⟩
  ·have h1:=HJ.out.mono _ _ _ _ (fun b=>J b∧b<w.heap.size) H0.out (fun b hb h=>⟨h,hb⟩)
   have h2:=HJ.out.keep _ _ (W.alloc (vk #[ve vp e0,ve vp f0] 3)) _ _ (fun _=>False) h1 (HN.out.alloc _) (fun _ _ _ h=>h);refine HJ.out.mono _ _ _ _ _ h2 (fun b _ h=>⟨vu h,?_⟩)
   have:=h.2
   simp only [zN,ne_eq,zo];omega
 case round=>
  obtain⟨k,outs,hk,rfl,hol,hrow,hinv,hkp,hs⟩:=hrel;have HRow:=q8 hrow;have HInv:=q8 hinv;have HK:=q8 hkp;have HOL:=q8 hol;have hnj: ¬jset J w.heap.size w.heap.size:=by rintro(h|h)<;>omega
  have HAr:=q8 ((hkp.block _ (by rw [HS.out];omega) hnj).trans HA.out);clear hrow hinv hkp hol;by_cases hlt:k<L.length
  ·have hle:(enc L).length=L.length:=by simp [enc]
   have hge:(enc L)[k]? =some (en L L[k]):=by simp [enc,hlt]
   obtain⟨gb,cap',hsv',x0,x1,x2⟩:=vI (by rw [hle];exact HR.out) hge;rw [hle]at hsv';simp only [qq,true_and]at hsv';obtain⟨rfl,rfl⟩:=hsv';have hgb:gb<w.heap.size:=World.block_lt_of_cell? w ⟨gb,k*3,none⟩ x0;have hmem:L[k]∈L:=List.getElem_mem hlt;have hnode:=g.all L[k] hmem;obtain⟨i,l,h,hnd⟩: ∃i l h,L[k]=node i l h:=by
    cases hx:L[k]with
    |leaf b=>rw [hx]at hnode;exact hnode.1.elim
    |node j l' h'=>exact⟨j,l',h',rfl⟩
   have hLk:L[k]? =some (node i l h):=by rw [qi hlt,hnd]
   have hpre:=g.pre k i l h hLk;rw [hnd]at x0 x1 x2;have pL:pl L l=pl (L.take k) l:=by
    have:=pl_append (M:=L.drop k) hpre.1
    rwa [zO]at this
   have pH:pl L h=pl (L.take k) h:=by
    have:=pl_append (M:=L.drop k) hpre.2.1
    rwa [zO]at this
   have bL:=wt hpre.1;have bH:=wt hpre.2.1;simp only [List.length_take]at bL bH;rw [←pL]at bL;rw [←pH]at bH;simp only [en]at x0 x1 x2;obtain⟨p,hp⟩: ∃p,p=pl L l:=⟨_,rfl⟩;obtain⟨q,hq⟩: ∃q,q=pl L h:=⟨_,rfl⟩;rw [←hp]at bL x1;rw [←hq]at bH x2;have hol:=HOL.out;have ox:outs[p]? =some (outs[p]'(by omega)):=qi (by omega);have oy:outs[q]? =some (outs[q]'(by omega)):=qi (by omega);obtain⟨zx,hzx⟩: ∃z,z=outs[p]'(by omega):=⟨_,rfl⟩;obtain⟨zy,hzy⟩: ∃z,z=outs[q]'(by omega):=⟨_,rfl⟩;rw [←hzx]at ox;rw [←hzy]at oy;have hstep: ∀w2,Inv k w2 outs (fun b=>(jset J w.heap.size b∧u9.ownBlock≠some b)∧b≠wr.heap.size)→(∀b,w2.heap.size≤b→(jset J w.heap.size b∧u9.ownBlock≠some b)∧b≠wr.heap.size)→
    Calls qj fn (bs++ #[ve vp i,ve vp zx,ve vp zy]++cs) w2 fun e w'=> ∃v,e=vm v∧ ∃z,v=ve vp z∧Inv (k+1) w' (outs++[z]) (fun b=>(jset J w.heap.size b∧u9.ownBlock≠some b)∧b≠wr.heap.size)∧Kept (fun b=>(jset J w.heap.size b∧u9.ownBlock≠some b)∧b≠wr.heap.size) w2 w':=
    fun w2 h1 h2=>HJ.out.step k i l h w2 outs _ hLk h1 h2 hol zx zy (by rw [←hp];exact ox) (by rw [←hq];exact oy)
   have HStep:=q8 hstep;have HOX:=q8 ox;have HOY:=q8 oy;have HX0:=q8 x0;have y0:=HK.out.cell (HN.out.cell x0) (Jm hgb (HSV.out gb rfl));have y1:=HK.out.cell (HN.out.cell x1) (Jm hgb (HSV.out gb rfl));have y2:=HK.out.cell (HN.out.cell x2) (Jm hgb (HSV.out gb rfl));clear hstep ox oy x0 x1 x2 hol hzx hzy hp hq pL pH hnd hLk hpre hnode hle hge hmem;have cells: ∀w':World,w'.ownsRow (w.heap.size+1) 3 1 u9 (k+2) (zs outs)→ ∃g xc,u9=vd (some ⟨g,0,none⟩) (k+2) xc∧w.heap.size+1≤g∧g<w'.heap.size∧w'.cell? ⟨g,p,none⟩=some (ve vp zx)∧w'.cell? ⟨g,q,none⟩=some (ve vp zy):=by
    intro w' h';obtain⟨g,c,e,a1,hgs⟩:=q5A h' (k:=p) (u:=ve vp zx) (by unfold zs;rw [qA,HOX.out];rfl) (by omega);obtain⟨g',c',e',a2,-⟩:=q5A h' (k:=q) (u:=ve vp zy) (by unfold zs;rw [qA,HOY.out];rfl) (by omega);rw [e]at e'
    cases e'
    have:=(h'.lt g (by rw [e];rfl)).1
    exact⟨g,c,e,this,hgs,a1,a2⟩
   obtain⟨g,xc,rfl,hg1,hg2,z0,z1⟩:=cells _ HRow.out;have HCe:=q8 cells;have hp2:(p:Int)<(k:Int)+2:=by omega
   have hq2:(q:Int)<(k:Int)+2:=by omega
   have hkl':(k:Int)<L.length:=by omega
   clear cells;have HN1:=q8 ((Near.refl wr).alloc (vk #[ve vp i,ve vp p,ve vp q] 177));go_upto_region 5 with fail
   have d0:(wr.alloc (vk #[ve vp i,ve vp p,ve vp q] 177)).cell? ⟨wr.heap.size,0,none⟩=some (ve vp i):=by simp
   have d1:(wr.alloc (vk #[ve vp i,ve vp p,ve vp q] 177)).cell? ⟨wr.heap.size,1,none⟩=some (ve vp p):=by simp
   have d2:(wr.alloc (vk #[ve vp i,ve vp p,ve vp q] 177)).cell? ⟨wr.heap.size,2,none⟩=some (ve vp q):=by simp
   have hz1:(wr.alloc (vk #[ve vp i,ve vp p,ve vp q] 177)).heap.size=wr.heap.size+1:=by simp
   clear y0 y1 y2 z0 z1;generalize(wr.alloc (vk #[ve vp i,ve vp p,ve vp q] 177))=W1 at HN1 d0 d1 d2 hz1⊢;have HZ1:=q8 hz1;clear hz1;have hI1:Inv k W1 outs (fun b=>(jset J w.heap.size b∧(qw (some ⟨g,0,none⟩) (k+2) xc).ownBlock≠some b)∧b≠wr.heap.size):=
    HJ.out.keep _ _ _ _ _ (fun _=>False) (HJ.out.mono _ _ _ _ _ HInv.out (fun b hb h=>⟨h,by omega⟩)) HN1.out (fun _ _ _ h=>h)
   have HI1:=q8 hI1;have HR1:=q8 (owns_kept HRow.out HN1.out.kept (R:=fun _=>False) (fun _ _ x=>x));have hJ1: ∀b,W1.heap.size≤b→(jset J w.heap.size b∧(qw (some ⟨g,0,none⟩) (k+2) xc).ownBlock≠some b)∧b≠wr.heap.size:=by
    intro b hb;rw [HZ1.out]at hb;refine⟨⟨vv (by omega),?_⟩,by omega⟩;simp only [zN,ne_eq,zo];omega
   have HJ1:=q8 hJ1;clear hI1 hJ1;have hsk: ∀w':World,Kept (fun b=>b=g∨((jset J w.heap.size b∧(qw (some ⟨g,0,none⟩) (k+2) xc).ownBlock≠some b)∧b≠wr.heap.size)) W1 w'→w'.ownsRow (w.heap.size+1) 3 1 (vd (some ⟨g,0,none⟩) (k+2) xc) (k+2) (zs outs)→
    w'.cell? ⟨wr.heap.size,0,none⟩=some (ve vp i)∧w'.cell? ⟨wr.heap.size,1,none⟩=some (ve vp p)∧w'.cell? ⟨wr.heap.size,2,none⟩=some (ve vp q)∧w'.cell? ⟨g,p,none⟩=some (ve vp zx)∧w'.cell? ⟨g,q,none⟩=some (ve vp zy):=by
    intro w' hk' hr';obtain⟨g',c',e,-,-,a1,a2⟩:=HCe.out _ hr'
    cases e;have hne: ¬(wr.heap.size=g∨((jset J w.heap.size wr.heap.size∧(qw (some ⟨g,0,none⟩) (k+2) xc).ownBlock≠some wr.heap.size)∧wr.heap.size≠wr.heap.size)):=by
     rintro(h|h)
     ·omega
     ·exact h.2 rfl
    exact⟨hk'.cell d0 hne,hk'.cell d1 hne,hk'.cell d2 hne,a1,a2⟩
   have HSK:=q8 hsk;clear hsk;have hsz1:w.heap.size+2≤W1.heap.size:=by rw [HZ1.out];omega
   go_region_held3 (fun w'=>w'.cell? ⟨wr.heap.size,0,none⟩=some (ve vp i)∧w'.cell? ⟨wr.heap.size,1,none⟩=some (ve vp p)∧w'.cell? ⟨wr.heap.size,2,none⟩=some (ve vp q)∧w'.cell? ⟨g,p,none⟩=some (ve vp zx)∧w'.cell? ⟨g,q,none⟩=some (ve vp zy))
    (first
      |exact HSK.out _ HG4.out HO4.out
      |exact HSK.out _ (HK3.out.alloc _) (HR3.out.alloc _)
      |exact HSK.out _ HK3.out HR3.out
      |exact HSK.out _ (Kept.refl _ _).drew HR1.out.drew)
    (first
      |(refine WL rfl (.tmp 23) (.tmp 25) (.tmp 30) (.tmp 35) #[3,3,3] rfl HJ.out.enters rfl (ve vp i) (ve vp zx) (ve vp zy) rfl rfl rfl (HStep.out W1.drew (HJ.out.keep _ _ _ _ _ (fun _=>False) HI1.out (Near.refl _).drew (fun _ _ _ h=>h)) HJ1.out) ?_;rintro v3 w3 ⟨z3,rfl,hi3,hk3⟩;have HI3:=q8 hi3;have HK3:=q8 (Kept.mono ((Kept.refl (fun b=>b=g∨((jset J w.heap.size b∧(qw (some ⟨g,0,none⟩) (k+2) xc).ownBlock≠some b)∧b≠wr.heap.size)) W1).drew.trans (Kept.mono hk3 (fun _ _ h=>vv h))) (fun _ _ h=>h));have HR3:=q8 (owns_kept HR1.out.drew hk3 (fun b hb h=>h.1.2 hb));clear hi3 hk3)
      |(refine jU rfl (.tmp 22) (.tmp 37) 47 rfl (w.heap.size+1) 3 i0 (ve vp 0) 1 8 Tryz.underlying47 hi0 hz0 hz1 hz2 rfl (by decide) _ _ _ rfl (HR3.out.alloc _) ⟨w3.heap.size,0,none⟩ 1 1 [ve vp z3] rfl rfl (cell_one_at rfl _ _) (by simp [Value.oneCell']) (by unfold maxLen;omega) (by omega) (by have:=HK3.out.size;simp;omega) ?_;intro ao' cap' w4 hown4 hg4 hl4 hold4;have HO4:=q8 hold4;have HG4:=q8 ((HK3.out.alloc _).grown hg4 (fun b hb _=>vu (by cases hb;rfl)));have HOw4:=q8 hown4;have HGr4:=q8 hg4;have HL4:=q8 hl4;clear hown4 hg4 hl4 hold4))
   all_goals
    have hI4:Inv (k+1) w4 (outs++[z3]) (fun b=>jset J w.heap.size b∧(qw ao' (k+2+1) cap').ownBlock≠some b):=by
     have h1:=HJ.out.mono _ _ _ _ (fun b=>(jset J w.heap.size b∧b≠g)∧b<w3.heap.size) HI3.out (fun b hb h=>⟨⟨h.1.1,fun e=>h.1.2 (by rw [e];rfl)⟩,hb⟩);have h2:=HJ.out.keep _ _ w4 _ _ (fun b=>b=g) h1 (((Kept.refl _ _).alloc _).grown HGr4.out (fun b hb _=>by cases hb;rfl)) (fun b _ h=>h.1.2);refine HJ.out.mono _ _ _ _ _ h2 (fun b _ h=>⟨h.1.1,?_⟩);rcases HL4.out with hl|hl
     ·rw [hl]
      intro e
      cases e;exact h.1.2 rfl
     ·rw [hl]
      intro e;have h3:=h.2;simp at e;omega
    have HI4:=q8 hI4;have HKK:=q8 ((HK.out.trans HN1.out.kept).trans (Kept.mono HG4.out (fun b _ h=>by
     rcases h with h|h
     ·exact vv (by omega)
     ·exact h.1.1)))
    clear hI4;go_wp2_with fail
    refine⟨⟨k+1,outs++[z3],hlt,by go_num,by rw [qn,HOL.out];rfl,?_,HI4.out,HKK.out,?_⟩,by simp [intOf];omega⟩
    ·have e:zs (outs++[z3])=zs outs++[ve vp z3]:=by simp [zs]
     rw [e];exact HOw4.out
    ·have:=HG4.out.size
     omega
  ·have hkl:k=L.length:=by omega
   subst hkl;have hol:=HOL.out;have bT:=wt hin;have ox:outs[pl L t0]? =some (outs[pl L t0]'(by omega)):=qi (by omega);obtain⟨z,hz⟩: ∃z,z=outs[pl L t0]'(by omega):=⟨_,rfl⟩;rw [←hz]at ox;obtain⟨g,xc,e,a1,-⟩:=q5A HRow.out (k:=pl L t0) (u:=ve vp z) (by unfold zs;rw [qA,ox];rfl) (by omega);subst e;have c0:=cell1 (o:=1) HAr.out rfl;have bT1:((pl L t0:Nat):Int)<(L.length:Int)+2:=by omega
   have HOX:=q8 ox;clear hol ox hz;go_wp2_with fail
   refine qo (v:=ve vp z) (by simp [qC,Tryz.results152,go_sem]) rfl ⟨z,outs,rfl,HOX.out,HJ.out.mono _ _ _ _ _ HInv.out (fun b _ h=> ?_),(Kept.mono (HN.out.kept.trans HK.out) (fun b hb h=> ?_))⟩
   ·rcases h.1 with h|h
    ·exact vu h.1
    ·exact vv (by omega)
   ·rcases h with h|h
    ·exact vu h.1
    ·exact vv (by omega)
def phis(φ:T->T)(L:List T):List T:=φ (leaf false)::φ (leaf true)::L.map φ
theorem J8{φ:T→T}(h:In L t):(phis φ L)[pl L t]? =some (φ t):=by
 cases t with
 |leaf b=>cases b<;>rfl
 |node i l r=>
  have a:node i l r∈L:=h
  have:=Zs (L:=L) a
  have d:=kF (L:=L) i l r;obtain⟨n,c⟩: ∃n,pl L (node i l r)=n+2:=⟨pl L (node i l r) - 2,by omega⟩;rw [c]at this⊢;simp only [phis,List.getElem?_cons_succ,qA];rw [show n+2 - 2=n from by omega]at this;rw [this];rfl
theorem gL(φ:T->T)(L:List T)(t:T):phis φ (L++[t])=phis φ L++[φ t]:=by simp [phis]
def pls(M:List T)(ts:List T):List Int:=ts.map fun t=>((pl M t:Nat):Int)
def MInv(φ:T->T)(L:List T)(mb:Nat)(X:World->(Nat->Prop)->Prop)(k:Nat)(w:World)(outs:List Int)(J:Nat->Prop):Prop:=
 ∃M,T.Good M/\IsMaker w mb J M/\M.length<=k/\(∀t∈phis φ (L.take k),In M t)/\outs=pls M (phis φ (L.take k))/\X w J
theorem MInv.mono{a:List Int}{c:Nat->Prop}(h:MInv φ L d X k w a J)(n:X w J->X w c)(l: ∀b,b<w.heap.size->J b->c b):MInv φ L d X k w a c:=by
 have⟨M,g,j,f,i,e,m⟩:=h;exact⟨M,g,j.mono_lt l,f,i,e,n m⟩
theorem MInv.keep{a:List Int}(h:MInv φ L c X k w a J)(n:X w J->X w' J)(j:Kept R w w')(l: ∀b,b<w.heap.size->J b-> ¬R b):MInv φ L c X k w' a J:=by
 have⟨M,g,i,e,f,d,m⟩:=h;exact⟨M,g,i.of_kept j l,e,f,d,n m⟩
theorem q5H(c: ∀t∈ts,In M t)(i:Nat)(l h:T):pls (add M i l h) ts=pls M ts:=by
 refine List.map_congr_left fun t a=> ?_;have⟨N,b⟩:=add_prefix M i l h;rw [b,pl_append (c t a)]
theorem V8(h:ts[n]? =some t)(a:(pls M ts)[n]? =some x):x=(pl M t:Nat):=by
 unfold pls at a;rw [qA,h]at a;simpa using a.symm
theorem VD(g:T.Good L)(f:L[k]? =some (node i l h))
 (d:(pls M (phis φ (L.take k)))[pl L l]? =some x) (a:(pls M (phis φ (L.take k)))[pl L h]? =some y):
 (φ l∈phis φ (L.take k))/\(φ h∈phis φ (L.take k))/\x=(pl M (φ l):Nat)/\y=(pl M (φ h):Nat):=by
 have p:=g.pre k i l h f;have e:pl L l=pl (L.take k) l:=by
  have:=pl_append (M:=L.drop k) p.1
  rwa [zO]at this
 have j:pl L h=pl (L.take k) h:=by
  have:=pl_append (M:=L.drop k) p.2.1
  rwa [zO]at this
 have c:=J8 (φ:=φ) p.1;have b:=J8 (φ:=φ) p.2.1;rw [e]at d;rw [j]at a;exact⟨qp c,qp b,V8 c d,V8 b a⟩
def Ga:T->T
 | .leaf b=> .leaf (!b)
 | .node i l h=>T.mk i (Ga l) (Ga h)
theorem Jc: ∀{t:T},t.Ok->(Ga t).Ok/\t.lv<=(Ga t).lv
 | .leaf _,_=>⟨trivial,qt _⟩
 | .node i l h,c=>by
  have a:=Jc c.2.2.2.2.1;have b:=Jc c.2.2.2.2.2;have d:=c.2.1;have e:=c.2.2.1;exact⟨mk_ok c.1 (by omega) (by omega) a.1 b.1,show i<=(T.mk i (Ga l) (Ga h)).lv from mk_lv (by omega)⟩
theorem Vm(c:Nat->Bool): ∀t:T,(Ga t).ev c= !t.ev c
 | .leaf _=>rfl
 | .node i l h=>by
  rw [Ga,mk_ev,Vm c l,Vm c h];simp only [ev];split<;>rfl
theorem Vj(args:Array Value)(w:World):(callFunc 68 args).run qj w= .ok (.enter 68 args) w:=j3 Tryz.func68 (by kernel_rfl) rfl args w
theorem xL(h:L[k]? =some t):L.take (k+1)=L.take k++[t]:=by
 rw [List.take_add_one,h];rfl
theorem MInv.node(g:T.Good L)(e:L[k]? =some (node i l h))
 (q:T.Good M) (B:M.length<=k) (d: ∀t∈phis φ (L.take k),In M t) (j: ∀t:T,t.Ok->(φ t).Ok/\t.lv<=(φ t).lv) (a:φ (node i l h)=T.mk i (φ l) (φ h))
 (w:(pls M (phis φ (L.take k)))[pl L l]? =some x) (n:(pls M (phis φ (L.take k)))[pl L h]? =some y) (r:IsMaker w' f S (add M i (φ l) (φ h))) (u: ∀b,S b->J b) (A:X w' J):
 MInv φ L f X (k+1) w' (pls M (phis φ (L.take k))++[((pl (add M i (φ l) (φ h)) (T.mk i (φ l) (φ h)):Nat):Int)]) J:=by
 obtain⟨m,v,rfl,rfl⟩:=VD g e w n;have p:=g.pre k i l h e;have z:=j l p.2.2.2.2.2.2.1;have s:=j h p.2.2.2.2.2.2.2;have D:=p.2.2.2.1;have C:=p.2.2.2.2.1;refine⟨add M i (φ l) (φ h),add_good q (d _ m) (d _ v) p.2.2.1 (by omega) (by omega) z.1 s.1,r.mono u,?_,?_,?_,A⟩
 .have:=add_len M i (φ l) (φ h)
  omega
 .intro t c
  rw [xL e,gL]at c;rcases qK.1 c with c|c
  .have⟨N,o⟩:=add_prefix M i (φ l) (φ h)
   rw [o];exact(d t c).mono N
  .simp at c
   subst c;rw [a];exact add_in (d _ m)
 .rw [xL e,gL,<-q5H d i (φ l) (φ h)]
  simp [pls,a]
theorem q1m(g:T.Good L)(n:L.length<1099511627776)(o:Nat):q6K 68 #[vg o] #[] L (MInv Ga L o (fun _ _=>True)) where
 enters:=Vj
 mono:=fun k w a J K h E=>h.mono id E
 keep:=fun k w A a J R h b G=>h.keep id b G
 step:=by
  intro k i l h w a J b ⟨M,m,z,s,d,D,_⟩ r B x y q j;subst D;have⟨I,C,u,v⟩:=VD g b q j;have H:k<L.length:=(qm.1 b).1;have p:=g.pre k i l h b;refine(xf m (d _ I) (d _ C) p.2.2.1 (by omega) r z rfl u v).mono ?_;rintro e A ⟨rfl,c,f⟩;exact⟨_,rfl,_,rfl,MInv.node g b m s d (fun t=>Jc) rfl q j c (fun _ h=>h) trivial,f⟩
theorem MInv.out{e:Nat}{a:List Int}{z:Int}(h:MInv φ L e X L.length w a J)(b:In L t)(f:a[pl L t]? =some z):
 ∃M,T.Good M/\IsMaker w e J M/\M.length<=L.length/\In M (φ t)/\z=(pl M (φ t):Nat):=by
 obtain⟨M,g,j,i,c,rfl,_⟩:=h;rw [List.take_length]at c f;have d:=J8 (φ:=φ) b;exact⟨M,g,j,i,c _ (qp d),V8 d f⟩
theorem q1i(h:IsD w v t):Calls qj 77 #[v] w (DEv w (fun c=> !t.ev c)):=by
 have HD:=q8 h;obtain⟨m,sv,rfl,u⟩:=h;obtain⟨d,a,rfl⟩:=qR u;have V:=q8 u;have A:=kH m;have g:=fun k f=>(u.lt k f).2;have l:=q8 g;have Q:((((w.alloc (vk #[vd d (nodes t).length a,ve vp (pl (nodes t) t:Nat)] 43)).alloc (vk #[vd none 0 0,ve vp 0] 43)).alloc (.map #[] 0)).alloc (vk #[vd none 0 0,.map (some (w.heap.size+1+1))] 194)).heap[w.heap.size]? =some (vk #[vd d (nodes t).length a,ve vp (pl (nodes t) t:Nat)] 43 (0,0)):=by
  rw [qD (by simp<;>omega),qD (by simp<;>omega),qD (by simp),heap_new_at rfl]
 have W:((((w.alloc (vk #[vd d (nodes t).length a,ve vp (pl (nodes t) t:Nat)] 43)).alloc (vk #[vd none 0 0,ve vp 0] 43)).alloc (.map #[] 0)).alloc (vk #[vd none 0 0,.map (some (w.heap.size+1+1))] 194)).heap[w.heap.size+1]? =some (vk #[vd none 0 0,ve vp 0] 43 (0,0)):=by
  rw [qD (by simp<;>omega),qD (by simp),heap_new_at (by simp)]
 have H:Near w ((((w.alloc (vk #[vd d (nodes t).length a,ve vp (pl (nodes t) t:Nat)] 43)).alloc (vk #[vd none 0 0,ve vp 0] 43)).alloc (.map #[] 0)).alloc (vk #[vd none 0 0,.map (some (w.heap.size+1+1))] 194)):=((((Near.refl w).alloc _).alloc _).alloc _).alloc _;have N:IsMaker ((((w.alloc (vk #[vd d (nodes t).length a,ve vp (pl (nodes t) t:Nat)] 43)).alloc (vk #[vd none 0 0,ve vp 0] 43)).alloc (.map #[] 0)).alloc (vk #[vd none 0 0,.map (some (w.heap.size+1+1))] 194)) (w.heap.size+1+1+1) (fun b=>w.heap.size+2<=b) []:=
  xF (heap_new_at (by simp)) ((qD (by simp)).trans (heap_new_at (by simp))) (by omega) (by omega)
 have HA:=q8 Q;have S:=q8 W;have B:=q8 H;have O:=q8 N;go_enter Tryz.func77,Tryz.ntmps77;go_wp2_with (first
  |(go_at_call 67;refine(xR _).mono ?_;rintro e w1 ⟨rfl,rfl⟩))
 refine(Wf (J:=fun b=>w.heap.size+2<=b) (q1m (yX m) (by omega) (w.heap.size+1+1+1)) (yX m) (by omega) (xr t) (owns_kept V B.kept (R:=fun _=>False) (fun _ _ x=>x)) (fun k f=>by have:=l k f;omega) ⟨[],.nil,O,qt _,by simp [phis,Ga,In],rfl,trivial⟩ rfl).mono ?_;rintro e C ⟨z,D,rfl,hz,X,f⟩;obtain⟨M,K,Z,P,q,rfl⟩:=X.out (xr t) hz;have j:Kept (fun b=>w.heap.size+2<=b) ((((w.alloc (vk #[vd d (nodes t).length a,ve vp (pl (nodes t) t:Nat)] 43)).alloc (vk #[vd none 0 0,ve vp 0] 43)).alloc (.map #[] 0)).alloc (vk #[vd none 0 0,.map (some (w.heap.size+1+1))] 194)) C:=Kept.mono f (fun b n h=>by
  rcases h with h|h
  .exact h
  .simp at h;omega)
 have p:=q8 ((j.block (w.heap.size+1) (by simp<;>omega) (by omega)).trans S);have y:Near w C:=Kept.mono (B.kept.trans j) (fun b n h=>by omega);go_wp2_with (first
  |(go_at_call 69;refine(xh K (by omega) q (Jc m).1 Z rfl).mono ?_;rintro e w3 ⟨v3,rfl,E,n⟩;obtain⟨I,Y,G,rfl,-⟩:=E.form;have r:=q8 E;have s:=q8 n;have i:=q8 (q1z n p);have L:=cell1 (o:=0) i rfl;have U:=cell1 (o:=1) i rfl;have f0:=zQ i 0;have f1:=zQ i 1))
 exact qo (v:=vi #[vd I Y G,ve vp (pl (nodes (Ga t)) (Ga t):Nat)]) (by simp [qC,Tryz.results77,go_sem,L,U]) rfl
  ⟨Ga t,fun c=>Vm c t,_,rfl,xS r i,(((y.trans (Near.of_below s)).set (by show w.heap.size<=w.heap.size+1;omega) _).set (by show w.heap.size<=w.heap.size+1;omega) _).below⟩
def Jx(v:Int)(on:Bool):T->T
 | .leaf b=> .leaf b
 | .node i l h=>if(i:Int)=v then(if on then Jx v on h else Jx v on l)else T.mk i (Jx v on l) (Jx v on h)
theorem Jw{v:Int}{on:Bool}: ∀{t:T},t.Ok->(Jx v on t).Ok/\t.lv<=(Jx v on t).lv
 | .leaf _,_=>⟨trivial,qt _⟩
 | .node i l h,c=>by
  have a:=Jw (v:=v) (on:=on) c.2.2.2.2.1;have b:=Jw (v:=v) (on:=on) c.2.2.2.2.2;have d:=c.2.1;have f:=c.2.2.1;have e:(node i l h).lv=i:=rfl;rw [e,Jx];split
  .split
   .exact⟨b.1,by omega⟩
   .exact⟨a.1,by omega⟩
  .exact⟨mk_ok c.1 (by omega) (by omega) a.1 b.1,mk_lv (by omega)⟩
def updI(c:Nat->Bool)(v:Int)(on:Bool):Nat->Bool:=fun j=>if(j:Int)=v then on else c j
theorem ZI{v:Int}{on:Bool}(c:Nat->Bool): ∀{t:T},(Jx v on t).ev c=t.ev (updI c v on)
 | .leaf _=>rfl
 | .node i l h=>by
  rw [Jx];simp only [ev];by_cases a:(i:Int)=v
  .rw [if_pos a]
   have:updI c v on i=on:=by simp [updI,a]
   rw [this]
   cases on
   .exact ZI c
   .exact ZI c
  .rw [if_neg a,mk_ev,ZI c,ZI c]
   have:updI c v on i=c i:=by simp [updI,a]
   rw [this]
theorem IsMaker.avoid{t:TypeId}{u:Nat×Nat}(h:IsMaker w j S L)(e:w.heap[b]? =some (vk cs t u))(l:194≠t)(r:177≠t):
 IsMaker w j (fun k=>S k/\k≠b) L:=by
 have⟨o,m,n,d,a,c,v,q,p,s⟩:=h;refine⟨o,m,n,d,a,c,v,⟨q,?_⟩,⟨p,?_⟩,fun k i=>⟨s k i,?_⟩⟩
 .rintro rfl
  rw [d]at e
  cases e;exact l rfl
 .rintro rfl
  have⟨x,f,g,_⟩:=c;rw [g]at e
  cases e
 .rintro rfl
  exact vV a e r i
def uO(ib pb ob mb:Nat)(v:Int)(on:Bool)(w:World)(J:Nat->Prop):Prop:=
 J ib/\J pb/\J ob/\w.heap[ib]? =some (.cells #[.int .i64 v] 3 (0,0))/\w.heap[pb]? =some (.cells #[.pointer (some ⟨mb,0,none⟩)] 130 (0,0))/\w.heap[ob]? =some (.cells #[.bool on] 4 (0,0))
theorem q52{v:Int}(a:uO d f b g v on w J)(l:((i:Int) !=v)=true){P:Ending->World->Prop}(k:Calls qj 68 #[vg g,ve vp i,ve vp x,ve vp y] w fun e c=>(∃z,e=vm (ve vp z))/\P e c):
 Calls qj 236 #[ve vp i,ve vp x,ve vp y,vg d,vg f,vg b] w P:=by
 have n:=cell1 (o:=0) a.2.2.2.1 rfl;have p:=cell1 (o:=0) a.2.2.2.2.1 rfl;have m:=cell1 (o:=0) a.2.2.2.2.2 rfl;have j:=q8 k;go_enter Tryz.func236,Tryz.ntmps236;go_wp2_with (first
  |(go_at_call 68;refine(j).mono ?_;rintro e c ⟨⟨z,rfl⟩,h⟩))
 exact h
theorem q6W{v:Int}(a:uO c d b g v on w J)(h:((i:Int) !=v)=false):
 Calls qj 236 #[ve vp i,ve vp x,ve vp y,vg c,vg d,vg b] w fun e f=>e=vm (ve vp (if on then y else x))/\w=f:=by
 have k:=cell1 (o:=0) a.2.2.2.1 rfl;have l:=cell1 (o:=0) a.2.2.2.2.1 rfl;have j:=cell1 (o:=0) a.2.2.2.2.2 rfl
 cases on
 all_goals
  go_enter Tryz.func236,Tryz.ntmps236;go_wp2_with fail
  go_ret;exact⟨rfl,rfl⟩
theorem q0a(args:Array Value)(w:World):(callFunc 236 args).run qj w= .ok (.enter 236 args) w:=j3 Tryz.func236 (by kernel_rfl) rfl args w
theorem uO.keep{o q:Nat}{v:Int}(h:uO n o i q v on w J)(a:Kept R w w')(c: ∀b,b<w.heap.size->J b-> ¬R b):uO n o i q v on w' J:=by
 have⟨k,e,f,d,j,l⟩:=h;have m:=(qk.1 d).1;have g:=(qk.1 j).1;have p:=(qk.1 l).1;exact⟨k,e,f,(a.block _ m (c _ m k)).trans d,(a.block _ g (c _ g e)).trans j,(a.block _ p (c _ p f)).trans l⟩
theorem uO.mono{v:Int}{e:Nat->Prop}(h:uO i j d k v on w J)(a: ∀b,b<w.heap.size->J b->e b):uO i j d k v on w e:=by
 have⟨n,l,m,c,f,g⟩:=h;exact⟨a _ (qk.1 c).1 n,a _ (qk.1 f).1 l,a _ (qk.1 g).1 m,c,f,g⟩
theorem Wy(g:T.Good L)(H:L.length<1099511627776)(s u r K:Nat)(v:Int)(on:Bool):
 q6K 236 #[] #[vg s,vg u,vg r] L (MInv (Jx v on) L K (uO s u r K v on)) where
 enters:=q0a
 mono:=fun k w f J J' h O=>h.mono (fun x=>x.mono O) O
 keep:=fun k w I f J R h c P=>h.keep (fun x=>x.keep c P) c P
 step:=by
  intro k i l h w f J c ⟨M,o,G,W,m,ho,a⟩ V aa x y Q A;subst ho;have⟨D,N,B,C⟩:=VD g c Q A;have ab:k<L.length:=(qm.1 c).1;have p:=g.pre k i l h c;by_cases n:(i:Int)=v
  .refine(q6W a (by simp [n])).mono ?_
   rintro e I ⟨rfl,rfl⟩;have E:Jx v on (node i l h)=if on then Jx v on h else Jx v on l:=by rw [Jx,if_pos n]
   refine⟨_,rfl,_,rfl,⟨M,o,G,by omega,?_,?_,a⟩,Kept.refl _ _⟩
   .intro t j
    rw [xL c,gL]at j;rcases qK.1 j with j|j
    .exact m t j
    .simp at j
     subst j;rw [E]
     cases on
     .exact m _ D
     .exact m _ N
   .rw [xL c,gL,E,B,C]
    cases on<;>simp [pls]
  .have b1:=(qk.1 a.2.2.2.1).1
   have X:=(qk.1 a.2.2.2.2.1).1;have b3:=(qk.1 a.2.2.2.2.2).1;have q:=((G.avoid a.2.2.2.1 (by decide) (by decide)).avoid a.2.2.2.2.1 (by decide) (by decide)).avoid a.2.2.2.2.2 (by decide) (by decide);have hn:=xf o (m _ D) (m _ N) p.2.2.1 (by omega) (S:=fun b=>((J b/\b≠s)/\b≠u)/\b≠r) (fun b hb=>⟨⟨⟨V b hb,by omega⟩,by omega⟩,by omega⟩) q rfl B C;refine q52 a (by simpa using n) (hn.mono ?_);rintro e I ⟨rfl,z,d⟩;refine⟨⟨_,rfl⟩,_,rfl,_,rfl,?_,Kept.mono d (fun b _ h=>h.1.1.1)⟩;have⟨Z,U,j3,h1,Y,h3⟩:=a;exact MInv.node g c o W m (fun t=>Jw) (by rw [Jx,if_neg n]) Q A z (fun _ h=>h.1.1.1)
    ⟨Z,U,j3,(d.block _ b1 (fun h=>h.1.1.2 rfl)).trans h1,(d.block _ X (fun h=>h.1.2 rfl)).trans Y,(d.block _ b3 (fun h=>h.2 rfl)).trans h3⟩
theorem MInv.env{a:List Int}(h:MInv φ L c X k w a J):X w J:=by
 have⟨_,_,_,_,_,_,b⟩:=h;exact b
theorem KD(h:IsD w v t)(i:Int)(on:Bool):Calls qj 197 #[v,ve vp i,vj on] w (DEv w (fun c=>t.ev (updI c i on))):=by
 obtain⟨ok,sv,rfl,hr⟩:=h;obtain⟨ao,cap,rfl⟩:=qR hr;have HR:=q8 hr;have hlen:=kH ok;have hown:=fun k hk=>(hr.lt k hk).2;have HOwn:=q8 hown;go_enter Tryz.func197,Tryz.ntmps197;go_upto_region 2 with(first
  |(go_at_call 67;refine(xR _).mono ?_;rintro e w1 ⟨rfl,rfl⟩))
 have facts: ∀W,W=(((((((w.alloc (zK #[qw ao (nodes t).length cap,qs zD (pl (nodes t) t:Nat)] 43)).alloc (zK #[qs zD i] 3)).alloc (zK #[Value.bool on] 4)).alloc (zK #[qw none 0 0,qs zD 0] 43)).alloc (Obj.map #[] 0)).alloc (zK #[qw none 0 0,Value.map (some (w.heap.size+1+1+1+1))] 194)).alloc (zK #[zj (vw (w.heap.size+1+1+1+1+1) 0)] 130))→
  Near w W∧W.heap.size=w.heap.size+7∧W.heap[w.heap.size]? =some (vk #[vd ao (nodes t).length cap,ve vp (pl (nodes t) t:Nat)] 43 (0,0))∧W.heap[w.heap.size+1+1+1]? =some (vk #[vd none 0 0,ve vp 0] 43 (0,0))∧
  uO (w.heap.size+1) (w.heap.size+1+1+1+1+1+1) (w.heap.size+1+1) (w.heap.size+1+1+1+1+1) i on W (fun b=>w.heap.size+1≤b∧b≠w.heap.size+3)∧IsMaker W (w.heap.size+1+1+1+1+1) (fun b=>w.heap.size+1≤b∧b≠w.heap.size+3) []:=by
  rintro W rfl;refine⟨(((((((Near.refl w).alloc _).alloc _).alloc _).alloc _).alloc _).alloc _).alloc _,by simp,?_,?_,⟨⟨by omega,by omega⟩,⟨by omega,by omega⟩,⟨by omega,by omega⟩,?_,heap_new_at (by simp),?_⟩,xF ?_ (kb:=w.heap.size+1+1+1+1) ?_ ⟨by omega,by omega⟩ ⟨by omega,by omega⟩⟩
  all_goals
   repeat(first|exact heap_new_at (by simp;done)|refine(qD (by simp<;>omega)).trans ?_)
 have facts':=facts _ rfl;generalize(((((((w.alloc (zK #[qw ao (nodes t).length cap,qs zD (pl (nodes t) t:Nat)] 43)).alloc (zK #[qs zD i] 3)).alloc (zK #[Value.bool on] 4)).alloc (zK #[qw none 0 0,qs zD 0] 43)).alloc (Obj.map #[] 0)).alloc (zK #[qw none 0 0,Value.map (some (w.heap.size+1+1+1+1))] 194)).alloc (zK #[zj (vw (w.heap.size+1+1+1+1+1) 0)] 130))=W at facts'⊢;obtain⟨hN,hsz,hA,hB,hE,hM⟩:=facts';have HN:=q8 hN;have HSz:=q8 hsz;have HA:=q8 hA;have HB:=q8 hB;have HE:=q8 hE;have HM:=q8 hM;have hsk: ∀w',Kept (fun b=>(w.heap.size+1≤b∧b≠w.heap.size+3)∨W.heap.size≤b) W w'→w'.heap[w.heap.size+1+1+1+1+1+1]? =some (vk #[vg (vw (w.heap.size+1+1+1+1+1) 0)] 130 (0,0))→
  w'.cell? w.heap.size=some (vd ao (nodes t).length cap)∧w'.cell? (vw w.heap.size 1)=some (ve vp (pl (nodes t) t:Nat))∧w'.cell? (vw (w.heap.size+1+1+1+1+1+1) 0)=some (vg (vw (w.heap.size+1+1+1+1+1) 0)):=by
  intro w' hk hp;have hA':=(hk.block w.heap.size (by rw [HSz.out];omega) (by rw [HSz.out];omega)).trans HA.out;exact⟨cell1 hA' rfl,cell1 hA' rfl,cell1 hp rfl⟩
 have hst: ∀w' x y,Kept (fun b=>(w.heap.size+1≤b∧b≠w.heap.size+3)∨W.heap.size≤b) W w'→w'.heap[w.heap.size+1+1+1+1+1+1]? =some (vk #[vg (vw (w.heap.size+1+1+1+1+1) 0)] 130 (0,0))→
  (fun w'=>w'.cell? w.heap.size=some (vd ao (nodes t).length cap)∧w'.cell? (vw w.heap.size 1)=some (ve vp (pl (nodes t) t:Nat))∧w'.cell? (vw (w.heap.size+1+1+1+1+1+1) 0)=some (vg (vw (w.heap.size+1+1+1+1+1) 0))) ((w'.setCell (vw (w.heap.size+1+1+1) 0) x).setCell (vw (w.heap.size+1+1+1) 1) y):=by
  intro w' x y hk hp;have e: ∀k o,k≠w.heap.size+1+1+1→((w'.setCell (vw (w.heap.size+1+1+1) 0) x).setCell (vw (w.heap.size+1+1+1) 1) y).cell? (vw k o)=w'.cell? (vw k o):=fun k o hk=>
   yr (w:=w') ((zg _ _ _ _ hk).trans (zg _ _ _ _ hk))
  have s:=hsk w' hk hp;exact⟨(e _ _ (by omega)).trans s.1,(e _ _ (by omega)).trans s.2.1,(e _ _ (by omega)).trans s.2.2⟩
 have HSK:=q8 hsk;have HST:=q8 hst;go_region_held3 (fun w'=>w'.cell? w.heap.size=some (vd ao (nodes t).length cap)∧w'.cell? (vw w.heap.size 1)=some (ve vp (pl (nodes t) t:Nat))∧w'.cell? (vw (w.heap.size+1+1+1+1+1+1) 0)=some (vg (vw (w.heap.size+1+1+1+1+1) 0)))
  (first
    |exact HST.out _ _ _ HK3.out HP3.out
    |exact HSK.out _ HK3.out HP3.out
    |exact HSK.out _ HK2.out HP2.out
    |exact HSK.out _ (Kept.refl _ _).drew HE.out.2.2.2.2.1)
  (first
    |(go_at_call 152;refine(Wf (J:=fun b=>w.heap.size+1≤b∧b≠w.heap.size+3) (Wy (yX ok) (by omega) (w.heap.size+1) (w.heap.size+1+1+1+1+1+1) (w.heap.size+1+1) (w.heap.size+1+1+1+1+1) i on) (yX ok) (by omega) (xr t) (owns_kept HR.out (HN.out.trans (Near.refl _).drew).kept (R:=fun _=>False) (fun _ _ x=>x)) (fun k hk=>by have:=HOwn.out k hk;omega) ⟨[],.nil,HM.out.near (Near.refl _).drew,qt _,by simp [phis,Jx,In],rfl,HE.out.keep (Near.refl W).drew (fun _ _ _ h=>h)⟩ rfl).mono ?_;rintro e w2 ⟨z,outs,rfl,hz,hi,hk⟩;have HI2:=q8 hi;have HZ2:=q8 hz;have hk2:Kept (fun b=>(w.heap.size+1≤b∧b≠w.heap.size+3)∨W.heap.size≤b) W w2:=Kept.mono ((Kept.refl _ W).drew.trans hk) (fun b _ h=>h);have HK2:=q8 hk2;have HP2:=q8 hi.env.2.2.2.2.1)
    |(go_at_call 69;have hz2:=HZ2.out;obtain⟨M,gM,hM2,hML,hin,ez⟩:=HI2.out.out (xr t) hz2;refine(xh gM (by omega) hin (Jw ok).1 hM2 ez).mono ?_;rintro e w3 ⟨v3,rfl,hd,hb⟩;obtain⟨bo,bn,bc,rfl,-⟩:=hd.form;have HD3:=q8 hd;have HB3:=q8 hb;have HK3:=q8 (HK2.out.trans (Near.of_below hb).kept);have HP3:=q8 (q1z hb HP2.out);have HR3:=q8 ((HK3.out.block (w.heap.size+1+1+1) (by rw [HSz.out];omega) (by rw [HSz.out];omega)).trans HB.out);have q0:=cell1 (o:=0) HR3.out rfl;have q1:=cell1 (o:=1) HR3.out rfl;have f0:=zQ HR3.out 0;have f1:=zQ HR3.out 1))
 all_goals
  go_wp2_with fail
  have hb3:Below w.heap.size w w3:=Kept.below (Kept.mono (HN.out.kept.trans HK3.out) (fun b _ h=>by
   have:=HSz.out
   rcases h with h|h<;>omega)) (qt _)
  exact qo (v:=vi #[vd bo bn bc,ve vp (pl (nodes (Jx i on t)) (Jx i on t):Nat)]) (by simp [qC,Tryz.results197,go_sem,q0,q1]) rfl
   ⟨Jx i on t,fun c=>ZI c,_,rfl,xS HD3.out HR3.out,(hb3.setCell (by show w.heap.size≤w.heap.size+1+1+1;omega) _).setCell (by show w.heap.size≤w.heap.size+1+1+1;omega) _⟩
def jO(w:World)(f:F)(e:Ending)(w':World):Prop:= ∃v,e= .returned v/\IsF w' v f/\Near w w'
theorem DEv.post{f:F}{e:Ending}(h:DEv w f e w'):jO w f e w':=by
 obtain⟨s,c,v,rfl,a,b⟩:=h;exact⟨v,rfl,⟨s,a,c⟩,Near.of_below b⟩
theorem IsF.congr{f g:F}(h:IsF w v f)(e: ∀c,f c=g c):IsF w v g:=let⟨t,a,b⟩:=h;⟨t,a,fun c=>(b c).trans (e c)⟩
theorem jO.congr{f g:F}{e:Ending}(h:jO w f e w')(i: ∀c,f c=g c):jO w g e w':=let⟨v,a,b,d⟩:=h;⟨v,a,b.congr i,d⟩
theorem and_f{b:Value}{f g:F}(k:IsF w b f)(l:IsF w a g):Calls qj 74 #[b,a] w (jO w (fun c=>f c&&g c)):=by
 have⟨t,d,m⟩:=k;have⟨u,i,j⟩:=l;exact(q2C d i).mono fun e n h=>h.post.congr fun c=>by rw [m,j]
theorem q5N{b:Value}{f g:F}(k:IsF w b f)(l:IsF w a g):Calls qj 148 #[b,a] w (jO w (fun c=>f c||g c)):=by
 have⟨t,d,m⟩:=k;have⟨u,i,j⟩:=l;exact(q3D d i).mono fun e n h=>h.post.congr fun c=>by rw [m,j]
theorem xor_f{b:Value}{f g:F}(k:IsF w b f)(l:IsF w a g):Calls qj 243 #[b,a] w (jO w (fun c=>f c !=g c)):=by
 have⟨t,d,m⟩:=k;have⟨u,i,j⟩:=l;exact(q05 d i).mono fun e n h=>h.post.congr fun c=>by rw [m,j]
theorem not_f{f:F}(d:IsF w a f):Calls qj 77 #[a] w (jO w (fun c=> !f c)):=by
 have⟨t,b,g⟩:=d;exact(q1i b).mono fun e i h=>h.post.congr fun c=>by rw [g]
theorem q4k{f:F}(d:IsF w a f)(i:Int)(on:Bool):Calls qj 197 #[a,ve vp i,vj on] w (jO w (fun c=>f (updI c i on))):=by
 have⟨t,b,g⟩:=d;exact(KD b i on).mono fun e j h=>h.post.congr fun c=>by rw [g]
theorem kG{f:F}:nowhere f=true↔ ∀c,f c=false:=by
 unfold nowhere;simp
theorem empty_f{d:Value}{f:F}(i:IsF w d f):Calls qj 19 #[d] w fun e g=>e=vm (vj (nowhere f))/\Near w g:=by
 have⟨t,a,b⟩:=i;have j:decide (t=leaf false)=nowhere f:=by
  rw [Bool.eq_iff_iff,decide_eq_true_iff,kG];refine⟨fun h c=> ?_,fun h=>canon a.1 trivial fun c=> ?_⟩
  .rw [<-b,h];rfl
  .rw [b,h];rfl
 rw [<-j];exact VU a
theorem yJ{x y:Value}{f:F}{p q:Value}(h:IsF w (vi #[x,y]) f)(e:w.heap[b]? =some (vk #[p,q] 43 (0,0))):IsF ((w.setCell b x).setCell (vw b 1) y) (vi #[x,y]) f:=by
 have⟨t,c,g⟩:=h;obtain⟨i,n,d,a,-⟩:=c.form;simp only [Value.agg.injEq,Array.mk.injEq,List.cons.injEq,and_true]at a;obtain⟨rfl,rfl⟩:=a;exact⟨t,xS c e,g⟩
theorem q7R{va vb vc:Value}{f g h:F}(V:IsF w va f)(Y:IsF w vb g)(hc:IsF w vc h):
 Calls qj 244 #[va,vb,vc] w (jO w (fun c=>if f c then g c else h c)):=by
 obtain⟨u,z,E,A,rfl⟩:=V.form;obtain⟨p,n,m,q,rfl⟩:=Y.form;obtain⟨D,r,C,B,rfl⟩:=hc.form;have U:=q8 V;have HB:=q8 Y;have HC:=q8 hc;go_enter Tryz.func244,Tryz.ntmps244;go_upto_region 1 with fail
 have j: ∀W,W=((((w.alloc (zK #[qw u z E,qs zD A] 43)).alloc (zK #[qw p n m,qs zD q] 43)).alloc (zK #[qw D r C,qs zD B] 43)).alloc (zK #[qw none 0 0,qs zD 0] 43))→
  Near w W∧W.heap[w.heap.size]? =some (vk #[vd u z E,ve vp A] 43 (0,0))∧W.heap[w.heap.size+1]? =some (vk #[vd p n m,ve vp q] 43 (0,0))∧W.heap[w.heap.size+1+1]? =some (vk #[vd D r C,ve vp B] 43 (0,0))∧W.heap[w.heap.size+1+1+1]? =some (vk #[vd none 0 0,ve vp 0] 43 (0,0)):=by
  rintro W rfl;refine⟨((((Near.refl w).alloc _).alloc _).alloc _).alloc _,?_,?_,?_,?_⟩
  all_goals
   repeat(first|exact heap_new_at (by simp;done)|refine(qD (by simp<;>omega)).trans ?_)
 have b:=j _ rfl;generalize((((w.alloc (zK #[qw u z E,qs zD A] 43)).alloc (zK #[qw p n m,qs zD q] 43)).alloc (zK #[qw D r C,qs zD B] 43)).alloc (zK #[qw none 0 0,qs zD 0] 43))=W at b⊢;have⟨hN,hA,hB,hC,hR⟩:=b;have I:=q8 hN;have G:=q8 hA;have H:=q8 hB;have K:=q8 hC;have d:=q8 hR;have J: ∀a,Near W a→a.cell? w.heap.size=some (vd u z E)∧a.cell? (vw w.heap.size 1)=some (ve vp A)∧a.cell? (vw (w.heap.size+1) 0)=some (vd p n m)∧a.cell? (vw (w.heap.size+1) 1)=some (ve vp q)∧a.cell? (vw (w.heap.size+1+1) 0)=some (vd D r C)∧a.cell? (vw (w.heap.size+1+1) 1)=some (ve vp B):=
  fun a h=>⟨cell1 (qE h G) rfl,cell1 (qE h G) rfl,cell1 (qE h H) rfl,cell1 (qE h H) rfl,cell1 (qE h K) rfl,cell1 (qE h K) rfl⟩
 have Q: ∀l x y,Near W l→(fun a=>a.cell? w.heap.size=some (vd u z E)∧a.cell? (vw w.heap.size 1)=some (ve vp A)∧a.cell? (vw (w.heap.size+1) 0)=some (vd p n m)∧a.cell? (vw (w.heap.size+1) 1)=some (ve vp q)∧a.cell? (vw (w.heap.size+1+1) 0)=some (vd D r C)∧a.cell? (vw (w.heap.size+1+1) 1)=some (ve vp B)) ((l.setCell (vw (w.heap.size+1+1+1) 0) x).setCell (vw (w.heap.size+1+1+1) 1) y):=fun l x y s=>by
  have e: ∀k o,k≠w.heap.size+1+1+1→((l.setCell (vw (w.heap.size+1+1+1) 0) x).setCell (vw (w.heap.size+1+1+1) 1) y).cell? (vw k o)=l.cell? (vw k o):=fun k o hk=>
   yr (w:=l) ((zg _ _ _ _ hk).trans (zg _ _ _ _ hk))
  have t:=J l s;exact⟨(e _ _ (by omega)).trans t.1,(e _ _ (by omega)).trans t.2.1,(e _ _ (by omega)).trans t.2.2.1,(e _ _ (by omega)).trans t.2.2.2.1,(e _ _ (by omega)).trans t.2.2.2.2.1,(e _ _ (by omega)).trans t.2.2.2.2.2⟩
 go_region_held3 (fun a=>a.cell? w.heap.size=some (vd u z E)∧a.cell? (vw w.heap.size 1)=some (ve vp A)∧a.cell? (vw (w.heap.size+1) 0)=some (vd p n m)∧a.cell? (vw (w.heap.size+1) 1)=some (ve vp q)∧a.cell? (vw (w.heap.size+1+1) 0)=some (vd D r C)∧a.cell? (vw (w.heap.size+1+1) 1)=some (ve vp B))
  (first
    |(refine J _ ?_;first|exact i|exact z3|exact L|exact N|exact(Near.refl _).drew)
    |exact Q _ _ _ i)
  (first
    |(go_at_call_of 74 (qw p n m);refine(and_f (U.near (I.trans (Near.refl _).drew)) (HB.near (I.trans (Near.refl _).drew))).mono ?_;rintro e v1 ⟨x1,rfl,s1,m1⟩;have S1:=q8 s1;obtain⟨ak,am,aj,al,rfl⟩:=s1.form;have N:Near W v1:=(Near.refl _).drew.trans m1)
    |(go_at_call 77;refine(not_f (U.near (I.trans N))).mono ?_;rintro e v2 ⟨x2,rfl,Z,X⟩;have S2:=q8 Z;obtain⟨af,ab,ad,ae,rfl⟩:=Z.form;have L:Near W v2:=N.trans X)
    |(go_at_call 74;refine(and_f S2 (HC.near (I.trans L))).mono ?_;rintro e v3 ⟨x3,rfl,s3,S⟩;have S3:=q8 s3;obtain⟨ai,ah,aa,ag,rfl⟩:=s3.form;have z3:Near W v3:=L.trans S)
    |(go_at_call 148;refine(q5N (S1.near (X.trans S)) S3).mono ?_;rintro e v4 ⟨x4,rfl,s4,m4⟩;have S4:=q8 s4;obtain⟨M,R,P,O,rfl⟩:=s4.form;have i:Near W v4:=z3.trans m4;have q0:=cell1 (o:=0) (qE i d) rfl;have q1:=cell1 (o:=1) (qE i d) rfl;have f0:=zQ (qE i d) 0;have f1:=zQ (qE i d) 1))
 all_goals
  go_wp2_with fail
  refine qo (v:=vi #[vd M R P,ve vp O]) (by simp [qC,Tryz.results244,go_sem,q0,q1]) rfl ⟨_,rfl,(yJ S4 (qE i d)).congr fun c=> ?_,(((I.trans i).set (by show w.heap.size≤w.heap.size+1+1+1;omega) _).set (by show w.heap.size≤w.heap.size+1+1+1;omega) _)⟩
  cases f c<;>cases g c<;>cases h c<;>rfl
def linT(cost:Nat->Int)(g:Int->Bool):Nat->Int->T
 |0,s=> .leaf (g s)
 |k+1,s=>T.mk (24 - (k+1)) (linT cost g k s) (linT cost g k (s+cost (24 - (k+1))))
def sumFrom(cost:Nat->Int)(c:Nat->Bool):Nat->Int
 |0=>0
 |k+1=>(if c (24 - (k+1))then cost (24 - (k+1))else 0)+sumFrom cost c k
theorem Vs(a:Nat->Int)(g:Int->Bool)(c:Nat->Bool): ∀(k:Nat)(s:Int),(linT a g k s).ev c=g (s+sumFrom a c k)
 |0,s=>by simp [linT,sumFrom,T.ev]
 |k+1,s=>by
  show(T.mk _ _ _).ev c=_;rw [T.mk_ev,Vs a g c k s,Vs a g c k];rw [show sumFrom a c (k+1)=(if c (24 - (k+1))then a (24 - (k+1))else 0)+sumFrom a c k from rfl];generalize sumFrom a c k=z
  cases c (24 - (k+1))<;>simp [Int.add_assoc]
def SpanOk(cost:Nat->Int)(g:Int->Bool)(L:List T)(k:Nat)(x:Dec):Prop:=
 ∃t:T,T.In L t/\x.hi=(pl L t:Nat)/\(∀s,x.v<=s->s<=x.lo->linT cost g k s=t)/\t.Ok/\24 - k<=t.lv/\
  (-(35184372088832+2147483648*(k:Int))<=x.v/\x.v<=35184372088832+2147483648*(k:Int))/\(-(35184372088832+2147483648*(k:Int))<=x.lo/\x.lo<=35184372088832+2147483648*(k:Int))
theorem SpanOk.mono{a:Nat->Int}{g:Int->Bool}{x:Dec}(h:SpanOk a g L k x)(M:List T):SpanOk a g (L++M) k x:=by
 have⟨t,b,c,d⟩:=h;exact⟨t,b.mono M,by rw [T.pl_append b];exact c,d⟩
def gH(c:Int)(p:Int)(a b:Dec):Dec:=⟨max a.v (b.v - c),min a.lo (b.lo - c),p⟩
theorem q0x{c:Nat->Int}{g:Int->Bool}(p:k+1<=24){a b:Dec}{d e:T}(r: -2147483648<=c (24 - (k+1))/\c (24 - (k+1))<=2147483648)
 (n:T.In L d) (l: ∀s,a.v<=s->s<=a.lo->linT c g k s=d) (m:d.Ok) (q:24 - k<=d.lv)
 (h: ∀s,b.v<=s->s<=b.lo->linT c g k s=e) (i:e.Ok) (lb:24 - k<=e.lv)
 (o:(-(35184372088832+2147483648*(k:Int))<=a.v/\a.v<=35184372088832+2147483648*(k:Int))/\(-(35184372088832+2147483648*(k:Int))<=a.lo/\a.lo<=35184372088832+2147483648*(k:Int)))
 (t:(-(35184372088832+2147483648*(k:Int))<=b.v/\b.v<=35184372088832+2147483648*(k:Int))/\(-(35184372088832+2147483648*(k:Int))<=b.lo/\b.lo<=35184372088832+2147483648*(k:Int))):
 SpanOk c g (T.add L (24 - (k+1)) d e) (k+1) (gH (c (24 - (k+1))) (pl (T.add L (24 - (k+1)) d e) (T.mk (24 - (k+1)) d e):Nat) a b):=by
 refine⟨T.mk (24 - (k+1)) d e,T.add_in n,rfl,fun s f j=> ?_,T.mk_ok (by omega) (by omega) (by omega) m i,T.mk_lv (by omega),?_⟩
 .simp only [gH]at f j
  show T.mk _ _ _=_;rw [l s (by omega) (by omega),h (s+c (24 - (k+1))) (by omega) (by omega)]
 .simp only [gH]
  omega
theorem WN{c p s:Int}{a b:Dec}(d:a.v<=s/\s<=a.lo)(e:b.v<=s+c/\s+c<=b.lo):(gH c p a b).v<=s/\s<=(gH c p a b).lo:=by
 simp only [gH];omega
end Go.Proofs.YtjcbmcnbdegpmaaGreatDoor
namespace Go.Proofs.YtjcbmcnbdegpmaaGreatDoor
open Go Go.RowKit Go.Shelf Go.Proofs.Gen Go.Proofs.Bdd Go.Proofs.Bdd.T
def lastOf(md:yG)(ops:Array Oper)(listed:Array Bool)(z:Nat):Bool:=
 match ops[z]? with
 |none=>false
 |some o=>(qO ops.size).all fun i=>i==z||(listed.getD i false||o.after.any fun e=>Region.binds md e&&e.on==i)
theorem VC{md:yG}{ops:Array Oper}{a:Array Bool}{z:Nat}(h:lastOf md ops a z=true)(j:Nat):lastOf md ops (a.setIfInBounds j true) z=true:=by
 unfold lastOf at h⊢;split at h
 ·cases h
 ·rename_i o g
  refine qL.2 fun i f=> ?_;have c:=qL.1 h i f;rw [yM,yM]at c⊢;refine c.imp id (Or.imp (fun d=> ?_) id);by_cases e:j=i
  ·subst e
   rcases wG j a.size with b|b
   ·simp [b]
   ·simp [gt b]at d
  ·rw [getD_set_ne false e]
   exact d
def xm(P:Program)(md:yG)(ops:Array Oper)(Q:Exit->Act->World->Prop)(S:World->Prop)(z:Nat):Nat->Array Bool->Act->World->Prop
 |0,listed,a,w=>yQ md ops listed=[]/\Q .normal a w
 |fuel+1,listed,a,w=>
  (yQ md ops listed=[]->Q .normal a w)/\
  ∀i∈yQ md ops listed,wpOp P ops Q i (fun a' w'=>(i=z\/S w')/\xm P md ops Q S z fuel (listed.setIfInBounds i true) a' w') a w
section
variable {P:Program}{ops:Array Oper}{Q:Exit->Act->World->Prop}{md:yG}{S:World->Prop}{z:Nat}
theorem vE: ∀(b:Nat)(c:Array Bool)(a:Act)(w:World),xm P md ops Q S z b c a w->wpAny P md ops Q b c a w
 |0,_,_,_,h=>h
 |b+1,_,_,_,h=>⟨h.1,fun i f=>wpOp_mono (fun e d g=>vE b _ e d g.2) (h.2 i f)⟩
theorem Xz{a:Array Bool}(j:lastOf md ops a z=true){i:Nat}(n:z∈yQ md ops a)(q:i∈yQ md ops a):i=z:=by
 obtain⟨b,t,e,-⟩:=mem_ready.1 q;obtain⟨-,p,l,d⟩:=mem_ready.1 n;refine jG fun f=> ?_;unfold lastOf at j;rw [l]at j;have m:=qL.1 j i (List.mem_range.2 (qk.1 e).1);rw [yM,yM,beq_iff_eq]at m;rcases m with h|h|h
 .exact f h
 .rcases wG i a.size with c|c
  .simp [c]at b h;rw [h]at b;cases b
  .simp [gt c]at b
 .have⟨k,r,h⟩:=Array.any_eq_true.1 h
  rw [qy]at h;have⟨o,s⟩:=h;have g:=d _ (Array.getElem_mem r) o;rw [show(p.after[k]).on=i by simpa using s]at g;rcases wG i a.size with c|c
  .simp [c]at b g;rw [g]at b;cases b
  .simp [gt c]at b
theorem QA{i:Nat}{q:Oper}{v:Value}(E:ops[i]? =some q)(m: ∀(j:Nat)(o:Oper) x b,ops[j]? =some o->o.op≠ .select x b)
 (L: ∀c a w,Q (.panic c) (a.put q.dst v) w->Q (.panic c) a w):
 ∀(f:Nat)(d:Array Bool)(a:Act)(w:World),lastOf md ops d z=true->
  (∀j p,ops[j]? =some p->j≠i->d.getD j true=false->(∀e∈p.after,Region.binds md e=true->e.on≠i)->q.apart ops p=true)->
  i∈yQ md ops d->YieldsIf P ops S q v a->S w->
  xm P md ops Q S z f (d.setIfInBounds i true) (a.put q.dst v) w->xm P md ops Q S z (f+1) d a w
 |f,d,a,w,W,l,A,M,O,H=>by
  refine⟨fun h=>absurd A (by rw [h];exact zh),fun j B=> ?_⟩;by_cases g:j=i
  .subst g
   exact M.wpOp E O ⟨vv O,H⟩
  .cases f with
   |zero=>exact absurd (ready_mono B g) (by rw [H.1];exact zh)
   |succ f=>
    have⟨s,p,n,t⟩:=mem_ready.1 B;have y: ∀e∈p.after,Region.binds md e=true->e.on≠i:=fun e he hb K=>by
     have u:=t e he hb;have R:=(mem_ready.1 A).1;rw [K]at u;rcases wG i d.size with G|G
     .simp [G]at R u;rw [R]at u;cases u
     .simp [gt G]at u
    refine wpOp_mono ?_ (wpOp_putIf n (l j p n g s y) (fun x b=>m i q x b E) (fun x b=>m j p x b n) L M (H.2 j (ready_mono B g)));rintro a' N ⟨C,J,X⟩;have U:S N:=J.resolve_left fun e=>g (by
     subst e;exact(Xz W B A).symm)
    refine⟨vv U,QA E m L f _ a' N (VC W j) (fun k Z Y D V I=>l k Z Y D ?_ I) (ready_mono A (Ne.symm g)) C U ?_⟩
    .by_cases r:j=k
     .subst r;exact s
     .rw [getD_set_ne true r]at V;exact V
    .rw [Array.setIfInBounds_comm _ _ g]
     exact X
theorem Kz{b:Array Bool}(m:lastOf md ops b z=true){i:Nat}{e:Oper}{v:Value}{d:Nat}{a:Act}{w:World}(f:ops[i]? =some e)
 (l:YP ops=true) (n:Region.free md ops b i=true) (g:(yQ md ops b).contains i=true)
 (j: ∀c a w,Q (.panic c) (a.put e.dst v) w->Q (.panic c) a w) (k:YieldsIf P ops S e v a) (o:S w)
 (h:xm P md ops Q S z d (b.setIfInBounds i true) (a.put e.dst v) w):xm P md ops Q S z (d+1) b a w:=
 QA f (Region.noSelect_spec l) j d b a w m (Region.free_spec f n) (by simpa using g) k o h
theorem Ww{i:Nat}{o:Oper}{c:Nat}{b:Array Bool}{a:Act}{w:World}(e:yQ md ops b=[i])(k:ops[i]? =some o)
 (h: ∀d:Act->World->Prop,Shut (∀a w,(i=z\/S w)->xm P md ops Q S z c (b.setIfInBounds i true) a w->d a w)->if yg o (Ky ops a.tmps)=true then xC P o a w d Q else d (a.put o.dst undef) w):
 xm P md ops Q S z (c+1) b a w:=by
 refine⟨fun h=>absurd h (by rw [e];simp),fun j f=> ?_⟩;rw [e]at f
 cases List.mem_singleton.1 f;exact wpOp_step k (fun d l=>h d (fun a w m g=>l a w ⟨m,g⟩))
theorem yR{b:Array Bool}{a:Act}{w:World}(c:yQ md ops b=[])(h:Q .normal a w):xm P md ops Q S z 0 b a w:=⟨c,h⟩
end
end Go.Proofs.YtjcbmcnbdegpmaaGreatDoor
namespace Go.Proofs.YtjcbmcnbdegpmaaGreatDoor
open Go Go.RowKit Go.Shelf Go.Proofs.Gen
theorem Ze{id:Nat}{P:Program}{b:Array Oper}{Q:Exit->Act->World->Prop}{a:Act}{w:World}(c:P.follows .mixedOrders=true)
 (h:wpAny P .any b Q b.size (Array.replicate b.size false) a w.drew):(Code.region id b true).wp P Q a w:=
 wp_region_any c h
section
variable {P:Program}{Q:Exit->Act->World->Prop}{md:yG}{S:World->Prop}{z fuel:Nat}{listed:Array Bool}{a:Act}{w:World}{v:Value}{oi:Oper}{r:List Oper}
def jD(P:Program)(md:yG)(Q:Exit->Act->World->Prop)(S:World->Prop)(fuel:Nat)(listed:Array Bool)(a:Act)(w:World)(v:Value)(oi:Oper)(i:Nat)(L:Array Oper):Prop:=
 ∀(_:YP L=true)(_:Region.free md L listed i=true)(_:(yQ md L listed).contains i=true)(_: ∀c a w,Q (.panic c) (a.put oi.dst v) w->Q (.panic c) a w)(_:YieldsIf P L S oi v a)(_:S w)
  (_:wpAnyH P md L Q S fuel (listed.setIfInBounds i true) (a.put oi.dst v) w),wpAnyH P md L Q S (fuel+1) listed a w
theorem zT{i:Nat}{L:Array Oper}(f:L[i]? =some oi):jD P md Q S fuel listed a w v oi i L:=fun g e b c d j h=>wpAnyH_take (i:=i) f g e b c d j h
def q6H(P:Program)(md:yG)(Q:Exit->Act->World->Prop)(S:World->Prop)(z fuel:Nat)(listed:Array Bool)(a:Act)(w:World)(v:Value)(oi:Oper)(i:Nat)(L:Array Oper):Prop:=
 ∀(_:lastOf md L listed z=true)(_:YP L=true)(_:Region.free md L listed i=true)(_:(yQ md L listed).contains i=true)(_: ∀c a w,Q (.panic c) (a.put oi.dst v) w->Q (.panic c) a w)(_:YieldsIf P L S oi v a)(_:S w)
  (_:xm P md L Q S z fuel (listed.setIfInBounds i true) (a.put oi.dst v) w),xm P md L Q S z (fuel+1) listed a w
theorem Uy{i:Nat}{L:Array Oper}(f:L[i]? =some oi):q6H P md Q S z fuel listed a w v oi i L:=fun g j e b c d k h=>Kz (i:=i) g f j e b c d k h
def Yg(P:Program)(md:yG)(Q:Exit->Act->World->Prop)(fuel:Nat)(listed:Array Bool)(a:Act)(w:World)(v:Value)(oi:Oper)(i:Nat)(L:Array Oper):Prop:=
 ∀(_:YP L=true)(_:Region.free md L listed i=true)(_:(yQ md L listed).contains i=true)(_: ∀c a w,Q (.panic c) (a.put oi.dst v) w->Q (.panic c) a w)(_:Yields P L oi v a)
  (_:wpAny P md L Q fuel (listed.setIfInBounds i true) (a.put oi.dst v) w),wpAny P md L Q (fuel+1) listed a w
theorem km{i:Nat}{L:Array Oper}(f:L[i]? =some oi):Yg P md Q fuel listed a w v oi i L:=fun g e b c d h=>wpAny_take (i:=i) f g e b c d h
def YQ(P:Program)(md:yG)(Q:Exit->Act->World->Prop)(S:World->Prop)(z fuel:Nat)(listed:Array Bool)(a:Act)(w:World)(oi:Oper)(i:Nat)(L:Array Oper):Prop:=
 ∀(_:yQ md L listed=[i])
  (_: ∀K':Act->World->Prop,Shut (∀a w,(i=z\/S w)->xm P md L Q S z fuel (listed.setIfInBounds i true) a w->K' a w)->if yg oi (Ky L a.tmps)=true then xC P oi a w K' Q else K' (a.put oi.dst undef) w),xm P md L Q S z (fuel+1) listed a w
theorem jk{i:Nat}{L:Array Oper}(c:L[i]? =some oi):YQ P md Q S z fuel listed a w oi i L:=fun b h=>Ww b c h
def Kv(P:Program)(md:yG)(Q:Exit->Act->World->Prop)(S:World->Prop)(fuel:Nat)(listed:Array Bool)(a:Act)(w:World)(oi:Oper)(rs:List Nat)(i:Nat)(L:Array Oper):Prop:=
 ∀(_: ∀K':Act->World->Prop,Shut (∀a w,S w->(S w->wpAnyH P md L Q S fuel (listed.setIfInBounds i true) a w)->K' a w)->if yg oi (Ky L a.tmps)=true then xC P oi a w K' Q else K' (a.put oi.dst undef) w)
  (_:AllReadyH P md L Q S fuel listed a w rs),AllReadyH P md L Q S fuel listed a w (i::rs)
theorem uf{i:Nat}{L:Array Oper}{rs:List Nat}(c:L[i]? =some oi):Kv P md Q S fuel listed a w oi rs i L:=fun h b=>AllReadyH.cons c h b
theorem q4x:jD P md Q S fuel listed a w v oi 0 (qx (oi::r)):=zT rfl
theorem q4E:Yg P md Q fuel listed a w v oi 0 (qx (oi::r)):=km rfl
theorem q4w{b:Oper}:jD P md Q S fuel listed a w v oi 1 (qx (b::oi::r)):=zT rfl
theorem q4D{b:Oper}:Yg P md Q fuel listed a w v oi 1 (qx (b::oi::r)):=km rfl
theorem q4v{b c:Oper}:jD P md Q S fuel listed a w v oi 2 (qx (b::c::oi::r)):=zT rfl
theorem q4C{b c:Oper}:Yg P md Q fuel listed a w v oi 2 (qx (b::c::oi::r)):=km rfl
theorem q4u{c d b:Oper}:jD P md Q S fuel listed a w v oi 3 (qx (c::d::b::oi::r)):=zT rfl
theorem q4B{c d b:Oper}:Yg P md Q fuel listed a w v oi 3 (qx (c::d::b::oi::r)):=km rfl
theorem q4t{d e c b:Oper}:jD P md Q S fuel listed a w v oi 4 (qx (d::e::c::b::oi::r)):=zT rfl
theorem q4A{d e c b:Oper}:Yg P md Q fuel listed a w v oi 4 (qx (d::e::c::b::oi::r)):=km rfl
theorem q4s{c d e b f:Oper}:jD P md Q S fuel listed a w v oi 5 (qx (c::d::e::b::f::oi::r)):=zT rfl
theorem q4z{c d e b f:Oper}:Yg P md Q fuel listed a w v oi 5 (qx (c::d::e::b::f::oi::r)):=km rfl
theorem q4r{c e f b g d:Oper}:jD P md Q S fuel listed a w v oi 6 (qx (c::e::f::b::g::d::oi::r)):=zT rfl
theorem q4y{c e f b g d:Oper}:Yg P md Q fuel listed a w v oi 6 (qx (c::e::f::b::g::d::oi::r)):=km rfl
theorem q4q{c f g b h e d:Oper}:jD P md Q S fuel listed a w v oi 7 (qx (c::f::g::b::h::e::d::oi::r)):=zT rfl
theorem q4o{c f g b h e d:Oper}:q6H P md Q S z fuel listed a w v oi 7 (qx (c::f::g::b::h::e::d::oi::r)):=Uy rfl
theorem q4p{c f h b i e d g:Oper}:jD P md Q S fuel listed a w v oi 8 (qx (c::f::h::b::i::e::d::g::oi::r)):=zT rfl
theorem q4n{c f h b i e d g:Oper}:q6H P md Q S z fuel listed a w v oi 8 (qx (c::f::h::b::i::e::d::g::oi::r)):=Uy rfl
theorem q70{c f h b j e d g i:Oper}:jD P md Q S fuel listed a w v oi 9 (qx (c::f::h::b::j::e::d::g::i::oi::r)):=zT rfl
theorem q7f{c f h b j e d g i:Oper}:YQ P md Q S z fuel listed a w oi 9 (qx (c::f::h::b::j::e::d::g::i::oi::r)):=jk rfl
theorem q0r{c f i b k e d g j h:Oper}:jD P md Q S fuel listed a w v oi 10 (qx (c::f::i::b::k::e::d::g::j::h::oi::r)):=zT rfl
theorem q4M{c f i b k e d g j h:Oper}:YQ P md Q S z fuel listed a w oi 10 (qx (c::f::i::b::k::e::d::g::j::h::oi::r)):=jk rfl
theorem q5r{d g j c l f e h k i b:Oper}:jD P md Q S fuel listed a w v oi 11 (qx (d::g::j::c::l::f::e::h::k::i::b::oi::r)):=zT rfl
theorem q0t{d g j c l f e h k i b:Oper}:Yg P md Q fuel listed a w v oi 11 (qx (d::g::j::c::l::f::e::h::k::i::b::oi::r)):=km rfl
theorem YW{e h k d m g f i l j b c:Oper}:jD P md Q S fuel listed a w v oi 12 (qx (e::h::k::d::m::g::f::i::l::j::b::c::oi::r)):=zT rfl
theorem q0s{e h k d m g f i l j b c:Oper}:Yg P md Q fuel listed a w v oi 12 (qx (e::h::k::d::m::g::f::i::l::j::b::c::oi::r)):=km rfl
theorem q5q{f i l e n h g j m k b d c:Oper}:jD P md Q S fuel listed a w v oi 13 (qx (f::i::l::e::n::h::g::j::m::k::b::d::c::oi::r)):=zT rfl
theorem q4L{f i l e n h g j m k b d c:Oper}:YQ P md Q S z fuel listed a w oi 13 (qx (f::i::l::e::n::h::g::j::m::k::b::d::c::oi::r)):=jk rfl
theorem q5p{g j m f o i h k n l b e d c:Oper}:jD P md Q S fuel listed a w v oi 14 (qx (g::j::m::f::o::i::h::k::n::l::b::e::d::c::oi::r)):=zT rfl
theorem q4K{g j m f o i h k n l b e d c:Oper}:YQ P md Q S z fuel listed a w oi 14 (qx (g::j::m::f::o::i::h::k::n::l::b::e::d::c::oi::r)):=jk rfl
theorem q5o{h k n g p j i l o m b f d c e:Oper}:jD P md Q S fuel listed a w v oi 15 (qx (h::k::n::g::p::j::i::l::o::m::b::f::d::c::e::oi::r)):=zT rfl
theorem q5n{o j m h q p i k n l f e g c d b:Oper}:jD P md Q S fuel listed a w v oi 16 (qx (o::j::m::h::q::p::i::k::n::l::f::e::g::c::d::b::oi::r)):=zT rfl
theorem q5m{p k n i s q j l o m g f h d e b c:Oper}:jD P md Q S fuel listed a w v oi 17 (qx (p::k::n::i::s::q::j::l::o::m::g::f::h::d::e::b::c::oi::r)):=zT rfl
theorem q5l{q l o j t s k m p n h f i d e b c g:Oper}:jD P md Q S fuel listed a w v oi 18 (qx (q::l::o::j::t::s::k::m::p::n::h::f::i::d::e::b::c::g::oi::r)):=zT rfl
theorem q5k{s m p k u t l n q o i g j d f b c h e:Oper}:jD P md Q S fuel listed a w v oi 19 (qx (s::m::p::k::u::t::l::n::q::o::i::g::j::d::f::b::c::h::e::oi::r)):=zT rfl
theorem q5j{t n q l x u m o s p j g k d f b c h e i:Oper}:jD P md Q S fuel listed a w v oi 20 (qx (t::n::q::l::x::u::m::o::s::p::j::g::k::d::f::b::c::h::e::i::oi::r)):=zT rfl
theorem q5i{u o s m y x n p t q j g l d f b c h e i k:Oper}:jD P md Q S fuel listed a w v oi 21 (qx (u::o::s::m::y::x::n::p::t::q::j::g::l::d::f::b::c::h::e::i::k::oi::r)):=zT rfl
theorem q5h{x p t n A y o q u s j g m d f b c h e i k l:Oper}:jD P md Q S fuel listed a w v oi 22 (qx (x::p::t::n::A::y::o::q::u::s::j::g::m::d::f::b::c::h::e::i::k::l::oi::r)):=zT rfl
theorem q5g{y q u o B A p s x t k h n d f b c i e j l m g:Oper}:jD P md Q S fuel listed a w v oi 23 (qx (y::q::u::o::B::A::p::s::x::t::k::h::n::d::f::b::c::i::e::j::l::m::g::oi::r)):=zT rfl
theorem q5f{A s x p C B q t y u k h o d f b c i e j l n g m:Oper}:jD P md Q S fuel listed a w v oi 24 (qx (A::s::x::p::C::B::q::t::y::u::k::h::o::d::f::b::c::i::e::j::l::n::g::m::oi::r)):=zT rfl
theorem q5e{B t y q D C s u A x k h p d f b c i e j l o g m n:Oper}:jD P md Q S fuel listed a w v oi 25 (qx (B::t::y::q::D::C::s::u::A::x::k::h::p::d::f::b::c::i::e::j::l::o::g::m::n::oi::r)):=zT rfl
theorem q5d{C u A s E D t x B y l i q d g b c j e k m p h n o f:Oper}:jD P md Q S fuel listed a w v oi 26 (qx (C::u::A::s::E::D::t::x::B::y::l::i::q::d::g::b::c::j::e::k::m::p::h::n::o::f::oi::r)):=zT rfl
theorem q5c{D x B t G E u y C A l i s d g b c j e k m q h n p f o:Oper}:jD P md Q S fuel listed a w v oi 27 (qx (D::x::B::t::G::E::u::y::C::A::l::i::s::d::g::b::c::j::e::k::m::q::h::n::p::f::o::oi::r)):=zT rfl
theorem q5b{E y C u H G x A D B l i t d g b c j e k m s h n p f q o:Oper}:jD P md Q S fuel listed a w v oi 28 (qx (E::y::C::u::H::G::x::A::D::B::l::i::t::d::g::b::c::j::e::k::m::s::h::n::p::f::q::o::oi::r)):=zT rfl
theorem q5a{G A D x I H y B E C l i s d g b c j e k m t h n p f q o u:Oper}:jD P md Q S fuel listed a w v oi 29 (qx (G::A::D::x::I::H::y::B::E::C::l::i::s::d::g::b::c::j::e::k::m::t::h::n::p::f::q::o::u::oi::r)):=zT rfl
theorem q59{H B E y J I A C G D m i t d g b c k e l n u h o q f s p x j:Oper}:jD P md Q S fuel listed a w v oi 30 (qx (H::B::E::y::J::I::A::C::G::D::m::i::t::d::g::b::c::k::e::l::n::u::h::o::q::f::s::p::x::j::oi::r)):=zT rfl
theorem q58{I C G A K J B D H E m i t d g b c k e l n u h o q f s p y j x:Oper}:jD P md Q S fuel listed a w v oi 31 (qx (I::C::G::A::K::J::B::D::H::E::m::i::t::d::g::b::c::k::e::l::n::u::h::o::q::f::s::p::y::j::x::oi::r)):=zT rfl
theorem q57{L G J E D C B H K I t n A k m b i p l q u h d e g c x f s o y j:Oper}:jD P md Q S fuel listed a w v oi 32 (qx (L::G::J::E::D::C::B::H::K::I::t::n::A::k::m::b::i::p::l::q::u::h::d::e::g::c::x::f::s::o::y::j::oi::r)):=zT rfl
theorem q2i{M H K G E D C I L J u o B l n b j q m s x h d e g c y f t p A k i:Oper}{rs:List Nat}:Kv P md Q S fuel listed a w oi rs 33 (qx (M::H::K::G::E::D::C::I::L::J::u::o::B::l::n::b::j::q::m::s::x::h::d::e::g::c::y::f::t::p::A::k::i::oi::r)):=uf rfl
theorem q0q{N I L H G E D J M K x p C m o b k s n t y i e f h d A g u q B l j c:Oper}:jD P md Q S fuel listed a w v oi 34 (qx (N::I::L::H::G::E::D::J::M::K::x::p::C::m::o::b::k::s::n::t::y::i::e::f::h::d::A::g::u::q::B::l::j::c::oi::r)):=zT rfl
theorem q2h{O J M I H G E K N L y q D n p b l t o u A i e f h d B g x s C m k c j:Oper}{rs:List Nat}:Kv P md Q S fuel listed a w oi rs 35 (qx (O::J::M::I::H::G::E::K::N::L::y::q::D::n::p::b::l::t::o::u::A::i::e::f::h::d::B::g::x::s::C::m::k::c::j::oi::r)):=uf rfl
theorem q2g{R K N J I H G L O M A s E o q b m u p x B j f g i e C h y t D n l c k d:Oper}{rs:List Nat}:Kv P md Q S fuel listed a w oi rs 36 (qx (R::K::N::J::I::H::G::L::O::M::A::s::E::o::q::b::m::u::p::x::B::j::f::g::i::e::C::h::y::t::D::n::l::c::k::d::oi::r)):=uf rfl
end
end Go.Proofs.YtjcbmcnbdegpmaaGreatDoor
namespace Go.Proofs.YtjcbmcnbdegpmaaGreatDoor
open Go Go.RowKit Go.Proofs.Gen Go.Proofs.Bdd Go.Proofs.Bdd.T
variable{off on x:Nat}
def lit(on off:Nat)(c:Nat->Bool)(i:Nat):Bool:=(!on.testBit i||c i)&& (!off.testBit i|| !c i)
def litsFrom(on off:Nat)(c:Nat->Bool):Nat->Nat->Bool
 |_,0=>true
 |k,n+1=>lit on off c k&&litsFrom on off c (k+1) n
def cubeF(on off:Nat):F:=fun c=>litsFrom on off c 0 24
theorem QF(on off:Nat)(c:Nat->Bool): ∀n k,litsFrom on off c k n=true↔ ∀i,k<=i->i<k+n->lit on off c i=true
 |0,k=>by
  constructor
  .intro _ i h1 h2
   omega
  .intro _
   rfl
 |n+1,k=>by
  rw [litsFrom,qy,QF on off c n (k+1)];constructor
  .rintro⟨h1,h2⟩ i hi hi'
   by_cases e:i=k
   .rw [e]
    exact h1
   .exact h2 i (by omega) (by omega)
  .intro h
   exact⟨h k (qt _) (by omega),fun i h1 h2=>h i (by omega) (by omega)⟩
theorem q2c{c:Nat->Bool}:cubeF on off c=true↔ ∀i,i<24->lit on off c i=true:=by
 unfold cubeF;rw [QF];exact⟨fun h i hi=>h i (qv _) (by omega),fun h i _ hi=>h i (by omega)⟩
theorem q1s(x i:Nat)(a:i<24):(x&&&16777215).testBit i=x.testBit i:=by
 have e:(16777215:Nat)=2^24 - 1:=by decide
 rw [q2Q,e,Nat.testBit_two_pow_sub_one];simp [a]
theorem Za(x:Nat):x&&&16777215<16777216:=zR Nat.and_le_right (by decide)
theorem VX{on off:Nat}(h:(on&&&16777215)&&& (off&&&16777215)≠0)(c:Nat->Bool):cubeF on off c=false:=by
 rw [Bool.eq_false_iff];intro hc;obtain⟨i,hi⟩: ∃i,((on&&&16777215)&&& (off&&&16777215)).testBit i=true:=jG fun hn=>h (Nat.eq_of_testBit_eq fun i=>by
  rw [Nat.zero_testBit]
  cases hb:((on&&&16777215)&&& (off&&&16777215)).testBit i
  .rfl
  .exact(hn ⟨i,hb⟩).elim)
 have hlt:i<24:=by
  refine jG fun hn=> ?_;rw [q2Q,Nat.testBit_lt_two_pow (Nat.lt_of_lt_of_le (Za on) (by
   have e:(16777216:Nat)=2^24:=by decide
   rw [e];exact Nat.pow_le_pow_right (by omega) (by omega)))]at hi
  simp at hi
 rw [q2Q,q1s _ _ hlt,q1s _ _ hlt,qy]at hi
 have:=q2c.1 hc i hlt
 unfold lit at this;rw [hi.1,hi.2]at this
 cases hci:c i<;>simp [hci]at this
theorem q7t(h1:on<4294967296)(h2:off<4294967296)(w:World):Calls qj 14 #[.int .u32 on,.int .u32 off] w (jO w (cubeF on off)):=by
 have a1:bits .and .u32 (on:Int) 16777215=((on&&&16777215:Nat):Int):=Go.Proofs.Gen.u32_and on 16777215 h1 (by decide);have a2:bits .and .u32 (off:Int) 16777215=((off&&&16777215:Nat):Int):=Go.Proofs.Gen.u32_and off 16777215 h2 (by decide);have l1:=Za on;have l2:=Za off;have hb1: ∀i,i<24→(on&&&16777215).testBit i=on.testBit i:=fun i hi=>q1s on i hi;have hb2: ∀i,i<24→(off&&&16777215).testBit i=off.testBit i:=fun i hi=>q1s off i hi;have hcl:= @VX on off;obtain⟨x,hx⟩: ∃x,x=on&&&16777215:=⟨_,rfl⟩;obtain⟨y,hy⟩: ∃y,y=off&&&16777215:=⟨_,rfl⟩;rw [←hx]at a1 l1 hb1 hcl;rw [←hy]at a2 l2 hb2 hcl;have a3:bits .and .u32 (x:Int) y=((x&&&y:Nat):Int):=Go.Proofs.Gen.u32_and x y (by omega) (by omega);have HB1:=q8 hb1;have HB2:=q8 hb2;have HCL:=q8 hcl;clear hx hy hb1 hb2 hcl;by_cases hxy:x&&&y=0
 ·have hne:(((x&&&y:Nat):Int) !=0)=false:=by simp [hxy]
  have HXY:=q8 hxy;clear hxy;go_enter Tryz.func14,Tryz.ntmps14;go_wp2_with (first
   |(go_at_call 67;refine(xR _).mono ?_;rintro e w1 ⟨rfl,rfl⟩))
  have facts: ∀W,W=(((w.alloc (zK #[qw none 0 0,qs zD 0] 43)).alloc (Obj.map #[] 0)).alloc (zK #[qw none 0 0,Value.map (some (w.heap.size+1))] 194))→
   Near w W∧W.heap[w.heap.size]? =some (.cells #[.slice none 0 0,.int .i64 0] 43 (0,0))∧w.heap.size+1≤W.heap.size∧IsMaker W (w.heap.size+1+1) (fun b=>w.heap.size+1≤b) []:=by
   rintro W rfl;refine⟨(((Near.refl w).alloc _).alloc _).alloc _,?_,by simp<;>omega,xF ?_ (kb:=w.heap.size+1) ?_ (by omega) (by omega)⟩
   all_goals
    repeat(first|exact heap_new_at (by simp;done)|refine(qD (by simp<;>omega)).trans ?_)
  have facts':=facts _ rfl;generalize(((w.alloc (zK #[qw none 0 0,qs zD 0] 43)).alloc (Obj.map #[] 0)).alloc (zK #[qw none 0 0,Value.map (some (w.heap.size+1))] 194))=W at facts'⊢;clear facts;obtain⟨hN,hR,hsz,hM⟩:=facts';have HN:=q8 hN;have HR:=q8 hR;have HM:=q8 hM;clear hN hR hM a1 a2 a3 hne;go_loopw [6,7] (fun r i wr=> ∃(k:Nat)(t:T)(M:List T),k≤24∧i= .int .i64 ((k:Int) - 1)∧r= .int .i64 (pl M t:Nat)∧T.Good M∧IsMaker wr (w.heap.size+1+1) (fun b=>w.heap.size+1≤b) M∧M.length≤24 - k∧In M t∧t.Ok∧k≤t.lv∧(∀c,t.ev c=litsFrom on off c k (24 - k))∧Kept (fun b=>w.heap.size+1≤b) W wr) (fun _ i _=>(intOf i+1).toNat)
  case atStart=>exact⟨24,leaf true,[],qt _,rfl,rfl,.nil,HM.out,qt _,trivial,trivial,qt _,fun c=>rfl,Kept.refl _ _⟩
  case round=>
   obtain⟨k,t,M,hk,rfl,rfl,gM,hm,hML,hin,ok,hlv,hev,hkp⟩:=hrel;have HM2:=q8 hm;have HK:=q8 hkp;have HEV:=q8 hev;have hwr:=hkp.size;clear hm hkp hev
   cases k with
   |zero=>
    have e0:((0:Nat):Int) - 1= -1:=rfl;rw [e0];have HRr:=q8 ((HK.out.block _ (by omega) (by omega)).trans HR.out);have hn1: ¬(0:Int)≤ -1:=by omega
    go_wp2_with (first
     |(go_at_call 69;refine(xh gM (by omega) hin ok HM2.out rfl).mono ?_;rintro e w3 ⟨v3,rfl,hd,hb⟩;obtain⟨bo,bn,bc,rfl,-⟩:=hd.form;have HD3:=q8 hd;have HB3:=q8 hb;have HE:=q8 (q1z hb HRr.out);have q0:=cell1 (o:=0) HE.out rfl;have q1:=cell1 (o:=1) HE.out rfl;have f0:=zQ HE.out 0;have f1:=zQ HE.out 1;clear hd hb))
    have hw3:Near w w3:=Kept.mono (HN.out.kept.trans (HK.out.trans (Near.of_below HB3.out).kept)) (fun b hb h=>by omega);exact qo (v:= .agg #[.slice bo bn bc,.int .i64 (pl (nodes t) t:Nat)]) (by simp [qC,Tryz.results14,go_sem,q0,q1]) rfl
     ⟨_,rfl,⟨t,xS HD3.out HE.out,HEV.out⟩,(hw3.set (by show w.heap.size≤w.heap.size;omega) _).set (by show w.heap.size≤w.heap.size;omega) _⟩
   |succ n=>
    have e0:((n+1:Nat):Int) - 1=(n:Int):=by omega
    rw [e0];have hxn:=gD x n (by omega) (by omega);have hyn:=gD y n (by omega) (by omega);have hx1:=HB1.out n (by omega);have hy1:=HB2.out n (by omega);have hn24:n<24:=by omega
    have hfr: ∀c,litsFrom on off c n (24 - n)=(lit on off c n&&t.ev c):=fun c=>by
     rw [HEV.out,show 24 - n=(24 - (n+1))+1 from by omega,litsFrom]
    have HFR:=q8 hfr;have HXN:=q8 hxn;have HYN:=q8 hyn;have HX1:=q8 hx1;have HY1:=q8 hy1;have hxy0:on.testBit n=true→off.testBit n=true→False:=fun h1 h2=>by
     have:(x&&&y).testBit n=true:=by rw [q2Q,HX1.out,HY1.out,h1,h2];rfl
     rw [HXY.out]at this;simp at this
    have HXY0:=q8 hxy0;clear hfr hxn hyn hx1 hy1 hxy0 e0;have hi64:(n:Int)<64:=by omega
    cases hon:on.testBit n with
    |true=>
     have hb:(bits BinOp.and ug ((x:Int)/2^n) 1==1)=true:=by rw [HXN.out,HX1.out,hon]
     have HOn:=q8 hon;clear hon;go_wp2_with (first
      |(go_at_call 68;refine(xf gM (l:=leaf false) (h:=t) trivial hin hn24 (by omega) (fun b hb=>by omega) HM2.out rfl rfl rfl).mono ?_;rintro e w3 ⟨rfl,hm3,hk3⟩;have HM3:=q8 hm3;have HK3:=q8 (HK.out.trans hk3);clear hm3 hk3))
     refine⟨⟨n,T.mk n (leaf false) t,add M n (leaf false) t,by omega,rfl,rfl,add_good gM trivial hin hn24 hn24 (by omega) trivial ok,HM3.out,?_,add_in trivial,mk_ok hn24 hn24 (by omega) trivial ok,mk_lv hn24,fun c=> ?_,HK3.out⟩,by simp [intOf]⟩
     ·have:=add_len M n (leaf false) t
      omega
     ·rw [mk_ev,HFR.out,lit,HOn.out]
      have hoff:off.testBit n=false:=by
       cases ho:off.testBit n
       ·rfl
       ·exact(HXY0.out HOn.out ho).elim
      rw [hoff]
      cases c n<;>simp [ev]
    |false=>
     have hb:(bits BinOp.and ug ((x:Int)/2^n) 1==1)=false:=by rw [HXN.out,HX1.out,hon]
     have HOn:=q8 hon;clear hon
     cases hoff:off.testBit n with
     |true=>
      have hb':(bits BinOp.and ug ((y:Int)/2^n) 1==1)=true:=by rw [HYN.out,HY1.out,hoff]
      have HOff:=q8 hoff;clear hoff;go_wp2_with (first
       |(go_at_call 68;refine(xf gM (l:=t) (h:=leaf false) hin trivial hn24 (by omega) (fun b hb=>by omega) HM2.out rfl rfl rfl).mono ?_;rintro e w3 ⟨rfl,hm3,hk3⟩;have HM3:=q8 hm3;have HK3:=q8 (HK.out.trans hk3);clear hm3 hk3))
      refine⟨⟨n,T.mk n t (leaf false),add M n t (leaf false),by omega,rfl,rfl,add_good gM hin trivial hn24 (by omega) hn24 ok trivial,HM3.out,?_,add_in hin,mk_ok hn24 (by omega) hn24 ok trivial,mk_lv (by omega),fun c=> ?_,HK3.out⟩,by simp [intOf]⟩
      ·have:=add_len M n t (leaf false)
       omega
      ·rw [mk_ev,HFR.out,lit,HOn.out,HOff.out]
       cases c n<;>simp [ev]
     |false=>
      have hb':(bits BinOp.and ug ((y:Int)/2^n) 1==1)=false:=by rw [HYN.out,HY1.out,hoff]
      have HOff:=q8 hoff;clear hoff;go_wp2_with fail
      refine⟨⟨n,t,M,by omega,rfl,rfl,gM,HM2.out,by omega,hin,ok,by omega,fun c=> ?_,HK.out⟩,by simp [intOf]⟩;rw [HFR.out,lit,HOn.out,HOff.out];simp
 ·have hne:(((x&&&y:Nat):Int) !=0)=true:=by simp;omega
  have HF:=q8 (HCL.out hxy);clear hxy;go_enter Tryz.func14,Tryz.ntmps14;go_wp2_with fail
  exact qo (v:= .agg #[.slice none 0 0,.int .i64 0]) (by simp [qC,Tryz.results14,go_sem]) rfl ⟨_,rfl,⟨leaf false,Jp _ false,fun c=>(HF.out c).symm⟩,(Near.refl w).alloc _⟩
theorem q3u:(⟨((([0,1,1,2,1,2,2,3,1,2,2,3,2,3,3,4,1,2,2,3,2,3,3,4,2,3,3,4,3,4,4,5,1,2,2,3,2,3,3,4,2,3,3,4,3,4,4,5,2,3,3,4,3,4,4,5,3,4,4,5,4,5,5,6]:List UInt8).append [1,2,2,3,2,3,3,4,2,3,3,4,3,4,4,5,2,3,3,4,3,4,4,5,3,4,4,5,4,5,5,6,2,3,3,4,3,4,4,5,3,4,4,5,4,5,5,6,3,4,4,5,4,5,5,6,4,5,5,6,5,6,6,7]).append (([1,2,2,3,2,3,3,4,2,3,3,4,3,4,4,5,2,3,3,4,3,4,4,5,3,4,4,5,4,5,5,6,2,3,3,4,3,4,4,5,3,4,4,5,4,5,5,6,3,4,4,5,4,5,5,6,4,5,5,6,5,6,6,7]:List UInt8).append [2,3,3,4,3,4,4,5,3,4,4,5,4,5,5,6,3,4,4,5,4,5,5,6,4,5,5,6,5,6,6,7,3,4,4,5,4,5,5,6,4,5,5,6,5,6,6,7,4,5,5,6,5,6,6,7,5,6,6,7,6,7,7,8])).toArray⟩:ByteArray)=Lib.pop8tab:=by kernel_rfl
theorem UH{n:Nat}(h:n<256):0<=xY (n:Int)/\xY (n:Int)<=8:=by
 have e:=Lib.pop8_eq ⟨n,h⟩;have l:=Lib.onesCount_le8 ⟨n,h⟩;simp only at e l;omega
theorem JJ(x k:Nat)(h:x<4294967296):bits .and vr ((x:Int)/ (2^k:Nat)) 255=((x/2^k%256:Nat):Int):=by
 have b:x/2^k<4294967296:=zR (Nat.div_le_self _ _) h;have e:=Go.Proofs.Gen.u32_and (x/2^k) 255 b (by decide);have a:x/2^k&&&255=x/2^k%256:=Nat.and_two_pow_sub_one_eq_mod (x/2^k) 8;rw [a]at e;rw [<-e];simp
theorem q1b(x:Nat)(g:x<4294967296)(w:World):Calls qj 203 #[ve vr x] w fun e B=>e=vm (ve vp (xY ((x/16777216:Nat):Int)+xY ((x/65536%256:Nat):Int)+xY ((x/256%256:Nat):Int)+xY ((x%256:Nat):Int)))∧Near w B:=by
 have o:=q3u;have s:(x:Int)/16777216=((x/16777216:Nat):Int):=by omega
 have J:bits .and vr ((x:Int)/65536) 255=((x/65536%256:Nat):Int):=JJ x 16 g;have p:bits .and vr ((x:Int)/256) 255=((x/256%256:Nat):Int):=JJ x 8 g;have t:bits .and vr (x:Int) 255=((x%256:Nat):Int):=by
  have:=JJ x 0 g
  simpa using this
 obtain⟨d,n⟩: ∃y,y=x/16777216:=⟨_,rfl⟩;obtain⟨b,k⟩: ∃y,y=x/65536%256:=⟨_,rfl⟩;obtain⟨j,m⟩: ∃y,y=x/256%256:=⟨_,rfl⟩;obtain⟨f,l⟩: ∃y,y=x%256:=⟨_,rfl⟩;have M:d<256:=by omega
 have u:b<256:=by omega
 have K:j<256:=by omega
 have L:f<256:=by omega
 rw [←n]at s⊢;rw [←k]at J⊢;rw [←m]at p⊢;rw [←l]at t⊢;clear n k m l;have⟨q,a⟩:=UH M;have⟨E,h⟩:=UH u;have⟨I,i⟩:=UH K;have⟨r,c⟩:=UH L;have S:(d:Int)≤255:=by omega
 have R:(b:Int)≤255:=by omega
 have Q:(j:Int)≤255:=by omega
 have P:(f:Int)≤255:=by omega
 generalize C:xY (d:Int)=G at q a⊢;generalize H:xY (b:Int)=N at E h⊢;generalize A:xY (j:Int)=O at I i⊢;generalize D:xY (f:Int)=z at r c⊢;go_enter Tryz.func203,Tryz.ntmps203;go_wp2_with fail
 go_quiet (fail)
 all_goals
  go_wp2_with fail
  exact qo (v:=ve vp (G+N+O+z)) (by simp [qC,Tryz.results203,go_sem]) rfl ⟨rfl,(Near.refl _).drewN _⟩
theorem J7: ∀n:Fin 256,xY (n.val:Int)=(((qO 8).filter fun i=>n.val.testBit i).length:Int):=by decide+kernel
theorem gj(x k:Nat):((qO 8).filter fun i=>(x/2^k%256).testBit i).length=((qO 8).filter fun i=>x.testBit (k+i)).length:=by
 congr 1;refine List.filter_congr fun i b=> ?_;have a:i<8:=by simpa using b
 rw [show(256:Nat)=2^8 from by decide,Nat.testBit_mod_two_pow,Nat.testBit_div_two_pow,Nat.add_comm];simp [a]
theorem G4(h:x<16777216):xY ((x/16777216:Nat):Int)+xY ((x/65536%256:Nat):Int)+xY ((x/256%256:Nat):Int)+xY ((x%256:Nat):Int)=((feats x).length:Int):=by
 have k:x/16777216=0:=by omega
 have g:xY ((0:Nat):Int)=0:=by decide+kernel
 have e:=J7 ⟨x/65536%256,by omega⟩;have a:=J7 ⟨x/256%256,by omega⟩;have b:=J7 ⟨x%256,by omega⟩;have d:=gj x 16;have f:=gj x 8;have c:=gj x 0;have l:(2:Nat)^16=65536:=by decide
 have n:(2:Nat)^8=256:=by decide
 rw [l]at d;rw [n]at f;rw [Nat.pow_zero,Nat.div_one]at c;simp only at e a b;rw [k,g,e,a,b,d,f,c];have j:qO 24=qO 8++((qO 8).map fun i=>8+i)++((qO 8).map fun i=>16+i):=by decide
 have m:(feats x).length=((qO 8).filter fun i=>x.testBit (0+i)).length+((qO 8).filter fun i=>x.testBit (8+i)).length+((qO 8).filter fun i=>x.testBit (16+i)).length:=by
  unfold feats jC;rw [j,ki,ki,qn,qn,List.filter_map,List.filter_map,qG,qG];simp only [Nat.zero_add];rfl
 rw [m];omega
theorem G6(h:x<16777216)(w:World):Calls qj 203 #[ve vr x] w fun e a=>e=vm (ve vp (feats x).length)/\Near w a:=by
 rw [<-G4 h];exact q1b x (by omega) w
end Go.Proofs.YtjcbmcnbdegpmaaGreatDoor
namespace Go.Proofs.YtjcbmcnbdegpmaaGreatDoor
open Go Go.RowKit Go.Shelf Go.Proofs.Gen
theorem kn{id:Nat}{P:Program}{ops:Array Oper}{Q:Exit->Act->World->Prop}{a:Act}{w:World}(b:P.follows .mixedOrders=true)
 (S:World->Prop) (z:Nat) (c:S w.drew) (h:S w.drew->xm P .any ops Q S z ops.size (Array.replicate ops.size false) a w.drew):(Code.region id ops true).wp P Q a w:=
 wp_region_any b (vE _ _ _ _ (h c))
def q0e(md:yG)(ops:Array Oper)(z i:Nat):Bool:=
 match ops[z]? with
 |none=>true
 |some o=>o.after.any fun e=>Region.binds md e&&e.on==i
section
variable {P:Program}{ops:Array Oper}{Q:Exit->Act->World->Prop}{md:yG}{S:World->Prop}{z:Nat}
theorem gx{i:Nat}{oi:Oper}{v:Value}(E:ops[i]? =some oi)(g: ∀(j:Nat)(o:Oper) u b,ops[j]? =some o->o.op≠ .select u b)
 (L: ∀c a w,Q (.panic c) (a.put oi.dst v) w->Q (.panic c) a w) (x:q0e md ops z i=true):
 ∀(fuel:Nat)(listed:Array Bool)(a:Act)(w:World),
  (∀j n,ops[j]? =some n->j≠i->listed.getD j true=false->(∀e∈n.after,Region.binds md e=true->e.on≠i)->oi.apart ops n=true)->
  i∈yQ md ops listed->YieldsIf P ops S oi v a->S w->
  xm P md ops Q S z fuel (listed.setIfInBounds i true) (a.put oi.dst v) w->xm P md ops Q S z (fuel+1) listed a w
 |fuel,listed,a,w,f,B,M,O,H=>by
  refine⟨fun h=>absurd B (by rw [h];exact zh),fun j D=> ?_⟩;by_cases d:j=i
  .subst d
   exact M.wpOp E O ⟨vv O,H⟩
  .cases fuel with
   |zero=>exact absurd (ready_mono D d) (by rw [H.1];exact zh)
   |succ fuel=>
    have⟨q,n,l,s⟩:=mem_ready.1 D;have m: ∀e∈n.after,Region.binds md e=true->e.on≠i:=fun e Y Z K=>by
     have t:=s e Y Z;have R:=(mem_ready.1 B).1;rw [K]at t;rcases wG i listed.size with G|G
     .simp [G]at R t;rw [R]at t;cases t
     .simp [gt G]at t
    refine wpOp_mono ?_ (wpOp_putIf l (f j n l d q m) (fun u b=>g i oi u b E) (fun u b=>g j n u b l) L M (H.2 j (ready_mono D d)));rintro a' N ⟨A,J,W⟩;have U:S N:=J.resolve_left fun e=>by
     subst e;unfold q0e at x;rw [l]at x;have⟨k,y,h⟩:=Array.any_eq_true.1 x;rw [qy]at h;exact m _ (Array.getElem_mem y) h.1 (by simpa using h.2)
    refine⟨vv U,gx E g L x fuel _ a' N (fun k X y C V I=>f k X y C ?_ I) (ready_mono B (Ne.symm d)) A U ?_⟩
    .by_cases p:j=k
     .subst p;exact q
     .rw [getD_set_ne true p]at V;exact V
    .rw [Array.setIfInBounds_comm _ _ d]
     exact W
end
def kq(P:Program)(md:yG)(Q:Exit->Act->World->Prop)(S:World->Prop)(z fuel:Nat)(listed:Array Bool)(a:Act)(w:World)(v:Value)(oi:Oper)(i:Nat)(L:Array Oper):Prop:=
 ∀(_:q0e md L z i=true)(_:YP L=true)(_:Region.free md L listed i=true)(_:(yQ md L listed).contains i=true)(_: ∀c a w,Q (.panic c) (a.put oi.dst v) w->Q (.panic c) a w)(_:YieldsIf P L S oi v a)(_:S w)
  (_:xm P md L Q S z fuel (listed.setIfInBounds i true) (a.put oi.dst v) w),xm P md L Q S z (fuel+1) listed a w
theorem yD{P:Program}{md:yG}{Q:Exit->Act->World->Prop}{S:World->Prop}{z fuel:Nat}{listed:Array Bool}{a:Act}{w:World}{v:Value}{oi:Oper}{i:Nat}{L:Array Oper}(b:L[i]? =some oi):kq P md Q S z fuel listed a w v oi i L:=
 fun g f j c d e k h=>gx b (Region.noSelect_spec f) d g fuel listed a w (Region.free_spec b j) (by simpa using c) e k h
def NoP(Q:Exit->Act->World->Prop):Exit->Act->World->Prop:=fun e a w=>e= .normal/\Q .normal a w
theorem q1j{P:Program}{c:Code}{Q:Exit->Act->World->Prop}{a:Act}{w:World}(h:c.wp P (NoP Q) a w):c.wp P Q a w:=
 Code.wp_mono (fun e a w h=>by obtain⟨rfl,h⟩:=h;exact h) h
theorem ya{Q:Exit->Act->World->Prop}{a b:Act}{w v:World}{c:List PanicEntry}(h:NoP Q (.panic c) a w):NoP Q (.panic c) b v:=by cases h.1
section
variable {P:Program}{Q:Exit->Act->World->Prop}{md:yG}{S:World->Prop}{z fuel:Nat}{listed:Array Bool}{a:Act}{w:World}{v:Value}{oi:Oper}{r:List Oper}
theorem oZ4{d e c b:Oper}:YQ P md Q S z fuel listed a w oi 4 (qx (d::e::c::b::oi::r)):=jk rfl
theorem oZ5{c d e b f:Oper}:YQ P md Q S z fuel listed a w oi 5 (qx (c::d::e::b::f::oi::r)):=jk rfl
theorem oZ8{c f h b i e d g:Oper}:YQ P md Q S z fuel listed a w oi 8 (qx (c::f::h::b::i::e::d::g::oi::r)):=jk rfl
theorem oZ9{c f h b j e d g i:Oper}:YQ P md Q S z fuel listed a w oi 9 (qx (c::f::h::b::j::e::d::g::i::oi::r)):=jk rfl
theorem q88{c f i b k e d g j h:Oper}:YQ P md Q S z fuel listed a w oi 10 (qx (c::f::i::b::k::e::d::g::j::h::oi::r)):=jk rfl
theorem q87{d g j c l f e h k i b:Oper}:YQ P md Q S z fuel listed a w oi 11 (qx (d::g::j::c::l::f::e::h::k::i::b::oi::r)):=jk rfl
theorem q8k{e h k d m g f i l j b c:Oper}:YQ P md Q S z fuel listed a w oi 12 (qx (e::h::k::d::m::g::f::i::l::j::b::c::oi::r)):=jk rfl
theorem q8j{f i l e n h g j m k b d c:Oper}:YQ P md Q S z fuel listed a w oi 13 (qx (f::i::l::e::n::h::g::j::m::k::b::d::c::oi::r)):=jk rfl
theorem q86{h k n g p j i l o m b f d c e:Oper}:YQ P md Q S z fuel listed a w oi 15 (qx (h::k::n::g::p::j::i::l::o::m::b::f::d::c::e::oi::r)):=jk rfl
theorem q8i{p k n i s q j l o m g f h d e b c:Oper}:YQ P md Q S z fuel listed a w oi 17 (qx (p::k::n::i::s::q::j::l::o::m::g::f::h::d::e::b::c::oi::r)):=jk rfl
theorem q8h{q l o j t s k m p n h f i d e b c g:Oper}:YQ P md Q S z fuel listed a w oi 18 (qx (q::l::o::j::t::s::k::m::p::n::h::f::i::d::e::b::c::g::oi::r)):=jk rfl
theorem q8g{s m p k u t l n q o i g j d f b c h e:Oper}:YQ P md Q S z fuel listed a w oi 19 (qx (s::m::p::k::u::t::l::n::q::o::i::g::j::d::f::b::c::h::e::oi::r)):=jk rfl
theorem q8f{t n q l x u m o s p j g k d f b c h e i:Oper}:YQ P md Q S z fuel listed a w oi 20 (qx (t::n::q::l::x::u::m::o::s::p::j::g::k::d::f::b::c::h::e::i::oi::r)):=jk rfl
theorem tD0:kq P md Q S z fuel listed a w v oi 0 (qx (oi::r)):=yD rfl
theorem tD1{b:Oper}:kq P md Q S z fuel listed a w v oi 1 (qx (b::oi::r)):=yD rfl
theorem tD2{b c:Oper}:kq P md Q S z fuel listed a w v oi 2 (qx (b::c::oi::r)):=yD rfl
theorem tD3{c d b:Oper}:kq P md Q S z fuel listed a w v oi 3 (qx (c::d::b::oi::r)):=yD rfl
theorem tD4{d e c b:Oper}:kq P md Q S z fuel listed a w v oi 4 (qx (d::e::c::b::oi::r)):=yD rfl
theorem tD5{c d e b f:Oper}:kq P md Q S z fuel listed a w v oi 5 (qx (c::d::e::b::f::oi::r)):=yD rfl
theorem tD6{c e f b g d:Oper}:kq P md Q S z fuel listed a w v oi 6 (qx (c::e::f::b::g::d::oi::r)):=yD rfl
theorem tD7{c f g b h e d:Oper}:kq P md Q S z fuel listed a w v oi 7 (qx (c::f::g::b::h::e::d::oi::r)):=yD rfl
theorem tD8{c f h b i e d g:Oper}:kq P md Q S z fuel listed a w v oi 8 (qx (c::f::h::b::i::e::d::g::oi::r)):=yD rfl
theorem tD9{c f h b j e d g i:Oper}:kq P md Q S z fuel listed a w v oi 9 (qx (c::f::h::b::j::e::d::g::i::oi::r)):=yD rfl
theorem q6S{c f i b k e d g j h:Oper}:kq P md Q S z fuel listed a w v oi 10 (qx (c::f::i::b::k::e::d::g::j::h::oi::r)):=yD rfl
theorem q6R{d g j c l f e h k i b:Oper}:kq P md Q S z fuel listed a w v oi 11 (qx (d::g::j::c::l::f::e::h::k::i::b::oi::r)):=yD rfl
theorem q6Q{e h k d m g f i l j b c:Oper}:kq P md Q S z fuel listed a w v oi 12 (qx (e::h::k::d::m::g::f::i::l::j::b::c::oi::r)):=yD rfl
theorem q6P{f i l e n h g j m k b d c:Oper}:kq P md Q S z fuel listed a w v oi 13 (qx (f::i::l::e::n::h::g::j::m::k::b::d::c::oi::r)):=yD rfl
theorem q5s{g j m f o i h k n l b e d c:Oper}:kq P md Q S z fuel listed a w v oi 14 (qx (g::j::m::f::o::i::h::k::n::l::b::e::d::c::oi::r)):=yD rfl
theorem q7M{h k n g p j i l o m b f d c e:Oper}:kq P md Q S z fuel listed a w v oi 15 (qx (h::k::n::g::p::j::i::l::o::m::b::f::d::c::e::oi::r)):=yD rfl
theorem q71{o j m h q p i k n l f e g c d b:Oper}:kq P md Q S z fuel listed a w v oi 16 (qx (o::j::m::h::q::p::i::k::n::l::f::e::g::c::d::b::oi::r)):=yD rfl
theorem q7J{p k n i s q j l o m g f h d e b c:Oper}:kq P md Q S z fuel listed a w v oi 17 (qx (p::k::n::i::s::q::j::l::o::m::g::f::h::d::e::b::c::oi::r)):=yD rfl
theorem q7I{q l o j t s k m p n h f i d e b c g:Oper}:kq P md Q S z fuel listed a w v oi 18 (qx (q::l::o::j::t::s::k::m::p::n::h::f::i::d::e::b::c::g::oi::r)):=yD rfl
theorem q7H{s m p k u t l n q o i g j d f b c h e:Oper}:kq P md Q S z fuel listed a w v oi 19 (qx (s::m::p::k::u::t::l::n::q::o::i::g::j::d::f::b::c::h::e::oi::r)):=yD rfl
theorem q85{y q u o B A p s x t k h n d f b c i e j l m g:Oper}:YQ P md Q S z fuel listed a w oi 23 (qx (y::q::u::o::B::A::p::s::x::t::k::h::n::d::f::b::c::i::e::j::l::m::g::oi::r)):=jk rfl
theorem q84{A s x p C B q t y u k h o d f b c i e j l n g m:Oper}:YQ P md Q S z fuel listed a w oi 24 (qx (A::s::x::p::C::B::q::t::y::u::k::h::o::d::f::b::c::i::e::j::l::n::g::m::oi::r)):=jk rfl
theorem q7G{t n q l x u m o s p j g k d f b c h e i:Oper}:kq P md Q S z fuel listed a w v oi 20 (qx (t::n::q::l::x::u::m::o::s::p::j::g::k::d::f::b::c::h::e::i::oi::r)):=yD rfl
theorem q7F{u o s m y x n p t q j g l d f b c h e i k:Oper}:kq P md Q S z fuel listed a w v oi 21 (qx (u::o::s::m::y::x::n::p::t::q::j::g::l::d::f::b::c::h::e::i::k::oi::r)):=yD rfl
theorem q82{x p t n A y o q u s j g m d f b c h e i k l:Oper}:kq P md Q S z fuel listed a w v oi 22 (qx (x::p::t::n::A::y::o::q::u::s::j::g::m::d::f::b::c::h::e::i::k::l::oi::r)):=yD rfl
end
end Go.Proofs.YtjcbmcnbdegpmaaGreatDoor
namespace Go.Proofs.YtjcbmcnbdegpmaaGreatDoor
open Go Go.RowKit Go.Shelf Go.Proofs.Gen
variable{P:Program}{a:Act}{i l n:Nat}{w:World}
def Jb(ops:Array Oper):Bool:=ops.all fun o=>match o.op with| .defer _=>false|_=>true
theorem G9{a:Array Oper}(h:Jb a=true){o:Oper}(d:a[i]? =some o): ∀c,o.op≠ .defer c:=by
 intro c f;have⟨b,e⟩:=qk.1 d
 have:=(Array.all_eq_true.1 h) i b
 rw [e,f]at this
 cases this
theorem JS{d:Array Oper}{Q:Exit→Act→World→Prop}(B:Jb d=true)(u: ¬LetsOut Q){K q:Act→World→Prop}
 (j: ∀a w,K a w→q a w) (b:wpOp P d Q i K a w):wpOpIn (Fence.wide.inRound l) n P d Q i q a w:=by
 unfold wpOp at b;unfold wpOpIn;split
 ·rename_i k
  simp only [k]at b;exact j _ _ b
 ·rename_i o k
  simp only [k]at b;split
  ·rename_i p
   simp only [p,if_true]at b;rcases b with b|⟨_,b⟩
   ·refine⟨fun _ _=>trivial,?_⟩
    rw [show(Fence.wide.inRound l).round=some l from rfl,Oper.semAt_some l _ _ (G9 B k)];unfold xC at b;generalize(execOp a.eval o).run P w=r at*
    have f: ∀m:Nat,(Fence.wide.inRound l).depth.isSome=true→1≤m:=fun m h=>by cases h
    cases r with
    |ok x A=>
     cases x<;>simp only [Oper.upon,Oper.uponIn]at b⊢ <;>
      first
       |exact j _ _ b
       |exact⟨f _,CallsIn.inRound l (callsIn_wide.2 (Calls.mono b (fun e g s=>by cases e<;>first|exact j _ _ s|exact s)))⟩
       |exact⟨f _,fun c y C=>by
        have⟨v,g,t,z⟩:=b c y;exact⟨v,g,j _ _ t,stepsIn_wide.2 z⟩⟩
    |halt x A=>cases x<;>simp only [Oper.upon,Oper.uponIn]at b⊢ <;>exact b
   ·exact absurd b u
  ·rename_i p
   simp only [p]at b;exact⟨fun _ _=>trivial,j _ _ b⟩
theorem gz{l n:Nat}{P:Program}{g:yG}{d:Array Oper}{Q:Exit->Act->World->Prop}(f:Jb d=true)(e: ¬LetsOut Q):
 ∀(b:Nat)(c:Array Bool)(a:Act)(w:World),wpAny P g d Q b c a w->wpAnyIn (Fence.wide.inRound l) n P g d Q b c a w
 |0,_,_,_,h=>h
 |b+1,_,_,_,h=>⟨h.1,fun i m=>JS f e (fun k j o=>gz f e b _ k j o) (h.2 i m)⟩
theorem Qa{id:Nat}{b:Array Oper}{Q:Exit->Act->World->Prop}(e:P.follows .mixedOrders=true)(d:Jb b=true)(c: ¬LetsOut Q)
 (S:World->Prop) (z:Nat) (f:S w.drew) (h:S w.drew->xm P .any b Q S z b.size (Array.replicate b.size false) a w.drew):(Code.region id b true).wpIn (Fence.wide.inRound l) n P Q a w:=
 wpIn_region_any e (gz d c _ _ _ _ (vE _ _ _ _ (h f)))
end Go.Proofs.YtjcbmcnbdegpmaaGreatDoor
