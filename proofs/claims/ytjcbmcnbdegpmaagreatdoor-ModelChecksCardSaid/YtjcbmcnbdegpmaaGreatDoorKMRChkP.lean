/- Wakes, Ref, RefB, RefD, RefF, RefI, Below, TreeC, OfA, OfB, Steps2, Steps3, MStr, MPre, MUsed, MReq, MOwnSet, MZeros, MRName, MRChkP. -/
import Derived.Laws.OwnMore
import Derived.Deep.Slices
import Derived.Lib.AppendZeros
import Derived.Lib.AppendZerosOnto
import Derived.Test.YtjcbmcnbdegpmaaGreatDoorKCountB
import Derived.Test.YtjcbmcnbdegpmaaGreatDoorKMLawP
set_option maxRecDepth 100000
set_option maxHeartbeats 12800000
set_option linter.unusedVariables false
open Array renaming getElem?_eq_some_iff->qk,length_toList->zW
open Bool renaming and_eq_false_iff->kY,eq_false_iff->zt,eq_iff_iff->zq,or_eq_true->yM
open ByteArray renaming empty->yi
open Classical renaming byContradiction->jG
open Go renaming yielded->Ky
open Go.Builtin renaming append_->Y6,zeroCells->vQ
open Go.ByteArray renaming toList_eq->zp
open Go.ChangeMaps renaming setBlock->vR
open Go.Ending renaming returned->jM
open Go.Instr renaming lookup->yu
open Go.IntKind renaming i64->zD
open Go.Lib renaming hid->q8
open Go.Oper renaming wp->xC
open Go.Proofs.Tryz renaming prog->qj,underlying9->y9
open Go.Region renaming wanted->yg
open Go.Result renaming andThen_ok->ul
open Go.Value renaming ownBlock->zN,slice->qw,string->yb
open Go.Value.slice renaming injEq->qq
open Go.World renaming ownsRow_nil->qW
open List renaming all_eq_true->qL,any_eq_true->yj,append_assoc->qS,eq_nil_of_length_eq_zero->zJ,foldl_append->kO,getElem?_eq_getElem->qi,getElem?_eq_some_iff->qm,getElem?_take->zH,isPrefixOf_iff_prefix->uu,length_append->qn,length_drop->yC,length_replicate->QQ,length_take->zd,map_cons->yL,map_nil->jE,mem_append->qK,mem_of_getElem?->qp,mem_singleton->qN,nil_append->yV,replicate->zk,set_append_right->QP,size_toArray->wH
open Nat renaming le_refl->qt,le_trans->qH,lt_of_lt_of_le->qu,mul_le_mul_right->Yh,zero_le->qv
open Option.some renaming injEq->zo
open Go.Value renaming slice->vd,int->ve,string->vf,pointer->vg,agg->vi,bool->vj
open Go.Obj renaming cells->vk
open Go.Ending renaming returned->vm
open Go.IntKind renaming i64->vp,u8->vq,u32->vr,u64->vt
open Or renaming inl->vu,inr->vv
namespace Go.Proofs.YtjcbmcnbdegpmaaGreatDoor
open Go Go.RowKit Go.Proofs.Gen Go.Proofs.Bdd Go.Proofs.Bdd.T
variable{b base e k n:Nat}{o:Obj}{u v:Value}{w w':World}{xs:List Value}
theorem q1z(h:Below w.heap.size w w')(a:w.heap[k]? =some o):w'.heap[k]? =some o:=
 (h.block k (qk.1 a).1).trans a
theorem Near.size'{a b:World}(h:Near a b):a.heap.size<=b.heap.size:=h.size
theorem qE(h:Near w w')(a:w.heap[k]? =some o):w'.heap[k]? =some o:=q1z h.below a
theorem YZ{x y:Value}(h:w.heap[b]? =some (vk #[x,y] 43 (0,0))):
 ((w.setCell b u).setCell (vw b 1) v).heap[b]? =some (vk #[u,v] 43 (0,0)):=by
 have:=qz (qz h 0 u) 1 v
 simpa using this
def jC(f k:Nat):List Nat:=(List.range k).filter (fun i=>f.testBit i)
def feats(f:Nat):List Nat:=jC f 24
theorem QK(f k:Nat):jC f (k+1)=jC f k++if f.testBit k=true then [k]else []:=by
 unfold jC;rw [List.range_succ,List.filter_append];simp only [List.filter_cons,List.filter_nil]
theorem ZJ(f k:Nat):(jC f k).length<=k:=qH (List.length_filter_le _ _) (by simp)
def iv(i:Nat):Value:= .int .i64 i
theorem q5A(h:w.ownsRow base e 1 v n xs)(hk:xs[k]? =some u)(hn:k<n):
 ∃g cap,v=vd (some ⟨g,0,none⟩) n cap/\w.cell? ⟨g,k,none⟩=some u/\g<w.heap.size:=by
 rcases h.2 with⟨_,h0⟩|⟨g,cap,cur,rfl,_,hg,_,_,hs,ht⟩
 .omega
 .refine⟨g,cap,rfl,?_,(qk.1 hg).1⟩
  rw [<-ht,zH,if_pos (by omega)]at hk;simp only [World.cell?,hg];simpa using hk
theorem cell_one_at(c:b=w.heap.size)(x:Value)(t:TypeId): ∀j u,[x][j]? =some u->(w.alloc (vk #[x] t)).cell? ((⟨b,0,none⟩:Addr).add j)=some u:=by
 subst c;intro j u a;match j,a with
 |0,a=>simp at a;subst a;simp [Addr.add]
theorem q7p:(qj.info? 3).map (fun i=>(i.zero,i.size,i.bytes))=some (some (ve vp 0),1,8):=by kernel_rfl
def q4N(V:List Nat):Nat:=V.foldl (fun a i=>a|||2^i) 0
theorem q1f(V:List Nat)(i:Nat):q4N (V++[i])=q4N V|||2^i:=by simp [q4N,kO]
theorem QE(i:Nat): ∀(V:List Nat)(a:Nat),(V.foldl (fun a i=>a|||2^i) a).testBit i=(a.testBit i||V.contains i)
 |[],a=>by simp
 |j::V,a=>by
  rw [List.foldl_cons,QE i V,Nat.testBit_or,Nat.testBit_two_pow,List.contains_cons,Bool.or_assoc];congr 1;congr 1;by_cases h:j=i
  .subst h;simp
  .simp [h,Ne.symm h]
theorem J9(V:List Nat)(i:Nat):(q4N V).testBit i=V.contains i:=by
 unfold q4N;rw [QE];simp
theorem q5V{V:List Nat}(h: ∀i∈V,i<24):q4N V<16777216:=by
 have e:(16777216:Nat)=2^24:=by decide
 rw [e];refine Nat.lt_pow_two_of_testBit _ fun i b=> ?_;rw [J9]
 have:i∉V:=fun a=>by have:=h i a;omega
 simpa using this
theorem Zv{a:Nat}{i:List Value}(h:w.ownsRow base e b v n i)(j:a<=base):w.ownsRow a e b v n i:=by
 refine⟨h.1,?_⟩;rcases h.2 with k|⟨g,c,f,rfl,d,r⟩
 .exact vu k
 .exact vv ⟨g,c,f,rfl,qH j d,r⟩
theorem q76(h:w.ownsRow base e 1 v n xs)(hk:xs[k]? =some u)(hn:k<n):
 ∃g cap cur,v=vd (some ⟨g,0,none⟩) n cap/\w.heap[g]? =some (vk cur e (0,0))/\cur[k]? =some u/\base<=g:=by
 rcases h.2 with⟨_,h0⟩|⟨g,cap,cur,rfl,hb,hg,_,_,hs,ht⟩
 .omega
 .refine⟨g,cap,cur,rfl,hg,?_,hb⟩
  rw [<-ht,zH,if_pos (by omega)]at hk;simpa using hk
end Go.Proofs.YtjcbmcnbdegpmaaGreatDoor
namespace Go.Proofs.YtjcbmcnbdegpmaaGreatDoor
open Go Go.RowKit Go.Proofs.Gen Go.Proofs.Bdd Go.Proofs.Bdd.T
open Classical in
noncomputable def nowhere (f:(Nat->Bool)->Bool):Bool:=decide (∀c,f c=false)
end Go.Proofs.YtjcbmcnbdegpmaaGreatDoor
namespace Go.Proofs.YtjcbmcnbdegpmaaGreatDoor
open Go Go.RowKit Go.Proofs.Gen Go.Proofs.Bdd Go.Proofs.Bdd.T
structure Dec where
 v:Int
 lo:Int
 hi:Int
def Wl(x:Dec):List Value:=[.int .i64 x.v,.int .i64 x.lo,.int .i64 x.hi]
def decs(l:List Dec):List Value:=l.flatMap Wl
end Go.Proofs.YtjcbmcnbdegpmaaGreatDoor
namespace Go.Proofs.Bdd
namespace T
open Classical in
noncomputable def dep (f:(Nat->Bool)->Bool) (i:Nat):Bool:=decide (∃c,f (upd c i true)≠f (upd c i false))
variable{i:Nat}{t:T}
theorem Wj{f:(Nat->Bool)->Bool}:dep f i=true↔ ∃c,f (upd c i true)≠f (upd c i false):=by
 unfold dep;simp
def occ(i:Nat):T->Prop
 | .leaf _=>False
 | .node j l h=>j=i\/occ i l\/occ i h
theorem q1Y{c d:Nat->Bool}: ∀{t:T},(∀j,occ j t->c j=d j)->t.ev c=t.ev d
 | .leaf _,_=>rfl
 | .node i l r,h=>by
  simp only [ev];rw [h i (vu rfl),q1Y (t:=l) (fun j a=>h j (vv (vu a))),q1Y (t:=r) (fun j a=>h j (vv (vv a)))]
theorem Ut{c:Nat->Bool}{j:Nat}{a b:Bool}(h:i≠j):upd (upd c i a) j b=upd (upd c j b) i a:=by
 funext k;unfold upd;by_cases d:k=j
 .subst d
  simp [Ne.symm h]
 .simp [d]
theorem Vi{i:Nat}: ∀{t:T},t.Ok->occ i t-> ∃c,t.ev (upd c i true)≠t.ev (upd c i false)
 | .leaf _,_,h=>h.elim
 | .node j l r,a,h=>by
  by_cases d:j=i
  .subst d
   have g: ∃c,l.ev c≠r.ev c:=jG fun o=>a.2.2.2.1 (canon a.2.2.2.2.1 a.2.2.2.2.2 fun c=>jG fun h=>o ⟨c,h⟩);have⟨c,k⟩:=g;refine⟨c,?_⟩;rw [XZ c j l r a,ZL c j l r a];exact fun e=>k e.symm
  .have f: ∀{s:T}(b:Bool),s.Ok->j<s.lv->(∀c,(node j l r).ev (upd c j b)=s.ev c)->(∃c,s.ev (upd c i true)≠s.ev (upd c i false))-> ∃c,(node j l r).ev (upd c i true)≠(node j l r).ev (upd c i false):=by
    intro s b p n m ⟨c,k⟩;refine⟨upd c j b,?_⟩;rw [Ut d,Ut d,m,m];exact k
   rcases h with h|h|h
   .exact(d h).elim
   .exact f false a.2.2.2.2.1 a.2.1 (fun c=>XZ c j l r a) (Vi a.2.2.2.2.1 h)
   .exact f true a.2.2.2.2.2 a.2.2.1 (fun c=>ZL c j l r a) (Vi a.2.2.2.2.2 h)
theorem q6w(d:t.Ok):dep t.ev i=true↔occ i t:=by
 rw [Wj];constructor
 .intro⟨c,a⟩
  refine jG fun h=>a ?_;refine q1Y fun j b=> ?_
  have:j≠i:=fun e=>h (e▸b)
  rw [uy _ _ this,uy _ _ this]
 .exact Vi d
def sub(s:T):T->Prop
 | .leaf b=>s= .leaf b
 | .node i l h=>s= .node i l h\/sub s l\/sub s h
theorem go_mem_sub{s:T}: ∀(t:T)(a:List T),s∈go t a->s∈a\/sub s t
 | .leaf _,a,h=>vu h
 | .node i l r,a,h=>by
  simp only [go]at h;split at h
  .exact vu h
  .rcases qK.1 h with h|h
   .rcases go_mem_sub r _ h with h|h
    .rcases go_mem_sub l _ h with h|h
     .exact vu h
     .exact vv (vv (vu h))
    .exact vv (vv (vv h))
   .simp at h
    exact vv (vu h)
theorem KN{s:T}{i:Nat}: ∀{t:T},sub s t->occ i s->occ i t
 | .leaf b,h,a=>by
  rw [show s= .leaf b from h]at a;exact a
 | .node j l r,h,a=>by
  rcases h with h|h|h
  .rw [h]at a
   exact a
  .exact vv (vu (KN h a))
  .exact vv (vv (KN h a))
theorem q1e{L:List T}(g:Good L){i:Nat}: ∀{t:T},In L t->occ i t-> ∃s∈L,s.lv=i
 | .leaf _,_,h=>h.elim
 | .node j l r,a,h=>by
  have k:=g.kids (show node j l r∈L from a);rcases h with h|h|h
  .exact⟨node j l r,a,h⟩
  .exact q1e g k.1 h
  .exact q1e g k.2 h
theorem q5t(d:t.Ok)(i:Nat):(sup (nodes t)).testBit i=dep t.ev i:=by
 rw [KM,zq,q6w d,yj];constructor
 .intro⟨s,b,c⟩
  have a:=go_mem_sub t [] b;rcases a with a|a
  .cases a
  .have e:=(yX d).all s b
   cases s with
   |leaf=>exact e.1.elim
   |node j l r=>
    refine KN a (vu ?_);simpa [lv]using c
 .intro h
  have⟨s,b,c⟩:=q1e (yX d) (xr t) h;exact⟨s,b,by simp [c]⟩
end T
end Go.Proofs.Bdd
namespace Go.Proofs.YtjcbmcnbdegpmaaGreatDoor
open Go Go.RowKit Go.Proofs.Gen Go.Proofs.Bdd Go.Proofs.Bdd.T
def q6J(w:World)(v:Value)(l:List Dec):Prop:=
 ∃ao cap,v= .slice ao l.length cap/\ ∀k x,l[k]? =some x-> ∃b off,ao=some ⟨b,off,none⟩/\w.cell? ⟨b,off+k*3,none⟩=some (.int .i64 x.v)/\w.cell? ⟨b,off+k*3+1,none⟩=some (.int .i64 x.lo)/\w.cell? ⟨b,off+k*3+2,none⟩=some (.int .i64 x.hi)
def q8l(b:Nat)(x:Value):Nat->Prop:=fun k=>b<=k/\x.ownBlock≠some k
structure q2O(b:Nat)(w:World)(mb:Nat)(x:Value)(ts:List T)(L:List T):Prop where
 good:T.Good L
 maker:IsMaker w mb (q8l b x) L
 row:w.ownsRow b 3 1 x ts.length (ts.map fun t=>iv (pl L t))
 inn: ∀t∈ts,In L t
end Go.Proofs.YtjcbmcnbdegpmaaGreatDoor
namespace Go.Proofs.Gen
open Go Go.RowKit
open Go.ChangeMaps Go.MapKept
section
variable {P:Program}{w:World}
theorem Ks(base:Nat)(t ty e:TypeId)(i:TypeInfo)(z:Value)(size bytes:Nat)(ht:P.underlying t=some (.slice e))(hi:P.info? e=some i)(hz:i.zero=some z)
 (hsize:i.size=size) (hby:i.bytes=bytes)
 (v:Value) (n:Nat) (xs:List Value) (hown:w.ownsRow base e size v n xs)
 (a:Addr) (m c:Nat) (news:List Value) (hl:news.length=m*size) (hnews: ∀j u,news[j]? =some u->w.cell? (a.add j)=some u) (h1: ∀u∈news,u.oneCell'=true)
 (h63:n+m<=maxLen) (hbytes:(n+m)*bytes<=140737488355328) {v':Value}{w':World}(hr:(Y6 #[t,t] ty #[v,.slice (some a) m c]).run P w= .ok v' w'):
 w'.ownsRow base e size v n xs:=by
 subst hsize;subst hby;have hsmall:n+m<=9223372036854775807:=by simp only [maxLen]at h63;omega
 refine⟨hown.1,?_⟩;rcases hown.2 with h0|⟨g,cap,cur,rfl,hbg,hg,hnc,hcm,hcs,htake⟩
 .exact .inl h0
 .refine .inr ⟨g,cap,?_⟩
  by_cases hroom:n+m<=cap
  .have hfit:n*i.size+news.length<=cur.size:=by rw [hl,hcs,<-Nat.add_mul];exact Yh _ hroom
   have hr2:=run_append_room (P:=P) w t ty e i ht hi g n cap cur hg a m c news hl hnews h1 hroom hfit;rw [hr]at hr2;obtain⟨rfl,rfl⟩:=Result.ok.inj hr2;refine⟨_,rfl,hbg,setRow_heap w g cur _ e _ hg,hnc,hcm,?_,?_⟩
   .simp only [wH,qn,zd,yC,zW]
    omega
   .rw [htake]
    rw [qS,<-hown.1];exact List.take_left
  .have holds: ∀j u,xs[j]? =some u->w.cell? ((⟨g,0,none⟩:Addr).add j)=some u:=hown.cells (g:=g) rfl
   have hr2:=run_append_grow (P:=P) w t ty e i z ht hi hz ⟨g,0,none⟩ n cap xs hown.1 holds a m c news hl hnews (by omega) (by omega) (growslice_fits (by omega) hbytes);rw [hr]at hr2;obtain⟨rfl,rfl⟩:=Result.ok.inj hr2;have hlt:g<w.heap.size:=(qk.1 hg).1;exact⟨cur,rfl,hbg,(heap_alloc_old w.drew _ hlt).trans hg,hnc,hcm,hcs,htake⟩
theorem jU{ops:Array Oper}{o:Oper}{a:Act}{K:Act->World->Prop}{Q:Exit->Act->World->Prop}{E:Prop}
 (hg:o.guard=none) (s x:Operand) (t:TypeId) (hop:o.op=Op.call {callee:=Callee.builtin Builtin.append,args:= #[s,x],argTypes:= #[t,t]})
 (base:Nat) (e:TypeId) (i:TypeInfo) (z:Value) (size bytes:Nat) (ht:P.underlying t=some (.slice e)) (hi:P.info? e=some i) (hz:i.zero=some z)
 (hsize:i.size=size) (hby:i.bytes=bytes) (hzs:z.cells.size=size) (hsz:0<size)
 (v:Value) (n:Nat) (xs:List Value) (hs:a.eval s=v) (hown:w.ownsRow base e size v n xs)
 (ad:Addr) (m c:Nat) (news:List Value) (hx:a.eval x= .slice (some ad) m c) (hl:news.length=m*size) (hnews: ∀j u,news[j]? =some u->w.cell? (ad.add j)=some u) (h1: ∀u∈news,u.oneCell'=true)
 (h63:n+m<=maxLen) (hbytes:(n+m)*bytes<=140737488355328) (hbase:base<=w.heap.size)
 (hK: ∀ao cap w',w'.ownsRow base e size (.slice ao (n+m) cap) (n+m) (xs++news)->w.grownBy w' v.ownBlock->((qw ao (n+m) cap).ownBlock=v.ownBlock\/(qw ao (n+m) cap).ownBlock=some w.heap.size)->w'.ownsRow base e size v n xs->K (a.put o.dst (.slice ao (n+m) cap)) w'):
 if yg o (Ky ops a.tmps)=true then xC P o a w K Q else E:=by
 have hw:yg o (Ky ops a.tmps)=true:=by simp [yg,hg]
 rw [if_pos hw];obtain⟨v',w',hr,h2,h3,_,h5⟩:=run_append_own_at (P:=P) w base t o.type e i z size bytes ht hi hz hsize hby hzs hsz v n xs hown ad m c news hl hnews h1 h63 hbytes hbase;have h6:=Ks base t o.type e i z size bytes ht hi hz hsize hby v n xs hown ad m c news hl hnews h1 h63 hbytes hr;obtain⟨ao,cap,rfl⟩:=qR h2;unfold xC execOp;simp only [hop,resolve,invoke,builtin,Sem.run_bind,Sem.run_pure,ul,List.map_toArray,yL,jE,hs,hx,hr];exact hK ao cap w' h2 h3 h5 h6
end
end Go.Proofs.Gen
namespace Go.Proofs.Gen
open Go Go.RowKit
open Go.ChangeMaps Go.MapKept
section
variable {P:Program}{w:World}
def SrcOf(w:World)(size m:Nat)(x:Value)(news:List Value):Prop:=
 news.length=m*size/\((x= .slice none 0 0/\m=0)\/ ∃ad c,x= .slice (some ad) m c/\ ∀j u,news[j]? =some u->w.cell? (ad.add j)=some u)
theorem wpList_append_more{ops:Array Oper}{rest:List Oper}{o:Oper}{a:Act}{Q:Exit->Act->World->Prop}(hgd:o.guard=none)(s x:Operand)(t:TypeId)
 (ho:o.op= .call {callee:= .builtin .append,args:= #[s,x],argTypes:= #[t,t]})
 (base:Nat) (e:TypeId) (i:TypeInfo) (z:Value) (size bytes:Nat) (ht:P.underlying t=some (.slice e)) (hi:P.info? e=some i) (hz:i.zero=some z)
 (hsize:i.size=size) (hby:i.bytes=bytes) (hzs:z.cells.size=size) (hsz:0<size)
 (v:Value) (n:Nat) (xs:List Value) (hs:a.eval s=v) (hown:w.ownsRow base e size v n xs)
 (vx:Value) (m:Nat) (news:List Value) (hx:a.eval x=vx) (hy:SrcOf w size m vx news) (h1: ∀u∈news,u.oneCell'=true)
 (h63:n+m<=maxLen) (hbytes:(n+m)*bytes<=140737488355328) (hbase:base<=w.heap.size)
 (h: ∀ao cap w',w'.ownsRow base e size (.slice ao (n+m) cap) (n+m) (xs++news)->w.grownBy w' v.ownBlock->wpList P ops Q rest (a.put o.dst (.slice ao (n+m) cap)) w'):
 wpList P ops Q (o::rest) a w:=by
 obtain⟨hl,⟨rfl,rfl⟩|⟨ad,c,rfl,hc⟩⟩:=hy
 .have hn:news=[]:=zJ (by simpa using hl)
  subst hn;refine wpList_plain hgd fun K hK=> ?_;have hr:=run_append_owned_none w base t o.type e i size ht hi v n xs hown;obtain⟨ao,cap,rfl⟩:=qR hown;unfold xC execOp;simp only [ho,resolve,invoke,builtin,Sem.run_bind,Sem.run_pure,ul,List.map_toArray,yL,jE,hs,hx,hr];exact hK _ _ (h ao cap w (by simpa using hown) ⟨rfl,rfl,rfl,qt _,fun _ _ _=>rfl⟩)
 .exact xZ hgd s x t ho base e i z size bytes ht hi hz hsize hby hzs hsz v n xs hs hown ad m c news hx hl hc h1 h63 hbytes hbase fun ao cap w' h2 h3 _=>h ao cap w' h2 h3
end
end Go.Proofs.Gen
namespace Go.Proofs.YtjcbmcnbdegpmaaGreatDoor
open Go Go.RowKit Go.Proofs.Gen Go.Proofs.Mod
variable{S:Nat->Prop}{a s:ByteArray}{l:List ByteArray}{v:Value}{w:World}
def idxN(l:List ByteArray)(s:ByteArray):Int:=if hasN l s=true then((l.findIdx fun x=>decide (x=s):Nat):Int)else -1
theorem ZC{k:Nat}(h: ∀(j:Nat) x,j<k->l[j]? =some x->x≠s)(b:l[k]? =some s):idxN l s=(k:Int):=by
 have a:=(qm.1 b).1;have d:hasN l s=true:=yj.2 ⟨s,qp b,by simp⟩;have e:(l.findIdx fun x=>decide (x=s))=k:=by
  rw [List.findIdx_eq a];refine⟨?_,fun j c=> ?_⟩
  .rw [qi a]at b
   cases b;simp
  .simpa using h j _ c (qi (by omega))
 rw [idxN,if_pos d,e]
theorem Jt(h: ∀(j:Nat) x,l[j]? =some x->x≠s):idxN l s= -1/\hasN l s=false:=by
 have:hasN l s=false:=by
  refine zt.2 fun d=> ?_;have⟨x,c,b⟩:=yj.1 d;have⟨j,a⟩:=List.getElem?_of_mem c;exact h j x a (of_decide_eq_true b)
 exact⟨by rw [idxN,this,if_neg (by simp)],this⟩
theorem Z7:decide (0<=idxN l s)=hasN l s:=by
 unfold idxN;split
 .rename_i h
  rw [h];simp
 .rename_i h
  simp [h]
theorem QI(h:RdL S 1 RdS w v l)(J:l.length<4611686018427387904)(s:ByteArray):Calls qj 211 #[v,vf s] w fun e C=>e=vm (ve vp (idxN l s))/\C=w:=by
 have E:=q8 h;obtain⟨M,H,rfl⟩:=h.form;go_enter Tryz.func211,Tryz.ntmps211;go_wp2_with fail
 go_loop [8] (fun i=> ∃k:Nat,k<=l.length/\i=ve vp k/\ ∀j x,j<k->l[j]? =some x->x≠s) (fun i=>l.length - (intOf i).toNat)
 case atStart=>exact⟨0,qv _,rfl,fun j x f=>by omega⟩
 case round=>
  obtain⟨k,K,rfl,n⟩:=hrel;have a:=q8 n;by_cases d:k<l.length
  .have r:(k:Int)<l.length:=by omega
   obtain⟨x,z⟩: ∃x,l[k]? =some x:=⟨_,qi d⟩;have⟨G,q,e,D⟩:=E.out;obtain⟨b,o,I,g,-,c,B⟩:=D k x z;obtain rfl:I=[vf x]:=B;simp only [qq,true_and]at e;obtain⟨rfl,rfl⟩:=e;subst g;have L:w.cell? (vw b (o+k))=some (vf x):=by simpa using c 0 _ rfl
   have t:=q8 z;by_cases m:x=s
   .subst m
    go_wp2_with fail
    go_ret;refine⟨?_,rfl⟩;rw [ZC a t];rfl
   .have A:(s.toList==x.toList)=false:=by
     rw [beq_eq_false_iff_ne];intro u;rw [zp,zp]at u;refine m ?_
     cases x
     cases s;congr 1;exact(Array.toList_inj.1 u).symm
    go_wp2_with fail
    go_round
    case rel=>
     refine⟨k+1,d,by go_num,fun j y f p=> ?_⟩;by_cases e:j=k
     .subst e
      have:=t.out
      rw [p]at this
      cases this;exact m
     .exact a j y (by omega) p
    case measure=>simp [intOf];omega
  .obtain rfl:k=l.length:=by omega
   go_wp2_with fail
   go_ret;refine⟨?_,rfl⟩;rw [(Jt fun j x f=>a j x (qm.1 f).1 f).1];rfl
theorem xu(h:RdL S 1 RdS w v l)(g:l.length<4611686018427387904)(s:ByteArray):Calls qj 163 #[v,vf s] w fun e a=>e=vm (vj (hasN l s))/\a=w:=by
 have H:=q8 (QI h g s);obtain⟨i,f,rfl⟩:=h.form;obtain⟨b,c⟩: ∃b,b=hasN l s:=⟨_,rfl⟩;have d:=q8 (show decide (0<=idxN l s)=b by rw [Z7,c]);rw [<-c];generalize idxN l s=z at H d;go_enter Tryz.func163,Tryz.ntmps163;go_wp2_with (go_at_call 211;refine H.mono ?_;rintro e a ⟨rfl,rfl⟩)
 go_ret;exact⟨by rw [<-d.out];rfl,rfl⟩
theorem Vo(s:ByteArray)(w:World):Calls qj 162 #[vf s] w fun e a=>e=vm (vj (nameB s))/\Near w a:=by
 have j:RdEx (fun _=>False) w [ve vq (3:Nat),vf s,vd none 0 0] (.mk 3 s []):= .mk 3 s [] 0 0 0 none (fun _=>[]) (fun h=>absurd rfl h) (fun i b=>by simp at b) (fun i x f=>by simp at f);have H:=q8 (kL j (fun g h=>h.elim) (by simp [Ex.size,Ex.sizes]));have c:=q8 (show validB (.mk 3 s [])=nameB s by simp [validB,Ex.row,Ex.rows,rightB,jr,Ex.op,Ex.name,Ex.kids,Ex.size,Ex.sizes,Ex.levels,Ex.most]);go_enter Tryz.func162,Tryz.ntmps162;go_wp2_with (go_at_call 165;refine H.mono ?_;rintro e a ⟨rfl,d⟩;rw [c.out])
 go_ret;exact⟨rfl,d⟩
theorem vZ(h:RdL S 1 RdS w v l)(k:l.length<4611686018427387904)(s:ByteArray):Calls qj 97 #[v,vf s] w fun e d=>e=vm (ve vp (freshE l s:Nat))/\Near w d:=by
 have H:=q8 (fun(d:World)(m:Near w d)=>xu (h.kept m (fun _ _ h=>h) (fun _ h=>h) (fun _ _ h=>h)) k s);obtain⟨o,j,rfl⟩:=h.form;have i:=q8 (Vo s w);have a:Hid (freshE l s=if nameB s=true then(if hasN l s=true then 7 else 0)else 6):=rfl;generalize nameB s=b at i a;generalize hasN l s=c at H a;generalize freshE l s=f at a
 cases b<;>cases c
 all_goals
  go_enter Tryz.func97,Tryz.ntmps97;go_wp2_with (first
   |(go_at_call 162;refine i.mono ?_;rintro e n ⟨rfl,g⟩)
   |(go_at_call 163;refine(H _ g).mono ?_;rintro e d ⟨rfl,rfl⟩))
  go_ret;exact⟨by rw [a.out];rfl,g⟩
def bytesL(s:ByteArray):List UInt8:=s.data.toList
theorem zX(s:ByteArray):(bytesL s).length=s.size:=by
 unfold bytesL;rw [zW];rfl
theorem kJ(s:ByteArray)(a b:Nat):bytesL (s.extract a b)=((bytesL s).drop a).take (b - a):=by
 unfold bytesL;rw [ByteArray.data_extract];simp [List.extract_eq_take_drop]
theorem xH{b:ByteArray}(h:bytesL a=bytesL b):a=b:=by
 cases a
 cases b;congr 1;exact Array.toList_inj.1 h
theorem q7c(s p:ByteArray)(w:World):Calls qj 196 #[vf s,vf p] w fun e c=>e=vm (vj ((bytesL p).isPrefixOf (bytesL s)))/\c=w:=by
 have d:=zX p;have g:=zX s;by_cases f:p.size<=s.size
 .have b:(p.size:Int)<=s.size:=by omega
  have a:=q8 (show((s.extract 0 p.size).toList==p.toList)=(bytesL p).isPrefixOf (bytesL s) by
   rw [zp,zp];show(bytesL (s.extract 0 p.size)==bytesL p)=_;rw [kJ,List.drop_zero,Nat.sub_zero,zq,beq_iff_eq,uu,List.prefix_iff_eq_take,d];exact⟨fun h=>h.symm,fun h=>h.symm⟩)
  go_enter Tryz.func196,Tryz.ntmps196;go_wp2_with fail
  go_ret;exact⟨by rw [<-a.out];rfl,rfl⟩
 .have b: ¬(p.size:Int)<=s.size:=by omega
  have a:=q8 (show(bytesL p).isPrefixOf (bytesL s)=false by
   refine zt.2 fun h=> ?_
   have:=(uu.1 h).length_le
   omega)
  go_enter Tryz.func196,Tryz.ntmps196;go_wp2_with fail
  go_ret;exact⟨by rw [a.out];rfl,rfl⟩
theorem Xk(s p:ByteArray)(w:World):Calls qj 256 #[vf s,vf p] w fun e a=>e=vm (vj ((bytesL p).isPrefixOf (bytesL s)))∧a=w:=by
 have H:=q8 (q7c s p w);generalize(bytesL p).isPrefixOf (bytesL s)=b at H⊢;go_enter Tryz.func256,Tryz.ntmps256;go_wp2_with (go_at_call 196;refine H.mono ?_;rintro e a ⟨rfl,rfl⟩)
 go_ret;exact⟨rfl,rfl⟩
structure PAt(w:World)(B:Nat)(text:ByteArray)(t:St):Prop where
 ex: ∃(i:Nat)(wd:ByteArray),w.heap[B]? =some (.cells #[.string text,.int .i64 i,.string wd] 303 (0,0))/\i+wd.size<=text.size/\t.rest=(bytesL text).drop i/\t.word=bytesL wd
theorem PAt.near{w':World}{B:Nat}{t:St}(h:PAt w B a t)(d:Near w w'):PAt w' B a t:=
 let⟨i,e,b,c⟩:=h.ex;⟨i,e,qQ d b,c⟩
theorem xa{op:Nat}{l:List Ex}(h:RdL S 3 (RdEx S) w v l):
 Calls qj 261 #[ve vq op,v] w fun e d=> ∃f,e=vm (vi f.toArray)/\RdEx S d f (mk0 op l)/\Near w d:=by
 have g:=q8 h;obtain⟨b,a,rfl⟩:=h.form;go_enter Tryz.func261,Tryz.ntmps261;go_wp2_with fail
 have c:(w.alloc (vk #[ve vq op,vf ⟨#[]⟩,vd b l.length a] 84)).heap[w.heap.size]? =some (vk #[ve vq op,vf ⟨#[]⟩,vd b l.length a] 84 (0,0)):=heap_new_at rfl;have j:=cell1 (o:=0) c rfl;have i:=cell1 (o:=1) c rfl;have k:=cell1 (o:=2) c rfl;exact bodyPost_ret (v:=vi #[ve vq op,vf ⟨#[]⟩,vd b l.length a]) (by simp [results,Tryz.results261,go_sem,j,i,k]) rfl ⟨[ve vq op,vf ⟨#[]⟩,vd b l.length a],rfl,RdEx.of (g.kept ((Near.refl w).alloc _) (fun _ _ h=>h) (fun _ h=>h) (fun _ _ h=>h.kept ((Near.refl w).alloc _) (fun _ _ h=>h) (fun _ h=>h))),(Near.refl w).alloc _⟩
end Go.Proofs.YtjcbmcnbdegpmaaGreatDoor
namespace Go.Proofs.YtjcbmcnbdegpmaaGreatDoor
open Go Go.RowKit Go.Proofs.Gen Go.Proofs.Mod
open Go.Maps (Keyed string_keyed)
variable{vs:List Value}{w:World}{x:Ex}
theorem XD:(qj.info? 9).map (fun i=>(i.zero,i.size,i.bytes))=some (some (vf yi),1,16):=by kernel_rfl
theorem q2W(w:World):(zeroValue 4).run qj w= .ok (vj false) w:=by kernel_rfl
theorem VE{s:ByteArray}(h:s.size<=maxLen): ∃l,keyOf qj 9 (vf s)=some l:=by
 simp [keyOf,mapKey,y9,h]
def q02(B ob mb B1:Nat)(d:List Ex)(w:World):Prop:=
 w.heap[B1]? =some (.cells #[.map (some mb)] 282 (0,0))/\B<=ob/\B<=mb/\ ∃v,w.heap[ob]? =some (.cells #[v] 68 (0,0))/\w.ownsRow B 9 1 v (d.foldl addName []).length ((d.foldl addName []).map .string)/\
  mapV w qj 9 mb d.length (fun x u=> ∃s,s∈d.foldl addName []/\x= .string s/\u= .bool true)
theorem gC(d:List Ex):(d.foldl addName []).length<=d.length:=by
 have b: ∀(d:List Ex)(a:List ByteArray),(d.foldl addName a).length<=a.length+d.length:=by
  intro d;induction d with
  |nil=>intro a;simp
  |cons e d c=>
   intro a;rw [List.foldl_cons];have h:=c (addName a e)
   have:(addName a e).length<=a.length+1:=by
    unfold addName;split<;>simp
   simp only [List.length_cons];omega
 simpa using b d []
theorem KH{S:Nat→Prop}{B ob mb B1:Nat}{d:List Ex}(hd:d.length<1099511627776)(hnm:x.name.size≤maxLen)(hI:q02 B ob mb B1 d w)(hv:RdEx S w vs x)(h2:ob≠mb):
 Calls qj 214 (#[.agg vs.toArray]++ #[.pointer (some ⟨B1,0,none⟩),.pointer (some ⟨ob,0,none⟩)]) w fun e w'=>e= .returned (.tuple #[])∧q02 B ob mb B1 (d++[x]) w'∧Fr B w w':=by
 obtain⟨op,nm,kd⟩:=x;obtain⟨sv,rfl,hs⟩:=hv.inv;obtain⟨so,sc,rfl⟩:=hs.form;obtain⟨h1,q1,q2,v,hob,hown,hmap⟩:=hI;obtain⟨vo,vcap,rfl⟩:=qR hown;have hlen:=gC d;obtain⟨kl,hkey⟩:=VE (s:=nm) hnm;have hfold:(d++[Ex.mk op nm kd]).foldl addName []=addName (d.foldl addName []) (.mk op nm kd):=by rw [kO];rfl
 generalize hl:d.foldl addName []=l at hob hown hmap hlen hfold;have hW: ∀W,W=w.alloc (.cells #[.int .u8 op,.string nm,.slice so kd.length sc] 84)→Near w W∧W.heap[w.heap.size]? =some (.cells #[.int .u8 op,.string nm,.slice so kd.length sc] 84 (0,0)):=by
  rintro W rfl;exact⟨(Near.refl w).alloc _,heap_new_at rfl⟩
 go_enter Tryz.func214,Tryz.ntmps214;go_upto_region 1 with fail
 have h0:=hW _ rfl;generalize w.alloc (.cells #[.int .u8 op,.string nm,.slice so kd.length sc] 84)=W at h0⊢;obtain⟨hN,hE⟩:=h0;obtain⟨c0,c1⟩:W.cell? ⟨w.heap.size,0,none⟩=some (.int .u8 op)∧W.cell? ⟨w.heap.size,1,none⟩=some (.string nm):=⟨cell1 hE rfl,cell1 hE rfl⟩;have m0:W.cell? ⟨B1,0,none⟩=some (.map (some mb)):=cell1 (qQ hN h1) rfl;have hobW:=qQ hN hob;have hownW:=owns_kept hown hN (R:=fun _=>False) (fun _ _ h=>h);have hmapW:=hmap.kept hN id;have HB1:=q8 (qQ hN h1);have HE:=q8 hE;have HN:=q8 hN;have HOb:=q8 hobW;have HOwn:=q8 hownW;have HMap:=q8 hmapW;have HF:=q8 hfold;have HL:=q8 hl;have hstay:addName l (.mk op nm kd)=l→q02 B ob mb B1 (d++[.mk op nm kd]) W:=fun ha=>by
  refine⟨HB1.out,q1,q2,_,HOb.out,?_,?_⟩
  ·rw [HF.out,ha];exact HOwn.out
  ·rw [HF.out,ha]
   exact HMap.out.more (by simp)
 have HStay:=q8 hstay;clear hW hN hE hob hown hmap h1 hobW hownW hmapW hfold hl hstay;by_cases ho:op=3
 ·subst ho
  cases hc:hasN l nm with
  |true=>
   have hm:nm∈l:=by
    obtain⟨y,hy,e⟩:=yj.1 hc;rw [←of_decide_eq_true e];exact hy
   have hlook:(yu 282 (.map (some mb)) (.string nm) false).run qj W= .ok (.bool true) W:=HMap.out.hit (string_keyed y9) Tryz.underlying282 (q2W W) hkey ⟨nm,hm,rfl,rfl⟩ false;have HC:=q8 (show addName l (.mk 3 nm kd)=l by unfold addName;rw [show(decide ((Ex.mk 3 nm kd).op=3)&& !hasN l (Ex.mk 3 nm kd).name)=false by simp [Ex.name,hc]];simp);clear hc hm hkey;go_wp2_with fail
   go_end0
   exact⟨rfl,HStay.out HC.out,Fr.near HN.out⟩
  |false=>
   have hm:nm∉l:=fun hm=>by
    have:hasN l nm=true:=yj.2 ⟨nm,hm,by simp⟩
    rw [hc]at this
    cases this
   have hlook:(yu 282 (.map (some mb)) (.string nm) false).run qj W= .ok (.bool false) W:=HMap.out.miss (string_keyed y9) Tryz.underlying282 (q2W W) hkey (fun v ⟨s,hs,e,_⟩=>hm (by cases e;exact hs)) false;obtain⟨es,clk,hput,hmap2⟩:=HMap.out.store (e:=4) (t:=282) (string_keyed y9) Tryz.underlying282 (by unfold maxLen;omega) hkey (.bool true);have HM2:=q8 hmap2;have HC:=q8 (show addName l (.mk 3 nm kd)=l++[nm] by unfold addName;rw [show(decide ((Ex.mk 3 nm kd).op=3)&& !hasN l (Ex.mk 3 nm kd).name)=true by simp [Ex.op,Ex.name,hc]];simp [Ex.name]);clear hc hm hkey hmap2;obtain⟨es0,clk0,hb0,-⟩:=HMap.out;have hne1:w.heap.size≠mb:=by
    rintro e
    have:=HE.out
    rw [e,hb0]at this
    cases this
   have hW2: ∀W2,W2=vR W mb (.map es clk)→W2.heap[w.heap.size]? =some (.cells #[.int .u8 3,.string nm,.slice so kd.length sc] 84 (0,0))∧W2.heap[ob]? =some (.cells #[.slice vo l.length vcap] 68 (0,0))∧W2.ownsRow B 9 1 (.slice vo l.length vcap) l.length (l.map .string)∧Fr B W W2∧mapV W2 qj 9 mb (d.length+1) (putV (fun x u=> ∃s,s∈l∧x=yb s∧u=Value.bool true) (yb nm) (Value.bool true))∧W2.heap[B1]? =some (.cells #[.map (some mb)] 282 (0,0)):=by
    rintro W2 rfl;refine⟨(setBlock_heap W hne1 _).trans HE.out,(setBlock_heap W h2 _).trans HOb.out,gO HOwn.out (jY HOwn.out hb0) _,Fr.one (jj (S:=fun g=>g=mb) (Kept.refl _ W) (fun _=>rfl) _) q2 (fun cs fr e=>by rw [hb0]at e;cases e),HM2.out,(setBlock_heap W (fun e=>by have:=HB1.out;rw [e,hb0]at this;cases this) _).trans HB1.out⟩
   have HW2:=q8 hW2;obtain⟨i9,hi9,hz0,hz1,hz2⟩:=info_parts XD;clear hW2 hb0 hs hv;go_upto_region 3 with fail
   have h5:=HW2.out _ rfl;generalize vR W mb (.map es clk)=W2 at h5⊢;obtain⟨hE2,hob2,hown2,hfr2,hmap2,hB2⟩:=h5;have HB2:=q8 hB2;obtain⟨d0,d1⟩:W2.cell? ⟨w.heap.size,0,none⟩=some (.int .u8 3)∧W2.cell? ⟨w.heap.size,1,none⟩=some (.string nm):=⟨cell1 hE2 rfl,cell1 hE2 rfl⟩;have b0:=cell1 (o:=0) hob2 rfl;have HO2:=q8 hown2;have HOb2:=q8 hob2;have HM3:=q8 hmap2;have HFr2:=q8 hfr2;clear HW2 hE2 hob2 hown2 hfr2 hmap2 hB2 hput HM2 c0 c1 m0 hlook;go_wp2_with (at_builtin;go_must (refine wpList_append_more rfl (.tmp 17) (.tmp 20) 68 rfl B 9 i9 (.string yi) 1 16 Tryz.underlying68 hi9 hz0 hz1 hz2 rfl (by decide) (.slice vo l.length vcap) l.length (l.map .string) rfl (HO2.out.alloc _) _ 1 [.string nm] rfl ⟨rfl,.inr ⟨_,1,rfl,cell_one_at (by simp) _ _⟩⟩ (by simp [Value.oneCell']) (by unfold maxLen;omega) (by omega) (by have:=(qk.1 HOb2.out).1;simp;omega) ?_);intro b3 c3 w3 hown3 hg3;have HO3:=q8 hown3;have HG3:=q8 hg3;have hob3:w3.heap[ob]? =some (.cells #[.slice vo l.length vcap] 68 (0,0)):=jV hg3 HOb2.out (fun e=>by obtain⟨_,cur,fr,hc⟩:=zY HO2.out e;rw [HOb2.out]at hc;cases hc);have f0:=cell1 (o:=0) hob3 rfl;have ff:=zQ hob3 0;have HOb3:=q8 hob3;clear hown3 hg3 hob3)
   go_end0
   have hS:Kept (fun g=>g=ob∨(qw vo l.length vcap).ownBlock=some g) W2 (w3.setCell ⟨ob,0,none⟩ (.slice b3 (l.length+1) c3)):=
    Kept.setCell (Kept.grown ((Kept.refl _ W2).alloc _) HG3.out (fun k e _=> .inr e)) (p:=⟨ob,0,none⟩) (fun _=> .inl rfl) _
   obtain⟨es2,clk2,hb2,-⟩:=HM3.out;have hmap5:=HM3.out.kept hS (by
    rintro(e|e)
    ·exact h2 e.symm
    ·exact jY HO2.out hb2 e)
   refine⟨rfl,⟨qQ hS HB2.out (by
    rintro(e|e)
    ·have:=HB2.out
     rw [e,HOb2.out]at this
     cases this
    ·obtain⟨_,cur,fr,hc⟩:=zY HO2.out e
     rw [HB2.out]at hc
     cases hc),q1,q2,_,box_one HOb3.out _,?_,?_⟩,?_⟩
   ·rw [HF.out,HC.out,qn,List.map_append]
    exact zF HO3.out HOb3.out (by decide) 0 _
   ·rw [HF.out,HC.out]
    refine(hmap5.congr fun x u=> ?_).more (by simp);unfold putV;constructor
    ·rintro⟨s,hs,rfl,rfl⟩
     by_cases e:yb s=yb nm
     ·exact .inl ⟨e,rfl⟩
     ·refine .inr ⟨e,s,?_,rfl,rfl⟩
      rcases qK.1 hs with hs|hs
      ·exact hs
      ·rw [qN.1 hs]at e
       exact absurd rfl e
    ·rintro(⟨rfl,rfl⟩|⟨_,s,hs,rfl,rfl⟩)
     ·exact⟨nm,by simp,rfl,rfl⟩
     ·exact⟨s,by simp [hs],rfl,rfl⟩
   ·refine Fr.trans (Fr.near HN.out) (Fr.trans HFr2.out (Fr.trans (Fr.near ((Near.refl W2).alloc _)) (Fr.trans (Fr.row (HO2.out.alloc _) HG3.out (by decide)) ?_)))
    exact Fr.one (Kept.setCell (S:=fun g=>g=ob) (Kept.refl _ w3) (p:=⟨ob,0,none⟩) (fun _=>rfl) _) q1 (fun cs fr e=>by rw [HOb3.out]at e;cases e)
 ·have hop:((op:Int)==3)=false:=beq_eq_false_iff_ne.2 (by omega)
  have HC:=q8 (show addName l (.mk op nm kd)=l by unfold addName;rw [show(decide ((Ex.mk op nm kd).op=3)&& !hasN l (Ex.mk op nm kd).name)=false by simp [Ex.op,ho]];simp);clear hkey ho;go_wp2_with fail
  go_end0
  exact⟨rfl,HStay.out HC.out,Fr.near HN.out⟩
theorem Yl{S:Nat->Prop}(z:RdEx S w vs x)(H: ∀g,S g->g<w.heap.size)(E:x.size<1099511627776)(p: ∀y∈x.row,y.name.size<=maxLen):
 Calls qj 166 #[vi vs.toArray] w fun e c=> ∃v,e=vm v/\c.ownsRow w.heap.size 9 1 v (usedL x).length ((usedL x).map vf)/\Near w c:=by
 have⟨j,i,b⟩:=x;obtain⟨Y,rfl,K⟩:=z.inv;obtain⟨q,l,rfl⟩:=K.form;have M:= @run_makeMap qj;have B: ∀W,W=(((w.alloc (vk #[ve vq j,vf i,vd q b.length l] 84)).alloc (vk #[vd none 0 0] 68)).alloc (.map #[] 0)).alloc (vk #[.map (some (w.heap.size+1+1))] 282)->Near w W/\q02 w.heap.size (w.heap.size+1) (w.heap.size+1+1) (w.heap.size+1+1+1) [] W:=by
  rintro W rfl;refine⟨((((Near.refl w).alloc _).alloc _).alloc _).alloc _,heap_new_at (by simp),by omega,by omega,_,?_,qW _ _ _ _,?_⟩
  .rw [qD (by simp<;>omega),qD (by simp),heap_new_at (by simp)]
  .refine(mapV.empty ?_).congr fun x v=>by simp
   rw [qD (by simp),heap_new_at (by simp)]
 have u:=q8 B;have D:Hid (q7y S w.heap.size (Ex.mk j i b).size 214 #[vg (vw (w.heap.size+1+1+1) 0),vg (vw (w.heap.size+1) 0)] (q02 w.heap.size (w.heap.size+1) (w.heap.size+1+1) (w.heap.size+1+1+1))):=q8
  {enters:=j3 Tryz.func214 (by kernel_rfl) rfl
   low:=H
   near:=fun d t U ⟨I,G,N,v,n,f,J⟩ a=>⟨qQ a I,G,N,v,qQ a n,owns_kept f a (R:=fun _=>False) (fun _ _ h=>h),J.kept a id⟩
   step:=fun d x vs t Z a s O=>KH (by omega) a s O (by omega)}
 have P:=q8 (show∀W,W=(((w.alloc (vk #[ve vq j,vf i,vd q b.length l] 84)).alloc (vk #[vd none 0 0] 68)).alloc (.map #[] 0)).alloc (vk #[.map (some (w.heap.size+1+1))] 282)->Calls qj 213 #[vi #[ve vq j,vf i,vd q b.length l],.func (.func 214) #[] #[vg (vw (w.heap.size+1+1+1) 0),vg (vw (w.heap.size+1) 0)]] W fun e c=>e=vm (.tuple #[])/\q02 w.heap.size (w.heap.size+1) (w.heap.size+1+1) (w.heap.size+1+1+1) ([]++(Ex.mk j i b).row) c/\Fr w.heap.size W c from fun W m=>by
  have⟨a,s⟩:=u W m;exact WA D _ s (z.kept a (fun _ _ h=>h) (fun _ h=>h)) (by omega) (by simp) p)
 go_enter Tryz.func166,Tryz.ntmps166;go_wp2_with (go_at_call 213;refine(P _ rfl).mono ?_;rintro e t ⟨rfl,L,C⟩;obtain⟨-,-,-,v,n,f,-⟩:=L;rw [yV]at f;obtain⟨X,vc,rfl⟩:=qR f;have V:=cell1 (o:=0) n rfl;have A:=q8 f;have r:=q8 C)
 go_ret;exact⟨_,rfl,A,Kept.mono ((u _ rfl).1.kept.trans r.low) (fun k Q e=>by have e:w.heap.size<=k:=e;omega)⟩
end Go.Proofs.YtjcbmcnbdegpmaaGreatDoor
namespace Go.Proofs.YtjcbmcnbdegpmaaGreatDoor
open Go Go.RowKit Go.Proofs.Gen Go.Proofs.Mod
variable{P:Program}{S:Nat→Prop}{b c:List Value}{base cap e g i k n:Nat}{l:List ByteArray}{v:Value}{w:World}{x:Ex}
theorem Zf(h:validB x=true): ∀y∈x.row,y.name.size≤maxLen:=by
 intro y b;have a:=(gP.2 h).1 y b
 have:y.name.size≤32:=by
  have⟨o,n,l⟩:=y;unfold rightB at a;simp only [Ex.op,Ex.name,Ex.kids]at a⊢;unfold jr at a;split at a<;>(try simp only [Bool.and_eq_true,decide_eq_true_eq]at a)
  all_goals first
   |omega
   |exact(xE a.2).2
   |cases a
 unfold maxLen;omega
theorem Qc(h:validB x=true):x.size<=1000:=by
 have:=(gP.2 h).2.2
 omega
theorem Xf{T:Nat→Prop}{a:List ByteArray}{vs:List Value}(hn:RdL S 1 RdS w v a)(hl:a.length<4611686018427387904)(G:RdEx T w vs x)(hT: ∀g,T g→g<w.heap.size)(Y:x.size<4611686018427387904):
 Calls qj 103 #[v,vi vs.toArray] w fun e d=>e=vm (ve vp (reqE a x:Nat))∧Near w d:=by
 have X:=q8 (fun(d:World)(C:Near w d)=>kL (G.kept C (fun _ _ h=>h) (fun _ h=>h)) (fun g hg=>qu (hT g hg) C.size) Y);have Z:=q8 (fun(hx:validB x=true)(d:World)(C:Near w d)=>Yl (G.kept C (fun _ _ h=>h) (fun _ h=>h)) (fun g hg=>qu (hT g hg) C.size) (by have:=Qc hx;omega) (Zf hx));have HC:=q8 (fun(d:World)(C:Near w d)(s:ByteArray)=>xu (hn.kept C (fun _ _ h=>h) (fun _ h=>h) (fun _ _ h=>h)) hl s);obtain⟨ao,ad,rfl⟩:=hn.form;have E:Hid (reqE a x=if validB x=true then(if(usedL x).all (hasN a)=true then 0 else 6)else 2):=rfl;have c:validB x=true→(usedL x).length≤1000:=fun h=>by
  have h1:=gC x.row;have h2:=Qc h;rw [Ex.row_length]at h1;unfold usedL;omega
 generalize reqE a x=r at E;generalize usedL x=u at Z E c;have⟨p,m,l⟩:=x;obtain⟨sv,rfl,P⟩:=G.inv;obtain⟨t,A,rfl⟩:=P.form;generalize validB (.mk p m l)=b at X Z E c;have hW: ∀W,W=w.alloc (vk #[ve vq p,vf m,vd t l.length A] 84)→Near w W∧W.heap[w.heap.size]? =some (vk #[ve vq p,vf m,vd t l.length A] 84 (0,0)):=by
  rintro W rfl;exact⟨(Near.refl w).alloc _,heap_new_at rfl⟩
 cases b with
 |false=>
  clear c;go_enter Tryz.func103,Tryz.ntmps103;go_upto_region 1 with fail
  have H:=hW _ rfl;generalize w.alloc (vk #[ve vq p,vf m,vd t l.length A] 84)=W at H⊢;have⟨R,j⟩:=H;obtain⟨c0,c1,c2⟩:W.cell? w.heap.size=some (ve vq p)∧W.cell? (vw w.heap.size 1)=some (vf m)∧W.cell? (vw w.heap.size 2)=some (vd t l.length A):=⟨cell1 j rfl,cell1 j rfl,cell1 j rfl⟩;have L:=q8 R;go_wp2_with (go_at_call 165;refine(X _ L).mono ?_;rintro e O ⟨rfl,M⟩)
  go_ret;exact⟨by rw [E.out];rfl,L.trans M⟩
 |true=>
  have c:=c rfl;go_enter Tryz.func103,Tryz.ntmps103;go_upto_region 1 with fail
  have H:=hW _ rfl;generalize w.alloc (vk #[ve vq p,vf m,vd t l.length A] 84)=W at H⊢;have⟨R,j⟩:=H;obtain⟨c0,c1,c2⟩:W.cell? w.heap.size=some (ve vq p)∧W.cell? (vw w.heap.size 1)=some (vf m)∧W.cell? (vw w.heap.size 2)=some (vd t l.length A):=⟨cell1 j rfl,cell1 j rfl,cell1 j rfl⟩;have L:=q8 R;have HE:=q8 j;go_upto_region 3 with(go_at_call 165;refine(X _ L).mono ?_;rintro e O ⟨rfl,M⟩;have J:=q8 (L.trans M);have B:=qQ M HE)
  obtain⟨d0,d1,d2⟩:O.cell? w.heap.size=some (ve vq p)∧O.cell? (vw w.heap.size 1)=some (vf m)∧O.cell? (vw w.heap.size 2)=some (vd t l.length A):=⟨cell1 B rfl,cell1 B rfl,cell1 B rfl⟩;go_wp2_with (go_at_call 166;refine(Z (by first|rfl|trivial) _ J).mono ?_;rintro e w2 ⟨v2,rfl,r2,n2⟩;obtain⟨uo,uc,rfl⟩:=qR r2;have U:=q8 (RdL.strings r2);have z:=q8 (J.trans n2))
  go_loop [13] (fun i=> ∃k:Nat,k≤u.length∧i=ve vp k∧ ∀s∈u.take k,hasN a s=true) (fun i=>u.length - (intOf i).toNat)
  case atStart=>exact⟨0,qv _,rfl,by simp⟩
  case round=>
   obtain⟨k,hk,rfl,K⟩:=hrel;have n:=q8 K;by_cases I:k<u.length
   ·have aa:(k:Int)<u.length:=by omega
    obtain⟨s,P⟩: ∃s,u[k]? =some s:=⟨_,qi I⟩;have⟨ae,ab,e,hc⟩:=U.out;obtain⟨b,o,vs,Q,-,D,G⟩:=hc k s P;obtain rfl:vs=[vf s]:=G;simp only [qq,true_and]at e;obtain⟨rfl,rfl⟩:=e;subst Q;have g0:w2.cell? (vw b (o+k))=some (vf s):=by simpa using D 0 _ rfl
    have HS:=q8 P;have f:=q8 (HC w2 z s)
    cases N:hasN a s with
    |false=>
     rw [N]at f;have V:=q8 N;go_wp2_with (go_at_call 163;refine f.mono ?_;rintro e d ⟨rfl,rfl⟩)
     go_ret;refine⟨?_,z⟩
     have:u.all (hasN a)=false:=zt.2 fun h=>by
      have:=qL.1 h s (qp HS)
      rw [V.out]at this
      cases this
     rw [E.out,this];rfl
    |true=>
     rw [N]at f;have V:=q8 N;go_wp2_with (go_at_call 163;refine f.mono ?_;rintro e d ⟨rfl,rfl⟩)
     go_round
     case rel=>
      refine⟨k+1,I,by go_num,fun y q=> ?_⟩;rw [List.take_add_one,HS.out]at q;rcases qK.1 q with q|q
      ·exact n y q
      ·simp only [Option.toList_some,qN]at q
       rw [q];exact V
     case measure=>simp [intOf];omega
   ·obtain rfl:k=u.length:=by omega
    go_wp2_with fail
    go_ret;refine⟨?_,z⟩
    have:u.all (hasN a)=true:=by
     have h:=n.out;rw [List.take_length]at h;exact qL.2 h
    rw [E.out,this];rfl
theorem wT(x:Int)(w:World):Calls qj 99 #[ve vp x] w fun e c=>e=vm (vj (!costB x))/\c=w:=by
 obtain⟨b,a⟩: ∃b,b= !costB x:=⟨_,rfl⟩;have d:=q8 (show b=true↔ ¬(-2147483648<=x/\x<=2147483648) by rw [a,Bool.not_eq_true',costB,kY,decide_eq_false_iff_not,decide_eq_false_iff_not];omega);rw [<-a];clear a;go_enter Tryz.func99,Tryz.ntmps99;go_wp2
 all_goals
  go_ret;refine⟨congrArg (fun x=>jM (vj x)) (zq.2 ?_),rfl⟩;rw [d.out];simp only [yM,decide_eq_true_eq,true_iff];omega
theorem kx{m o:Nat}(h:w.ownsRow base e k (vd (some ⟨g,o,none⟩) m cap) n c): ∃a,o=0/\m=n/\base<=g/\w.heap[g]? =some (vk a e (0,0))/\n<=cap/\cap<=maxLen/\a.size=cap*k/\a.toList.take (n*k)=c:=by
 rcases h.2 with⟨e,-⟩|⟨q,b,a,e,f,j,d,i,p,l⟩
 .cases e
 .simp only [qq,zo,Addr.mk.injEq,and_true]at e
  obtain⟨⟨rfl,rfl⟩,rfl,rfl⟩:=e;exact⟨a,rfl,rfl,f,j,d,i,p,l⟩
theorem q18{ao:Option Addr}(h:w.ownsRow base e k (vd ao (n+1) cap) (n+1) b): ∃g,ao=some ⟨g,0,none⟩/\base<=g:=by
 rcases h.2 with⟨-,e⟩|⟨g,a,d,e,c,-⟩
 .omega
 .simp only [qq]at e
  exact⟨g,e.1,c⟩
theorem owns_set(h:w.ownsRow base e k (vd g n cap) n b)(u:Value):(w.setCell (vw g i) u).ownsRow base e k (vd g n cap) n (b.set i u):=by
 obtain⟨a,-,-,d,j,c,f,m,l⟩:=kx h;refine⟨by rw [List.length_set];exact h.1,vv ⟨g,cap,a.setIfInBounds i u,rfl,d,qz j i u,c,f,by rw [Array.size_setIfInBounds];exact m,?_⟩⟩;rw [Array.toList_setIfInBounds,List.take_set,l]
theorem yh{u:Value}(h:w.ownsRow base e k (vd g n cap) n c)(a:c[i]? =some u):w.cell? (vw g i)=some u/\w.frozen? (vw g i)=false:=by
 obtain⟨d,-,-,l,b,j,m,o,f⟩:=kx h;refine⟨cell1 b ?_,zQ b i⟩;rw [<-f,zH]at a;split at a
 .rwa [Array.getElem?_toList]at a
 .cases a
theorem q0y(a:List Value)(h f g b d c:Value)(e:a.length=n):(((a++[h,f,g]).set n b).set (n+1) d).set (n+2) c=a++[b,d,c]:=by
 subst e;rw [QP _ _ (qt _),QP _ _ (by omega),QP _ _ (by omega),Nat.sub_self,show a.length+1 - a.length=1 by omega,show a.length+2 - a.length=2 by omega];rfl
theorem Yu{a:List Value}{l j k:Value}(h:w.ownsRow base e 3 (vd g (n+1) cap) (n+1) (a++[l,j,k]))(b d c:Value):
 (((w.setCell (vw g (n*3)) b).setCell (vw g (n*3+1)) d).setCell (vw g (n*3+2)) c).ownsRow base e 3 (vd g (n+1) cap) (n+1) (a++[b,d,c]):=by
 have f:a.length=n*3:=by have:=h.1;rw [qn]at this;simp at this;omega
 have:=owns_set (owns_set (owns_set h (i:=n*3) b) (i:=n*3+1) d) (i:=n*3+2) c
 rwa [q0y _ _ _ _ _ _ _ f]at this
theorem XB(w:World)(g i:Nat)(a c b:Value):Kept (fun k=>k=g) w (((w.setCell (vw g i) a).setCell (vw g (i+1)) c).setCell (vw g (i+2)) b):=
 Kept.setCell (Kept.setCell (Kept.setCell (S:=fun k=>k=g) (Kept.refl _ w) (p:=vw g i) (fun _=>rfl) _) (p:=vw g (i+1)) (fun _=>rfl) _) (p:=vw g (i+2)) (fun _=>rfl) _
theorem vS(z:Value)(n:Nat):vQ #[z] n=(zk n z).toArray:=by
 unfold vQ;apply Array.ext
 .simp
 .intro i a b
  simp;rw [Nat.mod_one];rfl
theorem QW(w:World)(base:Nat)(t tn ty e:TypeId)(i:TypeInfo)(z:Value)(bytes:Nat)(ht:P.underlying t=some (.slice e))(htn:P.underlying tn=some (.int .i64))(hi:P.info? e=some i)(hz:i.zero=some z)
 (hsize:i.size=1) (hby:i.bytes=bytes) (hzs:z.cells= #[z]) (hz1:z.oneCell'=true)
 (v:Value) (n:Nat) (xs:List Value) (hown:w.ownsRow base e 1 v n xs) (k:Nat) (hbytes:(n+k)*bytes≤140737488355328) (h63:n+k≤maxLen) (hbase:base≤w.heap.size):
 ∃v' w',(Y6 #[t,tn] ty #[v,.int .i64 k]).run P w= .ok v' w'∧w'.ownsRow base e 1 v' (n+k) (xs++zk k z)∧w.grownBy w' v.ownBlock∧(v'.ownBlock=v.ownBlock∨v'.ownBlock=some w.heap.size):=by
 subst hby;have hsmall:n+k≤9223372036854775807:=by simp only [maxLen]at h63;omega
 have hw:zD.wrap (k:Int)=k:=by rw [IntKind.wrap_i64];omega
 have hneg: ¬((k:Int)<0):=by omega
 have hb8:k*i.bytes≤140737488355328:=qH (Yh _ (by omega)) hbytes;have h48i: ¬(281474976710656<(k:Int)*(i.bytes:Int)):=by
  rw [←Int.natCast_mul];omega
 have hlen:(xs++zk k z).length=(n+k)*1:=by rw [qn,hown.1,QQ];omega
 have grown: ∀(old:Nat),old<n+k→ ∀(row:Option Nat),
  (w.drew.alloc (.cells (xs.toArray++vQ z.cells k++vQ z.cells (grownCap w (n+k) old e - (n+k))) e)).ownsRow base e 1
   (.slice (some ⟨w.heap.size,0,none⟩) (n+k) (grownCap w (n+k) old e)) (n+k) (xs++zk k z)∧
  w.grownBy (w.drew.alloc (.cells (xs.toArray++vQ z.cells k++vQ z.cells (grownCap w (n+k) old e - (n+k))) e)) row:=by
  intro old ho row;have hge:=grownCap_ge w (n+k) old e;have hcm:grownCap w (n+k) old e≤maxLen:=grownCap_le_maxLen w (n+k) old e h63;rw [hzs,vS,vS];refine⟨⟨hlen,.inr ⟨w.heap.size,_,_,rfl,hbase,heap_alloc_new w.drew _,hge,hcm,?_,?_⟩⟩,⟨rfl,rfl,rfl,by simp,fun k hk _=>heap_alloc_old w.drew _ hk⟩⟩
  ·have:=hown.1
   simp only [Array.size_append,wH,QQ];omega
  ·simp only [Array.toList_append]
   rw [←hlen];exact List.take_left
 rcases hown.2 with⟨rfl,rfl⟩|⟨g,cap,cur,rfl,hbg,hg,hnc,hcm,hcs,htake⟩
 ·have hx:xs=[]:=zJ (by simpa using hown.1)
  subst hx;by_cases hk:k=0
  ·subst hk
   refine⟨.slice none 0 0,w,?_,qW w base e 1,⟨rfl,rfl,rfl,qt _,fun _ _ _=>rfl⟩,.inl rfl⟩;have hw0:zD.wrap 0=0:=by decide
   simp [Y6,run_underlying ht,run_underlying htn,sizeOf,typeInfo,hi,asInt,asIntOf,hw0]
  ·have hr:=Go.Lib.run_append_nil_zeros (P:=P) w t tn ty e i z .i64 .i64 ht htn hi hz k (by omega) (by omega) (by omega) (by omega)
   have hgr:=grown 0 (by omega) (zN (.slice none 0 0));simp only [Nat.zero_add,yV,Array.empty_append]at hgr⊢;exact⟨_,_,hr,hgr.1,hgr.2,.inr rfl⟩
 ·by_cases hroom:n+k≤cap
  ·by_cases hk:k=0
   ·subst hk
    refine⟨_,w,?_,by rw [List.replicate_zero,List.append_nil];exact hown,⟨rfl,rfl,rfl,qt _,fun _ _ _=>rfl⟩,.inl rfl⟩;have hw0:zD.wrap 0=0:=by decide
    simp [Y6,run_underlying ht,run_underlying htn,sizeOf,typeInfo,hi,asInt,asIntOf,hw0,hnc,storeCells]
   ·have hst:=run_storeCells_at P g (n*1) e (zk k z) 0 cur w hg (by rw [QQ,hcs];omega) (fun u hu=>by rw [List.eq_of_mem_replicate hu];exact hz1)
    simp only [Nat.add_zero,Nat.mul_one,QQ,qS]at hst;refine⟨.slice (some ⟨g,0,none⟩) (n+k) cap,w.setRow g (cur.toList.take (n*1)++zk k z++cur.toList.drop (n*1+(zk k z).length)).toArray,?_,⟨hlen,.inr ⟨g,cap,_,rfl,hbg,setRow_heap w g cur _ e _ hg,hroom,hcm,?_,?_⟩⟩,⟨rfl,rfl,rfl,by simp,fun k _ hk=>setRow_other w g k _ (fun e=>hk (by simp [zN,e]))⟩,.inl rfl⟩
    ·simp [Y6,run_underlying ht,run_underlying htn,sizeOf,typeInfo,zeroValue,hi,hz,asInt,asIntOf,hw,hneg,h48i,hroom,hsize,hk,hzs,vS,Addr.add_lit,hst]
    ·simp only [wH,qn,zd,yC,zW,QQ]
     omega
    ·rw [htake,←hlen]
     exact List.take_left
  ·have holds: ∀j u,xs[j]? =some u→w.drew.cell? ((⟨g,0,none⟩:Addr).add j)=some u:=hown.cells (g:=g) rfl
   have hf:=run_firstCells_some (P:=P) w.drew i.size n ⟨g,0,none⟩ n cap xs (by rw [hown.1,hsize]) holds;have hr:=Go.Lib.run_append_grow_zeros (P:=P) w t tn ty e i z .i64 .i64 ht htn hi hz (some ⟨g,0,none⟩) n cap xs hf k (by omega) (by omega) (by omega) (by omega) (by omega) (growslice_fits (by omega) hbytes);have hgr:=grown cap (by omega) (zN (.slice (some ⟨g,0,none⟩) n cap));exact⟨_,_,hr,hgr.1,hgr.2,.inr rfl⟩
theorem Qd{ops:Array Oper}{o:Oper}{a:Act}{K:Act->World->Prop}{Q:Exit->Act->World->Prop}{E:Prop}
 (hg:o.guard=none) (s x:Operand) (t tn:TypeId) (hop:o.op=Op.call {callee:=Callee.builtin Builtin.append,args:= #[s,x],argTypes:= #[t,tn]})
 (base:Nat) (e:TypeId) (i:TypeInfo) (z:Value) (bytes:Nat) (ht:P.underlying t=some (.slice e)) (htn:P.underlying tn=some (.int .i64)) (hi:P.info? e=some i) (hz:i.zero=some z)
 (hsize:i.size=1) (hby:i.bytes=bytes) (hzs:z.cells= #[z]) (hz1:z.oneCell'=true)
 (v:Value) (n:Nat) (xs:List Value) (hs:a.eval s=v) (hown:w.ownsRow base e 1 v n xs) (k:Nat) (hx:a.eval x= .int .i64 k) (hbytes:(n+k)*bytes<=140737488355328) (h63:n+k<=maxLen) (hbase:base<=w.heap.size)
 (hK: ∀ao cap w',w'.ownsRow base e 1 (.slice ao (n+k) cap) (n+k) (xs++zk k z)->w.grownBy w' v.ownBlock->((qw ao (n+k) cap).ownBlock=v.ownBlock\/(qw ao (n+k) cap).ownBlock=some w.heap.size)->K (a.put o.dst (.slice ao (n+k) cap)) w'):
 if yg o (Ky ops a.tmps)=true then xC P o a w K Q else E:=by
 have hw:yg o (Ky ops a.tmps)=true:=by simp [yg,hg]
 rw [if_pos hw];obtain⟨v',w',hr,h2,h3,h5⟩:=QW (P:=P) w base t tn o.type e i z bytes ht htn hi hz hsize hby hzs hz1 v n xs hown k hbytes h63 hbase;obtain⟨ao,cap,rfl⟩:=qR h2;unfold xC execOp;simp only [hop,resolve,invoke,builtin,Sem.run_bind,Sem.run_pure,ul,List.map_toArray,yL,jE,hs,hx,hr];exact hK ao cap w' h2 h3 h5
theorem rWord_calls(c:Nat)(w:World):Calls qj 169 #[ve vq c] w fun e d=>e=vm (vj (wordB c))/\d=w:=by
 obtain⟨b,a⟩: ∃b,b=wordB c:=⟨_,rfl⟩;have f:=q8 (show b=true↔c=95\/(48<=c/\c<=57)\/(97<=c/\c<=122)\/(65<=c/\c<=90) by rw [a];exact JT);rw [<-a];clear a;go_enter Tryz.func169,Tryz.ntmps169;go_wp2
 all_goals
  go_ret;refine⟨congrArg (fun x=>jM (vj x)) (zq.2 ?_),rfl⟩;rw [f.out];simp only [yM,beq_iff_eq,decide_eq_true_eq,true_iff];omega
theorem rName_calls(s:ByteArray)(w:World):Calls qj 117 #[vf s] w fun e q=>e=vm (vj (nameB s))/\q=w:=by
 by_cases H:s.size<1
 .have g:nameB s=false:=zt.2 fun h=>by have:=xE h;omega
  rw [g];go_enter Tryz.func117,Tryz.ntmps117;go_wp2_with fail
  go_ret;exact⟨rfl,rfl⟩
 .by_cases G:32<s.size
  .have g:nameB s=false:=zt.2 fun h=>by have:=xE h;omega
   rw [g];go_enter Tryz.func117,Tryz.ntmps117;go_wp2_with fail
   go_ret;exact⟨rfl,rfl⟩
  .have r:0<s.size:=by omega
   have o:s.data.toList[0]? =some s[0]:=by rw [qi (by simpa using r)];rfl
   by_cases p:48<=s[0].toNat/\s[0].toNat<=57
   .have g:nameB s=false:=by
     unfold nameB;rw [o];simp [p.1,p.2]
    rw [g];have m:(48:Int)<=s[0].toNat/\(s[0].toNat:Int)<=57:=by omega
    have⟨C,D⟩:=m;clear p o;go_enter Tryz.func117,Tryz.ntmps117;go_wp2_with fail
    go_ret;exact⟨rfl,rfl⟩
   .have g:nameB s=s.data.toList.all fun c=>wordB c.toNat:=by
     unfold nameB;rw [o];have B:decide (1<=s.size)=true:=decide_eq_true (by omega);have y:decide (s.size<=32)=true:=decide_eq_true (by omega);have x:(decide (48<=s[0].toNat)&&decide (s[0].toNat<=57))=false:=by
      rw [kY,decide_eq_false_iff_not,decide_eq_false_iff_not];omega
     rw [B,y];simp only [x,Bool.not_false,Bool.true_and]
    obtain⟨b,d⟩: ∃b,b=nameB s:=⟨_,rfl⟩;rw [<-d];rw [g]at d;have u:=q8 d;have z:(s.size:Int)<=32:=by omega
    have m: ¬((48:Int)<=s[0].toNat/\(s[0].toNat:Int)<=57):=by omega
    clear d g o p;go_enter Tryz.func117,Tryz.ntmps117;by_cases C:(48:Int)<=s[0].toNat
    all_goals
     have D:(s[0].toNat:Int)<48\/57<(s[0].toNat:Int):=by omega
     go_wp2_with fail
     all_goals first|(exfalso;omega)|skip
    all_goals
     go_loop [3] (fun i=> ∃k:Nat,k<=s.size/\i=ve vp k/\ ∀c∈s.data.toList.take k,wordB c.toNat=true) (fun i=>s.size - (intOf i).toNat)
     case atStart=>exact⟨0,qv _,rfl,by simp⟩
     case round=>
      obtain⟨k,E,rfl,v⟩:=hrel;have t:=q8 v;clear v;by_cases j:k<s.size
      .have n:s.data.toList.take (k+1)=s.data.toList.take k++[s[k]]:=by rw [List.take_succ_eq_append_getElem (by simpa using j)];rfl
       have A:=q8 n;clear n
       cases f:wordB s[k].toNat with
       |false=>
        have a:=q8 f;clear f;go_wp2_with (go_at_call 169;refine(rWord_calls _ _).mono ?_;rintro e q ⟨rfl,rfl⟩;rw [a.out])
        go_ret;refine⟨?_,rfl⟩
        have:b=false:=by
         rw [u.out];refine zt.2 fun h=> ?_
         have:=qL.1 h s[k] (qp (by rw [qi (by simpa using j)];rfl))
         rw [a.out]at this
         cases this
        rw [this];rfl
       |true=>
        have a:=q8 f;clear f;go_wp2_with (go_at_call 169;refine(rWord_calls _ _).mono ?_;rintro e q ⟨rfl,rfl⟩;rw [a.out])
        go_round
        case rel=>
         refine⟨k+1,j,by go_num,fun c l=> ?_⟩;rw [A.out]at l;rcases qK.1 l with l|l
         .exact t c l
         .rw [qN.1 l]
          exact a
        case measure=>simp [intOf];omega
      .go_wp2_with fail
       go_ret;refine⟨?_,rfl⟩
       have:b=true:=by
        rw [u.out,qL];have h:=t.out;rwa [List.take_of_length_le (by simp;omega)]at h
       rw [this];rfl
theorem uG{S:Nat->Prop}(h:RdL S 1 RdS w v l)(J:l.length<4611686018427387904)(s:ByteArray):Calls qj 118 #[v,vf s] w fun e C=>e=vm (ve vp (idxN l s))/\C=w:=by
 have E:=q8 h;obtain⟨M,H,rfl⟩:=h.form;go_enter Tryz.func118,Tryz.ntmps118;go_wp2_with fail
 go_loop [5] (fun i=> ∃k:Nat,k<=l.length/\i=ve vp k/\ ∀j x,j<k->l[j]? =some x->x≠s) (fun i=>l.length - (intOf i).toNat)
 case atStart=>exact⟨0,qv _,rfl,fun j x f=>by omega⟩
 case round=>
  obtain⟨k,K,rfl,n⟩:=hrel;have a:=q8 n;by_cases d:k<l.length
  .have r:(k:Int)<l.length:=by omega
   obtain⟨x,z⟩: ∃x,l[k]? =some x:=⟨_,qi d⟩;have⟨G,q,e,D⟩:=E.out;obtain⟨b,o,I,g,-,c,B⟩:=D k x z;obtain rfl:I=[vf x]:=B;simp only [qq,true_and]at e;obtain⟨rfl,rfl⟩:=e;subst g;have L:w.cell? (vw b (o+k))=some (vf x):=by simpa using c 0 _ rfl
   have t:=q8 z;by_cases m:x=s
   .subst m
    go_wp2_with fail
    go_ret;refine⟨?_,rfl⟩;rw [ZC a t];rfl
   .have A:(x.toList==s.toList)=false:=by
     rw [beq_eq_false_iff_ne];intro u;rw [zp,zp]at u;refine m ?_
     cases x
     cases s;congr 1;exact Array.toList_inj.1 u
    go_wp2_with fail
    go_round
    case rel=>
     refine⟨k+1,d,by go_num,fun j y f p=> ?_⟩;by_cases e:j=k
     .subst e
      have:=t.out
      rw [p]at this
      cases this;exact m
     .exact a j y (by omega) p
    case measure=>simp [intOf];omega
  .obtain rfl:k=l.length:=by omega
   go_wp2_with fail
   go_ret;refine⟨?_,rfl⟩;rw [(Jt fun j x f=>a j x (qm.1 f).1 f).1];rfl
theorem QC(h:RdL S 1 RdS w v l)(k:l.length<4611686018427387904)(s:ByteArray):Calls qj 38 #[v,vf s] w fun e b=>e=vm (ve vp (freshE l s:Nat))∧b=w:=by
 have g:=q8 (uG h k s);obtain⟨o,j,rfl⟩:=h.form;have c:Hid (freshE l s=if nameB s=true then(if hasN l s=true then 7 else 0)else 6):=rfl;have f:=q8 (Z7 (l:=l) (s:=s));have a:=q8 (rName_calls s w);generalize freshE l s=r at c⊢;generalize idxN l s=z at g f;generalize hasN l s=i at c f;generalize nameB s=m at c a
 cases m with
 |false=>
  have d:r=6:=c.out;subst d;go_enter Tryz.func38,Tryz.ntmps38;go_wp2_with (go_at_call 117;refine a.mono ?_;rintro e b ⟨rfl,rfl⟩)
  go_ret;exact⟨rfl,rfl⟩
 |true=>
  cases i with
  |true=>
   have d:r=7:=c.out;subst d;have n:(0:Int)≤z:=of_decide_eq_true f;go_enter Tryz.func38,Tryz.ntmps38;go_wp2_with (first
    |(go_at_call 117;refine a.mono ?_;rintro e b ⟨rfl,rfl⟩)
    |(go_at_call 118;refine g.mono ?_;rintro e b ⟨rfl,rfl⟩))
   go_ret;exact⟨rfl,rfl⟩
  |false=>
   have d:r=0:=c.out;subst d;have n: ¬(0:Int)≤z:=of_decide_eq_false f;go_enter Tryz.func38,Tryz.ntmps38;go_wp2_with (first
    |(go_at_call 117;refine a.mono ?_;rintro e b ⟨rfl,rfl⟩)
    |(go_at_call 118;refine g.mono ?_;rintro e b ⟨rfl,rfl⟩))
   go_ret;exact⟨rfl,rfl⟩
end Go.Proofs.YtjcbmcnbdegpmaaGreatDoor
namespace Go.Proofs.Mod
open Go
def rFeatE(m:Mod):Nat:=if m.feats.length=0 then 2 else eachE 24 (featE m.names) m.feats
def rGrpE(m:Mod)(l:List Grp)(g:Grp):Nat:=if(vL m.feats.length g&&g.members.all fun k=>okM m.feats g.parent k&&decide (timesN l k<=1))=true then 0 else 2
theorem q3t{m:Mod}{i:Nat}{g:Grp}(h:m.grps[i]? =some g):rGrpE m (m.grps.take (i+1)) g=grpE m i g:=by
 unfold rGrpE grpE;rw [Ge h]
def rGrpsE(m:Mod):Nat:=if eachE 24 (grpE m) m.grps=0 then eachFrom (loneE m.grps) 0 m.feats else eachE 24 (grpE m) m.grps
def rRestE(m:Mod):Nat:=firstE [eachE 8 (attE m) m.atts,eachE 64 (fun _=>reqE m.names) m.reqs,eachE 16 (fun _ l=>if Qq m.atts.length l=true then 0 else 2) m.lims]
theorem q6z(m:Mod):chk m=if rFeatE m=0 then(if rGrpsE m=0 then rRestE m else rGrpsE m)else rFeatE m:=by
 unfold chk rFeatE rGrpsE rRestE;by_cases a:m.feats.length=0
 .rw [if_pos a,if_pos a]
  simp
 .rw [if_neg a,if_neg a]
  simp only [firstE];split
  .split
   .rfl
   .rfl
  .rfl
end Go.Proofs.Mod
