/- Tree, Maps, Rep, Steps, Node, Done, Done2, JoinA, JoinW, JoinC, Bits, TreeB, MPlain, MRead, MParse, MMap, MClo. -/
import Derived.Maps.OwnSet
import Derived.WalkKit
import Derived.Deep.QuietTactic
import Derived.Test.YtjcbmcnbdegpmaaGreatDoorProg
import Derived.KernelRfl
import Derived.DeepKeys4
import Derived.Deep.RegionLaw
import Derived.StillTailTactics
import Derived.Maps.AppendAt
import Derived.WalkSpells
import Derived.WalkLawsBesides
import Derived.BigQuiet
import Derived.Lib.Hide
import Derived.Deep.DeepCutAuto
import Derived.Laws.EntriesVeiled
import Derived.Deep.RegionHeld3
import Derived.Test.YtjcbmcnbdegpmaaGreatDoorCards
import Derived.ProofKit
set_option maxRecDepth 100000
set_option maxHeartbeats 12800000
set_option linter.unusedVariables false
open Array renaming getElem?_eq_getElem->Un,getElem?_eq_some_iff->qk
open Array.mk renaming injEq->za
open Bool renaming eq_iff_iff->zq
open Go renaming Operand->Y2,bodyPost_ret->qo
open Go.Instr renaming lookup->yu,mapUpdate->zA
open Go.IntKind renaming i64->zD
open Go.Lib renaming hid->q8
open Go.Lit renaming int->xI
open Go.Maps renaming keyOf_int_mk->JR
open Go.Oper renaming wp->xC
open Go.Proofs.Tryz renaming prog->qj,underlying196->YO,underlying258->YN,underlying3->qP
open Go.Region renaming wanted->yg
open Go.RowKit.Below renaming heap_alloc->zi,heap_setCell->zg
open Go.Value renaming agg->uP,int->qs,oneCell'->qX,ownBlock->zN,slice->qw
open Go.Value.agg renaming injEq->qY
open Go.Value.int renaming injEq->jS
open Go.Value.slice renaming injEq->qq
open Go.WalkArith renaming wf_i64->xD
open Go.World renaming block_lt_of_cell?->qM,cell?->zV,cell?_of_block->yr,frozen?->jx
open List renaming getElem?_append_left->zc,getElem?_eq_getElem->qi,getElem?_eq_some_iff->qm,getElem?_of_mem->qZ,getElem?_take->zH,length_filter_le->xk,length_take->zd,map_cons->yL,map_nil->jE,mem_append->qK,mem_append_left->Zc,mem_cons->qI,mem_filter->yy,mem_map->yH,mem_map_of_mem->up,pairwise_iff_getElem->wi,take_append_drop->zO
open List.cons renaming injEq->qJ
open Nat renaming le_of_lt->Y4,le_refl->qt,le_trans->qH,lt_of_le_of_lt->zR,lt_of_lt_of_le->qu,lt_trichotomy->Ul,min_eq_left->xA,pow_le_pow_right->zr,pow_succ->jn,testBit_two_pow->q80,two_pow_pos->q2P
open Option.some renaming inj->zm,injEq->zo
open Go.Value renaming slice->vd,int->ve,string->vf,pointer->vg,agg->vi,bool->vj
open Go.Obj renaming cells->vk
open Go.Ending renaming returned->vm
open Go.IntKind renaming i64->vp,u8->vq,u32->vr,u64->vt
open Or renaming inl->vu,inr->vv
namespace Go.Proofs
structure Phvw (b o : Nat)
def vw (b o : Nat) : Phvw b o := ⟨⟩
instance (b o : Nat) : CoeOut (Phvw b o) Go.Addr := ⟨fun _ => ⟨b, o, none⟩⟩
instance : Coe Nat Go.Addr := ⟨fun b => ⟨b, 0, none⟩⟩
end Go.Proofs
namespace Go.Proofs.Bdd
inductive T where
 |leaf (b:Bool)
 |node (i:Nat) (l h:T)
 deriving DecidableEq,Inhabited
namespace T
def lv:T->Nat
 | .leaf _=>24
 | .node i _ _=>i
def ev(c:Nat->Bool):T->Bool
 | .leaf b=>b
 | .node i l h=>if c i then h.ev c else l.ev c
def Ok:T->Prop
 | .leaf _=>True
 | .node i l h=>i<24/\i<l.lv/\i<h.lv/\l≠h/\l.Ok/\h.Ok
def size:T->Nat
 | .leaf _=>0
 | .node _ l h=>l.size+h.size+1
theorem JA{c d:Nat->Bool}: ∀(t:T),t.Ok->(∀j,t.lv<=j->j<24->c j=d j)->t.ev c=t.ev d
 | .leaf _,_,_=>rfl
 | .node i l h,⟨g,m,n,_,k,e⟩,a=>by
  simp only [ev];rw [a i (qt _) g,JA l k (fun j f b=>a j (by simp only [lv]at*;omega) b),JA h e (fun j f b=>a j (by simp only [lv]at*;omega) b)]
def upd(c:Nat->Bool)(i:Nat)(b:Bool):Nat->Bool:=fun j=>if j=i then b else c j
theorem upd_same(c:Nat->Bool)(i:Nat)(b:Bool):upd c i b i=b:=by simp [upd]
theorem uy(c:Nat->Bool){i j:Nat}(b:Bool)(h:j≠i):upd c i b j=c j:=by simp [upd,h]
theorem Wh{c:Nat->Bool}{i:Nat}{b:Bool}(t:T)(a:t.Ok)(h:i<t.lv):t.ev (upd c i b)=t.ev c:=
 JA t a fun j d _=>uy c b (by omega)
theorem q7P(t:T)(a:t.Ok):t.lv<=24:=by
 cases t with
 |leaf b=>exact qt _
 |node i l h=>exact Y4 a.1
theorem XZ(c:Nat->Bool)(i:Nat)(l h:T)(a:(node i l h).Ok):(node i l h).ev (upd c i false)=l.ev c:=by
 simp only [ev,upd_same];exact Wh l a.2.2.2.2.1 a.2.1
theorem ZL(c:Nat->Bool)(i:Nat)(l h:T)(a:(node i l h).Ok):(node i l h).ev (upd c i true)=h.ev c:=by
 simp only [ev,upd_same,if_true];exact Wh h a.2.2.2.2.2 a.2.2.1
theorem q2m: ∀(n:Nat)(t u:T),t.size+u.size<=n->t.Ok->u.Ok->(∀c,t.ev c=u.ev c)->t=u:=by
 intro n;induction n with
 |zero=>
  intro t u m e g h
  cases t with
  |node=>simp [size]at m
  |leaf a=>
   cases u with
   |node=>simp [size]at m
   |leaf b=>have:=h (fun _=>false);simp only [ev]at this;rw [this]
 |succ n s=>
  intro t u m e g h;have f: ∀(i:Nat)(l r:T)(v:T),l.size+r.size<=n->(node i l r).Ok->v.Ok->i<v.lv->(∀c,(node i l r).ev c=v.ev c)->False:=by
   intro i l r v z q w p x;refine q.2.2.2.1 (s l r z q.2.2.2.2.1 q.2.2.2.2.2 fun c=> ?_);rw [<-XZ c i l r q,<-ZL c i l r q,x,x,Wh v w p,Wh v w p]
  cases t with
  |leaf a=>
   cases u with
   |leaf b=>have:=h (fun _=>false);simp only [ev]at this;rw [this]
   |node j l r=>
    simp only [size]at m;exact(f j l r (leaf a) (by omega) g trivial (by simp only [lv];exact g.1) (fun c=>(h c).symm)).elim
  |node i l r=>
   simp only [size]at m
   cases u with
   |leaf b=>exact(f i l r (leaf b) (by omega) e trivial (by simp only [lv];exact e.1) h).elim
   |node j o k=>
    simp only [size]at m;rcases Ul i j with d|d|d
    .exact(f i l r (node j o k) (by omega) e g (by simpa only [lv]using d) h).elim
    .subst d
     have y:l=o:=s l o (by omega) e.2.2.2.2.1 g.2.2.2.2.1 fun c=>by rw [<-XZ c i l r e,<-XZ c i o k g,h]
     have A:r=k:=s r k (by omega) e.2.2.2.2.2 g.2.2.2.2.2 fun c=>by rw [<-ZL c i l r e,<-ZL c i o k g,h]
     rw [y,A]
    .exact(f j o k (node i l r) (by omega) g e (by simpa only [lv]using d) (fun c=>(h c).symm)).elim
theorem canon{t u:T}(a:t.Ok)(b:u.Ok)(h: ∀c,t.ev c=u.ev c):t=u:=q2m _ t u (qt _) a b h
def mk(i:Nat)(l h:T):T:=if l=h then l else .node i l h
theorem mk_ev(c:Nat->Bool)(i:Nat)(l h:T):(mk i l h).ev c=if c i then h.ev c else l.ev c:=by
 unfold mk;split
 .rename_i e;subst e;simp
 .rfl
theorem mk_ok{i:Nat}{l h:T}(d:i<24)(c:i<l.lv)(f:i<h.lv)(a:l.Ok)(b:h.Ok):(mk i l h).Ok:=by
 unfold mk;split
 .exact a
 .rename_i e;exact⟨d,c,f,e,a,b⟩
theorem mk_lv{i:Nat}{l h:T}(a:i<l.lv):i<=(mk i l h).lv:=by
 unfold mk;split
 .omega
 .exact qt _
def isNode:T->Prop
 | .leaf _=>False
 | .node .. =>True
def In(L:List T):T->Prop
 | .leaf _=>True
 |t@(.node ..)=>t∈L
inductive Good:List T->Prop where
 |nil:Good []
 |snoc {L:List T}{i:Nat}{l h:T}(g:Good L)(il:In L l)(ih:In L h)(ok:(node i l h).Ok)(new:node i l h∉L):Good (L++[node i l h])
theorem In.mono{L:List T}(M:List T){t:T}(h:In L t):In (L++M) t:=by
 cases t with
 |leaf=>trivial
 |node=>exact Zc _ h
def pl(L:List T):T->Nat
 | .leaf false=>0
 | .leaf true=>1
 |t@(.node ..)=>L.idxOf t+2
theorem pl_append{L M:List T}{t:T}(h:In L t):pl (L++M) t=pl L t:=by
 cases t with
 |leaf b=>cases b<;>rfl
 |node i l r=>
  simp only [pl];rw [List.idxOf_append,if_pos (show node i l r∈L from h)]
theorem wt{L:List T}{t:T}(h:In L t):pl L t<L.length+2:=by
 cases t with
 |leaf b=>cases b<;>simp only [pl]<;>omega
 |node i l r=>
  simp only [pl]
  have:=List.idxOf_lt_length_of_mem (show node i l r∈L from h)
  omega
theorem Zs{L:List T}{i:Nat}{l h:T}(b:node i l h∈L):L[pl L (node i l h) - 2]? =some (node i l h):=by
 simp only [pl,Nat.add_sub_cancel];have a:=List.idxOf_lt_length_of_mem b;rw [qi a,List.getElem_idxOf a]
theorem kF{L:List T}(i:Nat)(l h:T):2<=pl L (node i l h):=by simp only [pl];omega
theorem Zr{L:List T}{t u:T}(c:In L t)(e:In L u)(h:pl L t=pl L u):t=u:=by
 cases t with
 |leaf a=>
  cases u with
  |leaf b=>cases a<;>cases b<;>simp [pl]at h<;>rfl
  |node i l r=>have:=kF (L:=L) i l r;cases a<;>simp only [pl]at h this<;>omega
 |node i l r=>
  cases u with
  |leaf b=>have:=kF (L:=L) i l r;cases b<;>simp only [pl]at h this<;>omega
  |node j f d=>
   have a:=Zs (L:=L) (i:=i) (l:=l) (h:=r) c;have b:=Zs (L:=L) (i:=j) (l:=f) (h:=d) e;rw [h,b]at a;exact(zm a).symm
theorem Good.all{L:List T}(g:Good L): ∀t∈L,isNode t/\t.Ok:=by
 induction g with
 |nil=>intro t a;cases a
 |snoc g f b e d c=>
  intro t a;rcases qK.1 a with h|h
  .exact c t h
  .simp at h;subst h;exact⟨trivial,e⟩
theorem Good.nodup{L:List T}(g:Good L):L.Nodup:=by
 induction g with
 |nil=>exact List.nodup_nil
 |snoc g j h k c i=>
  rw [List.nodup_append];refine⟨i,by simp,fun a f b d=> ?_⟩;simp at d;subst d;intro e;subst e;exact c f
theorem Good.pre{L:List T}(g:Good L): ∀(k:Nat)(i:Nat)(l h:T),L[k]? =some (node i l h)->In (L.take k) l/\In (L.take k) h/\(node i l h).Ok:=by
 induction g with
 |nil=>intro k i l h a;simp at a
 | @snoc L j p q g m c f n e=>
  intro k i l h a;rcases Nat.lt_or_ge k L.length with b|o
  .rw [zc b]at a
   rw [List.take_append_of_le_length (Y4 b)];exact e k i l h a
  .have d:k=L.length:=by
    have:=(qm.1 a).1
    simp at this;omega
   subst d;simp at a;obtain⟨rfl,rfl,rfl⟩:=a;simp only [List.take_left'];exact⟨m,c,f⟩
theorem Good.kids{L:List T}(g:Good L){i:Nat}{l h:T}(b:node i l h∈L):In L l/\In L h:=by
 have⟨k,a⟩:=qZ b
 have:=g.pre k i l h a
 have e:L=L.take k++L.drop k:=(zO k L).symm;rw [e];exact⟨this.1.mono _,this.2.1.mono _⟩
theorem Good.idx{L:List T}(g:Good L){k:Nat}{t:T}(e:L[k]? =some t):pl L t=k+2:=by
 have⟨a,b⟩:=qm.1 e;have c:t∈L:=by rw [<-b];exact List.getElem_mem _
 have d:=(g.all t c).1
 cases t with
 |leaf=>exact d.elim
 |node i l h=>
  simp only [pl]
  have:=g.nodup.idxOf_getElem k a
  rw [b]at this;omega
theorem Good.down{L:List T}(g:Good L){i:Nat}{l h:T}(m:node i l h∈L):pl L l<pl L (node i l h)/\pl L h<pl L (node i l h):=by
 have⟨k,c⟩:=qZ m;have p:=g.pre k i l h c;have d:k<L.length:=(qm.1 c).1;have e:L=L.take k++L.drop k:=(zO k L).symm;have f:pl L l=pl (L.take k) l:=by
  have:=pl_append (M:=L.drop k) p.1
  rw [<-e]at this;exact this
 have j:pl L h=pl (L.take k) h:=by
  have:=pl_append (M:=L.drop k) p.2.1
  rw [<-e]at this;exact this
 rw [g.idx c,f,j];have a:=wt p.1;have b:=wt p.2.1;simp only [zd]at a b;omega
def go:T->List T->List T
 | .leaf _,acc=>acc
 | .node i l h,acc=>if node i l h∈acc then acc else go h (go l acc)++[node i l h]
theorem vM: ∀(t:T)(a:List T),∃M,go t a=a++M/\ ∀s∈M,s.size<=t.size
 | .leaf _,a=>⟨[],by simp [go]⟩
 | .node i l h,a=>by
  simp only [go];split
  .exact⟨[],by simp⟩
  .have⟨M,d,f⟩:=vM l a
   have⟨N,c,e⟩:=vM h (go l a);refine⟨M++N++[node i l h],by rw [c,d];simp,fun s b=> ?_⟩;simp only [qK,List.mem_singleton]at b;simp only [size];rcases b with(b|b)|rfl
   .have:=f s b;omega
   .have:=e s b;omega
   .exact qt _
theorem VM: ∀(t:T)(a:List T),In (go t a) t
 | .leaf _,_=>trivial
 | .node i l h,a=>by
  show node i l h∈go (node i l h) a;simp only [go];split
  .assumption
  .simp
theorem q1K{t s:T}{a:List T}(h:In a s):In (go t a) s:=by
 have⟨M,e,_⟩:=vM t a;rw [e];exact h.mono _
theorem q4Q(i:Nat)(l h:T)(a:List T)(e:node i l h∉a):node i l h∉go h (go l a):=by
 have⟨M,d,g⟩:=vM l a;have⟨N,c,f⟩:=vM h (go l a);rw [c,d];simp only [qK];rintro((b|b)|b)
 .exact e b
 .have:=g _ b;simp only [size]at this;omega
 .have:=f _ b;simp only [size]at this;omega
theorem ZG: ∀(t:T)(a:List T),t.Ok->Good a->Good (go t a)
 | .leaf _,_,_,g=>g
 | .node i l h,a,b,g=>by
  simp only [go];split
  .exact g
  .rename_i c
   exact .snoc (ZG h _ b.2.2.2.2.2 (ZG l _ b.2.2.2.2.1 g)) (q1K (VM l a)) (VM h _) b (q4Q i l h a c)
theorem q7q{t s:T}{a:List T}(h:In a s):pl (go t a) s=pl a s:=by
 have⟨M,e,_⟩:=vM t a;rw [e];exact pl_append h
theorem We: ∀(t:T)(f:List T),t.Ok->(go t f).length+1<=f.length+2^ (24 - t.lv)
 | .leaf _,f,_=>by simp [go,lv]
 | .node i l h,f,g=>by
  have j:0<2^ (24 - (node i l h).lv):=q2P _;simp only [go];split
  .omega
  .have a:=We l f g.2.2.2.2.1
   have b:=We h (go l f) g.2.2.2.2.2;have c:2^ (24 - l.lv)<=2^ (23 - i):=zr (by omega) (by have:=g.2.1;omega);have d:2^ (24 - h.lv)<=2^ (23 - i):=zr (by omega) (by have:=g.2.2.1;omega);have e:2^ (24 - (node i l h).lv)=2*2^ (23 - i):=by
    simp only [lv];rw [show 24 - i=(23 - i)+1 from by have:=g.1;omega,jn];omega
   simp only [List.length_append,List.length_singleton];omega
def nodes(t:T):List T:=go t []
theorem yX{t:T}(a:t.Ok):Good (nodes t):=ZG t [] a .nil
theorem xr(t:T):In (nodes t) t:=VM t []
theorem kH{t:T}(c:t.Ok):(nodes t).length<16777216:=by
 have a:=We t [] c;have b:2^ (24 - t.lv)<=2^24:=zr (by omega) (by omega);have e:(2:Nat)^24=16777216:=by decide
 rw [e]at b;simp only [List.length_nil]at a;unfold nodes;omega
structure Tri where
 v:Nat
 lo:Nat
 hi:Nat
 deriving DecidableEq,Inhabited
def en(L:List T):T->Tri
 | .leaf _=>⟨24,0,0⟩
 | .node i l h=>⟨i,pl L l,pl L h⟩
def enc(L:List T):List Tri:=L.map (en L)
theorem Wi{L:List T}{i:Nat}{l h:T}(g:Good L)(b:In L l)(c:In L h):enc (L++[node i l h])=enc L++[⟨i,pl L l,pl L h⟩]:=by
 unfold enc;rw [List.map_append];congr 1
 .refine List.map_congr_left fun t a=> ?_
  cases t with
  |leaf=>rfl
  |node j e d=>
   have k:=g.kids a;simp only [en];rw [pl_append k.1,pl_append k.2]
 .simp only [yL,jE,en]
  rw [pl_append b,pl_append c]
theorem q4S{L:List T}(g:Good L){s:T}{i:Nat}{l h:T}(a:s∈L)(d:In L l)(c:In L h)(e:en L s=en L (node i l h)):s=node i l h:=by
 cases s with
 |leaf=>exact(g.all _ a).1.elim
 |node j n m=>
  have k:=g.kids a;simp only [en,Tri.mk.injEq]at e;obtain⟨rfl,b,f⟩:=e;rw [Zr k.1 d b,Zr k.2 c f]
theorem ZN{L M:List T}(g:Good L){s:T}(a:s∈L):en (L++M) s=en L s:=by
 cases s with
 |leaf=>rfl
 |node j l h=>
  have k:=g.kids a;simp only [en];rw [pl_append k.1,pl_append k.2]
def add(L:List T)(i:Nat)(l h:T):List T:=if l=h\/node i l h∈L then L else L++[node i l h]
theorem add_prefix(L:List T)(i:Nat)(l h:T): ∃M,add L i l h=L++M:=by
 unfold add;split
 .exact⟨[],by simp⟩
 .exact⟨_,rfl⟩
theorem add_len(L:List T)(i:Nat)(l h:T):(add L i l h).length<=L.length+1:=by
 unfold add;split
 .omega
 .simp
theorem add_good{L:List T}(g:Good L){i:Nat}{l h:T}(n:In L l)(j:In L h)(d:i<24)(c:i<l.lv)(m:i<h.lv)(f:l.Ok)(b:h.Ok):Good (add L i l h):=by
 unfold add;split
 .exact g
 .rename_i a
  exact .snoc g n j ⟨d,c,m,fun e=>a (vu e),f,b⟩ (fun k=>a (vv k))
theorem add_in{L:List T}{i:Nat}{l h:T}(b:In L l):In (add L i l h) (mk i l h):=by
 unfold add mk;by_cases e:l=h
 .rw [if_pos e,if_pos (vu e)]
  exact b
 .rw [if_neg e]
  by_cases a:node i l h∈L
  .rw [if_pos (vv a)]
   exact a
  .rw [if_neg (by simp [e,a])]
   show node i l h∈L++[node i l h];simp
theorem Qi{L:List T}{i:Nat}{l h:T}(a:node i l h∉L):pl (L++[node i l h]) (node i l h)=L.length+2:=by
 simp [pl,List.idxOf_append,a]
theorem Wd{L:List T}(g:Good L): ∀(t:T)(c:List T),In L t->(∀s∈c,s∈L)-> ∀s∈go t c,s∈L
 | .leaf _,_,_,e=>e
 | .node i l h,c,f,e=>by
  simp only [go];split
  .exact e
  .have k:=g.kids (show node i l h∈L from f)
   have a:=Wd g l c k.1 e;have b:=Wd g h (go l c) k.2 a;intro s d;rcases qK.1 d with d|d
   .exact b s d
   .simp at d
    subst d;exact f
def room(t:T):Nat:=2^ (24 - t.lv)
theorem q3l(t:T):0<room t:=q2P _
theorem q0K{i:Nat}{l h:T}(a:(node i l h).Ok):room l+room h<=room (node i l h):=by
 have c:room l<=2^ (23 - i):=zr (by omega) (by have:=a.2.1;omega);have d:room h<=2^ (23 - i):=zr (by omega) (by have:=a.2.2.1;omega);have e:room (node i l h)=2*2^ (23 - i):=by
  simp only [room,lv];rw [show 24 - i=(23 - i)+1 from by have:=a.1;omega,jn];omega
 omega
theorem room_le(t:T):room t<=16777216:=by
 have e:(2:Nat)^24=16777216:=by decide
 rw [<-e];exact zr (by omega) (by omega)
theorem q1J(t:T)(a:List T)(b:t.Ok):(go t a).length+1<=a.length+room t:=We t a b
def lo:T->T
 | .leaf b=> .leaf b
 | .node _ l _=>l
def hi:T->T
 | .leaf b=> .leaf b
 | .node _ _ h=>h
def cof0(i:Nat)(t:T):T:=if t.lv=i then t.lo else t
def cof1(i:Nat)(t:T):T:=if t.lv=i then t.hi else t
theorem Ki{t:T}(a:t.Ok){i:Nat}(f:i<24)(d:i<=t.lv):
 (cof0 i t).Ok/\(cof1 i t).Ok/\i<(cof0 i t).lv/\i<(cof1 i t).lv/\ ∀c,t.ev c=if c i then(cof1 i t).ev c else(cof0 i t).ev c:=by
 unfold cof0 cof1;by_cases e:t.lv=i
 .rw [if_pos e,if_pos e]
  cases t with
  |leaf b=>simp only [lv]at e;omega
  |node j l h=>
   simp only [lv]at e;subst e;exact⟨a.2.2.2.2.1,a.2.2.2.2.2,a.2.1,a.2.2.1,fun c=>rfl⟩
 .rw [if_neg e,if_neg e]
  exact⟨a,a,by omega,by omega,fun c=>by split<;>rfl⟩
theorem q4U{L:List T}(g:Good L){t:T}(h:In L t)(i:Nat):In L (cof0 i t)/\In L (cof1 i t):=by
 unfold cof0 cof1;by_cases e:t.lv=i
 .rw [if_pos e,if_pos e]
  cases t with
  |leaf b=>exact⟨trivial,trivial⟩
  |node j l r=>exact g.kids h
 .rw [if_neg e,if_neg e]
  exact⟨h,h⟩
theorem uW{t:T}(a:t.Ok)(h:24<=t.lv): ∃b,t=leaf b:=by
 cases t with
 |leaf b=>exact⟨b,rfl⟩
 |node i l r=>have:=a.1;simp only [lv]at h;omega
end T
end Go.Proofs.Bdd
namespace Go.Proofs.Gen
open Go Go.RowKit
open Go.ChangeMaps Go.MapKept
open Go.WideElems (Fit rd rg pl rd_val rd_key rg_of elemAt)
open Go.Maps (Keyed)
open Go.WideShapes (sorted_perm)
structure Kept(S:Nat->Prop)(w w':World):Prop where
 os:w'.os=w.os
 tape:w'.tape=w.tape
 output:w'.output=w.output
 size:w.heap.size<=w'.heap.size
 block: ∀k,k<w.heap.size-> ¬S k->w'.heap[k]? =w.heap[k]?
theorem Kept.refl(S:Nat->Prop)(w:World):Kept S w w:=⟨rfl,rfl,rfl,qt _,fun _ _ _=>rfl⟩
theorem Kept.trans{S:Nat->Prop}{a b c:World}(h:Kept S a b)(k:Kept S b c):Kept S a c:=
 ⟨k.os.trans h.os,k.tape.trans h.tape,k.output.trans h.output,qH h.size k.size,fun i d f=>(k.block i (qu d h.size) f).trans (h.block i d f)⟩
theorem Kept.mono{S T:Nat->Prop}{w w':World}(h:Kept S w w')(c: ∀k,k<w.heap.size->S k->T k):Kept T w w':=
 ⟨h.os,h.tape,h.output,h.size,fun k a d=>h.block k a (fun s=>d (c k a s))⟩
theorem Kept.drew{S:Nat->Prop}{a w:World}(h:Kept S a w):Kept S a w.drew:=⟨h.os,h.tape,h.output,h.size,h.block⟩
theorem Kept.drewN{S:Nat->Prop}{a w:World}(h:Kept S a w)(n:Nat):Kept S a (w.drewN n):=⟨h.os,h.tape,h.output,h.size,h.block⟩
theorem Kept.alloc{S:Nat->Prop}{a w:World}(h:Kept S a w)(o:Obj):Kept S a (w.alloc o):=
 ⟨h.os,h.tape,h.output,qH h.size (by simp),fun k c d=>(zi w o k (qu c h.size)).trans (h.block k c d)⟩
theorem Kept.setCell{S:Nat->Prop}{a w:World}(h:Kept S a w){p:Addr}(f:p.block<a.heap.size->S p.block)(u:Value):Kept S a (w.setCell p u):=
 ⟨h.os,h.tape,h.output,by simpa [World.setCell]using h.size,fun k d c=>(zg w p u k (fun e=>c (e▸f (e▸d)))).trans (h.block k d c)⟩
theorem Kept.grown{S:Nat->Prop}{a w w':World}{row:Option Nat}(h:Kept S a w)(c:w.grownBy w' row)(g: ∀k,row=some k->k<a.heap.size->S k):Kept S a w':=
 ⟨c.os.trans h.os,c.tape.trans h.tape,c.output.trans h.output,qH h.size c.size,
   fun k d f=>(c.block k (qu d h.size) (fun e=>f (g k e.symm d))).trans (h.block k d f)⟩
theorem Kept.below{n:Nat}{w w':World}(h:Kept (fun k=>n<=k) w w')(c:n<=w.heap.size):Below n w w':=
 ⟨h.os,h.tape,h.output,h.size,fun k a=>h.block k (by omega) (by omega)⟩
theorem Kept.of_below{n:Nat}{w w':World}(h:Below n w w'):Kept (fun k=>n<=k) w w':=
 ⟨h.os,h.tape,h.output,h.size,fun k _ a=>h.block k (by omega)⟩
theorem Kept.cell{S:Nat->Prop}{w w':World}(h:Kept S w w'){b o:Nat}{v:Value}(a:w.cell? (vw b o)=some v)(c: ¬S b):w'.cell? (vw b o)=some v:=
 (yr (h.block b (qM w ⟨b,o,none⟩ a) c)).trans a
theorem gU(w:World)(o:Obj)(k:Nat):(w.alloc o).heap[k]? =if k=w.heap.size then some o else w.heap[k]? :=by
 show(w.heap.push o)[k]? =_;rw [Array.getElem?_push]
theorem heap_new_at{w:World}{o:Obj}{k:Nat}(h:k=w.heap.size):(w.alloc o).heap[k]? =some o:=by rw [gU,if_pos h]
theorem qD{w:World}{o:Obj}{k:Nat}(h:k<w.heap.size):(w.alloc o).heap[k]? =w.heap[k]? :=by rw [gU,if_neg (by omega)]
theorem kR(w:World)(k:Nat):w.drew.heap[k]? =w.heap[k]? :=rfl
theorem kB{w:World}{b o:Nat}{v:Value}(h:w.cell? (vw b o)=some v)(x:Obj):(w.alloc x).cell? (vw b o)=some v:=
 (yr (w:=w) (zi w x b (qM w ⟨b,o,none⟩ h))).trans h
theorem jV{w w':World}{o:Obj}{row:Option Nat}(d:(w.alloc o).grownBy w' row){k:Nat}{x:Obj}(h:w.heap[k]? =some x)(c:row≠some k):w'.heap[k]? =some x:=by
 have a:k<w.heap.size:=(qk.1 h).1;rw [d.block k (by simp;omega) (Ne.symm c),zi w o k a,h]
theorem cell1{w:World}{b:Nat}{cs:Array Value}{t:TypeId}{o:Nat}{v:Value}(h:w.heap[b]? =some (vk cs t (0,0)))(a:cs[o]? =some v):w.cell? (vw b o)=some v:=by simp [zV,h,a]
theorem zQ{w:World}{b:Nat}{cs:Array Value}{t:TypeId}(h:w.heap[b]? =some (vk cs t (0,0)))(o:Nat):w.frozen? (vw b o)=false:=by simp [jx,h]
theorem qz{w:World}{b:Nat}{cs:Array Value}{t:TypeId}{c:Nat×Nat}(h:w.heap[b]? =some (vk cs t c))(o:Nat)(u:Value):
 (w.setCell (vw b o) u).heap[b]? =some (vk (cs.setIfInBounds o u) t c):=by
 have a:b<w.heap.size:=(qk.1 h).1;have d:w.heap[b]=vk cs t c:=by simpa [Un a]using h
 show(w.heap.modify b _)[b]? =_;rw [Un (by simpa using a),Array.getElem_modify_self,d];rfl
theorem zF{w:World}{base e a n t b:Nat}{v:Value}{f:List Value}{cs:Array Value}{m:Nat×Nat}(h:w.ownsRow base e a v n f)(j:w.heap[b]? =some (vk cs t m))(c:e≠t)(o:Nat)(u:Value):
 (w.setCell (vw b o) u).ownsRow base e a v n f:=by
 refine ownsRow_setCell_other h ?_ u;rcases h.2 with⟨rfl,_⟩|⟨g,i,l,rfl,_,d,_⟩
 .simp [zN]
 .simp only [zN,ne_eq,zo]
  rintro rfl;rw [j]at d
  cases d;exact c rfl
theorem vV{w:World}{base e a n t b:Nat}{v:Value}{l:List Value}{cs:Array Value}{m:Nat×Nat}(h:w.ownsRow base e a v n l)(i:w.heap[b]? =some (vk cs t m))(c:e≠t):v.ownBlock≠some b:=by
 rcases h.2 with⟨rfl,_⟩|⟨g,f,j,rfl,_,d,_⟩
 .simp [zN]
 .simp only [zN,ne_eq,zo]
  rintro rfl;rw [i]at d
  cases d;exact c rfl
theorem jY{w:World}{base e c n b:Nat}{v:Value}{l:List Value}{m:Array MapEntry}{a:Nat}(h:w.ownsRow base e c v n l)(i:w.heap[b]? =some (.map m a)):v.ownBlock≠some b:=by
 rcases h.2 with⟨rfl,_⟩|⟨g,f,j,rfl,_,d,_⟩
 .simp [zN]
 .simp only [zN,ne_eq,zo]
  rintro rfl;rw [i]at d
  cases d
def mapIs(w:World)(P:Program)(k e:TypeId)(b n:Nat)(M:Value->Int->Prop):Prop:=
 ∃es clock,w.heap[b]? =some (.map es clock)/\Fit P k (plainElem (H:=Unit) P e) es clock/\es.size<=n/\ ∀x v,M x v↔ ∃y∈es.toList,y.key=x/\y.val= .int .i64 v
section
variable {P:Program}{k e t:TypeId}{w:World}{b n:Nat}{M:Value->Int->Prop}
theorem mapIs.lt(h:mapIs w P k e b n M):b<w.heap.size:=by
 have⟨d,a,c,_⟩:=h;exact(qk.1 c).1
theorem mapIs.of_block{w':World}(h:mapIs w P k e b n M)(f:w'.heap[b]? =w.heap[b]?):mapIs w' P k e b n M:=by
 have⟨d,a,c,r⟩:=h;exact⟨d,a,f.trans c,r⟩
theorem mapIs.kept{S:Nat->Prop}{w':World}(h:mapIs w P k e b n M)(a:Kept S w w')(c: ¬S b):mapIs w' P k e b n M:=h.of_block (a.block b h.lt c)
theorem mapIs.congr{c:Value->Int->Prop}(h:mapIs w P k e b n M)(g: ∀x v,c x v↔M x v):mapIs w P k e b n c:=by
 have⟨d,a,f,F,j,i⟩:=h;exact⟨d,a,f,F,j,fun x v=>(g x v).trans (i x v)⟩
theorem mapIs.drewN(h:mapIs w P k e b n M)(m:Nat):mapIs (w.drewN m) P k e b n M:=h
theorem mapIs.made(w:World):mapIs (w.alloc (.map #[] 0)) P k e w.heap.size 0 (fun _ _=>False):=
 ⟨#[],0,(MapKept.heap_alloc w _).1,⟨by simp,stamped_empty 0,by simp⟩,qt _,by simp⟩
theorem mapIs.empty(h:w.heap[b]? =some (.map #[] 0)):mapIs w P k e b 0 (fun _ _=>False):=
 ⟨#[],0,h,⟨by simp,stamped_empty 0,by simp⟩,qt _,by simp⟩
theorem mapIs.made_at{w:World}{b:Nat}(a:b=w.heap.size):mapIs (w.alloc (.map #[] 0)) P k e b 0 (fun _ _=>False):=by
 subst a;exact mapIs.made w
theorem mapIs.fun(h:mapIs w P k e b n M){x:Value}{u v:Int}(I:M x u)(G:M x v):u=v:=by
 have⟨C,a,J,F,_,B⟩:=h;have⟨y,E,l,r⟩:=(B x u).1 I;have⟨z,H,o,p⟩:=(B x v).1 G;have D:C.toList.Pairwise (fun x y=>x.key≠y.key):=((stamped_iff C a).1 F.stamped).2.2;have⟨i,A⟩:=qZ E;have⟨j,q⟩:=qZ H;have s:i=j:=by
  have⟨d,f⟩:=qm.1 A;have⟨g,m⟩:=qm.1 q;rcases Ul i j with c|c|c
  .exact absurd (by rw [f,m,l,o]) (wi.1 D i j d g c)
  .exact c
  .exact absurd (by rw [f,m,l,o]) (wi.1 D j i g d c)
 subst s;rw [A]at q
 cases q;rw [r]at p
 cases p;rfl
theorem mapIs.hit(h:mapIs w P k e b n M)(K:Keyed P k)(ht:P.underlying t=some (.map k e))(he:P.underlying e=some (.int .i64))(hz:(zeroValue e).run P w= .ok (.int .i64 0) w)
 {key:Value}{kl:Lit}(hkey:keyOf P k key=some kl){v:Int}(hv:M key v):
 (yu t (.map (some b)) key true).run P w= .ok (.tuple #[.int .i64 v,.bool true]) w:=by
 have hfun:=fun u (hu:M key u)=>h.fun hu hv;obtain⟨es,clock,hb,F,_,hM⟩:=h;rcases Maps.fit_look true K ht hz hb F hkey with⟨_,hne,_⟩|⟨e0,y,hm,hek,hrun,hRv,_⟩
 .obtain⟨y,hy,hyk,_⟩:=(hM key v).1 hv
  exact absurd hyk (hne y hy)
 .obtain⟨a,ha,_,_⟩:=plainElem_int_inv he hRv
  have:=hfun a ((hM key a).2 ⟨e0,hm,hek,ha⟩)
  subst this;rw [ha]at hrun;exact hrun
theorem mapIs.miss(h:mapIs w P k e b n M)(K:Keyed P k)(ht:P.underlying t=some (.map k e))(he:P.underlying e=some (.int .i64))(hz:(zeroValue e).run P w= .ok (.int .i64 0) w)
 {key:Value}{kl:Lit}(hkey:keyOf P k key=some kl)(hv: ∀v,¬M key v):
 (yu t (.map (some b)) key true).run P w= .ok (.tuple #[.int .i64 0,.bool false]) w:=by
 obtain⟨es,clock,hb,F,_,hM⟩:=h;rcases Maps.fit_look true K ht hz hb F hkey with⟨hrun,_,_⟩|⟨e0,y,hm,hek,_,hRv,_⟩
 .exact hrun
 .obtain⟨a,ha,_,_⟩:=plainElem_int_inv he hRv
  exact absurd ((hM key a).2 ⟨e0,hm,hek,ha⟩) (hv a)
def put(M:Value->Int->Prop)(key:Value)(v:Int):Value->Int->Prop:=fun x u=>(x=key/\u=v)\/(x≠key/\M x u)
theorem mapIs.store(h:mapIs w P k e b n M)(K:Keyed P k)(ht:P.underlying t=some (.map k e))(he:P.underlying e=some (.int .i64))(hn:n<maxLen)
 {key:Value}{kl:Lit}(hkey:keyOf P k key=some kl){v:Int}(hw:(xI .i64 v).wf=true):
 ∃es clock,(zA t (.map (some b)) key (.int .i64 v)).run P w= .ok () (setBlock w b (.map es clock))/\mapIs (setBlock w b (.map es clock)) P k e b (n+1) (put M key v):=by
 obtain⟨es,clock,hb,F,hs,hM⟩:=h;obtain⟨es',clock',hrun,F',hput,_,_,hlast⟩:=Maps.fit_store (R':=plainElem (H:=Unit) P e) K ht hb F (zR hs hn) (fun _ _ _ _ hz=>hz) hkey (plainElem_int he hw);refine⟨es',clock',hrun,es',clock',heap_setBlock_same hb _,F',?_,?_⟩
 .have e1:es'.size=((es'.toList.map (rg P k (plainElem (H:=Unit) P e))).foldr DataW.insert []).length:=by rw [length_sorted];simp
  rw [e1,hput];unfold putKey;rw [length_insert];have e2:=xk (notKey kl) ((es.toList.map (rg P k (plainElem (H:=Unit) P e))).foldr DataW.insert []);rw [length_sorted]at e2;simp at e2;omega
 .
   have mem: ∀p,p∈es'.toList.map (rg P k (plainElem (H:=Unit) P e))↔p=(kl,.lit (.int .i64 v))\/(p∈es.toList.map (rg P k (plainElem (H:=Unit) P e))/\notKey kl p=true):=by
    intro p;rw [<-(sorted_perm (es'.toList.map (rg P k (plainElem (H:=Unit) P e)))).mem_iff,hput];unfold putKey;rw [mem_insert_iff,yy,(sorted_perm _).mem_iff]
   have rd1: ∀es0 clock0,Fit P k (plainElem (H:=Unit) P e) es0 clock0-> ∀y∈es0.toList,∃l a,keyOf P k y.key=some l/\y.val= .int .i64 a/\rg P k (plainElem (H:=Unit) P e) y=(l,.lit (.int .i64 a)):=by
    intro es0 clock0 F0 y hy;obtain⟨z,hz⟩:=F0.reads y hy;obtain⟨u,hu,hzu⟩:=rd_val hz;obtain⟨a,ha,hua,_⟩:=plainElem_int_inv he hu;refine⟨z.1,a,rd_key hz,ha,?_⟩;rw [rg_of hz];obtain⟨z1,z2⟩:=z;simp only at hzu;rw [hzu,hua]
   intro x u;constructor
   .rintro(⟨rfl,rfl⟩|⟨hne,hMx⟩)
    .have:=(mem (kl,.lit (.int .i64 u))).2 (.inl rfl)
     obtain⟨y,hy,hye⟩:=yH.1 this;obtain⟨l,a,hl,ha,hr⟩:=rd1 es' clock' F' y hy;rw [hr]at hye;simp only [Prod.mk.injEq,DataW.lit.injEq,xI.injEq,true_and]at hye;obtain⟨rfl,rfl⟩:=hye;exact⟨y,hy,K.inj hl hkey,ha⟩
    .obtain⟨y,hy,rfl,hyv⟩:=(hM x u).1 hMx
     obtain⟨l,a,hl,ha,hr⟩:=rd1 es clock F y hy;rw [ha]at hyv
     cases hyv;have hnk:notKey kl (rg P k (plainElem (H:=Unit) P e) y)=true:=by
      refine(Maps.notKey_iff (K.key hkey)).2 fun ee=>hne ?_;rw [hr]at ee;simp only at ee;subst ee;exact K.inj hl hkey
     obtain⟨y',hy',hye⟩:=yH.1 ((mem _).2 (.inr ⟨up hy,hnk⟩));obtain⟨l',a',hl',ha',hr'⟩:=rd1 es' clock' F' y' hy';rw [hr,hr']at hye;simp only [Prod.mk.injEq,DataW.lit.injEq,xI.injEq,true_and]at hye;obtain⟨rfl,rfl⟩:=hye;exact⟨y',hy',K.inj hl' hl,ha'⟩
   .rintro⟨y,hy,rfl,hyv⟩
    rcases hlast y hy with⟨hm,hne⟩|⟨hk,hv⟩
    .exact .inr ⟨hne,(hM _ _).2 ⟨y,hm,rfl,hyv⟩⟩
    .rw [hv]at hyv
     cases hyv;exact .inl ⟨hk,rfl⟩
structure Turned(b:Nat)(w w':World):Prop where
 os:w'.os=w.os
 tape:w'.tape=w.tape
 output:w'.output=w.output
 size:w'.heap.size=w.heap.size
 block: ∀k,k≠b->w'.heap[k]? =w.heap[k]?
theorem Turned.trans{a b c:World}{n:Nat}(h:Turned n a b)(k:Turned n b c):Turned n a c:=
 ⟨k.os.trans h.os,k.tape.trans h.tape,k.output.trans h.output,k.size.trans h.size,fun i d=>(k.block i d).trans (h.block i d)⟩
theorem Turned.kept{S:Nat->Prop}{a w w':World}{b:Nat}(h:Kept S a w)(c:Turned b w w')(g:b<a.heap.size->S b):Kept S a w':=
 ⟨c.os.trans h.os,c.tape.trans h.tape,c.output.trans h.output,by rw [c.size];exact h.size,fun k d f=>(c.block k (by rintro rfl;exact f (g d))).trans (h.block k d f)⟩
theorem setBlock_heap(w:World){b j:Nat}(h:j≠b)(o:Obj):(setBlock w b o).heap[j]? =w.heap[j]? :=by
 have a:b≠j:=Ne.symm h;simp [setBlock,a]
theorem gO{w:World}{base e a n b:Nat}{v:Value}{d:List Value}(h:w.ownsRow base e a v n d)(f:v.ownBlock≠some b)(o:Obj):(setBlock w b o).ownsRow base e a v n d:=
 h.kept (row:=some b) ⟨rfl,rfl,rfl,by simp [setBlock],fun k _ c=>setBlock_heap w (fun e=>c (by rw [e])) o⟩ (vv f)
theorem uz(w:World)(b:Nat)(o:Obj):Turned b w (setBlock w b o):=⟨rfl,rfl,rfl,by simp [setBlock],fun _ h=>setBlock_heap w h o⟩
theorem jj{S:Nat->Prop}{a w:World}(h:Kept S a w){b:Nat}(g:b<a.heap.size->S b)(o:Obj):Kept S a (setBlock w b o):=
 ⟨h.os,h.tape,h.output,by simpa [setBlock]using h.size,fun k d f=>by
   have c:b≠k:=by rintro rfl;exact f (g d)
   rw [<-h.block k d f];simp [setBlock,c]⟩
end
end Go.Proofs.Gen
namespace Go.Proofs.YtjcbmcnbdegpmaaGreatDoor
open Go Go.RowKit Go.Proofs.Gen Go.Proofs.Bdd Go.Proofs.Bdd.T
open Go.Maps (Keyed)
variable{R S:Nat->Prop}{a b c:Int}{e:Nat}{w w':World}
theorem laidOut:laidOutB qj=true:=by kernel_rfl
theorem uT:qj.types.size=353+1:=by kernel_rfl
theorem q1y:qj.keyType 177=true:=by kernel_rfl
theorem Gp:qj.keyType 247=true:=by kernel_rfl
theorem q2l:qj.cellsOf 177=3:=by kernel_rfl
theorem cells3:qj.cellsOf 3=1:=by kernel_rfl
theorem Wp:qj.cellsOf 247=2:=by kernel_rfl
def triV(x:Tri):Value:= .agg #[.int .i64 x.v,.int .i64 x.lo,.int .i64 x.hi]
def q56(x:Tri):List Value:=[.int .i64 x.v,.int .i64 x.lo,.int .i64 x.hi]
def cellsOf(l:List Tri):List Value:=l.flatMap q56
theorem q6c:Keyed qj 177:=Keyed.of_law (deep_law_laid laidOut (m:=9) (by decide) (by rw [uT];decide) (by kernel_rfl) (by kernel_rfl))
theorem QH:Keyed qj 247:=Keyed.of_law (deep_law_laid laidOut (m:=9) (by decide) (by rw [uT];decide) (by kernel_rfl) (by kernel_rfl))
theorem law3:Keyed qj 3:=Maps.int_keyed qP
theorem zero3(w:World):(zeroValue 3).run qj w= .ok (ve vp 0) w:=by kernel_rfl
theorem q1u(m:Nat)(ha:(xI .i64 a).wf=true):qj.keyLits (m+1) 3 [.int .i64 a]=some [.int .i64 a]:=by
 unfold Program.keyLits;simp only [qP];simp [ha]
theorem q7h(m:Nat)(ha:(xI .i64 a).wf=true)(hb:(xI .i64 b).wf=true)(hc:(xI .i64 c).wf=true):
 qj.keyLits (m+2) 177 [.int .i64 a,.int .i64 b,.int .i64 c]=some [.int .i64 a,.int .i64 b,.int .i64 c]:=by
 unfold Program.keyLits;simp only [Tryz.underlying177];rw [if_pos ⟨by rw [q2l];rfl,by kernel_rfl⟩];simp [cells3,q1u m ha,q1u m hb,q1u m hc]
theorem q63(m:Nat)(ha:(xI .i64 a).wf=true)(hb:(xI .i64 b).wf=true):
 qj.keyLits (m+2) 247 [.int .i64 a,.int .i64 b]=some [.int .i64 a,.int .i64 b]:=by
 unfold Program.keyLits;simp only [Tryz.underlying247];rw [if_pos (by rw [Wp];rfl),show List.range 2=[0,1]from rfl];simp [cells3,q1u m ha,q1u m hb]
theorem q7Q(f:(xI vp a).wf=true)(g:(xI vp b).wf=true)(i:(xI vp c).wf=true):
 ∃d,keyOf qj 177 (vi #[ve vp a,ve vp b,ve vp c])=some d:=by
 have h:=q7h 353 f g i;have e:qj.types.size+1=353+2:=by rw [uT]
 unfold keyOf;simp only [Tryz.underlying177];rw [if_pos (by simp [q1y,Value.formed,Tryz.underlying177,q2l]),e];exact⟨_,by rw [show(uP #[ve vp a,ve vp b,ve vp c]).cells.toList=[ve vp a,ve vp b,ve vp c]from rfl,h];rfl⟩
theorem q4O(d:(xI vp a).wf=true)(f:(xI vp b).wf=true):
 ∃c,keyOf qj 247 (vi #[ve vp a,ve vp b])=some c:=by
 have h:=q63 353 d f;have e:qj.types.size+1=353+2:=by rw [uT]
 unfold keyOf;simp only [Tryz.underlying247];rw [if_pos (by simp [Gp,Value.formed,Tryz.underlying247,Wp]),e];exact⟨_,by rw [show(uP #[ve vp a,ve vp b]).cells.toList=[ve vp a,ve vp b]from rfl,h];rfl⟩
def known(L:List T)(x:Value)(u:Int):Prop:= ∃t∈L,x=triV (en L t)/\u=pl L t
def IsMaker(w:World)(mb:Nat)(S:Nat->Prop)(L:List T):Prop:=
 ∃sv kb n,w.heap[mb]? =some (.cells #[sv,.map (some kb)] 194 (0,0))/\w.ownsRow 0 177 3 sv L.length (cellsOf (enc L))/\
  mapIs w qj 177 3 kb n (known L)/\n<=L.length/\S mb/\S kb/\ ∀k,sv.ownBlock=some k->S k
theorem IsMaker.mono_lt{f:Nat}{L:List T}(h:IsMaker w f S L)(d: ∀k,k<w.heap.size->S k->R k):IsMaker w f R L:=by
 have⟨i,g,n,c,a,b,o,l,j,m⟩:=h;exact⟨i,g,n,c,a,b,o,d _ (qk.1 c).1 l,d _ b.lt j,fun k e=>d _ (a.lt k e).2 (m k e)⟩
def IsD(w:World)(v:Value)(t:T):Prop:=
 t.Ok/\ ∃sv,v= .agg #[sv,.int .i64 (pl (nodes t) t:Nat)]/\w.ownsRow 0 177 3 sv (nodes t).length (cellsOf (enc (nodes t)))
theorem IsD.below{v:Value}{t:T}(h:IsD w v t)(f:Below w.heap.size w w'):IsD w' v t:=by
 obtain⟨l,k,rfl,d,j⟩:=h;refine⟨l,k,rfl,d,?_⟩;rcases j with i|⟨g,a,b,rfl,e,c,r⟩
 .exact vu i
 .exact vv ⟨g,a,b,rfl,e,(f.block g (qk.1 c).1).trans c,r⟩
def q4i(w:World)(t:T)(e:Ending)(w':World):Prop:= ∃v,e= .returned v/\IsD w' v t/\Below w.heap.size w w'
theorem wf_nat{n:Nat}(h:n<9223372036854775808):(xI vp (n:Int)).wf=true:=xD (by omega)
theorem IsMaker.of_kept{L:List T}(h:IsMaker w e S L)(j:Kept R w w')(l: ∀k,k<w.heap.size->S k-> ¬R k):IsMaker w' e S L:=by
 have⟨v,m,n,c,a,b,x,q,p,t⟩:=h;have o:e<w.heap.size:=(qk.1 c).1;refine⟨v,m,n,(j.block e o (l e o q)).trans c,⟨a.1,?_⟩,b.kept j (l m b.lt p),x,q,p,t⟩;rcases a.2 with y|⟨g,f,i,rfl,u,s,r⟩
 .exact vu y
 .have d:g<w.heap.size:=(qk.1 s).1
  exact vv ⟨g,f,i,rfl,u,(j.block g d (l g d (t g rfl))).trans s,r⟩
theorem IsMaker.mono{L:List T}(h:IsMaker w e S L)(d: ∀k,S k->R k):IsMaker w e R L:=by
 have⟨i,f,n,c,a,b,o,l,j,m⟩:=h;exact⟨i,f,n,c,a,b,o,d _ l,d _ j,fun k g=>d _ (m k g)⟩
end Go.Proofs.YtjcbmcnbdegpmaaGreatDoor
namespace Go.Proofs.Gen
open Go Go.RowKit
open Go.ChangeMaps Go.MapKept
open Go.Maps (Keyed)
section
variable {P:Program}{w:World}
theorem qR{base c n:Nat}{e:TypeId}{v:Value}{d:List Value}(h:w.ownsRow base e c v n d): ∃f a,v=vd f n a:=by
 rcases h.2 with⟨rfl,rfl⟩|⟨g,a,i,rfl,_⟩
 .exact⟨none,0,rfl⟩
 .exact⟨some ⟨g,0,none⟩,a,rfl⟩
theorem jd{ops:Array Oper}{o:Oper}{a:Act}{K:Act->World->Prop}{Q:Exit->Act->World->Prop}{E:Prop}
 (hg:o.guard=none) (s x:Y2) (t:TypeId) (hop:o.op=Op.call {callee:=Callee.builtin Builtin.append,args:= #[s,x],argTypes:= #[t,t]})
 (base:Nat) (e:TypeId) (i:TypeInfo) (z:Value) (size bytes:Nat) (ht:P.underlying t=some (.slice e)) (hi:P.info? e=some i) (hz:i.zero=some z)
 (hsize:i.size=size) (hby:i.bytes=bytes) (hzs:z.cells.size=size) (hsz:0<size)
 (v:Value) (n:Nat) (xs:List Value) (hs:a.eval s=v) (hown:w.ownsRow base e size v n xs)
 (ad:Addr) (m c:Nat) (news:List Value) (hx:a.eval x= .slice (some ad) m c) (hl:news.length=m*size) (hnews: ∀j u,news[j]? =some u->w.cell? (ad.add j)=some u) (h1: ∀u∈news,u.oneCell'=true)
 (h63:n+m<=maxLen) (hbytes:(n+m)*bytes<=140737488355328) (hbase:base<=w.heap.size)
 (hK: ∀ao cap w',w'.ownsRow base e size (.slice ao (n+m) cap) (n+m) (xs++news)->w.grownBy w' v.ownBlock->((qw ao (n+m) cap).ownBlock=v.ownBlock\/(qw ao (n+m) cap).ownBlock=some w.heap.size)->K (a.put o.dst (.slice ao (n+m) cap)) w'):
 if yg o (yielded ops a.tmps)=true then xC P o a w K Q else E:=by
 have hw:yg o (yielded ops a.tmps)=true:=by simp [yg,hg]
 rw [if_pos hw];obtain⟨v',w',hr,h2,h3,_,h5⟩:=run_append_own_at (P:=P) w base t o.type e i z size bytes ht hi hz hsize hby hzs hsz v n xs hown ad m c news hl hnews h1 h63 hbytes hbase;obtain⟨ao,cap,rfl⟩:=qR h2;unfold xC execOp;simp only [hop,resolve,invoke,builtin,Sem.run_bind,Sem.run_pure,Result.andThen_ok,List.map_toArray,yL,jE,hs,hx,hr];exact hK ao cap w' h2 h3 h5
theorem xZ{ops:Array Oper}{rest:List Oper}{o:Oper}{a:Act}{Q:Exit->Act->World->Prop}(hgd:o.guard=none)(s x:Y2)(t:TypeId)
 (ho:o.op= .call {callee:= .builtin .append,args:= #[s,x],argTypes:= #[t,t]})
 (base:Nat) (e:TypeId) (i:TypeInfo) (z:Value) (size bytes:Nat) (ht:P.underlying t=some (.slice e)) (hi:P.info? e=some i) (hz:i.zero=some z)
 (hsize:i.size=size) (hby:i.bytes=bytes) (hzs:z.cells.size=size) (hsz:0<size)
 (v:Value) (n:Nat) (xs:List Value) (hs:a.eval s=v) (hown:w.ownsRow base e size v n xs)
 (ad:Addr) (m c:Nat) (news:List Value) (hx:a.eval x= .slice (some ad) m c) (hl:news.length=m*size) (hnews: ∀j u,news[j]? =some u->w.cell? (ad.add j)=some u) (h1: ∀u∈news,u.oneCell'=true)
 (h63:n+m<=maxLen) (hbytes:(n+m)*bytes<=140737488355328) (hbase:base<=w.heap.size)
 (h: ∀ao cap w',w'.ownsRow base e size (.slice ao (n+m) cap) (n+m) (xs++news)->w.grownBy w' v.ownBlock->((qw ao (n+m) cap).ownBlock=v.ownBlock\/(qw ao (n+m) cap).ownBlock=some w.heap.size)->wpList P ops Q rest (a.put o.dst (.slice ao (n+m) cap)) w'):
 wpList P ops Q (o::rest) a w:=
 wpList_append_own_at w hgd s x t ho base e i z size bytes ht hi hz hsize hby hzs hsz v n xs hs hown ad m c news hx hl hnews h1 h63 hbytes hbase fun v' w' h2 h3 _ h5=>by
  obtain⟨ao,cap,rfl⟩:=qR h2;exact h ao cap w' h2 h3 h5
theorem q8u{w:World}{b:Nat}(c:b=w.heap.size)(x y z:Value)(t:TypeId): ∀j u,[x,y,z][j]? =some u->(w.alloc (vk #[x,y,z] t)).cell? ((⟨b,0,none⟩:Addr).add j)=some u:=by
 subst c;intro j u a;match j,a with
 |0,a=>simp at a;subst a;simp [Addr.add]
 |1,a=>simp at a;subst a;simp [Addr.add]
 |2,a=>simp at a;subst a;simp [Addr.add]
theorem j3{f:FuncId}{d:Func}{c:Code}(i:P.funcs[f]? =some d)(a:(d.name== "runtime.NumGoroutine")=false)(h:d.body=some c)(args:Array Value)(w:World):
 (callFunc f args).run P w= .ok (.enter f args) w:=by
 have g:d.name≠ "runtime.NumGoroutine":=by simpa using a
 simp [callFunc,i,g,h]
variable {k e t:TypeId}{b n:Nat}{M:Value->Int->Prop}
theorem kC{ops:Array Oper}{rest:List Oper}{o:Oper}{a:Act}{Q:Exit->Act->World->Prop}
 (hg:o.guard=none) (m x v:Y2) (hop:o.op=Op.mapUpdate t m x v)
 (K:Keyed P k) (ht:P.underlying t=some (.map k e)) (he:P.underlying e=some (.int .i64))
 (hm:a.eval m= .map (some b)) (hown:mapIs w P k e b n M) (hn:n<maxLen) (key:Value) (u:Int) (kl:Lit) (hx:a.eval x=key) (hv:a.eval v= .int .i64 u) (hkey:keyOf P k key=some kl)
 (hw:(xI .i64 u).wf=true)
 (hK: ∀es clock,mapIs (setBlock w b (.map es clock)) P k e b (n+1) (put M key u)->wpList P ops Q rest (a.put o.dst undef) (setBlock w b (.map es clock))):
 wpList P ops Q (o::rest) a w:=by
 refine wpList_plain hg fun K' hK'=> ?_;obtain⟨es,clock,hrun,h2⟩:=hown.store K ht he hn hkey hw;unfold xC;simp [execOp,hop,hm,hx,hv,hrun,Result.andThen];exact hK' _ _ (hK es clock h2)
theorem jW{ops:Array Oper}{rest:List Oper}{o:Oper}{a:Act}{Q:Exit->Act->World->Prop}
 (hg:o.guard=none) (m x v:Y2) (hop:o.op=Op.mapUpdate t m x v)
 (K:Keyed P k) (ht:P.underlying t=some (.map k e)) (he:P.underlying e=some (.int .i64))
 (hm:a.eval m= .map (some b)) (hown:mapIs w P k e b n M) (hn:n<maxLen) (key:Value) (u:Int) (kl:Lit) (hx:a.eval x=key) (hv:a.eval v= .int .i64 u) (hkey:keyOf P k key=some kl)
 (hw:(xI .i64 u).wf=true)
 (hK: ∀w',mapIs w' P k e b (n+1) (put M key u)->Turned b w w'->wpList P ops Q rest (a.put o.dst undef) w'):
 wpList P ops Q (o::rest) a w:=by
 refine wpList_plain hg fun K' hK'=> ?_;obtain⟨es,clock,hrun,h2⟩:=hown.store K ht he hn hkey hw;unfold xC;simp [execOp,hop,hm,hx,hv,hrun,Result.andThen];exact hK' _ _ (hK _ h2 (uz w b _))
theorem uh{ops:Array Oper}{rest:List Oper}{o:Oper}{a:Act}{Q:Exit->Act->World->Prop}
 (hg:o.guard=none) (m x v:Y2) (hop:o.op=Op.insert t m x v)
 (K:Keyed P k) (ht:P.underlying t=some (.map k e)) (he:P.underlying e=some (.int .i64))
 (hm:a.eval m= .map (some b)) (hown:mapIs w P k e b n M) (hn:n<maxLen) (key:Value) (u:Int) (kl:Lit) (hx:a.eval x=key) (hv:a.eval v= .int .i64 u) (hkey:keyOf P k key=some kl)
 (hw:(xI .i64 u).wf=true)
 (hK: ∀w',mapIs w' P k e b (n+1) (put M key u)->Turned b w w'->wpList P ops Q rest (a.put o.dst undef) w'):
 wpList P ops Q (o::rest) a w:=by
 refine wpList_plain hg fun K' hK'=> ?_;obtain⟨es,clock,hrun,h2⟩:=hown.store K ht he hn hkey hw;unfold xC;simp [execOp,hop,hm,hx,hv,hrun,Result.andThen];exact hK' _ _ (hK _ h2 (uz w b _))
theorem wpList_lookup_hit{ops:Array Oper}{rest:List Oper}{o:Oper}{a:Act}{Q:Exit->Act->World->Prop}
 (hg:o.guard=none) (m x:Y2) (hop:o.op=Op.lookup t m x true)
 (K:Keyed P k) (ht:P.underlying t=some (.map k e)) (he:P.underlying e=some (.int .i64)) (hz:(zeroValue e).run P w= .ok (.int .i64 0) w)
 (hm:a.eval m= .map (some b)) (hown:mapIs w P k e b n M) (key:Value) (u:Int) (kl:Lit) (hx:a.eval x=key) (hkey:keyOf P k key=some kl) (hM:M key u)
 (hK:wpList P ops Q rest (a.put o.dst (.tuple #[.int .i64 u,.bool true])) w):
 wpList P ops Q (o::rest) a w:=by
 refine wpList_plain hg fun K' hK'=> ?_;have hrun:=hown.hit K ht he hz hkey hM;unfold xC;simp [execOp,hop,hm,hx,hrun,Result.andThen];exact hK' _ _ hK
theorem wpList_lookup_miss{ops:Array Oper}{rest:List Oper}{o:Oper}{a:Act}{Q:Exit->Act->World->Prop}
 (hg:o.guard=none) (m x:Y2) (hop:o.op=Op.lookup t m x true)
 (K:Keyed P k) (ht:P.underlying t=some (.map k e)) (he:P.underlying e=some (.int .i64)) (hz:(zeroValue e).run P w= .ok (.int .i64 0) w)
 (hm:a.eval m= .map (some b)) (hown:mapIs w P k e b n M) (key:Value) (kl:Lit) (hx:a.eval x=key) (hkey:keyOf P k key=some kl) (hM: ∀u,¬M key u)
 (hK:wpList P ops Q rest (a.put o.dst (.tuple #[.int .i64 0,.bool false])) w):
 wpList P ops Q (o::rest) a w:=by
 refine wpList_plain hg fun K' hK'=> ?_;have hrun:=hown.miss K ht he hz hkey hM;unfold xC;simp [execOp,hop,hm,hx,hrun,Result.andThen];exact hK' _ _ hK
end
end Go.Proofs.Gen
namespace Go.Proofs.YtjcbmcnbdegpmaaGreatDoor
open Go Go.RowKit Go.Proofs.Gen Go.Proofs.Bdd Go.Proofs.Bdd.T
variable{S:Nat->Prop}{i p:Nat}{w:World}
theorem q1k(b:Nat)(i p:Nat)(w:World):
 Calls qj 68 #[vg b,ve vp i,ve vp p,ve vp p] w fun e a=>e=vm (ve vp p)/\w=a:=by
 go_enter Tryz.func68,Tryz.ntmps68;go_wp2
 go_ret;exact⟨rfl,rfl⟩
theorem G8(c kb:Nat)(j:Value)(i p q:Nat)(u:Int)(w:World)(g:((p:Int)==(q:Int))=false)
 (d:w.heap[c]? =some (vk #[j,.map (some kb)] 194 (0,0)))
 (a: ∀b:World,b.heap[kb]? =w.heap[kb]? ->(yu 192 (.map (some kb)) (vi #[ve vp i,ve vp p,ve vp q]) true).run qj b= .ok (.tuple #[ve vp u,vj true]) b) (f:kb<w.heap.size):
 Calls qj 68 #[vg c,ve vp i,ve vp p,ve vp q] w fun e b=>e=vm (ve vp u)/\Below w.heap.size w b:=by
 have k:w.cell? (vw c 1)=some (.map (some kb)):=by simp [zV,d]
 have h:c<w.heap.size:=qM w ⟨c,1,none⟩ k;have l: ∀(n:Nat),(yu 192 (.map (some kb)) (vi #[ve vp i,ve vp p,ve vp q]) true).run qj ((w.alloc (vk #[ve vp i,ve vp p,ve vp q] 177)).drewN n)= .ok (.tuple #[ve vp u,vj true]) ((w.alloc (vk #[ve vp i,ve vp p,ve vp q] 177)).drewN n):=
  fun n=>a _ (zi w _ kb f)
 go_enter Tryz.func68,Tryz.ntmps68;go_wp2
 go_quiet (fail)
 go_wp2
 go_ret;exact⟨rfl,((Below.refl _ _).alloc (qt _) _).trans ⟨rfl,rfl,rfl,qt _,fun _ _=>rfl⟩⟩
theorem q4P:(qj.info? 177).map (fun i=>(i.zero,i.size,i.bytes))=some (some (vi #[ve vp 0,ve vp 0,ve vp 0]),3,24):=by kernel_rfl
def Wv(S:Nat->Prop)(w:World)(mb kb n:Nat)(xs:List Value)(i p q:Nat)(wx:World):Prop:=
 ∃sv,wx.heap[mb]? =some (.cells #[sv,.map (some kb)] 194 (0,0))/\wx.ownsRow 0 177 3 sv (n+1) (xs++[.int .i64 i,.int .i64 p,.int .i64 q])/\Kept S w wx/\wx.heap[kb]? =w.heap[kb]? /\
  wx.heap[w.heap.size]? =some (.cells #[.int .i64 i,.int .i64 p,.int .i64 q] 177 (0,0))/\ ∀k,sv.ownBlock=some k->S k
theorem Ue{f o:World}{d kb n N q cap:Nat}{ao:Option Addr}{j:Value}{H:List Value}{M:Value->Int->Prop}
 (g:w.heap[d]? =some (vk #[j,.map (some kb)] 194 (0,0))) (b:w.ownsRow 0 177 3 j n H) (c:mapIs w qj 177 3 kb N M)
 (O: ∀k,w.heap.size<=k->S k) (x:S d) (r: ∀k,j.ownBlock=some k->S k)
 (P:o.ownsRow 0 177 3 (vd ao (n+1) cap) (n+1) (H++[ve vp i,ve vp p,ve vp q])) (u:f.grownBy o j.ownBlock)
 (K:(qw ao (n+1) cap).ownBlock=j.ownBlock\/(qw ao (n+1) cap).ownBlock=some f.heap.size)
 (z:f.heap=((w.alloc (vk #[ve vp i,ve vp p,ve vp q] 177)).alloc (vk #[ve vp i,ve vp p,ve vp q] 177)).heap) (Q:f.os=w.os) (J:f.tape=w.tape) (L:f.output=w.output):
 Wv S w d kb n H i p q (o.setCell d (vd ao (n+1) cap)):=by
 have y:=vV b g (by decide:(177:Nat)≠194);have I:=c.lt;have D:j.ownBlock≠some kb:=by
  have⟨U,m,v,_⟩:=c;exact jY b v
 have B:kb≠d:=by
  have⟨U,m,v,_⟩:=c;rintro rfl;rw [g]at v
  cases v
 have t:d<w.heap.size:=(qk.1 g).1;have R:f.heap.size=w.heap.size+2:=by rw [z];simp
 have l: ∀k,k<w.heap.size->f.heap[k]? =w.heap[k]? :=fun k a=>by
  rw [z,zi _ _ _ (by simp;omega),zi _ _ _ a]
 have E: ∀k,j.ownBlock=some k->k<w.heap.size:=fun k a=>(b.lt k a).2;have s:o.heap[d]? =some (vk #[j,.map (some kb)] 194 (0,0)):=by rw [u.block d (by omega) (Ne.symm y),l d t,g]
 have C:o.heap[w.heap.size]? =some (vk #[ve vp i,ve vp p,ve vp q] 177 (0,0)):=by
  rw [u.block _ (by omega) (fun e=>by have:=E _ e.symm;omega),z,zi _ _ _ (by simp)];exact heap_alloc_new w _
 have A:Kept S w f:=⟨Q,J,L,by omega,fun k a _=>l k a⟩;have G:Kept S w o:=A.grown u (fun k a _=>r k a);refine⟨vd ao (n+1) cap,?_,zF P s (by decide) 0 _,G.setCell (fun _=>x) _,?_,?_,?_⟩
 .rw [qz s];rfl
 .rw [zg _ _ _ _ B,u.block kb (by omega) (Ne.symm D),l kb I]
 .rw [zg _ _ _ _ (by show w.heap.size≠d;omega),C]
 .intro k a
  rcases K with h|h
  .exact r k (h▸a)
  .rw [h]at a
   cases a;exact O _ (by omega)
def q7z(S:Nat->Prop)(w:World)(mb kb n N:Nat)(xs:List Value)(M:Value->Int->Prop)(i p q:Nat)(w':World):Prop:=
 ∃sv,w'.heap[mb]? =some (.cells #[sv,.map (some kb)] 194 (0,0))/\w'.ownsRow 0 177 3 sv (n+1) (xs++[.int .i64 i,.int .i64 p,.int .i64 q])/\
  mapIs w' qj 177 3 kb (N+1) (put M (.agg #[.int .i64 i,.int .i64 p,.int .i64 q]) (n+1+1))/\Kept S w w'/\ ∀k,sv.ownBlock=some k->S k
theorem q3G(S:Nat->Prop)(a kb n N:Nat)(j:Value)(D:List Value)(M:Value->Int->Prop)(i p q:Nat)(kl:Lit)(w:World)(A:((p:Int)==(q:Int))=false)
 (h:w.heap[a]? =some (vk #[j,.map (some kb)] 194 (0,0)))
 (o:w.ownsRow 0 177 3 j n D) (g:mapIs w qj 177 3 kb N M) (hN:N<=n) (hn:n<1099511627776)
 (hS: ∀k,w.heap.size<=k->S k) (O:S a) (J:S kb) (Q: ∀k,j.ownBlock=some k->S k)
 (s:keyOf qj 177 (vi #[ve vp i,ve vp p,ve vp q])=some kl) (hM: ∀u,¬M (vi #[ve vp i,ve vp p,ve vp q]) u):
 Calls qj 68 #[vg a,ve vp i,ve vp p,ve vp q] w fun e Y=>e=vm (ve vp (n+1+1))/\q7z S w a kb n N D M i p q Y:=by
 have c0:w.cell? a=some j:=by simp [zV,h]
 have c1:w.cell? (vw a 1)=some (.map (some kb)):=by simp [zV,h]
 have U:a<w.heap.size:=qM w ⟨a,1,none⟩ c1;have X:=g.lt;have A:=vV o h (by decide:(177:Nat)≠194);have⟨i0,hi,I,P,V⟩:=info_parts q4P;have hr: ∀(n:Nat),(yu 192 (.map (some kb)) (vi #[ve vp i,ve vp p,ve vp q]) true).run qj ((w.alloc (vk #[ve vp i,ve vp p,ve vp q] 177)).drewN n)= .ok (.tuple #[ve vp 0,vj false]) ((w.alloc (vk #[ve vp i,ve vp p,ve vp q] 177)).drewN n):=
  fun n=>mapIs.miss (((g.of_block (w':=w.alloc (vk #[ve vp i,ve vp p,ve vp q] 177)) (zi w _ kb X)).drewN n)) q6c Tryz.underlying192 qP (zero3 _) s hM
 have cm: ∀(G m:World),G.grownBy m j.ownBlock->G.heap=((w.alloc (vk #[ve vp i,ve vp p,ve vp q] 177)).alloc (vk #[ve vp i,ve vp p,ve vp q] 177)).heap->m.cell? a=some j/\m.frozen? a=false:=by
  intro G m hg e1;have e:m.heap[a]? =some (vk #[j,.map (some kb)] 194 (0,0)):=by
   rw [hg.block a (by rw [e1];simp;omega) (Ne.symm A),e1,zi _ _ _ (by simp;omega),zi _ _ _ U,h]
  exact⟨by simp [zV,e],by simp [jx,e]⟩
 have HM:=q8 h;have Z:=q8 o;have r:=q8 g;go_enter Tryz.func68,Tryz.ntmps68;go_wp2
 go_quiet (fail)
 go_upto_region 6 with fail
 go_cut [] (fun wx=>Wv S w a kb n D i p q wx)
 case first=>
  go_region_law (refine jd rfl (.tmp 35) (.tmp 37) 41 rfl 0 177 i0 (vi #[ve vp 0,ve vp 0,ve vp 0]) 3 24 Tryz.underlying41 hi I P V rfl (by decide) j n D rfl (by exact(Z.alloc _).alloc _) ⟨w.heap.size+1,0,none⟩ 1 1 [ve vp i,ve vp p,ve vp q] rfl rfl (by exact q8u (by simp) _ _ _ _) (by simp [qX]) (by unfold maxLen;omega) (by omega) (by omega) ?_;intro L v m t z H;have ad:m.cell? a=some j:=(cm _ _ z rfl).1;have ab:m.frozen? a=false:=(cm _ _ z rfl).2)
  all_goals
   go_wp2_with fail
   go_meet
   exact Ue HM Z r hS O Q t z H rfl rfl rfl rfl
 case rest=>
  have⟨aa,d,c,W,C,y,x⟩:=hcut;obtain⟨L,v,rfl⟩:=qR c;have d0:wc.cell? a=some (vd L (n+1) v):=by simp [zV,d]
  have d1:wc.cell? (vw a 1)=some (.map (some kb)):=by simp [zV,d]
  have x0:wc.cell? w.heap.size=some (ve vp i):=by simp [zV,y]
  have x1:wc.cell? (vw w.heap.size 1)=some (ve vp p):=by simp [zV,y]
  have x2:wc.cell? (vw w.heap.size 2)=some (ve vp q):=by simp [zV,y]
  have b:=q8 (r.of_block C);go_wp2
  go_still_tail 6,(by kernel_rfl)
  change wpList _ _ _ _ _ wc.drew;refine kC rfl (.tmp 50) (.tmp 51) (.tmp 52) rfl q6c Tryz.underlying192 qP rfl (b.out.drewN 1) (by unfold maxLen;omega) _ _ kl rfl rfl s (xD (by omega)) ?_;intro es R K;go_wp2
  go_ret;refine⟨rfl,vd L (n+1) v,?_,?_,K,jj W.drew (fun _=>J) _,x⟩
  .have⟨E,l,f,_⟩:=b.out
   rw [Go.ChangeMaps.heap_setBlock_other (w:=wc.drew) f]
   .exact d
   .rintro rfl
    rw [d]at f
    cases f
  .have⟨E,l,f,_⟩:=b.out
   refine c.kept (row:=some kb) ⟨rfl,rfl,rfl,by simp [Go.ChangeMaps.setBlock],fun k _ B=> ?_⟩ (vv (jY c f));exact Go.ChangeMaps.heap_setBlock_other (w:=wc.drew) f _ (fun e=>B (by rw [e]))
def Zb(S:Nat->Prop)(w:World)(mb:Nat)(L:List T)(i:Nat)(l h:T)(e:Ending)(w':World):Prop:=
 e= .returned (.int .i64 ((pl (add L i l h) (mk i l h):Nat):Int))/\IsMaker w' mb S (add L i l h)/\Kept S w w'
theorem Gl{L:List T}(g:T.Good L){l h:T}(m:In L l)(k:In L h)(j:node i l h∉L)(x:Value)(u:Int):
 known (L++[node i l h]) x u↔put (known L) (vi #[ve vp i,ve vp (pl L l:Nat),ve vp (pl L h:Nat)]) (L.length+1+1) x u:=by
 have f:uP #[ve vp i,ve vp (pl L l:Nat),ve vp (pl L h:Nat)]=triV (en L (node i l h)):=rfl;rw [f];have tri_inj: ∀a b:Tri,triV a=triV b->a=b:=by
  intro a b h
  cases a;cases b;simp only [triV,qY,za,qJ,jS,true_and,and_true]at h;have⟨o,p,q⟩:=h;simp only [Tri.mk.injEq];exact⟨by omega,by omega,by omega⟩
 have d:en (L++[node i l h]) (node i l h)=en L (node i l h):=by simp only [en];rw [pl_append m,pl_append k]
 unfold known put;constructor
 .rintro⟨t,c,rfl,rfl⟩
  rcases qK.1 c with c|c
  .refine vv ⟨fun e=>j ?_,t,c,by rw [ZN g c],by rw [pl_append (by cases t with|leaf=>trivial|node=>exact c)]⟩
   rw [ZN g c]at e;rw [<-q4S g c m k (tri_inj _ _ e)];exact c
  .simp at c
   subst c;exact vu ⟨by rw [d],by rw [Qi j];omega⟩
 .rintro(⟨rfl,rfl⟩|⟨n,t,c,rfl,rfl⟩)
  .exact⟨node i l h,by simp,by rw [d],by rw [Qi j];omega⟩
  .exact⟨t,Zc _ c,by rw [ZN g c],by rw [pl_append (by cases t with|leaf=>trivial|node=>exact c)]⟩
theorem xf{L:List T}(g:T.Good L){l h:T}(z:In L l)(C:In L h)(hi:i<24)(y:L.length<1099511627776)(hS: ∀k,w.heap.size<=k->S k)
 (K:IsMaker w p S L) {a b c:Int}(Z:a=i)(hb:b=(pl L l:Nat))(hc:c=(pl L h:Nat)):
 Calls qj 68 #[vg p,ve vp a,ve vp b,ve vp c] w (Zb S w p L i l h):=by
 subst Z hb hc;have b1:=wt z;have b2:=wt C;by_cases e:l=h
 .subst e
  refine(q1k p i (pl L l) w).mono ?_;rintro e M ⟨rfl,rfl⟩;have s:add L i l l=L:=by simp [add]
  have E:mk i l l=l:=by simp [mk]
  unfold Zb;rw [s,E];exact⟨rfl,K,Kept.refl _ _⟩
 .have r:(((pl L l:Nat):Int)==((pl L h:Nat):Int))=false:=by
   rw [beq_eq_false_iff_ne];intro e';exact e (Zr z C (by omega))
  have Q:=K;have⟨W,I,N,A,x,f,Y,q,B,O⟩:=K;have⟨X,j⟩:=q7Q (wf_nat (n:=i) (by omega)) (wf_nat (n:=pl L l) (by omega)) (wf_nat (n:=pl L h) (by omega));by_cases d:node i l h∈L
  .have s:add L i l h=L:=by simp [add,d]
   have E:mk i l h=node i l h:=by simp [mk,e]
   refine(G8 p I W i (pl L l) (pl L h) (pl L (node i l h):Nat) w r A (fun M R=> ?_) f.lt).mono ?_
   .exact(f.of_block R).hit q6c Tryz.underlying192 qP (zero3 _) j ⟨node i l h,d,rfl,rfl⟩
   .rintro e M ⟨rfl,G⟩
    unfold Zb;rw [s,E];exact⟨rfl,Q.of_kept (Kept.of_below G) (fun k J _=>by omega),(Kept.of_below G).mono (fun k J h=>by omega)⟩
  .have s:add L i l h=L++[node i l h]:=by simp [add,e,d]
   have E:mk i l h=node i l h:=by simp [mk,e]
   refine(q3G S p I L.length N W _ _ i (pl L l) (pl L h) X w r A x f Y y hS q B O j ?_).mono ?_
   .rintro u ⟨t,U,he,_⟩
    refine d ?_
    have:triV (en L (node i l h))=triV (en L t):=he
    have H:en L t=en L (node i l h):=by
     cases V:en L t;cases H:en L (node i l h);rw [V,H]at this;simp only [triV,qY,za,qJ,jS,true_and,and_true]at this;have⟨V,H,h3⟩:=this;simp only [Tri.mk.injEq];exact⟨by omega,by omega,by omega⟩
    rw [<-q4S g U z C H];exact U
   .rintro e M ⟨rfl,P,v,o,m,J,D⟩
    unfold Zb;rw [s,E,Qi d];refine⟨rfl,⟨P,I,N+1,v,?_,m.congr (Gl g z C d),by simp;omega,q,B,D⟩,J⟩;rw [Wi g z C];simpa [cellsOf,q56]using o
end Go.Proofs.YtjcbmcnbdegpmaaGreatDoor
namespace Go.Proofs.YtjcbmcnbdegpmaaGreatDoor
open Go Go.RowKit Go.Proofs.Gen Go.Proofs.Bdd Go.Proofs.Bdd.T
open Go.Maps (Keyed)
variable{M:Value->Int->Prop}{R:Nat->Prop}{a kb m:Nat}{w:World}
def Zq(L acc:List T)(x:Value)(u:Int):Prop:=
 (x= .int .i64 0/\u=0)\/(x= .int .i64 1/\u=1)\/ ∃t∈acc,x= .int .i64 (pl L t:Nat)/\u=(pl acc t:Nat)
structure VisEnv(w:World)(L:List T)(mb kb pB mB vB oB place:Nat)(sv:Value):Prop where
 mkr:w.heap[mb]? =some (.cells #[sv,.map (some kb)] 194 (0,0))
 row:w.ownsRow 0 177 3 sv L.length (cellsOf (enc L))
 pc:w.heap[pB]? =some (.cells #[.map (some place)] 196 (0,0))
 mc:w.heap[mB]? =some (.cells #[.pointer (some ⟨mb,0,none⟩)] 130 (0,0))
 vc:w.heap[vB]? =some (.cells #[.func (.func 142) #[] #[.pointer (some ⟨pB,0,none⟩),.pointer (some ⟨mB,0,none⟩),.pointer (some ⟨vB,0,none⟩),.pointer (some ⟨oB,0,none⟩)]] 197 (0,0))
def VSt(w:World)(R:Nat->Prop)(oB place m:Nat)(xs:List Value)(M:Value->Int->Prop):Prop:=
 ∃ov n,w.heap[oB]? =some (.cells #[ov] 41 (0,0))/\w.ownsRow 0 177 3 ov m xs/\mapIs w qj 3 3 place n M/\n<=m+2/\R oB/\R place/\ ∀k,ov.ownBlock=some k->R k
def VisSt(w:World)(R:Nat->Prop)(L acc:List T)(oB place:Nat):Prop:=VSt w R oB place acc.length (cellsOf (enc acc)) (Zq L acc)
theorem JU(r u:Int)(c l f g a n:Nat)(M:Value->Int->Prop)(w:World)(d:(xI vp r).wf=true)
 (k:w.heap[c]? =some (vk #[.map (some a)] 196 (0,0))) (b:mapIs w qj 3 3 a n M) (i:M (ve vp r) u):
 Calls qj 142 #[ve vp r,vg c,vg l,vg f,vg g] w fun e j=>e=vm (ve vp u)/\w=j:=by
 have m:w.cell? c=some (.map (some a)):=by simp [zV,k]
 have h:=q8 b;go_enter Tryz.func142,Tryz.ntmps142;go_wp2_with (at_lookup;refine wpList_lookup_hit rfl (.tmp 13) (.tmp 14) rfl law3 YO qP (zero3 _) rfl h _ u _ rfl (JR qP d) i ?_)
 go_ret;exact⟨rfl,rfl⟩
theorem vI{v:Value}{l:List Tri}(h:w.ownsRow 0 177 3 v l.length (cellsOf l)){k:Nat}{x:Tri}(hk:l[k]? =some x):
 ∃g cap,v=vd (some ⟨g,0,none⟩) l.length cap/\w.cell? ⟨g,k*3,none⟩=some (ve vp x.v)/\w.cell? ⟨g,k*3+1,none⟩=some (ve vp x.lo)/\w.cell? ⟨g,k*3+2,none⟩=some (ve vp x.hi):=by
 have hlt:k<l.length:=(qm.1 hk).1;rcases h.2 with⟨_,h0⟩|⟨g,cap,cur,rfl,_,hg,_,_,hs,ht⟩
 .omega
 .refine⟨g,cap,rfl,?_⟩
  have at': ∀(l:List Tri)(k:Nat)(x:Tri),l[k]? =some x-> ∀j,j<3->(cellsOf l)[k*3+j]? =(q56 x)[j]? :=by
   intro l;induction l with
   |nil=>intro k x h;simp at h
   |cons y r ih=>
    intro k x hk j hj;have e:cellsOf (y::r)=q56 y++cellsOf r:=rfl;have ly:(q56 y).length=3:=rfl;rw [e]
    cases k with
    |zero=>
     simp at hk;subst hk;rw [zc (by omega),Nat.zero_mul,Nat.zero_add]
    |succ k=>
     rw [List.getElem?_append_right (by omega),ly,show(k+1)*3+j - 3=k*3+j from by omega];exact ih k x (by simpa using hk) j hj
  have look: ∀j,j<3->w.cell? ⟨g,k*3+j,none⟩=(q56 x)[j]? :=by
   intro j hj;have a:=at' l k x hk j hj;rw [<-ht,zH,if_pos (by omega)]at a;simp only [zV,hg];simpa using a
  exact⟨look 0 (by omega),look 1 (by omega),look 2 (by omega)⟩
def Uj(R:Nat->Prop)(w:World)(L:List T)(oB place:Nat)(t:T)(acc:List T)(e:Ending)(w':World):Prop:=
 e= .returned (.int .i64 ((pl (go t acc) t:Nat):Int))/\VisSt w' R L (go t acc) oB place/\Kept R w w'
theorem VisEnv.kept{w':World}{L:List T}{p n f q:Nat}{l:Value}(h:VisEnv w L p kb m n f q a l)(d:Kept R w w')
 (e: ¬R p/\ ¬R m/\ ¬R n/\ ¬R f/\ ∀k,l.ownBlock=some k-> ¬R k):VisEnv w' L p kb m n f q a l:=by
 have c: ∀{b:Nat}{o:Obj},w.heap[b]? =some o->b<w.heap.size:=fun h=>(qk.1 h).1;refine⟨(d.block _ (c h.mkr) e.1).trans h.mkr,⟨h.row.1,?_⟩,(d.block _ (c h.pc) e.2.1).trans h.pc,(d.block _ (c h.mc) e.2.2.1).trans h.mc,(d.block _ (c h.vc) e.2.2.2.1).trans h.vc⟩;rcases h.row.2 with u|⟨g,i,j,rfl,t,s,r⟩
 .exact vu u
 .exact vv ⟨g,i,j,rfl,t,(d.block g (c s) (e.2.2.2.2 g rfl)).trans s,r⟩
theorem VSt.mono{R':Nat->Prop}{e:Nat}{i:List Value}(h:VSt w R e a m i M)(b: ∀k,k<w.heap.size->R k->R' k):VSt w R' e a m i M:=by
 have⟨q,n,d,c,f,p,l,j,o⟩:=h;exact⟨q,n,d,c,f,p,b _ (qk.1 d).1 l,b _ f.lt j,fun k g=>b _ (c.lt k g).2 (o k g)⟩
theorem VSt.alloc{d:Nat}{c:List Value}(h:VSt w R d a m c M)(o:Obj):VSt (w.alloc o) R d a m c M:=by
 have⟨l,n,b,f,e,j,g,k,i⟩:=h;exact⟨l,n,(zi w o _ (qk.1 b).1).trans b,f.alloc o,e.of_block (zi w o _ e.lt),j,g,k,i⟩
theorem WC(R:Nat->Prop)(r:Nat)(x:Tri)(d s p f a K kb g n cap N:Nat)(M:Value->Int->Prop)(V P:Int)(m:Nat)(xs:List Value)(M2:Value->Int->Prop)(w:World)
 (hr:2<=r) (an:r<n+2) (hn:n<1099511627776) (am:m<1099511627776) (hR: ∀k,w.heap.size<=k->R k)
 (hp:w.heap[d]? =some (vk #[.map (some a)] 196 (0,0))) (E:mapIs w qj 3 3 a N M) (hM: ∀u,¬M (ve vp r) u)
 (ah:w.heap[K]? =some (vk #[vd g n cap,.map (some kb)] 194 (0,0)))
 (ai:w.heap[s]? =some (vk #[vg K] 130 (0,0)))
 (hv:w.heap[p]? =some (vk #[.func (.func 142) #[] #[vg d,vg s,vg p,vg f]] 197 (0,0)))
 (x0:w.cell? (vw g ((r - 2)*3))=some (ve vp x.v)) (x1:w.cell? (vw g ((r - 2)*3+1))=some (ve vp x.lo)) (x2:w.cell? (vw g ((r - 2)*3+2))=some (ve vp x.hi))
 (O: ¬R K/\ ¬R d/\ ¬R s/\ ¬R p)
 (h1:Calls qj 142 #[ve vp x.lo,vg d,vg s,vg p,vg f] (w.alloc (vk #[ve vp x.v,ve vp x.lo,ve vp x.hi] 177))
   fun e w1=>e=vm (ve vp V)/\Kept (fun k=>R k/\k≠w.heap.size) (w.alloc (vk #[ve vp x.v,ve vp x.lo,ve vp x.hi] 177)) w1/\
    Calls qj 142 #[ve vp x.hi,vg d,vg s,vg p,vg f] w1
     fun e l=>e=vm (ve vp P)/\Kept (fun k=>R k/\k≠w.heap.size) (w.alloc (vk #[ve vp x.v,ve vp x.lo,ve vp x.hi] 177)) l/\VSt l R f a m xs M2):
 Calls qj 142 #[ve vp r,vg d,vg s,vg p,vg f] w fun e w'=>e=vm (ve vp (m+1+1))/\VSt w' R f a (m+1) (xs++[ve vp x.v,ve vp V,ve vp P]) (put M2 (ve vp r) (m+1+1))/\Kept R w w':=by
 have c0:w.cell? d=some (.map (some a)):=by simp [zV,hp]
 have c1:w.cell? s=some (vg K):=by simp [zV,ai]
 have c2:w.cell? K=some (vd g n cap):=by simp [zV,ah]
 have c3:w.cell? p=some (.func (.func 142) #[] #[vg d,vg s,vg p,vg f]):=by simp [zV,hv]
 have lv:=qM w ⟨p,0,none⟩ c3;have lp:=qM w ⟨d,0,none⟩ c0;have HM:=q8 E;have H1:=q8 h1;go_enter Tryz.func142,Tryz.ntmps142;go_wp2_with (at_lookup;refine wpList_lookup_miss rfl (.tmp 13) (.tmp 14) rfl law3 YO qP (zero3 _) rfl HM _ _ rfl (JR qP (wf_nat (by omega))) hM ?_)
 refine H1.mono ?_;rintro e w1 ⟨rfl,L,h2⟩;have H2:=q8 h2;have z0:=kB c0 (vk #[ve vp x.v,ve vp x.lo,ve vp x.hi] 177);have z3:=kB c3 (vk #[ve vp x.v,ve vp x.lo,ve vp x.hi] 177);have d3:=L.cell z3 (fun h=>O.2.2.2 h.1);have y2:=L.cell (b:=w.heap.size) (o:=2) (v:=ve vp x.hi) (by simp) (fun h=>h.2 rfl);go_wp2_with fail
 refine H2.mono ?_;rintro e l ⟨rfl,q,H,N2,X,t,z,aq,Q,r2,r3⟩;have b0:=q.cell z0 (fun h=>O.2.1 h.1);have b1:=q.cell (b:=w.heap.size) (o:=0) (v:=ve vp x.v) (by simp) (fun h=>h.2 rfl);have b2:l.cell? f=some H:=by simp [zV,X]
 have⟨i0,af,Y,ab,aj⟩:=info_parts q4P;have W:=vV t X (by decide:(177:Nat)≠41);have HO:=q8 X;have HW:=q8 t;have j:=q8 z;have ar: ¬d=f:=fun e=>O.2.1 (e▸Q);have al: ¬f=d:=fun e=>O.2.1 (e▸Q);have G:f≠a:=by
  rintro rfl;have⟨U,c,A,_⟩:=j.out;rw [HO.out]at A
  cases A
 have D:H.ownBlock≠some a:=by
  have⟨U,c,A,_⟩:=j.out;exact jY HW A
 have ad:H.ownBlock≠some d:=fun e=>O.2.1 (r3 _ e);have ak:=j.lt;have Z:Hid (∃x,l.heap[d]? =some x):=q8 ⟨l.heap[d]'(qM l ⟨d,0,none⟩ b0),Un _⟩;have PC: ∀C:World,(l.alloc (vk #[ve vp x.v,ve vp V,ve vp P] 177)).grownBy C H.ownBlock->C.cell? d=some (.map (some a)):=fun C i=>by
  have⟨y,hy⟩:=Z.out;rw [<-b0];exact yr (w:=l) ((jV i hy ad).trans hy.symm)
 go_wp2_with (first
  |(at_builtin;refine xZ rfl (.tmp 36) (.tmp 42) 41 rfl 0 177 i0 (vi #[ve vp 0,ve vp 0,ve vp 0]) 3 24 Tryz.underlying41 af Y ab aj rfl (by decide) H m xs rfl (by exact HW.alloc _) ⟨l.heap.size,0,none⟩ 1 1 [ve vp x.v,ve vp V,ve vp P] rfl rfl (by exact q8u rfl _ _ _ _) (by simp [qX]) (by unfold maxLen;omega) (by omega) (by omega) ?_;intro ao cap C B i J;have S:=q8 (jV i HO W);have f1:=cell1 (o:=0) S rfl;have f2:=zQ S 0;have f3:=PC C i)
  |(at_mapUpdate;refine kC rfl (.tmp 44) (.tmp 45) (.tmp 48) rfl law3 YO qP rfl (M:=M2) (n:=N2) (b:=a) (j.of_block ?_) (by unfold maxLen;omega) _ _ _ rfl rfl (JR qP (wf_nat (by omega))) (xD (by omega)) ?_))
 .rw [zg _ _ _ _ (Ne.symm G)]
  have⟨U,c,A,_⟩:=j.out;exact(jV i A D).trans A.symm
 .intro U c ae
  have G1:Hid ((Go.ChangeMaps.setBlock (C.setCell f (vd ao (m+1) cap)) a (.map U c)).heap[f]? =some (vk #[vd ao (m+1) cap] 41 (0,0))):=by
   rw [setBlock_heap _ G,qz S];rfl
  have g1:=cell1 (o:=0) G1 rfl;have aa:=q8 ae;go_wp2_with fail
  go_ret;have ag:(qw ao (m+1) cap).ownBlock≠some a:=by
   rcases J with h|h<;>rw [h]
   .exact D
   .simp;omega
  have ap:w.heap.size<=l.heap.size:=by have:=q.size;simp at this;omega
  refine⟨rfl,⟨_,N2+1,G1,gO (zF B S (by decide) 0 _) ag _,aa,by omega,Q,r2,?_⟩,?_⟩
  .intro k I
   rcases J with h|h<;>rw [h]at I
   .exact r3 k I
   .simp at I
    exact hR k (by omega)
  .refine jj (Kept.setCell (Kept.grown (Kept.alloc (Kept.trans ((Kept.refl R w).alloc _) (q.mono fun k _ h=>h.1)) _) i (fun k I _=>r3 k I)) (fun _=>Q) _) (fun _=>r2) _
theorem V9{L a:List T}(d: ∀s∈a,s∈L){i:Nat}{l h:T}(g:node i l h∈L)(k:node i l h∉a)(x:Value)(u:Int):
 Zq L (a++[node i l h]) x u↔put (Zq L a) (ve vp (pl L (node i l h):Nat)) (a.length+1+1) x u:=by
 have j: ∀s∈a,In L s:=fun s f=>by
  cases s with
  |leaf=>trivial
  |node=>exact d _ f
 have c: ∀s∈a,In a s:=fun s f=>by
  cases s with
  |leaf=>trivial
  |node=>exact f
 have n:=kF (L:=L) i l h;unfold Zq put;constructor
 .rintro(⟨rfl,rfl⟩|⟨rfl,rfl⟩|⟨t,b,rfl,rfl⟩)
  .exact vv ⟨by simp;omega,vu ⟨rfl,rfl⟩⟩
  .exact vv ⟨by simp;omega,vv (vu ⟨rfl,rfl⟩)⟩
  .rcases qK.1 b with b|b
   .refine vv ⟨fun e=>k ?_,vv (vv ⟨t,b,rfl,by rw [pl_append (c t b)]⟩)⟩
    simp only [jS,true_and]at e;rw [<-Zr (j t b) (show In L (node i l h)from g) (by omega)];exact b
   .simp at b
    subst b;exact vu ⟨rfl,by rw [Qi k];omega⟩
 .rintro(⟨rfl,rfl⟩|⟨m,⟨rfl,rfl⟩|⟨rfl,rfl⟩|⟨t,b,rfl,rfl⟩⟩)
  .exact vv (vv ⟨node i l h,by simp,rfl,by rw [Qi k];omega⟩)
  .exact vu ⟨rfl,rfl⟩
  .exact vv (vu ⟨rfl,rfl⟩)
  .exact vv (vv ⟨t,Zc _ b,rfl,by rw [pl_append (c t b)]⟩)
theorem KE{L:List T}(g:T.Good L)(hlen:L.length<1099511627776){mb pB mB vB oB place:Nat}{sv:Value}:
 ∀(t:T)(R:Nat->Prop)(acc:List T)(w:World),t.Ok->In L t->T.Good acc->(∀s∈acc,s∈L)->acc.length+room t<=1099511627776->
  (∀k,w.heap.size<=k->R k)->(¬R mb/\ ¬R pB/\ ¬R mB/\ ¬R vB/\ ∀k,sv.ownBlock=some k-> ¬R k)->VisEnv w L mb kb pB mB vB oB place sv->VisSt w R L acc oB place-> ∀r:Int,r=(pl L t:Nat)->
  Calls qj 142 #[ve vp r,vg pB,vg mB,vg vB,vg oB] w (Uj R w L oB place t acc):=by
 intro t
 induction t with
 |leaf b=>
  intro R acc w ok hin ga hsub hroom hR hd env st r hr
  subst hr
  obtain⟨ov,n,ho,hown,hmap,hn,r1,r2,r3⟩:=st
  refine(JU (pl L (leaf b):Nat) (pl L (leaf b):Nat) pB mB vB oB place n _ w (wf_nat (by cases b<;>simp [pl])) env.pc hmap ?_).mono ?_
  .cases b
   .exact vu ⟨rfl,rfl⟩
   .exact vv (vu ⟨rfl,rfl⟩)
  .rintro e w' ⟨rfl,rfl⟩
   exact⟨by cases b<;>rfl,⟨ov,n,ho,hown,hmap,hn,r1,r2,r3⟩,Kept.refl _ _⟩
 |node i l h ihl ihh=>
  intro R acc w ok hin ga hsub hroom hR hd env st r hr
  subst hr
  have st0:=st
  obtain⟨ov,n,ho,hown,hmap,hn,r1,r2,r3⟩:=st
  have hb:=wt hin
  have h2:=kF (L:=L) i l h
  by_cases hm:node i l h∈acc
  .refine(JU (pl L (node i l h):Nat) (pl acc (node i l h):Nat) pB mB vB oB place n _ w (wf_nat (by omega)) env.pc hmap ?_).mono ?_
   .exact vv (vv ⟨_,hm,rfl,rfl⟩)
   .rintro e w' ⟨rfl,rfl⟩
    have e1:go (node i l h) acc=acc:=by simp [go,hm]
    unfold Uj
    rw [e1]
    exact⟨rfl,st0,Kept.refl _ _⟩
  .have kk:=g.kids (show node i l h∈L from hin)
   have rk:=q0K ok
   have hget:=Zs (L:=L) (i:=i) (l:=l) (h:=h) hin
   have hge:(enc L)[pl L (node i l h) - 2]? =some (en L (node i l h)):=by simp [enc,hget]
   have hle:(enc L).length=L.length:=by simp [enc]
   obtain⟨gb,cap,hsv,x0,x1,x2⟩:=vI (by rw [hle];exact env.row) hge
   rw [hle]at hsv
   subst hsv
   have rl:=q1J l acc ok.2.2.2.2.1
   have rh:=q1J h (go l acc) ok.2.2.2.2.2
   have hal:=q3l h
   have gl:=ZG l acc ok.2.2.2.2.1 ga
   have hsl:=Wd g l acc kk.1 hsub
   have hsh:=Wd g h (go l acc) kk.2 hsl
   have hnew:=q4Q i l h acc hm
   have hlt0:oB<w.heap.size:=(qk.1 ho).1
   have hd': ∀b,¬R b-> ¬(R b/\b≠w.heap.size):=fun b hb h=>hb h.1
   have hdd: ¬(R mb/\mb≠w.heap.size)/\ ¬(R pB/\pB≠w.heap.size)/\ ¬(R mB/\mB≠w.heap.size)/\ ¬(R vB/\vB≠w.heap.size)/\
    ∀k,(qw gb L.length cap).ownBlock=some k-> ¬(R k/\k≠w.heap.size):=
    ⟨hd' _ hd.1,hd' _ hd.2.1,hd' _ hd.2.2.1,hd' _ hd.2.2.2.1,fun k hk=>hd' _ (hd.2.2.2.2 k hk)⟩
   refine(WC R (pl L (node i l h)) (en L (node i l h)) pB mB vB oB place mb kb gb L.length cap n (Zq L acc) (pl (go l acc) l:Nat) (pl (go h (go l acc)) h:Nat)
    (go h (go l acc)).length (cellsOf (enc (go h (go l acc)))) (Zq L (go h (go l acc))) w h2 hb hlen (by omega) hR env.pc hmap ?_ env.mkr env.mc env.vc x0 x1 x2
    ⟨hd.1,hd.2.1,hd.2.2.1,hd.2.2.2.1⟩ ?_).mono ?_
   .rintro u (⟨he,_⟩|⟨he,_⟩|⟨s,hs,he,_⟩)
    .simp only [jS,true_and]at he;omega
    .simp only [jS,true_and]at he;omega
    .simp only [jS,true_and]at he
     have hsi:In L s:=by
      cases s with
      |leaf=>trivial
      |node=>exact hsub _ hs
     rw [Zr hin hsi (by omega)]at hm
     exact hm hs
   .have env1:VisEnv (w.alloc (vk #[ve vp (en L (node i l h)).v,ve vp (en L (node i l h)).lo,ve vp (en L (node i l h)).hi] 177)) L mb kb pB mB vB oB place (vd gb L.length cap):=
     env.kept (R:=fun _=>False) ((Kept.refl _ w).alloc _) ⟨id,id,id,id,fun _ _=>id⟩
    have st1:=(VSt.alloc st0 (vk #[ve vp (en L (node i l h)).v,ve vp (en L (node i l h)).lo,ve vp (en L (node i l h)).hi] 177))
    have st1':VisSt (w.alloc (vk #[ve vp (en L (node i l h)).v,ve vp (en L (node i l h)).lo,ve vp (en L (node i l h)).hi] 177)) (fun k=>R k/\k≠w.heap.size) L acc oB place:=by
     obtain⟨ov',n',ho',hw',hm',hn',q1,q2,q3⟩:=st0
     exact⟨ov',n',(zi w _ _ (qk.1 ho').1).trans ho',hw'.alloc _,hm'.of_block (zi w _ _ hm'.lt),hn',⟨q1,by omega⟩,⟨q2,by have:=hm'.lt;omega⟩,
      fun k hk=>⟨q3 k hk,by have:=(hw'.lt k hk).2;omega⟩⟩
    refine(ihl (fun k=>R k/\k≠w.heap.size) acc _ ok.2.2.2.2.1 kk.1 ga hsub (by omega) (fun k hk=> ?_) hdd env1 st1' _ rfl).mono ?_
    .simp at hk
     exact⟨hR k (by omega),by omega⟩
    .rintro e w1 ⟨rfl,stl,hk1⟩
     refine⟨rfl,hk1,?_⟩
     have hz1:=hk1.size
     simp at hz1
     refine(ihh (fun k=>R k/\k≠w.heap.size) (go l acc) w1 ok.2.2.2.2.2 kk.2 gl hsl (by omega) (fun k hk=>⟨hR k (by omega),by omega⟩) hdd (env1.kept hk1 hdd) stl _ rfl).mono ?_
     rintro e w2 ⟨rfl,sth,hk2⟩
     exact⟨rfl,hk1.trans hk2,VSt.mono sth (fun k _ h=>h.1)⟩
   .rintro e w' ⟨rfl,hst,hk⟩
    have e1:go (node i l h) acc=go h (go l acc)++[node i l h]:=by simp [go,hm]
    unfold Uj
    rw [e1,Qi hnew]
    refine⟨rfl,?_,hk⟩
    obtain⟨ov',n',ho',hw',hm',hn',q1,q2,q3⟩:=hst
    have gh:=ZG h _ ok.2.2.2.2.2 gl
    refine⟨ov',n',ho',?_,hm'.congr (V9 hsh hin hnew),by simp;omega,q1,q2,q3⟩
    rw [Wi gh (q1K (VM l acc)) (VM h _),<-q7q (t:=h) (VM l acc)]at*
    simpa [cellsOf,q56,en,q7q (t:=h) (VM l acc)]using hw'
end Go.Proofs.YtjcbmcnbdegpmaaGreatDoor
namespace Go.Proofs.YtjcbmcnbdegpmaaGreatDoor
open Go Go.RowKit Go.Proofs.Gen Go.Proofs.Bdd Go.Proofs.Bdd.T
variable{R S:Nat->Prop}{a b w w':World}{v:Value}
def q6M(w:World)(p:Int)(Q:Value->World->Prop)(e:Ending)(w':World):Prop:=
 ∃sv w3,e= .returned (.agg #[sv,.int .i64 p])/\Q sv w3/\w'=(w3.setCell ⟨w.heap.size+1,0,none⟩ sv).setCell ⟨w.heap.size+1,1,none⟩ (.int .i64 p)
theorem q23(s:Nat)(r p:Int)(w:World)(Q:Value->World->Prop)
 (x: ∀c:World,mapIs c qj 3 3 (w.heap.size+1+1+1) 2 (put (put (fun _ _=>False) (ve vp 0) 0) (ve vp 1) 1)->
   Turned (w.heap.size+1+1+1) ((((w.alloc (vk #[vg s] 130)).alloc (vk #[vd none 0 0,ve vp 0] 43)).alloc (vk #[vd none 0 0] 41)).alloc (.map #[] 0)) c->
   Calls qj 142 #[ve vp r,vg c.heap.size,vg w.heap.size,vg (vw (c.heap.size+1) 0),vg (vw (w.heap.size+1+1) 0)]
    ((c.alloc (vk #[.map (some (w.heap.size+1+1+1))] 196)).alloc
      (vk #[.func (.func 142) #[] #[vg c.heap.size,vg w.heap.size,vg (vw (c.heap.size+1) 0),vg (vw (w.heap.size+1+1) 0)]] 197))
    fun e d=>e=vm (ve vp p)/\ ∃f n b,d.heap[w.heap.size+1+1]? =some (vk #[vd f n b] 41 (0,0))/\d.heap[w.heap.size+1]? =some (vk #[vd none 0 0,ve vp 0] 43 (0,0))/\Q (vd f n b) d):
 Calls qj 69 #[vg s,ve vp r] w (q6M w p Q):=by
 have z:= @run_makeMap qj;have y:=q8 x;go_enter Tryz.func69,Tryz.ntmps69;go_wp2_with (first
  |((with_reducible show wpList _ _ _ (⟨none,Op.insert _ _ _ (Y2.const (qs zD 0)),_,_,_,_⟩::_) _ _);refine uh rfl (.tmp 9) (.const (ve vp 0)) (.const (ve vp 0)) rfl law3 YO qP rfl (mapIs.made_at (by simp)) (by unfold maxLen;omega) _ _ _ rfl rfl (JR qP (xD (by omega))) (xD (by omega)) ?_;intro D m j;have l:=q8 m;have q:=q8 j)
  |((with_reducible show wpList _ _ _ (⟨none,Op.insert _ _ _ (Y2.const (qs zD 1)),_,_,_,_⟩::_) _ _);refine uh rfl (.tmp 9) (.const (ve vp 1)) (.const (ve vp 1)) rfl law3 YO qP rfl l (by unfold maxLen;omega) _ _ _ rfl rfl (JR qP (xD (by omega))) (xD (by omega)) ?_;intro c k i;have g:=q8 k;have h:=q8 i))
 refine(y c g (q.trans h)).mono ?_;rintro e d ⟨rfl,f,n,b,t,a,C⟩;have H:=cell1 (o:=0) t rfl;have u:=cell1 (o:=0) a rfl;have B:=cell1 (o:=1) a rfl;have E:=zQ a 0;have G:=zQ a 1;have A:=q8 C;go_wp2_with fail
 refine qo (v:=vi #[vd f n b,ve vp p]) (by simp [results,Tryz.results69,go_sem,u,B]) rfl ⟨_,d,rfl,A,rfl⟩
theorem xh{L:List T}(g:T.Good L)(A:L.length<1099511627776){t:T}(H:In L t)(O:t.Ok){j:Nat}(Z:IsMaker w j S L){r:Int}(hr:r=(pl L t:Nat)):
 Calls qj 69 #[vg j,ve vp r] w (q4i w t):=by
 have⟨sv,V,n,E,i,Q,hn,_⟩:=Z;have m:j<w.heap.size:=(qk.1 E).1;have rt:=room_le t;refine(q23 j r (pl (nodes t) t:Nat) w (fun v q=>q.ownsRow 0 177 3 v (nodes t).length (cellsOf (enc (nodes t)))/\Below w.heap.size w q/\q.heap[w.heap.size+1]? =some (vk #[vd none 0 0,ve vp 0] 43 (0,0))) fun a K d=> ?_).mono ?_
 .have ad:a.heap.size=w.heap.size+4:=by rw [d.size];simp
  have l: ∀k,k≠w.heap.size+1+1+1->a.heap[k]? =((((w.alloc (vk #[vg j] 130)).alloc (vk #[vd none 0 0,ve vp 0] 43)).alloc (vk #[vd none 0 0] 41)).alloc (.map #[] 0)).heap[k]? :=d.block;have o: ∀k,k<w.heap.size->a.heap[k]? =w.heap[k]? :=fun k f=>by
   rw [l k (by omega),zi _ _ _ (by simp;omega),zi _ _ _ (by simp;omega),zi _ _ _ (by simp;omega),zi _ _ _ f]
  have h0:a.heap[w.heap.size]? =some (vk #[vg j] 130 (0,0)):=by
   rw [l _ (by omega),zi _ _ _ (by simp;omega),zi _ _ _ (by simp;omega),zi _ _ _ (by simp)];exact heap_alloc_new w _
  have h1:a.heap[w.heap.size+1]? =some (vk #[vd none 0 0,ve vp 0] 43 (0,0)):=by
   rw [l _ (by omega),zi _ _ _ (by simp<;>omega),zi _ _ _ (by simp)]
   have:=heap_alloc_new (w.alloc (vk #[vg j] 130)) (vk #[vd none 0 0,ve vp 0] 43)
   simpa using this
  have h2:a.heap[w.heap.size+1+1]? =some (vk #[vd none 0 0] 41 (0,0)):=by
   rw [l _ (by omega),zi _ _ _ (by simp)]
   have:=heap_alloc_new ((w.alloc (vk #[vg j] 130)).alloc (vk #[vd none 0 0,ve vp 0] 43)) (vk #[vd none 0 0] 41)
   simpa using this
  have y:Kept (fun _=>False) a ((a.alloc (vk #[.map (some (w.heap.size+1+1+1))] 196)).alloc
   (vk #[.func (.func 142) #[] #[vg a.heap.size,vg w.heap.size,vg (vw (a.heap.size+1) 0),vg (vw (w.heap.size+1+1) 0)]] 197)):=
   ((Kept.refl _ a).alloc _).alloc _
  have hp:((a.alloc (vk #[.map (some (w.heap.size+1+1+1))] 196)).alloc
   (vk #[.func (.func 142) #[] #[vg a.heap.size,vg w.heap.size,vg (vw (a.heap.size+1) 0),vg (vw (w.heap.size+1+1) 0)]] 197)).heap[a.heap.size]? =some (vk #[.map (some (w.heap.size+1+1+1))] 196 (0,0)):=by
   rw [zi _ _ _ (by simp)];exact heap_alloc_new a _
  have M:((a.alloc (vk #[.map (some (w.heap.size+1+1+1))] 196)).alloc
   (vk #[.func (.func 142) #[] #[vg a.heap.size,vg w.heap.size,vg (vw (a.heap.size+1) 0),vg (vw (w.heap.size+1+1) 0)]] 197)).heap[a.heap.size+1]? =
   some (vk #[.func (.func 142) #[] #[vg a.heap.size,vg w.heap.size,vg (vw (a.heap.size+1) 0),vg (vw (w.heap.size+1+1) 0)]] 197 (0,0)):=by
   have:=heap_alloc_new (a.alloc (vk #[.map (some (w.heap.size+1+1+1))] 196)) (vk #[.func (.func 142) #[] #[vg a.heap.size,vg w.heap.size,vg (vw (a.heap.size+1) 0),vg (vw (w.heap.size+1+1) 0)]] 197)
   simpa using this
  have ab:((a.alloc (vk #[.map (some (w.heap.size+1+1+1))] 196)).alloc
   (vk #[.func (.func 142) #[] #[vg a.heap.size,vg w.heap.size,vg (vw (a.heap.size+1) 0),vg (vw (w.heap.size+1+1) 0)]] 197)).heap.size=w.heap.size+6:=by simp;omega
  have kw:Kept (fun k=>w.heap.size<=k) w a:=⟨by rw [d.os];rfl,by rw [d.tape];rfl,by rw [d.output];rfl,by omega,fun k f _=>o k f⟩;generalize hW:((a.alloc (vk #[.map (some (w.heap.size+1+1+1))] 196)).alloc
   (vk #[.func (.func 142) #[] #[vg a.heap.size,vg w.heap.size,vg (vw (a.heap.size+1) 0),vg (vw (w.heap.size+1+1) 0)]] 197))=W at*
  have z: ∀k,k<w.heap.size->W.heap[k]? =w.heap[k]? :=fun k f=>(y.block k (by omega) id).trans (o k f);have I:VisEnv W L j V a.heap.size w.heap.size (a.heap.size+1) (w.heap.size+1+1) (w.heap.size+1+1+1) sv:=by
   refine⟨(z j m).trans E,⟨i.1,?_⟩,hp,(y.block _ (by omega) id).trans h0,M⟩;rcases i.2 with hh|⟨U,p,J,rfl,R,P,r⟩
   .exact vu hh
   .exact vv ⟨U,p,J,rfl,R,(z U (qk.1 P).1).trans P,r⟩
  have X:VisSt W (fun k=>k=w.heap.size+1+1\/k=w.heap.size+1+1+1\/W.heap.size<=k) L [] (w.heap.size+1+1) (w.heap.size+1+1+1):=by
   refine⟨vd none 0 0,2,(y.block _ (by omega) id).trans h2,World.ownsRow_nil _ _ _ _,(K.kept y id).congr fun x u=> ?_,by simp,vu rfl,vv (vu rfl),fun k f=>by simp [zN]at f⟩;unfold Zq put;simp only [List.not_mem_nil,false_and,exists_false,or_false];constructor
   .rintro(⟨rfl,rfl⟩|⟨rfl,rfl⟩)
    .exact vv ⟨by simp,vu ⟨rfl,rfl⟩⟩
    .exact vu ⟨rfl,rfl⟩
   .rintro(⟨rfl,rfl⟩|⟨_,⟨rfl,rfl⟩|⟨_,h⟩⟩)
    .exact vv ⟨rfl,rfl⟩
    .exact vu ⟨rfl,rfl⟩
    .exact h.elim
  have c: ∀b,b<w.heap.size-> ¬(b=w.heap.size+1+1\/b=w.heap.size+1+1+1\/W.heap.size<=b):=fun b R=>by omega
  refine(KE g A t _ [] W O H .nil (fun s hs=>by cases hs) (by simp;omega) (fun k f=>vv (vv f)) ⟨c j m,by omega,by omega,by omega,fun k f=>c k (i.lt k f).2⟩ I X r hr).mono ?_;rintro e q ⟨rfl,⟨ov,n3,ho,G,Y,aa,r1,r2,r3⟩,B⟩;obtain⟨ao,p,rfl⟩:=qR G;have D:q.heap[w.heap.size+1]? =some (vk #[vd none 0 0,ve vp 0] 43 (0,0)):=(B.block _ (by omega) (by omega)).trans ((y.block _ (by omega) id).trans h1);refine⟨rfl,ao,_,p,ho,D,G,?_,D⟩;exact Kept.below ((kw.trans (y.mono fun _ _ h=>h.elim)).trans (B.mono fun k _ h=>by omega)) (qt _)
 .rintro e w' ⟨v,q,rfl,⟨G,N,C⟩,rfl⟩
  have c:=vV G C (by decide:(177:Nat)≠43);refine⟨_,rfl,⟨O,v,rfl,?_⟩,(N.setCell (by show w.heap.size<=w.heap.size+1;omega) _).setCell (by show w.heap.size<=w.heap.size+1;omega) _⟩;exact ownsRow_setCell_other (ownsRow_setCell_other G c _) c _
theorem xR(w:World):Calls qj 67 #[] w fun e a=>e=vm (vg (vw (w.heap.size+1) 0))/\
 a=(w.alloc (.map #[] 0)).alloc (vk #[vd none 0 0,.map (some w.heap.size)] 194):=by
 have b:= @run_makeMap qj;go_enter Tryz.func67,Tryz.ntmps67;go_wp2
 go_ret;exact⟨rfl,rfl⟩
theorem q6F(a:Value)(b:Int)(x:Nat)(d:(x:Int)<2)(w:World):
 Calls qj 239 #[vi #[a,ve vp b],ve vp x] w fun e c=>e=vm (vi #[ve vp 24,ve vp x,ve vp x])/\c=(w.alloc (vk #[a,ve vp b] 43)).alloc (vk #[ve vp 24,ve vp x,ve vp x] 177):=by
 go_enter Tryz.func239,Tryz.ntmps239;go_wp2
 exact qo (v:=vi #[ve vp 24,ve vp x,ve vp x]) (by simp [results,Tryz.results239,go_sem]) rfl ⟨rfl,rfl⟩
theorem q6E(g n cap:Nat)(a:Int)(x:Nat)(t:Tri)(k:2<=x)(l:x<n+2)(h:n<1099511627776)(w:World)
 (d:w.cell? (vw g ((x - 2)*3))=some (ve vp t.v)) (f:w.cell? (vw g ((x - 2)*3+1))=some (ve vp t.lo)) (i:w.cell? (vw g ((x - 2)*3+2))=some (ve vp t.hi)):
 Calls qj 239 #[vi #[vd g n cap,ve vp a],ve vp x] w fun e c=>e=vm (triV t)/\c=(w.alloc (vk #[vd g n cap,ve vp a] 43)).alloc (vk #[ve vp t.v,ve vp t.lo,ve vp t.hi] 177):=by
 have j:=qM w ⟨g,_,none⟩ d;have b: ¬(x:Int)<2:=by omega
 go_enter Tryz.func239,Tryz.ntmps239;go_wp2
 exact qo (v:=triV t) (by simp [results,Tryz.results239,go_sem,triV]) rfl ⟨rfl,rfl⟩
def OpPost(o:Option Bool)(w:World)(e:Ending)(w':World):Prop:=
 w=w'/\match o with
  |some b=>e= .returned (.tuple #[.int .i64 (b.toNat:Nat),.bool true])
  |none=> ∃r,e= .returned (.tuple #[.int .i64 r,.bool false])
def Yo(x y:Nat):Option Bool:=if x=0\/y=0 then some false else if x=1/\y=1 then some true else none
def uU(x y:Nat):Option Bool:=if x=1\/y=1 then some true else if x=0/\y=0 then some false else none
def WP(x y:Nat):Option Bool:=if x<2/\y<2 then some (x !=y)else none
theorem few(x:Nat):x=0\/x=1\/ ∃k,x=k+2:=by
 match x with
 |0=>exact vu rfl
 |1=>exact vv (vu rfl)
 |k+2=>exact vv (vv ⟨k,rfl⟩)
theorem GY(x y:Nat)(w:World):Calls qj 146 #[ve vp x,ve vp y] w (OpPost (Yo x y) w):=by
 have d: ∀k:Nat,(((k:Int)+2)==0)=false:=fun k=>by rw [beq_eq_false_iff_ne];omega
 have c: ∀k:Nat,(((k:Int)+2)==1)=false:=fun k=>by rw [beq_eq_false_iff_ne];omega
 have b: ∀k:Nat,decide (((k:Int)+2)<2)=false:=fun k=>decide_eq_false (by omega);rcases few x with rfl|rfl|⟨k,rfl⟩<;>rcases few y with rfl|rfl|⟨j,rfl⟩
 all_goals
  generalize a:Yo _ _=o;simp [Yo]at a;subst a;try simp only [Int.natCast_add]
  try simp only [Int.natCast_zero]
  try simp only [Int.natCast_one]
  try simp only [Int.cast_ofNat_Int]
  go_enter Tryz.func146,Tryz.ntmps146;go_wp2
  all_goals
   go_ret2
   first
    |exact⟨rfl,rfl⟩
    |exact⟨rfl,_,rfl⟩
theorem Kc(x y:Nat)(w:World):Calls qj 202 #[ve vp x,ve vp y] w (OpPost (uU x y) w):=by
 have d: ∀k:Nat,(((k:Int)+2)==0)=false:=fun k=>by rw [beq_eq_false_iff_ne];omega
 have c: ∀k:Nat,(((k:Int)+2)==1)=false:=fun k=>by rw [beq_eq_false_iff_ne];omega
 have b: ∀k:Nat,decide (((k:Int)+2)<2)=false:=fun k=>decide_eq_false (by omega);rcases few x with rfl|rfl|⟨k,rfl⟩<;>rcases few y with rfl|rfl|⟨j,rfl⟩
 all_goals
  generalize a:uU _ _=o;simp [uU]at a;subst a;try simp only [Int.natCast_add]
  try simp only [Int.natCast_zero]
  try simp only [Int.natCast_one]
  try simp only [Int.cast_ofNat_Int]
  go_enter Tryz.func202,Tryz.ntmps202;go_wp2
  all_goals
   go_ret2
   first
    |exact⟨rfl,rfl⟩
    |exact⟨rfl,_,rfl⟩
theorem q1d(x y:Nat)(w:World):Calls qj 264 #[ve vp x,ve vp y] w (OpPost (WP x y) w):=by
 have d: ∀k:Nat,(((k:Int)+2)==0)=false:=fun k=>by rw [beq_eq_false_iff_ne];omega
 have c: ∀k:Nat,(((k:Int)+2)==1)=false:=fun k=>by rw [beq_eq_false_iff_ne];omega
 have b: ∀k:Nat,decide (((k:Int)+2)<2)=false:=fun k=>decide_eq_false (by omega);rcases few x with rfl|rfl|⟨k,rfl⟩<;>rcases few y with rfl|rfl|⟨j,rfl⟩
 all_goals
  generalize a:WP _ _=o;simp [WP]at a;subst a;try simp only [Int.natCast_add]
  try simp only [Int.natCast_zero]
  try simp only [Int.natCast_one]
  try simp only [Int.cast_ofNat_Int]
  go_enter Tryz.func264,Tryz.ntmps264;go_wp2
  all_goals
   go_ret2
   first
    |exact⟨rfl,rfl⟩
    |exact⟨rfl,_,rfl⟩
def atTZz(L:List T):T->Tri
 | .leaf b=>⟨24,b.toNat,b.toNat⟩
 | .node i l h=>⟨i,pl L l,pl L h⟩
theorem pl_leaf(L:List T)(b:Bool):pl L (leaf b)=b.toNat:=by cases b<;>rfl
theorem Wq{L:List T}(c:L.length<1099511627776)(n:w.ownsRow 0 177 3 v L.length (cellsOf (enc L))){t:T}(d:In L t)(f:Int){x:Int}(r:x=(pl L t:Nat)):
 Calls qj 239 #[vi #[v,ve vp f],ve vp x] w fun e m=>e=vm (triV (atTZz L t))/\m=(w.alloc (vk #[v,ve vp f] 43)).alloc (vk #[ve vp (atTZz L t).v,ve vp (atTZz L t).lo,ve vp (atTZz L t).hi] 177):=by
 subst r
 cases t with
 |leaf b=>
  refine(q6F v f (pl L (leaf b)) (by rw [pl_leaf];cases b<;>decide) w).mono ?_;rintro e m ⟨rfl,rfl⟩;rw [pl_leaf];exact⟨rfl,rfl⟩
 |node i l h=>
  have k:(enc L)[pl L (node i l h) - 2]? =some (en L (node i l h)):=by simp [enc,Zs (L:=L) (i:=i) (l:=l) (h:=h) d]
  have a:(enc L).length=L.length:=by simp [enc]
  obtain⟨g,j,rfl,q,o,p⟩:=vI (by rw [a];exact n) k;rw [a];exact q6E g L.length j f (pl L (node i l h)) (en L (node i l h)) (kF i l h) (wt d) c w q o p
def Near(w w':World):Prop:=Kept (fun _=>False) w w'
theorem Near.refl(w:World):Near w w:=Kept.refl _ _
theorem Near.trans{c:World}(h:Near a b)(k:Near b c):Near a c:=Kept.trans h k
theorem Near.drew(h:Near a b):Near a b.drew:=Kept.drew h
theorem Near.drewN(h:Near a b)(n:Nat):Near a (b.drewN n):=Kept.drewN h n
theorem Near.alloc(h:Near a b)(o:Obj):Near a (b.alloc o):=Kept.alloc h o
theorem Near.of_below(h:Below a.heap.size a b):Near a b:=⟨h.os,h.tape,h.output,h.size,fun k c _=>h.block k c⟩
theorem Near.below(h:Near a b):Below a.heap.size a b:=⟨h.os,h.tape,h.output,h.size,fun k c=>h.block k c id⟩
theorem Near.kept(h:Near a b):Kept S a b:=Kept.mono h (fun _ _ f=>f.elim)
theorem Near.cell(h:Near a b){k o:Nat}(c:a.cell? (vw k o)=some v):b.cell? (vw k o)=some v:=Kept.cell h c id
theorem Near.set(h:Near a b){p:Addr}(d:a.heap.size<=p.block)(u:Value):Near a (b.setCell p u):=Kept.setCell h (fun c=>by omega) u
def RetI(f:FuncId)(args:Array Value)(w:World)(C:Int->World->Prop):Prop:=
 Calls qj f args w fun e w'=> ∃r:Int,e= .returned (.int .i64 r)/\C r w'
def Loc(R:Nat->Prop)(w w1:World)(k:Nat):Prop:=R k/\ ¬(w.heap.size<=k/\k<w1.heap.size)
def q8o(sk:Nat)(key:Value)(Fin:Int->Nat->(Value->Int->Prop)->World->Prop)(e:Ending)(w':World):Prop:=
 ∃r n M w7,e= .returned (.int .i64 r)/\Fin r n M w7/\mapIs w' qj 247 3 sk (n+1) (put M key r)/\Turned sk w7 w'
def q4g(w:World)(v1 l1 h1 v2 l2 h2:Int)(s14 s15:Value)(wx:World):Prop:=
 ∃g1 g2,s14= .pointer (some ⟨g1,0,none⟩)/\s15= .pointer (some ⟨g2,0,none⟩)/\g1≠g2/\w.heap.size<=g1/\w.heap.size<=g2/\
  wx.heap[g1]? =some (.cells #[.int .i64 v1,.int .i64 l1,.int .i64 h1] 177 (0,0))/\wx.heap[g2]? =some (.cells #[.int .i64 v2,.int .i64 l2,.int .i64 h2] 177 (0,0))/\Near w wx
theorem q1A(F:Nat)(R:Nat→Prop)(c G s n:Nat)(C E:Value)(ra rb:Int)(x y:Nat)(kl:Lit)(v1 l1 h1 v2 l2 h2 z t k l i:Int)(M:Value→Int→Prop)(w:World)
 (ao:Int→Nat→(Value→Int→Prop)→World→Prop)
 (I:w.heap[c]? =some (vk #[vg G,C,ve vp ra,E,ve vp rb,.map (some s)] 260 (0,0)))
 (ay: ∀ae a,(callFunc F ae).run qj a= .ok (.enter F ae) a)
 (aq: ∀a,Calls qj F #[ve vp x,ve vp y] a (OpPost none a))
 (S:mapIs w qj 247 3 s n M) (hM: ∀u,¬M (vi #[ve vp x,ve vp y]) u) (J:keyOf qj 247 (vi #[ve vp x,ve vp y])=some kl)
 (ha: ∀a,Near w a→Calls qj 239 #[vi #[C,ve vp ra],ve vp x] a fun e aj=>e=vm (vi #[ve vp v1,ve vp l1,ve vp h1])∧aj=(a.alloc (vk #[C,ve vp ra] 43)).alloc (vk #[ve vp v1,ve vp l1,ve vp h1] 177))
 (hb: ∀a,Near w a→Calls qj 239 #[vi #[E,ve vp rb],ve vp y] a fun e aj=>e=vm (vi #[ve vp v2,ve vp l2,ve vp h2])∧aj=(a.alloc (vk #[E,ve vp rb] 43)).alloc (vk #[ve vp v2,ve vp l2,ve vp h2] 177))
 (hR: ¬R c)
 (al:(v1<v2∧i=v1∧z=l1∧k=h1∧t=y∧l=y)∨(v1=v2∧i=v1∧z=l1∧k=h1∧t=l2∧l=h2)∨(v2<v1∧i=v2∧z=x∧k=x∧t=l2∧l=h2))
 (H: ∀w1,Near w w1→RetI 200 #[vg c,ve vp z,ve vp t,.func (.func F) #[] #[]] w1 fun r0 w2=>Kept (Loc R w w1) w1 w2∧
   ∀w3,Near w2 w3→RetI 200 #[vg c,ve vp k,ve vp l,.func (.func F) #[] #[]] w3 fun r1 w4=>Kept (Loc R w w1) w3 w4∧
   ∀w5,Near w4 w5→RetI 68 #[vg G,ve vp i,ve vp r0,ve vp r1] w5 fun r g=>Kept (Loc R w w1) w5 g∧(xI vp r).wf=true∧
   ∃n M,n<1099511627776∧mapIs g qj 247 3 s n M∧ ∀w7,Near g w7→ao r n M w7):
 Calls qj 200 #[vg c,ve vp x,ve vp y,.func (.func F) #[] #[]] w (q8o s (vi #[ve vp x,ve vp y]) ao):=by
 have c0:w.cell? c=some (vg G):=cell1 I rfl;have c1:w.cell? (vw c 1)=some (C):=cell1 I rfl;have c2:w.cell? (vw c 2)=some (ve vp ra):=cell1 I rfl;have c3:w.cell? (vw c 3)=some (E):=cell1 I rfl;have c4:w.cell? (vw c 4)=some (ve vp rb):=cell1 I rfl;have c5:w.cell? (vw c 5)=some (.map (some s)):=cell1 I rfl;have a0:=qM w ⟨c,0,none⟩ c0;have an:=S.lt;have hr: ∀(m:Nat),(yu 258 (.map (some s)) (vi #[ve vp x,ve vp y]) true).run qj ((w.alloc (vk #[ve vp x,ve vp y] 247)).drewN m)= .ok (.tuple #[ve vp 0,vj false]) ((w.alloc (vk #[ve vp x,ve vp y] 247)).drewN m):=
  fun m=>mapIs.miss (((S.of_block (w':=w.alloc (vk #[ve vp x,ve vp y] 247)) (zi w _ s an)).drewN m)) QH YN qP (zero3 _) J hM
 have HP:=q8 I;have ap:=q8 aq;have HA:=q8 ha;have HB:=q8 hb;have HH:=q8 H;have HC:=q8 al;have av:=q8 S;go_enter Tryz.func200,Tryz.ntmps200;go_wp2_with fail
 refine(ap _).mono ?_;rintro e a ⟨rfl,r,rfl⟩;go_wp2_with fail
 go_quiet (fail)
 go_upto_region 8 with fail
 have p: ∀a,Near w a→a.cell? (vw c 1)=some C∧a.cell? (vw c 2)=some (ve vp ra)∧a.cell? (vw c 3)=some E∧a.cell? (vw c 4)=some (ve vp rb)∧Near w a:=
  fun a h=>⟨h.cell c1,h.cell c2,h.cell c3,h.cell c4,h⟩
 go_cut [14,15] (fun au ar wx=>q4g (w.alloc (vk #[ve vp x,ve vp y] 247)) v1 l1 h1 v2 l2 h2 au ar wx)
 case first=>
  go_region_held3 (fun a=>a.cell? (vw c 1)=some C∧a.cell? (vw c 2)=some (ve vp ra)∧a.cell? (vw c 3)=some E∧a.cell? (vw c 4)=some (ve vp rb)∧Near w a)
   ((refine p _ ?_;repeat(first|exact Near.refl _|refine Near.drew ?_|refine Near.alloc ?_ _|refine Near.drewN ?_ _)))
   (first
     |(go_at_call_of 239 (uP #[C,qs zD ra]);refine(HA _ (‹_∧_∧_∧_∧Near w _›).2.2.2.2).mono ?_;rintro e a ⟨rfl,rfl⟩)
     |(go_at_call_of 239 (uP #[E,qs zD rb]);refine(HB _ (‹_∧_∧_∧_∧Near w _›).2.2.2.2).mono ?_;rintro e a ⟨rfl,rfl⟩))
  all_goals
   go_wp2_with fail
   go_meet
   refine⟨_,_,rfl,rfl,?_,?_,?_,?_,?_,?_⟩
   ·first|omega|(simp;done)
   ·simp<;>omega
   ·simp<;>omega
   ·repeat(first|(refine heap_new_at ?_;(simp;done))|rw [heap_at_drewN]|refine(qD (by simp<;>omega)).trans ?_)
   ·repeat(first|(refine heap_new_at ?_;(simp;done))|rw [heap_at_drewN]|refine(qD (by simp<;>omega)).trans ?_)
   ·repeat(first|exact Near.refl _|refine Near.drew ?_|refine Near.alloc ?_ _|refine Near.drewN ?_ _)
 case rest=>
  obtain⟨g1,g2,rfl,rfl,aw,a8,ax,ag,ai,D⟩:=hcut;have ah:Near w wc:=Near.trans ((Near.refl w).alloc _) D;have k0:wc.cell? w.heap.size=some (ve vp x):=D.cell (by simp);have k1:wc.cell? (vw w.heap.size 1)=some (ve vp y):=D.cell (by simp);have d0:wc.cell? g1=some (ve vp v1):=cell1 ag rfl;have d1:wc.cell? (vw g1 1)=some (ve vp l1):=cell1 ag rfl;have d2:wc.cell? (vw g1 2)=some (ve vp h1):=cell1 ag rfl;have e0:wc.cell? g2=some (ve vp v2):=cell1 ai rfl;have e1:wc.cell? (vw g2 1)=some (ve vp l2):=cell1 ai rfl;have e2:wc.cell? (vw g2 2)=some (ve vp h2):=cell1 ai rfl;have a7:g1<wc.heap.size:=qM wc ⟨g1,0,none⟩ d0;have az:g2<wc.heap.size:=qM wc ⟨g2,0,none⟩ e0;have am:=c0;have ak:=c5;have hC:=HC.out;rcases hC with⟨hv,rfl,rfl,rfl,rfl,rfl⟩|⟨rfl,rfl,rfl,rfl,rfl,rfl⟩|⟨hv,rfl,rfl,rfl,rfl,rfl⟩
  ·go_upto_region 15 with fail
   go_region
   all_goals(go_upto_region 15 with fail)
   go_wp2_with fail
   have j:Near w (((wc.alloc (vk #[ve vp z,ve vp y] 247)).alloc (vk #[ve vp k,ve vp y] 247)).drew):=by repeat(first|exact ah|refine Near.drew ?_|refine Near.alloc ?_ _)
   have t0:(((wc.alloc (vk #[ve vp z,ve vp y] 247)).alloc (vk #[ve vp k,ve vp y] 247)).drew).cell? (vw (wc.heap.size+1) 0)=some (ve vp k):=by simp
   have t1:(((wc.alloc (vk #[ve vp z,ve vp y] 247)).alloc (vk #[ve vp k,ve vp y] 247)).drew).cell? (vw (wc.heap.size+1) 1)=some (ve vp y):=by simp
   have m0:(((wc.alloc (vk #[ve vp z,ve vp y] 247)).alloc (vk #[ve vp k,ve vp y] 247)).drew).cell? w.heap.size=some (ve vp x):=Near.cell (by repeat(first|exact Near.refl _|refine Near.drew ?_|refine Near.alloc ?_ _)) k0;have m1:(((wc.alloc (vk #[ve vp z,ve vp y] 247)).alloc (vk #[ve vp k,ve vp y] 247)).drew).cell? (vw w.heap.size 1)=some (ve vp y):=Near.cell (by repeat(first|exact Near.refl _|refine Near.drew ?_|refine Near.alloc ?_ _)) k1;have A:wc.heap.size+1<(((wc.alloc (vk #[ve vp z,ve vp y] 247)).alloc (vk #[ve vp k,ve vp y] 247)).drew).heap.size:=by simp
   generalize((wc.alloc (vk #[ve vp z,ve vp y] 247)).alloc (vk #[ve vp k,ve vp y] 247)).drew=q at j t0 t1 m0 m1 A⊢;refine(HH q j).mono ?_;rintro e w2 ⟨r0,rfl,aa,U⟩;have L:=q8 U;have af: ∀f d,Kept (Loc R w q) f d→(∀b o v,f.cell? (vw b o)=some v→ ¬Loc R w q b→d.cell? (vw b o)=some v):=fun f d h b o v hc D=>h.cell hc D;have lk: ¬Loc R w q w.heap.size:=fun h=>h.2 ⟨qt _,by have:=D.size;simp at this;omega⟩;have lt: ¬Loc R w q (wc.heap.size+1):=fun h=>h.2 ⟨by have:=D.size;simp at this;omega,A⟩;have lp: ¬Loc R w q c:=fun h=>hR h.1;have p: ∀f d,Kept (Loc R w q) f d→(f.cell? c=some (vg G)∧f.cell? (vw c 5)=some (.map (some s))∧f.cell? (vw (wc.heap.size+1) 0)=some (ve vp k)∧f.cell? (vw (wc.heap.size+1) 1)=some (ve vp y)∧f.cell? w.heap.size=some (ve vp x)∧f.cell? (vw w.heap.size 1)=some (ve vp y))→
    (d.cell? c=some (vg G)∧d.cell? (vw c 5)=some (.map (some s))∧d.cell? (vw (wc.heap.size+1) 0)=some (ve vp k)∧d.cell? (vw (wc.heap.size+1) 1)=some (ve vp y)∧d.cell? w.heap.size=some (ve vp x)∧d.cell? (vw w.heap.size 1)=some (ve vp y)):=
    fun f d h ⟨a1,a2,a3,a4,a5,a6⟩=>⟨h.cell a1 lp,h.cell a2 lp,h.cell a3 lt,h.cell a4 lt,h.cell a5 lk,h.cell a6 lk⟩
   have s2:=p _ _ aa ⟨j.cell am,j.cell ak,t0,t1,m0,m1⟩;go_upto_region 16 with fail
   go_region_held3 (fun a=>a.cell? c=some (vg G)∧a.cell? (vw c 5)=some (.map (some s))∧a.cell? (vw (wc.heap.size+1) 0)=some (ve vp k)∧a.cell? (vw (wc.heap.size+1) 1)=some (ve vp y)∧a.cell? w.heap.size=some (ve vp x)∧a.cell? (vw w.heap.size 1)=some (ve vp y))
    (first
      |exact s2
      |exact p _ _ X ‹_∧_∧_∧_∧_∧_›
      |exact p _ _ W ‹_∧_∧_∧_∧_∧_›)
    (first
      |(go_at_call 200;refine(L _ (Near.drew (Near.refl _))).mono ?_;rintro e w4 ⟨r1,rfl,X,P⟩;have V:=q8 P)
      |(go_at_call 68;refine(V _ (Near.refl _)).mono ?_;rintro e g ⟨r,rfl,W,Y,n6,M6,Z,O,B⟩;have HF:=q8 B;have N:=q8 O;have Q:=q8 Z;have ad:=q8 Y))
   obtain⟨z0,z5,_,_,z8,z9⟩:g.cell? c=some (vg G)∧g.cell? (vw c 5)=some (.map (some s))∧g.cell? (vw (wc.heap.size+1) 0)=some (ve vp k)∧g.cell? (vw (wc.heap.size+1) 1)=some (ve vp y)∧g.cell? w.heap.size=some (ve vp x)∧g.cell? (vw w.heap.size 1)=some (ve vp y):=by assumption
   go_wp2_with fail
   go_still_tail 6,(by kernel_rfl)
   change wpList _ _ _ _ _ g.drew;refine jW rfl (.tmp 111) (.tmp 112) (.tmp 113) rfl QH YN qP rfl (N.drewN 1) (by unfold maxLen;have:=Q.out;omega) _ _ kl rfl rfl J ad ?_;intro w8 K ab;go_wp2_with fail
   go_ret;exact⟨r,n6,M6,g.drew,rfl,HF _ (Near.refl _).drew,K,ab⟩
  ·go_upto_region 15 with fail
   go_region
   all_goals(go_upto_region 15 with fail)
   all_goals go_region
   all_goals(go_upto_region 15 with fail)
   go_wp2_with fail
   have j:Near w (((wc.alloc (vk #[ve vp z,ve vp t] 247)).alloc (vk #[ve vp k,ve vp l] 247)).drew.drew):=by repeat(first|exact ah|refine Near.drew ?_|refine Near.alloc ?_ _)
   have t0:(((wc.alloc (vk #[ve vp z,ve vp t] 247)).alloc (vk #[ve vp k,ve vp l] 247)).drew.drew).cell? (vw (wc.heap.size+1) 0)=some (ve vp k):=by simp
   have t1:(((wc.alloc (vk #[ve vp z,ve vp t] 247)).alloc (vk #[ve vp k,ve vp l] 247)).drew.drew).cell? (vw (wc.heap.size+1) 1)=some (ve vp l):=by simp
   have m0:(((wc.alloc (vk #[ve vp z,ve vp t] 247)).alloc (vk #[ve vp k,ve vp l] 247)).drew.drew).cell? w.heap.size=some (ve vp x):=Near.cell (by repeat(first|exact Near.refl _|refine Near.drew ?_|refine Near.alloc ?_ _)) k0;have m1:(((wc.alloc (vk #[ve vp z,ve vp t] 247)).alloc (vk #[ve vp k,ve vp l] 247)).drew.drew).cell? (vw w.heap.size 1)=some (ve vp y):=Near.cell (by repeat(first|exact Near.refl _|refine Near.drew ?_|refine Near.alloc ?_ _)) k1;have A:wc.heap.size+1<(((wc.alloc (vk #[ve vp z,ve vp t] 247)).alloc (vk #[ve vp k,ve vp l] 247)).drew.drew).heap.size:=by simp
   generalize((wc.alloc (vk #[ve vp z,ve vp t] 247)).alloc (vk #[ve vp k,ve vp l] 247)).drew.drew=q at j t0 t1 m0 m1 A⊢;refine(HH q j).mono ?_;rintro e w2 ⟨r0,rfl,aa,U⟩;have L:=q8 U;have af: ∀f d,Kept (Loc R w q) f d→(∀b o v,f.cell? (vw b o)=some v→ ¬Loc R w q b→d.cell? (vw b o)=some v):=fun f d h b o v hc D=>h.cell hc D;have lk: ¬Loc R w q w.heap.size:=fun h=>h.2 ⟨qt _,by have:=D.size;simp at this;omega⟩;have lt: ¬Loc R w q (wc.heap.size+1):=fun h=>h.2 ⟨by have:=D.size;simp at this;omega,A⟩;have lp: ¬Loc R w q c:=fun h=>hR h.1;have p: ∀f d,Kept (Loc R w q) f d→(f.cell? c=some (vg G)∧f.cell? (vw c 5)=some (.map (some s))∧f.cell? (vw (wc.heap.size+1) 0)=some (ve vp k)∧f.cell? (vw (wc.heap.size+1) 1)=some (ve vp l)∧f.cell? w.heap.size=some (ve vp x)∧f.cell? (vw w.heap.size 1)=some (ve vp y))→
    (d.cell? c=some (vg G)∧d.cell? (vw c 5)=some (.map (some s))∧d.cell? (vw (wc.heap.size+1) 0)=some (ve vp k)∧d.cell? (vw (wc.heap.size+1) 1)=some (ve vp l)∧d.cell? w.heap.size=some (ve vp x)∧d.cell? (vw w.heap.size 1)=some (ve vp y)):=
    fun f d h ⟨a1,a2,a3,a4,a5,a6⟩=>⟨h.cell a1 lp,h.cell a2 lp,h.cell a3 lt,h.cell a4 lt,h.cell a5 lk,h.cell a6 lk⟩
   have s2:=p _ _ aa ⟨j.cell am,j.cell ak,t0,t1,m0,m1⟩;go_upto_region 16 with fail
   go_region_held3 (fun a=>a.cell? c=some (vg G)∧a.cell? (vw c 5)=some (.map (some s))∧a.cell? (vw (wc.heap.size+1) 0)=some (ve vp k)∧a.cell? (vw (wc.heap.size+1) 1)=some (ve vp l)∧a.cell? w.heap.size=some (ve vp x)∧a.cell? (vw w.heap.size 1)=some (ve vp y))
    (first
      |exact s2
      |exact p _ _ X ‹_∧_∧_∧_∧_∧_›
      |exact p _ _ W ‹_∧_∧_∧_∧_∧_›)
    (first
      |(go_at_call 200;refine(L _ (Near.drew (Near.refl _))).mono ?_;rintro e w4 ⟨r1,rfl,X,P⟩;have V:=q8 P)
      |(go_at_call 68;refine(V _ (Near.refl _)).mono ?_;rintro e g ⟨r,rfl,W,Y,n6,M6,Z,O,B⟩;have HF:=q8 B;have N:=q8 O;have Q:=q8 Z;have ad:=q8 Y))
   obtain⟨z0,z5,_,_,z8,z9⟩:g.cell? c=some (vg G)∧g.cell? (vw c 5)=some (.map (some s))∧g.cell? (vw (wc.heap.size+1) 0)=some (ve vp k)∧g.cell? (vw (wc.heap.size+1) 1)=some (ve vp l)∧g.cell? w.heap.size=some (ve vp x)∧g.cell? (vw w.heap.size 1)=some (ve vp y):=by assumption
   go_wp2_with fail
   go_still_tail 6,(by kernel_rfl)
   change wpList _ _ _ _ _ g.drew;refine jW rfl (.tmp 111) (.tmp 112) (.tmp 113) rfl QH YN qP rfl (N.drewN 1) (by unfold maxLen;have:=Q.out;omega) _ _ kl rfl rfl J ad ?_;intro w8 K ab;go_wp2_with fail
   go_ret;exact⟨r,n6,M6,g.drew,rfl,HF _ (Near.refl _).drew,K,ab⟩
  ·go_upto_region 15 with fail
   go_region
   all_goals(go_upto_region 15 with fail)
   go_wp2_with fail
   have j:Near w (((wc.alloc (vk #[ve vp x,ve vp t] 247)).alloc (vk #[ve vp x,ve vp l] 247)).drew):=by repeat(first|exact ah|refine Near.drew ?_|refine Near.alloc ?_ _)
   have t0:(((wc.alloc (vk #[ve vp x,ve vp t] 247)).alloc (vk #[ve vp x,ve vp l] 247)).drew).cell? (vw (wc.heap.size+1) 0)=some (ve vp x):=by simp
   have t1:(((wc.alloc (vk #[ve vp x,ve vp t] 247)).alloc (vk #[ve vp x,ve vp l] 247)).drew).cell? (vw (wc.heap.size+1) 1)=some (ve vp l):=by simp
   have m0:(((wc.alloc (vk #[ve vp x,ve vp t] 247)).alloc (vk #[ve vp x,ve vp l] 247)).drew).cell? w.heap.size=some (ve vp x):=Near.cell (by repeat(first|exact Near.refl _|refine Near.drew ?_|refine Near.alloc ?_ _)) k0;have m1:(((wc.alloc (vk #[ve vp x,ve vp t] 247)).alloc (vk #[ve vp x,ve vp l] 247)).drew).cell? (vw w.heap.size 1)=some (ve vp y):=Near.cell (by repeat(first|exact Near.refl _|refine Near.drew ?_|refine Near.alloc ?_ _)) k1;have A:wc.heap.size+1<(((wc.alloc (vk #[ve vp x,ve vp t] 247)).alloc (vk #[ve vp x,ve vp l] 247)).drew).heap.size:=by simp
   generalize((wc.alloc (vk #[ve vp x,ve vp t] 247)).alloc (vk #[ve vp x,ve vp l] 247)).drew=q at j t0 t1 m0 m1 A⊢;refine(HH q j).mono ?_;rintro e w2 ⟨r0,rfl,aa,U⟩;have L:=q8 U;have af: ∀f d,Kept (Loc R w q) f d→(∀b o v,f.cell? (vw b o)=some v→ ¬Loc R w q b→d.cell? (vw b o)=some v):=fun f d h b o v hc D=>h.cell hc D;have lk: ¬Loc R w q w.heap.size:=fun h=>h.2 ⟨qt _,by have:=D.size;simp at this;omega⟩;have lt: ¬Loc R w q (wc.heap.size+1):=fun h=>h.2 ⟨by have:=D.size;simp at this;omega,A⟩;have lp: ¬Loc R w q c:=fun h=>hR h.1;have p: ∀f d,Kept (Loc R w q) f d→(f.cell? c=some (vg G)∧f.cell? (vw c 5)=some (.map (some s))∧f.cell? (vw (wc.heap.size+1) 0)=some (ve vp x)∧f.cell? (vw (wc.heap.size+1) 1)=some (ve vp l)∧f.cell? w.heap.size=some (ve vp x)∧f.cell? (vw w.heap.size 1)=some (ve vp y))→
    (d.cell? c=some (vg G)∧d.cell? (vw c 5)=some (.map (some s))∧d.cell? (vw (wc.heap.size+1) 0)=some (ve vp x)∧d.cell? (vw (wc.heap.size+1) 1)=some (ve vp l)∧d.cell? w.heap.size=some (ve vp x)∧d.cell? (vw w.heap.size 1)=some (ve vp y)):=
    fun f d h ⟨a1,a2,a3,a4,a5,a6⟩=>⟨h.cell a1 lp,h.cell a2 lp,h.cell a3 lt,h.cell a4 lt,h.cell a5 lk,h.cell a6 lk⟩
   have s2:=p _ _ aa ⟨j.cell am,j.cell ak,t0,t1,m0,m1⟩;go_upto_region 16 with fail
   go_region_held3 (fun a=>a.cell? c=some (vg G)∧a.cell? (vw c 5)=some (.map (some s))∧a.cell? (vw (wc.heap.size+1) 0)=some (ve vp x)∧a.cell? (vw (wc.heap.size+1) 1)=some (ve vp l)∧a.cell? w.heap.size=some (ve vp x)∧a.cell? (vw w.heap.size 1)=some (ve vp y))
    (first
      |exact s2
      |exact p _ _ X ‹_∧_∧_∧_∧_∧_›
      |exact p _ _ W ‹_∧_∧_∧_∧_∧_›)
    (first
      |(go_at_call 200;refine(L _ (Near.drew (Near.refl _))).mono ?_;rintro e w4 ⟨r1,rfl,X,P⟩;have V:=q8 P)
      |(go_at_call 68;refine(V _ (Near.refl _)).mono ?_;rintro e g ⟨r,rfl,W,Y,n6,M6,Z,O,B⟩;have HF:=q8 B;have N:=q8 O;have Q:=q8 Z;have ad:=q8 Y))
   obtain⟨z0,z5,_,_,z8,z9⟩:g.cell? c=some (vg G)∧g.cell? (vw c 5)=some (.map (some s))∧g.cell? (vw (wc.heap.size+1) 0)=some (ve vp x)∧g.cell? (vw (wc.heap.size+1) 1)=some (ve vp l)∧g.cell? w.heap.size=some (ve vp x)∧g.cell? (vw w.heap.size 1)=some (ve vp y):=by assumption
   go_wp2_with fail
   go_still_tail 6,(by kernel_rfl)
   change wpList _ _ _ _ _ g.drew;refine jW rfl (.tmp 111) (.tmp 112) (.tmp 113) rfl QH YN qP rfl (N.drewN 1) (by unfold maxLen;have:=Q.out;omega) _ _ kl rfl rfl J ad ?_;intro w8 K ab;go_wp2_with fail
   go_ret;exact⟨r,n6,M6,g.drew,rfl,HF _ (Near.refl _).drew,K,ab⟩
structure q7B(F:Nat)(bop:Bool->Bool->Bool)(sc:Nat->Nat->Option Bool):Prop where
 enters: ∀args w,(callFunc F args).run qj w= .ok (.enter F args) w
 calls: ∀(x y:Nat) w,Calls qj F #[.int .i64 x,.int .i64 y] w (OpPost (sc x y) w)
 sound: ∀x y b,sc x y=some b-> ∀p q:Bool,(x=0->p=false)->(x=1->p=true)->(y=0->q=false)->(y=1->q=true)->bop p q=b
 open_: ∀x y,sc x y=none-> ¬(x<2/\y<2)
theorem q5O:q7B 146 (fun p q=>p&&q) Yo where
 enters:=j3 Tryz.func146 (by kernel_rfl) rfl
 calls:=GY
 sound x y b h p q h1 h2 h3 h4:=by
  unfold Yo at h;split at h
  .rename_i a
   cases h;rcases a with a|a
   .rw [h1 a];rfl
   .rw [h3 a];cases p<;>rfl
  .split at h
   .rename_i a
    cases h;rw [h2 a.1,h4 a.2];rfl
   .cases h
 open_ x y h:=by
  unfold Yo at h;split at h
  .cases h
  .split at h
   .cases h
   .omega
theorem q1a:q7B 202 (fun p q=>p||q) uU where
 enters:=j3 Tryz.func202 (by kernel_rfl) rfl
 calls:=Kc
 sound x y b h p q h1 h2 h3 h4:=by
  unfold uU at h;split at h
  .rename_i a
   cases h;rcases a with a|a
   .rw [h2 a];rfl
   .rw [h4 a];cases p<;>rfl
  .split at h
   .rename_i a
    cases h;rw [h1 a.1,h3 a.2];rfl
   .cases h
 open_ x y h:=by
  unfold uU at h;split at h
  .cases h
  .split at h
   .cases h
   .omega
theorem q7e:q7B 264 (fun p q=>p !=q) WP where
 enters:=j3 Tryz.func264 (by kernel_rfl) rfl
 calls:=q1d
 sound x y b h p q h1 h2 h3 h4:=by
  unfold WP at h;split at h
  .rename_i d
   cases h;have c:x=0\/x=1:=by omega
   have a:y=0\/y=1:=by omega
   rcases c with rfl|rfl<;>rcases a with rfl|rfl
   .rw [h1 rfl,h3 rfl];rfl
   .rw [h1 rfl,h4 rfl];rfl
   .rw [h2 rfl,h3 rfl];rfl
   .rw [h2 rfl,h4 rfl];rfl
  .cases h
 open_ x y h:=by
  unfold WP at h;split at h
  .cases h
  .assumption
theorem YB(F g:Nat)(x y:Nat)(b:Bool)(w:World)(h: ∀c a,(callFunc F c).run qj a= .ok (.enter F c) a)
 (f: ∀a,Calls qj F #[ve vp x,ve vp y] a (OpPost (some b) a)):
 Calls qj 200 #[vg g,ve vp x,ve vp y,.func (.func F) #[] #[]] w fun e a=>e=vm (ve vp (b.toNat:Nat))/\w=a:=by
 have d:=q8 f;go_enter Tryz.func200,Tryz.ntmps200;go_wp2_with fail
 refine(d _).mono ?_;rintro e a ⟨rfl,rfl⟩;go_wp2_with fail
 go_ret;exact⟨rfl,rfl⟩
theorem q3P(F h v d n:Nat)(k j:Value)(q B u:Int)(x y:Nat)(p:Lit)(M:Value->Int->Prop)(w:World)(s: ∀b a,(callFunc F b).run qj a= .ok (.enter F b) a)
 (l: ∀a,Calls qj F #[ve vp x,ve vp y] a (OpPost none a))
 (o:w.heap[h]? =some (vk #[vg v,k,ve vp q,j,ve vp B,.map (some d)] 260 (0,0)))
 (c:mapIs w qj 247 3 d n M) (z:M (vi #[ve vp x,ve vp y]) u) (g:keyOf qj 247 (vi #[ve vp x,ve vp y])=some p):
 Calls qj 200 #[vg h,ve vp x,ve vp y,.func (.func F) #[] #[]] w fun e a=>e=vm (ve vp u)/\Near w a:=by
 have t:w.cell? (vw h 5)=some (.map (some d)):=cell1 o rfl;have A:=qM w ⟨h,5,none⟩ t;have f:=c.lt;have C: ∀(m:Nat),(yu 258 (.map (some d)) (vi #[ve vp x,ve vp y]) true).run qj ((w.alloc (vk #[ve vp x,ve vp y] 247)).drewN m)= .ok (.tuple #[ve vp u,vj true]) ((w.alloc (vk #[ve vp x,ve vp y] 247)).drewN m):=
  fun m=>mapIs.hit (((c.of_block (w':=w.alloc (vk #[ve vp x,ve vp y] 247)) (zi w _ d f)).drewN m)) QH YN qP (zero3 _) g z
 have i:=q8 l;go_enter Tryz.func200,Tryz.ntmps200;go_wp2_with fail
 refine(i _).mono ?_;rintro e a ⟨rfl,r,rfl⟩;go_wp2_with fail
 go_quiet (fail)
 go_wp2_with fail
 go_ret;exact⟨rfl,((Near.refl w).alloc _).drewN _⟩
structure JEnv(w:World)(pb mb sk:Nat)(asv bsv:Value)(ra rb:Int)(La Lb:List T):Prop where
 pbk:w.heap[pb]? =some (.cells #[.pointer (some ⟨mb,0,none⟩),asv,.int .i64 ra,bsv,.int .i64 rb,.map (some sk)] 260 (0,0))
 rowa:w.ownsRow 0 177 3 asv La.length (cellsOf (enc La))
 rowb:w.ownsRow 0 177 3 bsv Lb.length (cellsOf (enc Lb))
theorem owns_kept{base e a n:Nat}{f:List Value}(h:w.ownsRow base e a v n f)(j:Kept R w w')(l: ∀k,v.ownBlock=some k-> ¬R k):w'.ownsRow base e a v n f:=by
 refine⟨h.1,?_⟩;rcases h.2 with m|⟨g,b,c,rfl,i,d,r⟩
 .exact vu m
 .exact vv ⟨g,b,c,rfl,i,(j.block g (qk.1 d).1 (l g rfl)).trans d,r⟩
theorem JEnv.kept{c l i:Nat}{b a:Value}{f m:Int}{g j:List T}(h:JEnv w c l i b a f m g j)(d:Kept R w w')
 (e: ¬R c/\(∀k,b.ownBlock=some k-> ¬R k)/\ ∀k,a.ownBlock=some k-> ¬R k):JEnv w' c l i b a f m g j:=
 ⟨(d.block c (qk.1 h.pbk).1 e.1).trans h.pbk,owns_kept h.rowa d e.2.1,owns_kept h.rowb d e.2.2⟩
def SeenOk(La Lb:List T)(bop:Bool->Bool->Bool)(L:List T)(M:Value->Int->Prop):Prop:=
 ∀key u,M key u-> ∃t v s,In La t/\In Lb v/\key= .agg #[.int .i64 (pl La t:Nat),.int .i64 (pl Lb v:Nat)]/\In L s/\s.Ok/\u=(pl L s:Nat)/\min t.lv v.lv<=s.lv/\ ∀c,s.ev c=bop (t.ev c) (v.ev c)
theorem SeenOk.mono{c e:List T}{a:Bool->Bool->Bool}{L:List T}{M:Value->Int->Prop}(h:SeenOk c e a L M)(K:List T):SeenOk c e a (L++K) M:=by
 intro b u i;have⟨t,v,s,f,k,m,d,g,n,l,j⟩:=h b u i;exact⟨t,v,s,f,k,m,d.mono K,g,by rw [n,pl_append d],l,j⟩
def rm(t u:T):Nat:=2^ (24 - min t.lv u.lv)
def q81(S:Nat->Prop)(w:World)(mb sk:Nat)(La Lb:List T)(bop:Bool->Bool->Bool)(t u:T)(L:List T)(n:Nat)(e:Ending)(w':World):Prop:=
 ∃s K n' M,e= .returned (.int .i64 (pl (L++K) s:Nat))/\In (L++K) s/\s.Ok/\min t.lv u.lv<=s.lv/\(∀c,s.ev c=bop (t.ev c) (u.ev c))/\T.Good (L++K)/\IsMaker w' mb S (L++K)/\
  mapIs w' qj 247 3 sk n' M/\SeenOk La Lb bop (L++K) M/\Kept (fun k=>S k\/k=sk) w w'/\(L++K).length+1<=L.length+rm t u/\n'+1<=n+rm t u
end Go.Proofs.YtjcbmcnbdegpmaaGreatDoor
namespace Go.Proofs.Gen
open Go
theorem wraps_u32(n:Int)(b:0<=n)(a:n<2^32):IntKind.u32.wrap n=n:=by rw [IntKind.wrap_u32];omega
theorem u32_and(a b:Nat)(c:a<4294967296)(d:b<4294967296):bits .and vr a b=((a&&&b:Nat):Int):=(bits_nat vr 32 (by decide) wraps_u32 a b c d).1
theorem u32_or(a b:Nat)(c:a<4294967296)(d:b<4294967296):bits .or vr a b=((a|||b:Nat):Int):=(bits_nat vr 32 (by decide) wraps_u32 a b c d).2
theorem q55(c i:Nat)(a:i<32):(c:Int)/2^min i 32=((c/2^i:Nat):Int):=by
 rw [xA (by omega)];simp
theorem q0k(c i:Nat)(d:c<4294967296)(b:i<32):(bits .and vr ((c:Int)/2^min i 32) 1==1)=c.testBit i:=by
 have a:c/2^i<4294967296:=zR (Nat.div_le_self _ _) d;have h:=u32_and (c/2^i) 1 a (by decide);rw [q55 c i b];have e:bits .and vr ((c/2^i:Nat):Int) 1=((c/2^i%2:Nat):Int):=by
  rw [Nat.and_one_is_mod]at h;exact h
 rw [e,Nat.testBit_eq_decide_div_mod_eq,zq,beq_iff_eq,decide_eq_true_iff];omega
theorem gD(c i:Nat)(b:c<4294967296)(a:i<32):(bits .and vr ((c:Int)/2^i) 1==1)=c.testBit i:=by
 have h:=q0k c i b a;rw [xA (by omega)]at h;exact h
theorem vG(s v:Nat)(c:s<4294967296)(d:v<32):bits .or vr (s:Int) (2^v%4294967296)=((s|||2^v:Nat):Int):=by
 have a:2^v<4294967296:=by
  have:2^v<2^32:=Nat.pow_lt_pow_right (by omega) d
  simpa using this
 have e:((2:Int)^v%4294967296)=((2^v:Nat):Int):=by
  have b:((2:Int)^v)=((2^v:Nat):Int):=by simp
  rw [b];generalize 2^v=z at a;omega
 rw [e];exact u32_or s (2^v) c a
end Go.Proofs.Gen
namespace Go.Proofs.Bdd
namespace T
def sup(L:List T):Nat:=L.foldl (fun a t=>a|||2^t.lv) 0
theorem q34(L:List T)(t:T):sup (L++[t])=sup L|||2^t.lv:=by simp [sup,List.foldl_append]
theorem Zk(i:Nat): ∀(L:List T)(a:Nat),(L.foldl (fun a t=>a|||2^t.lv) a).testBit i=(a.testBit i||L.any (fun t=>t.lv==i))
 |[],a=>by simp
 |t::L,a=>by
  simp only [List.foldl_cons,List.any_cons];have e:decide (t.lv=i)=(t.lv==i):=by rw [zq];simp
  rw [Zk i L,Nat.testBit_or,q80,e,Bool.or_assoc]
theorem KM(L:List T)(i:Nat):(sup L).testBit i=L.any (fun t=>t.lv==i):=by
 unfold sup;rw [Zk];simp
theorem q72{L:List T}(h: ∀t∈L,t.lv<24):sup L<16777216:=by
 have e:(16777216:Nat)=2^24:=by decide
 rw [e];refine Nat.lt_pow_two_of_testBit _ fun i b=> ?_;rw [KM,List.any_eq_false];intro t a
 have:=h t a
 simp;omega
end T
end Go.Proofs.Bdd
namespace Go.Proofs.Mod
open Go
instance eqBytes:DecidableEq ByteArray:=fun a b=>if h:a.data=b.data then isTrue (by cases a;cases b;simp_all)else isFalse fun e=>h (by rw [e])
inductive Ex where
 |mk (op:Nat) (name:ByteArray) (kids:List Ex)
namespace Ex
def op:Ex->Nat|mk o _ _=>o
def name:Ex->ByteArray|mk _ n _=>n
def kids:Ex->List Ex|mk _ _ l=>l
mutual
def size:Ex->Nat|mk _ _ l=>sizes l+1
def sizes:List Ex->Nat|[]=>0|e::l=>size e+sizes l
end
mutual
def levels:Ex->Nat|mk _ _ l=>most l+1
def most:List Ex->Nat|[]=>0|e::l=>max (levels e) (most l)
end
mutual
def row:Ex->List Ex|mk o n l=>mk o n l::rows l
def rows:List Ex->List Ex|[]=>[]|e::l=>row e++rows l
end
theorem size_pos: ∀e:Ex,0<e.size|mk _ _ _=>by simp [size]
theorem sizes_mem: ∀{l:List Ex}{e:Ex},e∈l->e.size<=sizes l
 |k::l,e,h=>by
  rcases qI.1 h with rfl|h
  .simp [sizes]
  .have:=sizes_mem h
   simp [sizes];omega
theorem YA: ∀{l:List Ex}{e:Ex},e∈l->e.levels<=most l
 |k::l,e,h=>by
  rcases qI.1 h with rfl|h
  .simp [most];omega
  .have:=YA h
   simp [most];omega
theorem ind{P:Ex->Prop}(h: ∀o n l,(∀k∈l,P k)->P (mk o n l)): ∀e,P e:=by
 have a: ∀m e,size e<=m->P e:=by
  intro m;induction m with
  |zero=>intro e b;have:=size_pos e;omega
  |succ m c=>
   rintro⟨o,n,l⟩ b;refine h o n l fun k d=>c k ?_
   have:=sizes_mem d
   simp [size]at b;omega
 exact fun e=>a _ e (qt _)
mutual
theorem row_length: ∀e:Ex,e.row.length=e.size|mk _ _ l=>by simp [row,size,rows_length l]
theorem rows_length: ∀l:List Ex,(rows l).length=sizes l
 |[]=>rfl
 |e::l=>by simp [rows,sizes,row_length e,rows_length l]
end
end Ex
def hasN(l:List ByteArray)(n:ByteArray):Bool:=l.any fun x=>decide (x=n)
def wordB(c:Nat):Bool:=decide (c=95)||decide (48<=c/\c<=57)||decide (97<=c/\c<=122)||decide (65<=c/\c<=90)
theorem JT{c:Nat}:wordB c=true↔c=95\/(48<=c/\c<=57)\/(97<=c/\c<=122)\/(65<=c/\c<=90):=by
 unfold wordB;simp only [Bool.or_eq_true,decide_eq_true_eq,or_assoc]
def nameB(s:ByteArray):Bool:=decide (1<=s.size)&&decide (s.size<=32)&& (match s.data.toList[0]? with|some c=> !(decide (48<=c.toNat)&&decide (c.toNat<=57))|none=>false)&&s.data.toList.all fun c=>wordB c.toNat
def jr(o:Nat)(n:ByteArray)(k:Nat):Bool:=
 match o with
 |1|2=>decide (k=0)&&decide (n.size=0)
 |3=>decide (k=0)&&nameB n
 |4=>decide (k=1)&&decide (n.size=0)
 |5|6|7=>decide (2<=k)&&decide (n.size=0)
 |8|9=>decide (k=2)&&decide (n.size=0)
 |10=>decide (k=3)&&decide (n.size=0)
 |_=>false
def rightB(e:Ex):Bool:=jr e.op e.name e.kids.length
def kidsN(o:Nat):Int×Bool:=
 match o with
 |1|2|3=>(0,true)
 |4=>(1,true)
 |5|6|7=>(-1,true)
 |8|9=>(2,true)
 |10=>(3,true)
 |_=>(0,false)
def validB(e:Ex):Bool:=e.row.all rightB&&decide (e.size<=1000)&&decide (e.levels<=64)
def addName(l:List ByteArray)(e:Ex):List ByteArray:=if(decide (e.op=3)&& !hasN l e.name)=true then l++[e.name]else l
def usedL(e:Ex):List ByteArray:=e.row.foldl addName []
mutual
def truth(names:List ByteArray)(c:Nat->Bool):Ex->Bool
 | .mk o n l=>wN names c o n (Uw names c l)
def Uw(names:List ByteArray)(c:Nat->Bool):List Ex->List Bool
 |[]=>[]
 |e::l=>truth names c e::Uw names c l
def wN(names:List ByteArray)(c:Nat->Bool)(o:Nat)(n:ByteArray)(l:List Bool):Bool:=
 match o with
 |2=>true
 |3=>hasN names n&&c (names.findIdx fun x=>decide (x=n))
 |4=> !l.getD 0 false
 |5=>l.all id
 |6=>l.any id
 |7=>l.foldl (· != ·) false
 |8=> !l.getD 0 false||l.getD 1 false
 |9=>l.getD 0 false==l.getD 1 false
 |10=>if l.getD 0 false then l.getD 1 false else l.getD 2 false
 |_=>false
end
structure xM where
 name:ByteArray
 parent:Int
 kind:Nat
structure Grp where
 parent:Int
 low:Int
 high:Int
 members:List Int
structure Att where
 name:ByteArray
 values:List Int
structure Lim where
 att:Int
 rel:Nat
 bound:Int
structure Mod where
 feats:List xM
 grps:List Grp
 atts:List Att
 reqs:List Ex
 lims:List Lim
def Mod.names(m:Mod):List ByteArray:=m.feats.map xM.name
end Go.Proofs.Mod
namespace Go.Proofs.Mod
open Go Go.RowKit Go.Proofs.Gen
section
variable {α:Type}
def RdL(S:Nat->Prop)(k:Nat)(R:World->List Value->α->Prop)(w:World)(v:Value)(l:List α):Prop:=
 ∃(ao:Option Addr)(cap:Nat),v= .slice ao l.length cap/\ ∀(i:Nat) x,l[i]? =some x-> ∃g o vs,ao=some ⟨g,o,none⟩/\S g/\(∀j u,vs[j]? =some u->w.cell? ⟨g,o+i*k+j,none⟩=some u)/\R w vs x
variable {S T K:Nat->Prop}{k:Nat}{R R':World->List Value->α->Prop}{w w':World}{v:Value}{l:List α}
theorem RdL.form(h:RdL S k R w v l): ∃b a,v=vd b l.length a:=let⟨b,a,e,_⟩:=h;⟨b,a,e⟩
theorem RdL.kept(h:RdL S k R w v l)(hk:Kept K w w')(hd: ∀g,S g-> ¬K g)(hs: ∀g,S g->T g)(e: ∀a x,R w a x->R' w' a x):RdL T k R' w' v l:=by
 obtain⟨m,b,rfl,q⟩:=h;refine⟨m,b,rfl,fun i x n=> ?_⟩;obtain⟨g,o,a,rfl,c,d,f⟩:=q i x n;exact⟨g,o,a,rfl,hs g c,fun j u p=>hk.cell (d j u p) (hd g c),e _ _ f⟩
theorem RdL.take{ao:Option Addr}{n cap:Nat}(h:RdL S k R w (vd ao n cap) l)(m c:Nat)(f:m<=n):RdL S k R w (vd ao m c) (l.take m):=by
 have⟨d,b,e,g⟩:=h;simp only [qq]at e;obtain⟨rfl,rfl,rfl⟩:=e;refine⟨ao,c,by rw [zd,xA f],fun i x a=>g i x ?_⟩;rw [zH]at a;split at a
 .exact a
 .cases a
end
def RdS(_:World)(vs:List Value)(s:ByteArray):Prop:=vs=[.string s]
def RdI(_:World)(vs:List Value)(n:Int):Prop:=vs=[.int .i64 n]
inductive RdEx (S:Nat->Prop) (w:World):List Value->Ex->Prop
 |mk (op:Nat) (name:ByteArray) (kids:List Ex) (g o cap:Nat) (ao:Option Addr) (vs:Nat->List Value) (h0:kids≠[]->ao=some ⟨g,o,none⟩/\S g)
  (hc: ∀i,i<kids.length-> ∀j u,(vs i)[j]? =some u->w.cell? ⟨g,o+i*3+j,none⟩=some u) (hk: ∀i x,kids[i]? =some x->RdEx S w (vs i) x):RdEx S w [.int .u8 op,.string name,.slice ao kids.length cap] (.mk op name kids)
theorem RdEx.inv{S:Nat->Prop}{w:World}{vs:List Value}{op:Nat}{name:ByteArray}{kids:List Ex}(h:RdEx S w vs (.mk op name kids)): ∃v,vs=[ve vq op,vf name,v]/\RdL S 3 (RdEx S) w v kids:=by
 cases h with
 |mk _ _ _ g o cap ao vs h0 hc hk=>
  refine⟨_,rfl,ao,cap,rfl,fun i x hx=> ?_⟩;have hi:i<kids.length:=(qm.1 hx).1;have h:=h0 (fun e=>by rw [e]at hi;simp at hi);exact⟨g,o,vs i,h.1,h.2,hc i hi,hk i x hx⟩
theorem RdEx.of{S:Nat->Prop}{w:World}{v:Value}{op:Nat}{name:ByteArray}{kids:List Ex}(h:RdL S 3 (RdEx S) w v kids):RdEx S w [ve vq op,vf name,v] (.mk op name kids):=by
 obtain⟨ao,cap,rfl,hc⟩:=h;have key: ∃g o,∀i x,kids[i]? =some x-> ∃vs,ao=some ⟨g,o,none⟩/\S g/\(∀j u,vs[j]? =some u->w.cell? (vw g (o+i*3+j))=some u)/\RdEx S w vs x:=by
  cases kids with
  |nil=>exact⟨0,0,fun i x hx=>by simp at hx⟩
  |cons k ks=>
   have⟨g,o,_,e,_⟩:=hc 0 k rfl;refine⟨g,o,fun i x hx=> ?_⟩;have⟨g',o',vs,e',h1,h2,h3⟩:=hc i x hx;rw [e]at e';simp only [zo,Addr.mk.injEq,and_true]at e';obtain⟨rfl,rfl⟩:=e';exact⟨vs,e,h1,h2,h3⟩
 have⟨g,o,hk⟩:=key;have pick: ∀i:Nat,∃vs:List Value,∀x,kids[i]? =some x->(∀j u,vs[j]? =some u->w.cell? (vw g (o+i*3+j))=some u)/\RdEx S w vs x:=by
  intro i;by_cases hi:i<kids.length
  .have⟨vs,_,_,h2,h3⟩:=hk i _ (qi hi)
   exact⟨vs,fun x hx=>by rw [qi hi]at hx;cases hx;exact⟨h2,h3⟩⟩
  .exact⟨[],fun x hx=>absurd (qm.1 hx).1 hi⟩
 refine .mk op name kids g o cap ao (fun i=>(pick i).choose) (fun hne=> ?_) (fun i hi=>((pick i).choose_spec _ (qi hi)).1) (fun i x hx=>((pick i).choose_spec x hx).2)
 cases kids with
 |nil=>exact absurd rfl hne
 |cons k ks=>have⟨vs,e,h,_⟩:=hk 0 k rfl;exact⟨e,h⟩
def RdFeat(_:World)(vs:List Value)(x:xM):Prop:=vs=[.string x.name,.int .i64 x.parent,.int .u8 x.kind]
def WfS(v:Value):Prop:= ∀ao n c,v= .slice ao n c->n<=c/\(ao=none->c=0)
def RdGrp(S:Nat->Prop)(w:World)(vs:List Value)(x:Grp):Prop:= ∃v,vs=[.int .i64 x.parent,.int .i64 x.low,.int .i64 x.high,v]/\RdL S 1 RdI w v x.members/\WfS v
def RdAtt(S:Nat->Prop)(w:World)(vs:List Value)(x:Att):Prop:= ∃v,vs=[.string x.name,v]/\RdL S 1 RdI w v x.values
def RdLim(_:World)(vs:List Value)(x:Lim):Prop:=vs=[.int .i64 x.att,.int .u8 x.rel,.int .i64 x.bound]
section
variable {S T K:Nat->Prop}{w w':World}(hk:Kept K w w')(hd: ∀g,S g-> ¬K g)(hs: ∀g,S g->T g)
include hk hd hs
theorem RdEx.kept{vs:List Value}{e:Ex}(h:RdEx S w vs e):RdEx T w' vs e:=by
 induction h with
 |mk n a b g o d p vs c r _ m=>
  refine .mk n a b g o d p vs (fun h=>⟨(c h).1,hs _ (c h).2⟩) (fun i f j u q=>hk.cell (r i f j u q) (hd _ (c ?_).2)) m;intro e;rw [e]at f;simp at f
theorem RdGrp.kept{vs:List Value}{x:Grp}(h:RdGrp S w vs x):RdGrp T w' vs x:=let⟨v,e,h,q⟩:=h;⟨v,e,h.kept hk hd hs fun _ _ h=>h,q⟩
theorem RdAtt.kept{vs:List Value}{x:Att}(h:RdAtt S w vs x):RdAtt T w' vs x:=let⟨v,e,h⟩:=h;⟨v,e,h.kept hk hd hs fun _ _ h=>h⟩
end
def RdMod(S:Nat->Prop)(w:World)(v:Value)(m:Mod):Prop:=
 ∃a b c d e,v= .agg #[a,b,c,d,e]/\RdL S 3 RdFeat w a m.feats/\RdL S 4 (RdGrp S) w b m.grps/\RdL S 2 (RdAtt S) w c m.atts/\RdL S 3 (RdEx S) w d m.reqs/\RdL S 3 RdLim w e m.lims/\WfS a/\WfS b
theorem RdMod.kept{S T K:Nat->Prop}{w w':World}{v:Value}{m:Mod}(h:RdMod S w v m)(hk:Kept K w w')(hd: ∀g,S g-> ¬K g)(hs: ∀g,S g->T g):RdMod T w' v m:=
 let⟨a,b,c,d,e,j,f,n,p,o,i,q⟩:=h;⟨a,b,c,d,e,j,f.kept hk hd hs fun _ _ h=>h,n.kept hk hd hs fun _ _ h=>h.kept hk hd hs,p.kept hk hd hs fun _ _ h=>h.kept hk hd hs,o.kept hk hd hs fun _ _ h=>h.kept hk hd hs,i.kept hk hd hs fun _ _ h=>h,q⟩
end Go.Proofs.Mod
namespace Go.Proofs.Mod
open Go
def signs:List (List UInt8):=[[60,61,62],[61,62],[33],[38],[94],[124],[63],[58],[40],[41]]
structure St where
 rest:List UInt8
 word:List UInt8
def tokOf(r:List UInt8):Option (List UInt8):=
 if r=[]then some []else
 match signs.find? fun s=>s.isPrefixOf r with
 |some s=>some s
 |none=>
  let w:=r.takeWhile fun c=>wordB c.toNat;if w=[48]\/w=[49]\/nameB ⟨w.toArray⟩=true then some w else none
def nextT(t:St):Option St:=(tokOf ((t.rest.drop t.word.length).dropWhile fun c=>decide (c=32))).map fun w=>⟨(t.rest.drop t.word.length).dropWhile fun c=>decide (c=32),w⟩
def yt(s:List UInt8)(t:St):Option (Bool×St):=if t.word=s then(nextT t).map fun t=>(true,t)else some (false,t)
def mk0(o:Nat)(l:List Ex):Ex:= .mk o ⟨#[]⟩ l
def rowOp:Nat->Nat|0=>6|1=>7|_=>5
def rowSign:Nat->List UInt8|0=>[124]|1=>[94]|_=>[38]
def nots:Nat->Ex->Ex|0,e=>e|n+1,e=>nots n (mk0 4 [e])
def oneOf(o:Nat):List Ex->Ex|[e]=>e|l=>mk0 o l
mutual
def pChoice:Nat->St->Option (Ex×St)
 |0,_=>none
 |f+1,t=>(pSame f t).bind fun x=>(yt [63] x.2).bind fun y=>if y.1 then(pChoice f y.2).bind fun b=>(yt [58] b.2).bind fun z=>if z.1 then(pChoice f z.2).bind fun c=>some (mk0 10 [x.1,b.1,c.1],c.2)else none else some (x.1,y.2)
def pSame:Nat->St->Option (Ex×St)
 |0,_=>none
 |f+1,t=>(pImplies f t).bind fun x=>(yt [60,61,62] x.2).bind fun y=>if y.1 then(pImplies f y.2).bind fun b=>some (mk0 9 [x.1,b.1],b.2)else some (x.1,y.2)
def pImplies:Nat->St->Option (Ex×St)
 |0,_=>none
 |f+1,t=>(pRow f 0 t).bind fun x=>(yt [61,62] x.2).bind fun y=>if y.1 then(pImplies f y.2).bind fun b=>some (mk0 8 [x.1,b.1],b.2)else some (x.1,y.2)
def pRow:Nat->Nat->St->Option (Ex×St)
 |0,_,_=>none
 |f+1,i,t=>if i=3 then pNot f t else(pRow f (i+1) t).bind fun x=>(pMore f i [x.1] x.2).bind fun y=>some (oneOf (rowOp i) y.1,y.2)
def pMore:Nat->Nat->List Ex->St->Option (List Ex×St)
 |0,_,_,_=>none
 |f+1,i,l,t=>(yt (rowSign i) t).bind fun y=>if y.1 then(pRow f (i+1) y.2).bind fun x=>pMore f i (l++[x.1]) x.2 else some (l,y.2)
def pNot:Nat->St->Option (Ex×St)
 |0,_=>none
 |f+1,t=>(pBangs f 0 t).bind fun n=>(pLeast f n.2).bind fun x=>some (nots n.1 x.1,x.2)
def pBangs:Nat->Nat->St->Option (Nat×St)
 |0,_,_=>none
 |f+1,n,t=>(yt [33] t).bind fun y=>if y.1 then pBangs f (n+1) y.2 else some (n,y.2)
def pLeast:Nat->St->Option (Ex×St)
 |0,_=>none
 |f+1,t=>(yt [40] t).bind fun y=>if y.1 then(pChoice f y.2).bind fun x=>(yt [41] x.2).bind fun z=>if z.1 then some (x.1,z.2)else none
  else if(t.word.head?.map fun c=>wordB c.toNat)=some true then(nextT t).map fun u=>(if t.word=[48]then mk0 1 []else if t.word=[49]then mk0 2 []else .mk 3 ⟨t.word.toArray⟩ [],u)else none
end
def parseF(f:Nat)(s:List UInt8):Option Ex:=
 if 65536<s.length then none else(nextT ⟨s,[]⟩).bind fun t=>(pChoice f t).bind fun x=>if x.2.word=[]then(if validB x.1 then some x.1 else none)else none
end Go.Proofs.Mod
namespace Go.Proofs.Gen
open Go Go.RowKit
open Go.ChangeMaps Go.MapKept
open Go.WideElems (Fit rd rg pl rd_val rd_key rg_of elemAt)
open Go.Maps (Keyed)
open Go.WideShapes (sorted_perm)
def held1(v:Value):Option (DataW Value×List MemPlace):=some (.held v,[])
def mapV(w:World)(P:Program)(k:TypeId)(b n:Nat)(M:Value->Value->Prop):Prop:=
 ∃es clock,w.heap[b]? =some (.map es clock)/\Fit P k held1 es clock/\es.size<=n/\ ∀x v,M x v↔ ∃y∈es.toList,y.key=x/\y.val=v
section
variable {P:Program}{k e t:TypeId}{w:World}{b n:Nat}{M:Value->Value->Prop}
theorem mapV.lt(h:mapV w P k b n M):b<w.heap.size:=by
 have⟨d,a,c,_⟩:=h;exact(qk.1 c).1
theorem mapV.of_block{w':World}(h:mapV w P k b n M)(f:w'.heap[b]? =w.heap[b]?):mapV w' P k b n M:=by
 have⟨d,a,c,r⟩:=h;exact⟨d,a,f.trans c,r⟩
theorem mapV.kept{S:Nat->Prop}{w':World}(h:mapV w P k b n M)(a:Kept S w w')(c: ¬S b):mapV w' P k b n M:=h.of_block (a.block b h.lt c)
theorem mapV.more{m:Nat}(h:mapV w P k b n M)(f:n<=m):mapV w P k b m M:=by
 have⟨c,a,d,F,i,g⟩:=h;exact⟨c,a,d,F,qH i f,g⟩
theorem mapV.congr{c:Value->Value->Prop}(h:mapV w P k b n M)(g: ∀x v,c x v↔M x v):mapV w P k b n c:=by
 have⟨d,a,f,F,j,i⟩:=h;exact⟨d,a,f,F,j,fun x v=>(g x v).trans (i x v)⟩
theorem mapV.empty(h:w.heap[b]? =some (.map #[] 0)):mapV w P k b 0 (fun _ _=>False):=
 ⟨#[],0,h,⟨by simp,stamped_empty 0,by simp⟩,qt _,by simp⟩
theorem mapV.fun(h:mapV w P k b n M){x u v:Value}(I:M x u)(G:M x v):u=v:=by
 have⟨C,a,J,F,_,B⟩:=h;have⟨y,E,l,q⟩:=(B x u).1 I;have⟨z,H,o,s⟩:=(B x v).1 G;have D:C.toList.Pairwise (fun x y=>x.key≠y.key):=((stamped_iff C a).1 F.stamped).2.2;have⟨i,A⟩:=qZ E;have⟨j,p⟩:=qZ H;have r:i=j:=by
  have⟨d,f⟩:=qm.1 A;have⟨g,m⟩:=qm.1 p;rcases Ul i j with c|c|c
  .exact absurd (by rw [f,m,l,o]) (wi.1 D i j d g c)
  .exact c
  .exact absurd (by rw [f,m,l,o]) (wi.1 D j i g d c)
 subst r;rw [A]at p
 cases p;rw [<-q,<-s]
theorem mapV.hit(h:mapV w P k b n M)(K:Keyed P k)(B:P.underlying t=some (.map k e)){z:Value}(D:(zeroValue e).run P w= .ok z w){a:Value}{r:Lit}(g:keyOf P k a=some r){v:Value}(p:M a v)(c:Bool):
 (yu t (.map (some b)) a c).run P w= .ok (if c then .tuple #[v,vj true]else v) w:=by
 have f:=fun u (C:M a u)=>h.fun C p;have⟨E,i,x,F,_,o⟩:=h;rcases Maps.fit_look c K B D x F g with⟨_,j,_⟩|⟨q,y,A,m,d,_⟩
 .have⟨y,s,l,_⟩:=(o a v).1 p
  exact absurd l (j y s)
 .rw [f q.val ((o a _).2 ⟨q,A,m,rfl⟩)]at d
  exact d
theorem mapV.miss(h:mapV w P k b n M)(K:Keyed P k)(r:P.underlying t=some (.map k e)){z:Value}(s:(zeroValue e).run P w= .ok z w){a:Value}{j:Lit}(f:keyOf P k a=some j)(p: ∀v,¬M a v)(c:Bool):
 (yu t (.map (some b)) a c).run P w= .ok (if c then .tuple #[z,vj false]else z) w:=by
 have⟨u,g,l,F,_,o⟩:=h;rcases Maps.fit_look c K r s l F f with⟨d,_,_⟩|⟨q,y,m,i,_⟩
 .exact d
 .exact absurd ((o a _).2 ⟨q,m,i,rfl⟩) (p _)
def putV(M:Value->Value->Prop)(key v:Value):Value->Value->Prop:=fun x u=>(x=key/\u=v)\/(x≠key/\M x u)
theorem mapV.store(h:mapV w P k b n M)(K:Keyed P k)(ht:P.underlying t=some (.map k e))(hn:n<maxLen){s:Value}{B:Lit}(i:keyOf P k s=some B)(v:Value):
 ∃C c,(zA t (.map (some b)) s v).run P w= .ok () (setBlock w b (.map C c))/\mapV (setBlock w b (.map C c)) P k b (n+1) (putV M s v):=by
 have⟨C,c,W,F,hs,X⟩:=h;have⟨d,a,H,R,m,_,_,A⟩:=Maps.fit_store (R':=held1) K ht W F (zR hs hn) (fun _ _ _ _ J=>J) i (yv:=(.held v,[])) rfl;refine⟨d,a,H,d,a,heap_setBlock_same W _,R,?_,?_⟩
 .have e1:d.size=((d.toList.map (rg P k held1)).foldr DataW.insert []).length:=by rw [length_sorted];simp
  rw [e1,m];unfold putKey;rw [length_insert];have Y:=xk (notKey B) ((C.toList.map (rg P k held1)).foldr DataW.insert []);rw [length_sorted]at Y;simp at Y;omega
 .have I: ∀p,p∈d.toList.map (rg P k held1)↔p=(B,.held v)\/(p∈C.toList.map (rg P k held1)/\notKey B p=true):=by
   intro p;rw [<-(sorted_perm (d.toList.map (rg P k held1))).mem_iff,m];unfold putKey;rw [mem_insert_iff,yy,(sorted_perm _).mem_iff]
  have q: ∀r g,Fit P k held1 r g-> ∀y∈r.toList,∃l,keyOf P k y.key=some l/\rg P k held1 y=(l,.held y.val):=by
   intro r g F0 y j;have⟨z,J⟩:=F0.reads y j;have⟨u,hu,D⟩:=rd_val J;refine⟨z.1,rd_key J,?_⟩;rw [rg_of J];have⟨z1,z2⟩:=z;simp only at D;rw [D,<-zm hu]
  intro x u;constructor
  .rintro(⟨rfl,rfl⟩|⟨o,S⟩)
   .have⟨y,j,f⟩:=yH.1 ((I (B,.held u)).2 (vu rfl))
    have⟨l,L,N⟩:=q d a R y j;rw [N]at f;simp only [Prod.mk.injEq,DataW.held.injEq]at f;obtain⟨rfl,E⟩:=f;exact⟨y,j,K.inj L i,E⟩
   .obtain⟨y,j,rfl,rfl⟩:=(X x u).1 S
    have⟨l,L,N⟩:=q C c F y j;have V:notKey B (rg P k held1 y)=true:=by
     refine(Maps.notKey_iff (K.key i)).2 fun O=>o ?_;rw [N]at O;simp only at O;subst O;exact K.inj L i
    have⟨Z,G,f⟩:=yH.1 ((I _).2 (vv ⟨up j,V⟩));have⟨l',U,Q⟩:=q d a R Z G;rw [N,Q]at f;simp only [Prod.mk.injEq,DataW.held.injEq]at f;obtain⟨rfl,E⟩:=f;exact⟨Z,G,K.inj U L,E⟩
  .rintro⟨y,j,rfl,rfl⟩
   rcases A y j with⟨hm,o⟩|⟨hk,E⟩
   .exact vv ⟨o,(X _ _).2 ⟨y,hm,rfl,rfl⟩⟩
   .exact vu ⟨hk,E⟩
end
end Go.Proofs.Gen
namespace Go.Proofs.YtjcbmcnbdegpmaaGreatDoor
theorem j7{a b:Bool}(h:a=true)(k:b=true):(a&&b)=true:=by rw [h,k];rfl
def maskVia(lead:Nat->List Nat):Nat->List Nat->Nat->List Nat
 |0,_,_=>[]
 |_+1,[],_=>[]
 |n+1,f::todo,m=>bif m.testBit f then maskVia lead n todo m else f::maskVia lead n (lead f++todo) (m|||1<<<f)
theorem Gg(P:Program): ∀(n:Nat)(b a:List Nat)(m:Nat),(∀x,a.contains x=m.testBit x)->
 P.closureVia n b a=a.reverse++maskVia (fun f=>(P.funcs[f]?).elim [] P.leadsTo) n b m:=by
 intro n;induction n with
 |zero=>intro b a m _;simp [Program.closureVia,maskVia]
 |succ n c=>
  intro b a m h
  cases b with
  |nil=>simp [Program.closureVia,maskVia]
  |cons f b=>
   unfold Program.closureVia maskVia;rw [h f]
   cases g:m.testBit f with
   |true=>simpa using c b a m h
   |false=>
    rw [if_neg (by simp),cond_false,c _ (f::a) (m|||1<<<f) (fun x=>by
     rw [List.contains_cons,h x,Nat.testBit_or,Nat.one_shiftLeft,q80,Bool.or_comm];congr 1;by_cases e:x=f
     .subst e;simp
     .have d: ¬f=x:=fun k=>e k.symm
      simp [e,d])]
    simp
def clo(P:Program)(f:Nat):List Nat:=
 maskVia (fun f=>(P.funcs[f]?).elim [] P.leadsTo) (1+(P.funcs.toList.map fun g=>(P.leadsTo g).length+1).sum) [f] 0
theorem Q2(P:Program)(f:Nat):P.closure f=clo P f:=by
 unfold Program.closure clo;rw [Gg P _ _ _ 0 (fun x=>by simp)];rfl
end Go.Proofs.YtjcbmcnbdegpmaaGreatDoor
