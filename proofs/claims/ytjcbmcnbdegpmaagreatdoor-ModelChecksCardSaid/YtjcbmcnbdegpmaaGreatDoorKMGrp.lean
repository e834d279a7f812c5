/- MEach, MFirst, MInt, MNames, MGrouped, MLone, MChkA, MChkB, MChkC, MChkD, MGrp. -/
import Derived.Test.YtjcbmcnbdegpmaaGreatDoorKMRChkP
set_option maxRecDepth 100000
set_option maxHeartbeats 12800000
set_option linter.unusedVariables false
open Bool renaming and_eq_true->qy,eq_false_iff->zt
open Go renaming info_parts->zG
open Go.Calls renaming quiet_of_same->vP
open Go.Lib renaming hid->q8
open Go.Proofs.Tryz renaming prog->qj,underlying47->yF
open Go.Value renaming oneCell'->qX
open Go.Value.slice renaming injEq->qq
open Go.World renaming ownsRow_nil->qW
open List renaming all_eq_true->qL,any_eq_true->yj,append_nil->zS,getElem?_eq_getElem->qi,getElem?_eq_some_iff->qm,getElem?_of_mem->qZ,length_append->qn,length_map->qG,length_take->zd,map_append->ze,mem_of_getElem?->qp,take_add_one->qU,take_zero->yU
open Nat renaming lt_of_lt_of_le->qu,zero_le->qv
open Go.Value renaming slice->vd,int->ve,string->vf,pointer->vg,agg->vi,bool->vj
open Go.Obj renaming cells->vk
open Go.Ending renaming returned->vm
open Go.IntKind renaming i64->vp,u8->vq,u32->vr,u64->vt
open Or renaming inl->vu,inr->vv
namespace Go.Proofs.YtjcbmcnbdegpmaaGreatDoor
open Go Go.RowKit Go.Proofs.Gen Go.Proofs.Mod
variable{S:Nat->Prop}{T:Nat→Prop}{a:List ByteArray}{ao:Option Addr}{b c cap d i k n o p t:Nat}{f:xM}{g:Grp}{l:List Int}{lb:Array Value}{m:Mod}{v x y:Value}{vs:List Value}{w w':World}
def wK{α:Type}(S:Nat->Prop)(kk:Nat)(R:World->List Value->α->Prop)(fn:FuncId):Prop:=
 ∀{w:World}{l:List α}{ao:Option Addr}{cap most:Nat}{g:FuncId}{lb:Array Value}{c:Nat->α->Nat},(∀args w,(callFunc g args).run qj w= .ok (.enter g args) w)->l.length<4611686018427387904->RdL S kk R w (.slice ao l.length cap) l->
  (∀(i:Nat) x vs w',Near w w'->l[i]? =some x->R w' vs x->Calls qj g (#[.int .i64 i,.agg vs.toArray]++lb) w' fun e w''=>e= .returned (.int .i64 (c i x:Nat))/\Near w' w'')->
  Calls qj fn #[.slice ao l.length cap,.int .i64 most,.func (.func g) #[] lb] w fun e w'=>e= .returned (.int .i64 (eachE most c l:Nat))/\Near w w'
theorem q8e(h: ∀(j:Nat) v,(x::y::vs)[j]? =some v->w.cell? (vw b (o+j))=some v):w.cell? (vw b o)=some x/\w.cell? (vw b (o+1))=some y:=⟨h 0 _ rfl,h 1 _ rfl⟩
theorem q8x{z:Value}(h: ∀(j:Nat) v,(x::y::z::vs)[j]? =some v->w.cell? (vw b (o+j))=some v):w.cell? (vw b o)=some x/\w.cell? (vw b (o+1))=some y/\w.cell? (vw b (o+2))=some z:=⟨h 0 _ rfl,h 1 _ rfl,h 2 _ rfl⟩
theorem Q0:wK S 3 RdFeat 85/\wK S 4 (RdGrp S) 89/\wK S 2 (RdAtt S) 95/\wK S 3 (RdEx S) 101/\wK S 3 RdLim 105:=by
 refine⟨?_,?_,?_,?_,?_⟩<;>intro w l ao ad f g lb c eg hl u U
 all_goals
  have HF:=q8 U;have HR:=q8 u;clear U u;by_cases Z:f<l.length
  .have C:=q8 (show eachE f c l=5 by unfold eachE;rw [if_pos Z])
   first
    |go_enter Tryz.func85,Tryz.ntmps85
    |go_enter Tryz.func89,Tryz.ntmps89
    |go_enter Tryz.func95,Tryz.ntmps95
    |go_enter Tryz.func101,Tryz.ntmps101
    |go_enter Tryz.func105,Tryz.ntmps105
   go_wp2_with fail
   go_ret;exact⟨by rw [C.out];rfl,Near.refl _⟩
  have C:=q8 (show eachE f c l=eachFrom c 0 l by unfold eachE;rw [if_neg Z])
  first
   |go_enter Tryz.func85,Tryz.ntmps85
   |go_enter Tryz.func89,Tryz.ntmps89
   |go_enter Tryz.func95,Tryz.ntmps95
   |go_enter Tryz.func101,Tryz.ntmps101
   |go_enter Tryz.func105,Tryz.ntmps105
  go_wp2_with fail
  go_loopw [16] (fun i wr=> ∃k:Nat,k<=l.length/\i=ve vp k/\(∀j x,j<k->l[j]? =some x->c j x=0)/\Near w wr) (fun i _=>l.length - (intOf i).toNat)
  case atStart=>exact⟨0,qv _,rfl,fun j x hj=>by omega,Near.refl _⟩
  case round=>
   obtain⟨k,hk,rfl,X,t⟩:=hrel;have K:=q8 X;have d:=q8 t;clear X t;by_cases s:k<l.length
   .have O:(k:Int)<l.length:=by omega
    obtain⟨x,G⟩: ∃x,l[k]? =some x:=⟨_,qi s⟩;have⟨ae,aa,e,hc⟩:=HR.out;obtain⟨b,o,N,H,-,a,m⟩:=hc k x G;have M:=q8 (fun(P:World)(W:Near w P)=>HF k x N P W G (by first|exact m|exact m.kept W (fun _ _ h=>h) (fun _ h=>h)));simp only [qq,true_and]at e;obtain⟨rfl,rfl⟩:=e;subst H;obtain⟨z,p⟩: ∃z,z=c k x:=⟨_,rfl⟩;have Q:=q8 G;have q:=q8 p;rw [<-p]at M;clear p hc G;replace a:=fun j v h=>d.cell (a j v h)
    first
     |(obtain rfl:N=[vf x.name,ve vp x.parent,ve vq x.kind]:=m
       have⟨D,E,I⟩:=q8x a)
     |(obtain rfl:N=[ve vp x.att,ve vq x.rel,ve vp x.bound]:=m
       have⟨D,E,I⟩:=q8x a)
     |(obtain⟨V,rfl,B,-⟩:=m
       obtain⟨R,Y,rfl⟩:=B.form;have⟨D,E,I⟩:=q8x a;have c3:=a 3 _ rfl)
     |(obtain⟨V,rfl,B⟩:=m
       obtain⟨R,Y,rfl⟩:=B.form;have⟨D,E⟩:=q8e a)
     |(have⟨op,nm,kd⟩:=x
       obtain⟨V,rfl,B⟩:=m.inv;obtain⟨R,Y,rfl⟩:=B.form;have⟨D,E,I⟩:=q8x a)
    clear a;by_cases J:z=0
    .subst J
     go_wp2_with fail
     refine(M _ (d.alloc _)).mono ?_;rintro e w2 ⟨rfl,A⟩;have n:=q8 ((d.alloc _).trans A);clear A;go_wp2_with fail
     exact⟨⟨k+1,s,by go_num,fun j y hj r=>by
      by_cases e:j=k
      .subst e
       rw [Q.out]at r
       cases r;exact q.symm
      .exact K j y (by omega) r,n⟩,by simp [intOf];omega⟩
    .have ab:((z:Int) !=0)=true:=by rw [bne_iff_ne];omega
     have L:=q8 J;clear J;go_wp2_with fail
     refine(M _ (d.alloc _)).mono ?_;rintro e w2 ⟨rfl,A⟩;have n:=q8 ((d.alloc _).trans A);clear A;go_wp2_with fail
     go_ret;refine⟨?_,n⟩;rw [C.out,j0 K Q (by rw [<-q.out];exact L),<-q.out];rfl
   .obtain rfl:k=l.length:=by omega
    go_wp2_with fail
    go_ret;refine⟨?_,d⟩;rw [C.out,jh fun j y r=>K j y (qm.1 r).1 r];rfl
theorem Yf:wK S 3 RdFeat 85:=Q0.1
theorem JC:wK S 4 (RdGrp S) 89:=Q0.2.1
theorem JD:wK S 2 (RdAtt S) 95:=Q0.2.2.1
theorem Kd:wK S 3 (RdEx S) 101:=Q0.2.2.2.1
theorem JB:wK S 3 RdLim 105:=Q0.2.2.2.2
theorem g9: ∀(l:List Nat)(k:Nat),(∀(j:Nat) x,j<k->l[j]? =some x->x=0)->firstE l=firstE (l.drop k)
 |l,0,_=>rfl
 |[],k+1,_=>rfl
 |x::l,k+1,h=>by
  have a:=h 0 x (by omega) rfl;show(if x=0 then firstE l else x)=_;rw [if_pos a,g9 l k fun j y c b=>h (j+1) y (by omega) b];rfl
def RdF(_:World)(vs:List Value)(f:Value):Prop:=vs=[f]
theorem VO{fs:List Value}{cs:List Nat}(n:cs.length=fs.length)(hl:fs.length<4611686018427387904)(C:RdL S 1 RdF w (vd ao fs.length cap) fs)
 (R: ∀(i:Nat) f c,fs[i]? =some f->cs[i]? =some c-> ∃g q,f= .func (.func g) #[] q/\(∀d w,(callFunc g d).run qj w= .ok (.enter g d) w)/\ ∀p,Near w p->Calls qj g q p fun e v=>e=vm (ve vp (c:Nat))/\Near p v):
 Calls qj 83 #[vd ao fs.length cap] w fun e p=>e=vm (ve vp (firstE cs:Nat))/\Near w p:=by
 have N:=q8 R;have V:=q8 C;have J:=q8 n;go_enter Tryz.func83,Tryz.ntmps83;go_wp2_with fail
 go_loopw [8] (fun i wr=> ∃k:Nat,k<=fs.length/\i=ve vp k/\(∀(j:Nat) x,j<k->cs[j]? =some x->x=0)/\Near w wr) (fun i _=>fs.length - (intOf i).toNat)
 case atStart=>exact⟨0,qv _,rfl,fun j x X=>by omega,Near.refl _⟩
 case round=>
  obtain⟨k,hk,rfl,Z,E⟩:=hrel;have B:=q8 Z;have a:=q8 E;by_cases s:k<fs.length
  .have H:(k:Int)<fs.length:=by omega
   obtain⟨f,K⟩: ∃x,fs[k]? =some x:=⟨_,qi s⟩;obtain⟨c,r⟩: ∃x,cs[k]? =some x:=⟨_,qi (by have:=J.out;omega)⟩;obtain⟨g,q,rfl,eg,h⟩:=N k f c K r;have⟨W,G,e,U⟩:=V.out;obtain⟨b,o,Y,t,-,l,P⟩:=U k _ K;obtain rfl:Y=[.func (.func g) #[] q]:=P;simp only [qq,true_and]at e;obtain⟨rfl,rfl⟩:=e;subst t;have O:w.cell? (vw b (o+k))=some (.func (.func g) #[] q):=by simpa using l 0 _ rfl
   have c0:=a.cell O;have L:=q8 (h _ a);have z:=q8 r;by_cases I:c=0
   .subst I
    go_wp2_with fail
    refine L.mono ?_;rintro e Q ⟨rfl,A⟩;have m:=q8 (a.trans A);go_wp2_with fail
    exact⟨⟨k+1,s,by go_num,fun j y X u=>by
     by_cases e:j=k
     .subst e
      rw [z.out]at u
      cases u;rfl
     .exact B j y (by omega) u,m⟩,by simp [intOf];omega⟩
   .have M:((c:Int) !=0)=true:=by rw [bne_iff_ne];omega
    have D:=q8 (show firstE cs=c by
     rw [g9 cs k B,List.drop_eq_getElem_cons (qm.1 z).1]
     have:=(qm.1 z).2
     rw [this];show(if c=0 then _ else c)=c;rw [if_neg I])
    go_wp2_with fail
    refine L.mono ?_;rintro e Q ⟨rfl,A⟩;have m:=q8 (a.trans A);go_wp2_with fail
    go_ret;exact⟨by rw [D.out];rfl,m⟩
  .obtain rfl:k=fs.length:=by omega
   have D:=q8 (show firstE cs=0 by
    rw [g9 cs fs.length B,List.drop_eq_nil_of_le (by have:=J.out;omega)];rfl)
   go_wp2_with fail
   go_ret;refine⟨?_,a⟩;rw [D.out];rfl
theorem Jz{S:Nat→Prop}(I:RdL S 1 RdS w (vd ao a.length cap) a)(K:a.length<4611686018427387904)(E:i≤a.length)(O:a.length≤cap)(L:f.kind<256):
 Calls qj 87 #[vd ao a.length cap,ve vp i,vi #[vf f.name,ve vp f.parent,ve vq f.kind]] w fun e b=>e=vm (ve vp (featE a i f:Nat))∧Near w b:=by
 have⟨d,p,g⟩:=f;have k:=q8 (fun(b:World)(G:Near w b)(c:Nat)=>vZ ((I.kept G (fun _ _ h=>h) (fun _ h=>h) (fun _ _ h=>h)).take i c E) (by rw [zd];omega) d);have j:Hid (featE a i ⟨d,p,g⟩=if freshE (a.take i) d=0 then(if kindB i ⟨d,p,g⟩=true then 0 else 2)else freshE (a.take i) d):=rfl;have t:=q8 (show kindB i ⟨d,p,g⟩=true↔(i=0∧g=1∧p= -1)∨(0<i∧2≤g∧g≤4∧0≤p∧p<i) by
  unfold kindB;split
  ·rename_i h
   subst h;simp
  ·rename_i h
   simp only [qy,decide_eq_true_eq];omega)
 have B:Near w (w.alloc (vk #[vf d,ve vp p,ve vq g] 76)):=(Near.refl w).alloc _;have D:(w.alloc (vk #[vf d,ve vp p,ve vq g] 76)).heap[w.heap.size]? =some (vk #[vf d,ve vp p,ve vq g] 76 (0,0)):=heap_new_at rfl;have n:=q8 B;have o:=q8 D;generalize freshE (a.take i) d=z at k j;generalize featE a i ⟨d,p,g⟩=r at j;generalize kindB i ⟨d,p,g⟩=x at j t;have C:(i:Int)≤a.length:=by omega
 have H:(i:Int)≤cap:=by omega
 go_enter Tryz.func87,Tryz.ntmps87;go_upto_region 1 with fail
 generalize w.alloc (vk #[vf d,ve vp p,ve vq g] 76)=W at n o⊢;have l: ∀b,Near W b→b.cell? w.heap.size=some (vf d)∧b.cell? (vw w.heap.size 1)=some (ve vp p)∧b.cell? (vw w.heap.size 2)=some (ve vq g):=fun b h=>⟨cell1 (qQ h o) rfl,cell1 (qQ h o) rfl,cell1 (qQ h o) rfl⟩;by_cases y:z=0
 ·subst y
  rw [if_pos rfl]at j;go_region_held3 (fun b=>b.cell? w.heap.size=some (vf d)∧b.cell? (vw w.heap.size 1)=some (ve vp p)∧b.cell? (vw w.heap.size 2)=some (ve vq g))
   ((refine l _ ?_;first|exact m|exact(Near.refl _).drew))
   ((go_at_call 97;refine(k _ (n.trans (Near.refl W).drew) cap).mono ?_;rintro e q ⟨rfl,s⟩;have m:Near W q:=(Near.refl W).drew.trans s))
  have⟨N,P,M⟩:=l _ m;have v:=q8 (n.trans m);by_cases J:p<(i:Int)
  all_goals
   go_wp2
   all_goals
    go_ret;refine⟨?_,v⟩
    first
     |(have u:x=true:=t.2 (by omega);rw [j.out,u];rfl)
     |(have u:x=false:=zt.2 (fun h=>by have:=t.1 h;omega);rw [j.out,u];rfl)
 ·have A:((z:Int) !=0)=true:=by rw [bne_iff_ne];omega
  rw [if_neg y]at j;go_region_held3 (fun b=>b.cell? w.heap.size=some (vf d)∧b.cell? (vw w.heap.size 1)=some (ve vp p)∧b.cell? (vw w.heap.size 2)=some (ve vq g))
   ((refine l _ ?_;first|exact m|exact(Near.refl _).drew))
   ((go_at_call 97;refine(k _ (n.trans (Near.refl W).drew) cap).mono ?_;rintro e q ⟨rfl,s⟩;have m:Near W q:=(Near.refl W).drew.trans s))
  go_wp2_with fail
  go_ret;exact⟨by rw [j.out];rfl,n.trans m⟩
def q8d(b:Bool)(w:World)(e:Ending)(w':World):Prop:= ∃z:Int,e= .returned (.int .i64 z)/\decide (0<=z)=b/\w'=w
theorem XH(h:RdL S 1 RdI w v l)(H:l.length<4611686018427387904)(s:Int):Calls qj 209 #[v,ve vp s] w (q8d (decide (s∈l)) w):=by
 have C:=q8 h;obtain⟨K,E,rfl⟩:=h.form;go_enter Tryz.func209,Tryz.ntmps209;go_wp2_with fail
 go_loop [8] (fun i=> ∃k:Nat,k<=l.length/\i=ve vp k/\ ∀(j:Nat) x,j<k->l[j]? =some x->x≠s) (fun i=>l.length - (intOf i).toNat)
 case atStart=>exact⟨0,qv _,rfl,fun j x f=>by omega⟩
 case round=>
  obtain⟨k,I,rfl,n⟩:=hrel;have d:=q8 n;by_cases c:k<l.length
  .have r:(k:Int)<l.length:=by omega
   obtain⟨x,u⟩: ∃x,l[k]? =some x:=⟨_,qi c⟩;have⟨D,q,e,B⟩:=C.out;obtain⟨b,o,G,g,-,a,A⟩:=B k x u;obtain rfl:G=[ve vp x]:=A;simp only [qq,true_and]at e;obtain⟨rfl,rfl⟩:=e;subst g;have J:w.cell? (vw b (o+k))=some (ve vp x):=by simpa using a 0 _ rfl
   have t:=q8 u;by_cases m:x=s
   .subst m
    go_wp2_with fail
    go_ret;refine⟨(k:Int),rfl,?_,rfl⟩
    have:decide (x∈l)=true:=decide_eq_true (qp t)
    rw [this];exact decide_eq_true (by omega)
   .have z:(s==x)=false:=beq_eq_false_iff_ne.2 (fun e=>m e.symm)
    go_wp2_with fail
    go_round
    case rel=>
     refine⟨k+1,c,by go_num,fun j y f p=> ?_⟩;by_cases e:j=k
     .subst e
      have:=t.out
      rw [p]at this
      cases this;exact m
     .exact d j y (by omega) p
    case measure=>simp [intOf];omega
  .obtain rfl:k=l.length:=by omega
   go_wp2_with fail
   go_ret;refine⟨-1,rfl,?_,rfl⟩
   have:decide (s∈l)=false:=decide_eq_false fun h=>by
    have⟨j,f⟩:=qZ h;exact d j s (qm.1 f).1 f rfl
   rw [this];rfl
theorem uN(h:RdL S 1 RdI w v l)(d:l.length<4611686018427387904)(s:Int):Calls qj 159 #[v,ve vp s] w fun e a=>e=vm (vj (decide (s∈l)))/\a=w:=by
 have H:=q8 (XH h d s);obtain⟨i,c,rfl⟩:=h.form;generalize decide (s∈l)=b at H;go_enter Tryz.func159,Tryz.ntmps159;go_wp2_with (go_at_call 209;refine H.mono ?_;rintro e a ⟨z,rfl,f,rfl⟩;have g:=q8 f)
 go_ret;exact⟨by rw [<-g.out];rfl,rfl⟩
theorem XG(h:RdL S 1 RdI w v l)(I:l.length<4611686018427387904):Calls qj 164 #[v,.func (.func 99) #[] #[]] w (q8d (!l.all costB) w):=by
 have D:=q8 h;obtain⟨L,G,rfl⟩:=h.form;go_enter Tryz.func164,Tryz.ntmps164;go_wp2_with fail
 go_loop [8] (fun i=> ∃k:Nat,k<=l.length/\i=ve vp k/\ ∀(j:Nat) x,j<k->l[j]? =some x->costB x=true) (fun i=>l.length - (intOf i).toNat)
 case atStart=>exact⟨0,qv _,rfl,fun j x g=>by omega⟩
 case round=>
  obtain⟨k,J,rfl,r⟩:=hrel;have d:=q8 r;by_cases c:k<l.length
  .have t:(k:Int)<l.length:=by omega
   obtain⟨x,z⟩: ∃x,l[k]? =some x:=⟨_,qi c⟩;have⟨E,s,e,C⟩:=D.out;obtain⟨b,o,H,p,-,a,A⟩:=C k x z;obtain rfl:H=[ve vp x]:=A;simp only [qq,true_and]at e;obtain⟨rfl,rfl⟩:=e;subst p;have K:w.cell? (vw b (o+k))=some (ve vp x):=by simpa using a 0 _ rfl
   have u:=q8 z;have n:=q8 (wT x w)
   cases m:costB x with
   |false=>
    rw [m]at n;have q:=q8 m;go_wp2_with (go_at_call 99;refine n.mono ?_;rintro e B ⟨rfl,rfl⟩)
    go_ret;refine⟨(k:Int),rfl,?_,rfl⟩
    have:l.all costB=false:=zt.2 fun h=>by
     have:=qL.1 h x (qp u)
     rw [q.out]at this
     cases this
    rw [this];exact decide_eq_true (by omega)
   |true=>
    rw [m]at n;have q:=q8 m;go_wp2_with (go_at_call 99;refine n.mono ?_;rintro e B ⟨rfl,rfl⟩)
    go_round
    case rel=>
     refine⟨k+1,c,by go_num,fun j y g f=> ?_⟩;by_cases e:j=k
     .subst e
      have:=u.out
      rw [f]at this
      cases this;exact q
     .exact d j y (by omega) f
    case measure=>simp [intOf];omega
  .obtain rfl:k=l.length:=by omega
   go_wp2_with fail
   go_ret;refine⟨-1,rfl,?_,rfl⟩
   have:l.all costB=true:=qL.2 fun y f=>by
    have⟨j,g⟩:=qZ f;exact d j y (qm.1 g).1 g
   rw [this];rfl
theorem XA(h:RdL S 1 RdI w v l)(d:l.length<4611686018427387904):Calls qj 98 #[v,.func (.func 99) #[] #[]] w fun e a=>e=vm (vj (!l.all costB))/\a=w:=by
 have H:=q8 (XG h d);obtain⟨i,c,rfl⟩:=h.form;generalize(!l.all costB)=b at H;go_enter Tryz.func98,Tryz.ntmps98;go_wp2_with (go_at_call 164;refine H.mono ?_;rintro e a ⟨z,rfl,f,rfl⟩;have g:=q8 f)
 go_ret;exact⟨by rw [<-g.out];rfl,rfl⟩
theorem RdMod.form(h:RdMod S w v m): ∃q f i g p n k l j o,v=vi #[vd q m.feats.length f,vd i m.grps.length g,vd p m.atts.length n,vd k m.reqs.length l,vd j m.lims.length o]/\
 RdL S 3 RdFeat w (vd q m.feats.length f) m.feats/\RdL S 4 (RdGrp S) w (vd i m.grps.length g) m.grps/\RdL S 2 (RdAtt S) w (vd p m.atts.length n) m.atts/\RdL S 3 (RdEx S) w (vd k m.reqs.length l) m.reqs/\RdL S 3 RdLim w (vd j m.lims.length o) m.lims/\m.feats.length<=f/\m.grps.length<=g:=by
 obtain⟨a,b,c,d,e,rfl,r,t,x,u,s,z,y⟩:=h;obtain⟨q,f,rfl⟩:=r.form;obtain⟨i,g,rfl⟩:=t.form;obtain⟨p,n,rfl⟩:=x.form;obtain⟨k,l,rfl⟩:=u.form;obtain⟨j,o,rfl⟩:=s.form;exact⟨q,f,i,g,p,n,k,l,j,o,rfl,r,t,x,u,s,(z _ _ _ rfl).1,(y _ _ _ rfl).1⟩
theorem kI{S:Nat→Prop}(h:RdMod S w v m)(hl:m.feats.length<1099511627776):Calls qj 26 #[v] w fun e V=> ∃X,e=vm X∧V.ownsRow w.heap.size 9 1 X m.names.length (m.names.map vf)∧Near w V:=by
 obtain⟨p,l,z,t,y,q,A,u,s,r,rfl,hF,-⟩:=RdMod.form h;have M:m.names.length=m.feats.length:=by simp [Mod.names]
 have⟨i9,D,H,N,Q⟩:=zG XD;have R:Near w (w.alloc (vk #[vd p m.feats.length l,vd z m.grps.length t,vd y m.atts.length q,vd A m.reqs.length u,vd s m.lims.length r] 28)):=(Near.refl w).alloc _;have Z:(w.alloc (vk #[vd p m.feats.length l,vd z m.grps.length t,vd y m.atts.length q,vd A m.reqs.length u,vd s m.lims.length r] 28)).heap[w.heap.size]? =some (vk #[vd p m.feats.length l,vd z m.grps.length t,vd y m.atts.length q,vd A m.reqs.length u,vd s m.lims.length r] 28 (0,0)):=heap_new_at rfl;have HF:=q8 hF;have n:=q8 M;have g: ∀(k:Nat)(x:xM),m.feats[k]? =some x→(m.names.take (k+1))=m.names.take k++[x.name]:=fun k x B=>by
  rw [qU];simp [Mod.names,B]
 have E:=q8 g;go_enter Tryz.func26,Tryz.ntmps26;go_upto_region 2 with fail
 generalize w.alloc (vk #[vd p m.feats.length l,vd z m.grps.length t,vd y m.atts.length q,vd A m.reqs.length u,vd s m.lims.length r] 28)=W at R Z⊢;have q0:W.cell? w.heap.size=some (vd p m.feats.length l):=cell1 Z rfl;have HN:=q8 R;go_wp2_with fail
 go_loopw [3,9] (fun v i wr=> ∃k:Nat,k≤m.feats.length∧i=ve vp k∧wr.ownsRow w.heap.size 9 1 v k ((m.names.take k).map vf)∧Near w wr) (fun _ i _=>m.feats.length - (intOf i).toNat)
 case atStart=>exact⟨0,qv _,rfl,qW _ _ _ _,HN⟩
 case round=>
  obtain⟨k,hk,rfl,d,K⟩:=hrel;obtain⟨vo,vc,rfl⟩:=qR d;have J:=q8 d;have c:=q8 K;by_cases f:k<m.feats.length
  ·have U:(k:Int)<m.feats.length:=by omega
   obtain⟨x,B⟩: ∃x,m.feats[k]? =some x:=⟨_,qi f⟩;have⟨aa,Y,e,hc⟩:=HF.out;obtain⟨b,o,vs,C,-,a,hv⟩:=hc k x B;obtain rfl:vs=[vf x.name,ve vp x.parent,ve vq x.kind]:=hv;simp only [qq,true_and]at e;obtain⟨rfl,rfl⟩:=e;subst C;have d0:w.cell? (vw b (o+k*3))=some (vf x.name):=a 0 _ rfl;have L:w.cell? (vw b (o+k*3+1))=some (ve vp x.parent):=a 1 _ rfl;have P:w.cell? (vw b (o+k*3+2))=some (ve vq x.kind):=a 2 _ rfl;have g0:=c.cell d0;have g1:=c.cell L;have g2:=c.cell P;have HX:=q8 B;go_wp2_with (at_builtin;go_must (refine wpList_append_more rfl (.tmp 13) (.tmp 16) 68 rfl w.heap.size 9 i9 (vf ByteArray.empty) 1 16 Tryz.underlying68 D H N Q rfl (by decide) (vd vo k vc) k ((m.names.take k).map vf) rfl ((J.alloc _).alloc _) _ 1 [vf x.name] rfl ⟨rfl,vv ⟨_,1,rfl,cell_one_at (by simp) _ _⟩⟩ (by simp [qX]) (by unfold maxLen;omega) (by omega) (by have:=c.size;simp;omega) ?_);intro b3 c3 w3 j G;have O:=q8 j;have I:=q8 (Kept.grown ((c.alloc _).alloc _) G (fun k e f=>by have:=(zY J e).1;omega):Near w w3))
   exact⟨⟨k+1,f,by go_num,by rw [E.out k x HX,ze];exact O,I⟩,by simp [intOf];omega⟩
  ·obtain rfl:k=m.feats.length:=by omega
   go_wp2_with fail
   go_ret;refine⟨_,rfl,?_,c⟩
   have:=J.out
   rw [←n.out,List.take_length]at this;rw [n.out]at this⊢;exact this
def q8p(b:Bool)(w:World)(e:Ending)(w':World):Prop:= ∃z:Int,e= .returned (.int .i64 z)/\decide (0<=z)=b/\Near w w'
theorem XI{l:List Grp}{g:FuncId}{p:Grp->Bool}(eg: ∀d w,(callFunc g d).run qj w= .ok (.enter g d) w)(hl:l.length<4611686018427387904)(D:RdL S 4 (RdGrp S) w (vd ao l.length cap) l)
 (U: ∀x v s,Near w s->x∈l->RdGrp S s v x->Calls qj g (#[vi v.toArray]++lb) s fun e B=>e=vm (vj (p x))/\Near s B):
 Calls qj 210 #[vd ao l.length cap,.func (.func g) #[] lb] w (q8p (l.any p) w):=by
 have M:=q8 U;have W:=q8 D;go_enter Tryz.func210,Tryz.ntmps210;go_wp2_with fail
 go_loopw [8] (fun i wr=> ∃k:Nat,k<=l.length/\i=ve vp k/\(∀(j:Nat) x,j<k->l[j]? =some x->p x=false)/\Near w wr) (fun i _=>l.length - (intOf i).toNat)
 case atStart=>exact⟨0,qv _,rfl,fun j x u=>by omega,Near.refl _⟩
 case round=>
  obtain⟨k,hk,rfl,hz,E⟩:=hrel;have K:=q8 hz;have a:=q8 E;by_cases q:k<l.length
  .have I:(k:Int)<l.length:=by omega
   obtain⟨x,r⟩: ∃x,l[k]? =some x:=⟨_,qi q⟩;have⟨X,G,e,V⟩:=W.out;obtain⟨b,o,v,z,-,c,H⟩:=V k x r;have t:=q8 (M x v _ a (qp r) (H.kept a (fun _ _ h=>h) (fun _ h=>h)));have J:=q8 r;simp only [qq,true_and]at e;obtain⟨rfl,rfl⟩:=e;subst z;obtain⟨sv,rfl,Z,-⟩:=H;obtain⟨Q,L,rfl⟩:=Z.form;have P:w.cell? (vw b (o+k*4))=some (ve vp x.parent):=c 0 _ rfl;have Y:w.cell? (vw b (o+k*4+1))=some (ve vp x.low):=c 1 _ rfl;have O:w.cell? (vw b (o+k*4+2))=some (ve vp x.high):=c 2 _ rfl;have N:w.cell? (vw b (o+k*4+3))=some (vd Q x.members.length L):=c 3 _ rfl;have c0:=a.cell P;have c1:=a.cell Y;have c2:=a.cell O;have c3:=a.cell N
   cases f:p x with
   |false=>
    rw [f]at t;have n:=q8 f;go_wp2_with fail
    refine t.mono ?_;rintro e R ⟨rfl,C⟩;have m:=q8 (a.trans C);go_wp2_with fail
    exact⟨⟨k+1,q,by go_num,fun j y u A=>by
     by_cases e:j=k
     .subst e
      rw [J.out]at A
      cases A;exact n
     .exact K j y (by omega) A,m⟩,by simp [intOf];omega⟩
   |true=>
    rw [f]at t;have n:Hid (l.any p=true):=yj.2 ⟨x,qp J,f⟩;go_wp2_with fail
    refine t.mono ?_;rintro e R ⟨rfl,C⟩;have m:=q8 (a.trans C);go_wp2_with fail
    go_ret;exact⟨(k:Int),rfl,by rw [n.out];exact decide_eq_true (by omega),m⟩
  .obtain rfl:k=l.length:=by omega
   have n:=q8 (show l.any p=false from zt.2 fun h=>by
    have⟨x,r,f⟩:=yj.1 h;have⟨j,u⟩:=qZ r;rw [K.out j x (qm.1 u).1 u]at f
    cases f)
   go_wp2_with fail
   go_ret;exact⟨-1,rfl,by rw [n.out];rfl,a⟩
theorem Ye{S:Nat→Prop}{x:Grp}(m:RdGrp S w vs x)(l:x.members.length<4611686018427387904)(j:w.heap[c]? =some (vk #[ve vp i] 3 (0,0))):
 Calls qj 161 (#[vi vs.toArray]++ #[vg c]) w fun e f=>e=vm (vj (decide ((i:Int)∈x.members)))∧Near w f:=by
 obtain⟨q,rfl,d,-⟩:=m;obtain⟨p,k,rfl⟩:=d.form;have a:Near w (w.alloc (vk #[ve vp x.parent,ve vp x.low,ve vp x.high,vd p x.members.length k] 78)):=(Near.refl w).alloc _;have g:=q8 (uN (d.kept a (fun _ _ h=>h) (fun _ h=>h) (fun _ _ h=>h)) l i);have n:=q8 a;have r:=cell1 (o:=0) (qQ a j) rfl;generalize decide ((i:Int)∈x.members)=b at g⊢;go_enter Tryz.func161,Tryz.ntmps161;go_wp2_with (go_at_call 159;refine g.mono ?_;rintro e f ⟨rfl,rfl⟩)
 go_ret;exact⟨rfl,n⟩
theorem ZQ{S:Nat→Prop}{l:List Grp}{g:FuncId}{p:Grp→Bool}(n: ∀a w,(callFunc g a).run qj w= .ok (.enter g a) w)(k:l.length<4611686018427387904)(f:RdL S 4 (RdGrp S) w (vd ao l.length cap) l)
 (i: ∀x h c,Near w c→x∈l→RdGrp S c h x→Calls qj g (#[vi h.toArray]++lb) c fun e d=>e=vm (vj (p x))∧Near c d):
 Calls qj 160 #[vd ao l.length cap,.func (.func g) #[] lb] w fun e c=>e=vm (vj (l.any p))∧Near w c:=by
 have H:=q8 (XI n k f i);generalize l.any p=b at H⊢;go_enter Tryz.func160,Tryz.ntmps160;go_wp2_with (go_at_call 210;refine H.mono ?_;rintro e r ⟨z,rfl,q,j⟩;have m:=q8 q;have o:=q8 j)
 go_ret;exact⟨by rw [←m.out];rfl,o⟩
theorem Ju{S:Nat→Prop}(h:RdMod S w v m)(hl:m.feats.length<4611686018427387904)(hg:m.grps.length<4611686018427387904)(hm: ∀g∈m.grps,g.members.length<4611686018427387904):
 Calls qj 93 #[v] w fun e G=>e=vm (ve vp (eachFrom (loneE m.grps) 0 m.feats:Nat))∧Near w G:=by
 obtain⟨L,I,E,C,R,M,U,Q,P,N,rfl,hF,hG,-⟩:=RdMod.form h;have hN:Near w (w.alloc (vk #[vd L m.feats.length I,vd E m.grps.length C,vd R m.atts.length M,vd U m.reqs.length Q,vd P m.lims.length N] 28)):=(Near.refl w).alloc _;have hA:(w.alloc (vk #[vd L m.feats.length I,vd E m.grps.length C,vd R m.atts.length M,vd U m.reqs.length Q,vd P m.lims.length N] 28)).heap[w.heap.size]? =some (vk #[vd L m.feats.length I,vd E m.grps.length C,vd R m.atts.length M,vd U m.reqs.length Q,vd P m.lims.length N] 28 (0,0)):=heap_new_at rfl;have HF:=q8 hF;have HC:=q8 (fun(i B1:Nat)(G:World)(hn:Near w G)(hb:G.heap[B1]? =some (vk #[ve vp i] 3 (0,0)))=>ZQ (w:=G) (l:=m.grps) (ao:=E) (cap:=C) (g:=161) (lb:= #[vg B1]) (p:=fun g=>decide ((i:Int)∈g.members)) (j3 Tryz.func161 (by kernel_rfl) rfl) hg (hG.kept hn (fun _ _ h=>h) (fun _ h=>h) (fun _ _ h=>h.kept hn (fun _ _ h=>h) (fun _ h=>h)))
  (fun x vs al ai V Z=>Ye Z (hm x V) (qQ ai hb)))
 have aa:=q8 (fun(i:Nat)(f:xM)=>(show loneE m.grps i f=if(decide (f.kind=4)&& !(m.grps.any fun g=>decide ((i:Int)∈g.members)))=true then 2 else 0 by
  unfold loneE inB;simp only [List.contains_eq_mem]))
 go_enter Tryz.func93,Tryz.ntmps93;go_upto_region 1 with fail
 generalize w.alloc (vk #[vd L m.feats.length I,vd E m.grps.length C,vd R m.atts.length M,vd U m.reqs.length Q,vd P m.lims.length N] 28)=W at hN hA⊢;have q0:W.cell? w.heap.size=some (vd L m.feats.length I):=cell1 hA rfl;have D:=q8 hN;have HA:=q8 hA;go_wp2_with fail
 go_loopw [9] (fun i wr=> ∃k:Nat,k≤m.feats.length∧i=ve vp k∧(∀(j:Nat) x,j<k→m.feats[j]? =some x→loneE m.grps j x=0)∧Near W wr) (fun i _=>m.feats.length - (intOf i).toNat)
 case atStart=>exact⟨0,qv _,rfl,fun j x hj=>by omega,Near.refl _⟩
 case round=>
  obtain⟨k,hk,rfl,O,ab⟩:=hrel;have HZ:=q8 O;have c:=q8 ab;by_cases t:k<m.feats.length
  ·have aj:(k:Int)<m.feats.length:=by omega
   obtain⟨x,V⟩: ∃x,m.feats[k]? =some x:=⟨_,qi t⟩;have⟨am,ak,e,hc⟩:=HF.out;obtain⟨b,o,vs,X,-,a,Z⟩:=hc k x V;obtain rfl:vs=[vf x.name,ve vp x.parent,ve vq x.kind]:=Z;simp only [qq,true_and]at e;obtain⟨rfl,rfl⟩:=e;subst X;have d0:w.cell? (vw b (o+k*3))=some (vf x.name):=a 0 _ rfl;have ae:w.cell? (vw b (o+k*3+1))=some (ve vp x.parent):=a 1 _ rfl;have ag:w.cell? (vw b (o+k*3+2))=some (ve vq x.kind):=a 2 _ rfl;have g0:=c.cell (D.cell d0);have g1:=c.cell (D.cell ae);have g2:=c.cell (D.cell ag);have HX:=q8 V;have K:=q8 (aa k x);go_upto_region 4 with fail
   have af: ∀r,r=(wr.alloc (vk #[ve vp k] 3)).alloc (vk #[vf x.name,ve vp x.parent,ve vq x.kind] 76)→Near wr r∧r.heap[wr.heap.size]? =some (vk #[ve vp k] 3 (0,0))∧r.heap[wr.heap.size+1]? =some (vk #[vf x.name,ve vp x.parent,ve vq x.kind] 76 (0,0)):=by
    rintro r rfl;exact⟨((Near.refl wr).alloc _).alloc _,by rw [qD (by simp),heap_new_at rfl],heap_new_at (by simp)⟩
   have h3:=af _ rfl;generalize(wr.alloc (vk #[ve vp k] 3)).alloc (vk #[vf x.name,ve vp x.parent,ve vq x.kind] 76)=r at h3⊢;have⟨n3,ah,ad⟩:=h3;have J:=q8 (c.trans n3);have Y:=q8 ad;have H:=q8 (HC k wr.heap.size r ((D.trans c).trans n3) ah);have q1:r.cell? (vw w.heap.size 1)=some (vd E m.grps.length C):=cell1 (qQ J HA) rfl;generalize(m.grps.any fun g=>decide ((k:Int)∈g.members))=ib at H K;go_upto_region 5 with(go_at_call 160;refine H.mono ?_;rintro e w4 ⟨rfl,n4⟩;have u:=q8 (J.trans n4);have s:=qQ n4 Y)
   have r0:w4.cell? (vw (wr.heap.size+1) 2)=some (ve vq x.kind):=cell1 s rfl;obtain⟨z,O⟩: ∃z,z=loneE m.grps k x:=⟨_,rfl⟩;have A:=q8 O;rw [←O]at K;have d:Hid (z=0→ ∀(j:Nat) y,j<k+1→m.feats[j]? =some y→loneE m.grps j y=0):=q8 (fun q j y hj B=>by
    by_cases e:j=k
    ·subst e
     rw [HX.out]at B
     cases B;rw [←A.out,q]
    ·exact HZ j y (by omega) B)
   by_cases n:x.kind=4
   ·have s:((x.kind:Int)==4)=true:=by rw [n];rfl
    cases ib with
    |true=>
     have q:=q8 (show z=0 by rw [K.out,n];rfl);go_wp2_with fail
     exact⟨⟨k+1,t,by go_num,d.out q.out,u⟩,by simp [intOf];omega⟩
    |false=>
     have q:=q8 (show z=2 by rw [K.out,n];rfl);go_wp2_with fail
     go_ret;refine⟨?_,D.trans u⟩;rw [j0 HZ HX (by rw [←A.out,q.out];decide),←A.out,q.out];rfl
   ·have s:((x.kind:Int)==4)=false:=beq_eq_false_iff_ne.2 (by omega)
    have q:=q8 (show z=0 by rw [K.out,decide_eq_false n];rfl);go_wp2_with fail
    exact⟨⟨k+1,t,by go_num,d.out q.out,u⟩,by simp [intOf];omega⟩
  ·obtain rfl:k=m.feats.length:=by omega
   go_wp2_with fail
   go_ret;refine⟨?_,D.trans c⟩;rw [jh fun j y B=>HZ j y (qm.1 B).1 B];rfl
def kc(w:World)(Bn:Nat)(names:List ByteArray):Prop:= ∃S ao cap,w.heap[Bn]? =some (.cells #[.slice ao names.length cap] 68 (0,0))/\RdL S 1 RdS w (.slice ao names.length cap) names/\names.length<=cap
theorem kc.near(h:kc w d a)(c:Near w w'):kc w' d a:=
 let⟨S,i,b,e,f,g⟩:=h;⟨S,i,b,qQ c e,f.kept c (fun _ _ h=>h) (fun _ h=>h) (fun _ _ h=>h),g⟩
theorem GU(s:kc w d a)(l:a.length<4611686018427387904)(m:i<=a.length)(n:f.kind<256)(p:RdFeat w vs f):
 Calls qj 86 (#[ve vp i,vi vs.toArray]++ #[vg d]) w fun e q=>e=vm (ve vp (featE a i f:Nat))/\Near w q:=by
 obtain rfl:vs=[vf f.name,ve vp f.parent,ve vq f.kind]:=p;have c:Near w (w.alloc (vk #[vf f.name,ve vp f.parent,ve vq f.kind] 76)):=(Near.refl w).alloc _;have x:(w.alloc (vk #[vf f.name,ve vp f.parent,ve vq f.kind] 76)).heap[w.heap.size]? =some (vk #[vf f.name,ve vp f.parent,ve vq f.kind] 76 (0,0)):=heap_new_at rfl;have⟨S,y,h,j,g,b⟩:=s.near c;have t:=q8 (Jz (f:=f) g l m b n);have v:=cell1 (o:=0) j rfl;have r:=q8 c;go_enter Tryz.func86,Tryz.ntmps86;go_wp2_with (go_at_call 87;refine t.mono ?_;rintro e u ⟨rfl,k⟩)
 go_ret;exact⟨rfl,r.trans k⟩
theorem GR{l:Nat}{x:Ex}(K:kc w l a)(A:a.length<4611686018427387904)(J: ∀g,T g→g<w.heap.size)(k:x.size<4611686018427387904)(t:RdEx T w vs x):
 Calls qj 102 (#[ve vp i,vi vs.toArray]++ #[vg l]) w fun e c=>e=vm (ve vp (reqE a x:Nat))∧Near w c:=by
 have d: ∀c,Near w c→ ∃f b,c.heap[l]? =some (vk #[vd f a.length b] 68 (0,0))∧Calls qj 103 #[vd f a.length b,vi vs.toArray] c fun e j=>e=vm (ve vp (reqE a x:Nat))∧Near c j:=fun c n=>by
  have⟨S,f,b,m,H,p⟩:=K.near n;exact⟨f,b,m,Xf H A (t.kept n (fun _ _ h=>h) (fun _ h=>h)) (fun g C=>qu (J g C) n.size) k⟩
 have⟨v,u,s⟩:=x;obtain⟨N,rfl,I⟩:=t.inv;obtain⟨E,z,rfl⟩:=I.form;have q:Near w (w.alloc (vk #[ve vq v,vf u,vd E s.length z] 84)):=(Near.refl w).alloc _;have⟨f,b,m,G⟩:=d _ q;have y:=q8 G;have M:=cell1 (o:=0) m rfl;have D:=q8 q;generalize reqE a (.mk v u s)=r at y⊢;go_enter Tryz.func102,Tryz.ntmps102;go_wp2_with (go_at_call 103;refine y.mono ?_;rintro e L ⟨rfl,B⟩)
 go_ret;exact⟨rfl,D.trans B⟩
theorem GQ{m:Nat}{l:Lim}{a b d e:Value}{s:Option Addr}{q:Nat}(p:w.heap[m]? =some (vk #[a,b,vd s n q,d,e] 28 (0,0)))(v:RdLim w vs l):
 Calls qj 106 (#[ve vp i,vi vs.toArray]++ #[vg m]) w fun e x=>e=vm (ve vp ((if Qq n l=true then 0 else 2:Nat):Int))/\Near w x:=by
 obtain rfl:vs=[ve vp l.att,ve vq l.rel,ve vp l.bound]:=v;have f:Near w (w.alloc (vk #[ve vp l.att,ve vq l.rel,ve vp l.bound] 89)):=(Near.refl w).alloc _;have z:(w.alloc (vk #[ve vp l.att,ve vq l.rel,ve vp l.bound] 89)).cell? (vw m 2)=some (vd s n q):=cell1 (qQ f p) rfl;have y:=q8 f;obtain⟨t,j⟩: ∃t,t=Qq n l:=⟨_,rfl⟩;have u:=q8 (show t=true↔0<=l.att/\l.att<n/\1<=l.rel/\l.rel<=3 by rw [j];simp [Qq,and_assoc]);rw [<-j];obtain⟨r,c⟩: ∃r:Nat,r=if t=true then 0 else 2:=⟨_,rfl⟩;rw [<-c];have g:Hid (t=true->r=0):=fun h=>by rw [c,if_pos h]
 have k:Hid (t=false->r=2):=fun h=>by rw [c,if_neg (by rw [h];decide)]
 clear p f j c;go_enter Tryz.func106,Tryz.ntmps106;go_wp2
 all_goals
  go_ret;refine⟨?_,y⟩
  first
   |(have o:t=true:=u.2 (by omega);rw [g.out o];rfl)
   |(have o:t=false:=zt.2 (fun h=>by have:=u.1 h;omega);rw [k.out o];rfl)
def Yi(S:Nat->Prop)(w:World)(Bm:Nat)(m:Mod):Prop:= ∃a b c d e,w.heap[Bm]? =some (.cells #[a,b,c,d,e] 28 (0,0))/\RdMod S w (.agg #[a,b,c,d,e]) m
theorem Yi.near{g:Nat}(h:Yi S w g m)(f:Near w w'):Yi S w' g m:=
 let⟨a,b,c,d,e,i,j⟩:=h;⟨a,b,c,d,e,qQ f i,j.kept f (fun _ _ h=>h) (fun _ h=>h)⟩
theorem GP{S:Nat→Prop}{j:List ByteArray}(E:Yi S w t m)(B:kc w p j)(q:j.length<4611686018427387904)(G:m.feats.length=j.length)(s: ∀f∈m.feats,f.kind<256):
 Calls qj 84 #[vg t,vg p] w fun e u=>e=vm (ve vp (eachE 24 (featE j) m.feats:Nat))∧Near w u:=by
 have⟨a,b,c,d,e,v,H⟩:=E;obtain⟨_,_,_,_,_,l,n,-,-,-,-⟩:=H
 cases l;have y: ∀(i:Nat) x,m.feats[i]? =some x→i≤j.length:=fun i x h=>by have:=(qm.1 h).1;omega
 have I: ∃z k,a=vd z m.feats.length k:=n.form;obtain⟨z,k,rfl⟩:=I;have C:=q8 (Yf (most:=24) (g:=86) (lb:= #[vg p]) (c:=featE j) (fun _ _=>rfl) (by omega) n fun i x M u J A l=>GU (B.near J) q (y i x A) (s x (qp A)) l);have L:=cell1 (o:=0) v rfl;generalize eachE 24 (featE j) m.feats=r at C⊢;clear B v n y s G q;go_enter Tryz.func84,Tryz.ntmps84;go_wp2_with (go_at_call 85;refine C.mono ?_;rintro e K ⟨rfl,D⟩)
 go_ret;exact⟨rfl,D⟩
theorem GK{S:Nat→Prop}{h:Nat}(z:Yi S w h m)(v:m.lims.length<4611686018427387904):
 Calls qj 104 #[vg h] w fun e p=>e=vm (ve vp (eachE 16 (fun _ l=>if Qq m.atts.length l=true then 0 else 2) m.lims:Nat))∧Near w p:=by
 have⟨a,b,c,d,e,k,s⟩:=z;obtain⟨_,_,_,_,_,f,-,-,A,-,n,-⟩:=s
 cases f;obtain⟨G,t,rfl⟩:=n.form;obtain⟨B,j,rfl⟩:=A.form;have q:=q8 (JB (most:=16) (g:=106) (lb:= #[vg h]) (c:=fun _ l=>if Qq m.atts.length l=true then 0 else 2) (fun _ _=>rfl) v n fun i x D p y H f=>GQ (qQ y k) f);have E:=cell1 (o:=4) k rfl;generalize eachE 16 (fun _ l=>if Qq m.atts.length l=true then 0 else 2) m.lims=r at q⊢;go_enter Tryz.func104,Tryz.ntmps104;go_wp2_with (go_at_call 105;refine q.mono ?_;rintro e C ⟨rfl,u⟩)
 go_ret;exact⟨rfl,u⟩
theorem GL{S:Nat→Prop}{f:List ByteArray}(A:Yi S w p m)(G: ∀g,S g→g<w.heap.size)(D:kc w k f)(z:f.length<4611686018427387904)(j:m.reqs.length<4611686018427387904)(E: ∀x∈m.reqs,x.size<4611686018427387904):
 Calls qj 100 #[vg p,vg k] w fun e q=>e=vm (ve vp (eachE 64 (fun _=>reqE f) m.reqs:Nat))∧Near w q:=by
 have⟨a,b,c,d,e,u,t⟩:=A;obtain⟨_,_,_,_,_,h,-,-,-,l,-⟩:=t
 cases h;obtain⟨K,v,rfl⟩:=l.form;have s:=q8 (Kd (most:=64) (g:=102) (lb:= #[vg k]) (c:=fun _=>reqE f) (fun _ _=>rfl) j l fun i x I q n C h=>GR (D.near n) z (fun g B=>qu (G g B) n.size) (E x (qp C)) h);have J:=cell1 (o:=3) u rfl;generalize eachE 64 (fun _=>reqE f) m.reqs=r at s⊢;go_enter Tryz.func100,Tryz.ntmps100;go_wp2_with (go_at_call 101;refine s.mono ?_;rintro e H ⟨rfl,y⟩)
 go_ret;exact⟨rfl,y⟩
theorem GN{S:Nat→Prop}(p:Yi S w i m)(l:m.feats.length<4611686018427387904)(s:m.grps.length<4611686018427387904)(h: ∀g∈m.grps,g.members.length<4611686018427387904):
 Calls qj 92 #[vg i] w fun e q=>e=vm (ve vp (eachFrom (loneE m.grps) 0 m.feats:Nat))∧Near w q:=by
 have⟨a,b,c,d,e,f,k⟩:=p;have j:=q8 (Ju k l s h);have x:=cell1 (o:=0) f rfl;have z:=cell1 (o:=1) f rfl;have u:=cell1 (o:=2) f rfl;have y:=cell1 (o:=3) f rfl;have v:=cell1 (o:=4) f rfl;generalize eachFrom (loneE m.grps) 0 m.feats=r at j⊢;go_enter Tryz.func92,Tryz.ntmps92;go_wp2_with (go_at_call 93;refine j.mono ?_;rintro e t ⟨rfl,n⟩)
 go_ret;exact⟨rfl,n⟩
theorem GS{J I:Nat}{x:Att}{S:Nat→Prop}(ha:kc w J a)(hl:a.length<4611686018427387904)(hi:i≤a.length){fo:Option Addr}{fc:Nat}{T:Nat→Prop}{t:List ByteArray}(hn:kc w I t)(hx:x.values.length<4611686018427387904)(hv:RdAtt S w vs x)(P:t.length=n)(ad:n<4611686018427387904):
 Calls qj 96 (#[ve vp i,vi vs.toArray]++ #[vg J,vg I]) w fun e b=>e=vm (ve vp ((if freshE (a.take i) x.name=0 then(if(decide (x.values.length=n)&&x.values.all costB)=true then 0 else 2)else freshE (a.take i) x.name:Nat):Int))∧Near w b:=by
 obtain⟨v,rfl,M⟩:=hv;have⟨o,l⟩:=x;obtain⟨B,C,rfl⟩:=M.form;have⟨S1,ao,g,Y,E,Q⟩:=ha;obtain⟨S2,V,m,G,-,-⟩:=hn;have p:=q8 (fun(b:World)(O:Near w b)(c:Nat)=>vZ ((E.kept O (fun _ _ h=>h) (fun _ h=>h) (fun _ _ h=>h)).take i c hi) (by rw [zd];omega) o);have Z:=q8 (fun(b:World)(O:Near w b)=>XA (M.kept O (fun _ _ h=>h) (fun _ h=>h) (fun _ _ h=>h)) hx);have R:Near w (w.alloc (vk #[vf o,vd B l.length C] 81)):=(Near.refl w).alloc _;have X:(w.alloc (vk #[vf o,vd B l.length C] 81)).heap[w.heap.size]? =some (vk #[vf o,vd B l.length C] 81 (0,0)):=heap_new_at rfl;have D:=q8 R;have L:=q8 X;have HB:=q8 Y;have K:=q8 G;generalize freshE (a.take i) o=z at p⊢;obtain⟨r,s⟩: ∃r:Nat,r=if z=0 then(if(decide (l.length=n)&&l.all costB)=true then 0 else 2)else z:=⟨_,rfl⟩;show Calls qj 96 _ _ fun e b=>e=vm (ve vp ((if z=0 then(if(decide (l.length=n)&&l.all costB)=true then 0 else 2)else z:Nat):Int))∧_;rw [←s];have A:=q8 s;have ab:(i:Int)≤a.length:=by omega
 have ae:(i:Int)≤g:=by omega
 subst P;clear R X Y G E s M;go_enter Tryz.func96,Tryz.ntmps96;go_upto_region 1 with fail
 generalize w.alloc (vk #[vf o,vd B l.length C] 81)=W at D L⊢;have y: ∀b,Near W b→b.cell? w.heap.size=some (vf o)∧b.cell? (vw w.heap.size 1)=some (vd B l.length C)∧b.cell? J=some (vd ao a.length g)∧b.cell? I=some (vd V t.length m):=fun b h=>⟨cell1 (qQ h L) rfl,cell1 (qQ h L) rfl,cell1 (qQ (D.trans h) HB) rfl,cell1 (qQ (D.trans h) K) rfl⟩;go_region_held3 (fun b=>b.cell? w.heap.size=some (vf o)∧b.cell? (vw w.heap.size 1)=some (vd B l.length C)∧b.cell? J=some (vd ao a.length g)∧b.cell? I=some (vd V t.length m))
  ((refine y _ ?_;first|exact H|exact(Near.refl _).drew))
  ((go_at_call 97;refine(p _ (D.trans (Near.refl W).drew) g).mono ?_;rintro e w1 ⟨rfl,U⟩;have H:Near W w1:=(Near.refl W).drew.trans U))
 have⟨c0,c1,c2,c3⟩:=y _ H;have j:=q8 (D.trans H);clear H U y p;have f:=q8 (Z _ j);clear Z;by_cases N:z=0
 ·subst N
  rw [if_pos rfl]at A;by_cases d:l.length=t.length
  ·have k:=q8 (show r=if l.all costB=true then 0 else 2 by rw [A.out];simp [d])
   rw [d]at f;have u:(l.length:Int)=t.length:=by omega
   clear A;generalize l.all costB=q at f k
   cases q
   all_goals
    go_wp2_with (go_at_call 98;go_loud (refine f.mono ?_;rintro e w2 ⟨rfl,rfl⟩))
    go_ret;refine⟨?_,j⟩;rw [k.out];rfl
  ·have k:=q8 (show r=2 by rw [A.out];simp [d])
   have u: ¬(l.length:Int)=t.length:=by omega
   clear A f;go_wp2_with fail
   go_ret;refine⟨?_,j⟩;rw [k.out];rfl
 ·have aa:((z:Int) !=0)=true:=by rw [bne_iff_ne];omega
  rw [if_neg N]at A;clear N f;go_wp2_with fail
  go_ret;exact⟨by rw [A.out];rfl,j⟩
theorem GM{S:Nat→Prop}{l:Nat}{n:List ByteArray}(D:Yi S w t m)(E:kc w k (m.atts.map Att.name))(H:kc w l n)(q:m.atts.length<4611686018427387904)(G: ∀x∈m.atts,x.values.length<4611686018427387904)(f:n.length=m.feats.length)(h:m.feats.length<4611686018427387904):
 Calls qj 94 #[vg t,vg k,vg l] w fun e u=>e=vm (ve vp (eachE 8 (attE m) m.atts:Nat))∧Near w u:=by
 have⟨a,b,c,d,e,A,z⟩:=D;obtain⟨_,_,_,_,_,j,-,-,v,-,-⟩:=z
 cases j;obtain⟨L,B,rfl⟩:=v.form;have y:=q8 (JD (most:=8) (g:=96) (lb:= #[vg k,vg l]) (c:=attE m) (fun _ _=>rfl) q v fun i x K u s p j=>GS (fo:=none) (fc:=0) (T:=S) (E.near s) (by rw [qG];exact q) (by rw [qG];exact Nat.le_of_lt (qm.1 p).1) (H.near s) (G x (qp p)) j f h);have J:=cell1 (o:=2) A rfl;generalize eachE 8 (attE m) m.atts=r at y⊢;go_enter Tryz.func94,Tryz.ntmps94;go_wp2_with (go_at_call 95;refine y.mono ?_;rintro e I ⟨rfl,C⟩)
 go_ret;exact⟨rfl,C⟩
theorem wU:(qj.info? 3).map (fun i=>(i.zero,i.size,i.bytes))=some (some (ve vp 0),1,8):=by kernel_rfl
def intV(x:Int):Value:= .int .i64 x
theorem q3b{d:Option Addr}(h:RdL S 1 RdI w (vd d l.length c) l)(m:d=none->c=0):SrcOf w 1 l.length (vd d l.length c) (l.map intV):=by
 refine⟨by simp,?_⟩;have⟨r,k,e,i⟩:=h;simp only [qq,true_and]at e;obtain⟨rfl,rfl⟩:=e
 cases d with
 |none=>
  cases l with
  |nil=>rw [m rfl];exact vu ⟨rfl,rfl⟩
  |cons x l=>have⟨_,_,_,e,_⟩:=i 0 x rfl;cases e
 |some q=>
  refine vv ⟨q,c,rfl,fun j u b=> ?_⟩;rw [List.getElem?_map]at b
  cases f:l[j]? with
  |none=>rw [f]at b;cases b
  |some x=>
   rw [f]at b
   cases b;obtain⟨g,o,n,e,-,a,p⟩:=i j x f
   cases e;obtain rfl:n=[ve vp x]:=p
   have:=a 0 _ rfl
   rw [Addr.add_lit];show w.cell? _=some (ve vp x);simpa using this
theorem q1F{S:Nat→Prop}(h:RdMod S w v m)(H:RdGrp T w vs g)(hi:i≤m.grps.length)(U:m.feats.length<4611686018427387904)(ab:m.grps.length<4611686018427387904)(f:(takenTo m.grps i).length+g.members.length<1099511627776)(L:vL m.feats.length g=false):
 Calls qj 91 #[v,ve vp i,vi vs.toArray] w fun e w'=>e=vm (ve vp (grpE m i g:Nat))∧Near w w':=by
 obtain⟨A,x,y,q,G,C,J,D,B,K,rfl,Q,M,-,-,-,-,ae⟩:=RdMod.form h;have⟨p,c,a,b⟩:=g;obtain⟨sv,rfl,z,-⟩:=H;obtain⟨u,o,rfl⟩:=z.form;dsimp only at z f⊢;have⟨i3,Y,aa,X,ad⟩:=zG wU;have O: ∀W,W=(w.alloc (vk #[vd A m.feats.length x,vd y m.grps.length q,vd G m.atts.length C,vd J m.reqs.length D,vd B m.lims.length K] 28)).alloc (vk #[ve vp p,ve vp c,ve vp a,vd u b.length o] 78)→Near w W∧W.heap[w.heap.size]? =some (vk #[vd A m.feats.length x,vd y m.grps.length q,vd G m.atts.length C,vd J m.reqs.length D,vd B m.lims.length K] 28 (0,0))∧W.heap[w.heap.size+1]? =some (vk #[ve vp p,ve vp c,ve vp a,vd u b.length o] 78 (0,0)):=by
  rintro W rfl;exact⟨((Near.refl w).alloc _).alloc _,by rw [qD (by simp),heap_new_at rfl],heap_new_at (by simp)⟩
 have I:Hid (grpE m i ⟨p,c,a,b⟩=if(vL m.feats.length ⟨p,c,a,b⟩&&vJ m.feats p (takenTo m.grps i) b)=true then 0 else 2):=rfl;generalize grpE m i ⟨p,c,a,b⟩=r at I⊢;have V:=q8 Q;have HG:=q8 M;have Z:=q8 z;have l:=q8 f;clear h Q M z f;go_enter Tryz.func91,Tryz.ntmps91;go_upto_region 1 with fail
 have R:=O _ rfl;generalize(w.alloc (vk #[vd A m.feats.length x,vd y m.grps.length q,vd G m.atts.length C,vd J m.reqs.length D,vd B m.lims.length K] 28)).alloc (vk #[ve vp p,ve vp c,ve vp a,vd u b.length o] 78)=W at R⊢;have⟨N,t,k⟩:=R;have q0:W.cell? w.heap.size=some (vd A m.feats.length x):=cell1 t rfl;have q1:W.cell? (vw w.heap.size 1)=some (vd y m.grps.length q):=cell1 t rfl;have p0:W.cell? (vw (w.heap.size+1) 0)=some (ve vp p):=cell1 k rfl;have p1:W.cell? (vw (w.heap.size+1) 1)=some (ve vp c):=cell1 k rfl;have p2:W.cell? (vw (w.heap.size+1) 2)=some (ve vp a):=cell1 k rfl;have p3:W.cell? (vw (w.heap.size+1) 3)=some (vd u b.length o):=cell1 k rfl;have HN:=q8 N;have HA:=q8 t;have HB:=q8 k;clear O N t k;have d:vL m.feats.length ⟨p,c,a,b⟩=true↔0≤p∧p<m.feats.length∧0<b.length∧0≤c∧c≤a∧a≤b.length:=by
  unfold vL;simp only [qy,decide_eq_true_eq,and_assoc]
 have HE:=q8 (show r=2 by rw [I.out,L];rfl);rw [L]at d;have j:p<0∨(¬p<0∧(m.feats.length:Int)≤p)∨(¬p<0∧ ¬(m.feats.length:Int)≤p∧((b.length:Int)==0)=true)∨(¬p<0∧ ¬(m.feats.length:Int)≤p∧((b.length:Int)==0)=false∧c<0)∨(¬p<0∧ ¬(m.feats.length:Int)≤p∧((b.length:Int)==0)=false∧ ¬c<0∧a<c)∨(¬p<0∧ ¬(m.feats.length:Int)≤p∧((b.length:Int)==0)=false∧ ¬c<0∧ ¬a<c∧(b.length:Int)<a):=by
  have: ¬(0≤p∧p<m.feats.length∧0<b.length∧0≤c∧c≤a∧a≤b.length):=fun h=>by cases d.2 h
  simp only [beq_iff_eq,beq_eq_false_iff_ne,ne_eq];omega
 clear d L I V HG Z l;rcases j with n|⟨n,s⟩|⟨n,s,E⟩|⟨n,s,E,P⟩|⟨n,s,E,P,h5⟩|⟨n,s,E,P,h5,h6⟩
 all_goals
  go_wp2_with fail
  go_ret;exact⟨by rw [HE.out];rfl,HN⟩
theorem Gt{S:Nat→Prop}(h:RdMod S w v m)(aw:RdGrp T w vs g)(hi:i≤m.grps.length)(a9:m.feats.length<4611686018427387904)(bc:m.grps.length<4611686018427387904)(Q:(takenTo m.grps i).length+g.members.length<1099511627776)(hh:vL m.feats.length g=true):
 Calls qj 91 #[v,ve vp i,vi vs.toArray] w fun e w'=>e=vm (ve vp (grpE m i g:Nat))∧Near w w':=by
 obtain⟨a1,a2,b1,b2,c1,c2,d1,d2,e1,e2,rfl,hF,hG,-,-,-,-,a5⟩:=RdMod.form h;have⟨p,H,l,c⟩:=g;obtain⟨sv,rfl,hs,-⟩:=aw;obtain⟨so,sc,rfl⟩:=hs.form;dsimp only at hs Q⊢;have⟨i3,ah,af,al,aj⟩:=zG wU;have hW: ∀W,W=(w.alloc (vk #[vd a1 m.feats.length a2,vd b1 m.grps.length b2,vd c1 m.atts.length c2,vd d1 m.reqs.length d2,vd e1 m.lims.length e2] 28)).alloc (vk #[ve vp p,ve vp H,ve vp l,vd so c.length sc] 78)→Near w W∧W.heap[w.heap.size]? =some (vk #[vd a1 m.feats.length a2,vd b1 m.grps.length b2,vd c1 m.atts.length c2,vd d1 m.reqs.length d2,vd e1 m.lims.length e2] 28 (0,0))∧W.heap[w.heap.size+1]? =some (vk #[ve vp p,ve vp H,ve vp l,vd so c.length sc] 78 (0,0)):=by
  rintro W rfl;exact⟨((Near.refl w).alloc _).alloc _,by rw [qD (by simp),heap_new_at rfl],heap_new_at (by simp)⟩
 have HR:Hid (grpE m i ⟨p,H,l,c⟩=if(vL m.feats.length ⟨p,H,l,c⟩&&vJ m.feats p (takenTo m.grps i) c)=true then 0 else 2):=rfl;generalize grpE m i ⟨p,H,l,c⟩=r at HR⊢;have HF:=q8 hF;have HG:=q8 hG;have HM:=q8 hs;have D:=q8 Q;go_enter Tryz.func91,Tryz.ntmps91;go_upto_region 1 with fail
 have h0:=hW _ rfl;generalize(w.alloc (vk #[vd a1 m.feats.length a2,vd b1 m.grps.length b2,vd c1 m.atts.length c2,vd d1 m.reqs.length d2,vd e1 m.lims.length e2] 28)).alloc (vk #[ve vp p,ve vp H,ve vp l,vd so c.length sc] 78)=W at h0⊢;have⟨hN,hA,hB⟩:=h0;have q0:W.cell? w.heap.size=some (vd a1 m.feats.length a2):=cell1 hA rfl;have q1:W.cell? (vw w.heap.size 1)=some (vd b1 m.grps.length b2):=cell1 hA rfl;have p0:W.cell? (vw (w.heap.size+1) 0)=some (ve vp p):=cell1 hB rfl;have p1:W.cell? (vw (w.heap.size+1) 1)=some (ve vp H):=cell1 hB rfl;have p2:W.cell? (vw (w.heap.size+1) 2)=some (ve vp l):=cell1 hB rfl;have p3:W.cell? (vw (w.heap.size+1) 3)=some (vd so c.length sc):=cell1 hB rfl;have G:=q8 hN;have HA:=q8 hA;have HB:=q8 hB;have aa:vL m.feats.length ⟨p,H,l,c⟩=true↔0≤p∧p<m.feats.length∧0<c.length∧0≤H∧H≤l∧l≤c.length:=by
  unfold vL;simp only [qy,decide_eq_true_eq,and_assoc]
 have HE:=q8 (show r=if vJ m.feats p (takenTo m.grps i) c=true then 0 else 2 by rw [HR.out,hh];rfl);have⟨h1,h2,h3,h4,h5,h6⟩:=aa.1 hh;have g1: ¬p<0:=by omega
 have g2: ¬(m.feats.length:Int)≤p:=by omega
 have g3:((c.length:Int)==0)=false:=beq_eq_false_iff_ne.2 (by omega);have g4: ¬H<0:=by omega
 have g5: ¬l<H:=by omega
 have g6: ¬(c.length:Int)<l:=by omega
 have g7:(i:Int)≤b2:=by omega
 go_wp2_with fail
 go_loopw [7,54] (fun v ix wr=> ∃k:Nat,k≤i∧ix=ve vp k∧wr.ownsRow W.heap.size 3 1 v (takenTo m.grps k).length ((takenTo m.grps k).map intV)∧Near W wr) (fun _ ix _=>i - (intOf ix).toNat)
 case atStart=>exact⟨0,qv _,rfl,qW _ _ _ _,Near.refl _⟩
 case round=>
  obtain⟨k,hk,rfl,s,a4⟩:=hrel;obtain⟨vo,vc,rfl⟩:=qR s;have HO:=q8 s;have q:=q8 a4;by_cases A:k<i
  ·have ak:(k:Int)<i:=by omega
   obtain⟨x,hx⟩: ∃x,m.grps[k]? =some x:=⟨_,qi (by omega)⟩;have⟨ai,U,e,hc⟩:=HG.out;obtain⟨b,o,vs,I,-,a,hv⟩:=hc k x hx;obtain⟨sv,rfl,hs,av⟩:=hv.kept (G.trans q) (fun _ _ h=>h) (fun _ h=>h);obtain⟨xo,xc,rfl⟩:=hs.form;simp only [qq,true_and]at e;obtain⟨rfl,rfl⟩:=e;subst I;have d0:w.cell? (vw b (o+k*4))=some (ve vp x.parent):=a 0 _ rfl;have a6:w.cell? (vw b (o+k*4+1))=some (ve vp x.low):=a 1 _ rfl;have a7:w.cell? (vw b (o+k*4+2))=some (ve vp x.high):=a 2 _ rfl;have a0:w.cell? (vw b (o+k*4+3))=some (vd xo x.members.length xc):=a 3 _ rfl;have y0:=q.cell (G.cell d0);have y1:=q.cell (G.cell a6);have y2:=q.cell (G.cell a7);have y3:=q.cell (G.cell a0);have ae:=q8 (fun(w':World)(hn:Near wr w')=>q3b (hs.kept hn (fun _ _ h=>h) (fun _ h=>h) (fun _ _ h=>h)) (av _ _ _ rfl).2);have ad:=q8 (uA hx);have a8:=WK m.grps (k+1) i A;have a5:=D.out;rw [ad.out,qn]at a8;have am:=q8 (show(takenTo m.grps k).length+x.members.length<1099511627776 by omega);go_wp2_with (at_builtin;go_must (refine wpList_append_more rfl (.tmp 58) (.tmp 60) 47 rfl W.heap.size 3 i3 (ve vp 0) 1 8 yF ah af al aj rfl (by decide) (vd vo (takenTo m.grps k).length vc) (takenTo m.grps k).length ((takenTo m.grps k).map intV) rfl (HO.alloc _) _ x.members.length (x.members.map intV) rfl (ae _ ((Near.refl wr).alloc _)) (fun u hu=>by obtain⟨z,-,rfl⟩:=List.mem_map.1 hu;rfl) (by have:=am.out;unfold maxLen;omega) (by have:=am.out;omega) (by have:=q.size;simp;omega) ?_);intro b3 c3 w3 B X;have Z:=q8 B;have Y:=q8 (Kept.grown (q.alloc _) X (fun k e A=>by have:=(zY HO e).1;omega):Near W w3))
   exact⟨⟨k+1,A,by go_num,by rw [ad.out,ze,qn];exact Z,Y⟩,by simp [intOf];omega⟩
  ·obtain rfl:i=k:=by omega
   have bb:=q.cell p0;have bd:=q.cell p3;go_wp2_with fail
   have ap:Hid (RdL T 1 RdI W (vd so c.length sc) c):=q8 (HM.kept G (fun _ _ h=>h) (fun _ h=>h) (fun _ _ h=>h));have ag:Hid (RdL S 3 RdFeat W (vd a1 m.feats.length a2) m.feats):=q8 (HF.kept G (fun _ _ h=>h) (fun _ h=>h) (fun _ _ h=>h));obtain⟨wm,az⟩: ∃x,x=wr:=⟨_,rfl⟩;subst az;generalize takenTo m.grps i=J at HO D HE⊢;go_loopw [7,66] (fun v ix w2=> ∃j:Nat,j≤c.length∧ix=ve vp j∧w2.ownsRow W.heap.size 3 1 v (J++c.take j).length ((J++c.take j).map intV)∧Near W w2∧vJ m.feats p J c=vJ m.feats p (J++c.take j) (c.drop j)) (fun _ ix _=>c.length - (intOf ix).toNat)
   case atStart=>exact⟨0,qv _,rfl,by rw [yU,zS];exact HO,q,by rw [yU,zS,List.drop_zero]⟩
   case round=>
    obtain⟨j,hj,rfl,s,a3,ao⟩:=hrel;have N:=q8 ao;have ba:c.length<1099511627776:=by have:=D.out;omega
    have d:=q8 a3;have ay:(J++c.take j).length<1099511627776:=by
     have:=D.out
     rw [qn,zd];omega
    have P:=q8 (RdL.own (enc:=fun x=>[intV x]) (R:=RdI) (fun _=>rfl) (by rw [gW];exact s) (fun _ _=>rfl));obtain⟨vo,vc,rfl⟩:=qR s;have ab:=q8 s;by_cases A:j<c.length
    ·have ak:(j:Int)<c.length:=by omega
     obtain⟨L,hx⟩: ∃x,c[j]? =some x:=⟨_,qi A⟩;have⟨ai,U,e,hc⟩:=ap.out;obtain⟨b,o,vs,I,-,a,hv⟩:=hc j L hx;obtain rfl:vs=[ve vp L]:=hv;simp only [qq,true_and]at e;obtain⟨rfl,rfl⟩:=e;subst I;have d0:W.cell? (vw b (o+j))=some (ve vp L):=by simpa using a 0 _ rfl
     have x0:=d.cell d0;have q0:wr.cell? w.heap.size=some (vd a1 m.feats.length a2):=cell1 (qQ d HA) rfl;have p0:wr.cell? (vw (w.heap.size+1) 0)=some (ve vp p):=cell1 (qQ d HB) rfl;have C:=q8 (Gf (fs:=m.feats) (p:=p) (taken:=J) hx);have ar:=q8 (show c.take (j+1)=c.take j++[L] by rw [qU,hx];rfl);generalize hT':J++c.take j=V at N ay P ab C;have y:q3H m.feats p V L=false→Hid (r=2):=fun h=>q8 (by rw [HE.out,N.out,C.out,h];rfl);by_cases k0:L<0
     ·have t:=y (by unfold q3H;rw [decide_eq_false (by omega)];rfl)
      go_upto_region 12 with fail
      go_quiet (fail)
      go_wp2_with fail
      go_ret;exact⟨by rw [t.out];rfl,G.trans (d.drewN _)⟩
     ·by_cases k1:(m.feats.length:Int)≤L
      ·have t:=y (by unfold q3H;rw [List.getElem?_eq_none (by omega)];simp)
       go_upto_region 12 with fail
       go_quiet (fail)
       go_wp2_with fail
       go_ret;exact⟨by rw [t.out];rfl,G.trans (d.drewN _)⟩
      ·obtain⟨E,rfl⟩: ∃n:Nat,L=n:=⟨L.toNat,by omega⟩
       have k2:(E:Int)<m.feats.length:=by omega
       obtain⟨f,hf⟩: ∃f,m.feats[E]? =some f:=⟨_,qi (by omega)⟩;have⟨ai,U,e,hc⟩:=ag.out;obtain⟨fb,fo,vs,I,-,a,hv⟩:=hc E f hf;obtain rfl:vs=[vf f.name,ve vp f.parent,ve vq f.kind]:=hv;simp only [qq,true_and]at e;obtain⟨rfl,rfl⟩:=e;subst I;have f1:wr.cell? (vw fb (fo+E*3+1))=some (ve vp f.parent):=d.cell (a 1 _ rfl);have f2:wr.cell? (vw fb (fo+E*3+2))=some (ve vq f.kind):=d.cell (a 2 _ rfl);have M:=q8 (show q3H m.feats p V (E:Int)=((decide (f.kind=4)&&decide (f.parent=p))&& !decide ((E:Int)∈V)) by
        unfold q3H;rw [decide_eq_true (by omega),show((E:Int)).toNat=E by omega,hf,List.contains_eq_mem];simp)
       by_cases k4:f.kind=4
       ·by_cases kp:f.parent=p
        ·have an:((f.kind:Int) !=4)=false:=by rw [k4];rfl
         have aq:(f.parent !=p)=false:=by rw [kp];simp
         have K:=q8 (fun n=>uN (w:=wr.drewN n) (P.kept ((Near.refl wr).drewN n) (fun _ _ h=>h) (fun _ h=>h) (fun _ _ h=>h)) (by omega) (E:Int))
         cases O:decide ((E:Int)∈V)with
         |true=>
          have t:=y (by rw [M.out,O];simp);rw [O]at K;go_upto_region 12 with fail
          go_quiet ((go_at_call 159;exact vP (K _)))
          go_wp2_with fail
          go_ret;exact⟨by rw [t.out];rfl,G.trans (d.drewN _)⟩
         |false=>
          have ax:=q8 (show vJ m.feats p J c=vJ m.feats p (J++c.take (j+1)) (c.drop (j+1)) by rw [N.out,C.out,M.out,O,k4,kp];simp);rw [O]at K;go_upto_region 12 with fail
          go_quiet ((go_at_call 159;exact vP (K _)))
          go_wp2_with (at_builtin;go_must (refine wpList_append_more rfl (.tmp 104) (.tmp 106) 47 rfl W.heap.size 3 i3 (ve vp 0) 1 8 yF ah af al aj rfl (by decide) (vd vo V.length vc) V.length (V.map intV) rfl (owns_kept ab (((Near.refl wr).drewN nq).alloc _) (fun _ _ h=>h)) _ 1 [ve vp E] rfl ⟨rfl,vv ⟨_,1,rfl,cell_one_at (by simp) _ _⟩⟩ (by simp [qX]) (by unfold maxLen;omega) (by omega) (by have:=d.size;simp;omega) ?_);intro b3 c3 w3 B X;have Z:=q8 B;have Y:=q8 (Kept.grown ((d.drewN nq).alloc _) X (fun k e A=>by have:=(zY ab e).1;omega):Near W w3))
          have au:=q8 (show J++c.take (j+1)=V++[(E:Int)] by rw [ar.out,←List.append_assoc,hT']);exact⟨⟨j+1,A,by go_num,by rw [au.out,ze,qn];exact Z,Y,ax⟩,by simp [intOf];omega⟩
        ·have t:=y (by rw [M.out,decide_eq_false kp];simp)
         have an:((f.kind:Int) !=4)=false:=by rw [k4];rfl
         have aq:(f.parent !=p)=true:=by simpa using kp
         go_upto_region 12 with fail
         go_quiet (fail)
         go_wp2_with fail
         go_ret;exact⟨by rw [t.out];rfl,G.trans (d.drewN _)⟩
       ·have t:=y (by rw [M.out,decide_eq_false k4];simp)
        have an:((f.kind:Int) !=4)=true:=by rw [bne_iff_ne];omega
        go_upto_region 12 with fail
        go_quiet (fail)
        go_wp2_with fail
        go_ret;exact⟨by rw [t.out];rfl,G.trans (d.drewN _)⟩
    ·obtain rfl:j=c.length:=by omega
     go_wp2_with fail
     go_ret;refine⟨?_,G.trans d⟩;rw [HE.out,N.out,List.drop_length];rfl
theorem ZE{T:Nat->Prop}(h:RdMod S w v m)(d:RdGrp T w vs g)(f:i<=m.grps.length)(b:m.feats.length<4611686018427387904)(c:m.grps.length<4611686018427387904)(a:(takenTo m.grps i).length+g.members.length<1099511627776):
 Calls qj 91 #[v,ve vp i,vi vs.toArray] w fun e k=>e=vm (ve vp (grpE m i g:Nat))/\Near w k:=by
 cases j:vL m.feats.length g with
 |false=>exact q1F h d f b c a j
 |true=>exact Gt h d f b c a j
end Go.Proofs.YtjcbmcnbdegpmaaGreatDoor
