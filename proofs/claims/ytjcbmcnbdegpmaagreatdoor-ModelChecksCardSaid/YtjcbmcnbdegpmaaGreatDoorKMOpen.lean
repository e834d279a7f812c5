/- Valid, LinB, LinC, LinD, LinE, LinF, LinG, LinH, FAll, BetA, BetB, FAsk, RefS, MText, MRuleP, MHas, MFSet, MOpen. -/
import Derived.IntWalk
import Derived.Lib.TrimByte
import Derived.Lib.ParseIntB
import Derived.Lib.Strings
import Derived.OpenShut
import Derived.ShutString
import Derived.ChangeOld
import Derived.Below
import Derived.Deep.Fields
import Derived.Test.YtjcbmcnbdegpmaaGreatDoorKMRound
set_option maxRecDepth 100000
set_option maxHeartbeats 12800000
set_option linter.unusedVariables false
open Array renaming getElem?_eq_some_iff->qk
open Array.mk renaming injEq->za
open Bool renaming and_eq_true->qy
open ByteArray renaming empty->yi
open Go renaming MemPlace->kg,bodyPost_ret->qo,results->qC,wpAnyH_ready->jq
open Go.AllReadyH renaming nil->yI
open Go.DataW renaming trod->yK
open Go.IntKind renaming i64->zD,u32->ug
open Go.IntWalk renaming i64_in->j9
open Go.Lib renaming hid->q8,trimB->wJ
open Go.NoPanic renaming normal->vA
open Go.Obj renaming cells->zK
open Go.Proofs.Tryz renaming prog->qj,underlying2->Kx,underlying25->JQ,underlying3->qP,underlying47->yF
open Go.Value renaming agg->uP,int->qs,oneCell'->qX,ownBlock->zN,pointer->zj,slice->qw
open Go.Value.agg renaming injEq->qY
open Go.Value.slice renaming injEq->qq
open List renaming ext_getElem->Q9,getD_eq_getElem?_getD->zU,getElem?_append_left->zc,getElem?_append_right->qV,getElem?_cons_succ->kh,getElem?_eq_getElem->qi,getElem?_eq_none->zP,getElem?_eq_some_iff->qm,getElem?_map->qA,getElem?_range->yT,getElem?_toArray->ye,getElem_mem->xJ,getElem_range->q7C,length_append->qn,map_congr_left->ja,map_map->kX,mem_append->qK,mem_cons->qI,mem_cons_of_mem->yw,mem_cons_self->j5,mem_map->yH,mem_of_getElem?->qp,mem_range->yd,mem_singleton->qN,not_mem_nil->zh,range->qO,replicate->zk,setIfInBounds_toArray->qb,set_cons_succ->qd,set_cons_zero->qh,take_length->qF,take_of_length_le->zE,take_succ_eq_append_getElem->zM
open List.cons renaming injEq->qJ
open Nat renaming le_refl->qt,le_trans->qH,lt_irrefl->jo,lt_of_lt_of_le->qu,not_le->ut,one_le_two_pow->q8c,pow_succ->jn,zero_add->zz,zero_le->qv
open Option.some renaming inj->zm,injEq->zo
open Or renaming inl->qB,inr->j4
open Go.Value renaming slice->vd,int->ve,string->vf,pointer->vg,agg->vi,bool->vj
open Go.Obj renaming cells->vk
open Go.Ending renaming returned->vm
open Go.IntKind renaming i64->vp,u8->vq,u32->vr,u64->vt
open Or renaming inl->vu,inr->vv
namespace Go.Proofs.YtjcbmcnbdegpmaaGreatDoor
open Go Go.RowKit Go.Proofs.Gen Go.Proofs.Bdd Go.Proofs.Bdd.T
variable{C d f v:Value}{L M ts:List T}{R S:Nat->Prop}{a:Nat->Int}{b base i j k m n q rel:Nat}{c e:Nat->Value}{cs:Array Value}{fs:List F}{g:Int->Bool}{l:List Int}{s:Int}{w w':World}{x:Dec}
def vO(w:World)(v:Value)(l:List Int):Prop:=
 ∃ao cap,v= .slice ao l.length cap/\ ∀k x,l[k]? =some x-> ∃b off,ao=some ⟨b,off,none⟩/\w.cell? ⟨b,off+k,none⟩=some (.int .i64 x)
theorem vO.near(h:vO w v l)(i:Near w w'):vO w' v l:=by
 obtain⟨f,a,rfl,j⟩:=h;refine⟨f,a,rfl,fun k x g=> ?_⟩;have⟨b,c,e,d⟩:=j k x g;exact⟨b,c,e,i.cell d⟩
def je(l:List Int):Prop:=l.length<=24/\ ∀x∈l,-2147483648<=x/\x<=2147483648
instance (l:List Int):Decidable (je l):=by unfold je;infer_instance
theorem WH(h:vO w v l)(f:24<l.length):
 Calls qj 206 #[v] w fun e a=>e=vm (vj false)/\Near w a:=by
 obtain⟨g,b,rfl,-⟩:=h;have c: ¬((l.length:Int)<=24):=by omega
 have d:(24:Int)<l.length:=by omega
 go_enter Tryz.func206,Tryz.ntmps206;go_wp2_with fail
 exact qo (v:=vj false) (by simp [qC,Tryz.results206,go_sem]) rfl ⟨rfl,Near.refl _⟩
theorem KG(h:vO w v l)(H:l.length<=24){r:Bool}(B:r=true↔ ∀x∈l,-2147483648<=x/\x<=2147483648):
 Calls qj 206 #[v] w fun e s=>e=vm (vj r)/\Near w s:=by
 obtain⟨L,C,rfl,u⟩:=h;have t: ¬((24:Int)<l.length):=by omega
 have G:=q8 u;have n:=q8 B;go_enter Tryz.func206,Tryz.ntmps206;go_wp2_with fail
 go_loopw [4,10] (fun x i wr=> ∃k:Nat,k<=l.length/\i=ve vp k/\(∀y∈l.take k,-2147483648<=y/\y<=2147483648)/\Near w wr) (fun _ i _=>l.length - (intOf i).toNat)
 case atStart=>exact⟨0,qv _,rfl,by simp,Near.refl _⟩
 case round=>
  obtain⟨k,I,rfl,m,f⟩:=hrel;have c:=q8 m;by_cases a:k<l.length
  .have o:(k:Int)<l.length:=by omega
   obtain⟨g,z,rfl,E⟩:=G k _ (qi a);have A:=f.cell E;have D:l.take (k+1)=l.take k++[l[k]]:=zM a;have q:l[k]∈l:=xJ a;have p:=q8 D;have j:=q8 q;generalize l[k]=d at A p j;by_cases K:d< -2147483648
   .go_wp2_with fail
    refine qo (v:=vj false) (by simp [qC,Tryz.results206,go_sem]) rfl ⟨?_,f⟩;rw [show r=false from by
     cases r
     .rfl
     .have:=n.1 rfl d j
      omega]
   .by_cases J:2147483648<d
    .go_wp2_with fail
     refine qo (v:=vj false) (by simp [qC,Tryz.results206,go_sem]) rfl ⟨?_,f⟩;rw [show r=false from by
      cases r
      .rfl
      .have:=n.1 rfl d j
       omega]
    .go_wp2_with fail
     refine⟨⟨k+1,a,by simp,fun y b=> ?_,f⟩,by simp [intOf];omega⟩;rw [p.out]at b;rcases qK.1 b with b|b
     .exact c y b
     .rw [qN.1 b]
      omega
  .go_wp2_with fail
   refine qo (v:=vj true) (by simp [qC,Tryz.results206,go_sem]) rfl ⟨?_,f⟩;rw [n.out.2 (by
    have h:=c.out;rwa [zE (by omega)]at h)]
theorem Zg(h:vO w v l):Calls qj 206 #[v] w fun e b=>e=vm (vj (decide (je l)))/\Near w b:=by
 by_cases a:l.length<=24
 .exact KG h a (by simp [je,a])
 .rw [show decide (je l)=false from decide_eq_false (fun h=>a h.1)]
  exact WH h (by omega)
def inSpan(s:Int)(x:Dec):Prop:=x.v<=s/\s<=x.lo
theorem Gv{U:Value}{l:List Dec}(hi:i<24)(L:w.cell? (vw b 25)=some U)(G:w.cell? (vw b (26+i))=some v)(Y:q6J w v l)(hl:l.length<1099511627776)
 (hx:l[q]? =some x) (f:inSpan s x) (d: ∀k y,k<q->l[k]? =some y-> ¬inSpan s y):
 Calls qj 207 #[vg b,ve vp i,ve vp s] w fun e w'=>e=vm (vi #[ve vp x.v,ve vp x.lo,ve vp x.hi])/\Near w w':=by
 obtain⟨ao,ab,rfl,hc⟩:=Y;have Z:=q8 hc;have Q:=q8 hx;have J:=q8 f;have HB:=q8 d;have V:(i:Int)<24:=by omega
 have X:=((Near.refl w).alloc (vk #[ve vp 0,ve vp 0,ve vp 0] 274)).cell L;have W:=((Near.refl w).alloc (vk #[ve vp 0,ve vp 0,ve vp 0] 274)).cell G;go_enter Tryz.func207,Tryz.ntmps207;go_wp2_with fail
 have M:=(Near.refl w).alloc (vk #[ve vp 0,ve vp 0,ve vp 0] 274);have t:(w.alloc (vk #[ve vp 0,ve vp 0,ve vp 0] 274)).heap[w.heap.size]? =some (vk #[ve vp 0,ve vp 0,ve vp 0] 274 (0,0)):=heap_new_at rfl;have ad:=(qm.1 Q).1;generalize w.alloc (vk #[ve vp 0,ve vp 0,ve vp 0] 274)=W1 at*
 have j:=q8 M;have z:=q8 t;go_loopw [27] (fun i wr=> ∃k:Nat,k<=q/\i=ve vp k/\Near W1 wr) (fun i _=>q+1 - (intOf i).toNat)
 case atStart=>exact⟨0,qv _,rfl,Near.refl _⟩
 case round=>
  obtain⟨k,hk,rfl,m⟩:=hrel;have A:k<l.length:=by omega
  have O:(k:Int)<l.length:=by omega
  obtain⟨g,aa,rfl,x0,x1,x2⟩:=Z k _ (qi A);have S:=m.cell (j.cell x0);have N:=m.cell (j.cell x1);have R:=m.cell (j.cell x2);have gg:l[k]? =some l[k]:=qi A;have K:=q8 gg;generalize l[k]=y at S N R K;have⟨B,r,C⟩:=y;simp only at S N R;have D:=((Near.refl wr).alloc (vk #[ve vp B,ve vp r,ve vp C] 274));have c:=qE (m.trans D) z;have r0:=cell1 (o:=0) c rfl;have r1:=cell1 (o:=1) c rfl;have r2:=cell1 (o:=2) c rfl;have rf:=zQ c;have E:=q8 c;by_cases u:k=q
  .subst u
   obtain rfl:x=⟨B,r,C⟩:=zm (Q.symm.trans K);have f:=J.out;unfold inSpan at f;have⟨I,P⟩:=f;simp only at I P;go_wp2_with fail
   have H:=qz (qz (qz E 0 (ve vp B)) 1 (ve vp r)) 2 (ve vp C);have f0:=cell1 (o:=0) H rfl;have f1:=cell1 (o:=1) H rfl;have f2:=cell1 (o:=2) H rfl;refine qo (v:=vi #[ve vp B,ve vp r,ve vp C]) (by simp [qC,Tryz.results207,go_sem,f0,f1,f2]) rfl ⟨rfl,?_⟩;exact(((((j.trans m).trans D).set (p:=w.heap.size) (qt _) _).set (p:=vw w.heap.size 1) (qt _) _).set (p:=vw w.heap.size 2) (qt _) _)
  .have n:=q8 u
   have a:=HB k _ (by omega) K;unfold inSpan at a;simp only at a;by_cases I:B<=s
   .have P: ¬(s<=r):=fun h=>a ⟨I,h⟩
    go_wp2_with fail
    exact⟨⟨k+1,by have:=n.out;omega,by simp,m.trans D⟩,by simp [intOf];omega⟩
   .clear a
    go_wp2_with fail
    exact⟨⟨k+1,by have:=n.out;omega,by simp,m.trans D⟩,by simp [intOf];omega⟩
theorem q3X{l:List Dec}(K:w.cell? (vw b 25)=some v)(U:q6J w v l)(hl:l.length<1099511627776)
 (hx:l[q]? =some x) (f:inSpan s x) (d: ∀k y,k<q->l[k]? =some y-> ¬inSpan s y):
 Calls qj 207 #[vg b,ve vp 24,ve vp s] w fun e W=>e=vm (vi #[ve vp x.v,ve vp x.lo,ve vp x.hi])/\Near w W:=by
 obtain⟨ao,ab,rfl,hc⟩:=U;have V:=q8 hc;have P:=q8 hx;have I:=q8 f;have Y:=q8 d;have S:=((Near.refl w).alloc (vk #[ve vp 0,ve vp 0,ve vp 0] 274)).cell K;go_enter Tryz.func207,Tryz.ntmps207;go_wp2_with fail
 have L:=(Near.refl w).alloc (vk #[ve vp 0,ve vp 0,ve vp 0] 274);have t:(w.alloc (vk #[ve vp 0,ve vp 0,ve vp 0] 274)).heap[w.heap.size]? =some (vk #[ve vp 0,ve vp 0,ve vp 0] 274 (0,0)):=heap_new_at rfl;have ad:=(qm.1 P).1;generalize w.alloc (vk #[ve vp 0,ve vp 0,ve vp 0] 274)=X at*
 have j:=q8 L;have z:=q8 t;go_loopw [27] (fun i wr=> ∃k:Nat,k<=q/\i=ve vp k/\Near X wr) (fun i _=>q+1 - (intOf i).toNat)
 case atStart=>exact⟨0,qv _,rfl,Near.refl _⟩
 case round=>
  obtain⟨k,hk,rfl,m⟩:=hrel;have A:k<l.length:=by omega
  have N:(k:Int)<l.length:=by omega
  obtain⟨g,aa,rfl,x0,x1,x2⟩:=V k _ (qi A);have R:=m.cell (j.cell x0);have M:=m.cell (j.cell x1);have Q:=m.cell (j.cell x2);have gg:l[k]? =some l[k]:=qi A;have J:=q8 gg;generalize l[k]=y at R M Q J;have⟨B,r,C⟩:=y;simp only at R M Q;have D:=((Near.refl wr).alloc (vk #[ve vp B,ve vp r,ve vp C] 274));have c:=qE (m.trans D) z;have r0:=cell1 (o:=0) c rfl;have r1:=cell1 (o:=1) c rfl;have r2:=cell1 (o:=2) c rfl;have rf:=zQ c;have E:=q8 c;by_cases u:k=q
  .subst u
   obtain rfl:x=⟨B,r,C⟩:=zm (P.symm.trans J);have f:=I.out;unfold inSpan at f;have⟨H,O⟩:=f;simp only at H O;go_wp2_with fail
   have G:=qz (qz (qz E 0 (ve vp B)) 1 (ve vp r)) 2 (ve vp C);have Z:=cell1 (o:=0) G rfl;have f1:=cell1 (o:=1) G rfl;have f2:=cell1 (o:=2) G rfl;refine qo (v:=vi #[ve vp B,ve vp r,ve vp C]) (by simp [qC,Tryz.results207,go_sem,Z,f1,f2]) rfl ⟨rfl,?_⟩;exact(((((j.trans m).trans D).set (p:=w.heap.size) (qt _) _).set (p:=vw w.heap.size 1) (qt _) _).set (p:=vw w.heap.size 2) (qt _) _)
  .have n:=q8 u
   have a:=Y k _ (by omega) J;unfold inSpan at a;simp only at a;by_cases H:B<=s
   .have O: ¬(s<=r):=fun h=>a ⟨H,h⟩
    go_wp2_with fail
    exact⟨⟨k+1,by have:=n.out;omega,by simp,m.trans D⟩,by simp [intOf];omega⟩
   .clear a
    go_wp2_with fail
    exact⟨⟨k+1,by have:=n.out;omega,by simp,m.trans D⟩,by simp [intOf];omega⟩
theorem q26: ∀(l:List Dec)(k:Nat)(x:Dec),l[k]? =some x-> ∀j,j<3->(decs l)[k*3+j]? =(Wl x)[j]?
 |[],k,x,h,_,_=>by simp at h
 |y::r,0,x,h,j,a=>by
  simp at h;subst h;show(Wl y++decs r)[0*3+j]? =_;rw [zc (by show 0*3+j<3;omega),Nat.zero_mul,zz]
 |y::r,k+1,x,h,j,a=>by
  show(Wl y++decs r)[(k+1)*3+j]? =_;have b:(Wl y).length=3:=rfl;rw [qV (by omega),b,show(k+1)*3+j - 3=k*3+j from by omega];exact q26 r k x (by simpa using h) j a
theorem q6J.row{e:Nat}{l:List Dec}(h:w.ownsRow base e 3 v l.length (decs l)):q6J w v l:=by
 obtain⟨q,c,rfl⟩:=qR h;refine⟨q,c,rfl,fun k x d=> ?_⟩;have n:k<l.length:=(qm.1 d).1;rcases h.2 with⟨_,r⟩|⟨g,s,i,p,_,o,_,_,t,m⟩
 .omega
 .cases p
  have b: ∀j,j<3->w.cell? (vw g (k*3+j))=(Wl x)[j]? :=by
   intro j f;have a:=q26 l k x d j f;rw [<-m,List.getElem?_take,if_pos (by omega)]at a;simp only [World.cell?,o];simpa using a
  exact⟨g,0,rfl,by simpa [Wl]using b 0 (by omega),by simpa [Wl]using b 1 (by omega),by simpa [Wl]using b 2 (by omega)⟩
def Oth(w:World)(k:Nat):Prop:= ∃cs t fr,w.heap[k]? =some (.cells cs t fr)/\194≠t/\177≠t
theorem IsMaker.avoidOth(h:IsMaker w j S L):IsMaker w j (fun k=>S k/\ ¬Oth w k) L:=by
 have x: ∀b,Oth w b->IsMaker w j (fun k=>S k/\k≠b) L:=fun b ⟨_,_,_,a,e,g⟩=>h.avoid a e g;have⟨r,q,n,f,c,d,y,u,s,v⟩:=h;refine⟨r,q,n,f,c,d,y,⟨u,?_⟩,⟨s,?_⟩,fun k m=>⟨v k m,?_⟩⟩
 .rintro⟨o,t,p,a,e,g⟩
  rw [f]at a
  cases a;exact e rfl
 .rintro⟨o,t,p,a,e,g⟩
  have⟨z,i,l,_⟩:=d;rw [l]at a
  cases a
 .rintro⟨o,t,p,a,e,g⟩
  exact vV c a g m
def linCells(mb:Nat)(cost:Nat->Int)(ev:Value)(kv:Nat->Value):List Value:=
 .pointer (some ⟨mb,0,none⟩)::((qO 24).map (fun i=>qs .i64 (cost i))++ev::(qO 24).map kv)
theorem jg(b:Nat)(a:Nat->Int)(d:Value)(c:Nat->Value):(linCells b a d c).length=50:=by simp [linCells]
theorem jl{d:Nat}{e:Value}(b:i<24):(linCells d a e c)[1+i]? =some (ve vp (a i)):=by
 unfold linCells;rw [Nat.add_comm,kh,zc (by simpa using b),qA,yT b];rfl
theorem yO{c:Nat}{b:Value}{d:Nat->Value}:(linCells c a b d)[25]? =some b:=by
 unfold linCells;rw [kh,qV (by simp)];simp
theorem yA{d:Nat}{c:Value}{b:Nat->Value}(e:i<24):(linCells d a c b)[26+i]? =some (b i):=by
 unfold linCells;rw [show 26+i=(25+i)+1 by omega,kh,qV (by simp;omega)];rw [show 25+i - ((qO 24).map (fun i=>qs vp (a i))).length=i+1 by simp;omega,kh,qA,yT e];rfl
theorem Xt{c:Nat}{b:Nat->Value}(k:i<24)(v:Value):(linCells c a d b).set (26+i) v=linCells c a d (fun j=>if j=i then v else b j):=by
 refine List.ext_getElem? fun n=> ?_;rw [List.getElem?_set,jg];by_cases e:26+i=n
 .subst e
  rw [if_pos rfl,if_pos (by omega),yA k];simp
 .rw [if_neg e]
  by_cases h:n<50
  .by_cases g:n=0
   .subst g;rfl
   .by_cases l:n<25
    .obtain⟨m,rfl⟩: ∃m,n=1+m:=⟨n - 1,by omega⟩
     rw [jl (by omega),jl (by omega)]
    .by_cases f:n=25
     .subst f
      rw [yO,yO]
     .obtain⟨m,rfl⟩: ∃m,n=26+m:=⟨n - 26,by omega⟩
      rw [yA (by omega),yA (by omega),if_neg (by omega)]
  .rw [zP (by rw [jg];omega),zP (by rw [jg];omega)]
structure LinI(w:World)(b mb:Nat)(S:Nat->Prop)(cost:Nat->Int)(ev:Value)(kv:Nat->Value)(es:List Dec)(L:List T)(ks:Nat->List Dec):Prop where
 good:T.Good L
 maker:IsMaker w mb S L
 blk:w.heap[b]? =some (.cells (linCells mb cost ev kv).toArray 272 (0,0))
 base:S b
 ends:w.ownsRow 0 274 3 ev es.length (decs es)
 rows: ∀i,i<24->w.ownsRow 0 274 3 (kv i) (ks i).length (decs (ks i))
 apart: ∀i j k,i<24->j<24->i≠j->(kv i).ownBlock=some k->(kv j).ownBlock≠some k
 apartE: ∀i k,i<24->ev.ownBlock=some k->(kv i).ownBlock≠some k
 own: ∀i k,i<24->(kv i).ownBlock=some k->S k
theorem LinI.kept{d:Nat->Value}{e:List Dec}{g:Nat->List Dec}(h:LinI w b j S a f d e L g)(c:Near w w'):LinI w' b j S a f d e L g:=
 ⟨h.good,h.maker.near c,qE c h.blk,h.base,owns_kept h.ends c (fun _ _=>id),fun i k=>owns_kept (h.rows i k) c (fun _ _=>id),h.apart,h.apartE,h.own⟩
theorem LinI.mono_lt{g:Value}{d:Nat->Value}{l:List Dec}{j:Nat->List Dec}(h:LinI w b m S a g d l L j)(c: ∀k,k<w.heap.size->S k->R k):LinI w b m R a g d l L j:=
 ⟨h.good,h.maker.mono_lt c,h.blk,c _ (qk.1 h.blk).1 h.base,h.ends,h.rows,h.apart,h.apartE,fun i k f e=>c k ((h.rows i f).lt k e).2 (h.own i k f e)⟩
theorem KY{a:Nat}{d:List Value}(h:w.ownsRow base 274 a v n d)(b:v.ownBlock=some k):Oth w k:=by
 rcases h.2 with⟨rfl,_⟩|⟨g,e,f,rfl,_,c,_⟩
 .cases b
 .cases b
  exact⟨_,_,_,c,by decide,by decide⟩
theorem LinI.node{g:Nat}{m:Value}{j:Nat->Value}{o:List Dec}{f:List T}{n:Nat->List Dec}(h:LinI w b g S a m j o L n)(r:T.Good f)
 (p:IsMaker w' g (fun k=>S k/\ ¬Oth w k) f) (c:Kept (fun k=>S k/\ ¬Oth w k) w w'):LinI w' b g S a m j o f n:=by
 have q:Oth w b:=⟨_,_,_,h.blk,by decide,by decide⟩;exact⟨r,p.mono fun k c=>c.1,(c.block b (qk.1 h.blk).1 (fun d=>d.2 q)).trans h.blk,h.base,
  owns_kept h.ends c (fun k e d=>d.2 (KY h.ends e)),fun i l=>owns_kept (h.rows i l) c (fun k e d=>d.2 (KY (h.rows i l) e)),h.apart,h.apartE,h.own⟩
theorem q25(l:List Dec)(y:Dec):decs (l++[y])=decs l++Wl y:=by simp [decs]
theorem Xc{a t:Nat}{k:List Value}{l:Nat×Nat}(h:w.ownsRow base 274 a v n k)(c:w.heap[b]? =some (vk cs t l))(i:274≠t):v.ownBlock≠some b:=by
 intro d;rcases h.2 with⟨rfl,_⟩|⟨g,e,f,rfl,_,j,_⟩
 .cases d
 .cases d
  rw [j]at c
  cases c;exact i rfl
theorem LinI.app{W:World}{J:Nat}{f:Nat->Int}{G:Value}{g:Nat->Value}{P:List Dec}{A:Nat->List Dec}(h:LinI w b J S f G g P L A)(l:i<24){y:Dec}
 (R:W.ownsRow 0 274 3 v ((A i).length+1) (decs (A i)++Wl y)) (O:Kept (fun k=>(g i).ownBlock=some k) w W) (a:v.ownBlock=(g i).ownBlock\/ ∃z,v.ownBlock=some z/\w.heap.size<=z) (Q: ∀k,w.heap.size<=k->S k):
 ∀u,u=W.setCell (vw b (26+i)) v->LinI u b J S f G (fun j=>if j=i then v else g j) P L (fun j=>if j=i then A i++[y]else A j)/\Kept S w u:=by
 rintro u rfl;have N:b<w.heap.size:=(qk.1 h.blk).1;have B:W.heap[b]? =some (vk (linCells J f G g).toArray 272 (0,0)):=(O.block b N (Xc (h.rows i l) h.blk (by decide))).trans h.blk;have q:=qz B (26+i) v;rw [qb,Xt l v]at q;have n:Kept (fun k=>(g i).ownBlock=some k\/k=b) w (W.setCell (vw b (26+i)) v):=
  Kept.setCell (S:=fun k=>(g i).ownBlock=some k\/k=b) (Kept.mono O (fun _ _ h=>qB h)) (p:=vw b (26+i)) (fun _=>j4 rfl) v
 have U: ∀k,((g i).ownBlock=some k\/k=b)->Oth w k:=by
  rintro k (e|rfl)
  .exact KY (h.rows i l) e
  .exact⟨_,_,_,h.blk,by decide,by decide⟩
 have M:=zF R B (by decide) (26+i) v;have x: ∀k,(g i).ownBlock=some k->S k:=fun k e=>h.own i k l e;generalize W.setCell (vw b (26+i)) v=u at*
 refine⟨⟨h.good,(h.maker.avoidOth.of_kept n (fun k _ K V=>K.2 (U k V))).mono (fun k K=>K.1),q,h.base,owns_kept h.ends n ?_,fun j c=> ?_,fun j m k c H E e=> ?_,fun j k c e=> ?_,fun j k c e=> ?_⟩,Kept.mono n ?_⟩
 .rintro k e (I|rfl)
  .exact h.apartE i k l e I
  .exact Xc h.ends h.blk (by decide) e
 .by_cases e:j=i
  .simp only [if_pos e]
   rw [q25,qn];exact M
  .simp only [if_neg e]
   refine owns_kept (h.rows j c) n ?_;rintro k d (I|rfl)
   .exact h.apart j i k c l e d I
   .exact Xc (h.rows j c) h.blk (by decide) d
 .have r: ∀j k,j<24->(g j).ownBlock=some k->k<w.heap.size:=fun j k c e=>((h.rows j c).lt k e).2
  by_cases d:j=i
  .simp only [if_pos d]at e
   simp only [if_neg (show¬m=i by omega)];rcases a with s|⟨z,t,o⟩
   .exact h.apart i m k l H (by omega) (s▸e)
   .rw [t]at e
    cases e;intro C
    have:=r m _ H C
    omega
  .simp only [if_neg d]at e
   by_cases C:m=i
   .simp only [if_pos C]
    rcases a with s|⟨z,t,o⟩
    .rw [s]
     exact h.apart j i k c l d e
    .rw [t]
     intro D
     cases D
     have:=r j _ c e
     omega
   .simp only [if_neg C]
    exact h.apart j m k c H E e
 .have r:k<w.heap.size:=(h.ends.lt k e).2
  by_cases d:j=i
  .simp only [if_pos d]
   rcases a with s|⟨z,t,o⟩
   .rw [s]
    exact h.apartE i k l e
   .rw [t]
    intro D
    cases D;omega
  .simp only [if_neg d]
   exact h.apartE j k c e
 .by_cases d:j=i
  .simp only [if_pos d]at e
   rcases a with s|⟨z,t,o⟩
   .exact h.own i k l (s▸e)
   .rw [t]at e
    cases e;exact Q _ o
  .simp only [if_neg d]at e
   exact h.own j k c e
 .rintro k _ (e|rfl)
  .exact x k e
  .exact h.base
theorem first_span(s:Int): ∀l:List Dec,(∃(q:Nat)(x:Dec),l[q]? =some x/\inSpan s x/\ ∀(k:Nat)(y:Dec),k<q->l[k]? =some y-> ¬inSpan s y)\/ ∀y∈l,¬inSpan s y
 |[]=>vv (fun _ h=>by cases h)
 |x::l=>by
  by_cases b:inSpan s x
  .exact vu ⟨0,x,rfl,b,fun k y g=>by omega⟩
  .rcases first_span s l with⟨q,y,d,e,f⟩|h
   .refine vu ⟨q+1,y,d,e,fun k z g c=> ?_⟩
    cases k with
    |zero=>
     cases c;exact b
    |succ k=>exact f k z (by omega) c
   .refine vv fun y a=> ?_
    rcases qI.1 a with rfl|a
    .exact b
    .exact h y a
structure xe(w:World)(b mb:Nat)(S:Nat->Prop)(cost:Nat->Int)(g:Int->Bool)(ev:Value)(kv:Nat->Value)(es:List Dec)(L:List T)(ks:Nat->List Dec)(k:Nat):Prop where
 box:LinI w b mb S cost ev kv es L ks
 costs: ∀i,-2147483648<=cost i/\cost i<=2147483648
 known: ∀j,j<24-> ∀y∈ks j,SpanOk cost g L (24 - j) y
 ends: ∀y∈es,SpanOk cost g L 0 y
 all: ∀s,-35184372088832<=s->s<=35184372088832-> ∃y∈es,inSpan s y
 room:L.length+2^k<=67108864
 rooms: ∀j,(ks j).length+2^k<=67108864
 few:es.length<=67108864
 base: ∀k,w.heap.size<=k->S k
def wk(w:World)(b mb:Nat)(S:Nat->Prop)(cost:Nat->Int)(g:Int->Bool)(ev:Value)(es:List Dec)(L:List T)(ks:Nat->List Dec)(k:Nat)(s:Int)(e:Ending)(w':World):Prop:=
 ∃x L' kv' ks',e= .returned (.agg #[.int .i64 x.v,.int .i64 x.lo,.int .i64 x.hi])/\LinI w' b mb S cost ev kv' es L' ks'/\SpanOk cost g L' k x/\inSpan s x/\(∃M,L'=L++M)/\L'.length+1<=L.length+2^k/\
  (∀j,j<24-> ∀y∈ks' j,SpanOk cost g L' (24 - j) y)/\(∀j,j<24 - k->ks' j=ks j)/\(∀j,(ks' j).length+1<=(ks j).length+2^k)/\Kept S w w'
theorem xe.next{r:Nat->Value}{l:List Dec}{d:List T}{o c:Nat->List Dec}(h:xe w b i S a g f r l L o (k+1))(q:m<=k)
 (s:LinI w' b i S a f e l d c) (t: ∃M,d=L++M) (z:d.length+1<=L.length+2^k) (u: ∀j,j<24-> ∀y∈c j,SpanOk a g d (24 - j) y) (v: ∀j,(c j).length+1<=(o j).length+2^k) (n:Kept S w w'):
 xe w' b i S a g f e l d c m:=by
 obtain⟨M,rfl⟩:=t;have A:2^m<=2^k:=Nat.pow_le_pow_right (by omega) q;have C:2^ (k+1)=2^k+2^k:=by rw [jn];omega
 have B:=h.room;have D:=n.size;have x:=h.base;exact⟨s,h.costs,u,fun y p=>(h.ends y p).mono M,h.all,by omega,fun j=>by have:=v j;have:=h.rooms j;omega,h.few,fun k n=>x k (by omega)⟩
theorem xe.near{f:List Dec}{e:Nat->List Dec}(h:xe w b j S a g d c f L e k)(i:Near w w'):xe w' b j S a g d c f L e k:=
 ⟨h.box.kept i,h.costs,h.known,h.ends,h.all,h.room,h.rooms,h.few,fun k l=>h.base k (qH i.size l)⟩
theorem xe.less{f:List Dec}{e:Nat->List Dec}(h:xe w b i S a g d c f L e (k+1)):xe w b i S a g d c f L e k:=by
 have o:2^ (k+1)=2^k+2^k:=by rw [jn];omega
 have m:=h.room;have l:=q8c (n:=k);exact⟨h.box,h.costs,h.known,h.ends,h.all,by omega,fun j=>by have:=h.rooms j;omega,h.few,h.base⟩
theorem xe.shrink{l:Nat}{i:List Dec}{f:Nat->List Dec}(h:xe w b l S a g d c i L f k)(j:Near w w'){z:Nat}(n:w.heap.size<=z)(o:z<w'.heap.size):
 xe w' b l (fun k=>S k/\k≠z) a g d c i L f k:=
 ⟨(h.box.mono_lt (fun k e m=>⟨m,by omega⟩)).kept j,h.costs,h.known,h.ends,h.all,h.room,h.rooms,h.few,fun k e=>⟨h.base k (qH j.size e),by omega⟩⟩
theorem xe.cost{l:Nat}{d:List Dec}{j:Nat->List Dec}(h:xe w b l S a g f c d L j k)(e:i<24):w.cell? (vw b (1+i))=some (ve vp (a i)):=
 cell1 (o:=1+i) h.box.blk (by rw [ye];exact jl e)
theorem xe.same{i:Value}{l:List Dec}{c:Nat->List Dec}(h:xe w b n S a g i e l L c k)(o:SpanOk a g L k x)(d:inSpan s x)(m:Near w w'):
 wk w b n S a g i l L c k s (vm (vi #[ve vp x.v,ve vp x.lo,ve vp x.hi])) w':=by
 have p:1<=2^k:=q8c;exact⟨x,L,e,c,rfl,h.box.kept m,o,d,⟨[],by simp⟩,by omega,h.known,fun _ _=>rfl,fun j=>by omega,Kept.mono m (fun _ _ f=>f.elim)⟩
theorem q1M{l:Nat}{c:Nat->Int}{i:Value}{n:Nat->Value}{f:List Dec}{j:Nat->List Dec}(h:xe w b l S c g i n f L j 0)(m: -35184372088832<=s)(t:s<=35184372088832):
 Calls qj 207 #[vg b,ve vp 24,ve vp s] w (wk w b l S c g i f L j 0 s):=by
 rcases first_span s f with⟨q,x,k,a,r⟩|d
 .refine(q3X (cell1 (o:=25) h.box.blk (by rw [ye];exact yO)) (q6J.row h.box.ends) (by have:=h.few;omega) k a r).mono ?_
  rintro e v ⟨rfl,u⟩;exact h.same (h.ends x (qp k)) a u
 .have⟨y,p,a⟩:=h.all s m t
  exact(d y p a).elim
theorem q6j:(qj.info? 274).map (fun i=>(i.zero,i.size,i.bytes))=some (some (vi #[ve vp 0,ve vp 0,ve vp 0]),3,24):=by kernel_rfl
theorem K6(c:b=w.heap.size)(x y z:Value)(t:TypeId): ∀j u,[x,y,z][j]? =some u->(w.alloc (vk #[x,y,z] t)).cell? ((⟨b,0,none⟩:Addr).add j)=some u:=by
 subst c;intro j u a;match j,a with
 |0,a=>simp at a;subst a;simp [Addr.add]
 |1,a=>simp at a;subst a;simp [Addr.add]
 |2,a=>simp at a;subst a;simp [Addr.add]
 |j+3,a=>simp at a
theorem LinI.keptOf{o:Nat}{j:Nat->Value}{n:List Dec}{m:Nat->List Dec}(h:LinI w b o S a f j n L m)(d:Kept R w w')(g: ∀k,R k-> ¬S k)
 (p: ∀k,f.ownBlock=some k-> ¬R k):LinI w' b o S a f j n L m:=
 ⟨h.good,h.maker.of_kept d (fun k _ q c=>g k c q),(d.block b (qk.1 h.blk).1 (fun c=>g b c h.base)).trans h.blk,h.base,owns_kept h.ends d p,
   fun i l=>owns_kept (h.rows i l) d (fun k e c=>g k c (h.own i k l e)),h.apart,h.apartE,h.own⟩
def q6L(w:World)(b mb:Nat)(S:Nat->Prop)(cost:Nat->Int)(g:Int->Bool)(ev:Value)(es:List Dec)(L:List T)(ks:Nat->List Dec)(k:Nat)(s:Int)(x:Dec)(L':List T)(kv':Nat->Value)(ks':Nat->List Dec)(w':World):Prop:=
 LinI w' b mb S cost ev kv' es L' ks'/\SpanOk cost g L' k x/\inSpan s x/\(∃M,L'=L++M)/\L'.length+1<=L.length+2^k/\
  (∀j,j<24-> ∀y∈ks' j,SpanOk cost g L' (24 - j) y)/\(∀j,j<24 - k->ks' j=ks j)/\(∀j,(ks' j).length+1<=(ks j).length+2^k)/\Kept S w w'
theorem XN{wr wA w1 w2:World}{D:Nat}{S1 S2:Nat->Prop}{P N H:Nat->Value}{E:List Dec}{X r:List T}{W v t:Nat->List Dec}{c:Int}{f h:Dec}{d l:T}
 (aa:i+k=23) (hc:c=a i) (R: -2147483648<=a i/\a i<=2147483648) (I:q6L wr b D S1 a g C E L W k s f X P v w1) (Q:q6L wA b D S2 a g C E X v k (s+c) h r N t w2)
 (i1:T.In r d) (a1: ∀s,f.v<=s->s<=f.lo->linT a g k s=d) (o1:d.Ok) (l1:24 - k<=d.lv)
 (a2: ∀s,h.v<=s->s<=h.lo->linT a g k s=l) (o2:l.Ok) (Z:24 - k<=l.lv)
 (r1:(-(35184372088832+2147483648*(k:Int))<=f.v/\f.v<=35184372088832+2147483648*(k:Int))/\(-(35184372088832+2147483648*(k:Int))<=f.lo/\f.lo<=35184372088832+2147483648*(k:Int)))
 (r2:(-(35184372088832+2147483648*(k:Int))<=h.v/\h.v<=35184372088832+2147483648*(k:Int))/\(-(35184372088832+2147483648*(k:Int))<=h.lo/\h.lo<=35184372088832+2147483648*(k:Int)))
 (A:LinI w' b D S a C H E (T.add r i d l) (fun j=>if j=i then t i++[gH c (pl (T.add r i d l) (T.mk i d l):Nat) f h]else t j)) (p:Kept S w w'):
 wk w b D S a g C E L W (k+1) s (vm (vi #[ve vp (max f.v (h.v - c)),ve vp (min f.lo (h.lo - c)),ve vp (pl (T.add r i d l) (T.mk i d l):Nat)])) w':=by
 subst hc;obtain⟨-,-,O,⟨Y,G⟩,n1,ab,q,x,-⟩:=I;obtain⟨-,-,K,⟨M2,M⟩,n2,B,n,z,-⟩:=Q;have⟨J,u⟩:=T.add_prefix r i d l;have n3:=T.add_len r i d l;have V:i=24 - (k+1):=by omega
 have hp:2^ (k+1)=2^k+2^k:=by rw [jn];omega
 have o:=q0x (g:=g) (by omega) (V▸R) i1 a1 o1 l1 a2 o2 Z r1 r2;rw [<-V]at o;refine⟨_,_,_,_,rfl,A,o,WN O K,⟨Y++M2++J,by rw [u,M,G];simp⟩,by omega,fun j U y m=> ?_,fun j U=> ?_,fun j=> ?_,p⟩
 .by_cases e:j=i
  .simp only [if_pos e]at m
   rcases qK.1 m with m|m
   .rw [u,e]
    exact(B i (by omega) y m).mono J
   .rw [qN]at m
    rw [m,show 24 - j=k+1 by omega];exact o
  .simp only [if_neg e]at m
   rw [u];exact(B j U y m).mono J
 .have e:j≠i:=by omega
  simp only [if_neg e];exact(n j (by omega)).trans (q j (by omega))
 .have h1:=x j
  have h2:=z j;by_cases e:j=i
  .subst e
   simp only [if_true,qn,List.length_singleton];omega
  .simp only [if_neg e]
   omega
theorem q3W{mb:Nat}{S:Nat→Prop}{a:Nat→Int}{g:Int→Bool}{ev:Value}{kv:Nat→Value}{es:List Dec}{ks:Nat→List Dec}(cy:i+k=23)(h:xe w b mb S a g ev kv es L ks (k+1))
 (hs: -(2147483648*(i:Int))≤s∧s≤2147483648*(i:Int)) (cl: ∀y∈ks i,¬inSpan s y)
 (ih: ∀(w:World)(S:Nat→Prop)(L:List T)(kv:Nat→Value)(ks:Nat→List Dec)(s j:Int),xe w b mb S a g ev kv es L ks k→j=(i:Int)+1→ -(2147483648*((i:Int)+1))≤s∧s≤2147483648*((i:Int)+1)→
   Calls qj 207 #[vg b,ve vp j,ve vp s] w (wk w b mb S a g ev es L ks k s)):
 Calls qj 207 #[vg b,ve vp i,ve vp s] w (wk w b mb S a g ev es L ks (k+1) s):=by
 have⟨i0,de,cj,cv,c3⟩:=info_parts q6j;have hi:i<24:=by omega
 have d6:(i:Int)<24:=by omega
 have d8:zD.wrap ((i:Int)+1)=(i:Int)+1:=j9 _ (by omega);have A0:=(Near.refl w).alloc (vk #[ve vp 0,ve vp 0,ve vp 0] 274);have dh:(w.alloc (vk #[ve vp 0,ve vp 0,ve vp 0] 274)).cell? (vw b 25)=some ev:=A0.cell (cell1 (o:=25) h.box.blk (by rw [ye];exact yO));have cq:(w.alloc (vk #[ve vp 0,ve vp 0,ve vp 0] 274)).cell? (vw b (26+i))=some (kv i):=A0.cell (cell1 (o:=26+i) h.box.blk (by rw [ye];exact yA hi));have⟨ao,d1,hv,hc⟩:=q6J.row (h.box.rows i hi);rw [hv]at cq;have HC:=q8 hc;have HV:=q8 hv;have HP:=q8 h;have dr:=q8 cl;have cr:=q8 ih;have HS:=q8 hs;have ct:(ks i).length<67108864:=by have:=h.rooms i;have:=q8c (n:=k+1);omega
 clear hc hv h cl ih hs;generalize hl:ks i=l at*
 have HL:=q8 hl;clear hl;go_enter Tryz.func207,Tryz.ntmps207;go_wp2
 have dc:=(Near.refl w).alloc (vk #[ve vp 0,ve vp 0,ve vp 0] 274);have b7:(w.alloc (vk #[ve vp 0,ve vp 0,ve vp 0] 274)).heap[w.heap.size]? =some (vk #[ve vp 0,ve vp 0,ve vp 0] 274 (0,0)):=heap_new_at rfl;have b6:(w.alloc (vk #[ve vp 0,ve vp 0,ve vp 0] 274)).heap.size=w.heap.size+1:=by simp
 clear dh cq A0;generalize w.alloc (vk #[ve vp 0,ve vp 0,ve vp 0] 274)=W1 at*
 have bi:=q8 dc;have c9:=q8 b7;have c0:=q8 b6;clear dc b7 b6;go_loopw [27] (fun i wr=> ∃k:Nat,k≤l.length∧i=ve vp k∧Near W1 wr) (fun i _=>l.length - (intOf i).toNat)
 case atStart=>exact⟨0,qv _,rfl,Near.refl _⟩
 case round=>
  obtain⟨q,hq,rfl,hn⟩:=hrel;by_cases cm:q<l.length
  ·have dw:(q:Int)<l.length:=by omega
   obtain⟨gg,dy,rfl,x0,x1,x2⟩:=HC q _ (qi cm);have p0:=hn.cell (bi.cell x0);have p1:=hn.cell (bi.cell x1);have p2:=hn.cell (bi.cell x2);have ag:=dr _ (xJ cm);clear x0 x1 x2;generalize l[q]=y at p0 p1 p2 ag;have⟨yv,yl,yp⟩:=y;unfold inSpan at ag;simp only at p0 p1 p2 ag;have A0:=((Near.refl wr).alloc (vk #[ve vp yv,ve vp yl,ve vp yp] 274));by_cases h1:yv≤s
   ·have h2: ¬(s≤yl):=fun h=>ag ⟨h1,h⟩
    clear ag;go_wp2
    exact⟨⟨q+1,by omega,by simp,hn.trans A0⟩,by simp [intOf];omega⟩
   ·clear ag
    go_wp2
    exact⟨⟨q+1,by omega,by simp,hn.trans A0⟩,by simp [intOf];omega⟩
  ·have d7: ¬((q:Int)<l.length):=by omega
   have dt:=hn.size';have dk:=c0.out;have hP:=HP.shrink (bi.trans hn) (z:=w.heap.size) (qt _) (by omega);have c5:=q8 hP;have ch:=q8 hn;clear hP hn;have cc:=HP.costs i;have hs:=HS.out;have d5:zD.wrap (s+a i)=s+a i:=j9 _ (by omega);have dp:=q8 (show -(2147483648*((i:Int)+1))≤s∧s≤2147483648*((i:Int)+1) by omega);have dm:=q8 (show -(2147483648*((i:Int)+1))≤s+a i∧s+a i≤2147483648*((i:Int)+1) by omega);clear hs cc;go_wp2_with (first
    |(go_at_call 207;refine(cr _ _ L1 dn dq (s+a i) _ (P2.shrink ((Near.refl Q).alloc _) (z:=Q.heap.size) (qt _) (by simp)) rfl dm.out).mono ?_;rintro e w2 ⟨⟨r,u,af⟩,I,an,U,rfl,bd⟩;have Y:=q8 bd;clear bd)
    |(go_at_call 207;refine(cr _ _ L kv ks s _ c5.less rfl dp.out).mono ?_;rintro e Q ⟨⟨A,B,X⟩,L1,dn,dq,rfl,bc⟩;have M:=q8 bc;clear bc;have P2:=q8 (c5.next (qt k) M.1 M.2.2.2.1 M.2.2.2.2.1 M.2.2.2.2.2.1 M.2.2.2.2.2.2.2.1 M.2.2.2.2.2.2.2.2);have c1:=((Near.refl Q).alloc (vk #[ve vp A,ve vp B,ve vp X] 274)).cell (P2.cost hi)))
   have hA:(Q.alloc (vk #[ve vp A,ve vp B,ve vp X] 274)).heap[Q.heap.size]? =some (vk #[ve vp A,ve vp B,ve vp X] 274 (0,0)):=heap_new_at rfl;have ce:=M.2.2.2.2.2.2.2.2;have b2:=Y.2.2.2.2.2.2.2.2;have d9:=ce.size;have dz:=b2.size;have ds:(Q.alloc (vk #[ve vp A,ve vp B,ve vp X] 274)).heap.size=Q.heap.size+1:=by simp
   have cw:=(b2.block Q.heap.size (by omega) (fun h=>h.2 rfl)).trans hA;have da:=(ce.block w.heap.size (by omega) (fun h=>h.2 rfl)).trans (qE ch c9);have cn:=(b2.block w.heap.size (by omega) (fun h=>h.1.2 rfl)).trans (qE ((Near.refl Q).alloc (vk #[ve vp A,ve vp B,ve vp X] 274)) da);have bn:(w2.alloc (vk #[ve vp r,ve vp u,ve vp af] 274)).heap[w2.heap.size]? =some (vk #[ve vp r,ve vp u,ve vp af] 274 (0,0)):=heap_new_at rfl;have N3:=(Near.refl w2).alloc (vk #[ve vp r,ve vp u,ve vp af] 274);have bt:=qE N3 cw;have cp:=qE N3 cn;have a8:=Y.1.kept N3;have c7:(w2.alloc (vk #[ve vp r,ve vp u,ve vp af] 274)).heap.size=w2.heap.size+1:=by simp
   have ck:=q8 N3;clear hA cw da cn c1 N3;generalize w2.alloc (vk #[ve vp r,ve vp u,ve vp af] 274)=G at*
   have⟨D,i1,e1,f1,o1,l1,r1⟩:=M.2.1;have⟨E,i2,e2,f2,o2,l2,r2⟩:=Y.2.1;have⟨M2,b9⟩:=Y.2.2.2.1;have bg:T.In I D:=by rw [b9];exact i1.mono M2
   have db:X=(pl I D:Nat):=by rw [b9,T.pl_append i1];exact e1
   have hc:=HP.costs i;simp only at r1 r2;have dv:(k:Int)≤23:=by omega
   have d2:zD.wrap (r - a i)=r - a i:=j9 _ (by omega);have d4:zD.wrap (u - a i)=u - a i:=j9 _ (by omega);have bj:I.length<1099511627776:=by
    have a1:=Y.2.2.2.2.1;have a2:=M.2.2.2.2.1;have a3:=HP.room;have a4:2^ (k+1)=2^k+2^k:=by rw [jn];omega
    omega
   have c2: ∀d,G.drew.heap.size≤d→(fun d=>((S d∧d≠w.heap.size)∧d≠Q.heap.size)∧ ¬Oth G.drew d) d:=by
    intro d b5;have du:G.heap.size≤d:=b5;refine⟨⟨⟨HP.base d (by omega),by omega⟩,by omega⟩,?_⟩;rintro⟨cs,t,fr,hb,-⟩
    have:=(qk.1 hb).1
    omega
   have cu: ∀m,Kept (fun d=>((S d∧d≠w.heap.size)∧d≠Q.heap.size)∧ ¬Oth G.drew d) G.drew m→
    m.cell? Q.heap.size=some (ve vp A)∧m.cell? (vw Q.heap.size 1)=some (ve vp B)∧m.cell? (vw Q.heap.size 2)=some (ve vp X)∧
    m.cell? w2.heap.size=some (ve vp r)∧m.cell? (vw w2.heap.size 1)=some (ve vp u)∧m.cell? (vw w2.heap.size 2)=some (ve vp af)∧
    m.cell? b=some (vg mb)∧m.cell? (vw b (1+i))=some (ve vp (a i)):=by
    intro m hk;have a1:=(hk.block _ (qk.1 bt).1 (fun h=>h.2 ⟨_,_,_,bt,by decide,by decide⟩)).trans bt;have a2:=(hk.block _ (qk.1 bn).1 (fun h=>h.2 ⟨_,_,_,bn,by decide,by decide⟩)).trans bn;have a3:=(hk.block _ (qk.1 a8.blk).1 (fun h=>h.2 ⟨_,_,_,a8.blk,by decide,by decide⟩)).trans a8.blk;exact⟨cell1 (o:=0) a1 rfl,cell1 (o:=1) a1 rfl,cell1 (o:=2) a1 rfl,cell1 (o:=0) a2 rfl,cell1 (o:=1) a2 rfl,cell1 (o:=2) a2 rfl,cell1 (o:=0) a3 rfl,cell1 (o:=1+i) a3 (by rw [ye];exact jl hi)⟩
   have av:=q8 cu;have b4:=q8 c2;have d0:=q8 bt;have dx:=q8 bn;have b3:=q8 cp;have be:=q8 a8;have co:=q8 (a8.maker.near (Near.refl G).drew).avoidOth;have HG:=q8 a8.good;have cz:=q8 f1;have dg:=q8 f2;have dd:=q8 db;have c4:=q8 e2;have c8:=q8 r1;have cx:=q8 r2;clear cu c2 bt bn cp a8 f1 f2 r1 r2 ce b2 e1 e2 db b9 hc;have d3:=q8 c7;clear c7 ds dk dt;refine wp_region_noPanic ?_;refine wp_region_held_drew (S:=(fun m=>m.cell? Q.heap.size=some (ve vp A)∧m.cell? (vw Q.heap.size 1)=some (ve vp B)∧m.cell? (vw Q.heap.size 2)=some (ve vp X)∧
    m.cell? w2.heap.size=some (ve vp r)∧m.cell? (vw w2.heap.size 1)=some (ve vp u)∧m.cell? (vw w2.heap.size 2)=some (ve vp af)∧
    m.cell? b=some (vg mb)∧m.cell? (vw b (1+i))=some (ve vp (a i)))) (by kernel_rfl) (av _ (Kept.refl _ _)) (fun c=> ?_)
   refine q4x (v:=zj Q.heap.size) (by kernel_rfl) (by kernel_rfl) (by kernel_rfl) (fun _ _ _ h=>h) (qB ⟨by rfl,fun m C=> ?_⟩) c ?_
   ·go_simp
   simp only [Act.put,qb,qh,qd];refine q4w (v:=qs vp (A)) (by kernel_rfl) (by kernel_rfl) (by kernel_rfl) (fun _ _ _ h=>h) (qB ⟨by rfl,fun m C=> ?_⟩) c ?_
   ·go_simp
   simp only [Act.put,qb,qh,qd];refine q4v (v:=zj w2.heap.size) (by kernel_rfl) (by kernel_rfl) (by kernel_rfl) (fun _ _ _ h=>h) (qB ⟨by rfl,fun m C=> ?_⟩) c ?_
   ·go_simp
   simp only [Act.put,qb,qh,qd];refine q4u (v:=qs vp (r)) (by kernel_rfl) (by kernel_rfl) (by kernel_rfl) (fun _ _ _ h=>h) (qB ⟨by rfl,fun m C=> ?_⟩) c ?_
   ·go_simp
   simp only [Act.put,qb,qh,qd];refine q4t (v:=zj b) (by kernel_rfl) (by kernel_rfl) (by kernel_rfl) (fun _ _ _ h=>h) (qB ⟨by rfl,fun m C=> ?_⟩) c ?_
   ·go_simp
   simp only [Act.put,qb,qh,qd];refine q4s (v:=qs vp ((i:Int))) (by kernel_rfl) (by kernel_rfl) (by kernel_rfl) (fun _ _ _ h=>h) (qB ⟨by rfl,fun m C=> ?_⟩) c ?_
   ·go_simp
   simp only [Act.put,qb,qh,qd];refine q4r (v:=zj b) (by kernel_rfl) (by kernel_rfl) (by kernel_rfl) (fun _ _ _ h=>h) (qB ⟨by rfl,fun m C=> ?_⟩) c ?_
   ·go_simp
   simp only [Act.put,qb,qh,qd];refine q4q (v:=zj (vw b 1)) (by kernel_rfl) (by kernel_rfl) (by kernel_rfl) (fun _ _ _ h=>h) (qB ⟨by rfl,fun m C=> ?_⟩) c ?_
   ·go_simp
   simp only [Act.put,qb,qh,qd];refine q4p (v:=zj (vw b (1+i))) (by kernel_rfl) (by kernel_rfl) (by kernel_rfl) (fun _ _ _ h=>h) (qB ⟨by rfl,fun m C=> ?_⟩) c ?_
   ·go_simp
   simp only [Act.put,qb,qh,qd];refine q70 (v:=qs vp (a i)) (by kernel_rfl) (by kernel_rfl) (by kernel_rfl) (fun _ _ _ h=>h) (qB ⟨by rfl,fun m C=> ?_⟩) c ?_
   ·go_simp
   simp only [Act.put,qb,qh,qd];refine q0r (v:=qs vp (r - a i)) (by kernel_rfl) (by kernel_rfl) (by kernel_rfl) (fun _ _ _ h=>h) (qB ⟨by rfl,fun m C=> ?_⟩) c ?_
   ·go_simp
   simp only [Act.put,qb,qh,qd];refine q5r (v:=qs vp (max A (r - a i))) (by kernel_rfl) (by kernel_rfl) (by kernel_rfl) (fun _ _ _ h=>h) (qB ⟨by rfl,fun m C=> ?_⟩) c ?_
   ·by_cases hm:A<r - a i
    ·rw [show max A (r - a i)=r - a i by omega];go_simp
    ·rw [show max A (r - a i)=A by omega];go_simp
   simp only [Act.put,qb,qh,qd];refine YW (v:=zj (vw Q.heap.size 1)) (by kernel_rfl) (by kernel_rfl) (by kernel_rfl) (fun _ _ _ h=>h) (qB ⟨by rfl,fun m C=> ?_⟩) c ?_
   ·go_simp
   simp only [Act.put,qb,qh,qd];refine q5q (v:=qs vp (B)) (by kernel_rfl) (by kernel_rfl) (by kernel_rfl) (fun _ _ _ h=>h) (qB ⟨by rfl,fun m C=> ?_⟩) c ?_
   ·go_simp
   simp only [Act.put,qb,qh,qd];refine q5p (v:=zj (vw w2.heap.size 1)) (by kernel_rfl) (by kernel_rfl) (by kernel_rfl) (fun _ _ _ h=>h) (qB ⟨by rfl,fun m C=> ?_⟩) c ?_
   ·go_simp
   simp only [Act.put,qb,qh,qd];refine q5o (v:=qs vp (u)) (by kernel_rfl) (by kernel_rfl) (by kernel_rfl) (fun _ _ _ h=>h) (qB ⟨by rfl,fun m C=> ?_⟩) c ?_
   ·go_simp
   simp only [Act.put,qb,qh,qd];refine q5n (v:=zj b) (by kernel_rfl) (by kernel_rfl) (by kernel_rfl) (fun _ _ _ h=>h) (qB ⟨by rfl,fun m C=> ?_⟩) c ?_
   ·go_simp
   simp only [Act.put,qb,qh,qd];refine q5m (v:=qs vp ((i:Int))) (by kernel_rfl) (by kernel_rfl) (by kernel_rfl) (fun _ _ _ h=>h) (qB ⟨by rfl,fun m C=> ?_⟩) c ?_
   ·go_simp
   simp only [Act.put,qb,qh,qd];refine q5l (v:=zj b) (by kernel_rfl) (by kernel_rfl) (by kernel_rfl) (fun _ _ _ h=>h) (qB ⟨by rfl,fun m C=> ?_⟩) c ?_
   ·go_simp
   simp only [Act.put,qb,qh,qd];refine q5k (v:=zj (vw b 1)) (by kernel_rfl) (by kernel_rfl) (by kernel_rfl) (fun _ _ _ h=>h) (qB ⟨by rfl,fun m C=> ?_⟩) c ?_
   ·go_simp
   simp only [Act.put,qb,qh,qd];refine q5j (v:=zj (vw b (1+i))) (by kernel_rfl) (by kernel_rfl) (by kernel_rfl) (fun _ _ _ h=>h) (qB ⟨by rfl,fun m C=> ?_⟩) c ?_
   ·go_simp
   simp only [Act.put,qb,qh,qd];refine q5i (v:=qs vp (a i)) (by kernel_rfl) (by kernel_rfl) (by kernel_rfl) (fun _ _ _ h=>h) (qB ⟨by rfl,fun m C=> ?_⟩) c ?_
   ·go_simp
   simp only [Act.put,qb,qh,qd];refine q5h (v:=qs vp (u - a i)) (by kernel_rfl) (by kernel_rfl) (by kernel_rfl) (fun _ _ _ h=>h) (qB ⟨by rfl,fun m C=> ?_⟩) c ?_
   ·go_simp
   simp only [Act.put,qb,qh,qd];refine q5g (v:=qs vp (min B (u - a i))) (by kernel_rfl) (by kernel_rfl) (by kernel_rfl) (fun _ _ _ h=>h) (qB ⟨by rfl,fun m C=> ?_⟩) c ?_
   ·by_cases hm:u - a i<B
    ·rw [show min B (u - a i)=u - a i by omega];go_simp
    ·rw [show min B (u - a i)=B by omega];go_simp
   simp only [Act.put,qb,qh,qd];refine q5f (v:=zj b) (by kernel_rfl) (by kernel_rfl) (by kernel_rfl) (fun _ _ _ h=>h) (qB ⟨by rfl,fun m C=> ?_⟩) c ?_
   ·go_simp
   simp only [Act.put,qb,qh,qd];refine q5e (v:=zj b) (by kernel_rfl) (by kernel_rfl) (by kernel_rfl) (fun _ _ _ h=>h) (qB ⟨by rfl,fun m C=> ?_⟩) c ?_
   ·go_simp
   simp only [Act.put,qb,qh,qd];refine q5d (v:=zj b) (by kernel_rfl) (by kernel_rfl) (by kernel_rfl) (fun _ _ _ h=>h) (qB ⟨by rfl,fun m C=> ?_⟩) c ?_
   ·go_simp
   simp only [Act.put,qb,qh,qd];refine q5c (v:=zj mb) (by kernel_rfl) (by kernel_rfl) (by kernel_rfl) (fun _ _ _ h=>h) (qB ⟨by rfl,fun m C=> ?_⟩) c ?_
   ·go_simp
   simp only [Act.put,qb,qh,qd];refine q5b (v:=qs vp ((i:Int))) (by kernel_rfl) (by kernel_rfl) (by kernel_rfl) (fun _ _ _ h=>h) (qB ⟨by rfl,fun m C=> ?_⟩) c ?_
   ·go_simp
   simp only [Act.put,qb,qh,qd];refine q5a (v:=zj (vw Q.heap.size 2)) (by kernel_rfl) (by kernel_rfl) (by kernel_rfl) (fun _ _ _ h=>h) (qB ⟨by rfl,fun m C=> ?_⟩) c ?_
   ·go_simp
   simp only [Act.put,qb,qh,qd];refine q59 (v:=qs vp (X)) (by kernel_rfl) (by kernel_rfl) (by kernel_rfl) (fun _ _ _ h=>h) (qB ⟨by rfl,fun m C=> ?_⟩) c ?_
   ·go_simp
   simp only [Act.put,qb,qh,qd];refine q58 (v:=zj (vw w2.heap.size 2)) (by kernel_rfl) (by kernel_rfl) (by kernel_rfl) (fun _ _ _ h=>h) (qB ⟨by rfl,fun m C=> ?_⟩) c ?_
   ·go_simp
   simp only [Act.put,qb,qh,qd];refine q57 (v:=qs vp (af)) (by kernel_rfl) (by kernel_rfl) (by kernel_rfl) (fun _ _ _ h=>h) (qB ⟨by rfl,fun m C=> ?_⟩) c ?_
   ·go_simp
   simp only [Act.put,qb,qh,qd];refine jq (rs:=[33,35]) (by kernel_rfl) (by simp) ?_;refine q2i (fun K H=> ?_) ?_
   ·go_simp
    go_at_call 68;refine(xf (S:=fun d=>((S d∧d≠w.heap.size)∧d≠Q.heap.size)∧ ¬Oth G.drew d) HG bg i2 hi bj b4 co rfl dd c4).mono ?_;rintro e w4 ⟨rfl,bq,bf⟩;have dl:=q8 bq;have ah:=q8 bf;clear bq bf
    refine H.out _ _ (av _ ah) (fun c=> ?_);clear H K;try simp only [Act.put,qb,qh,qd]
    refine q0q (v:=uP #[qs vp (max A (r - a i)),qs vp (min B (u - a i)),qs vp (pl (T.add I i D E) (T.mk i D E):Nat)]) (by kernel_rfl) (by kernel_rfl) (by kernel_rfl) (fun _ _ _ h=>h) (qB ⟨by rfl,fun m C=> ?_⟩) c ?_
    ·go_simp
    simp only [Act.put,qb,qh,qd];refine jq (rs:=[35]) (by kernel_rfl) (by simp) ?_;refine q2h (fun K H=> ?_) ?_
    ·go_simp
     refine H.out _ _ (av _ (ah.alloc _)) (fun c=> ?_);clear H K;try simp only [Act.put,qb,qh,qd]
     have zb:(w4.alloc (vk #[ve vp 0,ve vp 0,ve vp 0] 274)).heap[w4.heap.size]? =some (vk #[ve vp 0,ve vp 0,ve vp 0] 274 (0,0)):=heap_new_at rfl;have z0:=cell1 (o:=0) zb rfl;have z1:=cell1 (o:=1) zb rfl;have z2:=cell1 (o:=2) zb rfl;have zf:=zQ zb;refine jq (rs:=[36]) (by kernel_rfl) (by simp) ?_;refine q2g (fun K H=> ?_) ?_
     ·go_simp
      refine H.out _ _ (av _ (ah.alloc _)) (fun c=> ?_);clear H K;try simp only [Act.put,qb,qh,qd]
      refine wpAnyH_done (by kernel_rfl) ?_ _;refine vA ?_;have hT:(w4.alloc (vk #[qs vp (max A (r - a i)),qs vp (min B (u - a i)),qs vp (pl (T.add I i D E) (T.mk i D E):Nat)] 274)).heap[w4.heap.size]? =some (vk #[qs vp (max A (r - a i)),qs vp (min B (u - a i)),qs vp (pl (T.add I i D E) (T.mk i D E):Nat)] 274 (0,0)):=heap_new_at rfl;have au:IsMaker (w4.alloc (vk #[qs vp (max A (r - a i)),qs vp (min B (u - a i)),qs vp (pl (T.add I i D E) (T.mk i D E):Nat)] 274)) mb (fun d=>((S d∧d≠w.heap.size)∧d≠Q.heap.size)∧ ¬Oth G.drew d) (T.add I i D E):=dl.near ((Near.refl w4).alloc _);have ax:Kept (fun d=>((S d∧d≠w.heap.size)∧d≠Q.heap.size)∧ ¬Oth G.drew d) G.drew (w4.alloc (vk #[qs vp (max A (r - a i)),qs vp (min B (u - a i)),qs vp (pl (T.add I i D E) (T.mk i D E):Nat)] 274)):=ah.alloc _;have hp:G.heap.size≤w4.heap.size:=ah.size;clear z0 z1 z2 zf c;generalize hV:w4.alloc (vk #[qs vp (max A (r - a i)),qs vp (min B (u - a i)),qs vp (pl (T.add I i D E) (T.mk i D E):Nat)] 274)=V at hT au ax⊢;have HT:=q8 hT;have cg:=q8 au;have O:=q8 ax;clear hV hT au ax;obtain⟨pb,a0⟩: ∃x,x=w4.heap.size:=⟨_,rfl⟩;rw [←a0]at HT⊢;replace hp:G.heap.size≤pb:=by rw [a0];exact hp
      clear a0;have N:=q8 ((be.kept (Near.refl G).drew).node (T.add_good HG bg i2 hi (by omega) (by omega) o1 o2) cg O);have br:U i=l:=((Y.2.2.2.2.2.2.1 i (by omega)).trans (M.2.2.2.2.2.2.1 i (by omega))).trans HL;have bx:(U i).length<67108864:=by rw [br];exact ct
      have bw:=q8 bx;have⟨aw,ab,az⟩:=qR (N.rows i hi);have ba:=cell1 (o:=26+i) N.blk (by rw [ye];exact yA hi);have W:=N.rows i hi;have ar:=q8 (Xc W N.blk (by decide));have aj:Hid (∀d,(an i).ownBlock=some d→d<G.heap.size):=fun d e=>((be.rows i hi).lt d e).2;rw [az]at ba W;have b0:=q8 W;have bz:=q8 az;have u0:=cell1 (o:=0) HT rfl;have u1:=cell1 (o:=1) HT rfl;have u2:=cell1 (o:=2) HT rfl;have ap:=q8 (qk.1 be.blk).1;have ai:=q8 hp;have ad:Hid (∀m,Kept (fun d=>(an i).ownBlock=some d) V m→m.cell? (vw b (26+i))=some (qw aw (U i).length ab)∧m.cell? pb=some (qs vp (max A (r - a i)))∧m.cell? (vw pb 1)=some (qs vp (min B (u - a i)))∧m.cell? (vw pb 2)=some (qs vp (pl (T.add I i D E) (T.mk i D E):Nat))):=fun m hk=>⟨hk.cell ba ar,hk.cell u0 (fun e=>ut.2 (aj _ e) ai),hk.cell u1 (fun e=>ut.2 (aj _ e) ai),hk.cell u2 (fun e=>ut.2 (aj _ e) ai)⟩;clear br az ba W u0 u1 u2 bx hp;go_wp2
      refine wp_region_noPanic ?_;refine Ze (by kernel_rfl) ?_;refine q4E (v:=zj b) (by kernel_rfl) (by kernel_rfl) (by kernel_rfl) (fun _ _ _ h=>h) (qB ⟨by rfl,fun m=> ?_⟩) ?_
      ·go_simp
      simp only [Act.put,qb,qh,qd];refine q4D (v:=qs vp ((i:Int))) (by kernel_rfl) (by kernel_rfl) (by kernel_rfl) (fun _ _ _ h=>h) (qB ⟨by rfl,fun m=> ?_⟩) ?_
      ·go_simp
      simp only [Act.put,qb,qh,qd];refine q4C (v:=zj b) (by kernel_rfl) (by kernel_rfl) (by kernel_rfl) (fun _ _ _ h=>h) (qB ⟨by rfl,fun m=> ?_⟩) ?_
      ·go_simp
      simp only [Act.put,qb,qh,qd];refine q4B (v:=qs vp ((i:Int))) (by kernel_rfl) (by kernel_rfl) (by kernel_rfl) (fun _ _ _ h=>h) (qB ⟨by rfl,fun m=> ?_⟩) ?_
      ·go_simp
      simp only [Act.put,qb,qh,qd];refine q4A (v:=zj b) (by kernel_rfl) (by kernel_rfl) (by kernel_rfl) (fun _ _ _ h=>h) (qB ⟨by rfl,fun m=> ?_⟩) ?_
      ·go_simp
      simp only [Act.put,qb,qh,qd];refine q4z (v:=zj (vw b 26)) (by kernel_rfl) (by kernel_rfl) (by kernel_rfl) (fun _ _ _ h=>h) (qB ⟨by rfl,fun m=> ?_⟩) ?_
      ·go_simp
      simp only [Act.put,qb,qh,qd];refine q4y (v:=zj (vw b (26+i))) (by kernel_rfl) (by kernel_rfl) (by kernel_rfl) (fun _ _ _ h=>h) (qB ⟨by rfl,fun m=> ?_⟩) ?_
      ·go_simp
      simp only [Act.put,qb,qh,qd];refine q0t (v:=zj b) (by kernel_rfl) (by kernel_rfl) (by kernel_rfl) (fun _ _ _ h=>h) (qB ⟨by rfl,fun m=> ?_⟩) ?_
      ·go_simp
      simp only [Act.put,qb,qh,qd];refine q0s (v:=zj (vw b 26)) (by kernel_rfl) (by kernel_rfl) (by kernel_rfl) (fun _ _ _ h=>h) (qB ⟨by rfl,fun m=> ?_⟩) ?_
      ·go_simp
      simp only [Act.put,qb,qh,qd];refine vE (S:=(fun m=>m.cell? (vw b (26+i))=some (qw aw (U i).length ab)∧m.cell? pb=some (qs vp (max A (r - a i)))∧m.cell? (vw pb 1)=some (qs vp (min B (u - a i)))∧m.cell? (vw pb 2)=some (qs vp (pl (T.add I i D E) (T.mk i D E):Nat)))) (z:=14) _ _ _ _ ?_;have c:=ad _ (Kept.refl _ V).drew;refine q4o (v:=qw aw (U i).length ab) (by kernel_rfl) (by kernel_rfl) (by kernel_rfl) (by kernel_rfl) (fun _ _ _ h=>h) (qB ⟨by rfl,fun m C=> ?_⟩) c ?_
      ·go_simp
      simp only [Act.put,qb,qh,qd];refine q4n (v:=uP #[qs vp (max A (r - a i)),qs vp (min B (u - a i)),qs vp (pl (T.add I i D E) (T.mk i D E):Nat)]) (by kernel_rfl) (by kernel_rfl) (by kernel_rfl) (by kernel_rfl) (fun _ _ _ h=>h) (qB ⟨by rfl,fun m C=> ?_⟩) c ?_
      ·go_simp
      simp only [Act.put,qb,qh,qd];refine q7f (by kernel_rfl) (fun K H=> ?_);go_simp;refine H.out _ _ (vv (ad _ ((Kept.refl _ V).drew.alloc _))) ?_;clear H K c;try simp only [Act.put,qb,qh,qd]
      refine q4M (by kernel_rfl) (fun K H=> ?_);refine jU rfl (.tmp 102) (.tmp 104) 269 rfl 0 274 i0 (vi #[ve vp 0,ve vp 0,ve vp 0]) 3 24 Tryz.underlying269 de cj cv c3 rfl (by decide) _ _ _ rfl (owns_kept b0 (((Near.refl V).drew).alloc _) (fun _ _ h=>h)) ⟨V.heap.size,0,none⟩ 1 1 [qs vp (max A (r - a i)),qs vp (min B (u - a i)),qs vp (pl (T.add I i D E) (T.mk i D E):Nat)] rfl rfl (K6 rfl _ _ _ _) (by simp [qX]) (by have:=bw.out;unfold maxLen;omega) (by have:=bw.out;omega) (qv _) ?_;intro bv am w6 aa bp bu _;have ae:=q8 (Kept.grown ((Kept.refl (fun d=>(an i).ownBlock=some d) V).drew.alloc _) bp (fun d e _=>by rw [bz.out];exact e));have bs:=q8 aa;have cb:=q8 bu;have ay:=ad _ ae;refine H.out _ _ (vv ay) ?_;clear H K aa bp bu;try simp only [Act.put,qb,qh,qd]
      have bo:=q8 ay;clear ay;refine q4L (by kernel_rfl) (fun K H=> ?_);go_simp;refine H.out _ _ (vv bo) ?_;clear H K;try simp only [Act.put,qb,qh,qd]
      have c6:=bo.1;have f6:=zQ ((ae.block b (qu ap O.size) ar).trans N.blk);refine q4K (by kernel_rfl) (fun K H=> ?_);go_simp;refine H.out _ _ (vu rfl) ?_;clear H K c6 f6;try simp only [Act.put,qb,qh,qd]
      refine yR (by kernel_rfl) ?_;refine vA ?_;have bl:=ap.out;have a7:=ai.out;have ak:=O.size;have ca:=(ae.block b (qu ap O.size) ar).trans N.blk;have⟨al,aq⟩:=N.app hi (y:=gH (a i) (pl (T.add I i D E) (T.mk i D E):Nat) ⟨A,B,X⟩ ⟨r,u,af⟩) bs ae (by rw [bz.out];exact cb.imp id (fun e=>⟨_,e,by simp⟩)) (fun d h=>(b4 d (qH O.size h)).1) _ rfl;have J:=(Kept.setCell (S:=fun d=>(an i).ownBlock=some d∨d=b) (Kept.mono ae (fun _ _ h=>qB h)) (p:=vw b (26+i)) (fun _=>j4 rfl) (qw bv ((U i).length+1) am)).block pb (qk.1 HT).1 (fun h=>h.elim (fun e=>ut.2 (aj _ e) a7) (fun e=>ut.2 bl (e▸a7)));replace J:=J.trans HT;have a6:=(qk.1 b3).1;have bk:=(O.block w.heap.size a6 (fun h=>h.1.1.2 rfl)).trans b3;have P:=(aq.block w.heap.size (qu a6 ak) (fun h=>h.1.2 rfl)).trans bk;have bm:=q8 al;have b1:=q8 aq;clear al aq bk ca bl a7 ak a6;generalize hW:w6.setCell (vw b (26+i)) (qw bv ((U i).length+1) am)=W7 at bm b1 J P⊢;clear hW;have q0:=cell1 (o:=0) J rfl;have q1:=cell1 (o:=1) J rfl;have q2:=cell1 (o:=2) J rfl;have z0:=cell1 (o:=0) P rfl;have z1:=cell1 (o:=1) P rfl;have z2:=cell1 (o:=2) P rfl;have zf:=zQ P;have cd:=q8 P;clear J P;go_wp2
      have Z:=qz (qz (qz cd 0 (qs vp (max A (r - a i)))) 1 (qs vp (min B (u - a i)))) 2 (qs vp (pl (T.add I i D E) (T.mk i D E):Nat));simp only [qb,qh,qd]at Z;have a5:=Kept.setCell (S:=fun d=>d=w.heap.size) (Kept.setCell (S:=fun d=>d=w.heap.size) (Kept.setCell (S:=fun d=>d=w.heap.size) (Kept.refl (fun d=>d=w.heap.size) W7) (p:=w.heap.size) (fun _=>rfl) (qs vp (max A (r - a i)))) (p:=vw w.heap.size 1) (fun _=>rfl) (qs vp (min B (u - a i)))) (p:=vw w.heap.size 2) (fun _=>rfl) (qs vp (pl (T.add I i D E) (T.mk i D E):Nat));generalize dj:((W7.setCell w.heap.size (qs vp (max A (r - a i)))).setCell (vw w.heap.size 1) (qs vp (min B (u - a i)))).setCell (vw w.heap.size 2) (qs vp (pl (T.add I i D E) (T.mk i D E):Nat))=W8 at Z a5⊢;have y0:=cell1 (o:=0) Z rfl;have y1:=cell1 (o:=1) Z rfl;have y2:=cell1 (o:=2) Z rfl;have a9:=(bm.keptOf a5 (fun d e h=>h.1.2 e) (fun d e e2=>jo _ (e2▸(HP.box.ends.lt d e).2))).mono_lt (R:=S) (fun d _ h=>h.1.1);have cf:Kept S w (Q.alloc (vk #[ve vp A,ve vp B,ve vp X] 274)):=((Kept.mono (bi.trans ch) (fun _ _ f=>f.elim)).trans (Kept.mono M.2.2.2.2.2.2.2.2 (fun _ _ h=>h.1))).alloc _;have ci:Kept S w G:=(cf.trans (Kept.mono Y.2.2.2.2.2.2.2.2 (fun _ _ h=>h.1.1))).trans (Kept.mono ck (fun _ _ f=>f.elim));have bb:Kept S w W8:=((ci.drew.trans (Kept.mono O (fun _ _ h=>h.1.1.1))).trans (Kept.mono b1 (fun _ _ h=>h.1.1))).trans (Kept.mono a5 (fun d _ e=>HP.base d (Nat.le_of_eq e.symm)));exact qo (v:=vi #[qs vp (max A (r - a i)),qs vp (min B (u - a i)),qs vp (pl (T.add I i D E) (T.mk i D E):Nat)]) (by simp [qC,Tryz.results207,go_sem,y0,y1,y2]) rfl (XN cy rfl (HP.costs i) M Y bg cz o1 l1 dg o2 l2 c8 cx a9 bb)
     ·exact yI
    ·exact yI
   refine q2h (fun K H=> ?_) ?_
   ·go_simp
    refine H.out _ _ (av _ (Kept.alloc (Kept.refl _ G.drew) _)) (fun c=> ?_);clear H K;try simp only [Act.put,qb,qh,qd]
    refine jq (rs:=[33]) (by kernel_rfl) (by simp) ?_;refine q2i (fun K H=> ?_) ?_
    ·go_simp
     go_at_call 68;refine(xf (S:=fun d=>(((S d∧d≠w.heap.size)∧d≠Q.heap.size)∧ ¬Oth G.drew d)∧d≠G.drew.heap.size) HG bg i2 hi bj (fun d b5=>⟨b4 d (qH (by simp) b5),fun e=>absurd b5 (by rw [e];simp)⟩) ((co.mono_lt (fun d hk hs=>⟨hs,Nat.ne_of_lt hk⟩)).near ((Near.refl G.drew).alloc _)) rfl dd c4).mono ?_;rintro e w4 ⟨rfl,bq,bf⟩;have bh:=(bf.block G.drew.heap.size (by simp) (fun h=>h.2 rfl)).trans (heap_new_at rfl);have z0:w4.cell? G.heap.size=some (ve vp 0):=cell1 (o:=0) bh rfl;have z1:w4.cell? (vw G.heap.size 1)=some (ve vp 0):=cell1 (o:=1) bh rfl;have z2:w4.cell? (vw G.heap.size 2)=some (ve vp 0):=cell1 (o:=2) bh rfl;have zf: ∀o,w4.frozen? (vw G.heap.size o)=false:=zQ bh;have di:=q8 bq;have ah:=q8 ((Kept.alloc (Kept.refl _ G.drew) _).trans (Kept.mono bf (fun _ _ h=>h.1)));clear bq bf
     refine H.out _ _ (av _ ah) (fun c=> ?_);clear H K;try simp only [Act.put,qb,qh,qd]
     refine q0q (v:=uP #[qs vp (max A (r - a i)),qs vp (min B (u - a i)),qs vp (pl (T.add I i D E) (T.mk i D E):Nat)]) (by kernel_rfl) (by kernel_rfl) (by kernel_rfl) (fun _ _ _ h=>h) (qB ⟨by rfl,fun m C=> ?_⟩) c ?_
     ·go_simp
     simp only [Act.put,qb,qh,qd];refine jq (rs:=[36]) (by kernel_rfl) (by simp) ?_;refine q2g (fun K H=> ?_) ?_
     ·go_simp
      refine H.out _ _ (av _ (Kept.setCell (Kept.setCell (Kept.setCell ah (fun h=>absurd h (jo _)) _) (fun h=>absurd h (jo _)) _) (fun h=>absurd h (jo _)) _)) (fun c=> ?_);clear H K;try simp only [Act.put,qb,qh,qd]
      refine wpAnyH_done (by kernel_rfl) ?_ _;refine vA ?_;have b8:w4.heap[G.heap.size]? =some (vk #[qs vp 0,qs vp 0,qs vp 0] 274 (0,0)):=bh;have hT:=qz (qz (qz b8 0 (qs vp (max A (r - a i)))) 1 (qs vp (min B (u - a i)))) 2 (qs vp (pl (T.add I i D E) (T.mk i D E):Nat));simp only [qb,qh,qd]at hT;have df:=Kept.setCell (S:=fun d=>d=G.heap.size) (Kept.setCell (S:=fun d=>d=G.heap.size) (Kept.setCell (S:=fun d=>d=G.heap.size) (Kept.refl (fun d=>d=G.heap.size) w4) (p:=G.heap.size) (fun _=>rfl) (qs vp (max A (r - a i)))) (p:=vw G.heap.size 1) (fun _=>rfl) (qs vp (min B (u - a i)))) (p:=vw G.heap.size 2) (fun _=>rfl) (qs vp (pl (T.add I i D E) (T.mk i D E):Nat));have au:IsMaker (((w4.setCell G.heap.size (qs vp (max A (r - a i)))).setCell (vw G.heap.size 1) (qs vp (min B (u - a i)))).setCell (vw G.heap.size 2) (qs vp (pl (T.add I i D E) (T.mk i D E):Nat))) mb (fun d=>((S d∧d≠w.heap.size)∧d≠Q.heap.size)∧ ¬Oth G.drew d) (T.add I i D E):=(di.of_kept df (fun _ _ h e=>h.2 e)).mono (fun _ h=>h.1);have ax:=Kept.setCell (S:=fun d=>((S d∧d≠w.heap.size)∧d≠Q.heap.size)∧ ¬Oth G.drew d) (Kept.setCell (S:=fun d=>((S d∧d≠w.heap.size)∧d≠Q.heap.size)∧ ¬Oth G.drew d) (Kept.setCell (S:=fun d=>((S d∧d≠w.heap.size)∧d≠Q.heap.size)∧ ¬Oth G.drew d) ah (p:=G.heap.size) (fun h=>absurd h (jo _)) (qs vp (max A (r - a i)))) (p:=vw G.heap.size 1) (fun h=>absurd h (jo _)) (qs vp (min B (u - a i)))) (p:=vw G.heap.size 2) (fun h=>absurd h (jo _)) (qs vp (pl (T.add I i D E) (T.mk i D E):Nat));have hp:G.heap.size≤G.heap.size:=qt _;clear z0 z1 z2 zf c;generalize hV:((w4.setCell G.heap.size (qs vp (max A (r - a i)))).setCell (vw G.heap.size 1) (qs vp (min B (u - a i)))).setCell (vw G.heap.size 2) (qs vp (pl (T.add I i D E) (T.mk i D E):Nat))=V at hT au ax⊢;have HT:=q8 hT;have cg:=q8 au;have O:=q8 ax;clear hV hT au ax df bh b8;obtain⟨pb,a0⟩: ∃x,x=G.heap.size:=⟨_,rfl⟩;rw [←a0]at HT⊢;replace hp:G.heap.size≤pb:=by rw [a0];exact hp
      clear a0;have N:=q8 ((be.kept (Near.refl G).drew).node (T.add_good HG bg i2 hi (by omega) (by omega) o1 o2) cg O);have br:U i=l:=((Y.2.2.2.2.2.2.1 i (by omega)).trans (M.2.2.2.2.2.2.1 i (by omega))).trans HL;have bx:(U i).length<67108864:=by rw [br];exact ct
      have bw:=q8 bx;have⟨aw,ab,az⟩:=qR (N.rows i hi);have ba:=cell1 (o:=26+i) N.blk (by rw [ye];exact yA hi);have W:=N.rows i hi;have ar:=q8 (Xc W N.blk (by decide));have aj:Hid (∀d,(an i).ownBlock=some d→d<G.heap.size):=fun d e=>((be.rows i hi).lt d e).2;rw [az]at ba W;have b0:=q8 W;have bz:=q8 az;have u0:=cell1 (o:=0) HT rfl;have u1:=cell1 (o:=1) HT rfl;have u2:=cell1 (o:=2) HT rfl;have ap:=q8 (qk.1 be.blk).1;have ai:=q8 hp;have ad:Hid (∀m,Kept (fun d=>(an i).ownBlock=some d) V m→m.cell? (vw b (26+i))=some (qw aw (U i).length ab)∧m.cell? pb=some (qs vp (max A (r - a i)))∧m.cell? (vw pb 1)=some (qs vp (min B (u - a i)))∧m.cell? (vw pb 2)=some (qs vp (pl (T.add I i D E) (T.mk i D E):Nat))):=fun m hk=>⟨hk.cell ba ar,hk.cell u0 (fun e=>ut.2 (aj _ e) ai),hk.cell u1 (fun e=>ut.2 (aj _ e) ai),hk.cell u2 (fun e=>ut.2 (aj _ e) ai)⟩;clear br az ba W u0 u1 u2 bx hp;go_wp2
      refine wp_region_noPanic ?_;refine Ze (by kernel_rfl) ?_;refine q4E (v:=zj b) (by kernel_rfl) (by kernel_rfl) (by kernel_rfl) (fun _ _ _ h=>h) (qB ⟨by rfl,fun m=> ?_⟩) ?_
      ·go_simp
      simp only [Act.put,qb,qh,qd];refine q4D (v:=qs vp ((i:Int))) (by kernel_rfl) (by kernel_rfl) (by kernel_rfl) (fun _ _ _ h=>h) (qB ⟨by rfl,fun m=> ?_⟩) ?_
      ·go_simp
      simp only [Act.put,qb,qh,qd];refine q4C (v:=zj b) (by kernel_rfl) (by kernel_rfl) (by kernel_rfl) (fun _ _ _ h=>h) (qB ⟨by rfl,fun m=> ?_⟩) ?_
      ·go_simp
      simp only [Act.put,qb,qh,qd];refine q4B (v:=qs vp ((i:Int))) (by kernel_rfl) (by kernel_rfl) (by kernel_rfl) (fun _ _ _ h=>h) (qB ⟨by rfl,fun m=> ?_⟩) ?_
      ·go_simp
      simp only [Act.put,qb,qh,qd];refine q4A (v:=zj b) (by kernel_rfl) (by kernel_rfl) (by kernel_rfl) (fun _ _ _ h=>h) (qB ⟨by rfl,fun m=> ?_⟩) ?_
      ·go_simp
      simp only [Act.put,qb,qh,qd];refine q4z (v:=zj (vw b 26)) (by kernel_rfl) (by kernel_rfl) (by kernel_rfl) (fun _ _ _ h=>h) (qB ⟨by rfl,fun m=> ?_⟩) ?_
      ·go_simp
      simp only [Act.put,qb,qh,qd];refine q4y (v:=zj (vw b (26+i))) (by kernel_rfl) (by kernel_rfl) (by kernel_rfl) (fun _ _ _ h=>h) (qB ⟨by rfl,fun m=> ?_⟩) ?_
      ·go_simp
      simp only [Act.put,qb,qh,qd];refine q0t (v:=zj b) (by kernel_rfl) (by kernel_rfl) (by kernel_rfl) (fun _ _ _ h=>h) (qB ⟨by rfl,fun m=> ?_⟩) ?_
      ·go_simp
      simp only [Act.put,qb,qh,qd];refine q0s (v:=zj (vw b 26)) (by kernel_rfl) (by kernel_rfl) (by kernel_rfl) (fun _ _ _ h=>h) (qB ⟨by rfl,fun m=> ?_⟩) ?_
      ·go_simp
      simp only [Act.put,qb,qh,qd];refine vE (S:=(fun m=>m.cell? (vw b (26+i))=some (qw aw (U i).length ab)∧m.cell? pb=some (qs vp (max A (r - a i)))∧m.cell? (vw pb 1)=some (qs vp (min B (u - a i)))∧m.cell? (vw pb 2)=some (qs vp (pl (T.add I i D E) (T.mk i D E):Nat)))) (z:=14) _ _ _ _ ?_;have c:=ad _ (Kept.refl _ V).drew;refine q4o (v:=qw aw (U i).length ab) (by kernel_rfl) (by kernel_rfl) (by kernel_rfl) (by kernel_rfl) (fun _ _ _ h=>h) (qB ⟨by rfl,fun m C=> ?_⟩) c ?_
      ·go_simp
      simp only [Act.put,qb,qh,qd];refine q4n (v:=uP #[qs vp (max A (r - a i)),qs vp (min B (u - a i)),qs vp (pl (T.add I i D E) (T.mk i D E):Nat)]) (by kernel_rfl) (by kernel_rfl) (by kernel_rfl) (by kernel_rfl) (fun _ _ _ h=>h) (qB ⟨by rfl,fun m C=> ?_⟩) c ?_
      ·go_simp
      simp only [Act.put,qb,qh,qd];refine q7f (by kernel_rfl) (fun K H=> ?_);go_simp;refine H.out _ _ (vv (ad _ ((Kept.refl _ V).drew.alloc _))) ?_;clear H K c;try simp only [Act.put,qb,qh,qd]
      refine q4M (by kernel_rfl) (fun K H=> ?_);refine jU rfl (.tmp 102) (.tmp 104) 269 rfl 0 274 i0 (vi #[ve vp 0,ve vp 0,ve vp 0]) 3 24 Tryz.underlying269 de cj cv c3 rfl (by decide) _ _ _ rfl (owns_kept b0 (((Near.refl V).drew).alloc _) (fun _ _ h=>h)) ⟨V.heap.size,0,none⟩ 1 1 [qs vp (max A (r - a i)),qs vp (min B (u - a i)),qs vp (pl (T.add I i D E) (T.mk i D E):Nat)] rfl rfl (K6 rfl _ _ _ _) (by simp [qX]) (by have:=bw.out;unfold maxLen;omega) (by have:=bw.out;omega) (qv _) ?_;intro bv am w6 aa bp bu _;have ae:=q8 (Kept.grown ((Kept.refl (fun d=>(an i).ownBlock=some d) V).drew.alloc _) bp (fun d e _=>by rw [bz.out];exact e));have bs:=q8 aa;have cb:=q8 bu;have ay:=ad _ ae;refine H.out _ _ (vv ay) ?_;clear H K aa bp bu;try simp only [Act.put,qb,qh,qd]
      have bo:=q8 ay;clear ay;refine q4L (by kernel_rfl) (fun K H=> ?_);go_simp;refine H.out _ _ (vv bo) ?_;clear H K;try simp only [Act.put,qb,qh,qd]
      have c6:=bo.1;have f6:=zQ ((ae.block b (qu ap O.size) ar).trans N.blk);refine q4K (by kernel_rfl) (fun K H=> ?_);go_simp;refine H.out _ _ (vu rfl) ?_;clear H K c6 f6;try simp only [Act.put,qb,qh,qd]
      refine yR (by kernel_rfl) ?_;refine vA ?_;have bl:=ap.out;have a7:=ai.out;have ak:=O.size;have ca:=(ae.block b (qu ap O.size) ar).trans N.blk;have⟨al,aq⟩:=N.app hi (y:=gH (a i) (pl (T.add I i D E) (T.mk i D E):Nat) ⟨A,B,X⟩ ⟨r,u,af⟩) bs ae (by rw [bz.out];exact cb.imp id (fun e=>⟨_,e,by simp⟩)) (fun d h=>(b4 d (qH O.size h)).1) _ rfl;have J:=(Kept.setCell (S:=fun d=>(an i).ownBlock=some d∨d=b) (Kept.mono ae (fun _ _ h=>qB h)) (p:=vw b (26+i)) (fun _=>j4 rfl) (qw bv ((U i).length+1) am)).block pb (qk.1 HT).1 (fun h=>h.elim (fun e=>ut.2 (aj _ e) a7) (fun e=>ut.2 bl (e▸a7)));replace J:=J.trans HT;have a6:=(qk.1 b3).1;have bk:=(O.block w.heap.size a6 (fun h=>h.1.1.2 rfl)).trans b3;have P:=(aq.block w.heap.size (qu a6 ak) (fun h=>h.1.2 rfl)).trans bk;have bm:=q8 al;have b1:=q8 aq;clear al aq bk ca bl a7 ak a6;generalize hW:w6.setCell (vw b (26+i)) (qw bv ((U i).length+1) am)=W7 at bm b1 J P⊢;clear hW;have q0:=cell1 (o:=0) J rfl;have q1:=cell1 (o:=1) J rfl;have q2:=cell1 (o:=2) J rfl;have z0:=cell1 (o:=0) P rfl;have z1:=cell1 (o:=1) P rfl;have z2:=cell1 (o:=2) P rfl;have zf:=zQ P;have cd:=q8 P;clear J P;go_wp2
      have Z:=qz (qz (qz cd 0 (qs vp (max A (r - a i)))) 1 (qs vp (min B (u - a i)))) 2 (qs vp (pl (T.add I i D E) (T.mk i D E):Nat));simp only [qb,qh,qd]at Z;have a5:=Kept.setCell (S:=fun d=>d=w.heap.size) (Kept.setCell (S:=fun d=>d=w.heap.size) (Kept.setCell (S:=fun d=>d=w.heap.size) (Kept.refl (fun d=>d=w.heap.size) W7) (p:=w.heap.size) (fun _=>rfl) (qs vp (max A (r - a i)))) (p:=vw w.heap.size 1) (fun _=>rfl) (qs vp (min B (u - a i)))) (p:=vw w.heap.size 2) (fun _=>rfl) (qs vp (pl (T.add I i D E) (T.mk i D E):Nat));generalize dj:((W7.setCell w.heap.size (qs vp (max A (r - a i)))).setCell (vw w.heap.size 1) (qs vp (min B (u - a i)))).setCell (vw w.heap.size 2) (qs vp (pl (T.add I i D E) (T.mk i D E):Nat))=W8 at Z a5⊢;have y0:=cell1 (o:=0) Z rfl;have y1:=cell1 (o:=1) Z rfl;have y2:=cell1 (o:=2) Z rfl;have a9:=(bm.keptOf a5 (fun d e h=>h.1.2 e) (fun d e e2=>jo _ (e2▸(HP.box.ends.lt d e).2))).mono_lt (R:=S) (fun d _ h=>h.1.1);have cf:Kept S w (Q.alloc (vk #[ve vp A,ve vp B,ve vp X] 274)):=((Kept.mono (bi.trans ch) (fun _ _ f=>f.elim)).trans (Kept.mono M.2.2.2.2.2.2.2.2 (fun _ _ h=>h.1))).alloc _;have ci:Kept S w G:=(cf.trans (Kept.mono Y.2.2.2.2.2.2.2.2 (fun _ _ h=>h.1.1))).trans (Kept.mono ck (fun _ _ f=>f.elim));have bb:Kept S w W8:=((ci.drew.trans (Kept.mono O (fun _ _ h=>h.1.1.1))).trans (Kept.mono b1 (fun _ _ h=>h.1.1))).trans (Kept.mono a5 (fun d _ e=>HP.base d (Nat.le_of_eq e.symm)));exact qo (v:=vi #[qs vp (max A (r - a i)),qs vp (min B (u - a i)),qs vp (pl (T.add I i D E) (T.mk i D E):Nat)]) (by simp [qC,Tryz.results207,go_sem,y0,y1,y2]) rfl (XN cy rfl (HP.costs i) M Y bg cz o1 l1 dg o2 l2 c8 cx a9 bb)
     ·exact yI
    ·exact yI
   ·exact yI
theorem uZ{b z:Nat}{a:Nat->Int}{g:Int->Bool}{u:Value}{v:List Dec}: ∀(k i:Nat)(w:World)(S:Nat->Prop)(L:List T)(d:Nat->Value)(c:Nat->List Dec)(s j:Int),i+k=24->xe w b z S a g u d v L c k->j=(i:Int)->
 -(2147483648*(i:Int))<=s/\s<=2147483648*(i:Int)->Calls qj 207 #[vg b,ve vp j,ve vp s] w (wk w b z S a g u v L c k s)
 |0,i,w,S,L,d,c,s,j,t,h,l,p=>by
  obtain rfl:i=24:=by omega
  subst l;exact q1M h (by omega) (by omega)
 |k+1,i,w,S,L,d,c,s,j,t,h,l,p=>by
  subst l;rcases first_span s (c i)with⟨q,x,y,f,A⟩|r
  .have m:i<24:=by omega
   refine(Gv m (cell1 (o:=25) h.box.blk (by rw [ye];exact yO)) (cell1 (o:=26+i) h.box.blk (by rw [ye];exact yA m)) (q6J.row (h.box.rows i m))
    (by have:=h.rooms i;have:=q8c (n:=k+1);omega) y f A).mono ?_
   rintro e D ⟨rfl,C⟩;refine h.same ?_ f C
   have:=h.known i m x (qp y)
   rwa [show 24 - i=k+1 by omega]at this
  .exact q3W (by omega) h p r (fun w S L d c s j B l p=>uZ k (i+1) w S L d c s j (by omega) B (by omega) (by omega))
def jK(l:List Int)(i:Nat):Int:=l.getD i 0
theorem Kh(h:je l)(i:Nat): -2147483648<=jK l i/\jK l i<=2147483648:=by
 unfold jK;rw [zU]
 cases a:l[i]? with
 |none=>simp
 |some x=>exact h.2 x (qp a)
theorem Yn{a:Nat->Int}(h: ∀i,-2147483648<=a i/\a i<=2147483648)(c:Nat->Bool): ∀k:Nat,-(2147483648*(k:Int))<=sumFrom a c k/\sumFrom a c k<=2147483648*(k:Int)
 |0=>by simp [sumFrom]
 |k+1=>by
  have d:=Yn h c k;have b:=h (24 - (k+1));rw [show sumFrom a c (k+1)=(if c (24 - (k+1))then a (24 - (k+1))else 0)+sumFrom a c k from rfl];split<;>omega
def JM(rel:Nat)(s b:Int):Bool:=if rel=1 then decide (s<=b)else if rel=2 then decide (b<=s)else decide (s=b)
def linF(l:List Int)(rel:Nat)(bound:Int):F:=fun c=>JM rel (sumFrom (jK l) c 24) bound
def LinOk(l:List Int)(rel:Nat):Prop:=je l/\1<=rel/\rel<=3
instance (l:List Int)(rel:Nat):Decidable (LinOk l rel):=by unfold LinOk;infer_instance
def Kw(b:Int):Int:=min (max b (-17592186044416)) 17592186044416
theorem U9(b:Int): -17592186044416<=Kw b/\Kw b<=17592186044416:=by unfold Kw;omega
theorem q0P(rel:Nat)(b:Int)(h: -51539607552<=s/\s<=51539607552):JM rel s (Kw b)=JM rel s b:=by
 unfold JM Kw;split
 .exact decide_eq_decide.2 (by omega)
 .split
  .exact decide_eq_decide.2 (by omega)
  .exact decide_eq_decide.2 (by omega)
def endsOf(bd:Int)(p:Bool×Bool×Bool):List Dec:=[⟨-35184372088832,bd - 1,p.1.toNat⟩,⟨bd,bd,p.2.1.toNat⟩,⟨bd+1,35184372088832,p.2.2.toNat⟩]
def placesOf(rel:Nat):Bool×Bool×Bool:=if rel=1 then(true,true,false)else if rel=2 then(false,true,true)else(false,true,false)
theorem q3q{a:Int}(h:s<a):JM rel s a=(placesOf rel).1:=by
 unfold JM placesOf;split
 .simp;omega
 .split<;>simp<;>omega
theorem q5E{a:Int}:JM rel a a=(placesOf rel).2.1:=by
 unfold JM placesOf;split
 .simp
 .split<;>simp
theorem q0O{a:Int}(h:a<s):JM rel s a=(placesOf rel).2.2:=by
 unfold JM placesOf;split
 .simp;omega
 .split<;>simp<;>omega
theorem q6v(b:Nat->Int)(rel:Nat){a:Int}(f: -17592186044416<=a/\a<=17592186044416): ∀y∈endsOf a (placesOf rel),SpanOk b (fun s=>JM rel s a) [] 0 y:=by
 intro y e;simp only [endsOf,qI,zh,or_false]at e;rcases e with rfl|rfl|rfl
 .refine⟨.leaf (placesOf rel).1,trivial,by cases(placesOf rel).1<;>rfl,fun s c d=> ?_,trivial,qt _,by simp only [];omega⟩
  show T.leaf (JM rel s a)=_;rw [q3q (by simp only []at d;omega)]
 .refine⟨.leaf (placesOf rel).2.1,trivial,by cases(placesOf rel).2.1<;>rfl,fun s c d=> ?_,trivial,qt _,by simp only [];omega⟩
  obtain rfl:s=a:=by simp only []at c d;omega
  show T.leaf (JM rel s s)=_;rw [q5E]
 .refine⟨.leaf (placesOf rel).2.2,trivial,by cases(placesOf rel).2.2<;>rfl,fun s c d=> ?_,trivial,qt _,by simp only [];omega⟩
  show T.leaf (JM rel s a)=_;rw [q0O (by simp only []at c;omega)]
theorem q40(rel:Nat){a:Int}(s:Int)(b: -35184372088832<=s)(c:s<=35184372088832): ∃y∈endsOf a (placesOf rel),inSpan s y:=by
 unfold inSpan;by_cases h:s<a
 .exact⟨_,j5,by simp only [];omega⟩
 .by_cases e:s=a
  .exact⟨_,yw _ j5,by simp only [];omega⟩
  .exact⟨_,yw _ (yw _ j5),by simp only [];omega⟩
def allF(fs:List F):F:=fun c=>fs.all fun f=>f c
def q2U(fs:List F):F:=fun c=>fs.any fun f=>f c
theorem q2G(fs:List F)(f:F)(c:Nat->Bool):allF (fs++[f]) c=(allF fs c&&f c):=by simp [allF]
theorem q2B(fs:List F)(f:F)(c:Nat->Bool):q2U (fs++[f]) c=(q2U fs c||f c):=by simp [q2U]
theorem true_f(w:World):Calls qj 22 #[] w (jO w (fun _=>true)):=
 (WI w).mono fun _ _ ⟨v,a,b,c⟩=>⟨v,a,⟨_,b,fun _=>rfl⟩,Near.of_below c⟩
theorem false_f(w:World):Calls qj 242 #[] w (jO w (fun _=>false)):=
 (VR w).mono fun _ _ ⟨v,a,b,c⟩=>⟨v,a,⟨_,b,fun _=>rfl⟩,Near.of_below c⟩
theorem IsF.keptOf{f:F}{a:Nat×Nat}(h:IsF w v f)(d:Kept (fun k=>k=b) w w')(c:w.heap[b]? =some (vk cs 43 a)):IsF w' v f:=
 h.only ⟨_,d,fun k _ e=>⟨cs,a,by rw [e];exact c⟩⟩ (by decide)
theorem andall_f{x:Value}(h:Sets 43 IsF b w x fs)(hl:fs.length<1099511627776):Calls qj 70 #[x] w (jO w (allF fs)):=by
 have HS:=q8 h;obtain⟨ao,ab,rfl⟩:=h.form;go_enter Tryz.func70,Tryz.ntmps70;go_wp2_with (first
  |(go_at_call 22;refine(true_f _).mono ?_;rintro e f ⟨v1,rfl,d1,b1⟩;obtain⟨l,m,r,n,rfl⟩:=d1.form;have D1:=q8 d1;have M:=q8 b1))
 have P:Near w (f.alloc (zK #[qw l m r,qs zD n] 43)):=(((Near.refl w).alloc _).trans M).alloc _;have E:(f.alloc (zK #[qw l m r,qs zD n] 43)).heap[f.heap.size]? =some (vk #[vd l m r,ve vp n] 43 (0,0)):=heap_new_at rfl;have Y:(f.alloc (zK #[qw l m r,qs zD n] 43)).heap[w.heap.size]? =some (vk #[vd none 0 0,ve vp 0] 43 (0,0)):=qE (M.alloc _) (heap_new_at rfl);have hD:IsF (f.alloc (zK #[qw l m r,qs zD n] 43)) (vi #[vd l m r,ve vp n]) (allF (fs.take 0)):=(D1.near ((Near.refl _).alloc _)).congr fun c=>rfl;have aa:w.heap.size<f.heap.size:=by
  have:=M.size'
  simp at this;omega
 generalize(f.alloc (zK #[qw l m r,qs zD n] 43))=W at P E Y hD⊢;have C:=q8 P;have Z:=q8 E;have HR:=q8 Y;have HD:=q8 hD;have ad:f.heap.size<W.heap.size:=(qk.1 E).1;go_loopw [9] (fun i wr=> ∃(k:Nat)(A:Option Addr)(B z:Nat)(D:Int),k≤fs.length∧i=ve vp k∧wr.heap[f.heap.size]? =some (vk #[vd A B z,ve vp D] 43 (0,0))∧IsF wr (vi #[vd A B z,ve vp D]) (allF (fs.take k))∧Kept (fun j=>j=f.heap.size) W wr) (fun i _=>fs.length - (intOf i).toNat)
 case atStart=>exact⟨0,l,m,r,n,qv _,rfl,Z,HD,Kept.refl _ _⟩
 case round=>
  obtain⟨k,A,B,z,D,hk,rfl,he,hd,s⟩:=hrel;have O:=q8 he;have R:=q8 hd;have t:=q8 s;have d:=q8 ((s.block w.heap.size (by omega) (by omega)).trans HR);have af:=s.size;by_cases y:k<fs.length
  ·have S:(k:Int)<fs.length:=by omega
   have K:fs[k]? =some fs[k]:=qi y;obtain⟨g,xc,p,q,hx,-,ae,z0,z1,V⟩:=HS.get K;simp only [qq,true_and]at hx;obtain⟨rfl,rfl⟩:=hx;have⟨p1,p2,X,Q,u⟩:=V.form;simp only [qY,za,qJ,and_true]at u;obtain⟨rfl,rfl⟩:=u;have y0:=t.cell (C.cell z0) (by omega);have y1:=t.cell (C.cell z1) (by omega);have I:IsF wr (vi #[vd p1 p2 X,ve vp Q]) fs[k]:=(V.near C).keptOf t Z;have J: ∀c,(allF (fs.take k) c&&fs[k] c)=allF (fs.take (k+1)) c:=fun c=>by
    rw [zM y,q2G]
   have HI:=q8 I;have G:=q8 J;have H:=q8 (qE ((Near.refl wr).alloc (vk #[vd p1 p2 X,ve vp Q] 43)) O);have q0:=cell1 (o:=0) H rfl;have q1:=cell1 (o:=1) H rfl;go_wp2_with (first
    |(go_at_call 74;refine(and_f (R.near ((Near.refl wr).alloc _)) (HI.near ((Near.refl wr).alloc _))).mono ?_;rintro e w2 ⟨v2,rfl,d2,b2⟩;obtain⟨c1,c2,c3,c4,rfl⟩:=d2.form;have D2:=q8 d2;have B2:=q8 b2;have a:=q8 (qE b2 H);have U:=cell1 (o:=0) a rfl;have r1:=cell1 (o:=1) a rfl;have f0:=zQ a 0;have f1:=zQ a 1))
   exact⟨⟨k+1,c1,c2,c3,c4,by omega,by go_num,YZ a,(yJ D2 a).congr G,(((t.alloc _).trans B2.kept).setCell (fun _=>rfl) _).setCell (fun _=>rfl) _⟩,by simp [intOf];omega⟩
  ·have N:k=fs.length:=by omega
   subst N;have q0:=cell1 (o:=0) O rfl;have q1:=cell1 (o:=1) O rfl;have U:=cell1 (o:=0) d.out rfl;have r1:=cell1 (o:=1) d.out rfl;have f0:=zQ d.out 0;have f1:=zQ d.out 1;go_wp2_with fail
   have L:Near w wr:=Kept.mono (C.kept.trans t) (fun j hj e=>by omega);refine qo (v:=vi #[vd A B z,ve vp D]) (by simp [qC,Tryz.results70,go_sem,U,r1]) rfl ⟨_,rfl,?_,(L.set (by show w.heap.size≤w.heap.size;omega) _).set (by show w.heap.size≤w.heap.size;omega) _⟩
   have:=yJ R d.out
   rw [qF]at this;exact this
theorem orall_f{x:Value}(h:Sets 43 IsF b w x fs)(hl:fs.length<1099511627776):Calls qj 241 #[x] w (jO w (q2U fs)):=by
 have HS:=q8 h;obtain⟨ao,ab,rfl⟩:=h.form;go_enter Tryz.func241,Tryz.ntmps241;go_wp2_with (first
  |(go_at_call 242;refine(false_f _).mono ?_;rintro e f ⟨v1,rfl,d1,b1⟩;obtain⟨l,m,r,n,rfl⟩:=d1.form;have D1:=q8 d1;have M:=q8 b1))
 have P:Near w (f.alloc (zK #[qw l m r,qs zD n] 43)):=(((Near.refl w).alloc _).trans M).alloc _;have E:(f.alloc (zK #[qw l m r,qs zD n] 43)).heap[f.heap.size]? =some (vk #[vd l m r,ve vp n] 43 (0,0)):=heap_new_at rfl;have Y:(f.alloc (zK #[qw l m r,qs zD n] 43)).heap[w.heap.size]? =some (vk #[vd none 0 0,ve vp 0] 43 (0,0)):=qE (M.alloc _) (heap_new_at rfl);have hD:IsF (f.alloc (zK #[qw l m r,qs zD n] 43)) (vi #[vd l m r,ve vp n]) (q2U (fs.take 0)):=(D1.near ((Near.refl _).alloc _)).congr fun c=>rfl;have aa:w.heap.size<f.heap.size:=by
  have:=M.size'
  simp at this;omega
 generalize(f.alloc (zK #[qw l m r,qs zD n] 43))=W at P E Y hD⊢;have C:=q8 P;have Z:=q8 E;have HR:=q8 Y;have HD:=q8 hD;have ad:f.heap.size<W.heap.size:=(qk.1 E).1;go_loopw [9] (fun i wr=> ∃(k:Nat)(A:Option Addr)(B z:Nat)(D:Int),k≤fs.length∧i=ve vp k∧wr.heap[f.heap.size]? =some (vk #[vd A B z,ve vp D] 43 (0,0))∧IsF wr (vi #[vd A B z,ve vp D]) (q2U (fs.take k))∧Kept (fun j=>j=f.heap.size) W wr) (fun i _=>fs.length - (intOf i).toNat)
 case atStart=>exact⟨0,l,m,r,n,qv _,rfl,Z,HD,Kept.refl _ _⟩
 case round=>
  obtain⟨k,A,B,z,D,hk,rfl,he,hd,s⟩:=hrel;have O:=q8 he;have R:=q8 hd;have t:=q8 s;have d:=q8 ((s.block w.heap.size (by omega) (by omega)).trans HR);have af:=s.size;by_cases y:k<fs.length
  ·have S:(k:Int)<fs.length:=by omega
   have K:fs[k]? =some fs[k]:=qi y;obtain⟨g,xc,p,q,hx,-,ae,z0,z1,V⟩:=HS.get K;simp only [qq,true_and]at hx;obtain⟨rfl,rfl⟩:=hx;have⟨p1,p2,X,Q,u⟩:=V.form;simp only [qY,za,qJ,and_true]at u;obtain⟨rfl,rfl⟩:=u;have y0:=t.cell (C.cell z0) (by omega);have y1:=t.cell (C.cell z1) (by omega);have I:IsF wr (vi #[vd p1 p2 X,ve vp Q]) fs[k]:=(V.near C).keptOf t Z;have J: ∀c,(q2U (fs.take k) c||fs[k] c)=q2U (fs.take (k+1)) c:=fun c=>by
    rw [zM y,q2B]
   have HI:=q8 I;have G:=q8 J;have H:=q8 (qE ((Near.refl wr).alloc (vk #[vd p1 p2 X,ve vp Q] 43)) O);have q0:=cell1 (o:=0) H rfl;have q1:=cell1 (o:=1) H rfl;go_wp2_with (first
    |(go_at_call 148;refine(q5N (R.near ((Near.refl wr).alloc _)) (HI.near ((Near.refl wr).alloc _))).mono ?_;rintro e w2 ⟨v2,rfl,d2,b2⟩;obtain⟨c1,c2,c3,c4,rfl⟩:=d2.form;have D2:=q8 d2;have B2:=q8 b2;have a:=q8 (qE b2 H);have U:=cell1 (o:=0) a rfl;have r1:=cell1 (o:=1) a rfl;have f0:=zQ a 0;have f1:=zQ a 1))
   exact⟨⟨k+1,c1,c2,c3,c4,by omega,by go_num,YZ a,(yJ D2 a).congr G,(((t.alloc _).trans B2.kept).setCell (fun _=>rfl) _).setCell (fun _=>rfl) _⟩,by simp [intOf];omega⟩
  ·have N:k=fs.length:=by omega
   subst N;have q0:=cell1 (o:=0) O rfl;have q1:=cell1 (o:=1) O rfl;have U:=cell1 (o:=0) d.out rfl;have r1:=cell1 (o:=1) d.out rfl;have f0:=zQ d.out 0;have f1:=zQ d.out 1;go_wp2_with fail
   have L:Near w wr:=Kept.mono (C.kept.trans t) (fun j hj e=>by omega);refine qo (v:=vi #[vd A B z,ve vp D]) (by simp [qC,Tryz.results241,go_sem,U,r1]) rfl ⟨_,rfl,?_,(L.set (by show w.heap.size≤w.heap.size;omega) _).set (by show w.heap.size≤w.heap.size;omega) _⟩
   have:=yJ R d.out
   rw [qF]at this;exact this
def cntFrom(f:Nat)(c:Nat->Bool):Nat->Nat->Nat
 |_,0=>0
 |k,n+1=>(if f.testBit k&&c k then 1 else 0)+cntFrom f c (k+1) n
def bet(low high:Int)(n:Nat):Bool:=decide (low<=n)&&decide ((n:Int)<=high)
def q2T(f:Nat)(low high:Int):F:=fun c=>bet low high (cntFrom f c 0 24)
structure q6N(f:Nat)(low high:Int)(k:Nat)(ts:List T):Prop where
 len:ts.length=(jC f k).length+1
 is: ∀j t,ts[j]? =some t->t.Ok/\k<=t.lv/\ ∀c,t.ev c=bet low high (j+cntFrom f c k (24 - k))
theorem q1U(f:Nat):feats (f&&&16777215)=jC f 24:=by
 unfold feats jC;refine List.filter_congr fun i a=> ?_;rw [q1s f i (by simpa using a)]
def q3k(low high:Int)(n:Nat):List T:=(qO n).map fun j=>leaf (bet low high j)
theorem q5B(f:Nat)(d a:Int):q6N f d a 24 (q3k d a ((jC f 24).length+1)):=by
 refine⟨by simp [q3k],fun j t b=> ?_⟩;unfold q3k at b;rw [qA]at b;by_cases h:j<(jC f 24).length+1
 .rw [yT h]at b
  simp at b;subst b;exact⟨trivial,qt _,fun c=>rfl⟩
 .rw [zP (by simp;omega)]at b
  simp at b
theorem q2o{f:Nat}{b a:Int}(h:q6N f b a (k+1) ts)(m:k<24)(d:f.testBit k=false):q6N f b a k ts:=by
 refine⟨?_,fun j t e=> ?_⟩
 .rw [h.len,QK,d]
  simp
 .have⟨i,l,g⟩:=h.is j t e
  refine⟨i,by omega,fun c=> ?_⟩;rw [g,show 24 - k=(24 - (k+1))+1 from by omega,cntFrom,d];simp
def nextTZz(k:Nat)(ts:List T)(j:Nat):T:=T.mk k (ts.getD j (leaf false)) (ts.getD (j+1) (leaf false))
theorem q2p{f:Nat}{b a:Int}(h:q6N f b a (k+1) ts)(p:k<24)(i:f.testBit k=true):q6N f b a k ((qO (jC f (k+1)).length).map (nextTZz k ts)):=by
 have n:(jC f (k+1)).length=(jC f k).length+1:=by rw [QK,i];simp
 refine⟨by simp [n],fun j t d=> ?_⟩;have e:j<(jC f (k+1)).length:=by
  have:=(qm.1 d).1
  simpa using this
 rw [qA,yT e]at d;simp only [Option.map_some,zo]at d;subst d;have l:=h.len;have m:ts[j]? =some (ts[j]'(by omega)):=qi (by omega);have g:ts[j+1]? =some (ts[j+1]'(by omega)):=qi (by omega);have⟨s,u,o⟩:=h.is j _ m;have⟨r,v,q⟩:=h.is (j+1) _ g;unfold nextTZz;rw [zU,zU,m,g];simp only [Option.getD_some];refine⟨mk_ok p (by omega) (by omega) s r,mk_lv (by omega),fun c=> ?_⟩;rw [mk_ev,o,q,show 24 - k=(24 - (k+1))+1 from by omega,cntFrom,i]
 cases c k
 .simp
 .simp only [Bool.and_self,if_true]
  congr 1;omega
def vT(low high:Int)(n k:Nat):List Value:=(qO n).map fun j=>iv (if j<k/\bet low high j=true then 1 else 0)
theorem WG(b a:Int)(n:Nat):vT b a n 0=zk n (ve vp 0):=by
 apply Q9 (by simp [vT]);intro i c d;simp [vT,iv]
theorem q0i(b a:Int)(n:Nat)(M:List T):vT b a n n=(q3k b a n).map fun t=>iv (pl M t):=by
 apply Q9 (by simp [vT,q3k]);intro i c e;have d:i<n:=by simpa [vT]using c
 simp only [vT,q3k,List.getElem_map,q7C,pl_leaf,d,true_and]
 cases bet b a i<;>rfl
theorem q0h{b a:Int}(h:bet b a k=true):vT b a n (k+1)=(vT b a n k).set k (ve vp 1):=by
 apply Q9 (by simp [vT]);intro i c d;rw [List.getElem_set];simp only [vT,List.getElem_map,q7C];by_cases e:k=i
 .subst e
  rw [if_pos rfl,if_pos ⟨by omega,h⟩];rfl
 .rw [if_neg e]
  have:(i<k+1)↔(i<k):=by omega
  simp only [this]
theorem Us{b a:Int}(h:bet b a k=false):vT b a n (k+1)=vT b a n k:=by
 apply Q9 (by simp [vT]);intro i c d;simp only [vT,List.getElem_map,q7C];by_cases e:i=k
 .subst e
  simp [h]
 .have:(i<k+1)↔(i<k):=by omega
  simp only [this]
theorem JV(b a:Int)(n k:Nat):(vT b a n k).length=n:=by simp [vT]
theorem Xs(w:World)(n:Nat)(m:n<=1000): ∃a,(Instr.makeSlice 47 (ve vp (n:Int)) (ve vp (n:Int))).run qj w= .ok (vd w.heap.size n n) a/\
 a.ownsRow w.heap.size 3 1 (vd w.heap.size n n) n (zk n (ve vp 0))/\w.grownBy a none:=by
 have⟨k,d,b,c,f⟩:=info_parts q7p;have⟨j,h,g,i⟩:=run_make_full (P:=qj) w w.heap.size 47 3 k (ve vp 0) 1 yF d b c vp vp n (by rw [f];omega) (by unfold maxLen;omega) (qt _);refine⟨j,h,?_,i⟩;have l:(madeCells (qs vp 0).cells (n*1)).toList=zk n (ve vp 0):=by
  rw [Nat.mul_one];have e:(qs vp 0).cells= #[qs vp 0]:=by simp [Value.cells]
  rw [e,toList_madeCells_one]
 rw [l]at g;exact g
theorem QY(c i:Nat)(b:c<4294967296)(f:i<32):(bits .and vr ((c:Int)/2^i) 1==0)= !c.testBit i:=by
 have h:=gD c i b f;have d:c/2^i<4294967296:=Nat.lt_of_le_of_lt (Nat.div_le_self _ _) b;have a:=Go.Proofs.Gen.u32_and (c/2^i) 1 d (by decide);rw [Nat.and_one_is_mod]at a;have e:((c:Int)/2^i)=((c/2^i:Nat):Int):=by simp
 rw [e]at h⊢;rw [show((1:Int))=((1:Nat):Int)from rfl]at h⊢;rw [a]at h⊢;rw [←h]
 have:c/2^i%2=0∨c/2^i%2=1:=by omega
 rcases this with e|e<;>rw [e]<;>rfl
def wn(M:List T)(k:Nat)(ts:List T)(m j:Nat):List Value:=(qO m).map fun q=>iv (if q<j then pl M (nextTZz k ts q)else 0)
theorem WE(M:List T)(k:Nat)(ts:List T)(m:Nat):wn M k ts m 0=zk m (ve vp 0):=by
 apply Q9 (by simp [wn]);intro i a b;simp [wn,iv]
theorem WF(M:List T)(k:Nat)(ts:List T)(m j:Nat):wn M k ts m (j+1)=(wn M k ts m j).set j (iv (pl M (nextTZz k ts j))):=by
 apply Q9 (by simp [wn]);intro i a b;rw [List.getElem_set];simp only [wn,List.getElem_map,q7C];by_cases e:j=i
 .subst e
  rw [if_pos rfl,if_pos (by omega)]
 .rw [if_neg e]
  have:(i<j+1)↔(i<j):=by omega
  simp only [this]
theorem q0g(b: ∀q,q<j->In M (nextTZz k ts q))(i:Nat)(l h:T):wn (add M i l h) k ts m j=wn M k ts m j:=by
 refine ja fun q _=> ?_;by_cases e:q<j
 .rw [if_pos e,if_pos e]
  have⟨N,a⟩:=add_prefix M i l h;rw [a,pl_append (b q e)]
 .rw [if_neg e,if_neg e]
theorem q0f(M:List T)(k:Nat)(ts:List T)(m:Nat):wn M k ts m m=((qO m).map (nextTZz k ts)).map fun t=>iv (pl M t):=by
 unfold wn;rw [kX];refine ja fun q a=> ?_;rw [if_pos (by simpa using a)];rfl
theorem q61(c: ∀t∈ts,In M t)(i:Nat)(l h:T):(ts.map fun t=>iv (pl (add M i l h) t))=ts.map fun t=>iv (pl M t):=by
 refine ja fun t a=> ?_;have⟨N,b⟩:=add_prefix M i l h;rw [b,pl_append (c t a)]
theorem Ko{f:Nat}(hf:f<4294967296)(l d:Int)(w:World):Calls qj 149 #[ve vr f,ve vp l,ve vp d] w (jO w (q2T f l d)):=by
 have a1:bits .and vr (f:Int) 16777215=((f&&&16777215:Nat):Int):=Go.Proofs.Gen.u32_and f 16777215 hf (by decide);have l1:=Za f;have bv:=q1U f;have s:=ZJ f 24;obtain⟨n,hn⟩: ∃n,n=(jC f 24).length:=⟨_,rfl⟩;rw [<-hn]at s;have ho:=fun w=>G6 (x:=f&&&16777215) l1 w;rw [bv,<-hn]at ho;have HO:=q8 ho;have ca:=q8 hn;clear ho bv hn;go_enter Tryz.func149,Tryz.ntmps149;go_upto_region 3 with(first
  |(go_at_call 67;refine(xR _).mono ?_;rintro e V ⟨rfl,rfl⟩)
  |(go_at_call 203;refine(HO _).mono ?_;rintro e V ⟨rfl,n1⟩))
 clear a1;have U: ∀W,W=(((w.alloc (zK #[qw none 0 0,qs zD 0] 43)).alloc (Obj.map #[] 0)).alloc (zK #[qw none 0 0,Value.map (some (w.heap.size+1))] 194))->
  Near w W/\W.heap[w.heap.size]? =some (vk #[vd none 0 0,ve vp 0] 43 (0,0))/\W.heap.size=w.heap.size+3/\IsMaker W (w.heap.size+1+1) (fun b=>w.heap.size+1<=b/\b<w.heap.size+3) []:=by
  rintro W rfl;refine⟨(((Near.refl w).alloc _).alloc _).alloc _,?_,by simp,xF ?_ (kb:=w.heap.size+1) ?_ (by omega) (by omega)⟩
  all_goals
   repeat(first|exact heap_new_at (by simp;done)|refine(qD (by simp<;>omega)).trans ?_)
 have⟨k1,k2,k3,k4⟩:=U _ rfl;have HN:=q8 (k1.trans n1);have HR:=q8 (qE n1 k2);have HM:=q8 (k4.near n1);have cp:w.heap.size+3<=V.heap.size:=by
  have:=n1.size'
  rw [k3]at this;exact this
 clear U k1 k2 k3 k4 n1;have⟨w2,bk,a,a0⟩:=Xs V (n+1) (by omega);have e1:(((n+1:Nat):Int))=(n:Int)+1:=by omega
 rw [e1]at bk;have ab:=q8 a;have N2:Near V w2:=Kept.grown (Near.refl V) a0 (by intro k e;cases e);have bm:=q8 (HN.trans N2);have ax:=q8 (qE N2 HR);have av:=q8 (HM.near N2);have cx:V.heap.size<w2.heap.size:=(a.lt _ rfl).2;clear a a0 N2 e1;go_wp2_with fail
 go_loopw [10,23] (fun x i wr=> ∃k:Nat,k<=n+1/\i=ve vp k/\wr.ownsRow V.heap.size 3 1 (vd V.heap.size (n+1) (n+1)) (n+1) (vT l d (n+1) k)/\Kept (fun b=>b=V.heap.size) w2 wr) (fun _ i _=>n+1 - (intOf i).toNat)
 case atStart=>
  refine⟨0,qv _,rfl,?_,Kept.refl _ _⟩;rw [WG];exact ab
 case round=>
  obtain⟨k,hk,rfl,a,L⟩:=hrel;have A:=q8 a;have O:=q8 L;clear a L;by_cases P:k<n+1
  .have bj:(k:Int)<(n:Int)+1:=by omega
   by_cases a9:l<=k
   .by_cases b0:(k:Int)<=d
    .have C:bet l d k=true:=by simp [bet,a9,b0]
     have hv:=q0h (n:=n+1) C;have HV:=q8 hv;obtain⟨g,c,cq,e,hg,b1,-⟩:=q76 A (k:=k) (u:=(vT l d (n+1) k)[k]'(by rw [JV];exact P)) (qi (by rw [JV];exact P)) P
     cases e;have c0:=cell1 (o:=k) hg b1;have f0:=zQ hg k;clear hv C hg b1;go_wp2_with fail
     refine⟨⟨k+1,by omega,by go_num,?_,O.setCell (fun _=>rfl) _⟩,by simp [intOf];omega⟩;rw [HV.out];exact(A.stored k _).1
    .have C:bet l d k=false:=by simp [bet,b0]
     have HV:=q8 (Us (n:=n+1) C);clear C;go_wp2_with fail
     refine⟨⟨k+1,by omega,by go_num,?_,O⟩,by simp [intOf];omega⟩;rw [HV.out];exact A
   .have C:bet l d k=false:=by simp [bet,a9]
    have HV:=q8 (Us (n:=n+1) C);clear C;go_wp2_with fail
    refine⟨⟨k+1,by omega,by go_num,?_,O⟩,by simp [intOf];omega⟩;rw [HV.out];exact A
  .have a8:k=n+1:=by omega
   rw [a8]at A;have cz: ¬(k:Int)<(n:Int)+1:=by omega
   clear a8;have D:q2O (w.heap.size+1) wr (w.heap.size+1+1) (vd V.heap.size (n+1) (n+1)) (q3k l d (n+1)) []:=by
    refine⟨.nil,(av.of_kept O (fun b K h e=>by omega)).mono (fun b h=>⟨h.1,?_⟩),?_,?_⟩
    .simp only [zN,ne_eq,zo]
     omega
    .have:=A.out
     rw [q0i l d (n+1) []]at this;have hl:(q3k l d (n+1)).length=n+1:=by simp [q3k]
     rw [hl];exact Zv (base:=V.heap.size) this (by omega)
    .intro t ht
     obtain⟨j,_,rfl⟩:=yH.1 ht;trivial
   have HP:=q8 D;have bl:Hid (Near w wr):=Kept.mono (bm.kept.trans O) (fun b K h=>by omega);have bf:=q8 ((O.block _ (by omega) (by omega)).trans ax);have bx:=q8 (ca.out▸q5B f l d);have a6:w.heap.size+3<=wr.heap.size:=by
    have:=O.size
    omega
   clear D A O HN HR HM bm ax av ab;go_wp2_with fail
   go_loopw [9,11] (fun x i wr=> ∃(k:Nat)(r M:List T),k<=24/\i=ve vp ((k:Int) - 1)/\q6N f l d k r/\q2O (w.heap.size+1) wr (w.heap.size+1+1) x r M/\M.length<=25*(24 - k)/\Near w wr/\wr.heap[w.heap.size]? =some (vk #[vd none 0 0,ve vp 0] 43 (0,0))/\w.heap.size+3<=wr.heap.size) (fun _ i _=>(intOf i+1).toNat)
   case atStart=>
    exact⟨24,_,[],qt _,rfl,bx,HP,qv _,bl,bf,a6⟩
   case round=>
    clear bx HP bl bf a6;obtain⟨k,r,M,hk,rfl,bt,D,cv,hn,ae,bg⟩:=hrel;have H:=q8 bt;have B:=q8 D;have ah:=q8 hn;have aj:=q8 ae;clear bt D hn ae
    cases k with
    |zero=>
     have e0:((0:Nat):Int) - 1= -1:=rfl;rw [e0];have cw: ¬(0:Int)<= -1:=by omega
     have ay:r.length=1:=by rw [H.out.len];rfl
     have Q:r[0]? =some (r[0]'(by omega)):=qi (by omega);obtain⟨t,ht⟩: ∃t,t=r[0]'(by omega):=⟨_,rfl⟩;rw [<-ht]at Q;obtain⟨ok,-,be⟩:=H.is 0 t Q;have cg:=B.inn _ (qp Q);have a:=B.row;rw [ay]at a;obtain⟨g,xc,ap,z0,-⟩:=q5A a (k:=0) (u:=iv (pl M t)) (by rw [qA,Q];rfl) (by omega);subst ap;simp only [iv]at z0;have b7:=q8 be;clear a ay Q ht be e0;go_wp2_with (first
      |(go_at_call 69;refine(xh B.good (by omega) cg ok B.maker rfl).mono ?_;rintro e w3 ⟨v3,rfl,hd,K⟩;obtain⟨bo,bn,bc,rfl,-⟩:=hd.form;have b6:=q8 hd;have b4:=q8 K;have HE:=q8 (q1z K aj);have q0:=cell1 (o:=0) HE rfl;have q1:=cell1 (o:=1) HE rfl;have f0:=zQ HE 0;have f1:=zQ HE 1;clear hd K))
     refine qo (v:=vi #[vd bo bn bc,ve vp (pl (nodes t) t:Nat)]) (by simp [qC,Tryz.results149,go_sem,q0,q1]) rfl
      ⟨_,rfl,⟨t,xS b6 HE,fun c=> ?_⟩,((ah.trans (Near.of_below b4)).set (by show w.heap.size<=w.heap.size;omega) _).set (by show w.heap.size<=w.heap.size;omega) _⟩
     rw [b7.out,zz];rfl
    |succ p=>
     have e0:((p+1:Nat):Int) - 1=(p:Int):=by omega
     rw [e0];have bb:=QY f p hf (by omega);have HB:=q8 bb;clear bb e0;have J:p<24:=by omega
     have ck:(p:Int)<64:=by omega
     cases y:f.testBit p with
     |false=>
      have b5:(bits BinOp.and ug ((f:Int)/2^p) 1==0)=true:=by rw [HB.out,y];rfl
      have aq:=q8 y;clear y;go_wp2_with fail
      exact⟨⟨p,r,M,by omega,rfl,q2o H J aq,B,by omega,ah,aj,bg⟩,by simp [intOf]⟩
     |true=>
      have b5:(bits BinOp.and ug ((f:Int)/2^p) 1==0)=false:=by rw [HB.out,y];rfl
      have aq:=q8 y;clear y;have s:=H.len;obtain⟨m,hm⟩: ∃m,m=(jC f (p+1)).length:=⟨_,rfl⟩;rw [<-hm]at s;have cl:m<=p+1:=by rw [hm];exact ZJ f (p+1)
      have a:=B.row;rw [s]at a;obtain⟨g,xc,ap,-,c3⟩:=q5A a (k:=0) (u:=iv (pl M (r[0]'(by omega)))) (by rw [qA,qi (by omega)];rfl) (by omega);subst ap;have⟨w5,bk,I,af⟩:=Xs wr m (by omega);have N5:Near wr w5:=Kept.grown (Near.refl wr) af (by intro k e;cases e);have c5:wr.heap.size<w5.heap.size:=(I.lt _ rfl).2;have am:=q8 I;have an:=q8 a;have X:=q8 N5;have cb:=q8 hm;have bp:=q8 s;have cn:=(a.lt g rfl).1;clear a I af N5 hm s;go_wp2_with fail
      obtain⟨z,rfl⟩: ∃z:World,z=wr:=⟨_,rfl⟩;go_loopw [13,53] (fun x i wr=> ∃(j:Nat)(N:List T),j<=m/\i=ve vp (j:Nat)/\T.Good N/\IsMaker wr (w.heap.size+1+1) (fun b=>(w.heap.size+1<=b/\b≠g)/\b≠z.heap.size) N/\N.length<=M.length+j/\
       wr.ownsRow (w.heap.size+1) 3 1 (vd g (m+1) xc) (m+1) (r.map fun t=>iv (pl N t))/\wr.ownsRow z.heap.size 3 1 (vd z.heap.size m m) m (wn N p r m j)/\
       (∀t∈r,In N t)/\(∀q,q<j->In N (nextTZz p r q))/\Kept (fun b=>(w.heap.size+1<=b/\b≠g)) w5 wr) (fun _ i _=>m - (intOf i).toNat)
      case atStart=>
       refine⟨0,M,qv _,rfl,B.good,?_,by omega,?_,?_,B.inn,fun q hq=>absurd hq (Nat.not_lt_zero _),Kept.refl _ _⟩
       .refine(B.maker.mono_lt (R:=fun b=>(w.heap.size+1<=b/\b≠g)/\b≠z.heap.size) (fun b K h=>⟨⟨h.1,fun e=>h.2 (by rw [e];rfl)⟩,by omega⟩)).near X
       .exact owns_kept an X.kept (R:=fun _=>False) (fun _ _ x=>x)
       .rw [WE]
        exact am
      case round=>
       obtain⟨j,N,hj,rfl,gN,hm,cs,a3,b2,a2,bu,L⟩:=hrel;have a7:=q8 hm;have HX:=q8 a3;have HY:=q8 b2;have Z:=q8 a2;have al:=q8 bu;have O:=q8 L;have co:=L.size;clear hm a3 b2 a2 bu L;by_cases P:j<m
       .have bj:(j:Int)<m:=by omega
        have s:=bp.out;have t1:r[j]? =some (r[j]'(by omega)):=qi (by omega);have t2:r[j+1]? =some (r[j+1]'(by omega)):=qi (by omega);obtain⟨G,bi⟩: ∃t,t=r[j]'(by omega):=⟨_,rfl⟩;obtain⟨E,az⟩: ∃t,t=r[j+1]'(by omega):=⟨_,rfl⟩;rw [<-bi]at t1;rw [<-az]at t2;obtain⟨ol,vl,-⟩:=H.is _ _ t1;obtain⟨oh,vh,-⟩:=H.is _ _ t2;have bz:nextTZz p r j=T.mk p G E:=by
         unfold nextTZz;rw [zU,zU,t1,t2];rfl
        obtain⟨g1,c1,e1,z1,-⟩:=q5A HX (k:=j) (u:=iv (pl N G)) (by rw [qA,t1];rfl) (by omega);obtain⟨g2,c2,e2,z2,-⟩:=q5A HX (k:=j+1) (u:=iv (pl N E)) (by rw [qA,t2];rfl) (by omega)
        cases e1
        cases e2;have il:=Z _ (qp t1);have ih:=Z _ (qp t2);simp only [iv]at z1 z2;have aw:=q8 bz;have ct:(j:Int)+1<(m:Int)+1:=by omega
        have cr:(j:Int)<(m:Int)+1:=by omega
        have cm:0<=(j:Int)+1:=by omega
        clear bz t1 t2 bi az s;have bs: ∀w',Kept (fun b=>(w.heap.size+1<=b/\b≠g)) wr w'->w'.cell? (vw g j)=some (ve vp (pl N G:Nat))/\w'.cell? (vw g (j+1))=some (ve vp (pl N E:Nat)):=
         fun w' h=>⟨h.cell z1 (fun e=>e.2 rfl),h.cell z2 (fun e=>e.2 rfl)⟩
        have ao:=q8 bs;clear bs;have a5:w.heap.size+1<=z.heap.size/\z.heap.size≠g:=⟨by omega,by omega⟩;have c4:w.heap.size+3<=z.heap.size:=bg;have ce:zD.wrap ((j:Int)+1)=(j:Int)+1:=j9 _ (by omega);have b3:((j:Int)+1).toNat=j+1:=by omega
        go_wp2_with fail
        go_region_held3 (fun w'=>w'.cell? (vw g j)=some (ve vp (pl N G:Nat))/\w'.cell? (vw g (j+1))=some (ve vp (pl N E:Nat)))
         (first
           |exact ao _ (ar.setCell (fun _=>a5) _)
           |exact ao _ ar
           |exact ao _ (Kept.refl _ _).drew)
         (first
           |(go_at_call 68;refine(xf gN il ih J (by omega) (S:=fun b=>(w.heap.size+1<=b/\b≠g)/\b≠z.heap.size) (fun b K=>by have cu:wr.heap.size<=b:=K;exact⟨⟨by omega,by omega⟩,by omega⟩) (a7.near (Near.refl _).drew) rfl rfl rfl).mono ?_;rintro e w3 ⟨rfl,bh,Y⟩;have b8:=q8 bh;have cc:=q8 Y;have ar:=q8 ((Kept.refl (fun b=>(w.heap.size+1<=b/\b≠g)) wr).drew.trans (Kept.mono Y (fun _ _ h=>h.1)));have au:=owns_kept HY.drew Y (fun b K h=>h.2 (by cases K;rfl));have ci:=q8 au;obtain⟨gy,cy,cj,ey,ak,ba,-⟩:=q76 au (k:=j) (u:=(wn N p r m j)[j]'(by simp [wn];omega)) (qi (by simp [wn];omega)) P;cases ey;have y0:=cell1 (o:=j) ak ba;have yf:=zQ ak j;clear bh Y au ak ba))
        all_goals
         have ag:=owns_kept HX.drew cc (fun b K h=>h.1.2 (by cases K;rfl));have ad:(w3.setCell (vw z.heap.size j) (ve vp (pl (add N p G E) (T.mk p G E):Nat))).ownsRow z.heap.size 3 1 (vd z.heap.size m m) m (wn (add N p G E) p r m (j+1)):=by
          rw [WF,q0g al,aw.out];exact(ci.stored j _).1
         have aa:(w3.setCell (vw z.heap.size j) (ve vp (pl (add N p G E) (T.mk p G E):Nat))).ownsRow (w.heap.size+1) 3 1 (vd g (m+1) xc) (m+1) (r.map fun t=>iv (pl (add N p G E) t)):=by
          rw [q61 Z];exact ownsRow_setCell_other ag (by simp only [zN,ne_eq,zo];omega) _
         have br:=q8 ad;have bw:=q8 aa;clear ad ag aa ce b3;go_wp2_with fail
         have ch:=q8 (O.trans (Kept.setCell (p:=vw z.heap.size j) ar (fun _=>a5) (ve vp (pl (add N p G E) (T.mk p G E):Nat))));go_roundw
         case measure=>simp [intOf];omega
         case rel=>
         refine⟨j+1,add N p G E,by omega,by go_num,add_good gN il ih J (by omega) (by omega) ol oh,?_,?_,bw,br,?_,?_,ch⟩
         .exact b8.of_kept (R:=fun b=>b=z.heap.size) (Kept.setCell (S:=fun b=>b=z.heap.size) (p:=vw z.heap.size j) (Kept.refl _ w3) (fun _=>rfl) _) (fun b _ h=>h.2)
         .have:=add_len N p G E
          omega
         .intro t ht
          have⟨N',ai⟩:=add_prefix N p G E;rw [ai];exact(Z t ht).mono N'
         .intro q hq
          by_cases e:q=j
          .subst e
           rw [aw.out];exact add_in il
          .have⟨N',ai⟩:=add_prefix N p G E
           rw [ai];exact(al q (by omega)).mono N'
       .have b9:j=m:=by omega
        subst b9;have bd:q6N f l d p ((qO j).map (nextTZz p r)):=by
         have:=q2p H J aq
         rw [<-cb.out]at this;exact this
        have D:q2O (w.heap.size+1) wr (w.heap.size+1+1) (vd z.heap.size j j) ((qO j).map (nextTZz p r)) N:=by
         refine⟨gN,a7.mono (fun b h=>⟨h.1.1,?_⟩),?_,?_⟩
         .have:=h.2
          simp only [zN,ne_eq,zo];omega
         .have:=HY.out
          rw [q0f]at this;have hl:((qO j).map (nextTZz p r)).length=j:=by simp
          rw [hl];exact Zv this (by omega)
         .intro t ht
          obtain⟨q,hq,rfl⟩:=yH.1 ht;exact al q (by simpa using hq)
        have bq:=q8 D;have cf:=q8 bd;have a4:Near w wr:=Kept.mono ((ah.trans X).kept.trans O) (fun b K h=>by omega);have cd:=q8 a4;have A:=q8 ((O.block w.heap.size (by omega) (by omega)).trans (qE X aj));clear D bd a4;go_wp2_with fail
        exact⟨⟨p,_,N,by omega,rfl,cf,bq,by omega,cd,A,by omega⟩,by simp [intOf]⟩
theorem within_f{y:Value}{f g:F}(u:IsF w C f)(x:IsF w y g):Calls qj 23 #[C,y] w fun e a=>e=vm (vj (nowhere (fun c=>f c&& !g c)))/\Near w a:=by
 obtain⟨i,j,l,n,rfl⟩:=u.form;obtain⟨k,d,m,b,rfl⟩:=x.form;have q:Near w ((w.alloc (vk #[vd i j l,ve vp n] 43)).alloc (vk #[vd k d m,ve vp b] 43)):=((Near.refl w).alloc _).alloc _;have E:((w.alloc (vk #[vd i j l,ve vp n] 43)).alloc (vk #[vd k d m,ve vp b] 43)).heap[w.heap.size]? =some (vk #[vd i j l,ve vp n] 43 (0,0)):=by
  rw [qD (by simp),heap_new_at rfl]
 have D:((w.alloc (vk #[vd i j l,ve vp n] 43)).alloc (vk #[vd k d m,ve vp b] 43)).heap[w.heap.size+1]? =some (vk #[vd k d m,ve vp b] 43 (0,0)):=heap_new_at (by simp);have J:=q8 (u.near q);have M:=q8 (x.near q);have L:=q8 q;have o:=q8 E;have p:=q8 D;go_enter Tryz.func23,Tryz.ntmps23;go_upto_region 1 with fail
 generalize((w.alloc (vk #[vd i j l,ve vp n] 43)).alloc (vk #[vd k d m,ve vp b] 43))=W at*
 have s: ∀a,Near W a->a.cell? w.heap.size=some (vd i j l)/\a.cell? (vw w.heap.size 1)=some (ve vp n)/\a.cell? (vw (w.heap.size+1) 0)=some (vd k d m)/\a.cell? (vw (w.heap.size+1) 1)=some (ve vp b):=
  fun a h=>⟨cell1 (qE h o) rfl,cell1 (qE h o) rfl,cell1 (qE h p) rfl,cell1 (qE h p) rfl⟩
 go_region_held3 (fun a=>a.cell? w.heap.size=some (vd i j l)/\a.cell? (vw w.heap.size 1)=some (ve vp n)/\a.cell? (vw (w.heap.size+1) 0)=some (vd k d m)/\a.cell? (vw (w.heap.size+1) 1)=some (ve vp b))
  ((refine s _ ?_;first|exact B|exact t|exact r|exact(Near.refl _).drew))
  (first
    |(go_at_call 77;refine(not_f (M.near (Near.refl _).drew)).mono ?_;rintro e v1 ⟨x1,rfl,A,X⟩;have G:=q8 A;obtain⟨V,Z,R,U,rfl⟩:=A.form;have r:Near W v1:=(Near.refl _).drew.trans X)
    |(go_at_call 74;refine(and_f (J.near r) G).mono ?_;rintro e Y ⟨x2,rfl,z,P⟩;have Q:=q8 z;obtain⟨O,H,K,N,rfl⟩:=z.form;have t:Near W Y:=r.trans P)
    |(go_at_call 19;refine(empty_f Q).mono ?_;rintro e S ⟨rfl,I⟩;have B:Near W S:=t.trans I))
 all_goals
  go_wp2_with fail
  exact qo (v:=vj (nowhere (fun c=>f c&& !g c))) (by simp [qC,Tryz.results23,go_sem]) rfl ⟨rfl,L.trans B⟩
theorem q60{va vb:Value}{f g:F}(ha:IsF w va f)(hb:IsF w vb g):Calls qj 17 #[va,vb] w fun e w'=>e= .returned (.bool (!nowhere (fun c=>f c&&g c)))/\Near w w':=by
 obtain⟨a1,a2,a3,a4,rfl⟩:=ha.form;obtain⟨b1,b2,b3,b4,rfl⟩:=hb.form;have hN:Near w ((w.alloc (.cells #[.slice a1 a2 a3,.int .i64 a4] 43)).alloc (.cells #[.slice b1 b2 b3,.int .i64 b4] 43)):=((Near.refl w).alloc _).alloc _;have HA:=q8 (ha.near hN);have HB:=q8 (hb.near hN);have HN:=q8 hN;clear ha hb hN;go_enter Tryz.func17,Tryz.ntmps17;go_wp2_with (first
  |(go_at_call 74;refine(and_f HA.out HB.out).mono ?_;rintro e v2 ⟨x2,rfl,s2,m2⟩;have S2:=q8 s2;have M2:=q8 m2;obtain⟨x21,x22,x23,x24,rfl⟩:=s2.form;clear s2 m2)
  |(go_at_call 19;refine(empty_f S2.out).mono ?_;rintro e v3 ⟨rfl,m3⟩))
 exact qo (v:= .bool (!nowhere (fun c=>f c&&g c))) (by simp [qC,Tryz.results17,go_sem]) rfl ⟨rfl,(HN.out.trans M2.out).trans m3⟩
theorem U3(h:vO w v l)(C:l.length<=1000):Calls qj 39 #[v] w fun e x=>e=vm (vj (decide (je l)))/\Near w x:=by
 obtain⟨I,B,rfl,p⟩:=h;have u:=q8 p;clear p;go_enter Tryz.func39,Tryz.ntmps39;go_wp2_with fail
 go_loopw [3] (fun i wr=> ∃k:Nat,k<=l.length/\i=ve vp k/\(∀y∈l.take k,-2147483648<=y/\y<=2147483648)/\wr=w) (fun i _=>l.length - (intOf i).toNat)
 case atStart=>exact⟨0,qv _,rfl,by simp,rfl⟩
 case round=>
  obtain⟨k,D,rfl,n,rfl⟩:=hrel;have j:=q8 n;clear n;by_cases a:k<l.length
  .have m:(k:Int)<l.length:=by omega
   obtain⟨g,z,rfl,A⟩:=u k _ (qi a);have t:l.take (k+1)=l.take k++[l[k]]:=zM a;have q:l[k]∈l:=xJ a;have s:=q8 t;have r:=q8 q;clear t q;generalize l[k]=d at A s r;have b:Hid (¬(-2147483648<=d/\d<=2147483648)->decide (je l)=false):=fun h=>decide_eq_false fun p=>h (p.2 d r);by_cases G:d< -2147483648
   .go_wp2_with fail
    refine qo (v:=vj false) (by simp [qC,Tryz.results39,go_sem]) rfl ⟨?_,Near.refl _⟩;rw [b.out (by omega)]
   .by_cases E:2147483648<d
    .go_wp2_with fail
     refine qo (v:=vj false) (by simp [qC,Tryz.results39,go_sem]) rfl ⟨?_,Near.refl _⟩;rw [b.out (by omega)]
    .go_wp2_with fail
     refine⟨⟨k+1,a,by go_num,fun y f=> ?_,trivial⟩,by simp [intOf];omega⟩;rw [s.out]at f;rcases qK.1 f with f|f
     .exact j y f
     .rw [qN.1 f]
      omega
  .have m: ¬(k:Int)<l.length:=by omega
   have c:decide (je l)=decide ((l.length:Int)<=24):=by
    have h:=j.out;rw [zE (by omega)]at h;exact decide_eq_decide.2 ⟨fun h=>by have:=h.1;omega,fun H=>⟨by omega,h⟩⟩
   have o:=q8 c;clear c;go_wp2_with fail
   refine qo (v:=vj (decide ((l.length:Int)<=24))) (by simp [qC,Tryz.results39,go_sem]) rfl ⟨?_,Near.refl _⟩;rw [o.out]
end Go.Proofs.YtjcbmcnbdegpmaaGreatDoor
namespace Go.Proofs.Mod
open Go Go.Proofs.YtjcbmcnbdegpmaaGreatDoor
def toB(l:List UInt8):ByteArray:=⟨l.toArray⟩
def consHead(b:UInt8):List (List UInt8)->List (List UInt8)
 |[]=>[[b]]
 |x::l=>(b::x)::l
def cutAt(c:UInt8):List UInt8->List (List UInt8)
 |[]=>[[]]
 |b::l=>if b=c then []::cutAt c l else consHead b (cutAt c l)
def linesOf(s:List UInt8):List (List UInt8):=if(cutAt 10 s).getLast? =some []then(cutAt 10 s).dropLast else cutAt 10 s
def wordsOf(s:List UInt8):List ByteArray:=((cutAt 32 s).filter fun x=>decide (x≠[])).map toB
def decN:Nat->Nat->List UInt8
 |0,_=>[]
 |f+1,u=>if u<10 then [UInt8.ofNat (48+u)]else decN f (u/10)++[UInt8.ofNat (48+u%10)]
def yY(n:Int):List UInt8:=if n<0 then 45::decN 20 n.natAbs else decN 20 n.toNat
def numB(s:ByteArray):Option Int:=
 match Go.Lib.parseIntB 64 s.data.toList with
 | .ok v=>if yY v=s.data.toList then some v else none
 |_=>none
def wd(w:List ByteArray)(i:Nat):ByteArray:=w.getD i ⟨#[]⟩
def idxF(m:Mod)(s:ByteArray):Int:=idxN m.names s
def idxA(m:Mod)(s:ByteArray):Int:=idxN (m.atts.map Att.name) s
def noM:Mod:=⟨[],[],[],[],[]⟩
structure RS where
 m:Mod
 given:List (Int×Int)
def wRoot:ByteArray:= "root".toUTF8
def gB:ByteArray:= "mandatory".toUTF8
def Uq:ByteArray:= "optional".toUTF8
def Ur:ByteArray:= "member".toUTF8
def wGroup:ByteArray:= "group".toUTF8
def wAttr:ByteArray:= "attribute".toUTF8
def vF:ByteArray:= "value".toUTF8
def wReq:ByteArray:= "require".toUTF8
def WB:ByteArray:= "limit".toUTF8
def kindW(s:ByteArray):Nat:=if s=gB then 2 else if s=Uq then 3 else if s=Ur then 4 else 0
def relW(s:ByteArray):Nat:=if s= "<=".toUTF8 then 1 else if s= ">=".toUTF8 then 2 else if s= "=".toUTF8 then 3 else 0
def addsL(r:RS)(f:xM):Nat×RS:=
 if freshE r.m.names f.name=0 then(if r.m.feats.length=24 then(5,r)else(0,⟨⟨r.m.feats++[f],r.m.grps,r.m.atts,r.m.reqs,r.m.lims⟩,r.given⟩))else(freshE r.m.names f.name,r)
def rootL(r:RS)(w:List ByteArray):Nat×RS:=if w.length=2 then(if r.m.feats.length=0 then addsL r ⟨wd w 1,-1,1⟩else(10,r))else(4,r)
def childL(r:RS)(w:List ByteArray):Nat×RS:=
 if w.length=3 then(if r.m.feats.length=0 then(10,r)else if 0<=idxF r.m (wd w 1)then addsL r ⟨wd w 2,idxF r.m (wd w 1),kindW (wd w 0)⟩else(6,r))else(4,r)
def wu(m:Mod)(w:List ByteArray)(lo hi:Int):Grp:=⟨idxF m (wd w 1),lo,hi,(w.drop 4).map (idxF m)⟩
def groupL(r:RS)(w:List ByteArray):Nat×RS:=
 if 5<=w.length then
  match numB (wd w 2),numB (wd w 3)with
  |some lo,some hi=>
   if(decide (0<=idxF r.m (wd w 1))&& (w.drop 4).all fun s=>decide (0<=idxF r.m s))=true then
    (if grpE r.m r.m.grps.length (wu r.m w lo hi)=0 then(if r.m.grps.length=24 then(5,r)else(0,⟨⟨r.m.feats,r.m.grps++[wu r.m w lo hi],r.m.atts,r.m.reqs,r.m.lims⟩,r.given⟩))else(grpE r.m r.m.grps.length (wu r.m w lo hi),r))
   else(6,r)
  |_,_=>(4,r)
 else(4,r)
def addedL(r:RS)(w:List ByteArray):Nat×RS:=
 if w.length=2 then
  (if freshE (r.m.atts.map Att.name) (wd w 1)=0 then(if r.m.atts.length=8 then(5,r)else(0,⟨⟨r.m.feats,r.m.grps,r.m.atts++[⟨wd w 1,[]⟩],r.m.reqs,r.m.lims⟩,r.given⟩))else(freshE (r.m.atts.map Att.name) (wd w 1),r))
 else(4,r)
def setV(l:List Int)(k:Nat)(x:Int):List Int:=(l++zk (k+1 - l.length) 0).set k x
def q0A(l:List Att)(a k:Nat)(x:Int):List Att:=l.modify a fun t=>⟨t.name,setV t.values k x⟩
def valueL(r:RS)(w:List ByteArray):Nat×RS:=
 if w.length=4 then
  match numB (wd w 3)with
  |some x=>
   if 0<=idxA r.m (wd w 1)/\0<=idxF r.m (wd w 2)then
    (if(idxA r.m (wd w 1),idxF r.m (wd w 2))∈r.given then(7,r)else if costB x=true then(0,⟨⟨r.m.feats,r.m.grps,q0A r.m.atts (idxA r.m (wd w 1)).toNat (idxF r.m (wd w 2)).toNat x,r.m.reqs,r.m.lims⟩,(idxA r.m (wd w 1),idxF r.m (wd w 2))::r.given⟩)else(2,r))
   else(6,r)
  |none=>(4,r)
 else(4,r)
def requireL(r:RS)(rest:List UInt8):Nat×RS:=
 match parseF (12*rest.length+24) rest with
 |some x=>if reqE r.m.names x=0 then(if r.m.reqs.length=64 then(5,r)else(0,⟨⟨r.m.feats,r.m.grps,r.m.atts,r.m.reqs++[x],r.m.lims⟩,r.given⟩))else(reqE r.m.names x,r)
 |none=>(4,r)
def limitL(r:RS)(w:List ByteArray):Nat×RS:=
 if w.length=4 then
  match numB (wd w 3)with
  |some x=>
   if relW (wd w 2)=0 then(4,r)else if 0<=idxA r.m (wd w 1)then(if r.m.lims.length=16 then(5,r)else(0,⟨⟨r.m.feats,r.m.grps,r.m.atts,r.m.reqs,r.m.lims++[⟨idxA r.m (wd w 1),relW (wd w 2),x⟩]⟩,r.given⟩))else(6,r)
  |none=>(4,r)
 else(4,r)
def actL(r:RS)(w:List ByteArray)(rest:List UInt8):Nat×RS:=
 if wd w 0=wRoot then rootL r w else if wd w 0=gB\/wd w 0=Uq\/wd w 0=Ur then childL r w else if wd w 0=wGroup then groupL r w else if wd w 0=wAttr then addedL r w
 else if wd w 0=vF then valueL r w else if wd w 0=wReq then requireL r rest else if wd w 0=WB then limitL r w else(4,r)
def lineL(r:RS)(l:List UInt8):Nat×RS:=
 if wJ l 32=[]\/(wJ l 32).head? =some 35 then(0,r)
 else actL r (wordsOf (wJ l 32)) (Go.Lib.trimPrefix (wJ l 32) (wd (wordsOf (wJ l 32)) 0).data.toList)
def readL(r:RS):Nat->List (List UInt8)->Nat×Nat×RS
 |_,[]=>(0,0,r)
 |i,l::ls=>if(lineL r l).1=0 then readL (lineL r l).2 (i+1) ls else((lineL r l).1,i+1,r)
def padM(m:Mod):Mod:=⟨m.feats,m.grps,m.atts.map fun a=>⟨a.name,a.values++zk (m.feats.length - a.values.length) 0⟩,m.reqs,m.lims⟩
def parseM(s:List UInt8):Nat×Nat×Mod:=
 if 4194304<s.length then(5,0,noM)else
 if(readL ⟨noM,[]⟩ 0 (linesOf s)).1=0 then
  (if chk (padM (readL ⟨noM,[]⟩ 0 (linesOf s)).2.2.m)=0 then(0,0,padM (readL ⟨noM,[]⟩ 0 (linesOf s)).2.2.m)else(2,(linesOf s).length+1,noM))
 else((readL ⟨noM,[]⟩ 0 (linesOf s)).1,(readL ⟨noM,[]⟩ 0 (linesOf s)).2.1,noM)
end Go.Proofs.Mod
namespace Go.Proofs.YtjcbmcnbdegpmaaGreatDoor
open Go Go.RowKit Go.Proofs.Gen Go.Proofs.Mod
variable{m:Mod}
def q2S(m:Mod)(i:Nat):Nat:=((m.feats[i]?.map xM.parent).getD 0).toNat
def Jg(l:List Int):Nat:=l.foldl (fun a k=>a|||2^k.toNat) 0
def q0D(m:Mod)(r:Nat×Nat):F:=
 match r.1 with
 |1=>fun c=>c 0
 |2=>fun c=> !c r.2||c (q2S m r.2)
 |3=>fun c=> !c (q2S m r.2)||c r.2
 |4=>match m.grps[r.2]? with|some g=>fun c=> !c g.parent.toNat||q2T (Jg g.members) g.low g.members.length c|none=>fun _=>false
 |5=>match m.grps[r.2]? with|some g=>fun c=> !c g.parent.toNat||q2T (Jg g.members) 0 g.high c|none=>fun _=>false
 |6=>match m.reqs[r.2]? with|some x=>fun c=>truth m.names c x|none=>fun _=>false
 |_=>match m.lims[r.2]? with|some l=>linF ((m.atts[l.att.toNat]?.map Att.values).getD []) l.rel l.bound|none=>fun _=>false
def rulesF(m:Mod):List F:=(rulesOf m).map (q0D m)
structure vC(m:Mod):Prop where
 n0:0<m.feats.length
 n24:m.feats.length<=24
 feat: ∀(i:Nat) f,m.feats[i]? =some f->nameB f.name=true/\hasN (m.names.take i) f.name=false/\kindB i f=true
 g24:m.grps.length<=24
 grp: ∀(i:Nat) g,m.grps[i]? =some g->vL m.feats.length g=true/\vJ m.feats g.parent (takenTo m.grps i) g.members=true
 lone: ∀(i:Nat) f,m.feats[i]? =some f->loneE m.grps i f=0
 a8:m.atts.length<=8
 att: ∀(i:Nat) a,m.atts[i]? =some a->a.values.length=m.feats.length/\a.values.all costB=true
 r64:m.reqs.length<=64
 req: ∀(i:Nat) x,m.reqs[i]? =some x->validB x=true/\(usedL x).all (hasN m.names)=true
 l16:m.lims.length<=16
 lim: ∀(i:Nat) l,m.lims[i]? =some l->Qq m.atts.length l=true
theorem wZ: ∀{l:List Nat},firstE l=0-> ∀e∈l,e=0
 |[],_,x,a=>by cases a
 |e::l,h,x,a=>by
  unfold firstE at h;split at h
  .rename_i b
   rcases qI.1 a with rfl|a
   .exact b
   .exact wZ h x a
  .contradiction
theorem kz{α:Type}{most:Nat}{g:Nat->α->Nat}{l:List α}(h:eachE most g l=0):l.length<=most/\ ∀(j:Nat) y,l[j]? =some y->g j y=0:=by
 unfold eachE at h;split at h
 .cases h
 .rename_i b
  exact⟨by omega,fun j y a=>by have:=ud h j y a;rwa [zz]at this⟩
theorem wY{l:List ByteArray}{s:ByteArray}(h:freshE l s=0):nameB s=true/\hasN l s=false:=by
 unfold freshE at h;split at h
 .rename_i a
  split at h
  .cases h
  .rename_i b
   exact⟨a,by simpa using b⟩
 .cases h
theorem gE{b:Bool}{n:Nat}(a:n≠0)(h:(if b=true then 0 else n)=0):b=true:=by
 split at h
 .rename_i c;exact c
 .exact absurd h a
theorem jm(h:chk m=0):vC m:=by
 unfold chk at h;split at h
 .cases h
 .rename_i A
  have b:=wZ h;have⟨o,z⟩:=kz (b _ (by simp:eachE 24 (featE m.names) m.feats∈_));have⟨p,q⟩:=kz (b _ (by simp:eachE 24 (grpE m) m.grps∈_));have t:=ud (b _ (by simp:eachFrom (loneE m.grps) 0 m.feats∈_));have⟨j,s⟩:=kz (b _ (by simp:eachE 8 (attE m) m.atts∈_));have⟨d,w⟩:=kz (b _ (by simp:eachE 64 (fun _=>reqE m.names) m.reqs∈_));have⟨v,k⟩:=kz (b _ (by simp:eachE 16 (fun _ l=>if Qq m.atts.length l=true then 0 else 2) m.lims∈_));refine⟨by omega,o,fun i f c=> ?_,p,fun i g u=> ?_,fun i f c=> ?_,j,fun i a n=> ?_,d,fun i x y=> ?_,v,fun i l e=>gE (by decide) (k i l e)⟩
  .have:=z i f c
   unfold featE at this;split at this
   .rename_i c
    exact⟨(wY c).1,(wY c).2,gE (by decide) this⟩
   .contradiction
  .have:=gE (by decide) (q i g u)
   rw [qy]at this;exact this
  .have:=t i f c
   rwa [zz]at this
  .have:=s i a n
   unfold attE at this;split at this
   .have:=gE (by decide) this
    rw [qy,decide_eq_true_eq]at this;exact this
   .contradiction
  .have:=w i x y
   unfold reqE at this;split at this
   .rename_i r
    exact⟨r,gE (by decide) this⟩
   .cases this
theorem gS{fs:List xM}{p:Int}: ∀{l taken:List Int},vJ fs p taken l=true-> ∀k∈l,0<=k/\ ∃f,fs[k.toNat]? =some f/\f.kind=4/\f.parent=p
 |k::l,taken,h,x,c=>by
  have h:(q3H fs p taken k&&vJ fs p (taken++[k]) l)=true:=h;rw [qy]at h;rcases qI.1 c with rfl|c
  .have b:=h.1
   unfold q3H at b;simp only [qy,decide_eq_true_eq]at b;obtain⟨⟨d,a⟩,-⟩:=b;refine⟨d,?_⟩;split at a
   .rename_i f e
    simp only [qy,decide_eq_true_eq]at a;exact⟨f,e,a.1,a.2⟩
   .cases a
  .exact gS h.2 x c
def q2K(m:Mod)(r:Nat×Nat):Prop:=
 r=(1,0)\/(∃i f,r=(2,i)/\0<i/\m.feats[i]? =some f)\/(∃i f,r=(3,i)/\0<i/\m.feats[i]? =some f)\/(∃i g,r=(4,i)/\m.grps[i]? =some g)\/(∃i g,r=(5,i)/\m.grps[i]? =some g)\/(∃i x,r=(6,i)/\m.reqs[i]? =some x)\/ ∃i l,r=(7,i)/\m.lims[i]? =some l
theorem rulesOf_mem{r:Nat×Nat}(h:r∈rulesOf m):q2K m r:=by
 unfold rulesOf at h;rcases qI.1 h with rfl|h
 .exact vu rfl
 .simp only [qK,List.mem_flatMap,yH,yd]at h
  rcases h with((⟨i,a,h⟩|⟨i,a,h⟩)|⟨i,a,rfl⟩)|⟨i,a,rfl⟩
  .have b:m.feats[i+1]? =some m.feats[i+1]:=qi (by omega)
   rcases qI.1 h with rfl|h
   .exact vv (vu ⟨_,_,rfl,by omega,b⟩)
   .split at h
    .simp only [qN]at h
     subst h;exact vv (vv (vu ⟨_,_,rfl,by omega,b⟩))
    .cases h
  .have b:m.grps[i]? =some m.grps[i]:=qi a
   simp only [qI,zh,or_false]at h;rcases h with rfl|rfl
   .exact vv (vv (vv (vu ⟨_,_,rfl,b⟩)))
   .exact vv (vv (vv (vv (vu ⟨_,_,rfl,b⟩))))
  .exact vv (vv (vv (vv (vv (vu ⟨_,_,rfl,qi a⟩)))))
  .exact vv (vv (vv (vv (vv (vv ⟨_,_,rfl,qi a⟩)))))
theorem uS(a:List ByteArray)(c:Nat->Bool): ∀l:List Ex,Uw a c l=l.map (truth a c)
 |[]=>rfl
 |e::l=>by rw [Uw,uS a c l];rfl
end Go.Proofs.YtjcbmcnbdegpmaaGreatDoor
namespace Go.Proofs.YtjcbmcnbdegpmaaGreatDoor
open Go Go.RowKit Go.Proofs.Gen Go.Proofs.Bdd Go.Proofs.Bdd.T
variable{b:Nat}{p q:Value}{w:World}
theorem q6Y(i:Nat)(h:i<24)(w:World):Calls qj 201 #[ve vp i] w fun e a=> ∃v,e=vm (.tuple #[v,ve vp 0])/\IsF a v (fun c=>c i)/\Near w a:=
 (q6X i h w).mono fun _ _ ⟨v,b,d,f⟩=>⟨v,b,⟨_,d,fun c=>by cases g:c i<;>simp [T.ev,g]⟩,f⟩
theorem ym(h:w.heap[b]? =some (vk #[p,q] 43 (0,0))):w.cell? b=some p/\w.cell? (vw b 1)=some q/\w.frozen? b=false/\w.frozen? (vw b 1)=false:=
 ⟨cell1 h rfl,cell1 h rfl,zQ h 0,zQ h 1⟩
theorem yE(h:w.heap[b]? =some (vk #[p,q] 43 (0,0)))(x y:Value):((w.setCell b x).setCell (vw b 1) y).cell? b=some x/\((w.setCell b x).setCell (vw b 1) y).cell? (vw b 1)=some y:=by
 have a:=qz (qz h 0 x) 1 y;simp only [qb,qh,qd]at a;exact⟨cell1 a rfl,cell1 a rfl⟩
theorem yN{w':World}{x y:Value}{f:F}(c:Near w w')(a:w.heap.size<=b)(h:w'.heap[b]? =some (vk #[p,q] 43 (0,0)))(d:IsF w' (vi #[x,y]) f):jO w f (vm (vi #[x,y])) ((w'.setCell b x).setCell (vw b 1) y):=
 ⟨_,rfl,yJ d h,(c.set a _).set a _⟩
theorem hasM_calls(i:Nat)(h:i<24)(w:World):Calls qj 147 #[ve vp i] w (jO w (fun c=>c i)):=by
 have q:=q8 (fun r=>q6Y i h r);go_enter Tryz.func147,Tryz.ntmps147;go_wp2_with (go_at_call 201;refine(q _).mono ?_;rintro e n ⟨A,rfl,j,o⟩;obtain⟨b,d,a,f,rfl⟩:=j.form;have l:=o.alloc (vk #[vd b d a,ve vp f] 43);have p:=q8 (j.near ((Near.refl n).alloc (vk #[vd b d a,ve vp f] 43)));have m:=q8 (((Near.refl w).alloc _).trans l);have k:=qE l (heap_new_at rfl);have g:=q8 k;have⟨z,y,u,x⟩:=ym k)
 have⟨t,s⟩:=yE g (vd b d a) (ve vp f);exact qo (v:=vi #[vd b d a,ve vp f]) (by simp [qC,Tryz.results147,go_sem,t,s]) rfl (yN m (qt _) g p)
end Go.Proofs.YtjcbmcnbdegpmaaGreatDoor
namespace Go.Proofs.YtjcbmcnbdegpmaaGreatDoor
open Go Go.RowKit Go.Proofs.Gen Go.Proofs.Mod
def kidsF(names:List ByteArray)(kd:List Ex):List F:=kd.map fun k c=>truth names c k
theorem Gn(a:List ByteArray){b:List Ex}{k:Nat}{x:Ex}(h:b[k]? =some x):kidsF a (b.take (k+1))=kidsF a (b.take k)++[fun c=>truth a c x]:=by
 unfold kidsF;rw [List.take_add_one,h];simp
theorem q30(a:List ByteArray)(op:Nat)(b:ByteArray)(d:List Ex)(c:Nat->Bool):truth a c (.mk op b d)=wN a c op b ((kidsF a d).map fun f=>f c):=by
 rw [truth,uS];unfold kidsF;rw [kX];rfl
end Go.Proofs.YtjcbmcnbdegpmaaGreatDoor
namespace Go.Proofs.YtjcbmcnbdegpmaaGreatDoor
open Go.ChangeMaps Go.ChangeShapes Go.WideShapes Go.ChangeAt Go.RowKit Go.Deep Go.Proofs.Gen Go.Proofs.Mod
def RdAttW(S:Nat->Prop)(w:World)(vs:List Value)(x:Att):Prop:= ∃v,vs=[.string x.name,v]/\RdL S 1 RdI w v x.values/\WfS v
theorem RdL.weak{S:Nat->Prop}{w:World}{v:Value}{l:List Att}(h:RdL S 2 (RdAttW S) w v l):RdL S 2 (RdAtt S) w v l:=
 h.kept (Kept.refl (fun _=>False) w) (fun _ _ h=>h) (fun _ h=>h) fun _ _ h=>let⟨v,e,h,_⟩:=h;⟨v,e,h⟩
def WfM(S:Nat->Prop)(w:World)(v:Value)(m:Mod):Prop:= ∃a b c d e,v= .agg #[a,b,c,d,e]/\RdL S 2 (RdAttW S) w c m.atts/\WfS e
theorem Uo{k:IntKind}{n:Int}(h:(Lit.int k n).wf=true):k.min<=n/\n<=k.max:=by
 have a:(decide (k.min<=n)&&decide (n<=k.max))=true:=h;rw [qy]at a;exact⟨of_decide_eq_true a.1,of_decide_eq_true a.2⟩
theorem q4X(b a i:Nat):(⟨b,a,none⟩:Addr).add i=⟨b,a+i,none⟩:=by
 unfold Addr.add;by_cases h:i=0<;>simp [h]
instance:Inhabited Ex:=⟨.mk 0 yi []⟩
instance:Inhabited xM:=⟨⟨yi,0,0⟩⟩
instance:Inhabited Grp:=⟨⟨0,0,0,[]⟩⟩
instance:Inhabited Att:=⟨⟨yi,[]⟩⟩
instance:Inhabited Lim:=⟨⟨0,0,0⟩⟩
def i64R(n:Int):Prop:= -9223372036854775808<=n/\n<=9223372036854775807
structure Q8(m:Mod):Prop where
 lens:m.feats.length<=maxLen/\m.grps.length<=maxLen/\m.atts.length<=maxLen/\m.reqs.length<=maxLen/\m.lims.length<=maxLen
 feats: ∀f∈m.feats,f.name.size<=maxLen/\i64R f.parent/\f.kind<256
 grps: ∀g∈m.grps,i64R g.parent/\i64R g.low/\i64R g.high/\g.members.length<=maxLen/\ ∀k∈g.members,i64R k
 atts: ∀a∈m.atts,a.name.size<=maxLen/\a.values.length<=maxLen/\ ∀k∈a.values,i64R k
 lims: ∀l∈m.lims,i64R l.att/\l.rel<256/\i64R l.bound
section
variable {H:Type}{enc:TypeId×Value->H}{w:World}{base:Nat}{spare:Nat->Bool}{held:Bool}
theorem xd{t:TypeId}{fs:Array Field}{a:Nat}{cs:List Value}{x:DataW H×List kg}(l:qj.underlying t=some (.struct fs))(d:oneCellFields qj fs=true)(p:qj.cellsOf t=fs.size)
 (h:yK enc qj w base spare held a t cs=some x):cs.length=fs.size/\ ∃n,n<a/\ ∀(i:Nat)(f:Field),fs[i]? =some f-> ∃v y,cs[i]? =some v/\yK enc qj w base spare held n f.type [v]=some y:=by
 have⟨q,n,s,_,c,k,o⟩:=DataW.trod_struct l h;refine⟨c.trans p,n,by omega,fun i f e=> ?_⟩;have⟨j,r⟩:=hone_of d i f e;have m:i<fs.size:=(qk.1 e).1;have b:i<cs.length:=by omega
 have g:=o i f e;rw [j,r,take1_drop cs i undef b,qi (by omega)]at g;refine⟨cs[i],q[i]'(by omega),qi b,?_⟩;rw [<-g,zU,qi b];rfl
theorem kP{α:Type}[Inhabited α] {R:World->List Value->α->Prop}(Q:α->Prop){t e:TypeId}{k fuel:Nat}{v:Value}{x:DataW H×List kg}(ht:qj.underlying t=some (.slice e))(hk:qj.cellsOf e=k)(hk0:0<k)
 (h:yK enc qj w base spare held fuel t [v]=some x) (hel: ∀n cs y,n<fuel->yK enc qj w base spare held n e cs=some y-> ∃d,R w cs d/\Q d):
 ∃l:List α,RdL (fun g=>g<w.heap.size) k R w v l/\WfS v/\l.length<=maxLen/\ ∀x∈l,Q x:=by
 rcases DataW.trod_slice ht h with⟨hcs,_⟩|⟨a,len,cap,elems,rest,n,hn,hcs,_,hb,hl,hm,hlen,hE,-⟩
 .simp at hcs
  subst hcs;exact⟨[],⟨none,0,rfl,fun i x hx=>by simp at hx⟩,fun ao n c e=>by cases e;exact⟨qt _,fun _=>rfl⟩,qv _,fun x hx=>by cases hx⟩
 .simp at hcs
  subst hcs;rw [hk]at hE;obtain⟨f,hf⟩:=choose_lt (α:=List Value×α) (n:=len) (p:=fun i d=>w.cells? base (a.add (i*k)) k=some d.1/\R w d.1 d.2/\Q d.2) (fun i hi=>by
   have h1:=hE i hi;rw [qi (by omega)]at h1;obtain⟨cs',h2,h3⟩:=Option.bind_eq_some_iff.1 h1;obtain⟨d,hd⟩:=hel n cs' _ (by omega) h3;exact⟨(cs',d),h2,hd⟩)
  refine⟨(qO len).map fun i=>(f i).2,⟨some a,cap,by simp,fun i x hx=> ?_⟩,fun ao n' c e=>by cases e;exact⟨hl,fun e=>by cases e⟩,by simp;omega,fun x hx=>by
   obtain⟨i,hi,rfl⟩:=yH.1 hx;exact(hf i (yd.1 hi)).2.2⟩
  have hil:i<len:=by
   have:=(qm.1 hx).1
   simpa using this
  have hxe:x=(f i).2:=by
   rw [qA,yT hil]at hx;simpa using hx.symm
  subst hxe;obtain⟨_,hcl,hc⟩:=World.cells?_some (hf i hil).1;obtain⟨b,off,spot⟩:=a;have hspot:spot=none:=by
   obtain⟨_,hcl0,hc'⟩:=World.cells?_some (hf 0 (by omega)).1;have h0:=hc' 0 hk0;rw [qi (by omega)]at h0
   have:=World.cell?_spot h0
   simpa [Addr.add]using this
  subst hspot;have hcell: ∀(j:Nat) u,(f i).1[j]? =some u->w.cell? ⟨b,off+i*k+j,none⟩=some u:=fun j u hj=>by
   have hjk:j<k:=by have:=(qm.1 hj).1;omega
   have:=hc j hjk
   rw [q4X,q4X]at this;exact this.trans hj
  have hb:b<w.heap.size:=by
   have h0:=hcell 0 _ (qi (by omega));exact World.block_lt_of_cell? _ _ h0
  exact⟨b,off,_,rfl,hb,hcell,(hf i hil).2.1⟩
theorem Z6{fuel:Nat}{t:TypeId}{k:IntKind}{v:Value}{x:DataW H×List kg}(ht:qj.underlying t=some (.int k))(h:yK enc qj w base spare held fuel t [v]=some x): ∃n:Int,v= .int k n/\k.min<=n/\n<=k.max:=by
 obtain⟨n,hn,_,hw⟩:=DataW.trod_int ht h;simp at hn;exact⟨n,hn,Uo hw⟩
theorem KI{a:Nat}{v:Value}{x:DataW H×List kg}(h:yK enc qj w base spare held a 5 [v]=some x): ∃n:Nat,v=ve vq n/\n<256:=by
 obtain⟨n,rfl,c,b⟩:=Z6 Tryz.underlying5 h;have d:(0:Int)<=n:=c;have e:n<=(255:Int):=b;obtain⟨m,rfl⟩: ∃m:Nat,n=m:=⟨n.toNat,by omega⟩;exact⟨m,rfl,by omega⟩
theorem YY{a:Nat}{v:Value}{x:DataW H×List kg}(h:yK enc qj w base spare held a 9 [v]=some x): ∃s:ByteArray,v=vf s/\s.size<=maxLen:=by
 have⟨s,b,_,c⟩:=DataW.trod_string Tryz.underlying9 h;simp at b;exact⟨s,b,c⟩
theorem q6u: ∀(a:Nat)(cs:List Value)(x:DataW H×List kg),yK enc qj w base spare held a 84 cs=some x-> ∃d:Ex,RdEx (fun g=>g<w.heap.size) w cs d:=by
 intro a;induction a using Nat.strongRecOn with
 |ind a t=>
  intro cs x h;have⟨i,n,J,e⟩:=xd Tryz.underlying84 (by kernel_rfl) (by kernel_rfl) h;match cs,i with
  |[c0,G,C],_=>
   have⟨I,E,o,r⟩:=e 0 _ rfl;have⟨L,D,j,q⟩:=e 1 _ rfl;have⟨K,A,v,p⟩:=e 2 _ rfl
   cases o;cases j;cases v;obtain⟨u,rfl,-⟩:=KI r;obtain⟨s,rfl,-⟩:=YY q;obtain⟨b,l,-⟩:=kP (α:=Ex) (R:=RdEx fun g=>g<w.heap.size) (fun _=>True) (k:=3) JQ (by kernel_rfl) (by decide) p (fun m c y B f=>let⟨d,z⟩:=t m (by omega) c y f;⟨d,z,trivial⟩);exact⟨.mk u s b,RdEx.of l⟩
theorem uY{a:Nat}{v:Value}{x:DataW H×List kg}(h:yK enc qj w base spare held a 3 [v]=some x): ∃n:Int,v=ve vp n/\i64R n:=by
 have⟨n,e,c,b⟩:=Z6 qP h;exact⟨n,e,c,b⟩
theorem UP{a:Nat}{v:Value}{x:DataW H×List kg}(h:yK enc qj w base spare held a 2 [v]=some x): ∃n:Int,v=ve vp n/\i64R n:=by
 have⟨n,e,c,b⟩:=Z6 Kx h;exact⟨n,e,c,b⟩
theorem q1V{a:Nat}{cs:List Value}{x:DataW H×List kg}(h:yK enc qj w base spare held a 76 cs=some x): ∃d:xM,RdFeat w cs d/\d.name.size<=maxLen/\i64R d.parent/\d.kind<256:=by
 have⟨f,n,A,b⟩:=xd Tryz.underlying76 (by kernel_rfl) (by kernel_rfl) h;match cs,f with
 |[c0,B,v],_=>
  have⟨s,z,m,e⟩:=b 0 _ rfl;have⟨u,y,i,c⟩:=b 1 _ rfl;have⟨C,t,q,o⟩:=b 2 _ rfl
  cases m;cases i;cases q;obtain⟨g,rfl,l⟩:=YY e;obtain⟨p,rfl,r⟩:=uY c;obtain⟨k,rfl,j⟩:=KI o;exact⟨⟨g,p,k⟩,rfl,l,r,j⟩
theorem q3L{c:Nat}{cs:List Value}{x:DataW H×List kg}(h:yK enc qj w base spare held c 89 cs=some x): ∃d:Lim,RdLim w cs d/\i64R d.att/\d.rel<256/\i64R d.bound:=by
 have⟨j,n,A,e⟩:=xd Tryz.underlying89 (by kernel_rfl) (by kernel_rfl) h;match cs,j with
 |[c0,B,v],_=>
  have⟨s,z,m,i⟩:=e 0 _ rfl;have⟨u,y,l,f⟩:=e 1 _ rfl;have⟨C,t,p,o⟩:=e 2 _ rfl
  cases m;cases l;cases p;obtain⟨a,rfl,q⟩:=uY i;obtain⟨r,rfl,g⟩:=KI f;obtain⟨b,rfl,k⟩:=UP o;exact⟨⟨a,r,b⟩,rfl,q,g,k⟩
theorem q3T{b:Nat}{cs:List Value}{x:DataW H×List kg}(h:yK enc qj w base spare held b 78 cs=some x):
 ∃d:Grp,RdGrp (fun g=>g<w.heap.size) w cs d/\i64R d.parent/\i64R d.low/\i64R d.high/\d.members.length<=maxLen/\ ∀k∈d.members,i64R k:=by
 have⟨q,n,Y,e⟩:=xd Tryz.underlying78 (by kernel_rfl) (by kernel_rfl) h;match cs,q with
 |[c0,U,O,P],_=>
  have⟨V,S,u,G⟩:=e 0 _ rfl;have⟨v1,Q,s,D⟩:=e 1 _ rfl;have⟨Z,N,K,v⟩:=e 2 _ rfl;have⟨W,X,o,A⟩:=e 3 _ rfl
  cases u;cases s;cases K;cases o;obtain⟨p,rfl,L⟩:=uY G;obtain⟨M,rfl,i⟩:=uY D;obtain⟨I,rfl,f⟩:=uY v;have⟨r,E,J,t,C⟩:=kP (α:=Int) (R:=RdI) i64R (k:=1) yF (by kernel_rfl) (by decide) A (fun m a y _ l=>by
   have B:a.length=1:=by
    have⟨z,j,_⟩:=DataW.trod_int qP l;rw [j];rfl
   match a,B with
   |[c],_=>obtain⟨z,rfl,j⟩:=uY l;exact⟨z,rfl,j⟩)
  exact⟨⟨p,M,I,r⟩,⟨_,rfl,E,J⟩,L,i,f,t,C⟩
theorem q4d{fuel:Nat}{cs:List Value}{x:DataW H×List kg}(h:yK enc qj w base spare held fuel 81 cs=some x):
 ∃d:Att,RdAttW (fun g=>g<w.heap.size) w cs d/\d.name.size<=maxLen/\d.values.length<=maxLen/\ ∀k∈d.values,i64R k:=by
 obtain⟨hl,n,hn,hf⟩:=xd Tryz.underlying81 (by kernel_rfl) (by kernel_rfl) h;match cs,hl with
 |[c0,c1],_=>
  obtain⟨v0,y0,e0,h0⟩:=hf 0 _ rfl;obtain⟨v1,y1,e1,h1⟩:=hf 1 _ rfl
  cases e0;cases e1;obtain⟨nm,rfl,hs⟩:=YY h0;obtain⟨ms,hr,hw,hm,hq⟩:=kP (α:=Int) (R:=RdI) i64R (k:=1) Tryz.underlying79 (by kernel_rfl) (by decide) h1 (fun m cs' y _ hy=>by
   have hc:cs'.length=1:=by
    obtain⟨z,hz,_⟩:=DataW.trod_int Kx hy;rw [hz];rfl
   match cs',hc with
   |[c],_=>obtain⟨z,rfl,hz⟩:=UP hy;exact⟨z,rfl,hz⟩)
  exact⟨⟨nm,ms⟩,⟨_,rfl,hr,hw⟩,hs,hm,hq⟩
theorem q1q{fuel:Nat}{cs:List Value}{x:DataW H×List kg}(h:yK enc qj w base spare held fuel 28 cs=some x):
 ∃m:Mod,RdMod (fun g=>g<w.heap.size) w (.agg cs.toArray) m/\Q8 m/\WfM (fun g=>g<w.heap.size) w (.agg cs.toArray) m:=by
 obtain⟨hl,n,hn,hf⟩:=xd Tryz.underlying28 (by kernel_rfl) (by kernel_rfl) h;match cs,hl with
 |[c0,c1,c2,c3,c4],_=>
  obtain⟨v0,y0,e0,h0⟩:=hf 0 _ rfl;obtain⟨v1,y1,e1,h1⟩:=hf 1 _ rfl;obtain⟨v2,y2,e2,h2⟩:=hf 2 _ rfl;obtain⟨v3,y3,e3,h3⟩:=hf 3 _ rfl;obtain⟨v4,y4,e4,h4⟩:=hf 4 _ rfl
  cases e0;cases e1;cases e2;cases e3;cases e4;obtain⟨fs,rf,wf,lf,qf⟩:=kP (R:=RdFeat) _ (k:=3) Tryz.underlying22 (by kernel_rfl) (by decide) h0 (fun _ _ _ _ hy=>q1V hy);obtain⟨gs,rg,wg,lg,qg⟩:=kP (R:=RdGrp fun g=>g<w.heap.size) _ (k:=4) Tryz.underlying23 (by kernel_rfl) (by decide) h1 (fun _ _ _ _ hy=>q3T hy);obtain⟨ats,ra,-,la,qa⟩:=kP (R:=RdAttW fun g=>g<w.heap.size) _ (k:=2) Tryz.underlying24 (by kernel_rfl) (by decide) h2 (fun _ _ _ _ hy=>q4d hy);obtain⟨rs,rr,-,lr,-⟩:=kP (R:=RdEx fun g=>g<w.heap.size) (fun _=>True) (k:=3) JQ (by kernel_rfl) (by decide) h3 (fun m cs' y _ hy=>let⟨d,hd⟩:=q6u m cs' y hy;⟨d,hd,trivial⟩);obtain⟨ls,rl,wl,ll,ql⟩:=kP (R:=RdLim) _ (k:=3) Tryz.underlying26 (by kernel_rfl) (by decide) h4 (fun _ _ _ _ hy=>q3L hy);exact⟨⟨fs,gs,ats,rs,ls⟩,⟨_,_,_,_,_,rfl,rf,rg,RdL.weak ra,rr,rl,wf,wg⟩,⟨⟨lf,lg,la,lr,ll⟩,qf,qg,qa,ql⟩,_,_,_,_,_,rfl,ra,wl⟩
theorem Jf{fuel:Nat}{cs:List Value}{x:DataW H×List kg}(h:yK enc qj w base spare held fuel 28 cs=some x):
 ∃m:Mod,RdMod (fun g=>g<w.heap.size) w (.agg cs.toArray) m/\Q8 m:=let⟨m,a,b,_⟩:=q1q h;⟨m,a,b⟩
end
end Go.Proofs.YtjcbmcnbdegpmaaGreatDoor
