/- FixQ, PickA, MLow, MSetA. -/
import Derived.Test.YtjcbmcnbdegpmaaGreatDoorKMROne
import Derived.Test.YtjcbmcnbdegpmaaGreatDoorKMTimesW
set_option maxRecDepth 100000
set_option maxHeartbeats 12800000
set_option linter.unusedVariables false
set_option linter.unusedSimpArgs false
open Bool renaming and_eq_true->qy,eq_iff_iff->zq
open Go renaming bodyPost_ret->qo,results->qC
open Go.Lib renaming hid->q8
open Go.Proofs.Tryz renaming func76->Y8,ntmps76->QO,prog->qj,results76->jN
open Go.RowKit.Below renaming heap_setCell->zg
open Go.Value renaming int->qs
open Go.Value.slice renaming injEq->qq
open Go.World renaming block_lt_of_cell?->qM,cell?_of_block->yr
open List renaming all_eq_true->qL,getElem?_eq_some_iff->qm,mem_range->yd,range->qO
open Nat renaming pow_succ->jn,testBit_lt_two_pow->QX
open Go.Value renaming slice->vd,int->ve,string->vf,pointer->vg,agg->vi,bool->vj
open Go.Obj renaming cells->vk
open Go.Ending renaming returned->vm
open Go.IntKind renaming i64->vp,u8->vq,u32->vr,u64->vt
open Or renaming inl->vu,inr->vv
namespace Go.Proofs.YtjcbmcnbdegpmaaGreatDoor
open Go Go.RowKit Go.Proofs.Gen Go.Proofs.Bdd Go.Proofs.Bdd.T
variable{f:F}{w:World}
noncomputable def fixN (f:F) (on:Bool):Nat:=if nowhere f=true then 0 else xg f on (qO 24)
theorem empty_b{a:Value}{b:Bool}(d:IsF w a f)(g:nowhere f=b):Calls qj 19 #[a] w fun e c=>e=vm (vj b)/\Near w c:=g▸empty_f d
theorem QJ(f:F)(on:Bool)(k:Nat):xg f on (qO (k+1))=if q3V f on k=true then xg f on (qO k)|||2^k else xg f on (qO k):=by
 rw [List.range_succ];exact VL f on _ k
theorem q6t{v:Value}(h:IsF w v f):Calls qj 143 #[v] w fun e w'=>e=vm (.tuple #[ve vr (fixN f false:Nat),ve vr (fixN f true:Nat)])∧Near w w':=by
 have C:=q8 h;obtain⟨j,c,g,d,rfl⟩:=h.form
 cases q:nowhere f with
 |true=>
  have L:fixN f false=0:=if_pos q;have J:fixN f true=0:=if_pos q;rw [L,J];have Q:=q8 q;have m:Near w (w.alloc (vk #[vd j c g,ve vp d] 43)):=(Near.refl w).alloc _;have a:(w.alloc (vk #[vd j c g,ve vp d] 43)).heap[w.heap.size]? =some (vk #[vd j c g,ve vp d] 43 (0,0)):=heap_new_at rfl;go_enter Tryz.func143,Tryz.ntmps143;go_upto_region 1 with fail
  generalize(w.alloc (vk #[vd j c g,ve vp d] 43))=W at m a⊢;have l:=q8 m;have N:=q8 a;have e0:=cell1 (o:=0) a rfl;have e1:=cell1 (o:=1) a rfl;go_wp2_with (go_at_call 19;refine(empty_b (C.near l) Q).mono ?_;rintro e w1 ⟨rfl,I⟩)
  exact qo (v:= .tuple #[ve vr 0,ve vr 0]) (by simp [qC,Tryz.results143,go_sem]) rfl ⟨rfl,l.trans I⟩
 |false=>
  have u: ¬nowhere f=true:=by rw [q];simp
  have L:fixN f false=xg f false (qO 24):=if_neg u;have J:fixN f true=xg f true (qO 24):=if_neg u;rw [L,J];have Q:=q8 q;have m:Near w (w.alloc (vk #[vd j c g,ve vp d] 43)):=(Near.refl w).alloc _;have a:(w.alloc (vk #[vd j c g,ve vp d] 43)).heap[w.heap.size]? =some (vk #[vd j c g,ve vp d] 43 (0,0)):=heap_new_at rfl;go_enter Tryz.func143,Tryz.ntmps143;go_upto_region 1 with fail
  generalize(w.alloc (vk #[vd j c g,ve vp d] 43))=W at m a⊢;have l:=q8 m;have N:=q8 a;have e0:=cell1 (o:=0) a rfl;have e1:=cell1 (o:=1) a rfl;go_wp2_with (go_at_call 19;refine(empty_b (C.near l) Q).mono ?_;rintro e w1 ⟨rfl,I⟩)
  go_loopw [2,3,7] (fun x y i wr=> ∃k:Nat,k≤24∧i=ve vp k∧x=ve vr (xg f false (qO k):Nat)∧y=ve vr (xg f true (qO k):Nat)∧Near W wr) (fun _ _ i _=>24 - (intOf i).toNat)
  case atStart=>exact⟨0,Nat.zero_le _,rfl,rfl,rfl,I⟩
  case round=>
   obtain⟨k,hk,rfl,rfl,rfl,O⟩:=hrel;have D:=q8 O;have G:=cell1 (o:=0) (qE O N) rfl;have H:=cell1 (o:=1) (qE O N) rfl;by_cases aa:k<24
   ·have S:(k:Int)<24:=by omega
    have R:(k:Int)<64:=by omega
    have Y:=q8 (QJ f false k);have X:=q8 (QJ f true k);have l1:=ZF (f:=f) (on:=false) (V:=qO k) (fun i M=>by have:=yd.1 M;omega);have l2:=ZF (f:=f) (on:=true) (V:=qO k) (fun i M=>by have:=yd.1 M;omega);generalize t:xg f false (qO k)=p at Y l1⊢;generalize n:xg f true (qO k)=A at X l2⊢;have o1:=q8 (vG p k (by omega) (by omega));have o2:=q8 (vG A k (by omega) (by omega));obtain⟨b1,z⟩: ∃b,q3V f false k=b:=⟨_,rfl⟩;obtain⟨Z,r⟩: ∃b,q3V f true k=b:=⟨_,rfl⟩;have B1:=q8 z;have B2:=q8 r;have y1:=q8 (show xg f false (qO (k+1))=if b1=true then p|||2^k else p by rw [Y.out,z]);have y2:=q8 (show xg f true (qO (k+1))=if Z=true then A|||2^k else A by rw [X.out,r])
    cases b1<;>cases Z
    all_goals
     go_wp2_with (first
      |(go_at_call_of 197 (Value.bool false);refine(q4k (C.near (l.trans D)) _ _).mono ?_;rintro e w3 ⟨v3,rfl,d3,E⟩;obtain⟨p1,p2,p3,p4,rfl⟩:=d3.form;have G:=E.cell G;have H:=E.cell H)
      |(go_at_call_of 197 (Value.bool true);refine(q4k (C.near ((l.trans D).trans (E.trans B))) _ _).mono ?_;rintro e w5 ⟨v5,rfl,U,n5⟩;obtain⟨p1,p2,p3,p4,rfl⟩:=U.form)
      |(go_at_call 19;refine(empty_b U B2).mono ?_;rintro e w6 ⟨rfl,n6⟩)
      |(go_at_call 19;refine(empty_b d3 B1).mono ?_;rintro e w4 ⟨rfl,B⟩;have G:=B.cell G;have H:=B.cell H))
     exact⟨⟨k+1,by omega,by go_num,by rw [y1.out];first|rfl|(rw [o1.out];rfl),by rw [y2.out];first|rfl|(rw [o2.out];rfl),(((D.trans E).trans B).trans n5).trans n6⟩,by simp [intOf];omega⟩
   ·have s:k=24:=by omega
    subst s;generalize t:xg f false (qO 24)=p;generalize n:xg f true (qO 24)=A;have K:=q8 t;have P:=q8 n;go_wp2_with fail
    exact qo (v:= .tuple #[ve vr (p:Nat),ve vr (A:Nat)]) (by simp [qC,Tryz.results143,go_sem]) rfl ⟨by rw [K.out,P.out],l.trans D⟩
end Go.Proofs.YtjcbmcnbdegpmaaGreatDoor
namespace Go.Proofs.YtjcbmcnbdegpmaaGreatDoor
open Go Go.RowKit Go.Proofs.Gen Go.Proofs.Bdd Go.Proofs.Bdd.T
theorem bits_nat(c:Nat->Bool): ∀k,∃d,d<2^k/\ ∀i,i<k->d.testBit i=c i
 |0=>⟨0,by simp,fun i b=>by omega⟩
 |k+1=>by
  have⟨d,a,h⟩:=bits_nat c k
  cases g:c k with
  |false=>
   refine⟨d,by rw [jn];omega,fun i b=> ?_⟩;by_cases e:i=k
   .rw [e,g,QX a]
   .exact h i (by omega)
  |true=>
   refine⟨2^k+d,by rw [jn];omega,fun i b=> ?_⟩;rw [Zj a,Uu];unfold upd;by_cases e:i=k
   .rw [if_pos e,e,g]
   .rw [if_neg e]
    exact h i (by omega)
section
variable {w:World}{v:Value}{f:F}
end
theorem q1D{w:World}{v:Value}{f:F}{b:Bool}{c:Nat}(h:IsF w v f)(g:f c.testBit=b)(j:c<4294967296):Calls qj 42 #[v,ve vr c] w fun e a=>e=vm (vj b)/\Near w a:=by
 have⟨t,d,i⟩:=h;rw [<-g,<-i];exact q1E d j rfl
end Go.Proofs.YtjcbmcnbdegpmaaGreatDoor
namespace Go.Proofs.YtjcbmcnbdegpmaaGreatDoor
open Go Go.RowKit Go.Proofs.Gen Go.Proofs.Mod Go.Proofs.Bdd Go.Proofs.Bdd.T
variable{f:F}{g:Grp}{i n:Nat}{m:Mod}
def LowF(n:Nat)(f:F):Prop:= ∀c c':Nat->Bool,(∀i,i<n->c i=c' i)->f c=f c'
theorem LowF.nowhere(h:LowF n f):nowhere f=(qO (2^n)).all fun k=> !f k.testBit:=by
 rw [zq,kG,qL];simp only [yd,Bool.not_eq_true'];refine⟨fun a k _=>a _,fun a c=> ?_⟩;have⟨d,b,e⟩:=bits_nat c n;rw [<-h d.testBit c e];exact a d b
theorem LowF.updI(h:LowF n f)(v:Int)(on:Bool):LowF n fun c=>f (updI c v on):=fun c b e=>h _ _ fun i a=>by
 unfold YtjcbmcnbdegpmaaGreatDoor.updI;rw [e i a]
theorem LowF.all{fs:List F}(h: ∀f∈fs,LowF n f):LowF n (allF fs):=fun c d e=>by
 unfold allF;rw [zq,qL,qL];exact⟨fun b f a=>by rw [<-h f a c d e];exact b f a,fun b f a=>by rw [h f a c d e];exact b f a⟩
theorem LowF.var(h:i<n):LowF n fun c=>c i:=fun _ _ e=>e i h
theorem LowF.not(h:LowF n f):LowF n fun c=> !f c:=fun c a e=>by
 show(!f c)= !f a;rw [h c a e]
theorem LowF.or{g:F}(h:LowF n f)(k:LowF n g):LowF n fun c=>f c||g c:=fun c a e=>by
 show(f c||g c)=(f a||g a);rw [h c a e,k c a e]
theorem LowF.dep(h:LowF n f)(e:n<=i):dep f i=false:=by
 refine Bool.eq_false_iff.2 fun b=> ?_;have⟨c,a⟩:=Wj.1 b;refine a (h _ _ fun j d=> ?_);unfold upd;rw [if_neg (by omega),if_neg (by omega)]
theorem q2r{f:Nat}(h:f<2^n)(b a:Int):LowF n (q2T f b a):=fun c g e=>by
 have d: ∀m k,cntFrom f c k m=cntFrom f g k m:=by
  intro m;induction m with
  |zero=>intro k;rfl
  |succ m i=>
   intro k;rw [cntFrom,cntFrom,i];congr 1;by_cases j:k<n
   .rw [e k j]
   .rw [QX (Nat.lt_of_lt_of_le h (Nat.pow_le_pow_right (by decide) (by omega)))]
    rfl
 show bet b a (cntFrom f c 0 24)=bet b a (cntFrom f g 0 24);rw [d 24 0]
theorem KK{a:List ByteArray}{c b:Nat->Bool}(h: ∀i,i<a.length->c i=b i)(o:Nat)(n:ByteArray)(l:List Bool):wN a c o n l=wN a b o n l:=by
 unfold wN;split<;>try rfl
 cases f:hasN a n with
 |false=>rfl
 |true=>
  have⟨x,e,d⟩:=List.any_eq_true.1 f;rw [h _ (List.findIdx_lt_length_of_exists ⟨x,e,d⟩)]
theorem q0l(a:List ByteArray)(x:Ex):LowF a.length fun c=>truth a c x:=fun c d e=>by
 show truth a c x=truth a d x;revert x;refine Ex.ind fun o n l b=> ?_;rw [truth,truth,uS,uS,List.map_congr_left b,KK e]
theorem q0u{l:List Int}{c a:Nat->Bool}(h: ∀i,i<l.length->c i=a i): ∀k,sumFrom (jK l) c k=sumFrom (jK l) a k
 |0=>rfl
 |k+1=>by
  rw [sumFrom,sumFrom,q0u h k];congr 1;by_cases b:24 - (k+1)<l.length
  .rw [h _ b]
  .have:jK l (24 - (k+1))=0:=by
    unfold jK;rw [List.getD_eq_getElem?_getD,List.getElem?_eq_none (by omega)];rfl
   rw [this];split<;>split<;>rfl
theorem q64(l:List Int)(rel:Nat)(a:Int):LowF l.length (linF l rel a):=fun c b e=>by
 unfold linF;rw [q0u e]
theorem Qn{l:List Int}(h: ∀k∈l,k.toNat<n):Jg l<2^n:=by
 unfold Jg;have c: ∀(l:List Int)(a:Nat),a<2^n->(∀k∈l,k.toNat<n)->l.foldl (fun a k=>a|||2^k.toNat) a<2^n:=by
  intro l;induction l with
  |nil=>intro a b _;exact b
  |cons k l f=>
   intro a b d;exact f _ (Nat.or_lt_two_pow b (Nat.pow_lt_pow_right (by decide) (d k (List.mem_cons_self ..)))) fun x e=>d x (List.mem_cons_of_mem _ e)
 exact c l 0 (Nat.two_pow_pos n) h
theorem vC.par(b:vC m){f:xM}(c:0<i)(h:m.feats[i]? =some f):0<=f.parent/\f.parent<i/\q2S m i<i:=by
 have a:=(b.feat i f h).2.2;unfold kindB at a;rw [if_neg (by omega)]at a;simp only [qy,decide_eq_true_eq]at a;refine⟨a.1.2,a.2,?_⟩;unfold q2S;rw [h];show f.parent.toNat<i;omega
theorem vC.head(j:vC m)(h:m.grps[i]? =some g):0<=g.parent/\g.parent<m.feats.length/\0<g.members.length/\0<=g.low/\g.low<=g.high/\g.high<=g.members.length:=by
 have a:=(j.grp i g h).1;unfold vL at a;simp only [qy,decide_eq_true_eq]at a;have⟨⟨⟨⟨⟨b,c⟩,e⟩,d⟩,f⟩,k⟩:=a;exact⟨b,c,e,d,f,k⟩
theorem vC.mem(d:vC m)(h:m.grps[i]? =some g){k:Int}(b:k∈g.members):0<=k/\k.toNat<m.feats.length:=by
 obtain⟨a,f,c,-⟩:=gS (d.grp i g h).2 k b;exact⟨a,(qm.1 c).1⟩
theorem vC.limat(d:vC m){l:Lim}(h:m.lims[i]? =some l):0<=l.att/\1<=l.rel/\l.rel<=3/\ ∃a,m.atts[l.att.toNat]? =some a/\a.values.length=m.feats.length/\a.values.all costB=true:=by
 have b:=d.lim i l h;unfold Qq at b;simp only [qy,decide_eq_true_eq]at b;have⟨⟨⟨e,j⟩,g⟩,f⟩:=b;have c:m.atts[l.att.toNat]? =some (m.atts[l.att.toNat]'(by omega)):=List.getElem?_eq_getElem (by omega);exact⟨e,g,f,_,c,d.att _ _ c⟩
theorem q3i(b:vC m){r:Nat×Nat}(h:q2K m r):LowF m.feats.length (q0D m r):=by
 rcases h with rfl|⟨i,f,rfl,d,h⟩|⟨i,f,rfl,d,h⟩|⟨i,g,rfl,h⟩|⟨i,g,rfl,h⟩|⟨i,x,rfl,h⟩|⟨i,l,rfl,h⟩
 .exact LowF.var b.n0
 .have e:=(qm.1 h).1
  have o:=(b.par d h).2.2;exact LowF.or (LowF.not (LowF.var e)) (LowF.var (show q2S m i<m.feats.length by omega))
 .have e:=(qm.1 h).1
  have o:=(b.par d h).2.2;exact LowF.or (LowF.not (LowF.var (show q2S m i<m.feats.length by omega))) (LowF.var e)
 .have q:=b.head h
  show LowF _ (match m.grps[i]? with|some g=>fun c=> !c g.parent.toNat||q2T (Jg g.members) g.low g.members.length c|none=>fun _=>false);rw [h];exact LowF.or (LowF.not (LowF.var (by omega))) (q2r (Qn fun k j=>(b.mem h j).2) _ _)
 .have q:=b.head h
  show LowF _ (match m.grps[i]? with|some g=>fun c=> !c g.parent.toNat||q2T (Jg g.members) 0 g.high c|none=>fun _=>false);rw [h];exact LowF.or (LowF.not (LowF.var (by omega))) (q2r (Qn fun k j=>(b.mem h j).2) _ _)
 .show LowF _ (match m.reqs[i]? with|some x=>fun c=>truth m.names c x|none=>fun _=>false)
  rw [h]
  have:=q0l m.names x
  rwa [show m.names.length=m.feats.length by simp [Mod.names]]at this
 .show LowF _ (match m.lims[i]? with|some l=>linF ((m.atts[l.att.toNat]?.map Att.values).getD []) l.rel l.bound|none=>fun _=>false)
  rw [h];obtain⟨-,-,-,a,p,n,-⟩:=b.limat h;show LowF _ (linF ((m.atts[l.att.toNat]?.map Att.values).getD []) l.rel l.bound);rw [p,<-n];exact q64 _ _ _
theorem Xb(c:vC m): ∀f∈rulesF m,LowF m.feats.length f:=fun f a=>by
 unfold rulesF at a;obtain⟨r,b,rfl⟩:=List.mem_map.1 a;exact q3i c (rulesOf_mem b)
end Go.Proofs.YtjcbmcnbdegpmaaGreatDoor
namespace Go.Proofs.YtjcbmcnbdegpmaaGreatDoor
open Go Go.RowKit Go.Proofs.Gen Go.Proofs.Mod
variable{S:Nat→Prop}{f:xM}{i pn:Nat}{m:Mod}{v:Value}{w:World}
theorem kE{w:World}{cs a:Array Value}: ∀W,W=((w.alloc (vk cs 28)).alloc (vk a 66)).alloc (vk #[vd none 0 0,ve vp 0] 43)->Near w W/\W.heap[w.heap.size]? =some (vk cs 28 (0,0))/\W.heap[w.heap.size+1]? =some (vk a 66 (0,0))/\W.heap[w.heap.size+2]? =some (vk #[vd none 0 0,ve vp 0] 43 (0,0)):=by
 rintro W rfl;exact⟨(((Near.refl w).alloc _).alloc _).alloc _,by rw [qD (by simp<;>omega),qD (by simp),heap_new_at rfl],by rw [qD (by simp),heap_new_at (by simp)],heap_new_at (by simp)⟩
theorem q3c(h:RdMod S w v m):Calls qj 76 #[v,vi #[ve vq 1,ve vp 0]] w (jO w (fun c=>c 0)):=by
 obtain⟨j,q,s,f,k,i,a,g,d,x,rfl,-⟩:=RdMod.form h;have B:= @kE w #[vd j m.feats.length q,vd s m.grps.length f,vd k m.atts.length i,vd a m.reqs.length g,vd d m.lims.length x] #[ve vq 1,ve vp 0];go_enter Y8,QO;go_upto_region 1 with fail
 have n:=B _ rfl;generalize((w.alloc (vk #[vd j m.feats.length q,vd s m.grps.length f,vd k m.atts.length i,vd a m.reqs.length g,vd d m.lims.length x] 28)).alloc (vk #[ve vq 1,ve vp 0] 66)).alloc (vk #[vd none 0 0,ve vp 0] 43)=W at n⊢;obtain⟨z,-,H,C⟩:=n;have K:W.cell? (vw (w.heap.size+1) 0)=some (ve vq 1):=cell1 H rfl;have E:=q8 z;have I:=q8 C;go_wp2_with (go_at_call 147;refine(hasM_calls 0 (by decide) _).mono ?_;rintro e J ⟨P,rfl,a,b⟩;obtain⟨r,u,o,l,rfl⟩:=a.form;have A:=q8 a;have y:=q8 (E.trans b);have t:=qE b I;have p:=q8 t;have⟨O,N,L,M⟩:=ym t)
 have⟨G,D⟩:=yE p (vd r u o) (ve vp l);exact qo (v:=vi #[vd r u o,ve vp l]) (by simp [qC,jN,go_sem,G,D]) rfl (yN y (by omega) p A)
theorem q0z(h:RdMod S w v m)(J:m.feats[i]? =some f)(hp:f.parent=(pn:Int))(hi:i<24)(C:pn<24):Calls qj 76 #[v,vi #[ve vq 2,ve vp i]] w (jO w (fun c=> !c i||c pn)):=by
 obtain⟨a1,n,b1,X,c1,H,r,p,R,Q,rfl,hF,-⟩:=RdMod.form h;have aa:(i:Int)<m.feats.length:=by have:=(qm.1 J).1;omega
 obtain⟨g,d,rfl,Z⟩: ∃g d,a1=some ⟨g,d,none⟩∧w.cell? (vw g (d+i*3+1))=some (ve vp (pn:Nat)):=by
  have⟨ab,Y,e,hc⟩:=hF;obtain⟨b,o,vs,z,-,j,hv⟩:=hc i f J;simp only [qq,true_and]at e;obtain⟨rfl,rfl⟩:=e;obtain rfl:vs=[vf f.name,ve vp f.parent,ve vq f.kind]:=hv;exact⟨b,o,z,hp▸j 1 _ rfl⟩
 have hW:= @kE w #[vd (some ⟨g,d,none⟩) m.feats.length n,vd b1 m.grps.length X,vd c1 m.atts.length H,vd r m.reqs.length p,vd R m.lims.length Q] #[ve vq 2,ve vp i];go_enter Y8,QO;go_upto_region 1 with fail
 have h1:=hW _ rfl;generalize((w.alloc (vk #[vd (some ⟨g,d,none⟩) m.feats.length n,vd b1 m.grps.length X,vd c1 m.atts.length H,vd r m.reqs.length p,vd R m.lims.length Q] 28)).alloc (vk #[ve vq 2,ve vp i] 66)).alloc (vk #[vd none 0 0,ve vp 0] 43)=W at h1⊢;have⟨E,hA,M,hC⟩:=h1;have A:=qM _ _ Z;dsimp only at A;have q0:W.cell? (vw (w.heap.size+1) 0)=some (ve vq 2):=cell1 M rfl;have G1:=q8 (E.cell Z);have HN:=q8 E;have HA:=q8 hA;have HB:=q8 M;have HC:=q8 hC;have q: ∀a,Near W a→a.cell? (vw (w.heap.size+1) 1)=some (ve vp i)∧a.cell? w.heap.size=some (vd (some ⟨g,d,none⟩) m.feats.length n)∧a.cell? (vw g (d+i*3+1))=some (ve vp (pn:Nat)):=fun a h=>⟨cell1 (qQ h HB) rfl,cell1 (qQ h HA) rfl,h.cell G1⟩;have B: ∀l x y,Near W l→(fun a:World=>a.cell? (vw (w.heap.size+1) 1)=some (ve vp i)∧a.cell? w.heap.size=some (vd (some ⟨g,d,none⟩) m.feats.length n)∧a.cell? (vw g (d+i*3+1))=some (ve vp (pn:Nat))) ((l.setCell (vw (w.heap.size+2) 0) x).setCell (vw (w.heap.size+2) 1) y):=by
  intro l x y s;have e: ∀k o,k≠w.heap.size+2→((l.setCell (vw (w.heap.size+2) 0) x).setCell (vw (w.heap.size+2) 1) y).cell? (vw k o)=l.cell? (vw k o):=fun k o U=>yr (w:=l) ((zg _ _ _ _ U).trans (zg _ _ _ _ U));have t:=q l s;exact⟨(e _ _ (by omega)).trans t.1,(e _ _ (by omega)).trans t.2.1,(e _ _ (by omega)).trans t.2.2⟩
 go_upto_region 5 with fail
 go_region_held3 (fun a=>a.cell? (vw (w.heap.size+1) 1)=some (ve vp i)∧a.cell? w.heap.size=some (vd (some ⟨g,d,none⟩) m.feats.length n)∧a.cell? (vw g (d+i*3+1))=some (ve vp (pn:Nat)))
  (first
    |(refine q _ ?_;first|exact u|exact P|exact G|exact I|exact(Near.refl _).drew)
    |exact B _ _ _ u)
  (first
    |(go_at_call_of 147 (qs vp (i:Nat));refine(hasM_calls i hi _).mono ?_;rintro e w1 ⟨v1,rfl,r,n1⟩;have D1:=q8 r;obtain⟨x1,x2,x3,x4,rfl⟩:=r.form;have I:Near W w1:=(Near.refl W).drew.trans n1)
    |(go_at_call 77;refine(not_f D1).mono ?_;rintro e w2 ⟨v2,rfl,p,n2⟩;have D2:=q8 p;obtain⟨x5,x6,x7,x8,rfl⟩:=p.form;have G:Near W w2:=I.trans n2)
    |(go_at_call_of 147 (qs vp (pn:Nat));refine(hasM_calls pn C _).mono ?_;rintro e w3 ⟨v3,rfl,V,K⟩;have D3:=q8 V;obtain⟨y1,y2,y3,y4,rfl⟩:=V.form;have P:Near W w3:=G.trans K)
    |(go_at_call 148;refine(q5N (D2.near K) D3).mono ?_;rintro e w4 ⟨v4,rfl,d4,n4⟩;have D4:=q8 d4;obtain⟨N,D,y7,y8,rfl⟩:=d4.form;have u:Near W w4:=P.trans n4;have O:=qE u HC;have L:=q8 O;have⟨r0,r1,f0,f1⟩:=ym O))
 go_wp2_with fail
 have⟨t0,t1⟩:=yE L (vd N D y7) (ve vp y8);exact qo (v:=vi #[vd N D y7,ve vp y8]) (by simp [qC,jN,go_sem,t0,t1]) rfl (yN (HN.trans u) (by omega) L D4)
theorem q3d(h:RdMod S w v m)(J:m.feats[i]? =some f)(hp:f.parent=(pn:Int))(hi:i<24)(C:pn<24):Calls qj 76 #[v,vi #[ve vq 3,ve vp i]] w (jO w (fun c=> !c pn||c i)):=by
 obtain⟨a1,n,b1,X,c1,H,r,p,R,Q,rfl,hF,-⟩:=RdMod.form h;have aa:(i:Int)<m.feats.length:=by have:=(qm.1 J).1;omega
 obtain⟨g,d,rfl,Z⟩: ∃g d,a1=some ⟨g,d,none⟩∧w.cell? (vw g (d+i*3+1))=some (ve vp (pn:Nat)):=by
  have⟨ab,Y,e,hc⟩:=hF;obtain⟨b,o,vs,z,-,j,hv⟩:=hc i f J;simp only [qq,true_and]at e;obtain⟨rfl,rfl⟩:=e;obtain rfl:vs=[vf f.name,ve vp f.parent,ve vq f.kind]:=hv;exact⟨b,o,z,hp▸j 1 _ rfl⟩
 have hW:= @kE w #[vd (some ⟨g,d,none⟩) m.feats.length n,vd b1 m.grps.length X,vd c1 m.atts.length H,vd r m.reqs.length p,vd R m.lims.length Q] #[ve vq 3,ve vp i];go_enter Y8,QO;go_upto_region 1 with fail
 have h1:=hW _ rfl;generalize((w.alloc (vk #[vd (some ⟨g,d,none⟩) m.feats.length n,vd b1 m.grps.length X,vd c1 m.atts.length H,vd r m.reqs.length p,vd R m.lims.length Q] 28)).alloc (vk #[ve vq 3,ve vp i] 66)).alloc (vk #[vd none 0 0,ve vp 0] 43)=W at h1⊢;have⟨E,hA,M,hC⟩:=h1;have A:=qM _ _ Z;dsimp only at A;have q0:W.cell? (vw (w.heap.size+1) 0)=some (ve vq 3):=cell1 M rfl;have G1:=q8 (E.cell Z);have HN:=q8 E;have HA:=q8 hA;have HB:=q8 M;have HC:=q8 hC;have q: ∀a,Near W a→a.cell? (vw (w.heap.size+1) 1)=some (ve vp i)∧a.cell? w.heap.size=some (vd (some ⟨g,d,none⟩) m.feats.length n)∧a.cell? (vw g (d+i*3+1))=some (ve vp (pn:Nat)):=fun a h=>⟨cell1 (qQ h HB) rfl,cell1 (qQ h HA) rfl,h.cell G1⟩;have B: ∀l x y,Near W l→(fun a:World=>a.cell? (vw (w.heap.size+1) 1)=some (ve vp i)∧a.cell? w.heap.size=some (vd (some ⟨g,d,none⟩) m.feats.length n)∧a.cell? (vw g (d+i*3+1))=some (ve vp (pn:Nat))) ((l.setCell (vw (w.heap.size+2) 0) x).setCell (vw (w.heap.size+2) 1) y):=by
  intro l x y s;have e: ∀k o,k≠w.heap.size+2→((l.setCell (vw (w.heap.size+2) 0) x).setCell (vw (w.heap.size+2) 1) y).cell? (vw k o)=l.cell? (vw k o):=fun k o U=>yr (w:=l) ((zg _ _ _ _ U).trans (zg _ _ _ _ U));have t:=q l s;exact⟨(e _ _ (by omega)).trans t.1,(e _ _ (by omega)).trans t.2.1,(e _ _ (by omega)).trans t.2.2⟩
 go_upto_region 7 with fail
 go_region_held3 (fun a=>a.cell? (vw (w.heap.size+1) 1)=some (ve vp i)∧a.cell? w.heap.size=some (vd (some ⟨g,d,none⟩) m.feats.length n)∧a.cell? (vw g (d+i*3+1))=some (ve vp (pn:Nat)))
  (first
    |(refine q _ ?_;first|exact u|exact P|exact G|exact I|exact(Near.refl _).drew)
    |exact B _ _ _ u)
  (first
    |(go_at_call_of 147 (qs vp (pn:Nat));refine(hasM_calls pn C _).mono ?_;rintro e w1 ⟨v1,rfl,r,n1⟩;have D1:=q8 r;obtain⟨x1,x2,x3,x4,rfl⟩:=r.form;have I:Near W w1:=(Near.refl W).drew.trans n1)
    |(go_at_call 77;refine(not_f D1).mono ?_;rintro e w2 ⟨v2,rfl,p,n2⟩;have D2:=q8 p;obtain⟨x5,x6,x7,x8,rfl⟩:=p.form;have G:Near W w2:=I.trans n2)
    |(go_at_call_of 147 (qs vp (i:Nat));refine(hasM_calls i hi _).mono ?_;rintro e w3 ⟨v3,rfl,V,K⟩;have D3:=q8 V;obtain⟨y1,y2,y3,y4,rfl⟩:=V.form;have P:Near W w3:=G.trans K)
    |(go_at_call 148;refine(q5N (D2.near K) D3).mono ?_;rintro e w4 ⟨v4,rfl,d4,n4⟩;have D4:=q8 d4;obtain⟨N,D,y7,y8,rfl⟩:=d4.form;have u:Near W w4:=P.trans n4;have O:=qE u HC;have L:=q8 O;have⟨r0,r1,f0,f1⟩:=ym O))
 go_wp2_with fail
 have⟨t0,t1⟩:=yE L (vd N D y7) (ve vp y8);exact qo (v:=vi #[vd N D y7,ve vp y8]) (by simp [qC,jN,go_sem,t0,t1]) rfl (yN (HN.trans u) (by omega) L D4)
end Go.Proofs.YtjcbmcnbdegpmaaGreatDoor
