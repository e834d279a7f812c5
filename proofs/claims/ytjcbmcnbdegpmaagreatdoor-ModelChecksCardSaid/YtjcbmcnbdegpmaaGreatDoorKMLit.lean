/- MAdds, MFind, MRoot, MLines, MNumber, MChild, MGramF, MLit. -/
import Derived.Test.YtjcbmcnbdegpmaaGreatDoorKMSetA
import Derived.Test.YtjcbmcnbdegpmaaGreatDoorKMRNames
set_option maxRecDepth 100000
set_option maxHeartbeats 12800000
set_option linter.unusedVariables false
set_option linter.unusedSimpArgs false
open Array renaming getElem?_eq_some_iff->qk
open Go renaming bodyPost_ret->qo,results->qC
open Go.ByteArray renaming toList_eq->zp
open Go.Instr renaming lookup->yu,mapUpdate->zA
open Go.Lib renaming hid->q8
open Go.Proofs.Tryz renaming prog->qj,underlying102->kf,underlying113->zB,underlying244->ke,underlying5->jf,underlying9->y9
open Go.Sem renaming run->yx
open Go.Value renaming int->qs,oneCell'->qX,slice->qw,string->yb
open Go.Value.slice renaming injEq->qq
open List renaming getElem?_eq_getElem->qi,getElem?_eq_some_iff->qm,getElem?_map->qA,length_map->qG,mem_singleton->qN
open Nat renaming le_refl->qt,zero_le->qv
open Option.some renaming inj->zm
open Go.Value renaming slice->vd,int->ve,string->vf,pointer->vg,agg->vi,bool->vj
open Go.Obj renaming cells->vk
open Go.Ending renaming returned->vm
open Go.IntKind renaming i64->vp,u8->vq,u32->vr,u64->vt
open Or renaming inl->vu,inr->vv
namespace Go.Proofs.YtjcbmcnbdegpmaaGreatDoor
open Go Go.RowKit Go.Proofs.Gen Go.Proofs.Mod
variable{B G N b base cap n:Nat}{S:Nat->Prop}{a:List ByteArray}{ao:Option Addr}{r:RS}{s:ByteArray}{v:Value}{vs:List Value}{w:World}
theorem q6m:(qj.info? 76).map (fun i=>(i.zero,i.size,i.bytes))=some (some (vi #[vf ⟨#[]⟩,ve vp 0,ve vq 0]),3,32):=by kernel_rfl
theorem gG{g a:World}{t:Nat}{cs:Array Value}(d:w.heap[B]? =some (vk cs t (0,0)))(e:v.ownBlock≠some B)(i:Near w g)(m:g.grownBy a v.ownBlock)(j:Nat)(v':Value):
 (a.setCell (vw B j) v').heap[B]? =some (vk (cs.setIfInBounds j v') t (0,0))/\Kept (fun k=>k=B\/v.ownBlock=some k) w (a.setCell (vw B j) v')/\
  ∀{base T s n:Nat}{u:Value}{f:List Value},a.ownsRow base T s u n f->T≠t->(a.setCell (vw B j) v').ownsRow base T s u n f:=by
 have b:Kept (fun k=>v.ownBlock=some k) w a:=Kept.grown i.kept m (fun k l _=>l);exact⟨qz (qQ b d e) j v',Kept.setCell (S:=fun k=>k=B\/v.ownBlock=some k) (Kept.mono b fun _ _ h=>vv h) (p:=vw B j) (fun _=>vu rfl) v',fun h c=>zF h (qQ b d e) c j v'⟩
theorem Qr{v':Value}(h:v'.ownBlock=v.ownBlock\/v'.ownBlock=some n)(a:w.heap.size<=n):Grew w v v':=h.elim vu fun e=>vv ⟨n,e,a⟩
def xW(base B G N:Nat)(w:World)(r:RS):Prop:= ∃a b c d e gs ts ps,Rd base B G N w r a b c d e gs ts ps
def LPost(base B G N:Nat)(w:World)(p:Nat×RS)(e:Ending)(w':World):Prop:=e= .returned (.int .i64 (p.1:Nat))/\xW base B G N w' p.2/\Kept (fun g=>base<=g\/g=B\/g=G) w w'
theorem YL(h:xW base B G N w r)(hl:r.m.feats.length≤24)(x:xM):
 Calls qj 187 #[vg B,vi #[vf x.name,ve vp x.parent,ve vq x.kind]] w (LPost base B G N w (addsL r x)):=by
 have⟨a,b,c,d,e,gs,ts,ps,h⟩:=h;have⟨i0,hi,V,Z,ab⟩:=info_parts q6m;obtain⟨u,y,b1,b2,c1,c2,d1,d2,e1,e2,rfl,rfl,rfl,rfl,rfl⟩:=h.forms;have⟨j,m,p⟩:=x;have hW: ∀W,W=w.alloc (vk #[vf j,ve vp m,ve vq p] 76)→Near w W∧W.heap[w.heap.size]? =some (vk #[vf j,ve vp m,ve vq p] 76 (0,0)):=by
  rintro W rfl;exact⟨(Near.refl w).alloc _,heap_new_at rfl⟩
 have H:=q8 h;have O:Hid (addsL r ⟨j,m,p⟩=if freshE r.m.names j=0 then(if r.m.feats.length=24 then(5,r)else(0,⟨⟨r.m.feats++[⟨j,m,p⟩],r.m.grps,r.m.atts,r.m.reqs,r.m.lims⟩,r.given⟩))else(freshE r.m.names j,r)):=rfl;generalize addsL r ⟨j,m,p⟩=ae at O⊢;go_enter Tryz.func187,Tryz.ntmps187;go_upto_region 1 with fail
 have h1:=hW _ rfl;generalize w.alloc (vk #[vf j,ve vp m,ve vq p] 76)=W at h1⊢;have⟨hN,hA⟩:=h1;have HN:=q8 hN;have HA:=q8 hA;have C:=q8 (H.near hN);have aa: ∀i,Near W i→(i.cell? B=some (vd u r.m.feats.length y)∧i.cell? (vw B 1)=some (vd b1 r.m.grps.length b2)∧i.cell? (vw B 2)=some (vd c1 r.m.atts.length c2)∧i.cell? (vw B 3)=some (vd d1 r.m.reqs.length d2)∧i.cell? (vw B 4)=some (vd e1 r.m.lims.length e2))∧i.cell? w.heap.size=some (vf j):=
  fun i h=>⟨⟨cell1 (qE h C.box) rfl,cell1 (qE h C.box) rfl,cell1 (qE h C.box) rfl,cell1 (qE h C.box) rfl,cell1 (qE h C.box) rfl⟩,cell1 (qE h HA) rfl⟩
 have P:=q8 (fun(i:World)(X:Near W i)=>kI ((C.mod).kept X (fun _ _ h=>h) (fun _ h=>h)) (by omega));go_region_held3 (fun i=>(i.cell? B=some (vd u r.m.feats.length y)∧i.cell? (vw B 1)=some (vd b1 r.m.grps.length b2)∧i.cell? (vw B 2)=some (vd c1 r.m.atts.length c2)∧i.cell? (vw B 3)=some (vd d1 r.m.reqs.length d2)∧i.cell? (vw B 4)=some (vd e1 r.m.lims.length e2))∧i.cell? w.heap.size=some (vf j))
  ((refine aa _ ?_;first|exact M|exact z1|exact(Near.refl _).drew))
  (first
    |(go_at_call 26;refine(P _ ((Near.refl W).drew)).mono ?_;rintro e w1 ⟨v1,rfl,r1,n1⟩;have R1:=q8 r1;have z1:Near W w1:=(Near.refl W).drew.trans n1)
    |(go_at_call 97;refine(vZ (RdL.strings R1) (by simp [Mod.names];omega) j).mono ?_;rintro e s ⟨rfl,n2⟩;have M:Near W s:=z1.trans n2))
 have f:=q8 (C.near M);have A:=q8 (qE M HA);have z:=q8 (HN.trans M);generalize freshE r.m.names j=q at O⊢;by_cases h0:q=0
 ·subst h0
  have l:=q8 (O.trans (if_pos rfl));have q0:=cell1 (o:=0) f.box rfl;by_cases I:r.m.feats.length=24
  ·have L:(r.m.feats.length:Int)=24:=by omega
   have n:=q8 (l.trans (if_pos I));go_wp2_with fail
   exact qo (v:=ve vp 5) (by simp [qC,Tryz.results187,go_sem]) rfl ⟨by rw [n.out];rfl,by rw [n.out];exact⟨_,_,_,_,_,_,_,_,f⟩,z.kept⟩
  ·have L: ¬(r.m.feats.length:Int)=24:=by omega
   have n:=q8 (l.trans (if_neg I));have x0:=cell1 (o:=0) A rfl;have x1:=cell1 (o:=1) A rfl;have x2:=cell1 (o:=2) A rfl;have hB:(qw u r.m.feats.length y).ownBlock≠some B:=fun e=>by
    have:=(zY f.f e).1
    have:=f.hB
    omega
   have af:=f.hb;have cm: ∀(Q E:World),Q.grownBy E (qw u r.m.feats.length y).ownBlock→Near s Q→E.cell? B=some (vd u r.m.feats.length y)∧E.frozen? B=false:=fun Q E hg X=>by
    have hb:=qQ (Kept.grown (S:=fun k=>(qw u r.m.feats.length y).ownBlock=some k) X.kept hg (fun k J _=>J)) f.box hB;exact⟨cell1 hb rfl,zQ hb 0⟩
   have K:=q8 cm;have q1:(s.alloc (vk #[vf j,ve vp m,ve vq p] 76)).cell? B=some (vd u r.m.feats.length y):=((Near.refl s).alloc _).cell q0;have Y:=q8 hB;go_upto_region 6 with fail
   go_cut [] (fun wx=>xW base B G N wx ⟨⟨r.m.feats++[⟨j,m,p⟩],r.m.grps,r.m.atts,r.m.reqs,r.m.lims⟩,r.given⟩∧Kept (fun g=>base≤g∨g=B∨g=G) s wx)
   case first=>
    go_region_law (refine jd rfl (.tmp 29) (.tmp 31) 22 rfl base 76 i0 (vi #[vf ⟨#[]⟩,ve vp 0,ve vq 0]) 3 32 Tryz.underlying22 hi V Z ab rfl (by decide) _ _ _ rfl (owns_kept f.f ((Near.refl s).drew.alloc _) (fun _ _ h=>h)) ⟨s.heap.size,0,none⟩ 1 1 [vf j,ve vp m,ve vq p] rfl rfl (by exact K6 (by simp) _ _ _ _) (by simp [qX]) (by unfold maxLen;omega) (by omega) (by simp;omega) ?_;intro ao U E t D R;have ah:=(K _ _ D ((Near.refl s).drew.alloc _)).1;have ag:=(K _ _ D ((Near.refl s).drew.alloc _)).2)
    all_goals
     go_wp2_with fail
     go_meet
     have⟨s1,s2,s3⟩:=gG f.box Y ((Near.refl s).drew.alloc (vk #[vf j,ve vp m,ve vq p] 76)) D 0 (vd ao (r.m.feats.length+1) U);exact⟨⟨_,_,_,_,_,_,_,_,f.feat (x:=⟨j,m,p⟩) s2 s1 (s3 t (by decide)) (Qr R (by simp))⟩,Kept.mono s2 fun k _ J=>J.elim (fun e=>vv (vu e)) fun e=>vu (zY f.f e).1⟩
   case rest=>
    have⟨hr,J⟩:=hcut;go_wp2_with fail
    exact qo (v:=ve vp 0) (by simp [qC,Tryz.results187,go_sem]) rfl ⟨by rw [n.out];rfl,by rw [n.out];exact hr,z.kept.trans J⟩
 ·have ad:((q:Int) !=0)=true:=by rw [bne_iff_ne];omega
  have l:=q8 (O.trans (if_neg h0));go_wp2_with fail
  exact qo (v:=ve vp q) (by simp [qC,Tryz.results187,go_sem]) rfl ⟨by rw [l.out],by rw [l.out];exact⟨_,_,_,_,_,_,_,_,f⟩,z.kept⟩
theorem str_eq(a b:ByteArray):(a.toList==b.toList)=decide (a=b):=by
 rw [zp,zp,Bool.eq_iff_iff,beq_iff_eq,decide_eq_true_eq];exact⟨fun h=>xH h,fun h=>by rw [h]⟩
theorem GH{x:xM}(c:w.cell? b=some (vf s))(i:RdFeat w vs x):
 Calls qj 226 (#[vi vs.toArray]++ #[vg b]) w fun e d=>e=vm (vj (decide (x.name=s)))/\Near w d:=by
 obtain rfl:=i;obtain⟨q,a⟩: ∃q,q=decide (x.name=s):=⟨_,rfl⟩;rw [<-a];have g:=q8 a;have h:(w.alloc (vk #[vf x.name,ve vp x.parent,ve vq x.kind] 76)).cell? b=some (vf s):=((Near.refl w).alloc _).cell c;clear a c;show Calls qj 226 #[vi #[vf x.name,ve vp x.parent,ve vq x.kind],vg b] w _;go_enter Tryz.func226,Tryz.ntmps226;have f:(x.name.toList==s.toList)=q:=(str_eq _ _).trans g.symm;go_wp2_with fail
 go_ret;exact⟨by rw [<-f];rfl,(Near.refl w).alloc _⟩
theorem Jr{l:List xM}(U:w.cell? b=some (vf s))(V:l.length<4611686018427387904)(C:RdL S 3 RdFeat w (vd ao l.length cap) l):
 Calls qj 225 #[vd ao l.length cap,.func (.func 226) #[] #[vg b]] w fun e M=>e=vm (ve vp (idxN (l.map xM.name) s))/\Near w M:=by
 have N:=q8 U;have Q:=q8 C;have Z: ∀h w,(callFunc 226 h).run qj w= .ok (.enter 226 h) w:=enters_of Tryz.func226 (by kernel_rfl) rfl;obtain⟨q,K⟩: ∃q,q=idxN (l.map xM.name) s:=⟨_,rfl⟩;rw [<-K];have J:=q8 K;go_enter Tryz.func225,Tryz.ntmps225;go_wp2_with fail
 go_loopw [8] (fun i wr=> ∃k:Nat,k<=l.length/\i=ve vp k/\(∀(j:Nat) x,j<k->l[j]? =some x->x.name≠s)/\Near w wr) (fun i _=>l.length - (intOf i).toNat)
 case atStart=>exact⟨0,qv _,rfl,fun j x A=>by omega,Near.refl _⟩
 case round=>
  obtain⟨k,W,rfl,f,D⟩:=hrel;have B:=q8 f;have c:=q8 D;by_cases p:k<l.length
  .have H:(k:Int)<l.length:=by omega
   obtain⟨x,L⟩: ∃x,l[k]? =some x:=⟨_,qi p⟩;have⟨R,E,e,P⟩:=Q.out;obtain⟨g,o,vs,u,-,d,G⟩:=P k x L;have r:=q8 (GH (w:=wr) (c.cell N) (G));have I:=q8 L;simp only [qq,true_and]at e;obtain⟨rfl,rfl⟩:=e;subst u;obtain rfl:=G;have Y:=c.cell (show w.cell? (vw g (o+k*3))=some (vf x.name)from d 0 _ rfl);have c1:=c.cell (show w.cell? (vw g (o+k*3+1))=some (ve vp x.parent)from d 1 _ rfl);have X:=c.cell (show w.cell? (vw g (o+k*3+2))=some (ve vq x.kind)from d 2 _ rfl)
   cases t:decide (x.name=s)with
   |false=>
    rw [t]at r;have n:=q8 (of_decide_eq_false t);go_wp2_with fail
    refine r.mono ?_;rintro e O ⟨rfl,v⟩;have m:=q8 (c.trans v);go_wp2_with fail
    exact⟨⟨k+1,p,by go_num,fun j y A a=>by
     by_cases e:j=k
     .subst e
      rw [I.out]at a
      cases a;exact n
     .exact B j y (by omega) a,m⟩,by simp [intOf];omega⟩
   |true=>
    rw [t]at r;have n:=q8 (show q=(k:Int)from J.trans (ZC (fun j y A a=>by
     rw [qA]at a
     cases f:l[j]? with
     |none=>rw [f]at a;cases a
     |some z=>rw [f]at a;cases a;exact B j z A f) (by rw [qA,I.out];exact congrArg some (of_decide_eq_true t))))
    go_wp2_with fail
    refine r.mono ?_;rintro e O ⟨rfl,v⟩;have m:=q8 (c.trans v);go_wp2_with fail
    go_ret;exact⟨by rw [n.out];rfl,m⟩
  .obtain rfl:k=l.length:=by omega
   have n:=q8 (show q= -1 from J.trans (Jt fun j y a=>by
    rw [qA]at a
    cases f:l[j]? with
    |none=>rw [f]at a;cases a
    |some z=>rw [f]at a;cases a;exact B j z (qm.1 f).1 f).1)
   go_wp2_with fail
   go_ret;exact⟨by rw [n.out];rfl,c⟩
theorem gd(h:xW base B G N w r)(k:r.m.feats.length<4611686018427387904)(s:ByteArray):
 Calls qj 188 #[vg B,vf s] w fun e n=>e=vm (ve vp (idxF r.m s))/\Near w n:=by
 have⟨a,b,c,d,e,P,M,O,h⟩:=h;obtain⟨v,t,J,A,H,C,K,D,z,L,rfl,rfl,rfl,rfl,rfl⟩:=h.forms;have q: ∀(i:Fn)(first f:Array Value)(w:World),(Instr.makeFunc i first f).run qj w= .ok (.func i first f) w:=fun _ _ _ _=>rfl;obtain⟨_,_,_,_,_,m,u,I,E,-⟩:=h.mod
 cases m;have p:=q8 (Jr (S:=fun g=>base<=g) (w:=w.alloc (vk #[vf s] 9)) (b:=w.heap.size) (s:=s) (by simp) k (u.kept ((Near.refl w).alloc _) (fun _ _ h=>h) (fun _ h=>h) (fun _ _ h=>h)));have y:(w.alloc (vk #[vf s] 9)).cell? B=some (vd v r.m.feats.length t):=((Near.refl w).alloc _).cell (cell1 (o:=0) h.box rfl);go_enter Tryz.func188,Tryz.ntmps188;go_wp2_with (go_at_call 225;refine p.mono ?_;rintro e x ⟨rfl,l⟩;have j:=q8 (((Near.refl w).alloc (vk #[vf s] 9)).trans l))
 go_ret;exact⟨rfl,j⟩
theorem GI{x:Att}(d:w.cell? b=some (vf s))(h:RdAtt S w vs x):
 Calls qj 229 (#[vi vs.toArray]++ #[vg b]) w fun e i=>e=vm (vj (decide (x.name=s)))/\Near w i:=by
 obtain⟨_,rfl,a⟩:=h;obtain⟨f,g,rfl⟩:=a.form;obtain⟨q,c⟩: ∃q,q=decide (x.name=s):=⟨_,rfl⟩;rw [<-c];have k:=q8 c;have l:(w.alloc (vk #[vf x.name,vd f x.values.length g] 81)).cell? b=some (vf s):=((Near.refl w).alloc _).cell d;clear c d;show Calls qj 229 #[vi #[vf x.name,vd f x.values.length g],vg b] w _;go_enter Tryz.func229,Tryz.ntmps229;have j:(x.name.toList==s.toList)=q:=(str_eq _ _).trans k.symm;go_wp2_with fail
 go_ret;exact⟨by rw [<-j];rfl,(Near.refl w).alloc _⟩
theorem Js{l:List Att}(W:w.cell? b=some (vf s))(Z:l.length<4611686018427387904)(D:RdL S 2 (RdAtt S) w (vd ao l.length cap) l):
 Calls qj 228 #[vd ao l.length cap,.func (.func 229) #[] #[vg b]] w fun e O=>e=vm (ve vp (idxN (l.map Att.name) s))/\Near w O:=by
 have P:=q8 W;have U:=q8 D;have eg: ∀m w,(callFunc 229 m).run qj w= .ok (.enter 229 m) w:=enters_of Tryz.func229 (by kernel_rfl) rfl;obtain⟨q,M⟩: ∃q,q=idxN (l.map Att.name) s:=⟨_,rfl⟩;rw [<-M];have L:=q8 M;go_enter Tryz.func228,Tryz.ntmps228;go_wp2_with fail
 go_loopw [8] (fun i wr=> ∃k:Nat,k<=l.length/\i=ve vp k/\(∀(j:Nat) x,j<k->l[j]? =some x->x.name≠s)/\Near w wr) (fun i _=>l.length - (intOf i).toNat)
 case atStart=>exact⟨0,qv _,rfl,fun j x B=>by omega,Near.refl _⟩
 case round=>
  obtain⟨k,hk,rfl,f,E⟩:=hrel;have C:=q8 f;have c:=q8 E;by_cases r:k<l.length
  .have J:(k:Int)<l.length:=by omega
   obtain⟨x,N⟩: ∃x,l[k]? =some x:=⟨_,qi r⟩;have⟨V,H,e,R⟩:=U.out;obtain⟨g,o,vs,v,-,d,I⟩:=R k x N;have t:=q8 (GI (S:=S) (c.cell P) (I.kept c (fun _ _ h=>h) (fun _ h=>h)));have K:=q8 N;simp only [qq,true_and]at e;obtain⟨rfl,rfl⟩:=e;subst v;obtain⟨_,rfl,G⟩:=I;obtain⟨X,Y,rfl⟩:=G.form;have c0:=c.cell (show w.cell? (vw g (o+k*2))=some (vf x.name)from d 0 _ rfl);have c1:=c.cell (show w.cell? (vw g (o+k*2+1))=some (vd X x.values.length Y)from d 1 _ rfl)
   cases u:decide (x.name=s)with
   |false=>
    rw [u]at t;have p:=q8 (of_decide_eq_false u);go_wp2_with fail
    refine t.mono ?_;rintro e Q ⟨rfl,A⟩;have n:=q8 (c.trans A);go_wp2_with fail
    exact⟨⟨k+1,r,by go_num,fun j y B a=>by
     by_cases e:j=k
     .subst e
      rw [K.out]at a
      cases a;exact p
     .exact C j y (by omega) a,n⟩,by simp [intOf];omega⟩
   |true=>
    rw [u]at t;have p:=q8 (show q=(k:Int)from L.trans (ZC (fun j y B a=>by
     rw [qA]at a
     cases f:l[j]? with
     |none=>rw [f]at a;cases a
     |some z=>rw [f]at a;cases a;exact C j z B f) (by rw [qA,K.out];exact congrArg some (of_decide_eq_true u))))
    go_wp2_with fail
    refine t.mono ?_;rintro e Q ⟨rfl,A⟩;have n:=q8 (c.trans A);go_wp2_with fail
    go_ret;exact⟨by rw [p.out];rfl,n⟩
  .obtain rfl:k=l.length:=by omega
   have p:=q8 (show q= -1 from L.trans (Jt fun j y a=>by
    rw [qA]at a
    cases f:l[j]? with
    |none=>rw [f]at a;cases a
    |some z=>rw [f]at a;cases a;exact C j z (qm.1 f).1 f).1)
   go_wp2_with fail
   go_ret;exact⟨by rw [p.out];rfl,c⟩
theorem YK(h:xW base B G N w r)(k:r.m.atts.length<4611686018427387904)(s:ByteArray):
 Calls qj 190 #[vg B,vf s] w fun e q=>e=vm (ve vp (idxA r.m s))/\Near w q:=by
 have⟨a,b,c,d,e,M,K,L,h⟩:=h;obtain⟨P,E,H,A,v,m,I,C,z,J,rfl,rfl,rfl,rfl,rfl⟩:=h.forms;have u: ∀(i:Fn)(first f:Array Value)(w:World),(Instr.makeFunc i first f).run qj w= .ok (.func i first f) w:=fun _ _ _ _=>rfl;obtain⟨_,_,_,_,_,p,O,D,n,-⟩:=h.mod
 cases p;have t:=q8 (Js (S:=fun g=>base<=g) (w:=w.alloc (vk #[vf s] 9)) (b:=w.heap.size) (s:=s) (by simp) k (n.kept ((Near.refl w).alloc _) (fun _ _ h=>h) (fun _ h=>h) (fun _ _ h=>h.kept ((Near.refl w).alloc _) (fun _ _ h=>h) (fun _ h=>h))));have y:(w.alloc (vk #[vf s] 9)).cell? (vw B 2)=some (vd v r.m.atts.length m):=((Near.refl w).alloc _).cell (cell1 (o:=2) h.box rfl);go_enter Tryz.func190,Tryz.ntmps190;go_wp2_with (go_at_call 228;refine t.mono ?_;rintro e x ⟨rfl,l⟩;have j:=q8 (((Near.refl w).alloc (vk #[vf s] 9)).trans l))
 go_ret;exact⟨rfl,j⟩
theorem kt{f:Nat->Prop}(h:RdL f 1 RdS w (vd ao n cap) a)(i:0<a.length): ∃g o,ao=some ⟨g,o,none⟩/\n=a.length:=by
 have⟨d,b,e,j⟩:=h;simp only [qq]at e;obtain⟨rfl,rfl,rfl⟩:=e;obtain⟨g,o,k,c,-⟩:=j 0 _ (qi i);exact⟨g,o,c,rfl⟩
theorem jz{j:Nat->Prop}{g o:Nat}(h:RdL j 1 RdS w (vd (some ⟨g,o,none⟩) n cap) a){i:Nat}(b:i<a.length):w.cell? (vw g (o+i))=some (vf (wd a i)):=by
 have⟨f,c,e,l⟩:=h;simp only [qq]at e;obtain⟨rfl,rfl,rfl⟩:=e;obtain⟨p,q,m,d,-,k,rfl⟩:=l i _ (qi b)
 cases d
 have:=k 0 _ rfl
 rw [Nat.mul_one,Nat.add_zero]at this;rw [this,wd,List.getD,qi b];rfl
theorem WS(h:xW base B G N w r)(E:r.m.feats.length≤24){L:Nat→Prop}{C:Value}{f:List ByteArray}(A:RdL L 1 RdS w C f)(rest:ByteArray):
 Calls qj 127 #[vg B,C,vf rest] w (LPost base B G N w (rootL r f)):=by
 have I:=q8 (fun x=>YL h E x);have y:=q8 h;have⟨a,b,c,d,e,gs,ts,ps,h⟩:=h;obtain⟨a1,W,X,R,V,S,Y,U,Q,Z,rfl,rfl,rfl,rfl,rfl⟩:=h.forms;have P:=cell1 (o:=0) h.box rfl;obtain⟨ao,K,rfl⟩:=A.form;have t:=q8 A;have q:Hid (rootL r f=if f.length=2 then(if r.m.feats.length=0 then addsL r ⟨wd f 1,-1,1⟩else(10,r))else(4,r)):=rfl;generalize rootL r f=p at q⊢;by_cases u:f.length=2
 ·obtain⟨g,o,rfl,-⟩:=kt t (by omega)
  have H:=jz t (i:=1) (by omega);have m:(f.length:Int)=2:=by omega
  have n:((f.length:Int) !=2)=false:=by rw [bne_eq_false_iff_eq];omega
  have j:=q8 (q.trans (if_pos u));have M:(1:Int)<f.length:=by omega
  by_cases z:r.m.feats.length=0
  ·have s: ¬(0<(r.m.feats.length:Int)):=by omega
   have k:=q8 (j.trans (if_pos z));have l:=q8 (I ⟨wd f 1,-1,1⟩);rw [←k.out]at l;go_enter Tryz.func127,Tryz.ntmps127;go_wp2_with (go_at_call 187;refine l.mono ?_;rintro e O ⟨rfl,D,J⟩)
   exact qo (v:=ve vp p.1) (by simp [qC,Tryz.results127,go_sem]) rfl ⟨rfl,D,J⟩
  ·have s:(0<(r.m.feats.length:Int)):=by omega
   have k:=q8 (j.trans (if_neg z));go_enter Tryz.func127,Tryz.ntmps127;go_wp2_with fail
   exact qo (v:=ve vp 10) (by simp [qC,Tryz.results127,go_sem]) rfl ⟨by rw [k.out];rfl,by rw [k.out];exact y,Kept.refl _ _⟩
 ·have n:((f.length:Int) !=2)=true:=by rw [bne_iff_ne];omega
  have j:=q8 (q.trans (if_neg u));have m: ¬(f.length:Int)=2:=by omega
  go_enter Tryz.func127,Tryz.ntmps127;go_wp2_with fail
  exact qo (v:=ve vp 4) (by simp [qC,Tryz.results127,go_sem]) rfl ⟨by rw [j.out];rfl,by rw [j.out];exact y,Kept.refl _ _⟩
end Go.Proofs.YtjcbmcnbdegpmaaGreatDoor
namespace Go.Proofs.YtjcbmcnbdegpmaaGreatDoor
open Go Go.RowKit Go.Proofs.Gen Go.Proofs.Mod
open Go.Maps (Keyed string_keyed)
open Go.ChangeMaps Go.MapKept
def fv(n:Nat):Value:= .func (.func n) #[] #[]
def q6s(s:ByteArray):Option Nat:=if s=wRoot then some 127 else if s=gB then some 128 else if s=Uq then some 128 else if s=Ur then some 128 else if s=wGroup then some 129 else if s=wAttr then some 130 else if s=vF then some 131 else if s=wReq then some 132 else if s=WB then some 133 else none
def fnV(s:ByteArray):Value:=match q6s s with|some n=>fv n|none=> .nilFunc
def UM:Value->Value->Prop:=putV (putV (putV (putV (putV (putV (putV (putV (putV (fun _ _=>False) (.string wRoot) (fv 127)) (.string gB) (fv 128)) (.string Uq) (fv 128)) (.string Ur) (fv 128)) (.string wGroup) (fv 129)) (.string wAttr) (fv 130)) (.string vF) (fv 131)) (.string wReq) (fv 132)) (.string WB) (fv 133)
theorem kZ(w:World):(zeroValue 118).run qj w= .ok .nilFunc w:=by kernel_rfl
theorem Gh{w:World}{K n:Nat}(h:mapV w qj 9 K n UM){s:ByteArray}(u:s.size<=maxLen):(yu 113 (.map (some K)) (vf s) false).run qj w= .ok (fnV s) w:=by
 have⟨l,d⟩:=VE u;have f:Keyed qj 9:=string_keyed y9;have c: ∀{a b:ByteArray},yb a=yb b->a=b:=fun e=>by cases e;rfl
 by_cases p:s=wRoot
 .subst p
  refine(h.hit f zB (kZ w) d (v:=fv 127) ?_ false).trans ?_
  .exact vv ⟨fun e=>absurd (c e) (by decide),vv ⟨fun e=>absurd (c e) (by decide),vv ⟨fun e=>absurd (c e) (by decide),vv ⟨fun e=>absurd (c e) (by decide),vv ⟨fun e=>absurd (c e) (by decide),vv ⟨fun e=>absurd (c e) (by decide),vv ⟨fun e=>absurd (c e) (by decide),vv ⟨fun e=>absurd (c e) (by decide),vu ⟨rfl,rfl⟩⟩⟩⟩⟩⟩⟩⟩⟩
  .rfl
 by_cases k:s=gB
 .subst k
  refine(h.hit f zB (kZ w) d (v:=fv 128) ?_ false).trans ?_
  .exact vv ⟨fun e=>absurd (c e) (by decide),vv ⟨fun e=>absurd (c e) (by decide),vv ⟨fun e=>absurd (c e) (by decide),vv ⟨fun e=>absurd (c e) (by decide),vv ⟨fun e=>absurd (c e) (by decide),vv ⟨fun e=>absurd (c e) (by decide),vv ⟨fun e=>absurd (c e) (by decide),vu ⟨rfl,rfl⟩⟩⟩⟩⟩⟩⟩⟩
  .rfl
 by_cases q:s=Uq
 .subst q
  refine(h.hit f zB (kZ w) d (v:=fv 128) ?_ false).trans ?_
  .exact vv ⟨fun e=>absurd (c e) (by decide),vv ⟨fun e=>absurd (c e) (by decide),vv ⟨fun e=>absurd (c e) (by decide),vv ⟨fun e=>absurd (c e) (by decide),vv ⟨fun e=>absurd (c e) (by decide),vv ⟨fun e=>absurd (c e) (by decide),vu ⟨rfl,rfl⟩⟩⟩⟩⟩⟩⟩
  .rfl
 by_cases j:s=Ur
 .subst j
  refine(h.hit f zB (kZ w) d (v:=fv 128) ?_ false).trans ?_
  .exact vv ⟨fun e=>absurd (c e) (by decide),vv ⟨fun e=>absurd (c e) (by decide),vv ⟨fun e=>absurd (c e) (by decide),vv ⟨fun e=>absurd (c e) (by decide),vv ⟨fun e=>absurd (c e) (by decide),vu ⟨rfl,rfl⟩⟩⟩⟩⟩⟩
  .rfl
 by_cases o:s=wGroup
 .subst o
  refine(h.hit f zB (kZ w) d (v:=fv 129) ?_ false).trans ?_
  .exact vv ⟨fun e=>absurd (c e) (by decide),vv ⟨fun e=>absurd (c e) (by decide),vv ⟨fun e=>absurd (c e) (by decide),vv ⟨fun e=>absurd (c e) (by decide),vu ⟨rfl,rfl⟩⟩⟩⟩⟩
  .rfl
 by_cases t:s=wAttr
 .subst t
  refine(h.hit f zB (kZ w) d (v:=fv 130) ?_ false).trans ?_
  .exact vv ⟨fun e=>absurd (c e) (by decide),vv ⟨fun e=>absurd (c e) (by decide),vv ⟨fun e=>absurd (c e) (by decide),vu ⟨rfl,rfl⟩⟩⟩⟩
  .rfl
 by_cases r:s=vF
 .subst r
  refine(h.hit f zB (kZ w) d (v:=fv 131) ?_ false).trans ?_
  .exact vv ⟨fun e=>absurd (c e) (by decide),vv ⟨fun e=>absurd (c e) (by decide),vu ⟨rfl,rfl⟩⟩⟩
  .rfl
 by_cases m:s=wReq
 .subst m
  refine(h.hit f zB (kZ w) d (v:=fv 132) ?_ false).trans ?_
  .exact vv ⟨fun e=>absurd (c e) (by decide),vu ⟨rfl,rfl⟩⟩
  .rfl
 by_cases i:s=WB
 .subst i
  refine(h.hit f zB (kZ w) d (v:=fv 133) ?_ false).trans ?_
  .exact vu ⟨rfl,rfl⟩
  .rfl
 have g:fnV s= .nilFunc:=by unfold fnV q6s;rw [if_neg p,if_neg k,if_neg q,if_neg j,if_neg o,if_neg t,if_neg r,if_neg m,if_neg i]
 rw [g];refine h.miss f zB (kZ w) d (fun v x=> ?_) false;rcases x with⟨e,-⟩|⟨-,⟨e,-⟩|⟨-,⟨e,-⟩|⟨-,⟨e,-⟩|⟨-,⟨e,-⟩|⟨-,⟨e,-⟩|⟨-,⟨e,-⟩|⟨-,⟨e,-⟩|⟨-,⟨e,-⟩|⟨-,h⟩⟩⟩⟩⟩⟩⟩⟩⟩
 .exact i (c e)
 .exact m (c e)
 .exact r (c e)
 .exact t (c e)
 .exact o (c e)
 .exact j (c e)
 .exact q (c e)
 .exact k (c e)
 .exact p (c e)
 .exact h
theorem Vq(w:World): ∃G J L K E N H I n:World,yx qj (zA 113 (.map (some w.heap.size)) (vf ⟨#[114,111,111,116]⟩) (fv 127)) (w.alloc (.map #[] 0))= .ok () G/\yx qj (zA 113 (.map (some w.heap.size)) (vf ⟨#[109,97,110,100,97,116,111,114,121]⟩) (fv 128)) G= .ok () J/\yx qj (zA 113 (.map (some w.heap.size)) (vf ⟨#[111,112,116,105,111,110,97,108]⟩) (fv 128)) J= .ok () L/\yx qj (zA 113 (.map (some w.heap.size)) (vf ⟨#[109,101,109,98,101,114]⟩) (fv 128)) L= .ok () K/\yx qj (zA 113 (.map (some w.heap.size)) (vf ⟨#[103,114,111,117,112]⟩) (fv 129)) K= .ok () E/\yx qj (zA 113 (.map (some w.heap.size)) (vf ⟨#[97,116,116,114,105,98,117,116,101]⟩) (fv 130)) E= .ok () N/\yx qj (zA 113 (.map (some w.heap.size)) (vf ⟨#[118,97,108,117,101]⟩) (fv 131)) N= .ok () H/\yx qj (zA 113 (.map (some w.heap.size)) (vf ⟨#[114,101,113,117,105,114,101]⟩) (fv 132)) H= .ok () I/\yx qj (zA 113 (.map (some w.heap.size)) (vf ⟨#[108,105,109,105,116]⟩) (fv 133)) I= .ok () n/\Near w n/\mapV n qj 9 w.heap.size 9 UM:=by
 have b:Keyed qj 9:=string_keyed y9;have a: ∀{W:World}(M:Array MapEntry)(c:Nat),Kept (fun k=>w.heap.size<=k) w W->Kept (fun k=>w.heap.size<=k) w (setBlock W w.heap.size (.map M c)):=fun M c h=>jj h (fun _=>qt _) _;have m0:=mapV.empty (P:=qj) (k:=9) (heap_new_at rfl:(w.alloc (.map #[] 0)).heap[w.heap.size]? =_);have X:Kept (fun k=>w.heap.size<=k) w (w.alloc (.map #[] 0)):=(Kept.refl _ w).alloc _;have⟨l1,f⟩:=VE (s:=⟨#[114,111,111,116]⟩) (by decide);have⟨C,c1,r1,m1⟩:=m0.store (t:=113) (e:=118) b zB (by decide) f (fv 127);have k1:=a C c1 X;have⟨l2,g⟩:=VE (s:=⟨#[109,97,110,100,97,116,111,114,121]⟩) (by decide);have⟨l,S,Y,m2⟩:=m1.store (t:=113) (e:=118) b zB (by decide) g (fv 128);have k2:=a l S k1;have⟨l3,z⟩:=VE (s:=⟨#[111,112,116,105,111,110,97,108]⟩) (by decide);have⟨p,c3,r3,U⟩:=m2.store (t:=113) (e:=118) b zB (by decide) z (fv 128);have k3:=a p c3 k2;have⟨l4,u⟩:=VE (s:=⟨#[109,101,109,98,101,114]⟩) (by decide);have⟨m,c4,r4,R⟩:=U.store (t:=113) (e:=118) b zB (by decide) u (fv 128);have k4:=a m c4 k3;have⟨l5,A⟩:=VE (s:=⟨#[103,114,111,117,112]⟩) (by decide);have⟨d,c5,r5,m5⟩:=R.store (t:=113) (e:=118) b zB (by decide) A (fv 129);have k5:=a d c5 k4;have⟨l6,o⟩:=VE (s:=⟨#[97,116,116,114,105,98,117,116,101]⟩) (by decide);have⟨D,c6,r6,m6⟩:=m5.store (t:=113) (e:=118) b zB (by decide) o (fv 130);have V:=a D c6 k5;have⟨l7,r⟩:=VE (s:=⟨#[118,97,108,117,101]⟩) (by decide);have⟨B,Z,r7,m7⟩:=m6.store (t:=113) (e:=118) b zB (by decide) r (fv 131);have k7:=a B Z V;have⟨l8,i⟩:=VE (s:=⟨#[114,101,113,117,105,114,101]⟩) (by decide);have⟨q,c8,r8,O⟩:=m7.store (t:=113) (e:=118) b zB (by decide) i (fv 132);have k8:=a q c8 k7;have⟨l9,y⟩:=VE (s:=⟨#[108,105,109,105,116]⟩) (by decide);have⟨j,c9,Q,m9⟩:=O.store (t:=113) (e:=118) b zB (by decide) y (fv 133);have k9:=a j c9 k8;refine⟨_,_,_,_,_,_,_,_,_,r1,Y,r3,r4,r5,r6,r7,r8,Q,Kept.mono k9 (fun k a h=>by omega),?_⟩;refine m9.congr fun x v=> ?_;unfold UM;rw [show wRoot=(⟨#[114,111,111,116]⟩:ByteArray) by decide,show gB=(⟨#[109,97,110,100,97,116,111,114,121]⟩:ByteArray) by decide,show Uq=(⟨#[111,112,116,105,111,110,97,108]⟩:ByteArray) by decide,show Ur=(⟨#[109,101,109,98,101,114]⟩:ByteArray) by decide,show wGroup=(⟨#[103,114,111,117,112]⟩:ByteArray) by decide,show wAttr=(⟨#[97,116,116,114,105,98,117,116,101]⟩:ByteArray) by decide,show vF=(⟨#[118,97,108,117,101]⟩:ByteArray) by decide,show wReq=(⟨#[114,101,113,117,105,114,101]⟩:ByteArray) by decide,show WB=(⟨#[108,105,109,105,116]⟩:ByteArray) by decide]
theorem Vr(w:World):Calls qj 52 #[] w fun e a=>e=vm (.map (some w.heap.size))/\Near w a/\mapV a qj 9 w.heap.size 9 UM:=by
 have⟨y,x,q,A,r,z,t,u,s,m,p,n,c,f,j,b,d,g,o,h⟩:=Vq w;have k:= @run_makeMap qj;have l:=q8 o;have i:=q8 h;unfold fv at m p n c f j b d g;go_enter Tryz.func52,Tryz.ntmps52;go_wp2_with fail
 exact qo (v:= .map (some w.heap.size)) (by simp [qC,Tryz.results52,go_sem]) rfl ⟨rfl,l,i⟩
end Go.Proofs.YtjcbmcnbdegpmaaGreatDoor
namespace Go.Proofs.YtjcbmcnbdegpmaaGreatDoor
open Go Go.RowKit Go.Proofs.Gen Go.Proofs.Mod
variable{w:World}
structure ji(w:World):Prop where
 len: ∃m,w.cell? ⟨1,0,none⟩=some (.int .i64 m)
 tab:Lib.TabIs qj w "internal/strconv.uint64pow10" .u64 Lib.pow10Tab
 syn: ∃t p,w.cell? ⟨6,0,none⟩=some (.iface t p)
 rng: ∃t p,w.cell? ⟨7,0,none⟩=some (.iface t p)
theorem ji.near{w':World}(h:ji w)(c:Near w w'):ji w':=by
 have⟨⟨m,d⟩,a,⟨t,p,k⟩,j,f,i⟩:=h;refine⟨⟨m,c.cell d⟩,?_,⟨t,p,c.cell k⟩,j,f,c.cell i⟩;unfold Lib.TabIs World.var? at a⊢;have g:qj.globalNamed "internal/strconv.uint64pow10"=some 0:=by kernel_rfl
 rw [g]at a⊢;simp only [Option.bind_some]at a⊢
 cases b:w.heap[0]? with
 |none=>rw [b]at a;cases a
 |some o=>
  rw [c.block 0 (qk.1 b).1 (fun e=>e),b];rw [b]at a;exact a
theorem Zw(w:World)(k:Nat)(os:Array Obj):Near w (Go.Sort.grow (w.drewN k) os):=
 ⟨rfl,rfl,rfl,by simp [Go.Sort.grow,World.drewN],fun b a _=>by
   show(w.heap++os)[b]? =w.heap[b]?;rw [Array.getElem?_append_left a]⟩
theorem Vn{a:World}(h:Near w a){b:Nat}(c:w.heap.size<=b)(o n:Nat):Near w (a.freeze ⟨b,o,none⟩ n):=Near.of_below (Lib.below_freeze h.below c n)
theorem Gb(w:World)(e:TypeId)(s:ByteArray):Near w (Lib.bytesWorld w e s):=by
 unfold Lib.bytesWorld;exact Vn (((Near.refl w).drew).alloc _) (qt _) _ _
theorem Vg{l:List UInt8}{v:Int}(h:Lib.parseIntB 64 l= .ok v): -9223372036854775808<=v/\v<=9223372036854775807:=by
 cases l with
 |nil=>cases h
 |cons c r=>
  rw [Lib.parseIntB]at h;split at h
  .cases h
  .cases h
  .split at h
   .cases h
   .split at h
    .cases h
    .have:=Lib.NumEnd.ok.inj h
     split at this<;>omega
theorem uI(j:ji w){s:ByteArray}(y:s.size≤281474976710656):
 Calls qj 189 #[vf s] w fun e l=> ∃z,e=vm (.tuple #[ve vp z,vj (numB s).isSome])∧(∀v,numB s=some v→z=v)∧Near w l:=by
 have i:Hid (numB s=match Lib.parseIntB 64 s.data.toList with| .ok v=>if yY v=s.data.toList then some v else none|_=>none):=rfl;generalize numB s=f at i⊢
 cases d:Lib.parseIntB 64 s.data.toList with
 |ok v=>
  have⟨B,A⟩:=Vg d;have k:=q8 (fun l=>Any.strconv_ParseInt_10_at64_ok Ji s (by omega) v d l);have C:=q8 (fun l (b:ji l)=>Any.strconv_FormatInt_10 UO v B A l b.tab);have g:=q8 (show f=if yY v=s.data.toList then some v else none by rw [i.out,d]);have E:=q8 (Jn B A);have D:=q8 j;clear d i j;go_enter Tryz.func189,Tryz.ntmps189;go_upto_region 2 with(go_at_call 227;refine(k _).mono ?_;rintro e q ⟨rfl,m⟩;have a:Hid (Near w q):=m.elim (fun e=>e▸Near.refl w) fun⟨t,e⟩=>e▸Gb w _ t;clear m)
  go_wp2_with (go_at_call 47;refine(C _ (D.near a)).mono ?_;rintro e G ⟨rfl,H,r,n⟩;have u:Hid (Near w G):=a.trans (n▸Zw q H r);clear n)
  refine qo (v:= .tuple #[ve vp v,vj (Lib.itoa v==s.toList)]) (by simp [qC,Tryz.results189,go_sem]) rfl ⟨v,?_,fun x b=> ?_,u⟩
  ·have:(Lib.itoa v==s.toList)=f.isSome:=by
    rw [g.out,E.out,zp];by_cases h:yY v=s.data.toList
    ·rw [if_pos h,beq_iff_eq.2 h];rfl
    ·rw [if_neg h,beq_eq_false_iff_ne.2 h];rfl
   rw [this]
  ·rw [g.out]at b
   split at b
   ·exact zm b
   ·cases b
 |range=>
  have⟨t,p,o⟩:=j.rng;have k:=q8 (Any.strconv_ParseInt_10_at64_range Ji s y d _ w o (vv ⟨t,p,rfl⟩));have g:=q8 (show f=none by rw [i.out,d]);clear d i j o;generalize Lib.intSat 64 s.data.toList=z at k;go_enter Tryz.func189,Tryz.ntmps189;go_wp2_with (go_at_call 227;refine k.mono ?_;rintro e q ⟨N,rfl,-,-,c⟩;have a:=q8 (Near.of_below c);clear c)
  exact qo (v:= .tuple #[ve vp z,vj false]) (by simp [qC,Tryz.results189,go_sem]) rfl ⟨z,by rw [g.out];rfl,fun x b=>(by rw [g.out]at b;cases b),a⟩
 |_=>
  have⟨t,p,o⟩:=j.syn;have k:=q8 (Any.strconv_ParseInt_10_at64_syntax Ji s y d _ w o (vv ⟨t,p,rfl⟩));have g:=q8 (show f=none by rw [i.out,d]);clear d i j o;go_enter Tryz.func189,Tryz.ntmps189;go_wp2_with (go_at_call 227;refine k.mono ?_;rintro e q ⟨N,rfl,-,-,c⟩;have a:=q8 (Near.of_below c);clear c)
  exact qo (v:= .tuple #[ve vp 0,vj false]) (by simp [qC,Tryz.results189,go_sem]) rfl ⟨0,by rw [g.out];rfl,fun x b=>(by rw [g.out]at b;cases b),a⟩
end Go.Proofs.YtjcbmcnbdegpmaaGreatDoor
namespace Go.Proofs.YtjcbmcnbdegpmaaGreatDoor
open Go Go.RowKit Go.Proofs.Gen Go.Proofs.Mod
open Go.ChangeMaps Go.MapKept in
open Go.Maps (Keyed string_keyed)in
theorem q89(w:World){k1 k2 k3:ByteArray}(X:k1.size<=maxLen)(Q:k2.size<=maxLen)(R:k3.size<=maxLen)(o:k1≠k2)(y:k1≠k3)(q:k2≠k3)(G E A:Int):
 ∃I H j,yx qj (zA 244 (.map (some w.heap.size)) (vf k1) (ve vq G)) (w.alloc (.map #[] 0))= .ok () I/\
  yx qj (zA 244 (.map (some w.heap.size)) (vf k2) (ve vq E)) I= .ok () H/\
  yx qj (zA 244 (.map (some w.heap.size)) (vf k3) (ve vq A)) H= .ok () j/\Near w j/\
  ∀s:ByteArray,s.size<=maxLen->yx qj (yu 244 (.map (some w.heap.size)) (vf s) false) j= .ok (ve vq (if s=k1 then G else if s=k2 then E else if s=k3 then A else 0)) j:=by
 have K:Keyed qj 9:=string_keyed y9;have d: ∀{a b:ByteArray},a≠b->yb a≠yb b:=fun h e=>h (by cases e;rfl);have⟨l1,u⟩:=VE X;have⟨l2,x⟩:=VE Q;have⟨l3,r⟩:=VE R;have⟨D,V,S,L⟩:=(mapV.empty (P:=qj) (k:=9) (heap_new_at rfl:(w.alloc (.map #[] 0)).heap[w.heap.size]? =_)).store (t:=244) (e:=5) K ke (by decide) u (ve vq G);have⟨z,M,U,Y⟩:=L.store (t:=244) (e:=5) K ke (by decide) x (ve vq E);have⟨C,O,r3,i⟩:=Y.store (t:=244) (e:=5) K ke (by decide) r (ve vq A);have g: ∀{W:World}(J:Array MapEntry)(c:Nat),Kept (fun k=>w.heap.size<=k) w W->Kept (fun k=>w.heap.size<=k) w (setBlock W w.heap.size (.map J c)):=fun J c h=>jj h (fun _=>qt _) _;refine⟨_,_,_,S,U,r3,Kept.mono (g C O (g z M (g D V ((Kept.refl _ w).alloc _)))) (fun k g h=>by omega),fun s Z=> ?_⟩;have⟨l,f⟩:=VE Z;have m: ∀W:World,(zeroValue 5).run qj W= .ok (ve vq 0) W:=Tryz.zeroValue5;by_cases p:s=k1
 .subst p
  rw [if_pos rfl];exact i.hit K ke (m _) f (vv ⟨d y,vv ⟨d o,vu ⟨rfl,rfl⟩⟩⟩) false
 rw [if_neg p];by_cases B:s=k2
 .subst B
  rw [if_pos rfl];exact i.hit K ke (m _) f (vv ⟨d q,vu ⟨rfl,rfl⟩⟩) false
 rw [if_neg B];by_cases n:s=k3
 .subst n
  rw [if_pos rfl];exact i.hit K ke (m _) f (vu ⟨rfl,rfl⟩) false
 rw [if_neg n];refine i.miss K ke (m _) f (fun v N=> ?_) false;rcases N with⟨e,-⟩|⟨-,⟨e,-⟩|⟨-,⟨e,-⟩|⟨-,h⟩⟩⟩
 .exact d n e
 .exact d B e
 .exact d p e
 .exact h
theorem Ub{base B G N:Nat}{w:World}{r:RS}(h:xW base B G N w r)(hl:r.m.feats.length≤24){Sw:Nat→Prop}{V:Value}{f:List ByteArray}(J:RdL Sw 1 RdS w V f)(K:(wd f 0).size≤maxLen)(rest:ByteArray):
 Calls qj 128 #[vg B,V,vf rest] w (LPost base B G N w (childL r f)):=by
 have HA:=q8 (fun w' (h':xW base B G N w' r) x=>YL h' hl x)
 have P:=q8 (gd h (by omega) (wd f 1))
 have S:=q8 h
 have⟨a,b,c,d,e,gs,ts,ps,h⟩:=h
 obtain⟨a1,a2,b1,b2,c1,c2,d1,d2,X,U,rfl,rfl,rfl,rfl,rfl⟩:=h.forms
 have u:=q8 h
 have q0:=cell1 (o:=0) h.box rfl
 obtain⟨ao,ab,rfl⟩:=J.form
 have A:=q8 J
 have H:Hid (childL r f=if f.length=3 then(if r.m.feats.length=0 then(10,r)else if 0≤idxF r.m (wd f 1)then addsL r ⟨wd f 2,idxF r.m (wd f 1),kindW (wd f 0)⟩else(6,r))else(4,r)):=rfl
 generalize childL r f=D at H⊢
 clear h J
 by_cases E:f.length=3
 ·obtain⟨g,o,rfl,-⟩:=kt A (by omega)
  have O:=jz A (i:=1) (by omega)
  have L:(f.length:Int)=3:=by omega
  have C:((f.length:Int) !=3)=false:=by rw [bne_eq_false_iff_eq];omega
  have k:=q8 (H.trans (if_pos E))
  have ad:(1:Int)<f.length:=by omega
  by_cases z:r.m.feats.length=0
  ·have Q:(r.m.feats.length:Int)=0:=by omega
   have j:=q8 (k.trans (if_pos z))
   clear z
   go_enter Tryz.func128,Tryz.ntmps128
   go_wp2_with fail
   exact qo (v:=ve vp 10) (by simp [qC,Tryz.results128,go_sem]) rfl ⟨by rw [j.out];rfl,by rw [j.out];exact S,Kept.refl _ _⟩
  ·have Q: ¬(r.m.feats.length:Int)=0:=by omega
   have j:=q8 (k.trans (if_neg z))
   generalize idxF r.m (wd f 1)=p at P j
   clear z
   by_cases R:0≤p
   ·have M: ¬p<0:=by omega
    have l:=q8 (j.trans (if_pos R))
    go_enter Tryz.func128,Tryz.ntmps128
    go_upto_region 8 with(go_at_call 188;refine P.mono ?_;rintro e W ⟨rfl,n⟩)
    have⟨W1,W2,Y,r1,r2,r3,y,t⟩:=q89 W (k1:=⟨#[109,97,110,100,97,116,111,114,121]⟩) (k2:=⟨#[111,112,116,105,111,110,97,108]⟩) (k3:=⟨#[109,101,109,98,101,114]⟩) (by decide) (by decide) (by decide) (by decide) (by decide) (by decide) 2 3 4
    have ae:= @run_makeMap qj
    have m:=t (wd f 0) K
    have s:(if wd f 0=(⟨#[109,97,110,100,97,116,111,114,121]⟩:ByteArray)then(2:Int)else if wd f 0=⟨#[111,112,116,105,111,110,97,108]⟩then 3 else if wd f 0=⟨#[109,101,109,98,101,114]⟩then 4 else 0)=((kindW (wd f 0):Nat):Int):=by
     have X:gB=(⟨#[109,97,110,100,97,116,111,114,121]⟩:ByteArray):=by decide
     have U:Uq=(⟨#[111,112,116,105,111,110,97,108]⟩:ByteArray):=by decide
     have Z:Ur=(⟨#[109,101,109,98,101,114]⟩:ByteArray):=by decide
     unfold kindW
     rw [X,U,Z]
     repeat' split
     all_goals rfl
    rw [s]at m
    have af:Y.cell? (vw g o)=some (vf (wd f 0)):=by simpa using(n.trans y).cell (jz A (i:=0) (by omega))
    have q:=q8 (HA Y ⟨_,_,_,_,_,_,_,_,u.near (n.trans y)⟩ ⟨wd f 2,p,kindW (wd f 0)⟩)
    rw [←l.out]at q
    generalize kindW (wd f 0)=kd at m q
    have aa:=(n.trans y).cell (jz A (i:=2) (by omega))
    have I:=q8 (n.trans y)
    clear t O s
    go_wp2_with (go_at_call 187;refine q.mono ?_;rintro e w4 ⟨rfl,p4,k4⟩)
    exact qo (v:=ve vp D.1) (by simp [qC,Tryz.results128,go_sem]) rfl ⟨rfl,p4,I.kept.trans k4⟩
   ·have M:p<0:=by omega
    have l:=q8 (j.trans (if_neg R))
    clear R
    go_enter Tryz.func128,Tryz.ntmps128
    go_wp2_with (go_at_call 188;refine P.mono ?_;rintro e W ⟨rfl,n⟩)
    exact qo (v:=ve vp 6) (by simp [qC,Tryz.results128,go_sem]) rfl ⟨by rw [l.out];rfl,by rw [l.out];exact⟨_,_,_,_,_,_,_,_,u.near n⟩,n.kept⟩
 ·have C:((f.length:Int) !=3)=true:=by rw [bne_iff_ne];omega
  have k:=q8 (H.trans (if_neg E))
  have L: ¬(f.length:Int)=3:=by omega
  clear E
  go_enter Tryz.func128,Tryz.ntmps128
  go_wp2_with fail
  exact qo (v:=ve vp 4) (by simp [qC,Tryz.results128,go_sem]) rfl ⟨by rw [k.out];rfl,by rw [k.out];exact S,Kept.refl _ _⟩
end Go.Proofs.YtjcbmcnbdegpmaaGreatDoor
namespace Go.Proofs.YtjcbmcnbdegpmaaGreatDoor
open Go Go.RowKit Go.Proofs.Gen Go.Proofs.Mod
variable{f i:Nat}{w:World}
theorem q0I{a:ByteArray}(L:PFn a 280 [] (pNot f)):PFn a 279 [ve vp 3] (pRow (f+1) 3):=by
 intro w B t x Q l Y A;rw [pRow,if_pos rfl]at A;have O:=q8 (fun(q:World)(l:PAt q B a t)(J:B<q.heap.size)=>L l J A);have G:=q8 l;have H: ∀W,W=(w.alloc (vk #[ve vq 0,vf ⟨#[]⟩,vd none 0 0] 84)).alloc (vk #[vf ⟨#[124]⟩,ve vq 6,vf ⟨#[94]⟩,ve vq 7,vf ⟨#[38]⟩,ve vq 5] 340)→Near w W∧W.heap[w.heap.size]? =some (vk #[ve vq 0,vf ⟨#[]⟩,vd none 0 0] 84 (0,0)):=by
  rintro W rfl;exact⟨((Near.refl w).alloc _).alloc _,by rw [qD (by simp),heap_new_at rfl]⟩
 go_enter Tryz.func279,Tryz.ntmps279;go_upto_region 2 with fail
 have y:=H _ rfl;generalize(w.alloc (vk #[ve vq 0,vf ⟨#[]⟩,vd none 0 0] 84)).alloc (vk #[vf ⟨#[124]⟩,ve vq 6,vf ⟨#[94]⟩,ve vq 7,vf ⟨#[38]⟩,ve vq 5] 340)=W at y⊢;have⟨D,z⟩:=y;have s:=q8 D;have p:=q8 z;have I:w.heap.size<W.heap.size:=(qk.1 z).1;go_wp2_with (first
  |(go_at_call 280;refine(O _ (G.near s) (by omega)).mono ?_;rintro e P ⟨k,j,v,rfl,i,C,u,o,n,b,rfl⟩;have E:=q8 i;have K:=q8 C;have N:=q8 u;have c:=q8 (qQ u p (by omega));have⟨X,U,V,R,S,Z⟩:=ZW c))
 have⟨M,h,m,d⟩:=Yt c (ve vq k) (vf j) (vd o n b);exact qo (v:=vi #[ve vq k,vf j,vd o n b]) (by simp [qC,Tryz.results279,go_sem,M,h,m]) rfl ⟨k,j,_,rfl,E.kept d (fun g r e=>by omega) (fun g r=>by omega),K.keptB d (by omega),Kept.mono (Kept.trans (Kept.mono (Kept.trans s.kept N) (fun g _ e=>vu e)) (Kept.mono d (fun g _ e=>vv e)):Kept (fun g=>g=B∨g=w.heap.size) w _) (fun g r e=>by rcases e with e|e<;>omega),o,n,b,rfl⟩
theorem q4Y.single{base t:Nat}{m:Option Addr}{p:Pe}(h:q4Y base w (vd m [p].length t) [p]): ∃g d n c,m=some ⟨g,0,none⟩/\p.v=vd d n c/\w.cell? g=some (ve vq p.op)/\w.cell? (vw g 1)=some (vf p.nm)/\w.cell? (vw g 2)=some (vd d n c):=by
 have f: ∃d n c,p.v=vd d n c:=by
  have o:=h.2 p (qN.2 rfl);generalize p.ex=x at o
  cases x with
  |mk a b c=>
   have⟨v,e,r⟩:=o.inv;obtain⟨d,i,rfl⟩:=r.form;simp only [encP,List.cons.injEq,and_true]at e;exact⟨_,_,_,e.2.2⟩
 have⟨d,n,c,f⟩:=f;rcases h.1.2 with⟨_,e⟩|⟨g,i,s,e,_⟩
 .simp at e
 .simp only [qq]at e
  obtain⟨rfl,-,-⟩:=e;have k:=h.1.cells rfl;have l:=k 0 _ rfl;have q:=k 1 _ rfl;have j:=k 2 _ rfl;rw [Addr.add_lit]at l q j;rw [f]at j;exact⟨g,d,n,c,rfl,f,l,q,j⟩
def sg:Nat->ByteArray|0=>⟨#[124]⟩|1=>⟨#[94]⟩|_=>⟨#[38]⟩
theorem q74(i:Nat):bytesL (sg i)=rowSign i:=by
 match i with
 |0=>rfl
 |1=>rfl
 |i+2=>rfl
theorem q4F{b:Nat}(a:i<3)(h:w.heap[b]? =some (vk #[vf ⟨#[124]⟩,ve vq 6,vf ⟨#[94]⟩,ve vq 7,vf ⟨#[38]⟩,ve vq 5] 340 (0,0))):
 w.cell? (vw b (i*2))=some (vf (sg i))/\w.cell? (vw b (i*2+1))=some (ve vq (rowOp i:Nat)):=by
 match i,a with
 |0,_=>exact⟨cell1 h rfl,cell1 h rfl⟩
 |1,_=>exact⟨cell1 h rfl,cell1 h rfl⟩
 |2,_=>exact⟨cell1 h rfl,cell1 h rfl⟩
theorem row_step{d:ByteArray}(ai:d.size<4611686018427387904)(hf:f<1099511627776)(hi:i<3)(HR: ∀g,g≤f→PFn d 279 [ve vp ((i:Int)+1)] (pRow g (i+1))):PFn d 279 [ve vp (i:Nat)] (pRow (f+1) i):=by
 intro w B t x t' U hB G;rw [pRow,if_neg (by omega)]at G
 cases h1:pRow f (i+1) t with
 |none=>rw [h1]at G;cases G
 |some r1=>
 have⟨a,t1⟩:=r1;rw [h1]at G;replace G:(pMore f i [a] t1).bind (fun y=>some (oneOf (rowOp i) y.1,y.2))=some (x,t'):=G
 cases h2:pMore f i [a] t1 with
 |none=>rw [h2]at G;cases G
 |some r2=>
 have⟨Z,t2⟩:=r2;rw [h2]at G
 cases G;have bi:Z.length≤f+1∧1≤Z.length:=by have:=Jd h2;simp at this;omega
 have ap:=q8 h2;have a4:=q8 (fun(V:World)(U:PAt V B d t)(j:B<V.heap.size)=>HR f (qt _) U j h1);have bl:(0:Int)≤i:=by omega
 have bh:(i:Int)<3:=by omega
 have ba: ¬(i:Int)=3:=by omega
 have bc:((i:Int)==3)=false:=beq_eq_false_iff_ne.2 ba;have HP:=q8 U;have a5:=q8 HR;obtain⟨X,hX⟩: ∃X,X=oneOf (rowOp i) Z:=⟨_,rfl⟩;rw [←hX];have HX:=q8 hX;have hW: ∀W,W=(w.alloc (vk #[ve vq 0,vf ⟨#[]⟩,vd none 0 0] 84)).alloc (vk #[vf ⟨#[124]⟩,ve vq 6,vf ⟨#[94]⟩,ve vq 7,vf ⟨#[38]⟩,ve vq 5] 340)→Near w W∧W.heap[w.heap.size]? =some (vk #[ve vq 0,vf ⟨#[]⟩,vd none 0 0] 84 (0,0))∧W.heap[w.heap.size+1]? =some (vk #[vf ⟨#[124]⟩,ve vq 6,vf ⟨#[94]⟩,ve vq 7,vf ⟨#[38]⟩,ve vq 5] 340 (0,0)):=by
  rintro W rfl;exact⟨((Near.refl w).alloc _).alloc _,by rw [qD (by simp),heap_new_at rfl],by rw [heap_new_at (by simp)]⟩
 go_enter Tryz.func279,Tryz.ntmps279;go_upto_region 4 with fail
 have h0:=hW _ rfl;generalize(w.alloc (vk #[ve vq 0,vf ⟨#[]⟩,vd none 0 0] 84)).alloc (vk #[vf ⟨#[124]⟩,ve vq 6,vf ⟨#[94]⟩,ve vq 7,vf ⟨#[38]⟩,ve vq 5] 340)=W at h0⊢;have⟨hN,hR,hA⟩:=h0;have HN:=q8 hN;have am:=q8 hR;have HA:=q8 hA;have be:w.heap.size+1<W.heap.size:=(qk.1 hA).1;go_upto_region 5 with(first
  |(go_at_call 279;refine(a4 _ (HP.near HN) (by omega)).mono ?_;rintro e w1 ⟨op,nm,v,rfl,an,p1,k1,ao,n,aa,rfl⟩;have HO:=q8 (q4Y.one (p:=⟨op,nm,vd ao n aa,a⟩) (base:=W.heap.size) an (fun g o=>o) k1.size);have P1:=q8 (p1.near ((Near.refl w1).alloc (vk #[ve vq op,vf nm,vd ao n aa] 84)));have K1:=q8 (k1.alloc (vk #[ve vq op,vf nm,vd ao n aa] 84))))
 have⟨ak,ax,aq,a9,a0⟩:=info_parts VG;go_wp2_with fail
 go_loopw [6] (fun sv wr=> ∃(l:List Pe)(u:Nat)(s:St),u≤f∧q4Y W.heap.size wr sv l∧pMore u i (l.map Pe.ex) s=some (Z,t2)∧PAt wr B d s∧Kept (fun g=>g=B) W wr) (fun sv _=>Z.length - sliceLen sv)
 case atStart=>exact⟨[_],f,t1,qt _,HO,ap,P1,K1⟩
 case round=>
  have⟨l,u,s,bg,ho,j,ar,R⟩:=hrel
  cases u with
  |zero=>rw [pMore]at j;cases j
  |succ u=>
  have aw:=Jd j;rw [qG]at aw;rw [pMore]at j
  cases h3:yt (rowSign i) s with
  |none=>rw [h3]at j;cases j
  |some y=>
  have⟨b,s1⟩:=y;rw [h3]at j;replace j:(if b then(pRow u (i+1) s1).bind fun x=>pMore u i (l.map Pe.ex++[x.1]) x.2 else some (l.map Pe.ex,s1))=some (Z,t2):=j;have P:=q8 (fun(V:World)(U:PAt V B d s)=>jX U ai (sg i) (by rw [q74];exact h3));obtain⟨vo,vc,rfl⟩:=qR ho.1;obtain⟨c1,-⟩:=q4F hi (qQ R HA (by omega));have P2:=q8 ar;have K2:=q8 R;have af:=q8 ho;have bj:W.heap.size≤wr.heap.size:=R.size
  cases b with
  |true=>
   rw [if_pos rfl]at j
   cases h4:pRow u (i+1) s1 with
   |none=>rw [h4]at j;cases j
   |some y=>
   have⟨c,s2⟩:=y;rw [h4]at j;replace j:pMore u i (l.map Pe.ex++[c]) s2=some (Z,t2):=j;have a6:=q8 (fun(V:World)(U:PAt V B d s1)(j:B<V.heap.size)=>a5 u (by omega) U j h4);have K:=Jd j;rw [List.length_append,qG]at K;simp at K;have HB:=q8 j;go_wp2_with (first
    |(go_at_call 259;refine(P _ P2).mono ?_;rintro e M ⟨rfl,p2,A⟩;have P3:=q8 p2;have N:=q8 (Kept.trans K2 A);have m:=q8 (q4Y.kept af A (fun g o=>by omega));have al:wr.heap.size≤M.heap.size:=A.size)
    |(go_at_call 279;refine(a6 _ P3 (by omega)).mono ?_;rintro e w3 ⟨O,ae,v3,rfl,ay,p3,k3,Q,n3,C,rfl⟩;have a8:=q8 ay;have P4:=q8 p3;have K4:=q8 (Kept.trans N k3);have aj:=q8 (q4Y.kept m k3 (fun g o=>by omega));have bf:M.heap.size≤w3.heap.size:=k3.size;have z:=m.1.lt)
    |(at_builtin;go_must (refine xZ rfl (.tmp 26) (.tmp 31) 25 rfl W.heap.size 84 ak (vi #[ve vq 0,vf ⟨#[]⟩,vd none 0 0]) 3 48 Tryz.underlying25 ax aq a9 a0 rfl (by decide) (vd vo l.length vc) l.length (l.flatMap encP) rfl (aj.1.alloc _) _ 1 1 [ve vq O,vf ae,vd Q n3 C] rfl rfl (cells_at rfl _ _) (by simp [qX]) (by simp [maxLen];omega) (by omega) (by simp;omega) ?_;intro E bb w5 h5 g5 b5;have H5:=q8 h5;have G5:=q8 g5;have B5:=q8 b5)))
   have k5:Kept (fun g=>g=B) W w5:=Kept.grown (K4.alloc _) G5 (fun k hk h=>absurd h (by have:=z k hk;omega));have p5:PAt w5 B d s2:=P4.keptB (Kept.grown (S:=fun g=>(qw vo l.length vc).ownBlock=some g) (((Near.refl w3).alloc _).kept) G5 (fun k hk _=>hk)) (fun e=>by have:=z _ e;omega);exact⟨⟨l++[⟨O,ae,vd Q n3 C,c⟩],u,s2,by omega,q4Y.snoc (p:=⟨O,ae,vd Q n3 C,c⟩) aj a8 (fun g o=>⟨by omega,fun e=>by have:=z g e;omega⟩) H5 G5 B5,by rw [List.map_append];exact HB,p5,k5⟩,by simp only [sliceLen];omega⟩
  |false=>
   rw [if_neg (by decide)]at j
   cases j;by_cases J:l.length=1
   ·obtain⟨p,rfl⟩:=List.length_eq_one_iff.1 J
    go_wp2_with (go_at_call 259;refine(P _ P2).mono ?_;rintro e M ⟨rfl,p2,A⟩;have P3:=q8 p2;have N:=q8 (Kept.trans K2 A);have m:=q8 (q4Y.kept af A (fun g o=>by omega));have al:wr.heap.size≤M.heap.size:=A.size;obtain⟨g,E,n5,c5,rfl,au,y0,y1,y2⟩:=q4Y.single m;have ag:=q8 (qQ N am (by omega));have⟨r0,r1,r2,f0,f1,f2⟩:=ZW ag;have az:=q8 au)
    have⟨t0,H,I,L⟩:=Yt ag (ve vq p.op) (vf p.nm) (vd E n5 c5);have av:RdEx (fun g=>W.heap.size≤g) M [ve vq p.op,vf p.nm,vd E n5 c5] p.ex:=by
     have:=m.2 p (qN.2 rfl)
     rw [encP,az.out]at this;exact this.kept (Kept.refl (fun _=>False) M) (fun _ _ h=>h) (fun _ h=>h.1)
    rw [HX.out];exact qo (v:=vi #[ve vq p.op,vf p.nm,vd E n5 c5]) (by simp [qC,Tryz.results279,go_sem,t0,H,I]) rfl ⟨p.op,p.nm,_,rfl,av.kept L (fun g o e=>by omega) (fun g o=>by omega),P3.keptB L (by omega),Kept.mono (Kept.trans (Kept.mono (Kept.trans HN.kept N) (fun g _ e=>vu e)) (Kept.mono L (fun g _ e=>vv e)):Kept (fun g=>g=B∨g=w.heap.size) w _) (fun g o e=>by rcases e with e|e<;>omega),E,n5,c5,rfl⟩
   ·have Y: ¬(l.length:Int)=1:=by omega
    have a3:((l.length:Int)==1)=false:=beq_eq_false_iff_ne.2 Y;have a1:=q8 (show X=mk0 (rowOp i) (l.map Pe.ex) by
     rw [HX.out];match l,J with
     |[],_=>rfl
     |[p],h=>exact absurd rfl h
     |p::q::r,_=>rfl)
    go_wp2_with (first
     |(go_at_call 259;refine(P _ P2).mono ?_;rintro e M ⟨rfl,p2,A⟩;have P3:=q8 p2;have N:=q8 (Kept.trans K2 A);have m:=q8 (q4Y.kept af A (fun g o=>by omega));have al:wr.heap.size≤M.heap.size:=A.size;obtain⟨-,c2⟩:=q4F hi (qQ N HA (by omega)))
     |(go_at_call 261;refine(xa (op:=rowOp i) (q4Y.rd m)).mono ?_;rintro e w4 ⟨bm,rfl,D,n4⟩;obtain⟨bk,rfl,a7⟩:=D.inv;obtain⟨ad,ab,rfl⟩:=a7.form;have a2:=q8 D;have N4:=q8 n4;have ah:=q8 (qQ n4 (qQ N am (by omega)));have⟨r0,r1,r2,f0,f1,f2⟩:=ZW ah))
    have⟨t0,H,I,L⟩:=Yt ah (ve vq (rowOp i:Nat)) (vf ⟨#[]⟩) (vd ad (l.map Pe.ex).length ab);have D:=a2.out;rw [qG]at t0 H I L D;rw [a1.out];exact qo (v:=vi #[ve vq (rowOp i:Nat),vf ⟨#[]⟩,vd ad l.length ab]) (by simp [qC,Tryz.results279,go_sem,t0,H,I]) rfl ⟨_,⟨#[]⟩,_,rfl,D.kept L (fun g o e=>by omega) (fun g o=>by omega),(P3.near N4).keptB L (by omega),Kept.mono (Kept.trans (Kept.mono (Kept.trans HN.kept (Kept.trans N N4.kept)) (fun g _ e=>vu e)) (Kept.mono L (fun g _ e=>vv e)):Kept (fun g=>g=B∨g=w.heap.size) w _) (fun g o e=>by rcases e with e|e<;>omega),ad,_,ab,rfl⟩
end Go.Proofs.YtjcbmcnbdegpmaaGreatDoor
namespace Go.Proofs.YtjcbmcnbdegpmaaGreatDoor
open Go Go.RowKit Go.Proofs.Gen Go.Proofs.Mod
open Go.ChangeMaps Go.MapKept
open Go.Maps (Keyed int_keyed)
variable{k1 k2 k3:Nat}
theorem q7K{k:Nat}(h:k<256): ∃l,keyOf qj 5 (ve vq (k:Nat))=some l:=by
 have a:(Lit.int vq (k:Int)).wf=true:=WalkArith.wf_u8 ⟨by omega,by omega⟩;simp [keyOf,mapKey,jf,a]
def q09(k1 k2 k3:Nat)(v1 v2 v3:ByteArray):Value->Value->Prop:=putV (putV (putV (fun _ _=>False) (.int .u8 k1) (.string v1)) (.int .u8 k2) (.string v2)) (.int .u8 k3) (.string v3)
theorem q7i(w:World)(D:k1<256)(y:k2<256)(z:k3<256)(o n j:ByteArray):
 ∃q p g,yx qj (zA 102 (.map (some w.heap.size)) (ve vq k1) (vf o)) (w.alloc (.map #[] 0))= .ok () q/\
  yx qj (zA 102 (.map (some w.heap.size)) (ve vq k2) (vf n)) q= .ok () p/\
  yx qj (zA 102 (.map (some w.heap.size)) (ve vq k3) (vf j)) p= .ok () g/\Near w g/\mapV g qj 5 w.heap.size 3 (q09 k1 k2 k3 o n j):=by
 have K:Keyed qj 5:=int_keyed jf;have⟨J,d⟩:=q7K D;have⟨H,f⟩:=q7K y;have⟨I,b⟩:=q7K z;have⟨m,C,A,s⟩:=(mapV.empty (P:=qj) (k:=5) (heap_new_at rfl:(w.alloc (.map #[] 0)).heap[w.heap.size]? =_)).store (t:=102) (e:=9) K kf (by decide) d (vf o);have⟨i,u,B,E⟩:=s.store (t:=102) (e:=9) K kf (by decide) f (vf n);have⟨l,x,G,v⟩:=E.store (t:=102) (e:=9) K kf (by decide) b (vf j);have a: ∀{W:World}(r:Array MapEntry)(c:Nat),Kept (fun k=>w.heap.size<=k) w W->Kept (fun k=>w.heap.size<=k) w (setBlock W w.heap.size (.map r c)):=fun r c h=>jj h (fun _=>qt _) _;exact⟨_,_,_,A,B,G,Kept.mono (a l x (a i u (a m C ((Kept.refl _ w).alloc _)))) (fun k a h=>by omega),v⟩
theorem q1t{W:World}{b n:Nat}{r q p:ByteArray}(h:mapV W qj 5 b n (q09 k1 k2 k3 r q p))(j:k1≠k2)(g:k1≠k3)(m:k2≠k3){s:Nat}(t:s<256):
 yx qj (yu 102 (.map (some b)) (ve vq (s:Nat)) false) W= .ok (vf (if s=k1 then r else if s=k2 then q else if s=k3 then p else⟨#[]⟩)) W:=by
 have K:Keyed qj 5:=int_keyed jf;have c: ∀{a b:Nat},a≠b->qs vq (a:Int)≠qs vq (b:Int):=fun h e=>h (by simp only [qs.injEq,true_and]at e;omega);have⟨l,d⟩:=q7K t;have f: ∀W:World,(zeroValue 9).run qj W= .ok (vf ⟨#[]⟩) W:=Tryz.zeroValue9;by_cases k:s=k1
 .subst k
  rw [if_pos rfl];exact h.hit K kf (f _) d (vv ⟨c g,vv ⟨c j,vu ⟨rfl,rfl⟩⟩⟩) false
 rw [if_neg k];by_cases o:s=k2
 .subst o
  rw [if_pos rfl];exact h.hit K kf (f _) d (vv ⟨c m,vu ⟨rfl,rfl⟩⟩) false
 rw [if_neg o];by_cases i:s=k3
 .subst i
  rw [if_pos rfl];exact h.hit K kf (f _) d (vu ⟨rfl,rfl⟩) false
 rw [if_neg i];refine h.miss K kf (f _) d (fun v u=> ?_) false;rcases u with⟨e,-⟩|⟨-,⟨e,-⟩|⟨-,⟨e,-⟩|⟨-,h⟩⟩⟩
 .exact c i e
 .exact c o e
 .exact c k e
 .exact h
end Go.Proofs.YtjcbmcnbdegpmaaGreatDoor
