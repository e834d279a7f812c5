/- MSetB, MSetC, MSetD, MSets, MRGrp. -/
import Derived.Test.YtjcbmcnbdegpmaaGreatDoorKMSetA
set_option maxRecDepth 100000
set_option maxHeartbeats 12800000
set_option linter.unusedVariables false
set_option linter.unusedSimpArgs false
open Array renaming getElem?_eq_some_iff->qk
open Go renaming bodyPost_ret->qo,results->qC
open Go.Calls renaming quiet_of_same->vP
open Go.Lib renaming hid->q8
open Go.Proofs.Tryz renaming func76->Y8,ntmps76->QO,prog->qj,results76->jN
open Go.RowKit.Below renaming heap_setCell->zg
open Go.Value.slice renaming injEq->qq
open List renaming all_eq_true->qL,getElem?_eq_getElem->qi,getElem?_eq_some_iff->qm,getElem?_map->qA,mem_of_getElem?->qp,take_add_one->qU,take_length->qF
open Nat renaming le_refl->qt,le_trans->qH,lt_of_le_of_lt->zR,lt_of_lt_of_le->qu,zero_le->qv
open Go.Value renaming slice->vd,int->ve,string->vf,pointer->vg,agg->vi,bool->vj
open Go.Obj renaming cells->vk
open Go.Ending renaming returned->vm
open Go.IntKind renaming i64->vp,u8->vq,u32->vr,u64->vt
open Or renaming inl->vu,inr->vv
namespace Go.Proofs.YtjcbmcnbdegpmaaGreatDoor
open Go Go.RowKit Go.Proofs.Gen Go.Proofs.Mod
variable{S:Nat→Prop}{b d i j pn rel:Nat}{g:Grp}{l:List Int}{m:Mod}{v x:Value}{w:World}{z:Int}
theorem q0Z{a:Nat}(h:a<24):(2:Int)^a%4294967296=((2^a:Nat):Int)/\2^a<4294967296:=(by decide: ∀k:Fin 24,(2:Int)^ (k:Nat)%4294967296=((2^ (k:Nat):Nat):Int)/\2^ (k:Nat)<4294967296) ⟨a,h⟩
theorem Xr{x:Int}(h:l[j]? =some x):Jg (l.take (j+1))=Jg (l.take j)|||2^x.toNat:=by
 rw [qU,h];simp [Jg,List.foldl_append]
theorem q5x(h:RdMod S w v m)(hg:m.grps[i]? =some g)(hp:g.parent=(pn:Int))(ab:pn<24)(p: ∀x∈g.members,0≤x∧x.toNat<24)(R:g.members.length<1099511627776):Calls qj 76 #[v,vi #[ve vq 4,ve vp i]] w (jO w (fun c=> !c pn||q2T (Jg g.members) g.low g.members.length c)):=by
 obtain⟨a1,a2,b1,Y,c1,c2,C,B,e1,e2,rfl,-,hG,-⟩:=RdMod.form h;have ae:(i:Int)<m.grps.length:=by have:=(qm.1 hg).1;omega
 have⟨gp,J,f,d⟩:=g;dsimp only at hp p R⊢;subst hp;obtain⟨r,q,k,l,rfl,g0,g1,g2,g3,s⟩: ∃r q k l,b1=some ⟨r,q,none⟩∧w.cell? (vw r (q+i*4))=some (ve vp (pn:Nat))∧w.cell? (vw r (q+i*4+1))=some (ve vp J)∧w.cell? (vw r (q+i*4+2))=some (ve vp f)∧w.cell? (vw r (q+i*4+3))=some (vd k d.length l)∧RdL S 1 RdI w (vd k d.length l) d:=by
  have⟨Z,I,e,P⟩:=hG;obtain⟨b,o,vs,y,-,a,hv⟩:=P i _ hg;simp only [qq,true_and]at e;obtain⟨rfl,rfl⟩:=e;obtain⟨sv,rfl,hs,-⟩:=hv;obtain⟨k,l,rfl⟩:=hs.form;exact⟨b,o,k,l,y,a 0 _ rfl,a 1 _ rfl,a 2 _ rfl,a 3 _ rfl,hs⟩
 have hW:= @kE w #[vd a1 m.feats.length a2,vd (some ⟨r,q,none⟩) m.grps.length Y,vd c1 m.atts.length c2,vd C m.reqs.length B,vd e1 m.lims.length e2] #[ve vq 4,ve vp i];have O:=q8 s;have E:=q8 p;have L:Jg d<4294967296:=qu (Qn (n:=24) fun x t=>(p x t).2) (by decide);have U:=q8 L;clear h hg s p L hG;go_enter Y8,QO;go_upto_region 1 with fail
 have h1:=hW _ rfl;generalize((w.alloc (vk #[vd a1 m.feats.length a2,vd (some ⟨r,q,none⟩) m.grps.length Y,vd c1 m.atts.length c2,vd C m.reqs.length B,vd e1 m.lims.length e2] 28)).alloc (vk #[ve vq 4,ve vp i] 66)).alloc (vk #[vd none 0 0,ve vp 0] 43)=W at h1⊢;have⟨A,hA,Q,hC⟩:=h1;have q0:W.cell? (vw (w.heap.size+1) 0)=some (ve vq 4):=cell1 Q rfl;have q1:W.cell? (vw (w.heap.size+1) 1)=some (ve vp i):=cell1 Q rfl;have p1:W.cell? (vw w.heap.size 1)=some (vd (some ⟨r,q,none⟩) m.grps.length Y):=cell1 hA rfl;have k0:=A.cell g0;have k1:=A.cell g1;have k2:=A.cell g2;have k3:=A.cell g3;have HN:=q8 A;have HB:=q8 Q;have HC:=q8 hC;clear hW A hA Q hC g0 g1 g2 g3;go_upto_region 11 with fail
 have hV: ∀V,V=W.alloc (vk #[ve vp pn,ve vp J,ve vp f,vd k d.length l] 78)→Near W V∧V.heap[W.heap.size]? =some (vk #[ve vp pn,ve vp J,ve vp f,vd k d.length l] 78 (0,0)):=by
  rintro V rfl;exact⟨(Near.refl W).alloc _,heap_new_at rfl⟩
 have h2:=hV _ rfl;generalize W.alloc (vk #[ve vp pn,ve vp J,ve vp f,vd k d.length l] 78)=V at h2⊢;have⟨z,D⟩:=h2;have x0:V.cell? W.heap.size=some (ve vp (pn:Nat)):=cell1 D rfl;have x1:V.cell? (vw W.heap.size 1)=some (ve vp J):=cell1 D rfl;have x2:V.cell? (vw W.heap.size 2)=some (ve vp f):=cell1 D rfl;have x3:V.cell? (vw W.heap.size 3)=some (vd k d.length l):=cell1 D rfl;have r0:V.cell? (vw (w.heap.size+1) 0)=some (ve vq 4):=z.cell q0;have N:=q8 (HN.trans z);have aa:=q8 (qE z HC);clear hV z D q0 q1 p1 k0 k1 k2 k3;go_wp2_with fail
 go_loop [6,63] (fun mk ix=> ∃j:Nat,j≤d.length∧ix=ve vp j∧mk=ve vr (Jg (d.take j):Nat)) (fun _ ix=>d.length - (intOf ix).toNat)
 case atStart=>exact⟨0,qv _,rfl,rfl⟩
 case round=>
  obtain⟨j,hj,rfl,rfl⟩:=hrel;by_cases H:j<d.length
  ·have ad:(j:Int)<d.length:=by omega
   obtain⟨M,t⟩: ∃x,d[j]? =some x:=⟨_,qi H⟩;have⟨Z,I,e,P⟩:=O.out;obtain⟨b,o,vs,y,-,a,hv⟩:=P j M t;obtain rfl:vs=[ve vp M]:=hv;simp only [qq,true_and]at e;obtain⟨rfl,rfl⟩:=e;subst y;have⟨y1,y2⟩:=E M (qp t);obtain⟨G,rfl⟩: ∃n:Nat,M=n:=⟨M.toNat,by omega⟩;have z0:V.cell? (vw b (o+j))=some (ve vp (G:Nat)):=N.cell (by simpa using a 0 _ rfl);have X:=q8 (Xr t);clear P a t;have u:=q0Z (show G<24 by omega);have K:=u.2;have HP:=q8 u.1;have HU:=q8 (Go.Proofs.Gen.u32_or (Jg (d.take j)) (2^G) (qu (Qn (n:=24) fun x t=>(E x (List.mem_of_mem_take t)).2) (by decide)) K);clear K u;go_wp2_with fail
   exact⟨⟨j+1,H,by go_num,by rw [X.out,show((G:Int)).toNat=G by omega,HP.out,HU.out]⟩,by simp [intOf];omega⟩
  ·obtain rfl:j=d.length:=by omega
   rw [qF];go_upto_region 17 with fail
   go_quiet (fail)
   go_wp2_with (first
    |(go_at_call 147;refine(hasM_calls pn ab _).mono ?_;rintro e w1 ⟨v1,rfl,C,n1⟩;have D1:=q8 C;obtain⟨u1,u2,u3,u4,rfl⟩:=C.form;clear C;have N1:=q8 (Near.trans (by first|exact(Near.refl V).drewN _|exact((Near.refl V).drewN _).drewN _) n1:Near V w1))
    |(go_at_call 77;refine(not_f D1).mono ?_;rintro e w2 ⟨v2,rfl,B,z⟩;have D2:=q8 B;obtain⟨u5,u6,u7,u8,rfl⟩:=B.form;clear B;have N2:=q8 (N1.trans z))
    |(go_at_call 149;refine(Ko U _ _ _).mono ?_;rintro e w3 ⟨v3,rfl,d3,n3⟩;have D3:=q8 d3;obtain⟨y1,y2,y3,y4,rfl⟩:=d3.form;clear d3;have N3:=q8 (N2.trans n3))
    |(go_at_call 148;refine(q5N (D2.near n3) D3).mono ?_;rintro e w4 ⟨v4,rfl,d4,n4⟩;have D4:=q8 d4;obtain⟨y5,y6,y7,y8,rfl⟩:=d4.form;clear d4;have N4:=q8 (N3.trans n4);have hR:=qE (N3.trans n4) aa;have HR:=q8 hR;have⟨t0,t1,f0,f1⟩:=ym hR;clear hR))
   have⟨t2,t3⟩:=yE HR (vd y5 y6 y7) (ve vp y8);exact qo (v:=vi #[vd y5 y6 y7,ve vp y8]) (by simp [qC,jN,go_sem,t2,t3]) rfl (yN (N.trans N4) (by omega) HR D4)
theorem q3e(h:RdMod S w v m)(hg:m.grps[i]? =some g)(hp:g.parent=(pn:Int))(ab:pn<24)(p: ∀x∈g.members,0≤x∧x.toNat<24)(R:g.members.length<1099511627776):Calls qj 76 #[v,vi #[ve vq 5,ve vp i]] w (jO w (fun c=> !c pn||q2T (Jg g.members) 0 g.high c)):=by
 obtain⟨a1,a2,b1,Y,c1,c2,C,B,e1,e2,rfl,-,hG,-⟩:=RdMod.form h;have ae:(i:Int)<m.grps.length:=by have:=(qm.1 hg).1;omega
 have⟨gp,J,f,d⟩:=g;dsimp only at hp p R⊢;subst hp;obtain⟨r,q,k,l,rfl,g0,g1,g2,g3,s⟩: ∃r q k l,b1=some ⟨r,q,none⟩∧w.cell? (vw r (q+i*4))=some (ve vp (pn:Nat))∧w.cell? (vw r (q+i*4+1))=some (ve vp J)∧w.cell? (vw r (q+i*4+2))=some (ve vp f)∧w.cell? (vw r (q+i*4+3))=some (vd k d.length l)∧RdL S 1 RdI w (vd k d.length l) d:=by
  have⟨Z,I,e,P⟩:=hG;obtain⟨b,o,vs,y,-,a,hv⟩:=P i _ hg;simp only [qq,true_and]at e;obtain⟨rfl,rfl⟩:=e;obtain⟨sv,rfl,hs,-⟩:=hv;obtain⟨k,l,rfl⟩:=hs.form;exact⟨b,o,k,l,y,a 0 _ rfl,a 1 _ rfl,a 2 _ rfl,a 3 _ rfl,hs⟩
 have hW:= @kE w #[vd a1 m.feats.length a2,vd (some ⟨r,q,none⟩) m.grps.length Y,vd c1 m.atts.length c2,vd C m.reqs.length B,vd e1 m.lims.length e2] #[ve vq 5,ve vp i];have O:=q8 s;have E:=q8 p;have L:Jg d<4294967296:=qu (Qn (n:=24) fun x t=>(p x t).2) (by decide);have U:=q8 L;clear h hg s p L hG;go_enter Y8,QO;go_upto_region 1 with fail
 have h1:=hW _ rfl;generalize((w.alloc (vk #[vd a1 m.feats.length a2,vd (some ⟨r,q,none⟩) m.grps.length Y,vd c1 m.atts.length c2,vd C m.reqs.length B,vd e1 m.lims.length e2] 28)).alloc (vk #[ve vq 5,ve vp i] 66)).alloc (vk #[vd none 0 0,ve vp 0] 43)=W at h1⊢;have⟨A,hA,Q,hC⟩:=h1;have q0:W.cell? (vw (w.heap.size+1) 0)=some (ve vq 5):=cell1 Q rfl;have q1:W.cell? (vw (w.heap.size+1) 1)=some (ve vp i):=cell1 Q rfl;have p1:W.cell? (vw w.heap.size 1)=some (vd (some ⟨r,q,none⟩) m.grps.length Y):=cell1 hA rfl;have k0:=A.cell g0;have k1:=A.cell g1;have k2:=A.cell g2;have k3:=A.cell g3;have HN:=q8 A;have HB:=q8 Q;have HC:=q8 hC;clear hW A hA Q hC g0 g1 g2 g3;go_upto_region 11 with fail
 have hV: ∀V,V=W.alloc (vk #[ve vp pn,ve vp J,ve vp f,vd k d.length l] 78)→Near W V∧V.heap[W.heap.size]? =some (vk #[ve vp pn,ve vp J,ve vp f,vd k d.length l] 78 (0,0)):=by
  rintro V rfl;exact⟨(Near.refl W).alloc _,heap_new_at rfl⟩
 have h2:=hV _ rfl;generalize W.alloc (vk #[ve vp pn,ve vp J,ve vp f,vd k d.length l] 78)=V at h2⊢;have⟨z,D⟩:=h2;have x0:V.cell? W.heap.size=some (ve vp (pn:Nat)):=cell1 D rfl;have x1:V.cell? (vw W.heap.size 1)=some (ve vp J):=cell1 D rfl;have x2:V.cell? (vw W.heap.size 2)=some (ve vp f):=cell1 D rfl;have x3:V.cell? (vw W.heap.size 3)=some (vd k d.length l):=cell1 D rfl;have r0:V.cell? (vw (w.heap.size+1) 0)=some (ve vq 5):=z.cell q0;have N:=q8 (HN.trans z);have aa:=q8 (qE z HC);clear hV z D q0 q1 p1 k0 k1 k2 k3;go_wp2_with fail
 go_loop [6,63] (fun mk ix=> ∃j:Nat,j≤d.length∧ix=ve vp j∧mk=ve vr (Jg (d.take j):Nat)) (fun _ ix=>d.length - (intOf ix).toNat)
 case atStart=>exact⟨0,qv _,rfl,rfl⟩
 case round=>
  obtain⟨j,hj,rfl,rfl⟩:=hrel;by_cases H:j<d.length
  ·have ad:(j:Int)<d.length:=by omega
   obtain⟨M,t⟩: ∃x,d[j]? =some x:=⟨_,qi H⟩;have⟨Z,I,e,P⟩:=O.out;obtain⟨b,o,vs,y,-,a,hv⟩:=P j M t;obtain rfl:vs=[ve vp M]:=hv;simp only [qq,true_and]at e;obtain⟨rfl,rfl⟩:=e;subst y;have⟨y1,y2⟩:=E M (qp t);obtain⟨G,rfl⟩: ∃n:Nat,M=n:=⟨M.toNat,by omega⟩;have z0:V.cell? (vw b (o+j))=some (ve vp (G:Nat)):=N.cell (by simpa using a 0 _ rfl);have X:=q8 (Xr t);clear P a t;have u:=q0Z (show G<24 by omega);have K:=u.2;have HP:=q8 u.1;have HU:=q8 (Go.Proofs.Gen.u32_or (Jg (d.take j)) (2^G) (qu (Qn (n:=24) fun x t=>(E x (List.mem_of_mem_take t)).2) (by decide)) K);clear K u;go_wp2_with fail
   exact⟨⟨j+1,H,by go_num,by rw [X.out,show((G:Int)).toNat=G by omega,HP.out,HU.out]⟩,by simp [intOf];omega⟩
  ·obtain rfl:j=d.length:=by omega
   rw [qF];go_upto_region 17 with fail
   go_quiet (fail)
   go_upto_region 19 with fail
   go_quiet (fail)
   go_wp2_with (first
    |(go_at_call 147;refine(hasM_calls pn ab _).mono ?_;rintro e w1 ⟨v1,rfl,C,n1⟩;have D1:=q8 C;obtain⟨u1,u2,u3,u4,rfl⟩:=C.form;clear C;have N1:=q8 (Near.trans (by first|exact(Near.refl V).drewN _|exact((Near.refl V).drewN _).drewN _) n1:Near V w1))
    |(go_at_call 77;refine(not_f D1).mono ?_;rintro e w2 ⟨v2,rfl,B,z⟩;have D2:=q8 B;obtain⟨u5,u6,u7,u8,rfl⟩:=B.form;clear B;have N2:=q8 (N1.trans z))
    |(go_at_call 149;refine(Ko U _ _ _).mono ?_;rintro e w3 ⟨v3,rfl,d3,n3⟩;have D3:=q8 d3;obtain⟨y1,y2,y3,y4,rfl⟩:=d3.form;clear d3;have N3:=q8 (N2.trans n3))
    |(go_at_call 148;refine(q5N (D2.near n3) D3).mono ?_;rintro e w4 ⟨v4,rfl,d4,n4⟩;have D4:=q8 d4;obtain⟨y5,y6,y7,y8,rfl⟩:=d4.form;clear d4;have N4:=q8 (N3.trans n4);have hR:=qE (N3.trans n4) aa;have HR:=q8 hR;have⟨t0,t1,f0,f1⟩:=ym hR;clear hR))
   have⟨t2,t3⟩:=yE HR (vd y5 y6 y7) (ve vp y8);exact qo (v:=vi #[vd y5 y6 y7,ve vp y8]) (by simp [qC,jN,go_sem,t2,t3]) rfl (yN (N.trans N4) (by omega) HR D4)
theorem ZV{a:World}{p q y:Value}{f:F}{o:Obj}(e:a.heap[b]? =some (vk #[p,q] 43 (0,0)))(j:a.heap[d]? =some o)(c:d≠b)(g:IsF a (vi #[x,y]) f):
 ((a.setCell b x).setCell (vw b 1) y).cell? b=some x/\((a.setCell b x).setCell (vw b 1) y).cell? (vw b 1)=some y/\((a.setCell b x).setCell (vw b 1) y).heap[d]? =some o/\IsF ((a.setCell b x).setCell (vw b 1) y) (vi #[x,y]) f:=by
 have⟨h,i⟩:=yE e x y;exact⟨h,i,((zg _ _ _ _ c).trans (zg _ _ _ _ c)).trans j,yJ g e⟩
theorem q5w(h:RdMod S w v m)(hS: ∀g,S g→g<w.heap.size)(K:vC m){x:Ex}(hx:m.reqs[i]? =some x):Calls qj 76 #[v,vi #[ve vq 6,ve vp i]] w (jO w (fun c=>truth m.names c x)):=by
 have ad:=q8 (fun(a:World)(hn:Near w a)=>kI (h.kept hn (fun _ _ h=>h) (fun _ h=>h)) (by have:=K.n24;omega));obtain⟨a1,a2,b1,b2,c1,c2,d1,B,e1,e2,rfl,-,-,-,hQ,-⟩:=RdMod.form h;have aj:(i:Int)<m.reqs.length:=by have:=(qm.1 hx).1;omega
 have ag:m.names.length≤24:=by have:=K.n24;simpa [Mod.names]using this
 have ae: ∀(i:Nat) s,m.names[i]? =some s→nameB s=true∧hasN (m.names.take i) s=false:=fun i s D=>by
  unfold Mod.names at D;rw [qA]at D
  cases hf:m.feats[i]? with
  |none=>rw [hf]at D;cases D
  |some f=>
   rw [hf]at D
   cases D;exact⟨(K.feat i f hf).1,(K.feat i f hf).2.1⟩
 obtain⟨k,d,V,rfl,g0,hv⟩: ∃k d V,d1=some ⟨k,d,none⟩∧(∀j u,V[j]? =some u→w.cell? (vw k (d+i*3+j))=some u)∧RdEx S w V x:=by
  have⟨ai,ah,e,hc⟩:=hQ;obtain⟨b,o,V,af,-,J,hv⟩:=hc i _ hx;simp only [qq,true_and]at e;obtain⟨rfl,rfl⟩:=e;exact⟨b,o,V,af,J,hv⟩
 have HD:=q8 (fun(a:World)(hn:Near w a)(ao:Option Addr)(U:Nat)(T:Nat→Prop)(aa:RdL T 1 RdS a (vd ao m.names.length U) m.names)(R:m.names.length≤U)=>VQ aa R ag ae (hv.kept hn (fun _ _ h=>h) (fun _ h=>h)) (fun g hg=>qu (hS g hg) hn.size) (K.req i x hx).1 (K.req i x hx).2);have⟨op,nm,kd⟩:=x;obtain⟨sv,rfl,D⟩:=hv.inv;obtain⟨so,sc,rfl⟩:=D.form;have hW:= @kE w #[vd a1 m.feats.length a2,vd b1 m.grps.length b2,vd c1 m.atts.length c2,vd (some ⟨k,d,none⟩) m.reqs.length B,vd e1 m.lims.length e2] #[ve vq 6,ve vp i];have l0:w.cell? (vw k (d+i*3))=some (ve vq op):=g0 0 _ rfl;have l1:w.cell? (vw k (d+i*3+1))=some (vf nm):=g0 1 _ rfl;have l2:w.cell? (vw k (d+i*3+2))=some (vd so kd.length sc):=g0 2 _ rfl;go_enter Y8,QO;go_upto_region 1 with fail
 have h1:=hW _ rfl;generalize((w.alloc (vk #[vd a1 m.feats.length a2,vd b1 m.grps.length b2,vd c1 m.atts.length c2,vd (some ⟨k,d,none⟩) m.reqs.length B,vd e1 m.lims.length e2] 28)).alloc (vk #[ve vq 6,ve vp i] 66)).alloc (vk #[vd none 0 0,ve vp 0] 43)=W at h1⊢;have⟨hN,hA,hB,hC⟩:=h1;have q0:W.cell? (vw (w.heap.size+1) 0)=some (ve vq 6):=cell1 hB rfl;have k0:=hN.cell l0;have k1:=hN.cell l1;have k2:=hN.cell l2;have A:=q8 hN;have Y:=q8 hA;have HB:=q8 hB;have O:=q8 hC;have ab: ∀a,Near W a→a.cell? (vw (w.heap.size+1) 1)=some (ve vp i)∧a.cell? w.heap.size=some (vd a1 m.feats.length a2)∧a.cell? (vw w.heap.size 1)=some (vd b1 m.grps.length b2)∧a.cell? (vw w.heap.size 2)=some (vd c1 m.atts.length c2)∧a.cell? (vw w.heap.size 3)=some (vd (some ⟨k,d,none⟩) m.reqs.length B)∧a.cell? (vw w.heap.size 4)=some (vd e1 m.lims.length e2)∧a.cell? (vw k (d+i*3))=some (ve vq op)∧a.cell? (vw k (d+i*3+1))=some (vf nm)∧a.cell? (vw k (d+i*3+2))=some (vd so kd.length sc):=fun a h=>⟨cell1 (qQ h HB) rfl,cell1 (qQ h Y) rfl,cell1 (qQ h Y) rfl,cell1 (qQ h Y) rfl,cell1 (qQ h Y) rfl,cell1 (qQ h Y) rfl,h.cell k0,h.cell k1,h.cell k2⟩;go_upto_region 22 with fail
 go_region_held3 (fun a=>a.cell? (vw (w.heap.size+1) 1)=some (ve vp i)∧a.cell? w.heap.size=some (vd a1 m.feats.length a2)∧a.cell? (vw w.heap.size 1)=some (vd b1 m.grps.length b2)∧a.cell? (vw w.heap.size 2)=some (vd c1 m.atts.length c2)∧a.cell? (vw w.heap.size 3)=some (vd (some ⟨k,d,none⟩) m.reqs.length B)∧a.cell? (vw w.heap.size 4)=some (vd e1 m.lims.length e2)∧a.cell? (vw k (d+i*3))=some (ve vq op)∧a.cell? (vw k (d+i*3+1))=some (vf nm)∧a.cell? (vw k (d+i*3+2))=some (vd so kd.length sc))
  ((refine ab _ ?_;first|exact(z.set l _).set l _|exact z.alloc _|exact z|exact H.alloc _|exact H|exact(Near.refl _).drew|exact((Near.refl _).alloc _).drew))
  (first
    |(go_at_call 26;refine(ad _ (A.trans (by first|exact(Near.refl _).drew|exact((Near.refl _).alloc _).drew))).mono ?_;rintro e I ⟨v1,rfl,o1,n1⟩;obtain⟨no,nc,rfl⟩:=qR o1;have G:=q8 (RdL.strings o1);have E:=q8 (Z4 o1);have H:Near W I:=Near.trans (by first|exact(Near.refl _).drew|exact((Near.refl _).alloc _).drew) n1)
    |(go_at_call 150;refine(HD (I.alloc _) (A.trans (H.alloc _)) _ _ _ (G.kept ((Near.refl I).alloc _) (fun _ _ h=>h) (fun _ h=>h) (fun _ _ h=>h)) E).mono ?_;rintro e w2 ⟨v2,rfl,B,L⟩;have D2:=q8 B;obtain⟨r,n,t,q,rfl⟩:=B.form;have z:Near W w2:=(H.alloc _).trans L;have l:W.heap.size≤I.heap.size:=H.size;have M:=qE L (heap_new_at rfl);have HX:=q8 M;have⟨r0,r1,f0,f1⟩:=ym M)
    |(go_at_call 150;refine(HD I (A.trans H) _ _ _ G E).mono ?_;rintro e w2 ⟨v2,rfl,B,L⟩;have D2:=q8 B;obtain⟨r,n,t,q,rfl⟩:=B.form;have z:Near W w2:=H.trans L;first|(have M:=qE (n1.trans L) (show((W.alloc (vk #[vd none 0 0,ve vp 0] 43)).drew).heap[W.heap.size]? =some (vk #[vd none 0 0,ve vp 0] 43 (0,0))from heap_new_at rfl);have HX:=q8 M;have l:W.heap.size≤W.heap.size:=qt _;have⟨r0,r1,f0,f1⟩:=ym M)|skip))
 ·have X:=q8 ((A.trans z).alloc (vk #[vd r n t,ve vp q] 43))
  have C:=q8 (qE (z.alloc (vk #[vd r n t,ve vp q] 43)) O);have P:=q8 (D2.near ((Near.refl w2).alloc (vk #[vd r n t,ve vp q] 43)));have⟨s0,s1,s2,s3⟩:=ym C;go_wp2_with fail
  have⟨Q,N⟩:=yE C (vd r n t) (ve vp q);exact qo (v:=vi #[vd r n t,ve vp q]) (by simp [qC,jN,go_sem,Q,N]) rfl (yN X (by omega) C P)
 ·have⟨u0,u1,Z,dV⟩:=ZV (x:=vd r n t) (y:=ve vp q) HX (qE z O) (by have:=(qk.1 O).1;have:=z.size;omega) D2
  have C:=q8 Z;have P:=q8 dV;have X:=q8 (((A.trans z).set (p:=I.heap.size) (qH A.size l) (vd r n t)).set (p:=vw I.heap.size 1) (qH A.size l) (ve vp q));have⟨s0,s1,s2,s3⟩:=ym Z;go_wp2_with fail
  have⟨Q,N⟩:=yE C (vd r n t) (ve vp q);exact qo (v:=vi #[vd r n t,ve vp q]) (by simp [qC,jN,go_sem,Q,N]) rfl (yN X (by omega) C P)
 ·have⟨u0,u1,Z,dV⟩:=ZV (x:=vd r n t) (y:=ve vp q) HX (qE z O) (by have:=(qk.1 O).1;have:=z.size;omega) D2
  have C:=q8 Z;have P:=q8 dV;have X:=q8 (((A.trans z).set (p:=W.heap.size) (qH A.size l) (vd r n t)).set (p:=vw W.heap.size 1) (qH A.size l) (ve vp q));have⟨s0,s1,s2,s3⟩:=ym Z;go_wp2_with fail
  have⟨Q,N⟩:=yE C (vd r n t) (ve vp q);exact qo (v:=vi #[vd r n t,ve vp q]) (by simp [qC,jN,go_sem,Q,N]) rfl (yN X (by omega) C P)
theorem RdL.ints{S:Nat->Prop}(h:RdL S 1 RdI w v l):vO w v l:=by
 have⟨d,a,e,c⟩:=h;refine⟨d,a,e,fun k x f=> ?_⟩;have⟨g,o,m,i,_,j,b⟩:=c k x f;exact⟨g,o,i,by have:=j 0 _ (by rw [b];rfl);simpa using this⟩
theorem q7j(a:l.length<=24)(b:l.all costB=true)(e:1<=rel)(c:rel<=3):LinOk l rel:=by
 refine⟨⟨a,fun x d=> ?_⟩,e,c⟩
 have:=qL.1 b x d
 unfold costB at this;simpa using this
theorem q5y(h:RdMod S w v m){g:Nat}{k:Int}{nm:ByteArray}{a:List Int}(hx:m.lims[i]? =some ⟨(g:Int),rel,k⟩)(ha:m.atts[g]? =some ⟨nm,a⟩)(M:LinOk a rel):Calls qj 76 #[v,vi #[ve vq 7,ve vp i]] w (jO w (linF a rel k)):=by
 obtain⟨a1,a2,b1,b2,c1,Q,d1,L,e1,U,rfl,-,-,hT,-,hL,-⟩:=RdMod.form h;have ad:(i:Int)<m.lims.length:=by have:=(qm.1 hx).1;omega
 have ab:(g:Int)<m.atts.length:=by have:=(qm.1 ha).1;omega
 obtain⟨A,z,rfl,g0,g1,g2⟩: ∃A z,e1=some ⟨A,z,none⟩∧w.cell? (vw A (z+i*3))=some (ve vp (g:Nat))∧w.cell? (vw A (z+i*3+1))=some (ve vq rel)∧w.cell? (vw A (z+i*3+2))=some (ve vp k):=by
  have⟨X,J,e,hc⟩:=hL;obtain⟨b,o,vs,D,-,c,hv⟩:=hc i _ hx;simp only [qq,true_and]at e;obtain⟨rfl,rfl⟩:=e;obtain rfl:vs=[ve vp (g:Nat),ve vq rel,ve vp k]:=hv;exact⟨b,o,D,c 0 _ rfl,c 1 _ rfl,c 2 _ rfl⟩
 obtain⟨s,d,u,t,rfl,g5,I⟩: ∃s d u t,c1=some ⟨s,d,none⟩∧w.cell? (vw s (d+g*2+1))=some (vd u a.length t)∧RdL S 1 RdI w (vd u a.length t) a:=by
  have⟨X,J,e,hc⟩:=hT;obtain⟨b,o,vs,D,-,c,hv⟩:=hc g _ ha;simp only [qq,true_and]at e;obtain⟨rfl,rfl⟩:=e;obtain⟨sv,rfl,hs⟩:=hv;obtain⟨u,t,rfl⟩:=hs.form;exact⟨b,o,u,t,D,c 1 _ rfl,hs⟩
 have N:=q8 (fun(f:World)(hn:Near w f)=>((q3K (RdL.ints (I.kept hn (fun _ _ h=>h) (fun _ h=>h) (fun _ _ h=>h)))).mono (fun e E ⟨v,K,O,h3⟩=>⟨v,by rw [if_pos M]at K;exact K,by rw [if_pos M]at O;exact O,h3⟩):Calls qj 151 #[vd u a.length t,ve vq rel,ve vp k] f fun e E=> ∃v,e=vm (.tuple #[v,ve vp 0])∧IsF E v (linF a rel k)∧Near f E));have hW:= @kE w #[vd a1 m.feats.length a2,vd b1 m.grps.length b2,vd (some ⟨s,d,none⟩) m.atts.length Q,vd d1 m.reqs.length L,vd (some ⟨A,z,none⟩) m.lims.length U] #[ve vq 7,ve vp i];go_enter Y8,QO;go_upto_region 1 with fail
 have K:=hW _ rfl;generalize((w.alloc (vk #[vd a1 m.feats.length a2,vd b1 m.grps.length b2,vd (some ⟨s,d,none⟩) m.atts.length Q,vd d1 m.reqs.length L,vd (some ⟨A,z,none⟩) m.lims.length U] 28)).alloc (vk #[ve vq 7,ve vp i] 66)).alloc (vk #[vd none 0 0,ve vp 0] 43)=W at K⊢;have⟨P,hA,hB,hC⟩:=K;have q0:W.cell? (vw (w.heap.size+1) 0)=some (ve vq 7):=cell1 hB rfl;have q1:W.cell? (vw (w.heap.size+1) 1)=some (ve vp i):=cell1 hB rfl;have p4:W.cell? (vw w.heap.size 4)=some (vd (some ⟨A,z,none⟩) m.lims.length U):=cell1 hA rfl;have k0:=P.cell g0;have k1:=P.cell g1;have k2:=P.cell g2;have HN:=q8 P;have HA:=q8 hA;have HC:=q8 hC;have G5:=q8 g5;go_upto_region 25 with fail
 have hV: ∀V,V=W.alloc (vk #[ve vp g,ve vq rel,ve vp k] 89)→Near W V∧V.heap[W.heap.size]? =some (vk #[ve vp g,ve vq rel,ve vp k] 89 (0,0)):=by
  rintro V rfl;exact⟨(Near.refl W).alloc _,heap_new_at rfl⟩
 have O:=hV _ rfl;generalize W.alloc (vk #[ve vp g,ve vq rel,ve vp k] 89)=V at O⊢;have⟨H,hD⟩:=O;have HD:=q8 hD;have Z:=q8 (qE H HA);have j:=q8 (HN.trans H);have C:=q8 (qE H HC);have k5:=j.cell G5;have aa: ∀f,Near V f→f.cell? (vw w.heap.size 2)=some (vd (some ⟨s,d,none⟩) m.atts.length Q)∧f.cell? W.heap.size=some (ve vp (g:Nat))∧f.cell? (vw W.heap.size 1)=some (ve vq rel)∧f.cell? (vw W.heap.size 2)=some (ve vp k)∧f.cell? (vw s (d+g*2+1))=some (vd u a.length t):=fun f h=>⟨cell1 (qQ h Z) rfl,cell1 (qQ h HD) rfl,cell1 (qQ h HD) rfl,cell1 (qQ h HD) rfl,h.cell k5⟩;go_region_held3 (fun f=>f.cell? (vw w.heap.size 2)=some (vd (some ⟨s,d,none⟩) m.atts.length Q)∧f.cell? W.heap.size=some (ve vp (g:Nat))∧f.cell? (vw W.heap.size 1)=some (ve vq rel)∧f.cell? (vw W.heap.size 2)=some (ve vp k)∧f.cell? (vw s (d+g*2+1))=some (vd u a.length t))
  ((refine aa _ ?_;first|exact(B.set (qt _) _).set (qt _) _|exact B.alloc _|exact B|exact(Near.refl _).drew|exact((Near.refl _).alloc _).drew))
  ((go_at_call 151;refine(N _ (j.trans (by first|exact(Near.refl _).drew|exact((Near.refl _).alloc _).drew))).mono ?_;rintro e w2 ⟨v2,rfl,L,H⟩;have D2:=q8 L;obtain⟨q,l,r,n,rfl⟩:=L.form;have B:Near V w2:=Near.trans (by first|exact(Near.refl _).drew|exact((Near.refl _).alloc _).drew) H;first|(have hX:=qE H (show((V.alloc (vk #[vd none 0 0,ve vp 0] 43)).drew).heap[V.heap.size]? =some (vk #[vd none 0 0,ve vp 0] 43 (0,0))from heap_new_at rfl);have HX:=q8 hX;have⟨r0,r1,f0,f1⟩:=ym hX)|skip))
 ·have NV:=q8 ((j.trans B).alloc (vk #[vd q l r,ve vp n] 43))
  have G:=q8 (qE (B.alloc (vk #[vd q l r,ve vp n] 43)) C);have Y:=q8 (D2.near ((Near.refl w2).alloc (vk #[vd q l r,ve vp n] 43)));have⟨s0,s1,s2,s3⟩:=ym G;go_wp2_with fail
  have⟨t2,R⟩:=yE G (vd q l r) (ve vp n);exact qo (v:=vi #[vd q l r,ve vp n]) (by simp [qC,jN,go_sem,t2,R]) rfl (yN NV (by omega) G Y)
 ·have⟨u0,u1,hR,dV⟩:=ZV (x:=vd q l r) (y:=ve vp n) HX (qE B C) (by have:=(qk.1 C).1;omega) D2
  have G:=q8 hR;have Y:=q8 dV;have NV:=q8 (((j.trans B).set (p:=V.heap.size) j.size (vd q l r)).set (p:=vw V.heap.size 1) j.size (ve vp n));have⟨s0,s1,s2,s3⟩:=ym hR;go_wp2_with fail
  have⟨t2,R⟩:=yE G (vd q l r) (ve vp n);exact qo (v:=vi #[vd q l r,ve vp n]) (by simp [qC,jN,go_sem,t2,R]) rfl (yN NV (by omega) G Y)
theorem X4{S:Nat->Prop}(h:RdMod S w v m)(O: ∀g,S g->g<w.heap.size)(j:vC m)(y:Zd m){r:Nat×Nat}(V:q2K m r):Calls qj 76 #[v,vi #[ve vq r.1,ve vp r.2]] w (jO w (q0D m r)):=by
 have N:=j.n24;rcases V with rfl|⟨i,f,rfl,t,b⟩|⟨i,f,rfl,t,b⟩|⟨i,g,rfl,b⟩|⟨i,g,rfl,b⟩|⟨i,x,rfl,b⟩|⟨i,l,rfl,b⟩
 .exact q3c h
 .have⟨Q,L,C⟩:=j.par t b
  have I:=(qm.1 b).1;exact q0z h b (pn:=q2S m i) (by unfold q2S;rw [b];show f.parent=((f.parent.toNat:Nat):Int);omega) (by omega) (by omega)
 .have⟨Q,L,C⟩:=j.par t b
  have I:=(qm.1 b).1;exact q3d h b (pn:=q2S m i) (by unfold q2S;rw [b];show f.parent=((f.parent.toNat:Nat):Int);omega) (by omega) (by omega)
 .have⟨D,K,U,P,G,M⟩:=j.head b
  have s:g.members.length<549755813888:=zR (jZ (qp b)) y.mems
  have:=q5x h b (pn:=g.parent.toNat) (by omega) (by omega) (fun x e=>⟨(j.mem b e).1,by have:=(j.mem b e).2;omega⟩) (by omega)
  show Calls _ _ _ _ (jO w (match m.grps[i]? with|some g=>fun c=> !c g.parent.toNat||q2T (Jg g.members) g.low g.members.length c|none=>fun _=>false));rw [b];exact this
 .have⟨D,K,U,P,G,M⟩:=j.head b
  have s:g.members.length<549755813888:=zR (jZ (qp b)) y.mems
  have:=q3e h b (pn:=g.parent.toNat) (by omega) (by omega) (fun x e=>⟨(j.mem b e).1,by have:=(j.mem b e).2;omega⟩) (by omega)
  show Calls _ _ _ _ (jO w (match m.grps[i]? with|some g=>fun c=> !c g.parent.toNat||q2T (Jg g.members) 0 g.high c|none=>fun _=>false));rw [b];exact this
 .show Calls _ _ _ _ (jO w (match m.reqs[i]? with|some x=>fun c=>truth m.names c x|none=>fun _=>false))
  rw [b];exact q5w h O j b
 .have⟨B,H,J,a,E,o,q⟩:=j.limat b
  have⟨p,u,A⟩:=l;obtain⟨z,rfl⟩: ∃n:Nat,p=n:=⟨p.toNat,by have:(0:Int)<=p:=B;omega⟩;have⟨R,d⟩:=a;have k:m.atts[z]? =some ⟨R,d⟩:=E;show Calls _ _ _ _ (jO w (match m.lims[i]? with|some l=>linF ((m.atts[l.att.toNat]?.map Att.values).getD []) l.rel l.bound|none=>fun _=>false));rw [b];show Calls _ _ _ _ (jO w (linF ((m.atts[z]?.map Att.values).getD []) u A));rw [k];show Calls _ _ _ _ (jO w (linF d u A));exact q5y h b k (q7j (by have:d.length=m.feats.length:=o;omega) q H J)
theorem OwnR.form{base:Nat}{l:List (Nat×Nat)}(h:OwnR base w v l): ∃b a,v=vd b l.length a:=qR h
theorem OwnR.row{base:Nat}{l:List (Nat×Nat)}(h:OwnR base w v l):RdL (fun g=>base<=g) 2 (fun _ a r=>a=encR r) w v l:=
 RdL.own (enc:=encR) (fun _=>rfl) h (fun _ _=>rfl)
theorem Sets.base{e:TypeId}{f:World->Value->F->Prop}{fs:List F}(h:Sets e f b w x fs)(k:d<=b):Sets e f d w x fs:=
 let⟨n,i,j,m⟩:=h;⟨n,⟨i.1,i.2.imp id fun⟨g,a,c,o,l,r⟩=>⟨g,a,c,o,qH k l,r⟩⟩,j,m⟩
theorem KU{m:Mod}{k:Nat}{r:Nat×Nat}(h:(rulesOf m)[k]? =some r):(rulesF m).take (k+1)=(rulesF m).take k++[q0D m r]:=by
 rw [qU];unfold rulesF;rw [qA,h];rfl
theorem Qg(h:RdMod S w v m)(hS: ∀g,S g→g<w.heap.size)(ok:vC m)(hb:Zd m):
 Calls qj 71 #[v] w fun e w'=> ∃v',e=vm v'∧Sets 43 IsF w.heap.size w' v' (rulesF m)∧Near w w':=by
 have hlen:(rulesF m).length=(rulesOf m).length:=by simp [rulesF]
 have hle:(rulesOf m).length≤1000:=by
  rw [←KW]
  have:=KV m m.lims.length
  have:=ok.n24
  have:=ok.g24
  have:=ok.r64
  have:=ok.l16
  omega
 have⟨i53,hi0,hz0,hz1,hz2⟩:=info_parts UQ;have HRu:=q8 (fun(w':World)(hn:Near w w')=>vU (h.kept hn (fun _ _ h=>h) (fun _ h=>h)) ok.n0 (by have:=ok.n24;omega) (by have:=ok.g24;omega) (by have:=ok.r64;omega) (by have:=ok.l16;omega));have HSet:=q8 (fun(w':World)(hn:Near w w')(r:Nat×Nat)(hr:r∈rulesOf m)=>X4 (h.kept hn (fun _ _ h=>h) (fun _ h=>h)) (fun g hg=>qu (hS g hg) hn.size) ok hb (rulesOf_mem hr));obtain⟨a1,a2,b1,b2,c1,c2,d1,d2,e1,e2,rfl,-⟩:=RdMod.form h;have hW: ∀W,W=w.alloc (vk #[vd a1 m.feats.length a2,vd b1 m.grps.length b2,vd c1 m.atts.length c2,vd d1 m.reqs.length d2,vd e1 m.lims.length e2] 28)→Near w W∧W.heap[w.heap.size]? =some (vk #[vd a1 m.feats.length a2,vd b1 m.grps.length b2,vd c1 m.atts.length c2,vd d1 m.reqs.length d2,vd e1 m.lims.length e2] 28 (0,0)):=by
  rintro W rfl;exact⟨(Near.refl w).alloc _,heap_new_at rfl⟩
 have HTk:=q8 (fun(k:Nat)(r:Nat×Nat)=> @KU m k r);have HLen:=q8 hlen;generalize rulesF m=fs at HTk HLen⊢;generalize rulesOf m=rs at HRu HSet HTk HLen hle;go_enter Tryz.func71,Tryz.ntmps71;go_upto_region 2 with fail
 have h1:=hW _ rfl;generalize w.alloc (vk #[vd a1 m.feats.length a2,vd b1 m.grps.length b2,vd c1 m.atts.length c2,vd d1 m.reqs.length d2,vd e1 m.lims.length e2] 28)=W at h1⊢;have⟨hN,hA⟩:=h1;have q0:=cell1 (o:=0) hA rfl;have q1:=cell1 (o:=1) hA rfl;have q2:=cell1 (o:=2) hA rfl;have q3:=cell1 (o:=3) hA rfl;have q4:=cell1 (o:=4) hA rfl;have HN:=q8 hN;have HA:=q8 hA;go_wp2_with (go_at_call 75;refine(HRu _ HN).mono ?_;rintro e w1 ⟨v1,rfl,o1,n1⟩;obtain⟨ro,rc,rfl⟩:=o1.form;have HRow:=q8 o1.row;have HN1:=q8 (HN.trans n1);have HA1:=q8 (qQ n1 HA))
 have HRow':=HRow;go_loopw [3,9] (fun s i wr=> ∃k:Nat,k≤rs.length∧i=ve vp k∧Sets 43 IsF w1.heap.size wr s (fs.take k)∧Near w1 wr) (fun _ i _=>rs.length - (intOf i).toNat)
 case atStart=>exact⟨0,qv _,rfl,⟨[],World.ownsRow_nil _ _ _ _,rfl,fun j f p h=>by simp at h⟩,Near.refl _⟩
 case round=>
  obtain⟨k,hk,rfl,hs,hn⟩:=hrel;have hkl:(fs.take k).length=k:=by rw [List.length_take,HLen.out];omega
  have HS:=q8 hs;have HNr:=q8 hn;obtain⟨vo,vc,rfl⟩:=hs.form;have⟨us,hrow,hul,his⟩:=hs;rw [hkl]at HS hrow hul⊢;have HROW:=q8 hrow;have HUL:=q8 hul;have HIS:=q8 his;have HKL:=q8 hkl;by_cases hlt:k<rs.length
  ·have hlt':(k:Int)<rs.length:=by omega
   obtain⟨r,hx⟩: ∃x,rs[k]? =some x:=⟨_,qi hlt⟩;have⟨ao',cap',e,hc⟩:=HRow.out;obtain⟨b,o,vs,hao,-,hcell,hv⟩:=hc k r hx;obtain rfl:vs=[ve vq r.1,ve vp r.2]:=hv;simp only [qq,true_and]at e;obtain⟨rfl,rfl⟩:=e;subst hao;have g0:wr.cell? (vw b (o+k*2))=some (ve vq r.1):=HNr.cell (hcell 0 _ rfl);have g1:wr.cell? (vw b (o+k*2+1))=some (ve vp r.2):=HNr.cell (hcell 1 _ rfl);have hAr:=qQ (HNr.alloc (vk #[ve vq r.1,ve vp r.2] 66)) HA1;have y0:=cell1 (o:=0) hAr rfl;have y1:=cell1 (o:=1) hAr rfl;have y2:=cell1 (o:=2) hAr rfl;have y3:=cell1 (o:=3) hAr rfl;have y4:=cell1 (o:=4) hAr rfl;have HX:=q8 hx;have HSt:=q8 (HSet _ ((HN1.trans HNr).alloc (vk #[ve vq r.1,ve vp r.2] 66)) r (qp hx));have HTk1:=q8 (HTk k r hx);go_wp2_with (first
    |(go_at_call 76;refine HSt.mono ?_;rintro e w3 ⟨v3,rfl,d3,n3⟩;obtain⟨r1,r2,r3,r4,rfl⟩:=d3.form;have HD3:=q8 d3;have HN3:=q8 (((Near.refl wr).alloc _).trans n3))
    |(at_builtin;refine wpList_append_more rfl (.tmp 13) (.tmp 17) 135 rfl w1.heap.size 43 i53 (vi #[vd none 0 0,ve vp 0]) 2 32 Tryz.underlying135 hi0 hz0 hz1 hz2 rfl (by decide) (vd vo k vc) k (uL us) rfl (owns_kept HROW (HN3.alloc _) (fun _ _ h=>h)) _ 1 [vd r1 r2 r3,ve vp r4] rfl ⟨rfl,vv ⟨_,1,rfl,kK (by simp) _ _ _⟩⟩ (by simp [Value.oneCell']) (by unfold maxLen;omega) (by omega) (by have:=(HNr.trans HN3).size';simp;omega) ?_;intro bo bcp w4 hown4 hg4;have HO4:=q8 hown4;have HG4:=q8 hg4))
   have O4:Y3 43 w3 w4:=Qk (owns_kept HROW HN3 (fun _ _ h=>h)) HG4;have hpush:=Sets.push (fs:=fs.take k) (w:=w3) (HUL.trans HKL.symm) (fun j f p hj hp=>(HIS j f p hj hp).near HN3) HD3 (fun v f h=>h.only O4 (by decide)) (by rw [HKL.out];exact HO4);rw [←HTk1.out]at hpush;have hn4:Near w1 w4:=Kept.grown ((HNr.trans HN3).alloc _) HG4 (fun kk hk hlt=>absurd (HROW.lt kk hk).1 (by omega));exact⟨⟨k+1,by omega,by go_num,hpush,hn4⟩,by simp [intOf];omega⟩
  ·obtain rfl:k=rs.length:=by omega
   go_wp2_with fail
   go_ret;refine⟨_,rfl,?_,HN1.trans HNr⟩;have hs:=HS.out;rw [←HLen.out,qF]at hs;rw [HLen.out]at hs;exact hs.base HN1.size
theorem Wc(n:Nat)(p a b:Int)(c:List Int):vL n ⟨p,a,b,c⟩=true↔0<=p/\p<n/\0<c.length/\0<=a/\a<=b/\b<=c.length:=by
 unfold vL;simp only [Bool.and_eq_true,decide_eq_true_eq,and_assoc]
theorem q4e(h:l[j]? =some z)(P:Int->Bool):(l.take (j+1)).all P=((l.take j).all P&&P z):=by
 rw [qU,h,List.all_append];simp
theorem q7w(h:l[j]? =some z){P:Int->Bool}(a:P z=false):l.all P=false:=by
 refine Bool.eq_false_iff.2 fun b=> ?_;rw [qL.1 b z (qp h)]at a
 cases a
theorem Xh{T:Nat→Prop}{l:List Grp}{N lc:Nat}{Z:Option Addr}(h:RdMod S w v m)(hl:RdL T 4 (RdGrp T) w (vd Z (N+1) lc) l)(G:l.length=N+1)(hg:l[N]? =some g)(ao:N<549755813888)(O:(l.flatMap Grp.members).length<549755813888):
 Calls qj 115 #[v,vd Z (N+1) lc] w fun e w'=>e=vm (ve vp (rGrpE m l g:Nat))∧Near w w':=by
 obtain⟨Y,a2,b1,b2,c1,c2,d1,d2,e1,e2,rfl,hF,-⟩:=RdMod.form h;have aj:=q8 (fun(w':World)(hn:Near w w')(k:Int)=>Zi (hl.kept hn (fun _ _ h=>h) (fun _ h=>h) (fun _ _ h=>h.kept hn (fun _ _ h=>h) (fun _ h=>h))) (by omega) (by omega) k);have⟨p,q,a,c⟩:=g;have ae:c.length<549755813888:=zR (jZ (qp hg)) O;have⟨an,al,e,hc⟩:=hl;obtain⟨B,C,vs,H,-,d,sv,ad,hs,-⟩:=hc N _ hg;subst ad;rw [G]at e;simp only [qq,true_and]at e;obtain⟨rfl,rfl⟩:=e;subst H;obtain⟨I,D,rfl⟩:=hs.form;dsimp only at hs ae⊢;have g0:w.cell? (vw B (C+N*4))=some (ve vp p):=d 0 _ rfl;have g1:w.cell? (vw B (C+N*4+1))=some (ve vp q):=d 1 _ rfl;have g2:w.cell? (vw B (C+N*4+2))=some (ve vp a):=d 2 _ rfl;have g3:w.cell? (vw B (C+N*4+3))=some (vd I c.length D):=d 3 _ rfl;have HR:Hid (rGrpE m l ⟨p,q,a,c⟩=if(vL m.feats.length ⟨p,q,a,c⟩&&c.all fun k=>okM m.feats p k&&decide (timesN l k≤1))=true then 0 else 2):=rfl;obtain⟨P,hP⟩: ∃P:Int→Bool,P=fun k=>okM m.feats p k&&decide (timesN l k≤1):=⟨_,rfl⟩;rw [←hP]at HR;have HP:=q8 hP;generalize rGrpE m l ⟨p,q,a,c⟩=r at HR⊢;have hW: ∀W,W=w.alloc (vk #[vd Y m.feats.length a2,vd b1 m.grps.length b2,vd c1 m.atts.length c2,vd d1 m.reqs.length d2,vd e1 m.lims.length e2] 28)→Near w W∧W.heap[w.heap.size]? =some (vk #[vd Y m.feats.length a2,vd b1 m.grps.length b2,vd c1 m.atts.length c2,vd d1 m.reqs.length d2,vd e1 m.lims.length e2] 28 (0,0)):=by
  rintro W rfl;exact⟨(Near.refl w).alloc _,heap_new_at rfl⟩
 have HF:=q8 hF;have HM:=q8 hs;go_enter Tryz.func115,Tryz.ntmps115;go_upto_region 1 with fail
 have h0:=hW _ rfl;generalize w.alloc (vk #[vd Y m.feats.length a2,vd b1 m.grps.length b2,vd c1 m.atts.length c2,vd d1 m.reqs.length d2,vd e1 m.lims.length e2] 28)=W at h0⊢;have⟨G,hA⟩:=h0;have k0:W.cell? (vw B (C+N*4))=some (ve vp p):=G.cell g0;have k1:W.cell? (vw B (C+N*4+1))=some (ve vp q):=G.cell g1;have k2:W.cell? (vw B (C+N*4+2))=some (ve vp a):=G.cell g2;have k3:W.cell? (vw B (C+N*4+3))=some (vd I c.length D):=G.cell g3;go_upto_region 2 with fail
 have hV: ∀V,V=W.alloc (vk #[ve vp p,ve vp q,ve vp a,vd I c.length D] 78)→Near W V∧V.heap[W.heap.size]? =some (vk #[ve vp p,ve vp q,ve vp a,vd I c.length D] 78 (0,0)):=by
  rintro V rfl;exact⟨(Near.refl W).alloc _,heap_new_at rfl⟩
 have z:=hV _ rfl;generalize W.alloc (vk #[ve vp p,ve vp q,ve vp a,vd I c.length D] 78)=V at z⊢;have⟨nV,hB⟩:=z;have q0:V.cell? w.heap.size=some (vd Y m.feats.length a2):=cell1 (qE nV hA) rfl;have p0:V.cell? W.heap.size=some (ve vp p):=cell1 hB rfl;have p1:V.cell? (vw W.heap.size 1)=some (ve vp q):=cell1 hB rfl;have p2:V.cell? (vw W.heap.size 2)=some (ve vp a):=cell1 hB rfl;have p3:V.cell? (vw W.heap.size 3)=some (vd I c.length D):=cell1 hB rfl;have t:=q8 (G.trans nV);have HA:=q8 (qE nV hA);have HB:=q8 hB;obtain⟨bM,ah⟩: ∃b,w.heap.size=b:=⟨_,rfl⟩;obtain⟨bG,ai⟩: ∃b,W.heap.size=b:=⟨_,rfl⟩;rw [ah]at q0 HA⊢;rw [ai]at p0 p1 p2 p3 HB⊢
 cases M:vL m.feats.length ⟨p,q,a,c⟩with
 |false=>
  have HE:=q8 (show r=2 by rw [HR.out,M];rfl);have J:p<0∨(¬p<0∧(m.feats.length:Int)≤p)∨(¬p<0∧ ¬(m.feats.length:Int)≤p∧((c.length:Int)==0)=true)∨(¬p<0∧ ¬(m.feats.length:Int)≤p∧((c.length:Int)==0)=false∧q<0)∨(¬p<0∧ ¬(m.feats.length:Int)≤p∧((c.length:Int)==0)=false∧ ¬q<0∧a<q)∨(¬p<0∧ ¬(m.feats.length:Int)≤p∧((c.length:Int)==0)=false∧ ¬q<0∧ ¬a<q∧(c.length:Int)<a):=by
   have: ¬(0≤p∧p<m.feats.length∧0<c.length∧0≤q∧q≤a∧a≤c.length):=fun h=>by rw [(Wc _ _ _ _ _).2 h]at M;cases M
   simp only [beq_iff_eq,beq_eq_false_iff_ne,ne_eq];omega
  rcases J with z|⟨z,h2⟩|⟨z,h2,h3⟩|⟨z,h2,h3,h4⟩|⟨z,h2,h3,h4,h5⟩|⟨z,h2,h3,h4,h5,h6⟩
  all_goals
   go_wp2_with fail
   go_ret;exact⟨by rw [HE.out];rfl,t⟩
 |true=>
  have HE:=q8 (show r=if c.all P=true then 0 else 2 by rw [HR.out,M];rfl);have⟨z,h2,h3,h4,h5,h6⟩:=(Wc _ _ _ _ _).1 M;have g1: ¬p<0:=by omega
  have g2: ¬(m.feats.length:Int)≤p:=by omega
  have g3:((c.length:Int)==0)=false:=beq_eq_false_iff_ne.2 (by omega);have g4: ¬q<0:=by omega
  have g5: ¬a<q:=by omega
  have g6: ¬(c.length:Int)<a:=by omega
  go_wp2_with fail
  go_loopw [7] (fun ix wr=> ∃j:Nat,j≤c.length∧ix=ve vp j∧Near V wr∧(c.take j).all P=true) (fun ix _=>c.length - (intOf ix).toNat)
  case atStart=>exact⟨0,qv _,rfl,Near.refl _,rfl⟩
  case round=>
   obtain⟨j,hj,rfl,Q,U⟩:=hrel;have i:=q8 Q;have R:=q8 U;have p3:wr.cell? (vw bG 3)=some (vd I c.length D):=cell1 (qE Q HB) rfl;by_cases aa:j<c.length
   ·have ak:(j:Int)<c.length:=by omega
    obtain⟨A,hx⟩: ∃x,c[j]? =some x:=⟨_,qi aa⟩;obtain⟨mg,mo,rfl,d0⟩:=uV (RdL.kept HM (t.trans i) (fun _ _ h=>h) (fun _ h=>h) (fun _ _ h=>h)) hx;have q0:wr.cell? bM=some (vd Y m.feats.length a2):=cell1 (qE i HA) rfl;have p0:wr.cell? bG=some (ve vp p):=cell1 (qE i HB) rfl;have s:P A=false→Hid (r=2):=fun h=>q8 (by rw [HE.out,q7w hx h];rfl);have af:=q8 (fun h:P A=true=>(show(c.take (j+1)).all P=true by rw [q4e hx,R.out,h];rfl));have K:=q8 (show P A=(okM m.feats p A&&decide (timesN l A≤1)) by rw [HP.out]);by_cases k0:A<0
    ·have o:=s (by rw [K.out];unfold okM;rw [decide_eq_false (by omega)];rfl)
     go_upto_region 9 with fail
     go_quiet (fail)
     go_wp2_with fail
     go_ret;exact⟨by rw [o.out];rfl,t.trans (i.drewN _)⟩
    ·by_cases k1:(m.feats.length:Int)≤A
     ·have o:=s (by rw [K.out];unfold okM;rw [List.getElem?_eq_none (by omega)];simp)
      go_upto_region 9 with fail
      go_quiet (fail)
      go_wp2_with fail
      go_ret;exact⟨by rw [o.out];rfl,t.trans (i.drewN _)⟩
     ·obtain⟨y,rfl⟩: ∃n:Nat,A=n:=⟨A.toNat,by omega⟩
      have k2:(y:Int)<m.feats.length:=by omega
      obtain⟨f,hf⟩: ∃f,m.feats[y]? =some f:=⟨_,qi (by omega)⟩;have⟨ap,am,e,hc⟩:=HF.out;obtain⟨fb,fo,vs,H,-,d,hv⟩:=hc y f hf;obtain rfl:vs=[vf f.name,ve vp f.parent,ve vq f.kind]:=hv;simp only [qq,true_and]at e;obtain⟨rfl,rfl⟩:=e;subst H;have f1:wr.cell? (vw fb (fo+y*3+1))=some (ve vp f.parent):=(t.trans i).cell (d 1 _ rfl);have f2:wr.cell? (vw fb (fo+y*3+2))=some (ve vq f.kind):=(t.trans i).cell (d 2 _ rfl);have u:=q8 (show P (y:Int)=((decide (f.kind=4)&&decide (f.parent=p))&&decide (timesN l y≤1)) by
       rw [K.out];unfold okM;rw [decide_eq_true (by omega),show((y:Int)).toNat=y by omega,hf];rfl)
      by_cases k4:f.kind=4
      ·by_cases kp:f.parent=p
       ·have X:((f.kind:Int) !=4)=false:=by rw [k4];rfl
        have ag:(f.parent !=p)=false:=by rw [kp];simp
        have E:=q8 (fun n=>aj (wr.drewN n) (t.trans (i.drewN n)) (y:Int));generalize timesN l (y:Int)=tn at u E;by_cases ht:tn≤1
        ·have L:=q8 (af (by rw [u.out,k4,kp,decide_eq_true ht];simp))
         have ab: ¬(1:Int)<tn:=by omega
         go_upto_region 9 with fail
         go_quiet ((go_at_call 116;exact vP (E _)))
         go_wp2_with fail
         exact⟨⟨j+1,aa,by go_num,i.drewN _,L⟩,by simp [intOf];omega⟩
        ·have o:=s (by rw [u.out,decide_eq_false ht,Bool.and_false])
         have ab:(1:Int)<tn:=by omega
         go_upto_region 9 with fail
         go_quiet ((go_at_call 116;exact vP (E _)))
         go_wp2_with fail
         go_ret;exact⟨by rw [o.out];rfl,t.trans (i.drewN _)⟩
       ·have o:=s (by rw [u.out,decide_eq_false kp];simp)
        have X:((f.kind:Int) !=4)=false:=by rw [k4];rfl
        have ag:(f.parent !=p)=true:=by simpa using kp
        go_upto_region 9 with fail
        go_quiet (fail)
        go_wp2_with fail
        go_ret;exact⟨by rw [o.out];rfl,t.trans (i.drewN _)⟩
      ·have o:=s (by rw [u.out,decide_eq_false k4];simp)
       have X:((f.kind:Int) !=4)=true:=by rw [bne_iff_ne];omega
       go_upto_region 9 with fail
       go_quiet (fail)
       go_wp2_with fail
       go_ret;exact⟨by rw [o.out];rfl,t.trans (i.drewN _)⟩
   ·obtain rfl:j=c.length:=by omega
    have o:=q8 (show r=0 by rw [HE.out,←qF (l:=c),R.out];rfl);go_wp2_with fail
    go_ret;exact⟨by rw [o.out];rfl,t.trans i⟩
end Go.Proofs.YtjcbmcnbdegpmaaGreatDoor
