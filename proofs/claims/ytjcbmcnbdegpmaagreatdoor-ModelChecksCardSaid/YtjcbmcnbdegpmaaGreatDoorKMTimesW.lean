/- MTakes, MChkE, MChk, MGram, MGramB, MGramC, MGramD, MGramE, MFSetW, MFDiag, MFDiagW, MRulesW, MTimesW. -/
import Derived.Test.YtjcbmcnbdegpmaaGreatDoorKMOpen
import Derived.Test.YtjcbmcnbdegpmaaGreatDoorKMNext
import Derived.Test.YtjcbmcnbdegpmaaGreatDoorKMGrp
set_option maxRecDepth 100000
set_option maxHeartbeats 12800000
set_option linter.unusedVariables false
set_option linter.unusedSimpArgs false
open Array renaming getElem?_eq_some_iff->qk
open Array.mk renaming injEq->za
open Go renaming bodyPost_ret->qo,info_parts->zG,results->qC
open Go.Addr renaming add_lit->yP
open Go.Addr.mk renaming injEq->xB
open Go.ByteArray renaming toList_eq->zp
open Go.Lib renaming hid->q8
open Go.Proofs.Mod.Grp renaming members->yq
open Go.Proofs.Tryz renaming prog->qj,results205->jv,underlying62->wE
open Go.RowKit.Below renaming heap_setCell->zg
open Go.Value renaming oneCell'->qX,slice->qw,string->yb
open Go.Value.agg renaming injEq->qY
open Go.Value.slice renaming injEq->qq
open Go.World renaming block_lt_of_cell?->qM,cell?_of_block->yr,ownsRow_nil->qW
open List renaming all_eq_true->qL,any_eq_true->yj,getElem?_append_left->zc,getElem?_append_right->qV,getElem?_eq_getElem->qi,getElem?_eq_some_iff->qm,length_append->qn,length_map->qG,length_take->zd,mem_cons->qI,mem_of_getElem?->qp,mem_singleton->qN,setIfInBounds_toArray->qb,set_cons_succ->qd,set_cons_zero->qh,take_add_one->qU,take_length->qF
open List.cons renaming injEq->qJ
open Nat renaming le_refl->qt,le_trans->qH,lt_of_le_of_lt->zR,lt_of_lt_of_le->qu,zero_le->qv
open Option.some renaming injEq->zo
open Go.Value renaming slice->vd,int->ve,string->vf,pointer->vg,agg->vi,bool->vj
open Go.Obj renaming cells->vk
open Go.Ending renaming returned->vm
open Go.IntKind renaming i64->vp,u8->vq,u32->vr,u64->vt
open Or renaming inl->vu,inr->vv
namespace Go.Proofs.YtjcbmcnbdegpmaaGreatDoor
open Go Go.RowKit Go.Proofs.Gen Go.Proofs.Mod
variable{B a b base cap e f i k n:Nat}{R:List (Nat×Nat)}{S:Nat->Prop}{T:Nat→Prop}{ao:Option Addr}{c d g p q r v:Value}{l:List ByteArray}{m:Mod}{t:St}{vs:List Value}{w w':World}{x:Ex}{z:Int}{α:Type}
theorem jX{a:ByteArray}{r:Bool×St}(h:PAt w B a t)(d:a.size<4611686018427387904)(s:ByteArray)(b:yt (bytesL s) t=some r):
 Calls qj 259 #[vg B,vf s] w fun e l=>e=vm (vj r.1)/\PAt l B a r.2/\Kept (fun g=>g=B) w l:=by
 have⟨i,j,o,y,v,c⟩:=h.ex;unfold yt at b;have z:w.cell? (vw B 2)=some (vf j):=cell1 o rfl;by_cases f:t.word=bytesL s
 .rw [if_pos f]at b
  obtain rfl:j=s:=xH (c.symm.trans f)
  cases k:nextT t with
  |none=>rw [k]at b;cases b
  |some A=>
   rw [k]at b
   cases b;have q:=q8 (Ql h d k);go_enter Tryz.func259,Tryz.ntmps259;go_wp2_with (go_at_call 231;refine q.mono ?_;rintro e x ⟨rfl,m,u⟩)
   go_ret;exact⟨rfl,m,u⟩
 .rw [if_neg f]at b
  cases b;have p:=q8 h;have n:(j.toList==s.toList)=false:=by
   rw [beq_eq_false_iff_ne,zp,zp];exact fun e=>f (c.trans e)
  go_enter Tryz.func259,Tryz.ntmps259;go_wp2_with fail
  go_ret;exact⟨rfl,p,Kept.refl _ _⟩
theorem Yv{a:ByteArray}{d:St}(h:PAt w B a t)(b:a.size<4611686018427387904)(s:ByteArray)(f:yt (bytesL s) t=some (true,d)):
 Calls qj 260 #[vg B,vf s] w fun e c=>e=vm (.tuple #[])/\PAt c B a d/\Kept (fun g=>g=B) w c:=by
 have H:=q8 (jX h b s f);go_enter Tryz.func260,Tryz.ntmps260;go_wp2_with (go_at_call 259;refine H.mono ?_;rintro e k ⟨rfl,i,j⟩)
 go_end0
 exact⟨rfl,i,j⟩
theorem GT{S:Nat→Prop}{t:Nat}{g:Grp}(z:Yi S w t m)(s:RdGrp T w vs g)(E:i≤m.grps.length)(k:m.feats.length<4611686018427387904)(p:m.grps.length<4611686018427387904)(j:(takenTo m.grps i).length+g.members.length<1099511627776):
 Calls qj 90 (#[ve vp i,vi vs.toArray]++ #[vg t]) w fun e n=>e=vm (ve vp (grpE m i g:Nat))∧Near w n:=by
 have⟨a,b,c,d,e,D,C⟩:=z;have q:=fun(n:World)(u:Near w n)=>ZE (C.kept u (fun _ _ h=>h) (fun _ h=>h)) (s.kept u (fun _ _ h=>h) (fun _ h=>h)) E k p j;obtain⟨N,rfl,G,-⟩:=s;obtain⟨B,x,rfl⟩:=G.form;have l:Near w (w.alloc (vk #[ve vp g.parent,ve vp g.low,ve vp g.high,vd B g.members.length x] 78)):=(Near.refl w).alloc _;have v:=q8 (q _ l);have f:=qQ l D;have K:=cell1 (o:=0) f rfl;have M:=cell1 (o:=1) f rfl;have I:=cell1 (o:=2) f rfl;have L:=cell1 (o:=3) f rfl;have J:=cell1 (o:=4) f rfl;have A:=q8 l;generalize grpE m i g=r at v⊢;go_enter Tryz.func90,Tryz.ntmps90;go_wp2_with (go_at_call 91;refine v.mono ?_;rintro e H ⟨rfl,y⟩)
 go_ret;exact⟨rfl,A.trans y⟩
theorem GO{S:Nat→Prop}(l:Yi S w k m)(h:m.feats.length<4611686018427387904)(f:m.grps.length<4611686018427387904)(q:(m.grps.flatMap yq).length<549755813888):
 Calls qj 88 #[vg k] w fun e n=>e=vm (ve vp (eachE 24 (grpE m) m.grps:Nat))∧Near w n:=by
 have B:=q8 l;have⟨a,b,c,d,e,v,u⟩:=l;obtain⟨_,_,_,_,_,j,-,s,-,-,-⟩:=u
 cases j;obtain⟨H,y,rfl⟩:=s.form;have t:=q8 (JC (most:=24) (g:=90) (lb:= #[vg k]) (c:=grpE m) (fun _ _=>rfl) f s fun i x E n A p j=>GT (B.near A) j (Nat.le_of_lt (qm.1 p).1) h f (by
  have C:=YV m.grps i;have G:=jZ (qp p);omega))
 have I:=cell1 (o:=1) v rfl;generalize eachE 24 (grpE m) m.grps=r at t⊢;go_enter Tryz.func88,Tryz.ntmps88;go_wp2_with (go_at_call 89;refine t.mono ?_;rintro e D ⟨rfl,z⟩)
 go_ret;exact⟨rfl,z⟩
structure Zd(m:Mod):Prop where
 feats:m.feats.length<549755813888
 grps:m.grps.length<549755813888
 atts:m.atts.length<549755813888
 reqs:m.reqs.length<549755813888
 lims:m.lims.length<549755813888
 mems:(m.grps.flatMap yq).length<549755813888
 vals: ∀x∈m.atts,x.values.length<4611686018427387904
 exs: ∀x∈m.reqs,x.size<4611686018427387904
 kinds: ∀f∈m.feats,f.kind<256
theorem cells_at(c:b=w.heap.size)(l:List Value)(t:TypeId): ∀(j:Nat) u,l[j]? =some u->(w.alloc (vk l.toArray t)).cell? ((⟨b,0,none⟩:Addr).add j)=some u:=by
 subst c;intro j u a;rw [yP];exact cell1 (heap_new_at rfl) (by simpa using a)
theorem Z4{d:List Value}(h:w.ownsRow base e a (vd ao n cap) n d):n<=cap:=by
 rcases h.2 with⟨_,i⟩|⟨g,c,f,e,_,_,b,_⟩
 .omega
 .cases e
  exact b
theorem RdL.below(h:RdL S 1 RdS w v l):RdL (fun g=>g<w.heap.size) 1 RdS w v l:=by
 have⟨f,a,e,k⟩:=h;refine⟨f,a,e,fun i x j=> ?_⟩;have⟨g,o,m,d,_,c,b⟩:=k i x j;exact⟨g,o,m,d,qM _ _ (c 0 _ (by rw [b];rfl)),c,b⟩
theorem Kq{x:Att}(h:m.atts[k]? =some x):((m.atts.map Att.name).take (k+1)).map yb=((m.atts.map Att.name).take k).map yb++[vf x.name]:=by
 rw [qU];simp [h]
theorem jH{S:Nat→Prop}(h:RdMod S w v m)(hS: ∀g,S g→g<w.heap.size)(J:Zd m):
 Calls qj 29 #[v] w fun e G=>e=vm (ve vp (chk m:Nat))∧Near w G:=by
 have a3:=q8 (fun(G:World)(hn:Near w G)=>kI (h.kept hn (fun _ _ h=>h) (fun _ h=>h)) (by have:=J.feats;omega));have be:=q8 h;obtain⟨a1,a2,b1,b2,c1,c2,d1,d2,e1,e2,rfl,-,-,hA,-⟩:=RdMod.form h;have hW: ∀W,W=w.alloc (vk #[vd a1 m.feats.length a2,vd b1 m.grps.length b2,vd c1 m.atts.length c2,vd d1 m.reqs.length d2,vd e1 m.lims.length e2] 28)→Near w W∧W.heap[w.heap.size]? =some (vk #[vd a1 m.feats.length a2,vd b1 m.grps.length b2,vd c1 m.atts.length c2,vd d1 m.reqs.length d2,vd e1 m.lims.length e2] 28 (0,0)):=by
  rintro W rfl;exact⟨(Near.refl w).alloc _,heap_new_at rfl⟩
 have⟨i9,az,a5,bf,bc⟩:=zG XD;have ba:=q8 hA;have bg:=q8 J;have HS:=q8 hS;have bj:=J.atts;by_cases h0:m.feats.length=0
 ·have y:chk m=2:=by unfold chk;rw [if_pos h0]
  rw [y];have bb:(m.feats.length:Int)=0:=by omega
  clear h hA J hS y h0;go_enter Tryz.func29,Tryz.ntmps29;go_upto_region 1 with fail
  have A:=hW _ rfl;generalize w.alloc (vk #[vd a1 m.feats.length a2,vd b1 m.grps.length b2,vd c1 m.atts.length c2,vd d1 m.reqs.length d2,vd e1 m.lims.length e2] 28)=W at A⊢;have q0:=cell1 (o:=0) A.2 rfl;have HN:=q8 A.1;clear A hW;go_wp2_with fail
  go_ret;exact⟨rfl,HN⟩
 have y:chk m=firstE [eachE 24 (featE m.names) m.feats,eachE 24 (grpE m) m.grps,eachFrom (loneE m.grps) 0 m.feats,eachE 8 (attE m) m.atts,eachE 64 (fun _=>reqE m.names) m.reqs,eachE 16 (fun _ l=>if Qq m.atts.length l=true then 0 else 2) m.lims]:=by unfold chk;rw [if_neg h0]
 obtain⟨r,hr⟩: ∃r,r=chk m:=⟨_,rfl⟩;rw [←hr];rw [y]at hr;have ap:=q8 hr;have bb: ¬(m.feats.length:Int)=0:=by omega
 have D:m.names.length=m.feats.length:=by simp [Mod.names]
 have ai:=q8 D;clear h hA J hS y h0 D hr;go_enter Tryz.func29,Tryz.ntmps29;go_upto_region 1 with fail
 have A:=hW _ rfl;generalize w.alloc (vk #[vd a1 m.feats.length a2,vd b1 m.grps.length b2,vd c1 m.atts.length c2,vd d1 m.reqs.length d2,vd e1 m.lims.length e2] 28)=W at A⊢;have q0:=cell1 (o:=0) A.2 rfl;have q1:=cell1 (o:=1) A.2 rfl;have q2:=cell1 (o:=2) A.2 rfl;have q3:=cell1 (o:=3) A.2 rfl;have q4:=cell1 (o:=4) A.2 rfl;have HN:=q8 A.1;have HA:=q8 A.2;clear A hW;have aq: ∀(a:World)(R:Option Addr)(X:Nat),Near w a→a.heap[w.heap.size]? =some (vk #[vd a1 m.feats.length a2,vd b1 m.grps.length b2,vd c1 m.atts.length c2,vd d1 m.reqs.length d2,vd e1 m.lims.length e2] 28 (0,0))→ ∀E,E=(a.alloc (vk #[vd R m.names.length X] 68)).alloc (vk #[vd none 0 0] 68)→Near a E∧E.heap[w.heap.size]? =some (vk #[vd a1 m.feats.length a2,vd b1 m.grps.length b2,vd c1 m.atts.length c2,vd d1 m.reqs.length d2,vd e1 m.lims.length e2] 28 (0,0))∧E.heap[a.heap.size]? =some (vk #[vd R m.names.length X] 68 (0,0))∧E.heap[a.heap.size+1]? =some (vk #[vd none 0 0] 68 (0,0)):=by
  rintro a R X - J E rfl;have hn:Near a ((a.alloc (vk #[vd R m.names.length X] 68)).alloc (vk #[vd none 0 0] 68)):=((Near.refl a).alloc _).alloc _;exact⟨hn,qQ hn J,by rw [qD (by simp),heap_new_at rfl],heap_new_at (by simp)⟩
 go_upto_region 5 with(go_at_call 26;refine(a3 _ HN).mono ?_;rintro e a ⟨v1,rfl,o1,n1⟩;obtain⟨R,X,rfl⟩:=qR o1;have an:=q8 o1;have M:=q8 (HN.trans n1);have ar:=q8 (qQ n1 HA);clear o1 n1)
 have h2:=aq a R X M ar _ rfl;generalize(a.alloc (vk #[vd R m.names.length X] 68)).alloc (vk #[vd none 0 0] 68)=E at h2⊢;have⟨n2,Z,al,ag⟩:=h2;have L:=q8 n2;have a7:=q8 Z;have a0:=q8 al;have a4:=q8 ag;have s2:=cell1 (o:=2) Z rfl;have U:a.heap.size+1<E.heap.size:=(qk.1 ag).1;have a8:=q8 U;have O:Hid (w.heap.size<a.heap.size):=(qk.1 ar).1;clear n2 Z al ag aq q0 q1 q2 q3 q4 U;go_wp2_with fail
 go_loopw [16] (fun ix wr=> ∃(k:Nat)(Q:Option Addr)(V:Nat),k≤m.atts.length∧ix=ve vp k∧wr.heap[a.heap.size+1]? =some (vk #[vd Q k V] 68 (0,0))∧wr.ownsRow E.heap.size 9 1 (vd Q k V) k (((m.atts.map Att.name).take k).map vf)∧Kept (fun g=>g=a.heap.size+1) E wr) (fun ix _=>m.atts.length - (intOf ix).toNat)
 case atStart=>exact⟨0,none,0,qv _,rfl,a4,qW _ _ _ _,Kept.refl _ _⟩
 case round=>
  obtain⟨k,Q,V,hk,rfl,aj,Y,av⟩:=hrel;have af:=q8 aj;have HO:=q8 Y;have P:=q8 av;have bi:Hid (a.heap.size+1<wr.heap.size):=(qk.1 aj).1;clear aj Y av s2;by_cases ab:k<m.atts.length
  ·have bk:(k:Int)<m.atts.length:=by omega
   obtain⟨x,hx⟩: ∃x,m.atts[k]? =some x:=⟨_,qi ab⟩;have⟨bm,bl,e,y⟩:=ba.out;have⟨b,o,vs,ay,ax,C,hv⟩:=y k x hx;obtain⟨sv,rfl,hs⟩:=hv;obtain⟨so,sc,rfl⟩:=hs.form;simp only [qq,true_and]at e;obtain⟨rfl,rfl⟩:=e;subst ay;have a6:=HS _ ax;have ae: ¬b=a.heap.size+1:=by have:=O.out;omega
   have y0:wr.cell? (vw b (o+k*2))=some (vf x.name):=P.cell ((M.trans L).cell (C 0 _ rfl)) ae;have y1:wr.cell? (vw b (o+k*2+1))=some (vd so x.values.length sc):=P.cell ((M.trans L).cell (C 1 _ rfl)) ae;have HX:=q8 (Kq hx);have z0:(wr.alloc (vk #[vf x.name,vd so x.values.length sc] 81)).cell? (vw (a.heap.size+1) 0)=some (vd Q k V):=cell1 (qQ ((Near.refl wr).alloc _) af) rfl;clear y C hs hx ax a6 ae;go_wp2_with (at_builtin;go_must (refine wpList_append_more rfl (.tmp 20) (.tmp 23) 68 rfl E.heap.size 9 i9 (vf ByteArray.empty) 1 16 Tryz.underlying68 az a5 bf bc rfl (by decide) (vd Q k V) k (((m.atts.map Att.name).take k).map vf) rfl ((HO.alloc _).alloc _) _ 1 [vf x.name] rfl ⟨rfl,vv ⟨_,1,rfl,cell_one_at (by simp) _ _⟩⟩ (by simp [qX]) (by unfold maxLen;omega) (by omega) (by have:=P.size;simp;omega) ?_);intro b3 c3 w3 H aa;have a9:=q8 H;have K:w3.heap[a.heap.size+1]? =some (vk #[vd Q k V] 68 (0,0)):=(Kept.block (Kept.grown (S:=fun j=>(qw Q k V).ownBlock=some j) (Kept.refl _ _) aa (fun j e _=>e)) _ (by have:=bi.out;simp;omega) (fun e=>by have:=(HO.lt _ e).1;have:=a8.out;omega)).trans (qQ (((Near.refl wr).alloc _).alloc _) af);have ak:=q8 K;have bd:=q8 (Kept.grown ((P.alloc _).alloc _) aa (fun j e ab=>by have:=(HO.lt _ e).1;omega):Kept (fun g=>g=a.heap.size+1) E w3);have t0:=cell1 (o:=0) K rfl;have tf:=zQ K 0;clear H aa K)
   exact⟨⟨k+1,b3,c3,ab,by go_num,by have:=qz ak 0 (vd b3 (k+1) c3);simpa using this,by rw [HX.out];exact zF a9 ak (by decide) 0 _,Kept.setCell bd (p:=vw (a.heap.size+1) 0) (fun _=>rfl) _⟩,by simp [intOf];omega⟩
  ·obtain rfl:k=m.atts.length:=by omega
   have ah:Kept (fun g=>g=a.heap.size+1) w wr:=Kept.trans ((M.trans L).kept) P;have ad:Near w wr:=Kept.mono ah (fun g N e=>by have:=O.out;omega);have au:wr.heap[w.heap.size]? =_:=qQ P a7 (by have:=O.out;omega);have am:wr.heap[a.heap.size]? =_:=qQ P a0 (by omega);have ao:RdMod S wr _ m:=be.kept ah (fun g N=>by have:=HS g N;have:=O.out;omega) (fun _ h=>h);have z:Yi S wr w.heap.size m:=⟨_,_,_,_,_,au,ao⟩;have s:kc wr a.heap.size m.names:=⟨_,R,X,am,(RdL.below (RdL.strings an)).kept (Kept.trans L.kept P) (fun g N=>by omega) (fun _ h=>h) (fun _ _ h=>h),Z4 an⟩;have I:kc wr (a.heap.size+1) (m.atts.map Att.name):=by
    have ho:=HO.out;rw [show m.atts.length=(m.atts.map Att.name).length by rw [qG],qF]at ho;have J:=af.out;rw [show m.atts.length=(m.atts.map Att.name).length by rw [qG]]at J;exact⟨_,Q,V,J,RdL.strings ho,Z4 ho⟩
   have aw: ∀g,S g→g<wr.heap.size:=fun g N=>qu (HS g N) ad.size;have n:=bg.out;have D:m.names.length<4611686018427387904:=by rw [ai.out];have:=n.feats;omega
   have hF: ∀t,Calls qj 83 #[vd wr.heap.size 6 6] (wr.alloc (vk #[.func (.func 84) #[] #[vg w.heap.size,vg a.heap.size],.func (.func 88) #[] #[vg w.heap.size],.func (.func 92) #[] #[vg w.heap.size],.func (.func 94) #[] #[vg w.heap.size,vg (vw (a.heap.size+1) 0),vg a.heap.size],.func (.func 100) #[] #[vg w.heap.size,vg a.heap.size],.func (.func 104) #[] #[vg w.heap.size]] t)) fun e G=>e=vm (ve vp (r:Nat))∧Near w G:=fun t=>by
    rw [ap.out];have q:Near wr (wr.alloc (vk #[.func (.func 84) #[] #[vg w.heap.size,vg a.heap.size],.func (.func 88) #[] #[vg w.heap.size],.func (.func 92) #[] #[vg w.heap.size],.func (.func 94) #[] #[vg w.heap.size,vg (vw (a.heap.size+1) 0),vg a.heap.size],.func (.func 100) #[] #[vg w.heap.size,vg a.heap.size],.func (.func 104) #[] #[vg w.heap.size]] t)):=(Near.refl wr).alloc _;refine(VO (S:=fun _=>True) (fs:=[.func (.func 84) #[] #[vg w.heap.size,vg a.heap.size],.func (.func 88) #[] #[vg w.heap.size],.func (.func 92) #[] #[vg w.heap.size],.func (.func 94) #[] #[vg w.heap.size,vg (vw (a.heap.size+1) 0),vg a.heap.size],.func (.func 100) #[] #[vg w.heap.size,vg a.heap.size],.func (.func 104) #[] #[vg w.heap.size]]) (cs:=[eachE 24 (featE m.names) m.feats,eachE 24 (grpE m) m.grps,eachFrom (loneE m.grps) 0 m.feats,eachE 8 (attE m) m.atts,eachE 64 (fun _=>reqE m.names) m.reqs,eachE 16 (fun _ l=>if Qq m.atts.length l=true then 0 else 2) m.lims]) rfl (by simp) ⟨_,_,rfl,fun i x hx=>⟨wr.heap.size,0,[x],rfl,trivial,fun j u hu=> ?_,rfl⟩⟩ ?_).mono fun e G ⟨A,h2⟩=>⟨A,ad.trans (q.trans h2)⟩
    ·have hj:j=0:=by have:=(qm.1 hu).1;simpa using this
     subst hj;have bh:u=x:=by simpa using hu.symm
     subst bh
     have:=cells_at (w:=wr) rfl [.func (.func 84) #[] #[vg w.heap.size,vg a.heap.size],.func (.func 88) #[] #[vg w.heap.size],.func (.func 92) #[] #[vg w.heap.size],.func (.func 94) #[] #[vg w.heap.size,vg (vw (a.heap.size+1) 0),vg a.heap.size],.func (.func 100) #[] #[vg w.heap.size,vg a.heap.size],.func (.func 104) #[] #[vg w.heap.size]] t i u hx
     rw [yP]at this;simpa using this
    ·intro i f c B y
     match i,B,y with
     |0,B,y=>
      cases B;cases y;exact⟨84,_,rfl,fun _ _=>rfl,fun G d=>GP ((z.near q).near d) ((s.near q).near d) D ai.symm n.kinds⟩
     |1,B,y=>
      cases B;cases y;exact⟨88,_,rfl,fun _ _=>rfl,fun G d=>GO ((z.near q).near d) (by have:=n.feats;omega) (by have:=n.grps;omega) n.mems⟩
     |2,B,y=>
      cases B;cases y;exact⟨92,_,rfl,fun _ _=>rfl,fun G d=>GN ((z.near q).near d) (by have:=n.feats;omega) (by have:=n.grps;omega) (fun g N=>by have:=jZ N;have:=n.mems;omega)⟩
     |3,B,y=>
      cases B;cases y;exact⟨94,_,rfl,fun _ _=>rfl,fun G d=>GM ((z.near q).near d) ((I.near q).near d) ((s.near q).near d) (by have:=n.atts;omega) n.vals ai (by have:=n.feats;omega)⟩
     |4,B,y=>
      cases B;cases y;exact⟨100,_,rfl,fun _ _=>rfl,fun G d=>GL ((z.near q).near d) (fun g N=>qu (aw g N) (q.trans d).size) ((s.near q).near d) D (by have:=n.reqs;omega) n.exs⟩
     |5,B,y=>
      cases B;cases y;exact⟨104,_,rfl,fun _ _=>rfl,fun G d=>GK ((z.near q).near d) (by have:=n.lims;omega)⟩
     |i+6,B,y=>simp at B
   have HF:=q8 hF;clear ah ad au am ao z s I aw n D hF;go_wp2_with (go_at_call 83;refine(HF _).mono ?_;rintro e w6 ⟨rfl,n6⟩)
   go_ret;exact⟨rfl,n6⟩
def q7Z(B:Nat)(text:ByteArray)(w:World)(x:Ex)(t':St)(e:Ending)(w':World):Prop:=
 ∃op nm v,e= .returned (.agg #[.int .u8 op,.string nm,v])/\RdEx (fun g=>w.heap.size<=g) w' [.int .u8 op,.string nm,v] x/\PAt w' B text t'/\Kept (fun g=>g=B) w w'/\ ∃ao n cap,v= .slice ao n cap
def PFn(text:ByteArray)(g:Nat)(tail:List Value)(p:St->Option (Ex×St)):Prop:=
 ∀{w:World}{B:Nat}{t:St}{x:Ex}{t':St},PAt w B text t->B<w.heap.size->p t=some (x,t')->Calls qj g (.pointer (some ⟨B,0,none⟩)::tail).toArray w (q7Z B text w x t')
theorem PAt.keptB{a:ByteArray}(h:PAt w B a t)(e:Kept S w w')(d: ¬S B):PAt w' B a t:=
 let⟨i,f,b,c⟩:=h.ex;⟨i,f,qQ e b d,c⟩
theorem ZW(h:w.heap[b]? =some (vk #[p,q,r] 84 (0,0))):w.cell? b=some p/\w.cell? (vw b 1)=some q/\w.cell? (vw b 2)=some r/\w.frozen? b=false/\w.frozen? (vw b 1)=false/\w.frozen? (vw b 2)=false:=
 ⟨cell1 h rfl,cell1 h rfl,cell1 h rfl,zQ h 0,zQ h 1,zQ h 2⟩
theorem Yt(h:w.heap[b]? =some (vk #[p,q,r] 84 (0,0)))(x y z:Value):
 (((w.setCell b x).setCell (vw b 1) y).setCell (vw b 2) z).cell? b=some x/\(((w.setCell b x).setCell (vw b 1) y).setCell (vw b 2) z).cell? (vw b 1)=some y/\(((w.setCell b x).setCell (vw b 1) y).setCell (vw b 2) z).cell? (vw b 2)=some z/\Kept (fun g=>g=b) w (((w.setCell b x).setCell (vw b 1) y).setCell (vw b 2) z):=by
 have a:=qz (qz (qz h 0 x) 1 y) 2 z;simp only [qb,qh,qd]at a;exact⟨cell1 a rfl,cell1 a rfl,cell1 a rfl,Kept.setCell (S:=fun g=>g=b) (Kept.setCell (S:=fun g=>g=b) (Kept.setCell (S:=fun g=>g=b) (Kept.refl _ w) (p:=b) (fun _=>rfl) _) (p:=vw b 1) (fun _=>rfl) _) (p:=vw b 2) (fun _=>rfl) _⟩
theorem q4I{a b:Ex}{e k f:Value}(s:RdEx S w [c,e,d] a)(q:RdEx S w [k,f,g] b)(p:S w.heap.size):
 RdL S 3 (RdEx S) (w.alloc (vk #[c,e,d,k,f,g] 84)) (vd w.heap.size 2 2) [a,b]:=by
 have n:Near w (w.alloc (vk #[c,e,d,k,f,g] 84)):=(Near.refl w).alloc _;have o:=cells_at (w:=w) rfl [c,e,d,k,f,g] 84;refine⟨_,_,rfl,fun i x l=> ?_⟩;match i,l with
 |0,l=>
  cases l;refine⟨w.heap.size,0,[c,e,d],rfl,p,fun j u m=> ?_,s.kept n (fun _ _ h=>h) (fun _ h=>h)⟩;have r:j<3:=(qm.1 m).1
  have:=o j u (by rw [show [c,e,d,k,f,g]=[c,e,d]++[k,f,g]from rfl,zc (by simpa using r)];exact m)
  rw [yP]at this;simpa using this
 |1,l=>
  cases l;refine⟨w.heap.size,0,[k,f,g],rfl,p,fun j u m=> ?_,q.kept n (fun _ _ h=>h) (fun _ h=>h)⟩
  have:=o (3+j) u (by rw [show [c,e,d,k,f,g]=[c,e,d]++[k,f,g]from rfl,qV (by simp)];simpa using m)
  rw [yP]at this;simpa [Nat.add_assoc]using this
 |i+2,l=>simp at l
theorem XK{c:ByteArray}(N:c.size<4611686018427387904)(HR:PFn c 279 [ve vp 0] (pRow f 0))(HI:PFn c 274 [] (pImplies f)):PFn c 274 [] (pImplies (f+1)):=by
 intro w B t x t' L hB j;rw [pImplies]at j
 cases h1:pRow f 0 t with
 |none=>rw [h1]at j;cases j
 |some r1=>
 have⟨a,t1⟩:=r1;rw [h1]at j;replace j:(yt [61,62] t1).bind (fun y=>if y.1 then(pImplies f y.2).bind fun b=>some (mk0 8 [a,b.1],b.2)else some (a,y.2))=some (x,t'):=j
 cases h2:yt [61,62] t1 with
 |none=>rw [h2]at j;cases j
 |some r2=>
 have⟨b2,t2⟩:=r2;rw [h2]at j;replace j:(if b2 then(pImplies f t2).bind fun b=>some (mk0 8 [a,b.1],b.2)else some (a,t2))=some (x,t'):=j;have O:=q8 (fun(i:World)(L:PAt i B c t1)=>jX L N ⟨#[61,62]⟩ h2);have V:=q8 (fun(i:World)(L:PAt i B c t)(hb:B<i.heap.size)=>HR L hb h1);have hW: ∀W,W=w.alloc (vk #[ve vq 0,vf ⟨#[]⟩,vd none 0 0] 84)→Near w W∧W.heap[w.heap.size]? =some (vk #[ve vq 0,vf ⟨#[]⟩,vd none 0 0] 84 (0,0)):=by
  rintro W rfl;exact⟨(Near.refl w).alloc _,heap_new_at rfl⟩
 have HP:=q8 L
 cases b2 with
 |false=>
  cases j;go_enter Tryz.func274,Tryz.ntmps274;go_upto_region 1 with fail
  have P:=hW _ rfl;generalize w.alloc (vk #[ve vq 0,vf ⟨#[]⟩,vd none 0 0] 84)=W at P⊢;have⟨hN,hR⟩:=P;have A:=q8 hN;have q:=q8 hR;go_wp2_with (first
   |(go_at_call 279;refine(V _ (HP.near A) (qu hB A.size)).mono ?_;rintro e d ⟨K,G,v,rfl,D,p1,k1,H,n,k,rfl⟩;have RD:=q8 D;have P1:=q8 p1;have C:=q8 k1)
   |(go_at_call 259;refine(O _ (P1.near ((Near.refl d).alloc _))).mono ?_;rintro e p ⟨rfl,p2,E⟩;have P2:=q8 p2;have Z:=q8 E;have m:=q8 (qQ E (heap_new_at rfl) (by have:=C.size;have:=A.size;omega));obtain⟨y0,y1,y2,-,-,-⟩:=ZW m;have r:=q8 (qQ E (qQ ((Near.refl d).alloc _) (qQ C q (by omega))) (by omega));have⟨r0,r1,r2,f0,f1,f2⟩:=ZW r))
  have⟨t0,J,M,U⟩:=Yt r (ve vq K) (vf G) (vd H n k);have ab:w.heap.size<W.heap.size:=(qk.1 q).1;have X:Kept (fun g=>g=B∨g=w.heap.size) d (((p.setCell w.heap.size (ve vq K)).setCell (vw w.heap.size 1) (vf G)).setCell (vw w.heap.size 2) (vd H n k)):=
   Kept.trans (((Near.refl d).alloc _).kept) (Kept.trans (Kept.mono Z (fun g _ e=>vu e)) (Kept.mono U (fun g _ e=>vv e)))
  exact qo (v:=vi #[ve vq K,vf G,vd H n k]) (by simp [qC,Tryz.results274,go_sem,t0,J,M]) rfl ⟨K,G,_,rfl,RD.kept X (fun g o e=>by rcases e with e|e<;>omega) (fun g o=>by omega),P2.keptB U (by omega),Kept.mono (Kept.trans (Kept.trans A.kept (Kept.mono C (fun g _ e=>vu e))) X) (fun g o e=>by rcases e with e|e<;>omega),H,n,k,rfl⟩
 |true=>
  cases h3:pImplies f t2 with
  |none=>rw [if_pos rfl,h3]at j;cases j
  |some r3=>
  have⟨b,t3⟩:=r3;rw [if_pos rfl,h3]at j
  cases j;have ad:=q8 (fun(i:World)(L:PAt i B c t2)(hb:B<i.heap.size)=>HI L hb h3);go_enter Tryz.func274,Tryz.ntmps274;go_upto_region 1 with fail
  have P:=hW _ rfl;generalize w.alloc (vk #[ve vq 0,vf ⟨#[]⟩,vd none 0 0] 84)=W at P⊢;have⟨hN,hR⟩:=P;have A:=q8 hN;have q:=q8 hR;go_upto_region 4 with(first
   |(go_at_call 279;refine(V _ (HP.near A) (qu hB A.size)).mono ?_;rintro e d ⟨K,G,v,rfl,D,p1,k1,H,n,k,rfl⟩;have RD:=q8 D;have P1:=q8 p1;have C:=q8 k1)
   |(go_at_call 259;refine(O _ (P1.near ((Near.refl d).alloc _))).mono ?_;rintro e p ⟨rfl,p2,E⟩;have P2:=q8 p2;have Z:=q8 E;have m:=q8 (qQ E (heap_new_at rfl) (by have:=C.size;have:=A.size;omega));have r:=q8 (qQ E (qQ ((Near.refl d).alloc _) (qQ C q (by omega))) (by omega))))
  have ab:w.heap.size<W.heap.size:=(qk.1 q).1;have ap:W.heap.size≤d.heap.size:=C.size;have aj:d.heap.size<p.heap.size:=(qk.1 m).1;have ag: ∀i,Kept (fun g=>g=B∨g=w.heap.size) p i→i.cell? d.heap.size=some (ve vq K)∧i.cell? (vw d.heap.size 1)=some (vf G)∧i.cell? (vw d.heap.size 2)=some (vd H n k):=fun i h=>⟨cell1 (qQ h m (by omega)) rfl,cell1 (qQ h m (by omega)) rfl,cell1 (qQ h m (by omega)) rfl⟩;go_region_held3 (fun i=>i.cell? d.heap.size=some (ve vq K)∧i.cell? (vw d.heap.size 1)=some (vf G)∧i.cell? (vw d.heap.size 2)=some (vd H n k))
   ((refine ag _ ?_;first|exact z5 _ _ _|exact z4|exact R.alloc _|exact R|exact(Kept.refl _ _).drew))
   (first
     |(go_at_call 274;refine(ad _ (P2.near (Near.refl p).drew) (by show B<p.heap.size;omega)).mono ?_;rintro e Y ⟨ak,am,v3,rfl,af,p3,k3,al,n3,ai,rfl⟩;have ae:=q8 af;have P3:=q8 p3;have K3:=q8 k3;have R:Kept (fun g=>g=B∨g=w.heap.size) p Y:=Kept.trans (Kept.refl _ p).drew (Kept.mono k3 (fun g _ e=>vu e)))
     |(go_at_call 261;refine(xa (S:=fun g=>W.heap.size≤g) (l:=[a,b]) (q4I (RD.kept (Kept.trans (((Near.refl d).alloc _).kept) (Kept.trans (Kept.mono Z (fun g _ e=>vu e)) R)) (fun g o e=>by rcases e with e|e<;>omega) (fun g o=>o)) (ae.kept (Kept.refl (fun _=>False) Y) (fun _ _ h=>h) (fun g o=>by have h:p.heap.size≤g:=o;omega)) (by have:=R.size;omega))).mono ?_;rintro e w4 ⟨an,rfl,Q,n4⟩;obtain⟨aq,rfl,aa⟩:=Q.inv;obtain⟨u,s,rfl⟩:=aa.form;have ah:=q8 Q;have z4:Kept (fun g=>g=B∨g=w.heap.size) p w4:=Kept.trans (R.alloc _) n4.kept;have P4:=q8 (P3.near (((Near.refl Y).alloc _).trans n4));have I:=q8 (qQ (((Near.refl Y).alloc _).trans n4) (qQ K3 (qQ (Near.refl p).drew r) (by omega)));have⟨r0,r1,r2,f0,f1,f2⟩:=ZW I;have z5: ∀x y z,Kept (fun g=>g=B∨g=w.heap.size) p (((w4.setCell w.heap.size x).setCell (vw w.heap.size 1) y).setCell (vw w.heap.size 2) z):=fun x y z=>Kept.trans z4 (Kept.mono (Yt I x y z).2.2.2 (fun _ _ e=>vv e))))
  go_wp2_with fail
  have⟨t0,J,M,U⟩:=Yt I (ve vq 8) (vf ⟨#[]⟩) (vd u 2 s);have X:Kept (fun g=>g=B∨g=w.heap.size) d _:=Kept.trans (((Near.refl d).alloc _).kept) (Kept.trans (Kept.mono Z (fun g _ e=>vu e)) (z5 (ve vq 8) (vf ⟨#[]⟩) (vd u 2 s)));exact qo (v:=vi #[ve vq 8,vf ⟨#[]⟩,vd u 2 s]) (by simp [qC,Tryz.results274,go_sem,t0,J,M]) rfl ⟨8,⟨#[]⟩,_,rfl,ah.kept U (fun g o e=>by have h:W.heap.size≤g:=o;omega) (fun g o=>by have h:W.heap.size≤g:=o;omega),P4.keptB U (by omega),Kept.mono (Kept.trans (Kept.trans A.kept (Kept.mono C (fun g _ e=>vu e))) X) (fun g o e=>by rcases e with e|e<;>omega),u,_,s,rfl⟩
theorem q0C{c:ByteArray}(N:c.size<4611686018427387904)(HR:PFn c 274 [] (pImplies f)):PFn c 258 [] (pSame (f+1)):=by
 intro w B t x t' L hB j;rw [pSame]at j
 cases h1:pImplies f t with
 |none=>rw [h1]at j;cases j
 |some r1=>
 have⟨a,t1⟩:=r1;rw [h1]at j;replace j:(yt [60,61,62] t1).bind (fun y=>if y.1 then(pImplies f y.2).bind fun b=>some (mk0 9 [a,b.1],b.2)else some (a,y.2))=some (x,t'):=j
 cases h2:yt [60,61,62] t1 with
 |none=>rw [h2]at j;cases j
 |some r2=>
 have⟨b2,t2⟩:=r2;rw [h2]at j;replace j:(if b2 then(pImplies f t2).bind fun b=>some (mk0 9 [a,b.1],b.2)else some (a,t2))=some (x,t'):=j;have O:=q8 (fun(i:World)(L:PAt i B c t1)=>jX L N ⟨#[60,61,62]⟩ h2);have V:=q8 (fun(i:World)(L:PAt i B c t)(hb:B<i.heap.size)=>HR L hb h1);have hW: ∀W,W=w.alloc (vk #[ve vq 0,vf ⟨#[]⟩,vd none 0 0] 84)→Near w W∧W.heap[w.heap.size]? =some (vk #[ve vq 0,vf ⟨#[]⟩,vd none 0 0] 84 (0,0)):=by
  rintro W rfl;exact⟨(Near.refl w).alloc _,heap_new_at rfl⟩
 have HP:=q8 L
 cases b2 with
 |false=>
  cases j;go_enter Tryz.func258,Tryz.ntmps258;go_upto_region 1 with fail
  have P:=hW _ rfl;generalize w.alloc (vk #[ve vq 0,vf ⟨#[]⟩,vd none 0 0] 84)=W at P⊢;have⟨hN,hR⟩:=P;have A:=q8 hN;have q:=q8 hR;go_wp2_with (first
   |(go_at_call 274;refine(V _ (HP.near A) (qu hB A.size)).mono ?_;rintro e d ⟨K,G,v,rfl,D,p1,k1,H,n,k,rfl⟩;have RD:=q8 D;have P1:=q8 p1;have C:=q8 k1)
   |(go_at_call 259;refine(O _ (P1.near ((Near.refl d).alloc _))).mono ?_;rintro e p ⟨rfl,p2,E⟩;have P2:=q8 p2;have Z:=q8 E;have m:=q8 (qQ E (heap_new_at rfl) (by have:=C.size;have:=A.size;omega));obtain⟨y0,y1,y2,-,-,-⟩:=ZW m;have r:=q8 (qQ E (qQ ((Near.refl d).alloc _) (qQ C q (by omega))) (by omega));have⟨r0,r1,r2,f0,f1,f2⟩:=ZW r))
  have⟨t0,J,M,U⟩:=Yt r (ve vq K) (vf G) (vd H n k);have ab:w.heap.size<W.heap.size:=(qk.1 q).1;have X:Kept (fun g=>g=B∨g=w.heap.size) d (((p.setCell w.heap.size (ve vq K)).setCell (vw w.heap.size 1) (vf G)).setCell (vw w.heap.size 2) (vd H n k)):=
   Kept.trans (((Near.refl d).alloc _).kept) (Kept.trans (Kept.mono Z (fun g _ e=>vu e)) (Kept.mono U (fun g _ e=>vv e)))
  exact qo (v:=vi #[ve vq K,vf G,vd H n k]) (by simp [qC,Tryz.results258,go_sem,t0,J,M]) rfl ⟨K,G,_,rfl,RD.kept X (fun g o e=>by rcases e with e|e<;>omega) (fun g o=>by omega),P2.keptB U (by omega),Kept.mono (Kept.trans (Kept.trans A.kept (Kept.mono C (fun g _ e=>vu e))) X) (fun g o e=>by rcases e with e|e<;>omega),H,n,k,rfl⟩
 |true=>
  cases h3:pImplies f t2 with
  |none=>rw [if_pos rfl,h3]at j;cases j
  |some r3=>
  have⟨b,t3⟩:=r3;rw [if_pos rfl,h3]at j
  cases j;have ad:=q8 (fun(i:World)(L:PAt i B c t2)(hb:B<i.heap.size)=>HR L hb h3);go_enter Tryz.func258,Tryz.ntmps258;go_upto_region 1 with fail
  have P:=hW _ rfl;generalize w.alloc (vk #[ve vq 0,vf ⟨#[]⟩,vd none 0 0] 84)=W at P⊢;have⟨hN,hR⟩:=P;have A:=q8 hN;have q:=q8 hR;go_upto_region 4 with(first
   |(go_at_call 274;refine(V _ (HP.near A) (qu hB A.size)).mono ?_;rintro e d ⟨K,G,v,rfl,D,p1,k1,H,n,k,rfl⟩;have RD:=q8 D;have P1:=q8 p1;have C:=q8 k1)
   |(go_at_call 259;refine(O _ (P1.near ((Near.refl d).alloc _))).mono ?_;rintro e p ⟨rfl,p2,E⟩;have P2:=q8 p2;have Z:=q8 E;have m:=q8 (qQ E (heap_new_at rfl) (by have:=C.size;have:=A.size;omega));have r:=q8 (qQ E (qQ ((Near.refl d).alloc _) (qQ C q (by omega))) (by omega))))
  have ab:w.heap.size<W.heap.size:=(qk.1 q).1;have ap:W.heap.size≤d.heap.size:=C.size;have aj:d.heap.size<p.heap.size:=(qk.1 m).1;have ag: ∀i,Kept (fun g=>g=B∨g=w.heap.size) p i→i.cell? d.heap.size=some (ve vq K)∧i.cell? (vw d.heap.size 1)=some (vf G)∧i.cell? (vw d.heap.size 2)=some (vd H n k):=fun i h=>⟨cell1 (qQ h m (by omega)) rfl,cell1 (qQ h m (by omega)) rfl,cell1 (qQ h m (by omega)) rfl⟩;go_region_held3 (fun i=>i.cell? d.heap.size=some (ve vq K)∧i.cell? (vw d.heap.size 1)=some (vf G)∧i.cell? (vw d.heap.size 2)=some (vd H n k))
   ((refine ag _ ?_;first|exact z5 _ _ _|exact z4|exact R.alloc _|exact R|exact(Kept.refl _ _).drew))
   (first
     |(go_at_call 274;refine(ad _ (P2.near (Near.refl p).drew) (by show B<p.heap.size;omega)).mono ?_;rintro e Y ⟨ak,am,v3,rfl,af,p3,k3,al,n3,ai,rfl⟩;have ae:=q8 af;have P3:=q8 p3;have K3:=q8 k3;have R:Kept (fun g=>g=B∨g=w.heap.size) p Y:=Kept.trans (Kept.refl _ p).drew (Kept.mono k3 (fun g _ e=>vu e)))
     |(go_at_call 261;refine(xa (S:=fun g=>W.heap.size≤g) (l:=[a,b]) (q4I (RD.kept (Kept.trans (((Near.refl d).alloc _).kept) (Kept.trans (Kept.mono Z (fun g _ e=>vu e)) R)) (fun g o e=>by rcases e with e|e<;>omega) (fun g o=>o)) (ae.kept (Kept.refl (fun _=>False) Y) (fun _ _ h=>h) (fun g o=>by have h:p.heap.size≤g:=o;omega)) (by have:=R.size;omega))).mono ?_;rintro e w4 ⟨an,rfl,Q,n4⟩;obtain⟨aq,rfl,aa⟩:=Q.inv;obtain⟨u,s,rfl⟩:=aa.form;have ah:=q8 Q;have z4:Kept (fun g=>g=B∨g=w.heap.size) p w4:=Kept.trans (R.alloc _) n4.kept;have P4:=q8 (P3.near (((Near.refl Y).alloc _).trans n4));have I:=q8 (qQ (((Near.refl Y).alloc _).trans n4) (qQ K3 (qQ (Near.refl p).drew r) (by omega)));have⟨r0,r1,r2,f0,f1,f2⟩:=ZW I;have z5: ∀x y z,Kept (fun g=>g=B∨g=w.heap.size) p (((w4.setCell w.heap.size x).setCell (vw w.heap.size 1) y).setCell (vw w.heap.size 2) z):=fun x y z=>Kept.trans z4 (Kept.mono (Yt I x y z).2.2.2 (fun _ _ e=>vv e))))
  go_wp2_with fail
  have⟨t0,J,M,U⟩:=Yt I (ve vq 9) (vf ⟨#[]⟩) (vd u 2 s);have X:Kept (fun g=>g=B∨g=w.heap.size) d _:=Kept.trans (((Near.refl d).alloc _).kept) (Kept.trans (Kept.mono Z (fun g _ e=>vu e)) (z5 (ve vq 9) (vf ⟨#[]⟩) (vd u 2 s)));exact qo (v:=vi #[ve vq 9,vf ⟨#[]⟩,vd u 2 s]) (by simp [qC,Tryz.results258,go_sem,t0,J,M]) rfl ⟨9,⟨#[]⟩,_,rfl,ah.kept U (fun g o e=>by have h:W.heap.size≤g:=o;omega) (fun g o=>by have h:W.heap.size≤g:=o;omega),P4.keptB U (by omega),Kept.mono (Kept.trans (Kept.trans A.kept (Kept.mono C (fun g _ e=>vu e))) X) (fun g o e=>by rcases e with e|e<;>omega),u,_,s,rfl⟩
theorem q3s{a b c:Ex}{f o l n k e m:Value}(z:RdEx S w [d,g,f] a)(y:RdEx S w [o,l,n] b)(A:RdEx S w [k,e,m] c)(t:S w.heap.size):
 RdL S 3 (RdEx S) (w.alloc (vk #[d,g,f,o,l,n,k,e,m] 84)) (vd w.heap.size 3 3) [a,b,c]:=by
 have s:Near w (w.alloc (vk #[d,g,f,o,l,n,k,e,m] 84)):=(Near.refl w).alloc _;have q:=cells_at (w:=w) rfl [d,g,f,o,l,n,k,e,m] 84;refine⟨_,_,rfl,fun i x p=> ?_⟩;match i,p with
 |0,p=>
  cases p;refine⟨w.heap.size,0,[d,g,f],rfl,t,fun j u r=> ?_,z.kept s (fun _ _ h=>h) (fun _ h=>h)⟩;have v:j<3:=(qm.1 r).1
  have:=q j u (by rw [show [d,g,f,o,l,n,k,e,m]=[d,g,f]++[o,l,n,k,e,m]from rfl,zc (by simpa using v)];exact r)
  rw [yP]at this;simpa using this
 |1,p=>
  cases p;refine⟨w.heap.size,0,[o,l,n],rfl,t,fun j u r=> ?_,y.kept s (fun _ _ h=>h) (fun _ h=>h)⟩;have v:j<3:=(qm.1 r).1
  have:=q (3+j) u (by rw [show [d,g,f,o,l,n,k,e,m]=[d,g,f]++([o,l,n]++[k,e,m])from rfl,qV (by simp),zc (by simp;omega)];simpa using r)
  rw [yP]at this;simpa [Nat.add_assoc]using this
 |2,p=>
  cases p;refine⟨w.heap.size,0,[k,e,m],rfl,t,fun j u r=> ?_,A.kept s (fun _ _ h=>h) (fun _ h=>h)⟩
  have:=q (6+j) u (by rw [show [d,g,f,o,l,n,k,e,m]=[d,g,f,o,l,n]++[k,e,m]from rfl,qV (by simp)];simpa using r)
  rw [yP]at this;simpa [Nat.add_assoc]using this
 |i+3,p=>simp at p
theorem Ua{d:ByteArray}(H:d.size<4611686018427387904)(HS:PFn d 258 [] (pSame f))(HC:PFn d 232 [] (pChoice f)):PFn d 232 [] (pChoice (f+1)):=by
 intro w B t x t' q hB j;rw [pChoice]at j
 cases h1:pSame f t with
 |none=>rw [h1]at j;cases j
 |some r1=>
 have⟨a,t1⟩:=r1;rw [h1]at j;replace j:(yt [63] t1).bind (fun y=>if y.1 then(pChoice f y.2).bind fun b=>(yt [58] b.2).bind fun z=>if z.1 then(pChoice f z.2).bind fun c=>some (mk0 10 [a,b.1,c.1],c.2)else none else some (a,y.2))=some (x,t'):=j
 cases h2:yt [63] t1 with
 |none=>rw [h2]at j;cases j
 |some r2=>
 have⟨b2,t2⟩:=r2;rw [h2]at j;replace j:(if b2 then(pChoice f t2).bind fun b=>(yt [58] b.2).bind fun z=>if z.1 then(pChoice f z.2).bind fun c=>some (mk0 10 [a,b.1,c.1],c.2)else none else some (a,t2))=some (x,t'):=j;have aa:=q8 (fun(i:World)(q:PAt i B d t1)=>jX q H ⟨#[63]⟩ h2);have ad:=q8 (fun(i:World)(q:PAt i B d t)(hb:B<i.heap.size)=>HS q hb h1);have hW: ∀W,W=w.alloc (vk #[ve vq 0,vf ⟨#[]⟩,vd none 0 0] 84)→Near w W∧W.heap[w.heap.size]? =some (vk #[ve vq 0,vf ⟨#[]⟩,vd none 0 0] 84 (0,0)):=by
  rintro W rfl;exact⟨(Near.refl w).alloc _,heap_new_at rfl⟩
 have HP:=q8 q
 cases b2 with
 |false=>
  cases j;go_enter Tryz.func232,Tryz.ntmps232;go_upto_region 1 with fail
  have h0:=hW _ rfl;generalize w.alloc (vk #[ve vq 0,vf ⟨#[]⟩,vd none 0 0] 84)=W at h0⊢;have⟨hN,hR⟩:=h0;have D:=q8 hN;have r:=q8 hR;go_wp2_with (first
   |(go_at_call 258;refine(ad _ (HP.near D) (qu hB D.size)).mono ?_;rintro e k ⟨O,R,v,rfl,L,p1,k1,M,n,o,rfl⟩;have RD:=q8 L;have P1:=q8 p1;have J:=q8 k1)
   |(go_at_call 259;refine(aa _ (P1.near ((Near.refl k).alloc _))).mono ?_;rintro e X ⟨rfl,p2,Q⟩;have P2:=q8 p2;have K2:=q8 Q;have E:=q8 (qQ Q (heap_new_at rfl) (by have:=J.size;have:=D.size;omega));obtain⟨y0,y1,y2,-,-,-⟩:=ZW E;have A:=q8 (qQ Q (qQ ((Near.refl k).alloc _) (qQ J r (by omega))) (by omega));have⟨r0,r1,r2,f0,f1,f2⟩:=ZW A))
  have⟨t0,N,P,kV⟩:=Yt A (ve vq O) (vf R) (vd M n o);have ah:w.heap.size<W.heap.size:=(qk.1 r).1;have kA:Kept (fun g=>g=B∨g=w.heap.size) k (((X.setCell w.heap.size (ve vq O)).setCell (vw w.heap.size 1) (vf R)).setCell (vw w.heap.size 2) (vd M n o)):=
   Kept.trans (((Near.refl k).alloc _).kept) (Kept.trans (Kept.mono K2 (fun g _ e=>vu e)) (Kept.mono kV (fun g _ e=>vv e)))
  exact qo (v:=vi #[ve vq O,vf R,vd M n o]) (by simp [qC,Tryz.results232,go_sem,t0,N,P]) rfl ⟨O,R,_,rfl,RD.kept kA (fun g m e=>by rcases e with e|e<;>omega) (fun g m=>by omega),P2.keptB kV (by omega),Kept.mono (Kept.trans (Kept.trans D.kept (Kept.mono J (fun g _ e=>vu e))) kA) (fun g m e=>by rcases e with e|e<;>omega),M,n,o,rfl⟩
 |true=>
  rw [if_pos rfl]at j
  cases h3:pChoice f t2 with
  |none=>rw [h3]at j;cases j
  |some r3=>
  have⟨b,t3⟩:=r3;rw [h3]at j;replace j:((yt [58] t3).bind fun z=>if z.1 then(pChoice f z.2).bind fun c=>some (mk0 10 [a,b,c.1],c.2)else none)=some (x,t'):=j
  cases h4:yt [58] t3 with
  |none=>rw [h4]at j;cases j
  |some r4=>
  have⟨z,t4⟩:=r4;rw [h4]at j
  cases z with
  |false=>cases j
  |true=>
  replace j:((pChoice f t4).bind fun c=>some (mk0 10 [a,b,c.1],c.2))=some (x,t'):=j
  cases h5:pChoice f t4 with
  |none=>rw [h5]at j;cases j
  |some r5=>
  have⟨c,t5⟩:=r5;rw [h5]at j
  cases j;have ap:=q8 (fun(i:World)(q:PAt i B d t2)(hb:B<i.heap.size)=>HC q hb h3);have ag:=q8 (fun(i:World)(q:PAt i B d t4)(hb:B<i.heap.size)=>HC q hb h5);have ak:=q8 (fun(i:World)(q:PAt i B d t3)=>Yv q H ⟨#[58]⟩ h4);go_enter Tryz.func232,Tryz.ntmps232;go_upto_region 1 with fail
  have h0:=hW _ rfl;generalize w.alloc (vk #[ve vq 0,vf ⟨#[]⟩,vd none 0 0] 84)=W at h0⊢;have⟨hN,hR⟩:=h0;have D:=q8 hN;have r:=q8 hR;go_upto_region 4 with(first
   |(go_at_call 258;refine(ad _ (HP.near D) (qu hB D.size)).mono ?_;rintro e k ⟨O,R,v,rfl,L,p1,k1,M,n,o,rfl⟩;have RD:=q8 L;have P1:=q8 p1;have J:=q8 k1)
   |(go_at_call 259;refine(aa _ (P1.near ((Near.refl k).alloc _))).mono ?_;rintro e X ⟨rfl,p2,Q⟩;have P2:=q8 p2;have K2:=q8 Q;have E:=q8 (qQ Q (heap_new_at rfl) (by have:=J.size;have:=D.size;omega));have A:=q8 (qQ Q (qQ ((Near.refl k).alloc _) (qQ J r (by omega))) (by omega))))
  have ah:w.heap.size<W.heap.size:=(qk.1 r).1;have a4:W.heap.size≤k.heap.size:=J.size;have ax:k.heap.size<X.heap.size:=(qk.1 E).1;go_upto_region 6 with(first
   |(go_at_call 232;refine(ap _ P2 (by omega)).mono ?_;rintro e p ⟨Z,af,v3,rfl,al,p3,k3,ab,n3,I,rfl⟩;have ar:=q8 al;have P3:=q8 p3;have Y:=q8 k3)
   |(go_at_call 260;refine(ak _ (P3.near ((Near.refl p).alloc _))).mono ?_;rintro e s ⟨rfl,p4,k4⟩;have P4:=q8 p4;have K4:=q8 k4;have G:=q8 (qQ k4 (heap_new_at rfl) (by have:=Y.size;omega));have K:=q8 (qQ k4 (qQ ((Near.refl p).alloc _) (qQ Y E (by omega))) (by omega));have aj:=q8 (qQ k4 (qQ ((Near.refl p).alloc _) (qQ Y A (by omega))) (by omega))))
  have ay:X.heap.size≤p.heap.size:=Y.size;have aw:p.heap.size<s.heap.size:=(qk.1 G).1;have am: ∀i,Kept (fun g=>g=B∨g=w.heap.size) s i→i.cell? k.heap.size=some (ve vq O)∧i.cell? (vw k.heap.size 1)=some (vf R)∧i.cell? (vw k.heap.size 2)=some (vd M n o)∧i.cell? p.heap.size=some (ve vq Z)∧i.cell? (vw p.heap.size 1)=some (vf af)∧i.cell? (vw p.heap.size 2)=some (vd ab n3 I):=fun i h=>⟨cell1 (qQ h K (by omega)) rfl,cell1 (qQ h K (by omega)) rfl,cell1 (qQ h K (by omega)) rfl,cell1 (qQ h G (by omega)) rfl,cell1 (qQ h G (by omega)) rfl,cell1 (qQ h G (by omega)) rfl⟩;go_region_held3 (fun i=>i.cell? k.heap.size=some (ve vq O)∧i.cell? (vw k.heap.size 1)=some (vf R)∧i.cell? (vw k.heap.size 2)=some (vd M n o)∧i.cell? p.heap.size=some (ve vq Z)∧i.cell? (vw p.heap.size 1)=some (vf af)∧i.cell? (vw p.heap.size 2)=some (vd ab n3 I))
   ((refine am _ ?_;first|exact z7 _ _ _|exact z6|exact V.alloc _|exact V|exact(Kept.refl _ _).drew))
   (first
     |(go_at_call 232;refine(ag _ (P4.near (Near.refl s).drew) (by show B<s.heap.size;omega)).mono ?_;rintro e w5 ⟨a0,a2,v5,rfl,au,p5,k5,a3,n5,av,rfl⟩;have an:=q8 au;have P5:=q8 p5;have K5:=q8 k5;have V:Kept (fun g=>g=B∨g=w.heap.size) s w5:=Kept.trans (Kept.refl _ s).drew (Kept.mono k5 (fun g _ e=>vu e)))
     |(go_at_call 261;refine(xa (S:=fun g=>W.heap.size≤g) (l:=[a,b,c]) (q3s (RD.kept (Kept.trans (((Near.refl k).alloc _).kept) (Kept.trans (Kept.mono K2 (fun g _ e=>vu e)) (Kept.trans (Kept.mono Y (fun g _ e=>vu e)) (Kept.trans (((Near.refl p).alloc _).kept) (Kept.trans (Kept.mono K4 (fun g _ e=>vu e)) V))))) (fun g m e=>by rcases e with e|e<;>omega) (fun g m=>m)) (ar.kept (Kept.trans (((Near.refl p).alloc _).kept) (Kept.trans (Kept.mono K4 (fun g _ e=>vu e)) V)) (fun g m e=>by have h:X.heap.size≤g:=m;rcases e with e|e<;>omega) (fun g m=>by have h:X.heap.size≤g:=m;omega)) (an.kept (Kept.refl (fun _=>False) w5) (fun _ _ h=>h) (fun g m=>by have h:s.heap.size≤g:=m;omega)) (by have:=V.size;omega))).mono ?_;rintro e w6 ⟨az,rfl,ae,n6⟩;obtain⟨a1,rfl,ai⟩:=ae.inv;obtain⟨u,C,rfl⟩:=ai.form;have aq:=q8 ae;have z6:Kept (fun g=>g=B∨g=w.heap.size) s w6:=Kept.trans (V.alloc _) n6.kept;have P6:=q8 (P5.near (((Near.refl w5).alloc _).trans n6));have U:=q8 (qQ (((Near.refl w5).alloc _).trans n6) (qQ K5 (qQ (Near.refl s).drew aj) (by omega)));have⟨r0,r1,r2,f0,f1,f2⟩:=ZW U;have z7: ∀x y z,Kept (fun g=>g=B∨g=w.heap.size) s (((w6.setCell w.heap.size x).setCell (vw w.heap.size 1) y).setCell (vw w.heap.size 2) z):=fun x y z=>Kept.trans z6 (Kept.mono (Yt U x y z).2.2.2 (fun _ _ e=>vv e))))
  go_wp2_with fail
  have⟨t0,N,P,kV⟩:=Yt U (ve vq 10) (vf ⟨#[]⟩) (vd u 3 C);have kA:Kept (fun g=>g=B∨g=w.heap.size) k _:=Kept.trans (((Near.refl k).alloc _).kept) (Kept.trans (Kept.mono K2 (fun g _ e=>vu e)) (Kept.trans (Kept.mono Y (fun g _ e=>vu e)) (Kept.trans (((Near.refl p).alloc _).kept) (Kept.trans (Kept.mono K4 (fun g _ e=>vu e)) (z7 (ve vq 10) (vf ⟨#[]⟩) (vd u 3 C))))));exact qo (v:=vi #[ve vq 10,vf ⟨#[]⟩,vd u 3 C]) (by simp [qC,Tryz.results232,go_sem,t0,N,P]) rfl ⟨10,⟨#[]⟩,_,rfl,aq.kept kV (fun g m e=>by have h:W.heap.size≤g:=m;omega) (fun g m=>by have h:W.heap.size≤g:=m;omega),P6.keptB kV (by omega),Kept.mono (Kept.trans (Kept.trans D.kept (Kept.mono J (fun g _ e=>vu e))) kA) (fun g m e=>by rcases e with e|e<;>omega),u,_,C,rfl⟩
theorem Gk{d:ByteArray}(y:d.size<4611686018427387904)(HC:PFn d 232 [] (pChoice f)):PFn d 281 [] (pLeast (f+1)):=by
 intro w B t x t' G hB b;rw [pLeast]at b;have⟨i,j,ax,hi,hr,ap⟩:=G.ex;have hW: ∀W,W=w.alloc (vk #[ve vq 0,vf ⟨#[]⟩,vd none 0 0] 84)→Near w W∧W.heap[w.heap.size]? =some (vk #[ve vq 0,vf ⟨#[]⟩,vd none 0 0] 84 (0,0))∧W.cell? (vw B 2)=some (vf j):=by
  rintro W rfl;exact⟨(Near.refl w).alloc _,heap_new_at rfl,cell1 (qQ ((Near.refl w).alloc _) ax) rfl⟩
 cases E:yt [40] t with
 |none=>rw [E]at b;cases b
 |some r1=>
 have⟨b1,M⟩:=r1;rw [E]at b;replace b:(if b1 then(pChoice f M).bind fun x=>(yt [41] x.2).bind fun z=>if z.1 then some (x.1,z.2)else none else if(t.word.head?.map fun c=>wordB c.toNat)=some true then(nextT t).map fun u=>(if t.word=[48]then mk0 1 []else if t.word=[49]then mk0 2 []else .mk 3 ⟨t.word.toArray⟩ [],u)else none)=some (x,t'):=b;have aa:=q8 (fun(I:World)(G:PAt I B d t)=>jX G y ⟨#[40]⟩ E);have HP:=q8 G
 cases b1 with
 |true=>
  rw [if_pos rfl]at b
  cases h2:pChoice f M with
  |none=>rw [h2]at b;cases b
  |some r2=>
  have⟨a,t2⟩:=r2;rw [h2]at b;replace b:((yt [41] t2).bind fun z=>if z.1 then some (a,z.2)else none)=some (x,t'):=b
  cases h3:yt [41] t2 with
  |none=>rw [h3]at b;cases b
  |some r3=>
  have⟨z,t3⟩:=r3;rw [h3]at b
  cases z with
  |false=>cases b
  |true=>
  cases b;have au:=q8 (fun(I:World)(G:PAt I B d M)(hb:B<I.heap.size)=>HC G hb h2);have aq:=q8 (fun(I:World)(G:PAt I B d t2)=>Yv G y ⟨#[41]⟩ h3);go_enter Tryz.func281,Tryz.ntmps281;go_upto_region 1 with fail
  have h0:=hW _ rfl;generalize w.alloc (vk #[ve vq 0,vf ⟨#[]⟩,vd none 0 0] 84)=W at h0⊢;have⟨hN,hR,c2⟩:=h0;have P:=q8 hN;have V:=q8 hR;have ak:w.heap.size<W.heap.size:=(qk.1 hR).1;go_wp2_with (first
   |(go_at_call 259;refine(aa _ (HP.near P)).mono ?_;rintro e D ⟨rfl,p1,k1⟩;have P1:=q8 p1;have N:=q8 k1;have an:W.heap.size≤D.heap.size:=k1.size)
   |(go_at_call 232;refine(au _ P1 (by omega)).mono ?_;rintro e Q ⟨op,nm,v,rfl,aj,p2,X,ao,n,J,rfl⟩;have RD:=q8 aj;have P2:=q8 p2;have Z:=q8 X;have ay:D.heap.size≤Q.heap.size:=X.size)
   |(go_at_call 260;refine(aq _ (P2.near ((Near.refl Q).alloc _))).mono ?_;rintro e w3 ⟨rfl,p3,k3⟩;have P3:=q8 p3;have K3:=q8 k3;have ah:=q8 (qQ k3 (heap_new_at rfl) (by omega));obtain⟨y0,y1,y2,-,-,-⟩:=ZW ah;have ad:=q8 (qQ k3 (qQ ((Near.refl Q).alloc _) (qQ Z (qQ N V (by omega)) (by omega))) (by omega));have⟨r0,r1,r2,f0,f1,f2⟩:=ZW ad))
  have⟨R,o,r,s⟩:=Yt ad (ve vq op) (vf nm) (vd ao n J);have K:Kept (fun g=>g=B∨g=w.heap.size) Q (((w3.setCell w.heap.size (ve vq op)).setCell (vw w.heap.size 1) (vf nm)).setCell (vw w.heap.size 2) (vd ao n J)):=
   Kept.trans (((Near.refl Q).alloc _).kept) (Kept.trans (Kept.mono K3 (fun g _ e=>vu e)) (Kept.mono s (fun g _ e=>vv e)))
  exact qo (v:=vi #[ve vq op,vf nm,vd ao n J]) (by simp [qC,Tryz.results281,go_sem,R,o,r]) rfl ⟨op,nm,_,rfl,RD.kept K (fun g p e=>by have h:D.heap.size≤g:=p;rcases e with e|e<;>omega) (fun g p=>by have h:D.heap.size≤g:=p;omega),P3.keptB s (by omega),Kept.mono (Kept.trans (Kept.trans P.kept (Kept.mono (Kept.trans N Z) (fun g _ e=>vu e))) K) (fun g p e=>by rcases e with e|e<;>omega),ao,n,J,rfl⟩
 |false=>
  rw [if_neg (by decide)]at b;have av:M=t:=by
   unfold yt at E;split at E
   ·cases Y:nextT t with
    |none=>rw [Y]at E;cases E
    |some q=>rw [Y]at E;cases E
   ·cases E;rfl
  subst av;by_cases O:(M.word.head?.map fun c=>wordB c.toNat)=some true
  ·rw [if_pos O]at b
   cases Y:nextT M with
   |none=>rw [Y]at b;cases b
   |some u=>
   rw [Y]at b
   cases b;rw [ap]at O⊢;have al:0<j.size:=by
    rw [←zX]
    cases hb:bytesL j with
    |nil=>rw [hb]at O;cases O
    |cons _ _=>simp
   have⟨hz,aw⟩:=byte_at al;have am:wordB j[0].toNat=true:=by
    rw [List.head?_eq_getElem?,qi hz,aw]at O;simpa using O
   have ai:=q8 (fun(I:World)(G:PAt I B d M)=>Ql G y Y);have HI:=q8 (fun w=>inWord_calls j[0].toNat w);rw [am]at HI;have a1:(0:Int)<j.size:=by omega
   have af:(⟨(bytesL j).toArray⟩:ByteArray)=j:=rfl;have a0:(j.toList==[])=false:=by
    rw [beq_eq_false_iff_ne,zp];intro e
    have:(bytesL j).length=0:=by show j.data.toList.length=0;rw [e];rfl
    rw [zX]at this;omega
   have ab: ∀c:UInt8,¬j=⟨#[c]⟩→(j.toList==[c])=false∧ ¬bytesL j=[c]:=by
    intro c hc;have h: ¬bytesL j=[c]:=fun e=>hc (by rw [←af,e]);exact⟨by rw [beq_eq_false_iff_ne,zp];exact h,h⟩
   go_enter Tryz.func281,Tryz.ntmps281;go_upto_region 1 with fail
   have h0:=hW _ rfl;generalize w.alloc (vk #[ve vq 0,vf ⟨#[]⟩,vd none 0 0] 84)=W at h0⊢;have⟨hN,hR,c2⟩:=h0;have P:=q8 hN;have V:=q8 hR;have ak:w.heap.size<W.heap.size:=(qk.1 hR).1;go_upto_region 9 with(first
    |(go_at_call 259;refine(aa _ (HP.near P)).mono ?_;rintro e D ⟨rfl,p1,k1⟩;have P1:=q8 p1;have N:=q8 k1;have an:W.heap.size≤D.heap.size:=k1.size)
    |(go_at_call 257;refine(HI _).mono ?_;rintro e I ⟨rfl,hq⟩;have hq:=hq.symm;subst hq)
    |(go_at_call 231;refine(ai _ P1).mono ?_;rintro e Q ⟨rfl,p2,X⟩;have P2:=q8 p2;have Z:=q8 X;have H:=q8 (qQ X (qQ N V (by omega)) (by omega));have ay:D.heap.size≤Q.heap.size:=X.size;have⟨r0,r1,r2,f0,f1,f2⟩:=ZW H))
   have ag:True:=trivial;by_cases w0:j=⟨#[48]⟩
   ·subst w0
    go_wp2_with (first
     |(go_at_call 261;refine(xa (S:=fun g=>W.heap.size≤g) (l:=[]) ⟨none,0,rfl,fun i x b=>by simp at b⟩).mono ?_;rintro e w4 ⟨ar,rfl,A,n4⟩;obtain⟨az,rfl,L⟩:=A.inv;obtain⟨m,k,rfl⟩:=L.form;have U:=q8 A;have N4:=q8 n4;have C:=q8 (qQ n4 H);have⟨r0,r1,r2,f0,f1,f2⟩:=ZW C))
    have⟨R,o,r,s⟩:=Yt C (ve vq 1) (vf ⟨#[]⟩) (vd m 0 k);have K:Kept (fun g=>g=B∨g=w.heap.size) D _:=Kept.trans (Kept.mono Z (fun g _ e=>vu e)) (Kept.trans N4.kept (Kept.mono s (fun g _ e=>vv e)));exact qo (v:=vi #[ve vq 1,vf ⟨#[]⟩,vd m 0 k]) (by simp [qC,Tryz.results281,go_sem,R,o,r]) rfl ⟨1,⟨#[]⟩,_,rfl,U.kept s (fun g p e=>by have h:W.heap.size≤g:=p;omega) (fun g p=>by have h:W.heap.size≤g:=p;omega),(P2.near N4).keptB s (by omega),Kept.mono (Kept.trans (Kept.trans P.kept (Kept.mono N (fun g _ e=>vu e))) K) (fun g p e=>by rcases e with e|e<;>omega),m,_,k,rfl⟩
   ·by_cases ae:j=⟨#[49]⟩
    ·subst ae
     go_wp2_with (first
      |(go_at_call 261;refine(xa (S:=fun g=>W.heap.size≤g) (l:=[]) ⟨none,0,rfl,fun i x b=>by simp at b⟩).mono ?_;rintro e w4 ⟨ar,rfl,A,n4⟩;obtain⟨az,rfl,L⟩:=A.inv;obtain⟨m,k,rfl⟩:=L.form;have U:=q8 A;have N4:=q8 n4;have C:=q8 (qQ n4 H);have⟨r0,r1,r2,f0,f1,f2⟩:=ZW C))
     have⟨R,o,r,s⟩:=Yt C (ve vq 2) (vf ⟨#[]⟩) (vd m 0 k);have K:Kept (fun g=>g=B∨g=w.heap.size) D _:=Kept.trans (Kept.mono Z (fun g _ e=>vu e)) (Kept.trans N4.kept (Kept.mono s (fun g _ e=>vv e)));exact qo (v:=vi #[ve vq 2,vf ⟨#[]⟩,vd m 0 k]) (by simp [qC,Tryz.results281,go_sem,R,o,r]) rfl ⟨2,⟨#[]⟩,_,rfl,U.kept s (fun g p e=>by have h:W.heap.size≤g:=p;omega) (fun g p=>by have h:W.heap.size≤g:=p;omega),(P2.near N4).keptB s (by omega),Kept.mono (Kept.trans (Kept.trans P.kept (Kept.mono N (fun g _ e=>vu e))) K) (fun g p e=>by rcases e with e|e<;>omega),m,_,k,rfl⟩
    ·have q0:=ab 48 w0
     have q1:=ab 49 ae;have⟨q0,p0⟩:=q0;have⟨q1,p1⟩:=q1;rw [if_neg p0,if_neg p1,af];go_wp2_with fail
     have⟨R,o,r,s⟩:=Yt H (ve vq 3) (vf j) (vd none 0 0);have K:Kept (fun g=>g=B∨g=w.heap.size) D _:=Kept.trans (Kept.mono Z (fun g _ e=>vu e)) (Kept.mono s (fun g _ e=>vv e));exact qo (v:=vi #[ve vq 3,vf j,vd none 0 0]) (by simp [qC,Tryz.results281,go_sem,R,o,r]) rfl ⟨3,j,_,rfl,RdEx.of ⟨none,0,rfl,fun i x b=>by simp at b⟩,P2.keptB s (by omega),Kept.mono (Kept.trans (Kept.trans P.kept (Kept.mono N (fun g _ e=>vu e))) K) (fun g p e=>by rcases e with e|e<;>omega),none,0,0,rfl⟩
  ·rw [if_neg O]at b
   cases b
theorem RdEx.here{e:Ex}(h:RdEx S w vs e):RdEx (fun g=>S g/\g<w.heap.size) w vs e:=by
 induction h with
 |mk q i d g o j r vs k m p n=>
  refine .mk q i d g o j r vs (fun f=>⟨(k f).1,(k f).2,?_⟩) m n;have l:0<d.length:=List.length_pos_iff.2 f;have h:=p 0 _ (qi l);generalize d[0]=x at h
  cases x with
  |mk a b c=>
   have⟨v,e,_⟩:=h.inv;exact qM _ _ (m 0 l 0 _ (by rw [e];rfl))
theorem JK: ∀{f n:Nat}{t:St}{m:Nat}{a:St},pBangs f n t=some (m,a)->n<=m/\m<=n+f
 |0,n,t,m,a,h=>by rw [pBangs]at h;cases h
 |f+1,n,t,m,a,h=>by
  rw [pBangs]at h
  cases b:yt [33] t with
  |none=>rw [b]at h;cases h
  |some y=>
   rw [b]at h;replace h:(if y.1 then pBangs f (n+1) y.2 else some (n,y.2))=some (m,a):=h;split at h
   .have:=JK h;omega
   .cases h;omega
theorem q78{a:Ex}{b e:Value}(f:RdEx S w [b,c,e] a)(m:S w.heap.size):
 RdL S 3 (RdEx S) (w.alloc (vk #[b,c,e] 84)) (vd w.heap.size 1 1) [a]:=by
 have g:Near w (w.alloc (vk #[b,c,e] 84)):=(Near.refl w).alloc _;have l:=cells_at (w:=w) rfl [b,c,e] 84;refine⟨_,_,rfl,fun i x d=> ?_⟩;match i,d with
 |0,d=>
  cases d;refine⟨w.heap.size,0,[b,c,e],rfl,m,fun j u k=> ?_,f.kept g (fun _ _ h=>h) (fun _ h=>h)⟩
  have:=l j u k
  rw [yP]at this;simpa using this
 |i+1,d=>simp at d
theorem Zp(h:w.heap[b]? =some (vk #[p,q,r] 84 (0,0)))(x y z:Value):
 (((w.setCell b x).setCell (vw b 1) y).setCell (vw b 2) z).heap[b]? =some (vk #[x,y,z] 84 (0,0)):=by
 have a:=qz (qz (qz h 0 x) 1 y) 2 z;simpa only [qb,qh,qd]using a
theorem q1g(h:k<n)(e:Ex):nots (n - k) e=nots (n - (k+1)) (mk0 4 [e]):=by
 obtain⟨d,rfl⟩: ∃d,n=k+1+d:=⟨n - (k+1),by omega⟩;rw [show k+1+d - k=d+1 by omega,show k+1+d - (k+1)=d by omega,nots]
theorem q3F{i:ByteArray}(I:i.size<4611686018427387904)(hf:f<4611686018427387904)(HL:PFn i 281 [] (pLeast f)):PFn i 280 [] (pNot (f+1)):=by
 intro w B t x t' G hB u;rw [pNot]at u
 cases Z:pBangs f 0 t with
 |none=>rw [Z]at u;cases u
 |some r1=>
 have⟨m,M⟩:=r1;rw [Z]at u;replace u:(pLeast f M).bind (fun x=>some (nots m x.1,x.2))=some (x,t'):=u
 cases h2:pLeast f M with
 |none=>rw [h2]at u;cases u
 |some r2=>
 have⟨a,t2⟩:=r2;rw [h2]at u
 cases u;have au:m<4611686018427387904:=by have:=JK Z;omega
 have ai:=q8 Z;have aa:=q8 (fun(R:World)(G:PAt R B i M)(j:B<R.heap.size)=>HL G j h2);have hW: ∀W,W=w.alloc (vk #[ve vq 0,vf ⟨#[]⟩,vd none 0 0] 84)→Near w W∧W.heap[w.heap.size]? =some (vk #[ve vq 0,vf ⟨#[]⟩,vd none 0 0] 84 (0,0)):=by
  rintro W rfl;exact⟨(Near.refl w).alloc _,heap_new_at rfl⟩
 have HP:=q8 G;obtain⟨X,U⟩: ∃X,X=nots m a:=⟨_,rfl⟩;rw [←U];have HX:=q8 U;go_enter Tryz.func280,Tryz.ntmps280;go_upto_region 1 with fail
 have C:=hW _ rfl;generalize w.alloc (vk #[ve vq 0,vf ⟨#[]⟩,vd none 0 0] 84)=W at C⊢;have⟨hN,hR⟩:=C;have HN:=q8 hN;have am:=q8 hR;have ap:w.heap.size<W.heap.size:=(qk.1 hR).1;go_wp2_with fail
 go_loopw [3] (fun nv wr=> ∃(k H:Nat)(s:St),nv=ve vp k∧pBangs H k s=some (m,M)∧PAt wr B i s∧Kept (fun g=>g=B) W wr) (fun nv _=>m - (intOf nv).toNat)
 case atStart=>exact⟨0,_,_,rfl,ai,HP.near HN,Kept.refl _ _⟩
 case round=>
  obtain⟨k,H,s,rfl,j,ae,aj⟩:=hrel
  cases H with
  |zero=>rw [pBangs]at j;cases j
  |succ H=>
  rw [pBangs]at j
  cases h3:yt [33] s with
  |none=>rw [h3]at j;cases j
  |some y=>
  have⟨b,s1⟩:=y;rw [h3]at j;replace j:(if b then pBangs H (k+1) s1 else some (k,s1))=some (m,M):=j;have L:=q8 (fun(R:World)(G:PAt R B i s)=>jX G I ⟨#[33]⟩ h3);have P1:=q8 ae;have K1:=q8 aj
  cases b with
  |true=>
   rw [if_pos rfl]at j;have D:k+1≤m:=(JK j).1;have HB:=q8 j;go_wp2_with (go_at_call 259;refine(L _ P1).mono ?_;rintro e w1 ⟨rfl,p1,Y⟩;have P2:=q8 p1;have K2:=q8 Y)
   go_roundw
   case rel=>exact⟨k+1,H,s1,by go_num,HB,P2,Kept.trans K1 K2⟩
   case measure=>simp [intOf];omega
  |false=>
   rw [if_neg (by decide)]at j
   cases j;go_upto_region 5 with(first
    |(go_at_call 259;refine(L _ P1).mono ?_;rintro e w1 ⟨rfl,p1,Y⟩;have P2:=q8 p1;have K2:=q8 (Kept.trans K1 Y);have aq:W.heap.size≤w1.heap.size:=(Kept.trans K1 Y).size)
    |(go_at_call 281;refine(aa _ P2 (by omega)).mono ?_;rintro e r ⟨q,o,v,rfl,ab,p2,k2,p,n,d,rfl⟩;have RD:=q8 (RdEx.here ab);have P3:=q8 p2;have K3:=q8 (Kept.trans K2 k2);have aw:w1.heap.size≤r.heap.size:=k2.size))
   have C: ∀V,V=r.alloc (vk #[ve vq q,vf o,vd p n d] 84)→V.heap[r.heap.size]? =some (vk #[ve vq q,vf o,vd p n d] 84 (0,0))∧RdEx (fun g=>W.heap.size≤g∧g≠r.heap.size) V [ve vq q,vf o,vd p n d] a∧PAt V B i t2∧Kept (fun g=>g=B) W V:=by
    rintro V rfl;have hn:=(Near.refl r).alloc (vk #[ve vq q,vf o,vd p n d] 84);exact⟨heap_new_at rfl,RD.kept hn (fun _ _ h=>h) (fun g z=>by omega),P3.near hn,Kept.trans K3 hn.kept⟩
   replace C:=C _ rfl;generalize r.alloc (vk #[ve vq q,vf o,vd p n d] 84)=V at C⊢;have H0:=q8 C;go_wp2_with fail
   go_loopw [12] (fun iv wr=> ∃(k:Nat)(c:Ex)(q:Int)(o:ByteArray)(p:Option Addr)(n d:Nat),k≤m∧iv=ve vp k∧nots m a=nots (m - k) c∧wr.heap[r.heap.size]? =some (vk #[ve vq q,vf o,vd p n d] 84 (0,0))∧RdEx (fun g=>W.heap.size≤g∧g≠r.heap.size) wr [ve vq q,vf o,vd p n d] c∧PAt wr B i t2∧Kept (fun g=>g=B) W wr) (fun iv _=>m - (intOf iv).toNat)
   case atStart=>
    have⟨g1,g2,g3,g4⟩:=H0.out;exact⟨0,_,_,_,_,_,_,qv _,rfl,rfl,g1,g2,g3,g4⟩
   case round=>
    obtain⟨k,c,q,o,p,n,d,hk,rfl,U,j,ag,G,af⟩:=hrel;have HB:=q8 j;have N:=q8 ag;have P4:=q8 G;have K4:=q8 af;have K:=q8 U;have⟨r0,r1,r2,f0,f1,f2⟩:=ZW j;have ar:r.heap.size<wr.heap.size:=(qk.1 j).1;by_cases D:k<m
    ·have an:(k:Int)<m:=by omega
     go_wp2_with (first
      |(go_at_call 261;refine(xa (S:=fun g=>W.heap.size≤g∧g≠r.heap.size) (l:=[c]) (q78 N ⟨by omega,by omega⟩)).mono ?_;rintro e w4 ⟨av,rfl,O,n4⟩;obtain⟨ax,rfl,ad⟩:=O.inv;obtain⟨Q,P,rfl⟩:=ad.form;have al:=q8 O;have N4:=q8 (((Near.refl wr).alloc (vk #[ve vq q,vf o,vd p n d] 84)).trans n4);have A:=q8 (qQ N4 HB);have⟨r0,r1,r2,f0,f1,f2⟩:=ZW A))
     have E:=(Yt A (ve vq 4) (vf ⟨#[]⟩) (vd Q 1 P)).2.2.2;have kW:Kept (fun g=>g=B) W _:=Kept.mono (Kept.trans (Kept.mono (Kept.trans K4 N4.kept) (fun g _ e=>vu e)) (Kept.mono E (fun g _ e=>vv e)):Kept (fun g=>g=B∨g=r.heap.size) W _) (fun g z e=>by rcases e with e|e<;>omega);go_roundw
     case rel=>exact⟨k+1,mk0 4 [c],4,⟨#[]⟩,Q,1,P,D,by go_num,K.trans (q1g D c),Zp A _ _ _,al.kept E (fun g z e=>z.2 e) (fun g z=>z),(P4.near N4).keptB E (by omega),kW⟩
     case measure=>simp [intOf];omega
    ·obtain rfl:k=m:=by omega
     have J:=q8 (qQ K4 am (by omega));have⟨q0,q1,q2,e0,e1,e2⟩:=ZW J;go_wp2_with fail
     have⟨t0,ah,ak,E⟩:=Yt J (ve vq q) (vf o) (vd p n d);rw [HX.out,K.out,Nat.sub_self];exact qo (v:=vi #[ve vq q,vf o,vd p n d]) (by simp [qC,Tryz.results280,go_sem,t0,ah,ak]) rfl ⟨q,o,_,rfl,N.kept E (fun g z e=>by omega) (fun g z=>by omega),P4.keptB E (by omega),Kept.mono (Kept.trans (Kept.mono (Kept.trans HN.kept K4) (fun g _ e=>vu e)) (Kept.mono E (fun g _ e=>vv e)):Kept (fun g=>g=B∨g=w.heap.size) w _) (fun g z e=>by rcases e with e|e<;>omega),p,n,d,rfl⟩
structure Pe where
 op:Int
 nm:ByteArray
 v:Value
 ex:Ex
def encP(p:Pe):List Value:=[.int .u8 p.op,.string p.nm,p.v]
def q4Y(base:Nat)(w:World)(v:Value)(ps:List Pe):Prop:=
 w.ownsRow base 84 3 v ps.length (ps.flatMap encP)/\ ∀p∈ps,RdEx (fun g=>base<=g/\v.ownBlock≠some g) w (encP p) p.ex
theorem q3j{R:Nat->Prop}{f:List Value}(h:w.ownsRow base e a v n f)(i:Kept R w w')(m: ∀k,base<=k-> ¬R k):w'.ownsRow base e a v n f:=by
 refine⟨h.1,?_⟩;rcases h.2 with o|⟨g,b,c,j,d,l,r⟩
 .exact vu o
 .exact vv ⟨g,b,c,j,d,qQ i l (m g d),r⟩
theorem q4Y.kept{K:Nat->Prop}{b:List Pe}(h:q4Y base w v b)(c:Kept K w w')(a: ∀g,base<=g-> ¬K g):q4Y base w' v b:=
 ⟨q3j h.1 c a,fun p e=>(h.2 p e).kept c (fun g d=>a g d.1) (fun _ h=>h)⟩
theorem q4Y.one{p:Pe}(h:RdEx S w (encP p) p.ex)(d: ∀g,S g->base<=g)(c:base<=w.heap.size):
 q4Y base (w.alloc (vk #[ve vq p.op,vf p.nm,p.v] 84)) (vd w.heap.size 1 1) [p]:=by
 refine⟨⟨rfl,vv ⟨w.heap.size,1,_,rfl,c,heap_new_at rfl,qt _,by decide,rfl,rfl⟩⟩,fun q a=> ?_⟩;rw [qN]at a;subst a;exact(RdEx.here h).kept ((Near.refl w).alloc _) (fun _ _ h=>h) (fun g b=>⟨d g b.1,by simp [Value.ownBlock];omega⟩)
theorem q4Y.snoc{c:World}{a:List Pe}{p:Pe}{o:Obj}(h:q4Y base w v a)(m:RdEx S w (encP p) p.ex)(n: ∀g,S g->base<=g/\v.ownBlock≠some g)
 (j:c.ownsRow base 84 3 (vd ao (a.length+1) cap) (a.length+1) (a.flatMap encP++[ve vq p.op,vf p.nm,p.v])) (b:(w.alloc o).grownBy c v.ownBlock) (l:(qw ao (a.length+1) cap).ownBlock=v.ownBlock\/(qw ao (a.length+1) cap).ownBlock=some (w.alloc o).heap.size):
 q4Y base c (vd ao (a.length+1) cap) (a++[p]):=by
 have d:Kept (fun g=>v.ownBlock=some g) w c:=Kept.grown (((Near.refl w).alloc o).kept) b (fun k d _=>d);have f: ∀q,RdEx (fun g=>base<=g/\v.ownBlock≠some g) w (encP q) q.ex->RdEx (fun g=>base<=g/\(qw ao (a.length+1) cap).ownBlock≠some g) c (encP q) q.ex:=fun q i=>by
  refine(RdEx.here i).kept d (fun g b=>b.1.2) (fun g b=>⟨b.1.1,?_⟩);rcases l with e|e
  .rw [e];exact b.1.2
  .rw [e]
   have:(w.alloc o).heap.size=w.heap.size+1:=by simp
   simp only [ne_eq,zo];omega
 refine⟨?_,fun q i=>f q ?_⟩
 .rw [qn,List.flatMap_append]
  exact j
 .rcases List.mem_append.1 i with e|e
  .exact h.2 q e
  .rw [qN]at e
   subst e;exact m.kept (Kept.refl (fun _=>False) w) (fun _ _ h=>h) n
theorem RdL.map{β:Type}{R:World->List Value->β->Prop}{l:List α}{f:α->β}(h:RdL S k (fun w d x=>R w d (f x)) w v l):RdL S k R w v (l.map f):=by
 obtain⟨e,b,rfl,g⟩:=h;refine⟨e,b,by rw [qG],fun i y a=> ?_⟩;rw [List.getElem?_map]at a
 cases c:l[i]? with
 |none=>rw [c]at a;cases a
 |some x=>
  rw [c]at a
  cases a;exact g i x c
theorem q4Y.rd{a:List Pe}(h:q4Y base w v a):RdL (fun g=>base<=g) 3 (RdEx (fun g=>base<=g)) w v (a.map Pe.ex):=
 RdL.map (RdL.own (enc:=encP) (R:=fun w c x=>RdEx (fun g=>base<=g) w c x.ex) (fun _=>rfl) h.1 fun p b=>(h.2 p b).kept (Kept.refl (fun _=>False) w) (fun _ _ h=>h) (fun _ h=>h.1))
theorem Jd: ∀{f i:Nat}{l:List Ex}{t:St}{m:List Ex}{a:St},pMore f i l t=some (m,a)->l.length<=m.length/\m.length<=l.length+f
 |0,i,l,t,m,a,h=>by rw [pMore]at h;cases h
 |f+1,i,l,t,m,a,h=>by
  rw [pMore]at h
  cases b:yt (rowSign i) t with
  |none=>rw [b]at h;cases h
  |some y=>
   rw [b]at h;replace h:(if y.1 then(pRow f (i+1) y.2).bind fun x=>pMore f i (l++[x.1]) x.2 else some (l,y.2))=some (m,a):=h;split at h
   .cases c:pRow f (i+1) y.2 with
    |none=>rw [c]at h;cases h
    |some x=>
     rw [c]at h
     have:=Jd (l:=l++[x.1]) h
     rw [qn]at this;simp at this;omega
   .cases h;omega
def sliceLen:Value->Nat| .slice _ n _=>n|_=>0
theorem VG:(qj.info? 84).map (fun i=>(i.zero,i.size,i.bytes))=some (some (vi #[ve vq 0,vf ⟨#[]⟩,vd none 0 0]),3,48):=by kernel_rfl
theorem UQ:(qj.info? 43).map (fun i=>(i.zero,i.size,i.bytes))=some (some (vi #[vd none 0 0,ve vp 0]),2,32):=by kernel_rfl
theorem q3n{op:Nat}{a:ByteArray}(h:jr op a k=true):(op=1/\k=0)\/(op=2/\k=0)\/(op=3/\k=0)\/(op=4/\k=1)\/op=5\/op=6\/op=7\/(op=8/\k=2)\/(op=9/\k=2)\/(op=10/\k=3):=by
 unfold jr at h;split at h<;>simp_all
theorem q8a: ∀{l:List α},l.length=2-> ∃a b,l=[a,b]
 |[a,b],_=>⟨a,b,rfl⟩
theorem q8m: ∀{l:List α},l.length=3-> ∃a b c,l=[a,b,c]
 |[a,b,c],_=>⟨a,b,c,rfl⟩
def q6O(fs:List F):F:=fun c=>(fs.map fun f=>f c).foldl (· != ·) false
theorem q06{fs:List F}{f:F}(h:fs[k]? =some f)(c:Nat->Bool):(q6O (fs.take k) c !=f c)=q6O (fs.take (k+1)) c:=by
 rw [qU,h];simp [q6O]
structure q2R(w w':World)(op:Nat)(nm:ByteArray)(sv kv:Value)(fs:List F):Prop where
 near:Near w w'
 box:w'.heap[w.heap.size]? =some (.cells #[.int .u8 op,.string nm,sv] 84 (0,0))
 res:w'.heap[w.heap.size+1]? =some (.cells #[.slice none 0 0,.int .i64 0] 43 (0,0))
 sets:Sets 43 IsF (w.heap.size+2) w' kv fs
theorem Gu{names:List ByteArray}(h24:names.length≤24): ∀(x:Ex){S Sn:Nat→Prop}{w:World}{vs:List Value}{vn:Value},RdL Sn 1 RdS w vn names→RdEx S w vs x→(∀y∈x.row,rightB y=true)→(∀y∈x.row,y.op=3→hasN names y.name=true)→x.size<1099511627776→Calls qj 205 #[vi vs.toArray,vn] w (jO w (fun c=>truth names c x)):=by
 refine Ex.ind fun op nm kd ih=> ?_;intro S Sn w vs vn hn hv hr hu hsz;obtain⟨sv,rfl,hs⟩:=hv.inv;obtain⟨so,sc,rfl⟩:=hs.form;obtain⟨no,nc,rfl⟩:=hn.form;have⟨i53,hi0,hz0,hz1,hz2⟩:=zG UQ;have hkl:kd.length<1099511627776:=by
  have:=Ex.len_le kd
  simp only [Ex.size]at hsz;omega
 have HK:=q8 (fun(w':World)(hw:Near w w')(k:Ex)(vs':List Value)(hk:k∈kd)(hv':RdEx S w' vs' k)=>ih k hk (hn.kept hw (fun _ _ h=>h) (fun _ h=>h) (fun _ _ h=>h)) hv' (fun y hy=>hr y (by simp only [Ex.row,qI];exact vv (Ex.rows_mem.2 ⟨_,hk,hy⟩))) (fun y hy=>hu y (by simp only [Ex.row,qI];exact vv (Ex.rows_mem.2 ⟨_,hk,hy⟩))) (by
  have:=Ex.sizes_mem hk
  simp only [Ex.size]at hsz;omega))
 have hro:=q3n (hr (.mk op nm kd) (by simp [Ex.row]));have HU:=q8 (hu (.mk op nm kd) (by simp [Ex.row]));have HV:=q8 hv;have HNm:=q8 hn;have HTr:=q8 (q30 names op nm kd);have hW: ∀W,W=(w.alloc (vk #[ve vq op,vf nm,vd so kd.length sc] 84)).alloc (vk #[vd none 0 0,ve vp 0] 43)→q2R w W op nm (vd so kd.length sc) (vd none 0 0) (kidsF names (kd.take 0)):=by
  rintro W rfl;exact⟨((Near.refl w).alloc _).alloc _,by rw [qD (by simp),heap_new_at rfl],heap_new_at (by simp),⟨[],qW _ _ _ _,rfl,fun j f p h=>by simp [kidsF]at h⟩⟩
 clear hn hv hs ih hr hu hsz;go_enter Tryz.func205,Tryz.ntmps205;go_upto_region 2 with fail
 have h1:=hW _ rfl;generalize(w.alloc (vk #[ve vq op,vf nm,vd so kd.length sc] 84)).alloc (vk #[vd none 0 0,ve vp 0] 43)=W at h1⊢;have c2:W.cell? (vw w.heap.size 2)=some (vd so kd.length sc):=cell1 h1.box rfl;have H1:=q8 h1;clear hW h1;go_wp2
 clear c2;go_loopw [5,16] (fun s ix wr=> ∃k:Nat,k≤kd.length∧ix=ve vp k∧q2R w wr op nm (vd so kd.length sc) s (kidsF names (kd.take k))) (fun _ ix _=>kd.length - (intOf ix).toNat)
 case atStart=>exact⟨0,qv _,rfl,H1⟩
 case round=>
  obtain⟨k,hk,rfl,hka⟩:=hrel;have hfl:(kidsF names (kd.take k)).length=k:=by unfold kidsF;rw [qG,zd];omega
  have HKA:=q8 hka;have HFL:=q8 hfl;have⟨hn1,hb1,hr1,hs1⟩:=hka;have HN1:=q8 hn1;obtain⟨vo,vc,rfl⟩:=hs1.form;have⟨us,hrow,hul,his⟩:=hs1;rw [hfl]at HKA hrow hul⊢;have HROW:=q8 hrow;have HUL:=q8 hul;have HIS:=q8 his;have hsw:w.heap.size+2≤wr.heap.size:=(qk.1 hr1).1;have HSz:=q8 hsw;clear hn1 hb1 hr1 hrow hul his hfl hsw H1;by_cases hlt:k<kd.length
  ·have hlt':(k:Int)<kd.length:=by omega
   obtain⟨x,hx⟩: ∃x,kd[k]? =some x:=⟨_,qi hlt⟩;have⟨v,e,hrw⟩:=HV.inv;simp only [qJ,and_true,true_and]at e;subst e;have⟨ao',cap',e,hc⟩:=hrw.kept HN1 (fun _ _ h=>h) (fun _ h=>h) (fun vs x hx=>hx.kept HN1 (fun _ _ h=>h) (fun _ h=>h));obtain⟨b,o,vs,hao,-,hcell,hv⟩:=hc k x hx;have HTk:=q8 (Gn names hx);have hmem:=qp hx;have⟨op',nm',kd'⟩:=x;have hv0:=hv;obtain⟨sv',rfl,hs'⟩:=hv.inv;obtain⟨so',sc',rfl⟩:=hs'.form;simp only [qq,true_and]at e;obtain⟨rfl,rfl⟩:=e;subst hao;have c0:wr.cell? (vw b (o+k*3))=some (ve vq op'):=hcell 0 _ rfl;have c1:=hcell 1 _ rfl;have c2:=hcell 2 _ rfl;have HC:=q8 (HK _ (HN1.alloc (vk #[ve vq op',vf nm',vd so' kd'.length sc'] 84)) _ _ hmem (hv0.kept ((Near.refl wr).alloc _) (fun _ _ h=>h) (fun _ h=>h)));clear hc hcell hv hv0 hs' hrw hx hmem;go_wp2_with (first
    |(go_at_call 205;refine HC.mono ?_;rintro e w3 ⟨v3,rfl,d3,n3⟩;obtain⟨r1,r2,r3,r4,rfl⟩:=d3.form;have HD3:=q8 d3;have HN3:=q8 (((Near.refl wr).alloc _).trans n3);clear d3 n3)
    |(at_builtin;refine wpList_append_more rfl (.tmp 20) (.tmp 24) 135 rfl (w.heap.size+2) 43 i53 (vi #[vd none 0 0,ve vp 0]) 2 32 Tryz.underlying135 hi0 hz0 hz1 hz2 rfl (by decide) (vd vo k vc) k (uL us) rfl (owns_kept HROW (HN3.alloc _) (fun _ _ h=>h)) _ 1 [vd r1 r2 r3,ve vp r4] rfl ⟨rfl,vv ⟨_,1,rfl,kK (by simp) _ _ _⟩⟩ (by simp [qX]) (by unfold maxLen;omega) (by omega) (by have:=HN3.size';have:=HSz.out;simp;omega) ?_;intro bo bcp w4 hown4 hg4;have HO4:=q8 hown4;have HG4:=q8 hg4;clear hown4 hg4))
   have O4:Y3 43 w3 w4:=Qk (owns_kept HROW HN3 (fun _ _ h=>h)) HG4;have hpush:=Sets.push (fs:=kidsF names (kd.take k)) (w:=w3) (HUL.trans HFL.symm) (fun j f p hj hp=>(HIS j f p hj hp).near HN3) HD3 (fun v f h=>h.only O4 (by decide)) (by rw [HFL.out];exact HO4);rw [←HTk.out]at hpush;have hk4:Kept (fun j=>(qw vo k vc).ownBlock=some j) wr w4:=Kept.grown ((HN3.alloc _).kept) HG4 (fun j e _=>e);have hn4:Near w w4:=Kept.grown ((HN1.trans HN3).alloc _) HG4 (fun kk hk hlt=>absurd (HROW.lt kk hk).1 (by omega));exact⟨⟨k+1,by omega,by go_num,hn4,qQ hk4 HKA.box (fun e=>by have:=(HROW.lt _ e).1;omega),qQ hk4 HKA.res (fun e=>by have:=(HROW.lt _ e).1;omega),hpush⟩,by simp [intOf];omega⟩
  ·obtain rfl:k=kd.length:=by omega
   have HA:Hid (q2R w wr op nm (vd so kd.length sc) (vd vo kd.length vc) (kidsF names kd)):=q8 (by have:=HKA.out;rwa [qF]at this);have c0:wr.cell? w.heap.size=some (ve vq op):=cell1 HA.box rfl;have c1:wr.cell? (vw w.heap.size 1)=some (vf nm):=cell1 HA.box rfl;have HKL:=q8 (show(kidsF names kd).length=kd.length by unfold kidsF;rw [qG]);clear HKA HFL HROW HUL HIS HN1 HSz hlt HK;rcases hro with⟨rfl,hl⟩|⟨rfl,hl⟩|⟨rfl,hl⟩|⟨rfl,hl⟩|rfl|rfl|rfl|⟨rfl,hl⟩|⟨rfl,hl⟩|⟨rfl,hl⟩
   ·go_wp2_with (go_at_call 242;refine(false_f _).mono ?_;rintro e w1 ⟨v1,rfl,d1,n1⟩;obtain⟨x1,x2,x3,x4,rfl⟩:=d1.form;have D1:=q8 d1;have N1:=q8 n1;have hR:=qE n1 HA.res;have HR:=q8 hR;have⟨r0,r1,f0,f1⟩:=ym hR;clear d1 n1 hR)
    have⟨t0,t1⟩:=yE HR (vd x1 x2 x3) (ve vp x4);exact qo (v:=vi #[vd x1 x2 x3,ve vp x4]) (by simp [qC,jv,go_sem,t0,t1]) rfl (yN (HA.near.trans N1) (by omega) HR (D1.congr fun c=>by rw [HTr.out];rfl))
   ·go_wp2_with (go_at_call 22;refine(true_f _).mono ?_;rintro e w1 ⟨v1,rfl,d1,n1⟩;obtain⟨x1,x2,x3,x4,rfl⟩:=d1.form;have D1:=q8 d1;have N1:=q8 n1;have hR:=qE n1 HA.res;have HR:=q8 hR;have⟨r0,r1,f0,f1⟩:=ym hR;clear d1 n1 hR)
    have⟨t0,t1⟩:=yE HR (vd x1 x2 x3) (ve vp x4);exact qo (v:=vi #[vd x1 x2 x3,ve vp x4]) (by simp [qC,jv,go_sem,t0,t1]) rfl (yN (HA.near.trans N1) (by omega) HR (D1.congr fun c=>by rw [HTr.out];rfl))
   ·have hh:hasN names nm=true:=HU rfl
    have hfi:(names.findIdx fun x=>decide (x=nm))<names.length:=by
     have⟨x,hx,he⟩:=yj.1 hh;exact List.findIdx_lt_length_of_exists ⟨x,hx,he⟩
    obtain⟨p,hp⟩: ∃p,p=(names.findIdx fun x=>decide (x=nm)):=⟨_,rfl⟩;have HIx:=q8 (fun w' (hw:Near w w')=>QI (HNm.kept hw (fun _ _ h=>h) (fun _ h=>h) (fun _ _ h=>h)) (by omega) nm);rw [show idxN names nm=(p:Int) by rw [idxN,if_pos (by exact hh),hp]]at HIx;have HP:=q8 hp;have HH:=q8 hh;have hp24:p<24:=by omega
    clear hp hh hfi;go_wp2_with (first
     |(go_at_call 211;refine(HIx _ HA.near).mono ?_;rintro e w' ⟨rfl,rfl⟩)
     |(go_at_call 201;refine(q6Y p hp24 _).mono ?_;rintro e w1 ⟨v1,rfl,d1,n1⟩;obtain⟨x1,x2,x3,x4,rfl⟩:=d1.form;have hn:=n1.alloc (vk #[vd x1 x2 x3,ve vp x4] 43);have D1:=q8 (d1.near ((Near.refl w1).alloc (vk #[vd x1 x2 x3,ve vp x4] 43)));have N1:=q8 hn;have hR:=qE hn HA.res;have HR:=q8 hR;have⟨r0,r1,f0,f1⟩:=ym hR;clear d1 n1 hR hn))
    have⟨t0,t1⟩:=yE HR (vd x1 x2 x3) (ve vp x4);exact qo (v:=vi #[vd x1 x2 x3,ve vp x4]) (by simp [qC,jv,go_sem,t0,t1]) rfl (yN (HA.near.trans N1) (by omega) HR (D1.congr fun c=>by rw [HTr.out];rw [HP.out];show c _=(hasN names nm&&c _);rw [HH.out];rfl))
   ·obtain⟨a,rfl⟩:=List.length_eq_one_iff.1 hl
    obtain⟨g,ec0,u0,v0,hx0,hb0,-,z0,z1,hi0⟩:=HA.sets.get (j:=0) rfl;have⟨p01,p02,p03,p04,hpe⟩:=hi0.form;simp only [qY,za,qJ,and_true]at hpe;obtain⟨rfl,rfl⟩:=hpe;simp only [qq]at hx0;obtain⟨rfl,-,rfl⟩:=hx0;have y0:wr.cell? g=some (vd p01 p02 p03):=by simpa using z0
    have y1:wr.cell? (vw g 1)=some (ve vp p04):=by simpa using z1
    have F0:=q8 hi0;clear z0 z1 hi0;go_wp2_with (go_at_call 77;refine(not_f F0).mono ?_;rintro e w1 ⟨v1,rfl,d1,n1⟩;obtain⟨x1,x2,x3,x4,rfl⟩:=d1.form;have D1:=q8 d1;have N1:=q8 n1;have hR:=qE n1 HA.res;have HR:=q8 hR;have⟨r0,r1,f0,f1⟩:=ym hR;clear d1 n1 hR)
    have⟨t0,t1⟩:=yE HR (vd x1 x2 x3) (ve vp x4);exact qo (v:=vi #[vd x1 x2 x3,ve vp x4]) (by simp [qC,jv,go_sem,t0,t1]) rfl (yN (HA.near.trans N1) (by omega) HR (D1.congr fun c=>by rw [HTr.out];rfl))
   ·go_wp2_with (go_at_call 70;refine(andall_f HA.sets (by rw [HKL.out];omega)).mono ?_;rintro e w1 ⟨v1,rfl,d1,n1⟩;obtain⟨x1,x2,x3,x4,rfl⟩:=d1.form;have D1:=q8 d1;have N1:=q8 n1;have hR:=qE n1 HA.res;have HR:=q8 hR;have⟨r0,r1,f0,f1⟩:=ym hR;clear d1 n1 hR)
    have⟨t0,t1⟩:=yE HR (vd x1 x2 x3) (ve vp x4);exact qo (v:=vi #[vd x1 x2 x3,ve vp x4]) (by simp [qC,jv,go_sem,t0,t1]) rfl (yN (HA.near.trans N1) (by omega) HR (D1.congr fun c=>by rw [HTr.out];show allF _ c=_;simp [wN,allF,List.all_map]))
   ·go_wp2_with (go_at_call 241;refine(orall_f HA.sets (by rw [HKL.out];omega)).mono ?_;rintro e w1 ⟨v1,rfl,d1,n1⟩;obtain⟨x1,x2,x3,x4,rfl⟩:=d1.form;have D1:=q8 d1;have N1:=q8 n1;have hR:=qE n1 HA.res;have HR:=q8 hR;have⟨r0,r1,f0,f1⟩:=ym hR;clear d1 n1 hR)
    have⟨t0,t1⟩:=yE HR (vd x1 x2 x3) (ve vp x4);exact qo (v:=vi #[vd x1 x2 x3,ve vp x4]) (by simp [qC,jv,go_sem,t0,t1]) rfl (yN (HA.near.trans N1) (by omega) HR (D1.congr fun c=>by rw [HTr.out];show q2U _ c=_;simp [wN,q2U,List.any_map]))
   ·have HFs:=q8 (fun c=>(show truth names c (.mk 7 nm kd)=q6O (kidsF names kd) c by rw [HTr.out];rfl))
    generalize kidsF names kd=fs at HA HKL HFs;clear c0 c1;have c0:wr.cell? w.heap.size=some (ve vq 7):=cell1 HA.box rfl;go_upto_region 21 with(go_at_call 242;refine(false_f _).mono ?_;rintro e w1 ⟨v1,rfl,d1,n1⟩;obtain⟨a1,a2,a3,a4,rfl⟩:=d1.form;have D1:=q8 d1;have N1:=q8 n1;clear d1 n1)
    have hN:Near wr (w1.alloc (vk #[vd a1 a2 a3,ve vp a4] 43)):=N1.alloc _;have hE:(w1.alloc (vk #[vd a1 a2 a3,ve vp a4] 43)).heap[w1.heap.size]? =some (vk #[vd a1 a2 a3,ve vp a4] 43 (0,0)):=heap_new_at rfl;have hD:IsF (w1.alloc (vk #[vd a1 a2 a3,ve vp a4] 43)) (vi #[vd a1 a2 a3,ve vp a4]) (q6O (fs.take 0)):=(D1.near ((Near.refl _).alloc _)).congr fun c=>rfl;have hsz:w.heap.size+1<w1.heap.size:=qu (qk.1 HA.res).1 N1.size;generalize w1.alloc (vk #[vd a1 a2 a3,ve vp a4] 43)=W at hN hE hD⊢;have HN:=q8 hN;have HE:=q8 hE;have HD:=q8 hD;have HRW:=q8 (qE hN HA.res);have HSW:=q8 (HA.sets.map hN fun v f h=>h.near hN);have hWl:w1.heap.size<W.heap.size:=(qk.1 hE).1;have HWl:=q8 hWl;have HSz:=q8 hsz;clear hN hE hD c0 hWl hsz;go_wp2
    go_loopw [62] (fun ix wx=> ∃(k:Nat)(u1:Option Addr)(u2 u3:Nat)(u4:Int),k≤kd.length∧ix=ve vp k∧wx.heap[w1.heap.size]? =some (vk #[vd u1 u2 u3,ve vp u4] 43 (0,0))∧IsF wx (vi #[vd u1 u2 u3,ve vp u4]) (q6O (fs.take k))∧Kept (fun j=>j=w1.heap.size) W wx) (fun ix _=>kd.length - (intOf ix).toNat)
    case atStart=>exact⟨0,a1,a2,a3,a4,qv _,rfl,HE,HD,Kept.refl _ _⟩
    case round=>
     obtain⟨k,u1,u2,u3,u4,hk,rfl,he,hd,hkp⟩:=hrel;have HC:=q8 he;have HF:=q8 hd;have HKp:=q8 hkp;clear he hd hkp;by_cases hlt:k<kd.length
     ·have hlt':(k:Int)<kd.length:=by omega
      obtain⟨f,hfk⟩: ∃f,fs[k]? =some f:=⟨_,qi (by rw [HKL.out];exact hlt)⟩;have⟨g,xc,p,q,hx,hbg,hgl,z0,z1,hi⟩:=HSW.get hfk;simp only [qq]at hx;obtain⟨rfl,-,rfl⟩:=hx;have⟨p1,p2,p3,p4,hpe⟩:=hi.form;simp only [qY,za,qJ,and_true]at hpe;obtain⟨rfl,rfl⟩:=hpe;have hne: ¬g=w1.heap.size:=by
       have⟨g',_,_,_,hx',_,hgl',_⟩:=HA.sets.get hfk;simp only [qq,zo,xB,and_true]at hx';obtain⟨rfl,-⟩:=hx'
       have:=N1.size
       omega
      have y0:=HKp.cell z0 hne;have y1:=HKp.cell z1 hne;have HI:=q8 (hi.keptOf HKp HE);have HTS:=q8 (q06 hfk);clear hi z0 z1 hfk hbg hgl hne;have HA2:=q8 (qE ((Near.refl wr).alloc (vk #[vd p1 p2 p3,ve vp p4] 43)) HC);have q0:=cell1 (o:=0) HA2 rfl;have q1:=cell1 (o:=1) HA2 rfl;go_wp2_with (go_at_call 243;refine(xor_f (HF.near ((Near.refl wr).alloc _)) (HI.near ((Near.refl wr).alloc _))).mono ?_;rintro e w2 ⟨v2,rfl,d2,b2⟩;obtain⟨c1,c2,c3,c4,rfl⟩:=d2.form;have D2:=q8 d2;have B2:=q8 b2;have HC2:=q8 (qE b2 HA2);have r0:=cell1 (o:=0) HC2 rfl;have r1:=cell1 (o:=1) HC2 rfl;have f0:=zQ HC2 0;have f1:=zQ HC2 1;clear d2 b2)
      exact⟨⟨k+1,c1,c2,c3,c4,by omega,by go_num,YZ HC2,(yJ D2 HC2).congr HTS,(((HKp.alloc _).trans B2.kept).setCell (fun _=>rfl) _).setCell (fun _=>rfl) _⟩,by simp [intOf];omega⟩
     ·obtain rfl:k=kd.length:=by omega
      have hRr:=qQ HKp HRW (by have:=HSz.out;omega);have q0:=cell1 (o:=0) HC rfl;have q1:=cell1 (o:=1) HC rfl;have HR:=q8 hRr;have⟨r0,r1,f0,f1⟩:=ym hRr;clear hRr;go_wp2
      have⟨t0,t1⟩:=yE HR (vd u1 u2 u3) (ve vp u4);have hnw:Near w wr:=Kept.mono (Kept.trans (HA.near.trans HN).kept HKp) (fun j hj e=>by have:=HSz.out;omega);exact qo (v:=vi #[vd u1 u2 u3,ve vp u4]) (by simp [qC,jv,go_sem,t0,t1]) rfl (yN hnw (by omega) HR (HF.congr fun c=>by rw [HFs.out,←HKL.out,qF]))
   ·obtain⟨a,b,rfl⟩:=q8a hl
    obtain⟨g,ec0,u0,v0,hx0,hb0,-,z0,z1,hi0⟩:=HA.sets.get (j:=0) rfl;have⟨p01,p02,p03,p04,hpe⟩:=hi0.form;simp only [qY,za,qJ,and_true]at hpe;obtain⟨rfl,rfl⟩:=hpe;simp only [qq]at hx0;obtain⟨rfl,-,rfl⟩:=hx0;have y0:wr.cell? g=some (vd p01 p02 p03):=by simpa using z0
    have y1:wr.cell? (vw g 1)=some (ve vp p04):=by simpa using z1
    have F0:=q8 hi0;obtain⟨g1,ec1,u1,v1,hx1,hb1,-,z2,z3,hi1⟩:=HA.sets.get (j:=1) rfl;have⟨p11,p12,p13,p14,hpe⟩:=hi1.form;simp only [qY,za,qJ,and_true]at hpe;obtain⟨rfl,rfl⟩:=hpe;simp only [qq,zo,xB,and_true,true_and]at hx1;obtain⟨rfl,-⟩:=hx1;have y2:wr.cell? (vw g 2)=some (vd p11 p12 p13):=by simpa using z2
    have y3:wr.cell? (vw g 3)=some (ve vp p14):=by simpa using z3
    have F1:=q8 hi1;clear z0 z1 hi0 z2 z3 hi1;have sOf: ∀w',Near wr w'→w'.cell? g=some (vd p01 p02 p03)∧w'.cell? (vw g 1)=some (ve vp p04)∧w'.cell? (vw g 2)=some (vd p11 p12 p13)∧w'.cell? (vw g 3)=some (ve vp p14):=fun w' h=>⟨h.cell y0,h.cell y1,h.cell y2,h.cell y3⟩;have sSt: ∀wa x y,Near wr wa→(fun w':World=>w'.cell? g=some (vd p01 p02 p03)∧w'.cell? (vw g 1)=some (ve vp p04)∧w'.cell? (vw g 2)=some (vd p11 p12 p13)∧w'.cell? (vw g 3)=some (ve vp p14)) ((wa.setCell (vw (w.heap.size+1) 0) x).setCell (vw (w.heap.size+1) 1) y):=by
     intro wa x y s;have e: ∀k o,k≠w.heap.size+1→((wa.setCell (vw (w.heap.size+1) 0) x).setCell (vw (w.heap.size+1) 1) y).cell? (vw k o)=wa.cell? (vw k o):=fun k o hk=>yr (w:=wa) ((zg _ _ _ _ hk).trans (zg _ _ _ _ hk));have t:=sOf wa s;exact⟨(e _ _ (by omega)).trans t.1,(e _ _ (by omega)).trans t.2.1,(e _ _ (by omega)).trans t.2.2.1,(e _ _ (by omega)).trans t.2.2.2⟩
    go_upto_region 28 with fail
    clear y0 y1 y2 y3 c0 c1;go_region_held3 (fun w'=>w'.cell? g=some (vd p01 p02 p03)∧w'.cell? (vw g 1)=some (ve vp p04)∧w'.cell? (vw g 2)=some (vd p11 p12 p13)∧w'.cell? (vw g 3)=some (ve vp p14))
     (first
       |(refine sOf _ ?_;first|exact z2|exact z1|exact(Near.refl _).drew)
       |exact sSt _ _ _ z2)
     (first
       |(go_at_call 77;refine(not_f (F0.near (Near.refl wr).drew)).mono ?_;rintro e w1 ⟨v1',rfl,d1,n1⟩;have D1:=q8 d1;obtain⟨x11,x12,x13,x14,rfl⟩:=d1.form;clear d1;have z1:Near wr w1:=(Near.refl wr).drew.trans n1)
       |(go_at_call 148;refine(q5N D1 (F1.near z1)).mono ?_;rintro e w2 ⟨v2',rfl,d2,n2⟩;have D2:=q8 d2;obtain⟨x21,x22,x23,x24,rfl⟩:=d2.form;clear d2;have z2:Near wr w2:=z1.trans n2;have hR:=qE z2 HA.res;have HR:=q8 hR;have⟨r0,r1,f0,f1⟩:=ym hR;clear hR))
    go_wp2
    have⟨t0,t1⟩:=yE HR (vd x21 x22 x23) (ve vp x24);exact qo (v:=vi #[vd x21 x22 x23,ve vp x24]) (by simp [qC,jv,go_sem,t0,t1]) rfl (yN (HA.near.trans z2) (by omega) HR (D2.congr fun c=>by rw [HTr.out];rfl))
   ·obtain⟨a,b,rfl⟩:=q8a hl
    obtain⟨g,ec0,u0,v0,hx0,hb0,-,z0,z1,hi0⟩:=HA.sets.get (j:=0) rfl;have⟨p01,p02,p03,p04,hpe⟩:=hi0.form;simp only [qY,za,qJ,and_true]at hpe;obtain⟨rfl,rfl⟩:=hpe;simp only [qq]at hx0;obtain⟨rfl,-,rfl⟩:=hx0;have y0:wr.cell? g=some (vd p01 p02 p03):=by simpa using z0
    have y1:wr.cell? (vw g 1)=some (ve vp p04):=by simpa using z1
    have F0:=q8 hi0;obtain⟨g1,ec1,u1,v1,hx1,hb1,-,z2,z3,hi1⟩:=HA.sets.get (j:=1) rfl;have⟨p11,p12,p13,p14,hpe⟩:=hi1.form;simp only [qY,za,qJ,and_true]at hpe;obtain⟨rfl,rfl⟩:=hpe;simp only [qq,zo,xB,and_true,true_and]at hx1;obtain⟨rfl,-⟩:=hx1;have y2:wr.cell? (vw g 2)=some (vd p11 p12 p13):=by simpa using z2
    have y3:wr.cell? (vw g 3)=some (ve vp p14):=by simpa using z3
    have F1:=q8 hi1;clear z0 z1 hi0 z2 z3 hi1;have sOf: ∀w',Near wr w'→w'.cell? g=some (vd p01 p02 p03)∧w'.cell? (vw g 1)=some (ve vp p04)∧w'.cell? (vw g 2)=some (vd p11 p12 p13)∧w'.cell? (vw g 3)=some (ve vp p14):=fun w' h=>⟨h.cell y0,h.cell y1,h.cell y2,h.cell y3⟩;have sSt: ∀wa x y,Near wr wa→(fun w':World=>w'.cell? g=some (vd p01 p02 p03)∧w'.cell? (vw g 1)=some (ve vp p04)∧w'.cell? (vw g 2)=some (vd p11 p12 p13)∧w'.cell? (vw g 3)=some (ve vp p14)) ((wa.setCell (vw (w.heap.size+1) 0) x).setCell (vw (w.heap.size+1) 1) y):=by
     intro wa x y s;have e: ∀k o,k≠w.heap.size+1→((wa.setCell (vw (w.heap.size+1) 0) x).setCell (vw (w.heap.size+1) 1) y).cell? (vw k o)=wa.cell? (vw k o):=fun k o hk=>yr (w:=wa) ((zg _ _ _ _ hk).trans (zg _ _ _ _ hk));have t:=sOf wa s;exact⟨(e _ _ (by omega)).trans t.1,(e _ _ (by omega)).trans t.2.1,(e _ _ (by omega)).trans t.2.2.1,(e _ _ (by omega)).trans t.2.2.2⟩
    go_upto_region 30 with fail
    clear y0 y1 y2 y3 c0 c1;go_region_held3 (fun w'=>w'.cell? g=some (vd p01 p02 p03)∧w'.cell? (vw g 1)=some (ve vp p04)∧w'.cell? (vw g 2)=some (vd p11 p12 p13)∧w'.cell? (vw g 3)=some (ve vp p14))
     (first
       |(refine sOf _ ?_;first|exact z2|exact z1|exact(Near.refl _).drew)
       |exact sSt _ _ _ z2)
     (first
       |(go_at_call 243;refine(xor_f (F0.near (Near.refl wr).drew) (F1.near (Near.refl wr).drew)).mono ?_;rintro e w1 ⟨v1',rfl,d1,n1⟩;have D1:=q8 d1;obtain⟨x11,x12,x13,x14,rfl⟩:=d1.form;clear d1;have z1:Near wr w1:=(Near.refl wr).drew.trans n1)
       |(go_at_call 77;refine(not_f D1).mono ?_;rintro e w2 ⟨v2',rfl,d2,n2⟩;have D2:=q8 d2;obtain⟨x21,x22,x23,x24,rfl⟩:=d2.form;clear d2;have z2:Near wr w2:=z1.trans n2;have hR:=qE z2 HA.res;have HR:=q8 hR;have⟨r0,r1,f0,f1⟩:=ym hR;clear hR))
    go_wp2
    have⟨t0,t1⟩:=yE HR (vd x21 x22 x23) (ve vp x24);exact qo (v:=vi #[vd x21 x22 x23,ve vp x24]) (by simp [qC,jv,go_sem,t0,t1]) rfl (yN (HA.near.trans z2) (by omega) HR (D2.congr fun c=>by rw [HTr.out];show(!(truth names c a !=truth names c b))=(truth names c a==truth names c b);cases truth names c a<;>cases truth names c b<;>rfl))
   ·obtain⟨a,b,d,rfl⟩:=q8m hl
    obtain⟨g,ec0,u0,v0,hx0,hb0,-,z0,z1,hi0⟩:=HA.sets.get (j:=0) rfl;have⟨p01,p02,p03,p04,hpe⟩:=hi0.form;simp only [qY,za,qJ,and_true]at hpe;obtain⟨rfl,rfl⟩:=hpe;simp only [qq]at hx0;obtain⟨rfl,-,rfl⟩:=hx0;have y0:wr.cell? g=some (vd p01 p02 p03):=by simpa using z0
    have y1:wr.cell? (vw g 1)=some (ve vp p04):=by simpa using z1
    have F0:=q8 hi0;obtain⟨g1,ec1,u1,v1,hx1,hb1,-,z2,z3,hi1⟩:=HA.sets.get (j:=1) rfl;have⟨p11,p12,p13,p14,hpe⟩:=hi1.form;simp only [qY,za,qJ,and_true]at hpe;obtain⟨rfl,rfl⟩:=hpe;simp only [qq,zo,xB,and_true,true_and]at hx1;obtain⟨rfl,-⟩:=hx1;have y2:wr.cell? (vw g 2)=some (vd p11 p12 p13):=by simpa using z2
    have y3:wr.cell? (vw g 3)=some (ve vp p14):=by simpa using z3
    have F1:=q8 hi1;obtain⟨g2,ec2,u2,v2,hx2,hb2,-,z4,z5,hi2⟩:=HA.sets.get (j:=2) rfl;have⟨p21,p22,p23,p24,hpe⟩:=hi2.form;simp only [qY,za,qJ,and_true]at hpe;obtain⟨rfl,rfl⟩:=hpe;simp only [qq,zo,xB,and_true,true_and]at hx2;obtain⟨rfl,-⟩:=hx2;have y4:wr.cell? (vw g 4)=some (vd p21 p22 p23):=by simpa using z4
    have y5:wr.cell? (vw g 5)=some (ve vp p24):=by simpa using z5
    have F2:=q8 hi2;clear z0 z1 hi0 z2 z3 hi1 z4 z5 hi2;have sOf: ∀w',Near wr w'→w'.cell? g=some (vd p01 p02 p03)∧w'.cell? (vw g 1)=some (ve vp p04)∧w'.cell? (vw g 2)=some (vd p11 p12 p13)∧w'.cell? (vw g 3)=some (ve vp p14)∧w'.cell? (vw g 4)=some (vd p21 p22 p23)∧w'.cell? (vw g 5)=some (ve vp p24):=fun w' h=>⟨h.cell y0,h.cell y1,h.cell y2,h.cell y3,h.cell y4,h.cell y5⟩;have sSt: ∀wa x y,Near wr wa→(fun w':World=>w'.cell? g=some (vd p01 p02 p03)∧w'.cell? (vw g 1)=some (ve vp p04)∧w'.cell? (vw g 2)=some (vd p11 p12 p13)∧w'.cell? (vw g 3)=some (ve vp p14)∧w'.cell? (vw g 4)=some (vd p21 p22 p23)∧w'.cell? (vw g 5)=some (ve vp p24)) ((wa.setCell (vw (w.heap.size+1) 0) x).setCell (vw (w.heap.size+1) 1) y):=by
     intro wa x y s;have e: ∀k o,k≠w.heap.size+1→((wa.setCell (vw (w.heap.size+1) 0) x).setCell (vw (w.heap.size+1) 1) y).cell? (vw k o)=wa.cell? (vw k o):=fun k o hk=>yr (w:=wa) ((zg _ _ _ _ hk).trans (zg _ _ _ _ hk));have t:=sOf wa s;exact⟨(e _ _ (by omega)).trans t.1,(e _ _ (by omega)).trans t.2.1,(e _ _ (by omega)).trans t.2.2.1,(e _ _ (by omega)).trans t.2.2.2.1,(e _ _ (by omega)).trans t.2.2.2.2.1,(e _ _ (by omega)).trans t.2.2.2.2.2⟩
    go_upto_region 32 with fail
    clear y0 y1 y2 y3 y4 y5 c0 c1;go_region_held3 (fun w'=>w'.cell? g=some (vd p01 p02 p03)∧w'.cell? (vw g 1)=some (ve vp p04)∧w'.cell? (vw g 2)=some (vd p11 p12 p13)∧w'.cell? (vw g 3)=some (ve vp p14)∧w'.cell? (vw g 4)=some (vd p21 p22 p23)∧w'.cell? (vw g 5)=some (ve vp p24))
     (first
       |(refine sOf _ ?_;first|exact z1|exact(Near.refl _).drew)
       |exact sSt _ _ _ z1)
     (first
       |(go_at_call 244;refine(q7R (F0.near (Near.refl wr).drew) (F1.near (Near.refl wr).drew) (F2.near (Near.refl wr).drew)).mono ?_;rintro e w1 ⟨v1',rfl,d1,n1⟩;have D1:=q8 d1;obtain⟨x11,x12,x13,x14,rfl⟩:=d1.form;clear d1;have z1:Near wr w1:=(Near.refl wr).drew.trans n1;have hR:=qE z1 HA.res;have HR:=q8 hR;have⟨r0,r1,f0,f1⟩:=ym hR;clear hR))
    go_wp2
    have⟨t0,t1⟩:=yE HR (vd x11 x12 x13) (ve vp x14);exact qo (v:=vi #[vd x11 x12 x13,ve vp x14]) (by simp [qC,jv,go_sem,t0,t1]) rfl (yN (HA.near.trans z1) (by omega) HR (D1.congr fun c=>by rw [HTr.out];rfl))
theorem XW{a:List ByteArray}(h:RdL S 1 RdS w (vd ao a.length cap) a)(L:a.length<=cap)(y:a.length<=24)(p: ∀(i:Nat) s,a[i]? =some s->nameB s=true/\hasN (a.take i) s=false):
 Calls qj 204 #[vd ao a.length cap] w fun e l=>e=vm (ve vp 0)/\l=w:=by
 have D:=q8 h;have m:=q8 p;have B:=q8 (fun(i c:Nat)(G:i<=a.length)(s:ByteArray)=>xu (h.take i c G) (by rw [zd];omega) s);have v: ¬(24:Int)<a.length:=by omega
 have q:(a.length:Int)<=cap:=by omega
 go_enter Tryz.func204,Tryz.ntmps204;go_wp2_with fail
 go_loop [10] (fun i=> ∃k:Nat,k<=a.length/\i=ve vp k) (fun i=>a.length - (intOf i).toNat)
 case atStart=>exact⟨0,qv _,rfl⟩
 case round=>
  obtain⟨k,z,rfl⟩:=hrel;by_cases g:k<a.length
  .have t:(k:Int)<a.length:=by omega
   have H:(k:Int)<=cap:=by omega
   obtain⟨s,x⟩: ∃s,a[k]? =some s:=⟨_,qi g⟩;have⟨E,r,e,n⟩:=D.out;obtain⟨b,o,I,j,-,d,A⟩:=n k s x;obtain rfl:I=[vf s]:=A;simp only [qq,true_and]at e;obtain⟨rfl,rfl⟩:=e;subst j;have K:w.cell? (vw b (o+k))=some (vf s):=by simpa using d 0 _ rfl
   have⟨J,C⟩:=m k s x;have u:=q8 (fun w=>kQ s w);rw [J]at u;have f:=q8 (fun c=>B k c z s);rw [C]at f;go_wp2_with (first
    |(go_at_call 240;refine(u _).mono ?_;rintro e l ⟨rfl,rfl⟩)
    |(go_at_call 163;refine(f _).mono ?_;rintro e l ⟨rfl,rfl⟩))
   go_round
   case rel=>exact⟨k+1,g,by go_num⟩
   case measure=>simp [intOf];omega
  .obtain rfl:k=a.length:=by omega
   go_wp2_with fail
   go_ret;exact⟨rfl,rfl⟩
theorem q3S{n:ByteArray}:hasN l n=true↔n∈l:=by
 unfold hasN;rw [yj];exact⟨fun⟨x,b,a⟩=>of_decide_eq_true a▸b,fun h=>⟨n,h,decide_eq_true rfl⟩⟩
theorem addName_old{e:Ex}{n:ByteArray}(h:n∈l):n∈addName l e:=by
 unfold addName;split
 .exact List.mem_append_left _ h
 .exact h
theorem Ui{e:Ex}(h:e.op=3):e.name∈addName l e:=by
 unfold addName;split
 .exact List.mem_append_right _ (qN.2 rfl)
 .rename_i a
  rw [Bool.and_eq_true,decide_eq_true_eq]at a
  have:hasN l e.name=true:=by
   cases b:hasN l e.name with
   |true=>rfl
   |false=>exact absurd ⟨h,by rw [b];rfl⟩ a
  exact q3S.1 this
theorem q2Z{y:Ex}(h:y∈x.row)(d:y.op=3):y.name∈usedL x:=by
 unfold usedL;have a: ∀(r:List Ex)(l:List ByteArray)(n:ByteArray),n∈l->n∈r.foldl addName l:=by
  intro r;induction r with
  |nil=>intro l n h;exact h
  |cons e r b=>intro l n h;exact b _ _ (addName_old h)
 have c: ∀(r:List Ex)(l:List ByteArray),y∈r->y.name∈r.foldl addName l:=by
  intro r;induction r with
  |nil=>intro l h;cases h
  |cons e r b=>
   intro l h;rcases qI.1 h with rfl|h
   .exact a r _ _ (Ui d)
   .exact b _ h
 exact c _ _ h
theorem VQ{S:Nat→Prop}{a:List ByteArray}(Y:RdL S 1 RdS w (vd ao a.length cap) a)(H:a.length≤cap)(K:a.length≤24)(X: ∀(i:Nat) s,a[i]? =some s→nameB s=true∧hasN (a.take i) s=false)(A:RdEx T w vs x)(hT: ∀g,T g→g<w.heap.size)(f:validB x=true)(n:(usedL x).all (hasN a)=true):
 Calls qj 150 #[vi vs.toArray,vd ao a.length cap] w fun e d=> ∃v,e=vm (.tuple #[v,ve vp 0])∧IsF d v (fun c=>truth a c x)∧Near w d:=by
 have P:=Qc f;have HV:=q8 (fun(d:World)(j:Near w d)=>kL (A.kept j (fun _ _ h=>h) (fun _ h=>h)) (fun g hg=>qu (hT g hg) j.size) (by omega));rw [f]at HV;have HU:=q8 (fun(d:World)(j:Near w d)=>Yl (A.kept j (fun _ _ h=>h) (fun _ h=>h)) (fun g hg=>qu (hT g hg) j.size) (by omega) (Zf f));have HC:=q8 (fun(d:World)(j:Near w d)(s:ByteArray)=>xu (Y.kept j (fun _ _ h=>h) (fun _ h=>h) (fun _ _ h=>h)) (by omega) s);have U:=q8 (fun(d:World)(j:Near w d)=>XW (Y.kept j (fun _ _ h=>h) (fun _ h=>h) (fun _ _ h=>h)) H K X);have aa:=q8 (fun(d:World)(j:Near w d)=>Gu K x (Y.kept j (fun _ _ h=>h) (fun _ h=>h) (fun _ _ h=>h)) (A.kept j (fun _ _ h=>h) (fun _ h=>h)) (gP.2 f).1 (fun y hy ho=>qL.1 n _ (q2Z hy ho)) (by omega));have m:=q8 n;have V:(usedL x).length≤1000:=by
  have h1:=gC x.row;rw [Ex.row_length]at h1;unfold usedL;omega
 generalize usedL x=u at HU m V;have af:=q8 (rfl:(fun c=>truth a c x)=fun c=>truth a c x);have⟨G,C,z⟩:=x;obtain⟨sv,rfl,O⟩:=A.inv;obtain⟨B,D,rfl⟩:=O.form;have hW: ∀W,W=(w.alloc (vk #[ve vq G,vf C,vd B z.length D] 84)).alloc (vk #[vd none 0 0,ve vp 0] 43)→Near w W∧W.heap[w.heap.size]? =some (vk #[ve vq G,vf C,vd B z.length D] 84 (0,0))∧W.heap[w.heap.size+1]? =some (vk #[vd none 0 0,ve vp 0] 43 (0,0)):=by
  rintro W rfl;exact⟨((Near.refl w).alloc _).alloc _,by rw [qD (by simp),heap_new_at rfl],heap_new_at (by simp)⟩
 go_enter Tryz.func150,Tryz.ntmps150;go_upto_region 1 with fail
 have h0:=hW _ rfl;generalize(w.alloc (vk #[ve vq G,vf C,vd B z.length D] 84)).alloc (vk #[vd none 0 0,ve vp 0] 43)=W at h0⊢;have⟨hN,M,N⟩:=h0;obtain⟨c0,c1,c2⟩:W.cell? w.heap.size=some (ve vq G)∧W.cell? (vw w.heap.size 1)=some (vf C)∧W.cell? (vw w.heap.size 2)=some (vd B z.length D):=⟨cell1 M rfl,cell1 M rfl,cell1 M rfl⟩;have E:=q8 hN;have HE:=q8 M;have ab:=q8 N;go_upto_region 6 with(first
  |(go_at_call 165;refine(HV _ E).mono ?_;rintro e Z ⟨rfl,n1⟩;have r:=q8 n1;have t:=qQ n1 HE)
  |(go_at_call 204;refine(U _ (E.trans r)).mono ?_;rintro e d ⟨rfl,hq⟩;have hq:=hq.symm;subst hq))
 obtain⟨d0,d1,d2⟩:Z.cell? w.heap.size=some (ve vq G)∧Z.cell? (vw w.heap.size 1)=some (vf C)∧Z.cell? (vw w.heap.size 2)=some (vd B z.length D):=⟨cell1 t rfl,cell1 t rfl,cell1 t rfl⟩;go_wp2_with (go_at_call 166;refine(HU _ (E.trans r)).mono ?_;rintro e L ⟨v2,rfl,r2,n2⟩;obtain⟨uo,uc,rfl⟩:=qR r2;have R:=q8 (RdL.strings r2);have l:=q8 (r.trans n2))
 go_loop [22] (fun i=> ∃k:Nat,k≤u.length∧i=ve vp k) (fun i=>u.length - (intOf i).toNat)
 case atStart=>exact⟨0,qv _,rfl⟩
 case round=>
  obtain⟨k,hk,rfl⟩:=hrel;by_cases J:k<u.length
  ·have ad:(k:Int)<u.length:=by omega
   obtain⟨s,O⟩: ∃s,u[k]? =some s:=⟨_,qi J⟩;have⟨ag,ae,e,hc⟩:=R.out;obtain⟨b,o,vs,Q,-,p,A⟩:=hc k s O;obtain rfl:vs=[vf s]:=A;simp only [qq,true_and]at e;obtain⟨rfl,rfl⟩:=e;subst Q;have g0:L.cell? (vw b (o+k))=some (vf s):=by simpa using p 0 _ rfl
   have I:=q8 (HC L (E.trans l) s);rw [qL.1 m s (qp O)]at I;go_wp2_with (go_at_call 163;refine I.mono ?_;rintro e d ⟨rfl,rfl⟩)
   go_round
   case rel=>exact⟨k+1,J,by go_num⟩
   case measure=>simp [intOf];omega
  ·obtain rfl:k=u.length:=by omega
   have q:=qQ l HE;obtain⟨d0,d1,d2⟩:L.cell? w.heap.size=some (ve vq G)∧L.cell? (vw w.heap.size 1)=some (vf C)∧L.cell? (vw w.heap.size 2)=some (vd B z.length D):=⟨cell1 q rfl,cell1 q rfl,cell1 q rfl⟩;go_wp2_with (go_at_call 205;refine(aa _ (E.trans l)).mono ?_;rintro e w3 ⟨v3,rfl,d3,n3⟩;obtain⟨x1,x2,x3,x4,rfl⟩:=d3.form;have D3:=q8 d3;have N3:=q8 (l.trans n3);have N:=qE (l.trans n3) ab;have HR:=q8 N;have⟨r0,r1,f0,f1⟩:=ym N)
   have⟨t0,t1⟩:=yE HR (vd x1 x2 x3) (ve vp x4);refine qo (v:= .tuple #[vi #[vd x1 x2 x3,ve vp x4],ve vp 0]) (by simp [qC,Tryz.results150,go_sem,t0,t1]) rfl ⟨_,rfl,yJ D3 HR,((E.trans N3).set (by show w.heap.size≤w.heap.size+1;omega) _).set (by show w.heap.size≤w.heap.size+1;omega) _⟩
theorem q7n:(qj.info? 66).map (fun i=>(i.zero,i.size,i.bytes))=some (some (vi #[ve vq 0,ve vp 0]),2,16):=by kernel_rfl
def flatR(l:List (Nat×Nat)):List Value:=l.flatMap encR
theorem XU(l r:List (Nat×Nat)):flatR (l++r)=flatR l++flatR r:=by simp [flatR]
theorem yZ{f:List Value}(h:w.ownsRow b e a v n f)(j:i<=b):w.ownsRow i e a v n f:=
 ⟨h.1,h.2.imp id fun⟨g,c,d,k,l,r⟩=>⟨g,c,d,k,qH j l,r⟩⟩
def OwnR(base:Nat)(w:World)(v:Value)(l:List (Nat×Nat)):Prop:=w.ownsRow base 66 2 v l.length (flatR l)
theorem OwnR.one{n:Int}(h:w.ownsRow base 66 2 v (R.length+1) (flatR R++[ve vq (a:Nat),ve vp n]))(b:n=(i:Nat)):OwnR base w v (R++[(a,i)]):=by
 subst b;show w.ownsRow base 66 2 v (R++[(a,i)]).length (flatR (R++[(a,i)]));rw [qn,XU];exact h
theorem OwnR.two{j:Nat}{n d:Int}(h:w.ownsRow base 66 2 v (R.length+2) (flatR R++[ve vq (a:Nat),ve vp n,ve vq (b:Nat),ve vp d]))(e:n=(i:Nat))(c:d=(j:Nat)):OwnR base w v (R++[(a,i),(b,j)]):=by
 subst e c;show w.ownsRow base 66 2 v (R++[(a,i),(b,j)]).length (flatR (R++[(a,i),(b,j)]));rw [qn,XU];exact h
theorem vU{S:Nat→Prop}(h:RdMod S w v m)(h0:0<m.feats.length)(hf:m.feats.length<1099511627776)(hg:m.grps.length<1099511627776)(hr:m.reqs.length<1099511627776)(hl:m.lims.length<1099511627776):
 Calls qj 75 #[v] w fun e w'=> ∃v',e=vm v'∧OwnR w.heap.size w' v' (rulesOf m)∧Near w w':=by
 obtain⟨a1,a2,b1,b2,c1,c2,d1,d2,e1,e2,rfl,hF,-,-,-,-,hfc,-⟩:=RdMod.form h;obtain⟨fb,fo,rfl,HF⟩: ∃fb fo,a1=some ⟨fb,fo,none⟩∧Hid (RdL S 3 RdFeat w (vd (some ⟨fb,fo,none⟩) m.feats.length a2) m.feats):=by
  have hF0:=hF;have⟨ao',cap',e,hc⟩:=hF;obtain⟨b,o,vs,hao,-,-,-⟩:=hc 0 _ (qi h0);simp only [qq,true_and]at e;obtain⟨rfl,rfl⟩:=e;exact⟨b,o,hao,q8 (hao▸hF0)⟩
 have⟨i89,hi,hz0,hz1,hz2⟩:=zG q7n;rw [←KW];have hW: ∀W,W=(w.alloc (vk #[vd (some ⟨fb,fo,none⟩) m.feats.length a2,vd b1 m.grps.length b2,vd c1 m.atts.length c2,vd d1 m.reqs.length d2,vd e1 m.lims.length e2] 28)).alloc (vk #[ve vq 1,ve vp 0] 66)→Near w W∧W.heap[w.heap.size]? =some (vk #[vd (some ⟨fb,fo,none⟩) m.feats.length a2,vd b1 m.grps.length b2,vd c1 m.atts.length c2,vd d1 m.reqs.length d2,vd e1 m.lims.length e2] 28 (0,0))∧OwnR (w.heap.size+1) W (vd (some ⟨w.heap.size+1,0,none⟩) 1 1) (ruA m 0):=by
  rintro W rfl;refine⟨((Near.refl w).alloc _).alloc _,by rw [qD (by simp),heap_new_at rfl],rfl,vv ⟨w.heap.size+1,1,#[ve vq 1,ve vp 0],rfl,qt _,heap_new_at (by simp),qt _,by unfold maxLen;omega,rfl,rfl⟩⟩
 have hfc1:(1:Int)≤m.feats.length:=by omega
 have hfc2:(m.feats.length:Int)≤a2:=by omega
 clear h;go_enter Tryz.func75,Tryz.ntmps75;go_upto_region 2 with fail
 have h1:=hW _ rfl;generalize(w.alloc (vk #[vd (some ⟨fb,fo,none⟩) m.feats.length a2,vd b1 m.grps.length b2,vd c1 m.atts.length c2,vd d1 m.reqs.length d2,vd e1 m.lims.length e2] 28)).alloc (vk #[ve vq 1,ve vp 0] 66)=W at h1⊢;have⟨hN,hA,hO⟩:=h1;have q0:W.cell? w.heap.size=some (vd (some ⟨fb,fo,none⟩) m.feats.length a2):=cell1 hA rfl;have HN:=q8 hN;have HA:=q8 hA;have HO:=q8 hO;clear hW hN hA hO;go_cut [13,14,15] (fun s n ix wx=>(∃q c,s=vd (some ⟨fb,q,none⟩) (m.feats.length - 1) c∧ ∀k,k+1<m.feats.length→q+k*3=fo+(k+1)*3)∧n=ve vp ((m.feats.length - 1:Nat):Int)∧ix=ve vp 0∧wx=W)
 case first=>
  by_cases ha:a2=1
  ·have hn1:m.feats.length=1:=by omega
   subst ha;go_wp2_with fail
   go_meet
   exact⟨⟨fo,0,by rw [hn1],fun k hk=>by omega⟩,by rw [hn1];rfl,rfl,rfl⟩
  ·go_wp2_with fail
   go_meet
   exact⟨⟨fo+3,a2 - 1,rfl,fun k hk=>by omega⟩,rfl,rfl,rfl⟩
 case rest=>
 obtain⟨⟨q,qc,rfl,hq⟩,rfl,rfl,rfl⟩:=hcut;have HQ:=q8 hq;clear hq;go_wp2_with fail
 go_loopw [3,15] (fun v ix wr=> ∃k:Nat,k≤m.feats.length - 1∧ix=ve vp k∧OwnR (w.heap.size+1) wr v (ruA m k)∧Kept (fun g=>w.heap.size<g) wc wr) (fun _ ix _=>m.feats.length - 1 - (intOf ix).toNat)
 case atStart=>exact⟨0,qv _,rfl,HO,Kept.refl _ _⟩
 case round=>
  obtain⟨k,hk,rfl,hown,hkp⟩:=hrel;have hlen:=KX m k;have hsuc:=UF m k;obtain⟨R,hR⟩: ∃R,R=ruA m k:=⟨_,rfl⟩;rw [←hR]at hown hlen hsuc;obtain⟨vo,vc,rfl⟩:=qR hown;have HOr:=q8 hown;have HK:=q8 hkp;have HSuc:=q8 hsuc;have HRe:=q8 hR;have HSz:=q8 (show w.heap.size+1≤wr.heap.size by have:=(qk.1 HA).1;have:=hkp.size;omega);clear hown hkp hsuc hR;by_cases hlt:k<m.feats.length - 1
  ·have hlt':(k:Int)<((m.feats.length - 1:Nat):Int):=by omega
   obtain⟨x,hx⟩: ∃x,m.feats[k+1]? =some x:=⟨_,qi (by omega)⟩;have⟨ao',cap',e,hc⟩:=HF.out;obtain⟨b,o,vs,hao,-,hcell,hv⟩:=hc (k+1) x hx;obtain rfl:vs=[vf x.name,ve vp x.parent,ve vq x.kind]:=hv;simp only [qq,true_and]at e;obtain⟨rfl,rfl⟩:=e
   cases hao;have hbl:fb<w.heap.size:=qM _ _ (hcell 0 _ rfl);have hq:=HQ k (by omega);have y0:wr.cell? (vw fb (q+k*3))=some (vf x.name):=by rw [hq];exact HK.cell (HN.cell (hcell 0 _ rfl)) (by omega)
   have y1:wr.cell? (vw fb (q+k*3+1))=some (ve vp x.parent):=by rw [hq];exact HK.cell (HN.cell (hcell 1 _ rfl)) (by omega)
   have y2:wr.cell? (vw fb (q+k*3+2))=some (ve vq x.kind):=by rw [hq];exact HK.cell (HN.cell (hcell 2 _ rfl)) (by omega)
   have HChild:=q8 (show ZS m k=(2,k+1)::if x.kind=2 then [(3,k+1)]else [] by unfold ZS;rw [hx];simp);have HBox:=q8 (fun(o:Obj)=>(show((wr.alloc (vk #[vf x.name,ve vp x.parent,ve vq x.kind] 76)).alloc o).heap[wr.heap.size]? =some (vk #[vf x.name,ve vp x.parent,ve vq x.kind] 76 (0,0)) by rw [qD (by simp),heap_new_at rfl]));clear hc hcell hx hq hbl;by_cases hk2:x.kind=2
   ·have hk2':((x.kind:Int)==2)=true:=by rw [hk2];rfl
    rw [if_pos hk2]at HChild;clear hk2;go_wp2_with (first
     |(at_builtin;(refine wpList_append_more rfl (.tmp 20) (.tmp 24) 62 rfl (w.heap.size+1) 66 i89 (vi #[ve vq 0,ve vp 0]) 2 16 wE hi hz0 hz1 hz2 rfl (by decide) (vd vo R.length vc) R.length (flatR R) rfl ((HOr.alloc _).alloc _) _ 1 [ve vq 2,ve vp ((k:Int)+1)] rfl ⟨rfl,vv ⟨_,1,rfl,cells_at (by simp) _ _⟩⟩ (by simp [qX]) (by unfold maxLen;omega) (by omega) (by have:=HSz.out;simp;omega) ?_);go_must (intro b3 c3 w3 hown3 hg3;have HO3:=q8 hown3;have hk3:Kept (fun j=>(qw vo R.length vc).ownBlock=some j) _ w3:=Kept.grown (Kept.refl _ _) hg3 (fun j e _=>e);have HK3:=q8 (Kept.grown ((HK.alloc _).alloc _) hg3 (fun j e hlt=>by have:=(HOr.lt _ e).1;omega):Kept (fun g=>w.heap.size<g) wc w3);have t2:w3.cell? (vw wr.heap.size 2)=some (ve vq x.kind):=cell1 (qQ hk3 (HBox _) (fun e=>by have:=(HOr.lt _ e).2;omega)) rfl;have HS3:=q8 (show wr.heap.size≤w3.heap.size by have:=hk3.size;simp at this;omega);clear hown3 hg3 hk3))
     |(at_builtin;go_must (refine wpList_append_more rfl (.tmp 29) (.tmp 33) 62 rfl (w.heap.size+1) 66 i89 (vi #[ve vq 0,ve vp 0]) 2 16 wE hi hz0 hz1 hz2 rfl (by decide) (vd b3 (R.length+1) c3) (R.length+1) (flatR R++[ve vq 2,ve vp ((k:Int)+1)]) rfl (HO3.alloc _) _ 1 [ve vq 3,ve vp ((k:Int)+1)] rfl ⟨rfl,vv ⟨_,1,rfl,cells_at (by simp) _ _⟩⟩ (by simp [qX]) (by unfold maxLen;omega) (by omega) (by have:=HS3.out;have:=HSz.out;simp;omega) ?_);intro b4 c4 w4 hown4 hg4;have HO4:=q8 hown4;have HK4:=q8 (Kept.grown (HK3.alloc _) hg4 (fun j e hlt=>by have:=(HO3.lt _ e).1;omega):Kept (fun g=>w.heap.size<g) wc w4);clear hown4 hg4))
    exact⟨⟨k+1,hlt,by go_num,by rw [HSuc.out,HChild.out];exact OwnR.two (by simpa using HO4.out) (by omega) (by omega),HK4⟩,by simp [intOf];omega⟩
   ·have hk2':((x.kind:Int)==2)=false:=beq_eq_false_iff_ne.2 (by omega)
    rw [if_neg hk2]at HChild;clear hk2;go_wp2_with (at_builtin;go_must (refine wpList_append_more rfl (.tmp 20) (.tmp 24) 62 rfl (w.heap.size+1) 66 i89 (vi #[ve vq 0,ve vp 0]) 2 16 wE hi hz0 hz1 hz2 rfl (by decide) (vd vo R.length vc) R.length (flatR R) rfl ((HOr.alloc _).alloc _) _ 1 [ve vq 2,ve vp ((k:Int)+1)] rfl ⟨rfl,vv ⟨_,1,rfl,cells_at (by simp) _ _⟩⟩ (by simp [qX]) (by unfold maxLen;omega) (by omega) (by have:=HSz.out;simp;omega) ?_);go_must (intro b3 c3 w3 hown3 hg3;have HO3:=q8 hown3;have hk3:Kept (fun j=>(qw vo R.length vc).ownBlock=some j) _ w3:=Kept.grown (Kept.refl _ _) hg3 (fun j e _=>e);have HK3:=q8 (Kept.grown ((HK.alloc _).alloc _) hg3 (fun j e hlt=>by have:=(HOr.lt _ e).1;omega):Kept (fun g=>w.heap.size<g) wc w3);have t2:w3.cell? (vw wr.heap.size 2)=some (ve vq x.kind):=cell1 (qQ hk3 (HBox _) (fun e=>by have:=(HOr.lt _ e).2;omega)) rfl;clear hown3 hg3 hk3))
    exact⟨⟨k+1,hlt,by go_num,by rw [HSuc.out,HChild.out];exact OwnR.one (by simpa using HO3.out) (by omega),HK3⟩,by simp [intOf];omega⟩
  ·obtain rfl:k=m.feats.length - 1:=by omega
   rw [←UD]at HRe;have HOx:Hid (OwnR (w.heap.size+1) wr (vd vo R.length vc) (ruB m 0)):=q8 (by rw [←HRe.out];exact HOr);have HKx:=q8 HK;have s1:wr.cell? (vw w.heap.size 1)=some (vd b1 m.grps.length b2):=cell1 (qQ HK HA (by omega)) rfl;clear HOr HK HRe HSuc hlen HSz hlt;go_wp2_with fail
   clear s1;go_loopw [3,39] (fun v ix wr=> ∃k:Nat,k≤m.grps.length∧ix=ve vp k∧OwnR (w.heap.size+1) wr v (ruB m k)∧Kept (fun g=>w.heap.size<g) wc wr) (fun _ ix _=>m.grps.length - (intOf ix).toNat)
   case atStart=>exact⟨0,qv _,rfl,HOx,HKx⟩
   case round=>
    obtain⟨k,hk,rfl,hown,hkp⟩:=hrel;clear HOx HKx;have hlen:=q0F m k;have hsuc:=UE m k;obtain⟨R,hR⟩: ∃R,R=ruB m k:=⟨_,rfl⟩;rw [←hR]at hown hlen hsuc;obtain⟨vo,vc,rfl⟩:=qR hown;have HOr:=q8 hown;have HK:=q8 hkp;have HSuc:=q8 hsuc;have HRe:=q8 hR;have HSz:=q8 (show w.heap.size+1≤wr.heap.size by have:=(qk.1 HA).1;have:=hkp.size;omega);clear hown hkp hsuc hR;by_cases hlt:k<m.grps.length
    ·have hlt':(k:Int)<m.grps.length:=by omega
     go_wp2_with (at_builtin;go_must (refine wpList_append_more rfl (.tmp 42) (.tmp 47) 62 rfl (w.heap.size+1) 66 i89 (vi #[ve vq 0,ve vp 0]) 2 16 wE hi hz0 hz1 hz2 rfl (by decide) (vd vo R.length vc) R.length (flatR R) rfl (HOr.alloc _) _ 2 [ve vq 4,ve vp k,ve vq 5,ve vp k] rfl ⟨rfl,vv ⟨_,2,rfl,cells_at (by simp) _ _⟩⟩ (by simp [qX]) (by unfold maxLen;omega) (by omega) (by have:=HSz.out;simp;omega) ?_);go_must (intro b3 c3 w3 hown3 hg3;have HO3:=q8 hown3;have HK3:=q8 (Kept.grown (HK.alloc _) hg3 (fun j e hlt=>by have:=(HOr.lt _ e).1;omega):Kept (fun g=>w.heap.size<g) wc w3);clear hown3 hg3))
     exact⟨⟨k+1,hlt,by go_num,by rw [HSuc.out];exact OwnR.two (by simpa using HO3.out) rfl rfl,HK3⟩,by simp [intOf];omega⟩
    ·obtain rfl:k=m.grps.length:=by omega
     rw [←UB]at HRe;have HOx:Hid (OwnR (w.heap.size+1) wr (vd vo R.length vc) (ruC m 0)):=q8 (by rw [←HRe.out];exact HOr);have HKx:=q8 HK;have s3:wr.cell? (vw w.heap.size 3)=some (vd d1 m.reqs.length d2):=cell1 (qQ HK HA (by omega)) rfl;clear HOr HK HRe HSuc hlen HSz hlt;go_wp2_with fail
     clear s3;go_loopw [3,53] (fun v ix wr=> ∃k:Nat,k≤m.reqs.length∧ix=ve vp k∧OwnR (w.heap.size+1) wr v (ruC m k)∧Kept (fun g=>w.heap.size<g) wc wr) (fun _ ix _=>m.reqs.length - (intOf ix).toNat)
     case atStart=>exact⟨0,qv _,rfl,HOx,HKx⟩
     case round=>
      obtain⟨k,hk,rfl,hown,hkp⟩:=hrel;clear HOx HKx;have hlen:=q0E m k;have hsuc:=UC m k;obtain⟨R,hR⟩: ∃R,R=ruC m k:=⟨_,rfl⟩;rw [←hR]at hown hlen hsuc;obtain⟨vo,vc,rfl⟩:=qR hown;have HOr:=q8 hown;have HK:=q8 hkp;have HSuc:=q8 hsuc;have HRe:=q8 hR;have HSz:=q8 (show w.heap.size+1≤wr.heap.size by have:=(qk.1 HA).1;have:=hkp.size;omega);clear hown hkp hsuc hR;by_cases hlt:k<m.reqs.length
      ·have hlt':(k:Int)<m.reqs.length:=by omega
       go_wp2_with (at_builtin;go_must (refine wpList_append_more rfl (.tmp 56) (.tmp 59) 62 rfl (w.heap.size+1) 66 i89 (vi #[ve vq 0,ve vp 0]) 2 16 wE hi hz0 hz1 hz2 rfl (by decide) (vd vo R.length vc) R.length (flatR R) rfl (HOr.alloc _) _ 1 [ve vq 6,ve vp k] rfl ⟨rfl,vv ⟨_,1,rfl,cells_at (by simp) _ _⟩⟩ (by simp [qX]) (by unfold maxLen;omega) (by omega) (by have:=HSz.out;simp;omega) ?_);go_must (intro b3 c3 w3 hown3 hg3;have HO3:=q8 hown3;have HK3:=q8 (Kept.grown (HK.alloc _) hg3 (fun j e hlt=>by have:=(HOr.lt _ e).1;omega):Kept (fun g=>w.heap.size<g) wc w3);clear hown3 hg3))
       exact⟨⟨k+1,hlt,by go_num,by rw [HSuc.out];exact OwnR.one (by simpa using HO3.out) rfl,HK3⟩,by simp [intOf];omega⟩
      ·obtain rfl:k=m.reqs.length:=by omega
       rw [←Uz]at HRe;have HOx:Hid (OwnR (w.heap.size+1) wr (vd vo R.length vc) (ruD m 0)):=q8 (by rw [←HRe.out];exact HOr);have HKx:=q8 HK;have s4:wr.cell? (vw w.heap.size 4)=some (vd e1 m.lims.length e2):=cell1 (qQ HK HA (by omega)) rfl;clear HOr HK HRe HSuc hlen HSz hlt;go_wp2_with fail
       clear s4;go_loopw [3,65] (fun v ix wr=> ∃k:Nat,k≤m.lims.length∧ix=ve vp k∧OwnR (w.heap.size+1) wr v (ruD m k)∧Kept (fun g=>w.heap.size<g) wc wr) (fun _ ix _=>m.lims.length - (intOf ix).toNat)
       case atStart=>exact⟨0,qv _,rfl,HOx,HKx⟩
       case round=>
        obtain⟨k,hk,rfl,hown,hkp⟩:=hrel;clear HOx HKx;have hlen:=KV m k;have hsuc:=UA m k;obtain⟨R,hR⟩: ∃R,R=ruD m k:=⟨_,rfl⟩;rw [←hR]at hown hlen hsuc;obtain⟨vo,vc,rfl⟩:=qR hown;have HOr:=q8 hown;have HK:=q8 hkp;have HSuc:=q8 hsuc;have HRe:=q8 hR;have HSz:=q8 (show w.heap.size+1≤wr.heap.size by have:=(qk.1 HA).1;have:=hkp.size;omega);clear hown hkp hsuc hR;by_cases hlt:k<m.lims.length
        ·have hlt':(k:Int)<m.lims.length:=by omega
         go_wp2_with (at_builtin;go_must (refine wpList_append_more rfl (.tmp 68) (.tmp 71) 62 rfl (w.heap.size+1) 66 i89 (vi #[ve vq 0,ve vp 0]) 2 16 wE hi hz0 hz1 hz2 rfl (by decide) (vd vo R.length vc) R.length (flatR R) rfl (HOr.alloc _) _ 1 [ve vq 7,ve vp k] rfl ⟨rfl,vv ⟨_,1,rfl,cells_at (by simp) _ _⟩⟩ (by simp [qX]) (by unfold maxLen;omega) (by omega) (by have:=HSz.out;simp;omega) ?_);go_must (intro b3 c3 w3 hown3 hg3;have HO3:=q8 hown3;have HK3:=q8 (Kept.grown (HK.alloc _) hg3 (fun j e hlt=>by have:=(HOr.lt _ e).1;omega):Kept (fun g=>w.heap.size<g) wc w3);clear hown3 hg3))
         exact⟨⟨k+1,hlt,by go_num,by rw [HSuc.out];exact OwnR.one (by simpa using HO3.out) rfl,HK3⟩,by simp [intOf];omega⟩
        ·obtain rfl:k=m.lims.length:=by omega
         go_wp2_with fail
         go_ret;refine⟨_,rfl,by rw [←HRe.out];exact yZ HOr (by omega),Kept.mono (Kept.trans HN.kept HK) (fun g hg e=>by omega)⟩
theorem uV{b:Option Addr}{l:List Int}(h:RdL S 1 RdI w (vd b n i) l)(f:l[k]? =some z): ∃g o,b=some ⟨g,o,none⟩/\w.cell? (vw g (o+k))=some (ve vp z):=by
 have⟨p,c,e,j⟩:=h
 cases e;obtain⟨g,o,m,a,-,d,rfl⟩:=j k z f;exact⟨g,o,a,by simpa using d 0 _ rfl⟩
theorem GE{l:List Int}(h:l[b]? =some z)(k:Int):(l.take (b+1)).count k=(l.take b).count k+if z=k then 1 else 0:=by
 rw [qU,h,List.count_append];simp [List.count_singleton]
theorem Zi{l:List Grp}(h:RdL S 4 (RdGrp S) w v l)(hl:l.length<1099511627776)(E:(l.flatMap yq).length<1099511627776)(k:Int):
 Calls qj 116 #[v,ve vp k] w fun e V=>e=vm (ve vp (timesN l k:Nat))/\V=w:=by
 have HR:=q8 h;have HC:=q8 (fun a=>zR (qH List.count_le_length (YV l a)) E: ∀a,(takenTo l a).count k<1099511627776);obtain⟨ao,ab,rfl⟩:=h.form;obtain⟨r,J⟩: ∃r,r=timesN l k:=⟨_,rfl⟩;rw [<-J];have A:=q8 (show r=(takenTo l l.length).count k by rw [J];unfold timesN takenTo;rw [qF]);have D:=q8 (fun x (t:x∈l)=>zR (jZ t) E);clear h J E;go_enter Tryz.func116,Tryz.ntmps116;go_wp2_with fail
 go_loop [5,6] (fun n i=> ∃a c:Nat,a<=l.length/\i=ve vp a/\n=ve vp c/\c=(takenTo l a).count k) (fun _ i=>l.length - (intOf i).toNat)
 case atStart=>exact⟨0,0,qv _,rfl,rfl,rfl⟩
 case round=>
  obtain⟨a,c,ha,rfl,rfl,I⟩:=hrel;have y:=q8 I;have ad:c<1099511627776:=by rw [I];exact HC a
  clear I;by_cases u:a<l.length
  .have P:(a:Int)<l.length:=by omega
   obtain⟨x,t⟩: ∃x,l[a]? =some x:=⟨_,qi u⟩;have⟨aa,O,e,f⟩:=HR.out;obtain⟨g,o,vs,C,-,Q,v',G,q,-⟩:=f a x t;subst G;simp only [qq,true_and]at e;obtain⟨rfl,rfl⟩:=e;subst C;obtain⟨Z,X,rfl⟩:=q.form;have q3:w.cell? (vw g (o+a*4+3))=some (vd Z x.members.length X):=Q 3 _ rfl;have L:=q8 q;have H:=q8 (show(takenTo l (a+1)).count k=c+x.members.count k by rw [uA t,List.count_append,y.out]);have W:=D x (qp t);clear f Q q t;go_wp2_with fail
   go_loop [5,7] (fun n j=> ∃b d:Nat,b<=x.members.length/\j=ve vp b/\n=ve vp d/\d=c+(x.members.take b).count k) (fun _ j=>x.members.length - (intOf j).toNat)
   case atStart=>exact⟨0,c,qv _,rfl,rfl,rfl⟩
   case round=>
    obtain⟨b,d,hb,rfl,rfl,R⟩:=hrel;have Y:d<=c+1099511627776:=by
     have h1:(x.members.take b).count k<=(x.members.take b).length:=List.count_le_length;rw [zd]at h1;omega
    have K:=q8 R;clear R;by_cases s:b<x.members.length
    .have N:(b:Int)<x.members.length:=by omega
     obtain⟨z,M⟩: ∃z,x.members[b]? =some z:=⟨_,qi s⟩;obtain⟨g',o',rfl,d0⟩:=uV L M;have B:=q8 (GE M k);clear M;by_cases m:z=k
     .have p:=q8 (show d+1=c+(x.members.take (b+1)).count k by rw [B.out,if_pos m,K.out];omega)
      have U:(z==k)=true:=beq_iff_eq.2 m;clear m B;go_wp2_with fail
      go_round
      case rel=>exact⟨b+1,d+1,s,by go_num,by go_num,p⟩
      case measure=>simp [intOf];omega
     .have p:=q8 (show d=c+(x.members.take (b+1)).count k by rw [B.out,if_neg m,K.out];omega)
      have U:(z==k)=false:=beq_eq_false_iff_ne.2 m;clear B;go_wp2_with fail
      go_round
      case rel=>exact⟨b+1,d,s,by go_num,rfl,p⟩
      case measure=>simp [intOf];omega
    .obtain rfl:b=x.members.length:=by omega
     go_wp2_with fail
     go_round
     case rel=>exact⟨a+1,d,u,by go_num,rfl,by rw [H.out,K.out,qF]⟩
     case measure=>simp [intOf];omega
  .obtain rfl:a=l.length:=by omega
   go_wp2_with fail
   go_ret;exact⟨by rw [A.out,y.out];rfl,rfl⟩
end Go.Proofs.YtjcbmcnbdegpmaaGreatDoor
