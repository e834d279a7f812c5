/- MRdrD, MRdrE, MRequire, MValue. -/
import Derived.Test.YtjcbmcnbdegpmaaGreatDoorKMRChk
set_option maxRecDepth 100000
set_option maxHeartbeats 12800000
set_option linter.unusedVariables false
set_option linter.unusedSimpArgs false
open Go renaming bodyPost_ret->qo,results->qC
open Go.ChangeMaps renaming setBlock->vR
open Go.Instr renaming lookup->yu
open Go.Lib renaming hid->q8
open Go.Obj renaming cells->zK
open Go.Proofs.Tryz renaming prog->qj,results131->ui
open Go.Value renaming int->qs,oneCell'->qX,slice->qw
open Go.Value.slice renaming injEq->qq
open List renaming append_nil->zS,ext_getElem?->wI,flatMap_cons->zI,getElem?_eq_getElem->qi,getElem?_eq_some_iff->qm,getElem?_map->qA,getElem?_set->j8,length_map->qG,mem_append->qK,mem_cons->qI,mem_map->yH,mem_map_of_mem->up,mem_of_getElem?->qp,replicate->zk
open Nat renaming le_refl->qt,le_trans->qH
open Go.Value renaming slice->vd,int->ve,string->vf,pointer->vg,agg->vi,bool->vj
open Go.Obj renaming cells->vk
open Go.Ending renaming returned->vm
open Go.IntKind renaming i64->vp,u8->vq,u32->vr,u64->vt
open Or renaming inl->vu,inr->vv
namespace Go.Proofs.YtjcbmcnbdegpmaaGreatDoor
open Go Go.RowKit Go.Proofs.Gen Go.Proofs.Mod
theorem XT: ∀{ts:List Pa}{j:Nat}{p q:Pa},ts[j]? =some p->q.a.name=p.a.name->(ts.flatMap Ka).set (j*2+1) q.v=(ts.set j q).flatMap Ka
 |t::ts,0,p,q,h,f=>by
  cases h;simp [Ka,f]
 |t::ts,j+1,p,q,h,f=>by
  have g:=XT (ts:=ts) (j:=j) (p:=p) (q:=q) h f;rw [List.set_cons_succ,zI,zI,<-g,show(j+1)*2+1=(j*2+1)+1+1 by omega];rfl
section
variable {base B G N:Nat}{w w':World}{r:RS}{a b c d e:Value}{gs:List Pg}{ts:List Pa}{ps:List Pe}
theorem Rd.slot(h:Rd base B G N w r a b c d e gs ts ps){j:Nat}{p:Pa}(E:ts[j]? =some p){l':List Int}{v':Value}(D:Kept (fun k=>c.ownBlock=some k\/p.v.ownBlock=some k) w w')
 (hc:w'.ownsRow base 81 2 c ts.length ((ts.flatMap Ka).set (j*2+1) v')) (m:w'.ownsRow base 2 1 v' l'.length (l'.map intV)) (S:Grew w p.v v'):
 Rd base B G N w' ⟨⟨r.m.feats,r.m.grps,r.m.atts.set j ⟨p.a.name,l'⟩,r.m.reqs,r.m.lims⟩,r.given⟩ a b c d e gs (ts.set j ⟨⟨p.a.name,l'⟩,v'⟩) ps:=by
 have W:=h.tv p (qp E);have ab:=(qm.1 E).1;have K: ∀{T s n:Nat}{v:Value}{J:List Value}{k:Nat},w.ownsRow base T s v n J->T≠81->T≠2->v.ownBlock=some k-> ¬(c.ownBlock=some k\/p.v.ownBlock=some k):=by
  rintro T s n v J k m o l C (e|e)
  .obtain⟨-,U,P,I⟩:=zY m C
   obtain⟨-,V,Q,y⟩:=zY h.t e;rw [I]at y;cases y;exact o rfl
  .obtain⟨-,U,P,I⟩:=zY m C
   obtain⟨-,V,Q,y⟩:=zY W e;rw [I]at y;cases y;exact l rfl
 have t: ∀{T s n:Nat}{v:Value}{J:List Value},w.ownsRow base T s v n J->T≠81->T≠2->w'.ownsRow base T s v n J:=fun m o l=>owns_kept m D fun k C=>K m o l C;have x: ∀{k:Nat},k<base-> ¬(c.ownBlock=some k\/p.v.ownBlock=some k):=by
  rintro k ad (e|e)
  .have:=(zY h.t e).1;omega
  .have:=(zY W e).1;omega
 have R: ∀k,FreeOf base ([a,b,c,d,e]++ts.map Pa.v) k-> ¬(c.ownBlock=some k\/p.v.ownBlock=some k):=by
  rintro k ⟨o,l⟩ (e|e)
  .exact l c (by simp) e
  .exact l p.v (by rw [qK];exact vv (up (qp E))) e
 have X: ∀v∈[a,b,c,d,e]++(ts.set j ⟨⟨p.a.name,l'⟩,v'⟩).map Pa.v,∀k,v.ownBlock=some k->w.heap.size<=k\/ ∃u∈[a,b,c,d,e]++ts.map Pa.v,u.ownBlock=some k:=by
  refine uE fun v m=> ?_;rcases qK.1 m with m|m
  .exact vu (List.mem_append_left _ m)
  .obtain⟨q,g,rfl⟩:=yH.1 m
   rcases List.mem_or_eq_of_mem_set g with g|rfl
   .exact vu (List.mem_append_right _ (up g))
   .exact vv ⟨p.v,List.mem_append_right _ (up (qp E)),S⟩
 have f: ∀{i:Nat}{q:Pa}{k:Nat},ts[i]? =some q->q.v.ownBlock=some k->v'.ownBlock=some k->i=j:=fun {i q k} z g A=>by
  rcases S with e|⟨k',e,aa⟩
  .exact h.td i j q p k z E g (e▸A)
  .rw [e]at A
   cases A
   have:=((h.tv q (qp z)).lt _ g).2
   omega
 refine⟨h.hB,h.hG,qH h.hb D.size,qQ D h.box (x h.hB),t h.f (by decide) (by decide),t h.g (by decide) (by decide),h.ge,fun q g=>⟨ko D R X (h.gm q g).1,(h.gm q g).2⟩,?_,?_,?_,?_,t h.q (by decide) (by decide),h.qe,fun q g=>ua D R X (h.qr q g),t h.l (by decide) (by decide),h.v.kept D (x h.hG)⟩
 .rw [List.length_set,<-XT (q:=⟨⟨p.a.name,l'⟩,v'⟩) E rfl]
  exact hc
 .rw [List.map_set,h.te]
 .intro q g
  have⟨i,z⟩:=List.getElem?_of_mem g;rw [j8]at z;split at z
  .cases z;exact m
  .rename_i M
   have H:=h.tv q (qp z);refine owns_kept H D ?_;rintro k C (e|e)
   .obtain⟨-,U,P,I⟩:=zY H C
    obtain⟨-,V,Q,y⟩:=zY h.t e;rw [I]at y;cases y
   .exact M (h.td j i p q k E z e C)
 .intro i1 Z Y q2 k o l O L
  rw [j8]at o l;split at o
  .rename_i e1
   subst e1
   cases o;split at l
   .assumption
   .exact(f l L O).symm
  .split at l
   .rename_i e2
    subst e2
    cases l;exact f o O L
   .exact h.td i1 Z Y q2 k o l O L
theorem Rd.give(h:Rd base B G N w r a b c d e gs ts ps){x y:Int}(i:Kept (fun k=>k=G) w w')(g:mapV w' qj 247 G (N+1) (putV (givenM r.given) (vi #[ve vp x,ve vp y]) (vj true))):
 Rd base B G (N+1) w' ⟨r.m,(x,y)::r.given⟩ a b c d e gs ts ps:=by
 have l: ∀{T s n:Nat}{v:Value}{z:List Value},w.ownsRow base T s v n z-> ∀k,v.ownBlock=some k-> ¬k=G:=fun g k E e=>by
  have:=(zY g E).1
  have:=h.hG
  omega
 have f: ∀{T s n:Nat}{v:Value}{z:List Value},w.ownsRow base T s v n z->w'.ownsRow base T s v n z:=fun g=>owns_kept g i (l g);have C: ∀k,FreeOf base ([a,b,c,d,e]++ts.map Pa.v) k-> ¬k=G:=fun k i e=>by
  have:=i.1
  have:=h.hG
  omega
 have D: ∀v∈[a,b,c,d,e]++ts.map Pa.v,∀k,v.ownBlock=some k->w.heap.size<=k\/ ∃u∈[a,b,c,d,e]++ts.map Pa.v,u.ownBlock=some k:=fun v g _ e=>vv ⟨v,g,e⟩;refine⟨h.hB,h.hG,qH h.hb i.size,qQ i h.box (fun e=>h.GB e.symm),f h.f,f h.g,h.ge,fun q o=>⟨ko i C D (h.gm q o).1,(h.gm q o).2⟩,f h.t,h.te,fun p H=>f (h.tv p H),h.td,f h.q,h.qe,fun q o=>ua i C D (h.qr q o),f h.l,g.congr fun k v=> ?_⟩;unfold putV givenM;constructor
 .rintro⟨rfl,t,m,j,rfl⟩
  by_cases A:t=x/\m=y
  .obtain⟨rfl,rfl⟩:=A
   exact vu ⟨rfl,rfl⟩
  .rcases qI.1 j with j|j
   .cases j;exact absurd ⟨rfl,rfl⟩ A
   .exact vv ⟨fun e=>A (by cases e;exact⟨rfl,rfl⟩),rfl,t,m,j,rfl⟩
 .rintro(⟨rfl,rfl⟩|⟨-,rfl,t,m,j,rfl⟩)
  .exact⟨rfl,x,y,List.mem_cons_self,rfl⟩
  .exact⟨rfl,t,m,List.mem_cons_of_mem _ j,rfl⟩
end
end Go.Proofs.YtjcbmcnbdegpmaaGreatDoor
namespace Go.Proofs.YtjcbmcnbdegpmaaGreatDoor
open Go Go.RowKit Go.Proofs.Gen Go.Proofs.Mod
theorem uK: ∀{ts:List Pa}{j:Nat}{p:Pa},ts[j]? =some p->(ts.flatMap Ka)[j*2+1]? =some p.v
 |t::ts,0,p,h=>by
  cases h;rfl
 |t::ts,j+1,p,h=>by
  have c:=uK (ts:=ts) (j:=j) (p:=p) h;rw [zI,<-c,show(j+1)*2+1=(j*2+1)+1+1 by omega];rfl
section
variable {base B G N gc cc n:Nat}{w W1 w3:World}{r:RS}{a b d e:Value}{gs:List Pg}{ts:List Pa}{ps:List Pe}
theorem Rd.len_at(h:Rd base B G N w r a b (vd gc n cc) d e gs ts ps):ts.length=n:=by
 rcases h.t.2 with⟨e,-⟩|⟨g,c,f,e,-⟩
 .cases e
 .simp only [qq]at e
  exact e.2.1.symm
theorem Rd.box_at(h:Rd base B G N w r a b (vd gc n cc) d e gs ts ps){j:Nat}{p:Pa}(f:ts[j]? =some p):w.ownsRow base 81 2 (vd gc ts.length cc) ts.length (ts.flatMap Ka)/\w.cell? (vw gc (j*2+1))=some p.v:=by
 have g:=h.len_at;have c:=h.t;rw [<-g]at c;exact⟨c,(yh c (uK f)).1⟩
theorem Rd.slot_end(h:Rd base B G N w r a b (.slice (some ⟨gc,0,none⟩) n cc) d e gs ts ps){j:Nat}{p:Pa}(hj:ts[j]? =some p)(hn:Near w W1)(hg:W1.grownBy w3 p.v.ownBlock){v':Value}{l':List Int}
 (ho:w3.ownsRow base 2 1 v' l'.length (l'.map intV)) (hl1:v'.ownBlock=p.v.ownBlock\/v'.ownBlock=some W1.heap.size):
 (w3.cell? ⟨gc,j*2+1,none⟩=some p.v/\w3.frozen? ⟨gc,j*2+1,none⟩=false)/\
 Rd base B G N (w3.setCell ⟨gc,j*2+1,none⟩ v') ⟨⟨r.m.feats,r.m.grps,r.m.atts.set j ⟨p.a.name,l'⟩,r.m.reqs,r.m.lims⟩,r.given⟩ a b (.slice (some ⟨gc,0,none⟩) n cc) d e gs (ts.set j ⟨⟨p.a.name,l'⟩,v'⟩) ps/\Kept (fun k=>base<=k) w (w3.setCell ⟨gc,j*2+1,none⟩ v')/\ ∀(k:Nat)(cs:Array Value)(t:Nat),w.heap[k]? =some (zK cs t (0,0))->t≠81->t≠2->(w3.setCell ⟨gc,j*2+1,none⟩ v').heap[k]? =some (zK cs t (0,0)):=by
 have hl:=h.len_at;have hc:=(h.box_at hj).1;have hp:=h.tv p (qp hj);have hc1:W1.ownsRow base 81 2 (.slice (some ⟨gc,0,none⟩) ts.length cc) ts.length (ts.flatMap Ka):=owns_kept hc hn fun _ _ e=>e;have hp1:W1.ownsRow base 2 1 p.v p.a.values.length (p.a.values.map intV):=owns_kept hp hn fun _ _ e=>e;obtain⟨cur,-,-,hbg,hgc,-⟩:=kx hc1;have hne:p.v.ownBlock≠some gc:=fun e=>by
  obtain⟨-,cur',fr',h2⟩:=zY hp1 e;rw [hgc]at h2
  cases h2
 have hk3:Kept (fun k=>p.v.ownBlock=some k) W1 w3:=Kept.grown (Kept.refl _ W1) hg (fun k e _=>e);have hc3:w3.ownsRow base 81 2 (.slice (some ⟨gc,0,none⟩) ts.length cc) ts.length (ts.flatMap Ka):=owns_kept hc1 hk3 (fun k e e'=>by
  have e2:some gc=some k:=e
  cases e2;exact hne e')
 obtain⟨cur3,-,-,-,hgc3,-⟩:=kx hc3;have hkw:Kept (fun k=>p.v.ownBlock=some k) w w3:=Kept.grown hn.kept hg (fun k e _=>e);have hkw':Kept (fun k=>(qw (some ⟨gc,0,none⟩) n cc).ownBlock=some k\/p.v.ownBlock=some k) w (w3.setCell ⟨gc,j*2+1,none⟩ v'):=
  Kept.setCell (Kept.mono hkw fun k _ e=> .inr e) (p:=⟨gc,j*2+1,none⟩) (fun _=> .inl rfl) _
 refine⟨yh hc3 (uK hj),h.slot hj hkw' ?_ (zF ho hgc3 (by decide) _ _) (Qr hl1 hn.size),Kept.mono hkw' fun k hlt e=> ?_,fun k cs t hb h1 h2=>qQ hkw' hb ?_⟩
 .rw [<-hl]
  exact owns_set hc3 v'
 .rcases e with e|e
  .have e2:some gc=some k:=e
   cases e2;exact hbg
  .exact(zY hp e).1
 .rintro(e|e)
  .obtain⟨-,cur',fr',h2'⟩:=zY hc1 (show(qw (some ⟨gc,0,none⟩) ts.length cc).ownBlock=some k from e)
   rw [qE hn hb]at h2'
   cases h2';exact h1 rfl
  .obtain⟨-,cur',fr',h2'⟩:=zY hp e
   rw [hb]at h2'
   cases h2';exact h2 rfl
theorem Rd.slot_set(h:Rd base B G N w r a b (vd (some ⟨gc,0,none⟩) n cc) d e gs ts ps){j f:Nat}{p:Pa}(hj:ts[j]? =some p)(hf:f<p.a.values.length)(x:Int): ∃gv vc,p.v=vd (some ⟨gv,0,none⟩) p.a.values.length vc/\w.frozen? ⟨gv,f,none⟩=false/\(∃u,w.cell? ⟨gv,f,none⟩=some (ve vp u))/\
 Rd base B G N (w.setCell ⟨gv,f,none⟩ (ve vp x)) ⟨⟨r.m.feats,r.m.grps,r.m.atts.set j ⟨p.a.name,p.a.values.set f x⟩,r.m.reqs,r.m.lims⟩,r.given⟩ a b (vd (some ⟨gc,0,none⟩) n cc) d e gs (ts.set j ⟨⟨p.a.name,p.a.values.set f x⟩,p.v⟩) ps/\Kept (fun k=>base<=k) w (w.setCell ⟨gv,f,none⟩ (ve vp x)):=by
 have hl:=h.len_at;have hc:=(h.box_at hj).1;have hp:=h.tv p (qp hj);obtain⟨gv,vc,hpv,hbv⟩: ∃gv vc,p.v=vd (some ⟨gv,0,none⟩) p.a.values.length vc/\base<=gv:=by
  rcases hp.2 with⟨-,e⟩|⟨g,cap,cur,e,hb,-⟩
  .rw [e]at hf
   omega
  .exact⟨g,cap,e,hb⟩
 have hp2:=hp;rw [hpv]at hp2;obtain⟨curc,-,-,-,hgc,-⟩:=kx hc;obtain⟨curv,-,-,-,hgv,-⟩:=kx hp2;have hne:gv≠gc:=fun e=>by
  rw [e,hgc]at hgv
  cases hgv
 have hx:(p.a.values.map intV)[f]? =some (ve vp p.a.values[f]):=by
  rw [qA,qi hf];rfl
 have hkk:Kept (fun k=>(qw (some ⟨gc,0,none⟩) n cc).ownBlock=some k\/p.v.ownBlock=some k) w (w.setCell ⟨gv,f,none⟩ (ve vp x)):=
  Kept.setCell (Kept.refl _ w) (p:=⟨gv,f,none⟩) (fun _=>vv (by rw [hpv];rfl)) _
 refine⟨gv,vc,hpv,(yh hp2 hx).2,⟨_,(yh hp2 hx).1⟩,?_,Kept.setCell (Kept.refl _ w) (p:=⟨gv,f,none⟩) (fun _=>hbv) _⟩;refine h.slot (l':=p.a.values.set f x) (v':=p.v) hj hkk ?_ ?_ (vu rfl)
 .have e:(ts.flatMap Ka).set (j*2+1) p.v=ts.flatMap Ka:=by
   apply wI;intro i;rw [j8];split
   .rename_i e
    subst e;rw [uK hj];split
    .rfl
    .rename_i hge
     have:=(qm.1 (uK hj)).1
     omega
   .rfl
  rw [e,<-hl];exact zF hc hgv (by decide) _ _
 .rw [hpv,List.length_set,List.map_set]
  exact owns_set hp2 _
end
theorem set_self{l:List Att}{j:Nat}{x:Att}(h:l[j]? =some x):l.set j ⟨x.name,x.values⟩=l:=by
 obtain⟨c,rfl⟩:=qm.1 h;exact List.set_getElem_self c
theorem q5z{l:List Att}{j k:Nat}{x:Int}{t:Att}(h:l[j]? =some t):q0A l j k x=l.set j ⟨t.name,setV t.values k x⟩:=by
 obtain⟨c,rfl⟩:=qm.1 h;unfold q0A;apply wI;intro i;rw [List.getElem?_modify,j8];by_cases e:j=i
 .subst e
  simp [c,qi c]
 .simp [e]
end Go.Proofs.YtjcbmcnbdegpmaaGreatDoor
namespace Go.Proofs.YtjcbmcnbdegpmaaGreatDoor
open Go Go.RowKit Go.Proofs.Gen Go.Proofs.Mod
variable{B G N base cap f k t:Nat}{b w:World}{r:RS}{wv y:Value}{x:Ex}
def FPar(text:ByteArray)(w:World):Prop:=
 Calls qj 191 #[.string text] w fun e w'=>(∀x,parseF (12*(bytesL text).length+24) (bytesL text)=some x-> ∃vs,e= .returned (.tuple #[.agg vs.toArray,.int .i64 0,.int .i64 0])/\RdEx (fun g=>w.heap.size<=g) w' vs x)/\
  (parseF (12*(bytesL text).length+24) (bytesL text)=none-> ∃z k:Int,e= .returned (.tuple #[.agg #[.int .u8 0,.string ⟨#[]⟩,.slice none 0 0],.int .i64 z,.int .i64 k])/\k≠0)/\Near w w'
theorem q1N{a:ByteArray}(h:parseF (12*(bytesL a).length+24) (bytesL a)=some x)(j:a.size<=4194304)(b:x.size<4611686018427387904):FPar a w:=by
 refine(XP (by rw [zX];omega) h b).mono ?_;rintro e k ⟨g,rfl,i,f⟩;exact⟨fun y d=>(by rw [h]at d;cases d;exact⟨g,rfl,i⟩),fun c=>(by rw [h]at c;cases c),f⟩
theorem wR{s:List UInt8}(h:parseF f s=some x):validB x=true:=by
 unfold parseF at h;split at h
 .cases h
 .cases b:Go.Proofs.Mod.nextT ⟨s,[]⟩with
  |none=>rw [b]at h;cases h
  |some t=>
   rw [b]at h;replace h:((pChoice f t).bind fun x=>if x.2.word=[]then(if validB x.1 then some x.1 else none)else none)=some x:=h
   cases a:pChoice f t with
   |none=>rw [a]at h;cases h
   |some y=>
    rw [a]at h;replace h:(if y.2.word=[]then(if validB y.1 then some y.1 else none)else none)=some x:=h;split at h
    .split at h
     .cases h;assumption
     .cases h
    .cases h
theorem q5D{n l w':World}{a b c d e:Value}{A:List Pg}{ts:List Pa}{o:List Pe}{p:Pe}(h:Rd base B G N w r a b c d e A ts o)(u:o.length=r.m.reqs.length)(E:RdEx (FreeOf base ([a,b,c,d,e]++ts.map Pa.v)) w (encP p) p.ex)
 (s:Near w n) (v:n.grownBy l d.ownBlock)
 (m:(qw f (r.m.reqs.length+1) cap).ownBlock=d.ownBlock\/(qw f (r.m.reqs.length+1) cap).ownBlock=some n.heap.size)
 (x:w'.heap[B]? =some (vk #[a,b,c,vd f (r.m.reqs.length+1) cap,e,.map (some G)] 112 (0,0))/\w'.ownsRow base 84 3 (vd f (r.m.reqs.length+1) cap) (r.m.reqs.length+1) (o.flatMap encP++[ve vq p.op,vf p.nm,p.v])/\Kept (fun k=>k=B\/k=f) l w'):
 xW base B G N w' ⟨⟨r.m.feats,r.m.grps,r.m.atts,r.m.reqs++[p.ex],r.m.lims⟩,r.given⟩/\Kept (fun g=>base<=g\/g=B\/g=G) w w':=by
 have⟨t,C,i⟩:=x;have j:Grew w d (vd f (r.m.reqs.length+1) cap):=Qr m s.size;have z:Kept (fun k=>d.ownBlock=some k) w l:=Kept.grown s.kept v (fun k i _=>i);have q:Kept (fun k=>k=B\/d.ownBlock=some k) w w':=by
  refine Kept.mono (Kept.trans (Kept.mono z fun k _ e=>vu e) (Kept.mono i fun k _ e=>vv e):Kept (fun k=>d.ownBlock=some k\/(k=B\/k=f)) w w') fun k D e=> ?_;rcases e with e|e|rfl
  .exact vv e
  .exact vu e
  .rcases j with e|⟨H,e,I⟩
   .exact vv (e▸rfl)
   .have y:some k=some H:=e
    cases y;omega
 exact⟨⟨_,_,_,_,_,_,_,_,h.req (p:=p) q t (by rw [u];exact C) j E⟩,Kept.mono q fun k _ i=>i.elim (fun e=>vv (vu e)) fun e=>vu (zY h.q e).1⟩
theorem WU{a n:Nat}{cs:Array Value}{q:List Value}{r t s:Value}(m:b.heap[B]? =some (vk cs 112 (0,0)))(o:b.ownsRow base 84 3 (vd a (n+1) cap) (n+1) (q++[r,t,s]))(h:a≠B)(f c d v:Value)(j:Nat):
 (∀g,g=(((b.setCell (vw a (n*3)) f).setCell (vw a (n*3+1)) c).setCell (vw a (n*3+2)) d).setCell (vw B j) v\/g=(((b.setCell (vw B j) v).setCell (vw a (n*3)) f).setCell (vw a (n*3+1)) c).setCell (vw a (n*3+2)) d->
   g.heap[B]? =some (vk (cs.setIfInBounds j v) 112 (0,0))/\g.ownsRow base 84 3 (vd a (n+1) cap) (n+1) (q++[f,c,d])/\Kept (fun k=>k=B\/k=a) b g):=by
 rintro g (rfl|rfl)
 .have i:=XB b a (n*3) f c d
  have l:=qQ i m (fun e=>h e.symm);exact⟨qz l j v,zF (Yu o f c d) l (by decide) j v,Kept.setCell (S:=fun k=>k=B\/k=a) (Kept.mono i fun _ _ e=>vv e) (p:=vw B j) (fun _=>vu rfl) v⟩
 .have i:=XB (b.setCell (vw B j) v) a (n*3) f c d
  exact⟨qQ i (qz m j v) (fun e=>h e.symm),Yu (zF o m (by decide) j v) f c d,Kept.trans (Kept.setCell (S:=fun k=>k=B\/k=a) (Kept.refl _ b) (p:=vw B j) (fun _=>vu rfl) v) (Kept.mono i fun _ _ e=>vv e)⟩
theorem Xe(h:xW base B G N w r)(hlf:r.m.feats.length≤24)(hlq:r.m.reqs.length≤64){rest:ByteArray}(hF:FPar rest w):
 Calls qj 132 #[vg B,wv,vf rest] w (LPost base B G N w (requireL r (bytesL rest))):=by
 have⟨i0,hi,hz0,hz1,hz2⟩:=info_parts VG;have HF:=q8 hF;have HR:=q8 h;have⟨a,b,c,d,e,gs,ts,ps,h⟩:=h;obtain⟨a1,a2,b1,b2,c1,c2,d1,d2,e1,e2,rfl,rfl,rfl,rfl,rfl⟩:=h.forms;have HRd:=q8 h;have HQ:Hid (requireL r (bytesL rest)=match parseF (12*(bytesL rest).length+24) (bytesL rest)with|some x=>if reqE r.m.names x=0 then(if r.m.reqs.length=64 then(5,r)else(0,⟨⟨r.m.feats,r.m.grps,r.m.atts,r.m.reqs++[x],r.m.lims⟩,r.given⟩))else(reqE r.m.names x,r)|none=>(4,r)):=rfl;generalize requireL r (bytesL rest)=out at HQ⊢;have hfor: ∀{S:Nat→Prop}{w:World}{vs:List Value}{x:Ex},RdEx S w vs x→ ∃(op:Int)(nm:ByteArray)(ao:Option Addr)(n cap:Nat),vs=[ve vq op,vf nm,vd ao n cap]:=fun h=>by
  cases h with
  |mk op name kids g o cap ao vs h0 hc hk=>exact⟨_,_,_,_,_,rfl⟩
 cases hp:parseF (12*(bytesL rest).length+24) (bytesL rest)with
 |none=>
  have HQ2:=q8 (show out=(4,r) by rw [HQ.out,hp]);have HP:=q8 hp;go_enter Tryz.func132,Tryz.ntmps132;go_upto_region 2 with(go_at_call 191;refine HF.mono ?_;rintro e w1 ⟨-,hn,n1⟩;obtain⟨z,k,rfl,hk⟩:=hn HP;have HN1:=q8 n1)
  have hne:((k:Int) !=0)=true:=by rw [bne_iff_ne];exact hk
  have HN2:=q8 (HN1.alloc (vk #[ve vq 0,vf ⟨#[]⟩,vd none 0 0] 84));go_wp2_with fail
  exact qo (v:=ve vp 4) (by simp [qC,Tryz.results132,go_sem]) rfl ⟨by rw [HQ2.out];rfl,by rw [HQ2.out];exact⟨_,_,_,_,_,_,_,_,HRd.near HN2⟩,HN2.kept⟩
 |some x=>
  have HQ2:=q8 (show out=if reqE r.m.names x=0 then(if r.m.reqs.length=64 then(5,r)else(0,⟨⟨r.m.feats,r.m.grps,r.m.atts,r.m.reqs++[x],r.m.lims⟩,r.given⟩))else(reqE r.m.names x,r) by rw [HQ.out,hp]);have hval:=wR hp;have HP:=q8 hp;have hsz:x.size≤1000:=by
   unfold validB at hval;simp only [Bool.and_eq_true,decide_eq_true_eq]at hval;exact hval.1.2
  go_enter Tryz.func132,Tryz.ntmps132;go_upto_region 2 with(go_at_call 191;refine HF.mono ?_;rintro e w1 ⟨hs,-,n1⟩;obtain⟨vs,rfl,rd1⟩:=hs x HP;obtain⟨op,nm,xo,xn,xc,rfl⟩:=hfor rd1;have HN1:=q8 n1;have HX:=q8 rd1)
  have hW: ∀W,W=w1.alloc (vk #[ve vq op,vf nm,vd xo xn xc] 84)→Near w1 W∧W.heap[w1.heap.size]? =some (vk #[ve vq op,vf nm,vd xo xn xc] 84 (0,0)):=by
   rintro W rfl;exact⟨(Near.refl w1).alloc _,heap_new_at rfl⟩
  have h1:=hW _ rfl;generalize w1.alloc (vk #[ve vq op,vf nm,vd xo xn xc] 84)=W at h1⊢;have⟨hN,hA⟩:=h1;have NW:=q8 (HN1.trans hN);have HA:=q8 hA;have HRw:=q8 (HRd.near NW);have HXw:=q8 (HX.kept hN (fun _ _ h=>h) (fun _ h=>h));have sOf: ∀w',Near W w'→(w'.cell? B=some (vd a1 r.m.feats.length a2)∧w'.cell? (vw B 1)=some (vd b1 r.m.grps.length b2)∧w'.cell? (vw B 2)=some (vd c1 r.m.atts.length c2)∧w'.cell? (vw B 3)=some (vd d1 r.m.reqs.length d2)∧w'.cell? (vw B 4)=some (vd e1 r.m.lims.length e2))∧w'.cell? w1.heap.size=some (ve vq op)∧w'.cell? (vw w1.heap.size 1)=some (vf nm)∧w'.cell? (vw w1.heap.size 2)=some (vd xo xn xc):=
   fun w' h=>⟨⟨cell1 (qE h HRw.box) rfl,cell1 (qE h HRw.box) rfl,cell1 (qE h HRw.box) rfl,cell1 (qE h HRw.box) rfl,cell1 (qE h HRw.box) rfl⟩,cell1 (qE h HA) rfl,cell1 (qE h HA) rfl,cell1 (qE h HA) rfl⟩
  have HNm:=q8 (fun(w':World)(hn:Near W w')=>kI ((HRw.mod).kept hn (fun _ _ h=>h) (fun _ h=>h)) (by omega));go_upto_region 4 with fail
  go_region_held3 (fun w'=>(w'.cell? B=some (vd a1 r.m.feats.length a2)∧w'.cell? (vw B 1)=some (vd b1 r.m.grps.length b2)∧w'.cell? (vw B 2)=some (vd c1 r.m.atts.length c2)∧w'.cell? (vw B 3)=some (vd d1 r.m.reqs.length d2)∧w'.cell? (vw B 4)=some (vd e1 r.m.lims.length e2))∧w'.cell? w1.heap.size=some (ve vq op)∧w'.cell? (vw w1.heap.size 1)=some (vf nm)∧w'.cell? (vw w1.heap.size 2)=some (vd xo xn xc))
   ((refine sOf _ ?_;first|exact z2|exact z1|exact(Near.refl _).drew))
   (first
     |(go_at_call 26;refine(HNm _ ((Near.refl W).drew)).mono ?_;rintro e w2 ⟨v2,rfl,r2,n2⟩;have R2:=q8 r2;have z1:Near W w2:=(Near.refl W).drew.trans n2)
     |(go_at_call 103;refine(Xf (vs:=[ve vq op,vf nm,vd xo xn xc]) (RdL.strings R2) (by simp [Mod.names];omega) (RdEx.here (HXw.kept z1 (fun _ _ h=>h) (fun _ h=>h))) (fun g hg=>hg.2) (by omega)).mono ?_;rintro e w3 ⟨rfl,n3⟩;have z2:Near W w3:=z1.trans n3))
  have N3:=q8 (NW.trans z2);have HR3:=q8 (HRw.near z2);have HA3:=q8 (qE z2 HA);have HX3:=q8 (RdEx.here (HXw.kept z2 (fun _ _ h=>h) (fun _ h=>h)));generalize reqE r.m.names x=q at HQ2⊢;have fin: ∀q:Nat,out=(q,r)→LPost base B G N w out (vm (ve vp (q:Nat))) w3:=fun q hq=>⟨by rw [hq],by rw [hq];exact⟨_,_,_,_,_,_,_,_,HR3⟩,N3.kept⟩;have HFin:=q8 fin;by_cases h0:q=0
  ·subst h0
   have HQ3:=q8 (HQ2.trans (if_pos rfl));have q3:=cell1 (o:=3) HR3.box rfl;by_cases h64:r.m.reqs.length=64
   ·have h64':(r.m.reqs.length:Int)=64:=by omega
    have HQ4:=q8 (HQ3.trans (if_pos h64));go_wp2_with fail
    exact qo (v:=ve vp 5) (by simp [qC,Tryz.results132,go_sem]) rfl (HFin 5 HQ4)
   ·have h64': ¬(r.m.reqs.length:Int)=64:=by omega
    have HQ4:=q8 (HQ3.trans (if_neg h64));have x0:=cell1 (o:=0) HA3 rfl;have x1:=cell1 (o:=1) HA3 rfl;have x2:=cell1 (o:=2) HA3 rfl;have hpl:ps.length=r.m.reqs.length:=by rw [←HRd.out.qe,qG]
    have HT:=q8 (hpl▸HR3.q:w3.ownsRow base 84 3 (vd d1 r.m.reqs.length d2) r.m.reqs.length (ps.flatMap encP));have HPl:=q8 hpl;have hB:(qw d1 r.m.reqs.length d2).ownBlock≠some B:=fun e=>by
     have:=(zY HT e).1
     have:=HR3.hB
     omega
    have HBn:=q8 hB;have hbs:=HR3.hb;have hBb:=HR3.hB;have cm: ∀(W1 w6:World),W1.grownBy w6 (qw d1 r.m.reqs.length d2).ownBlock→Near w3 W1→w6.cell? (vw B 3)=some (vd d1 r.m.reqs.length d2)∧w6.frozen? (vw B 3)=false:=fun W1 w6 hg hn=>by
     have hb:=qQ (Kept.grown (S:=fun k=>(qw d1 r.m.reqs.length d2).ownBlock=some k) hn.kept hg (fun k hk _=>hk)) HR3.box hB;exact⟨cell1 hb rfl,zQ hb 3⟩
    have HCm:=q8 cm;have HCb:=q8 (fun(W1 w6:World)(hg:W1.grownBy w6 (qw d1 r.m.reqs.length d2).ownBlock)(hn:Near w3 W1)=>qQ (Kept.grown (S:=fun k=>(qw d1 r.m.reqs.length d2).ownBlock=some k) hn.kept hg (fun k hk _=>hk)) HR3.box hB);have HXp:=q8 (show RdEx (FreeOf base ([vd a1 r.m.feats.length a2,vd b1 r.m.grps.length b2,vd c1 r.m.atts.length c2,vd d1 r.m.reqs.length d2,vd e1 r.m.lims.length e2]++ts.map Pa.v)) w3 (encP ⟨op,nm,vd xo xn xc,x⟩) x from by
     have hsw':=HRd.hb;refine HX3.kept (Kept.refl (fun _=>False) w3) (fun _ _ h=>h) (fun g hg=>⟨by have:=hg.1;omega,fun v hv e=> ?_⟩);have hlt:g<w.heap.size:=by
      rcases qK.1 hv with hv|hv
      ·simp only [qI,List.not_mem_nil,or_false]at hv
       rcases hv with rfl|rfl|rfl|rfl|rfl
       ·exact(HRd.f.lt _ e).2
       ·exact(HRd.g.lt _ e).2
       ·exact(HRd.t.lt _ e).2
       ·exact(HRd.q.lt _ e).2
       ·exact(HRd.l.lt _ e).2
      ·obtain⟨pa,hpa,rfl⟩:=yH.1 hv
       exact((HRd.tv pa hpa).lt _ e).2
     have:=hg.1
     omega)
    have HZe:=q8 (show∀(j:Nat) u,[qs vq 0,vf ⟨#[]⟩,vd none 0 0][j]? =some u→(ps.flatMap encP++[qs vq 0,vf ⟨#[]⟩,vd none 0 0])[r.m.reqs.length*3+j]? =some u from fun j u hj=>by
     have hl:=HT.1;rw [List.getElem?_append_right (by omega),hl,Nat.add_sub_cancel_left];exact hj)
    have hlt0:(r.m.reqs.length:Int)<(r.m.reqs.length:Int)+1:=by omega
    go_upto_region 9 with fail
    go_cut [] (fun wx=>xW base B G N wx ⟨⟨r.m.feats,r.m.grps,r.m.atts,r.m.reqs++[x],r.m.lims⟩,r.given⟩∧Kept (fun g=>base≤g∨g=B∨g=G) w3 wx)
    case first=>
     have q3a:(w3.alloc (vk #[ve vq 0,vf ⟨#[]⟩,vd none 0 0] 84)).cell? (vw B 3)=some (vd d1 r.m.reqs.length d2):=((Near.refl w3).alloc _).cell q3;have x0a:(w3.alloc (vk #[ve vq 0,vf ⟨#[]⟩,vd none 0 0] 84)).cell? w1.heap.size=some (ve vq op):=((Near.refl w3).alloc _).cell x0;have x1a:(w3.alloc (vk #[ve vq 0,vf ⟨#[]⟩,vd none 0 0] 84)).cell? (vw w1.heap.size 1)=some (vf nm):=((Near.refl w3).alloc _).cell x1;have x2a:(w3.alloc (vk #[ve vq 0,vf ⟨#[]⟩,vd none 0 0] 84)).cell? (vw w1.heap.size 2)=some (vd xo xn xc):=((Near.refl w3).alloc _).cell x2;go_region_law (refine jd rfl (.tmp 40) (.tmp 43) 25 rfl base 84 i0 (vi #[ve vq 0,vf ⟨#[]⟩,vd none 0 0]) 3 48 Tryz.underlying25 hi hz0 hz1 hz2 rfl (by decide) _ _ _ rfl (owns_kept HT ((Near.refl w3).drew.alloc _) (fun _ _ h=>h)) ⟨w3.heap.size,0,none⟩ 1 1 [ve vq 0,vf ⟨#[]⟩,vd none 0 0] rfl rfl (by exact K6 (by simp) _ _ _ _) (by simp [qX]) (by unfold maxLen;omega) (by omega) (by simp;omega) ?_;intro ao cap w6 hown1 hg1 hl1;have c0':=(HCm _ _ hg1 ((Near.refl w3).drew.alloc _)).1;have f0':=(HCm _ _ hg1 ((Near.refl w3).drew.alloc _)).2;obtain⟨g6,rfl,hg6⟩:=q18 hown1;have hgB:g6≠B:=(by omega);have hgB':B≠g6:=(by omega);have y0:=(yh hown1 (i:=r.m.reqs.length*3) (u:=ve vq 0) (HZe 0 _ rfl)).1;have y1:=(yh hown1 (i:=r.m.reqs.length*3+1) (u:=vf ⟨#[]⟩) (HZe 1 _ rfl)).1;have y2:=(yh hown1 (i:=r.m.reqs.length*3+2) (u:=vd none 0 0) (HZe 2 _ rfl)).1;have z0:=(yh hown1 (i:=r.m.reqs.length*3) (u:=ve vq 0) (HZe 0 _ rfl)).2;have z1:=(yh hown1 (i:=r.m.reqs.length*3+1) (u:=vf ⟨#[]⟩) (HZe 1 _ rfl)).2;have z2:=(yh hown1 (i:=r.m.reqs.length*3+2) (u:=vd none 0 0) (HZe 2 _ rfl)).2)
     all_goals
      have hbx:=HCb _ _ hg1 ((Near.refl w3).drew.alloc (vk #[ve vq 0,vf ⟨#[]⟩,vd none 0 0] 84));have HSt:=q8 (WU hbx hown1 hgB (ve vq op) (vf nm) (vd xo xn xc) (vd g6 (r.m.reqs.length+1) cap) 3);go_wp2_with fail
      go_meet
      refine q5D (p:=⟨op,nm,vd xo xn xc,x⟩) HR3 HPl HXp ((Near.refl w3).drew.alloc (vk #[ve vq 0,vf ⟨#[]⟩,vd none 0 0] 84)) hg1 hl1 (HSt _ ?_)
      first
       |(left;with_reducible rfl)
       |(right;with_reducible rfl)
    case rest=>
     have⟨hr,hk⟩:=hcut;go_wp2_with fail
     exact qo (v:=ve vp 0) (by simp [qC,Tryz.results132,go_sem]) rfl ⟨by rw [HQ4.out];rfl,by rw [HQ4.out];exact hr,N3.kept.trans hk⟩
  ·have hne:((q:Int) !=0)=true:=by rw [bne_iff_ne];omega
   have HQ3:=q8 (HQ2.trans (if_neg h0));go_wp2_with fail
   exact qo (v:=ve vp q) (by simp [qC,Tryz.results132,go_sem]) rfl (HFin q HQ3)
theorem XC:(qj.info? 2).map (fun i=>(i.zero,i.size,i.bytes))=some (some (ve vp 0),1,8):=by kernel_rfl
theorem jR{a:World}(h:Near a b)(c:a.heap.size<=k)(u v:Value):Near a ((b.setCell k u).setCell (vw k 1) v):=Near.set (Near.set h (p:=k) c u) (p:=vw k 1) c v
theorem gI{x:Value}(h:w.heap[k]? =some (vk #[x,y] t (0,0)))(u v:Value):((w.setCell k u).setCell (vw k 1) v).heap[k]? =some (vk #[u,v] t (0,0)):=qz (qz h 0 u) 1 v
theorem jc{x:Value}(h:w.heap[k]? =some (vk #[x,y] t (0,0))):w.cell? k=some x/\w.cell? (vw k 1)=some y/\w.frozen? k=false/\w.frozen? (vw k 1)=false:=⟨cell1 h rfl,cell1 h rfl,zQ h 0,zQ h 1⟩
theorem VJ{l:List ByteArray}{s:ByteArray}(h:0≤idxN l s):idxN l s<l.length:=by
 unfold idxN at h⊢;split at h
 ·rename_i a
  rw [if_pos a];unfold hasN at a
  have:=List.findIdx_lt_length_of_exists (List.any_eq_true.1 a)
  omega
 ·omega
def q7l:Value->Nat
 | .slice _ n _=>n
 |_=>0
theorem WD(h:xW base B G N w r)(hv:ji w)(hN:N≤1099511627776)(hlf:r.m.feats.length≤24)(hla:r.m.atts.length≤8)(hvl: ∀a∈r.m.atts,a.values.length≤24){Sw:Nat→Prop}{ws:List ByteArray}(hw:RdL Sw 1 RdS w wv ws)(hz: ∀i,(wd ws i).size≤4194304)(rest:ByteArray):
 Calls qj 131 #[vg (some ⟨B,0,none⟩),wv,vf rest] w fun e w'=> ∃N',N'≤N+1∧LPost base B G N' w (valueL r ws) e w':=by
 obtain⟨i0,hi,hz0,hz1,hz2⟩:=info_parts XC;have HNum:=q8 (uI hv (s:=wd ws 3) (by have:=hz 3;omega));have HI:=q8 (fun w' (h':xW base B G N w' r)=>YK h' (by omega) (wd ws 1));have HI2:=q8 (fun w' (h':xW base B G N w' r)=>gd h' (by omega) (wd ws 2));have HR:=q8 h;obtain⟨a,b,c,d,e,gs,ts,ps,h⟩:=h;obtain⟨a1,a2,b1,b2,c1,c2,dd,d2,ee,e2,rfl,rfl,rfl,rfl,rfl⟩:=h.forms;have HRd:=q8 h;obtain⟨ao,cap,rfl⟩:=hw.form;have HW:=q8 hw;have HV:=q8 hvl;have HQ:=q8 (show valueL r ws=if ws.length=4 then(match numB (wd ws 3)with|some x=>if 0≤idxA r.m (wd ws 1)∧0≤idxF r.m (wd ws 2)then(if(idxA r.m (wd ws 1),idxF r.m (wd ws 2))∈r.given then(7,r)else if costB x=true then(0,⟨⟨r.m.feats,r.m.grps,q0A r.m.atts (idxA r.m (wd ws 1)).toNat (idxF r.m (wd ws 2)).toNat x,r.m.reqs,r.m.lims⟩,(idxA r.m (wd ws 1),idxF r.m (wd ws 2))::r.given⟩)else(2,r))else(6,r)|none=>(4,r))else(4,r)from rfl);generalize valueL r ws=out at HQ⊢;clear h hw hv hvl;by_cases h2:ws.length=4
 ·obtain⟨g,o,rfl,-⟩:=kt HW.out (by omega)
  have hlt1:(1:Int)<ws.length:=by omega
  have hlt2:(2:Int)<ws.length:=by omega
  have hlt3:(3:Int)<ws.length:=by omega
  have hne:((ws.length:Int) !=4)=false:=by rw [bne_eq_false_iff_eq];omega
  have HQ2:=q8 (HQ.out.trans (if_pos h2));have HAl:=q8 (show 0≤idxA r.m (wd ws 1)→idxA r.m (wd ws 1)<r.m.atts.length from fun h=>by have:=VJ h;rwa [qG]at this);have HFl:=q8 (show 0≤idxF r.m (wd ws 2)→idxF r.m (wd ws 2)<r.m.feats.length from fun h=>by have:=VJ h;unfold Mod.names at this;rwa [qG]at this);generalize numB (wd ws 3)=nb at HNum HQ2;generalize idxA r.m (wd ws 1)=p at HI HQ2 HAl;generalize idxF r.m (wd ws 2)=f at HI2 HQ2 HFl;have c3':=jz HW.out (i:=3) (by omega);have HC1:=q8 (jz HW.out (i:=1) (by omega));have HC2:=q8 (jz HW.out (i:=2) (by omega));clear h2;go_enter Tryz.func131,Tryz.ntmps131;go_upto_region 4 with(go_at_call 189;refine HNum.out.mono ?_;rintro e w1 ⟨z,rfl,hzv,n1⟩;have HZ:=q8 hzv;have N1:=q8 n1;clear hzv n1)
  have fin: ∀(q:Nat)(w5:World),Near w w5→out=(q,r)→ ∃N',N'≤N+1∧LPost base B G N' w out (vm (ve vp (q:Nat))) w5:=fun q w5 hn hq=>⟨N,by omega,by rw [hq],by rw [hq];exact⟨_,_,_,_,_,_,_,_,HRd.out.near hn⟩,hn.kept⟩;have HFin:=q8 fin;clear fin c3'
  cases nb with
  |none=>
   have HQ3:=q8 (show out=(4,r)from HQ2.out);go_wp2_with fail
   exact qo (v:=ve vp 4) (by simp [qC,ui,go_sem]) rfl (HFin.out 4 _ N1.out HQ3.out)
  |some x=>
  obtain rfl:=HZ.out x rfl;have HQ3:=q8 (show out=if 0≤p∧0≤f then(if(p,f)∈r.given then(7,r)else if costB z=true then(0,⟨⟨r.m.feats,r.m.grps,q0A r.m.atts p.toNat f.toNat z,r.m.reqs,r.m.lims⟩,(p,f)::r.given⟩)else(2,r))else(6,r)from HQ2.out);clear HZ;have sOf: ∀w',Near w1 w'→w'.cell? ⟨g,o+1,none⟩=some (vf (wd ws 1))∧w'.cell? ⟨g,o+2,none⟩=some (vf (wd ws 2)):=fun w' h=>⟨(N1.out.trans h).cell HC1.out,(N1.out.trans h).cell HC2.out⟩;go_upto_region 6 with fail
  go_cut [9] (fun s9 wx=> ∃KB,s9=vg (some ⟨KB,0,none⟩)∧wx.heap[KB]? =some (vk #[ve vp p,ve vp f] 247 (0,0))∧Near w1 wx∧w.heap.size≤KB)
  case first=>
   have HJ1:=q8 (fun w' (hn:Near w1 w')=>HI.out w' ⟨_,_,_,_,_,_,_,_,HRd.out.near (N1.out.trans hn)⟩);have HJ2:=q8 (fun w' (hn:Near w1 w')=>HI2.out w' ⟨_,_,_,_,_,_,_,_,HRd.out.near (N1.out.trans hn)⟩);have hsz1:=N1.out.size;go_region_held3 (fun w'=>w'.cell? ⟨g,o+1,none⟩=some (vf (wd ws 1))∧w'.cell? ⟨g,o+2,none⟩=some (vf (wd ws 2)))
    ((refine sOf _ ?_;first|exact jR z2 z2.size _ _|exact jR z2 z1.size _ _|exact jR z2 (qt _) _ _|exact jR (z2.alloc _) z2.size _ _|exact z2|exact z2.alloc _|exact z1|exact z1.alloc _|exact(Near.refl _).drew|exact(Near.refl _).drew.alloc _))
    (first
      |(go_at_call 190;refine(HJ1.out _ (by first|exact(Near.refl _).drew|exact((Near.refl _).alloc _).drew)).mono ?_;rintro e w2 ⟨rfl,n2⟩;have z1:Near w1 w2:=(by first|exact(Near.refl _).drew.trans n2|exact((Near.refl _).alloc _).drew.trans n2);try(have hb2:w2.heap[w1.heap.size]? =some (vk #[ve vp 0,ve vp 0] 247 (0,0)):=qE n2 (heap_new_at rfl);obtain⟨e0,e1,f0,f1⟩:=jc hb2))
      |(go_at_call 188;refine(HJ2.out _ (by first|exact z1|exact z1.alloc _)).mono ?_;rintro e w3 ⟨rfl,n3⟩;have z2:Near w1 w3:=(by first|exact z1.trans n3|exact(z1.alloc _).trans n3);first|(have hb3:w3.heap[w1.heap.size]? =some (vk #[ve vp 0,ve vp 0] 247 (0,0)):=qE n3 hb2;obtain⟨e0',e1',f0',f1'⟩:=jc hb3)|(have hb3:w3.heap[w2.heap.size]? =some (vk #[ve vp 0,ve vp 0] 247 (0,0)):=qE n3 (heap_new_at rfl);obtain⟨e0',e1',f0',f1'⟩:=jc hb3)|skip))
   all_goals
    go_wp2_with fail
    go_meet
    first
     |exact⟨_,rfl,gI hb3 _ _,jR z2 (by first|exact z1.size|exact qt _) _ _,by first|exact hsz1|exact qH hsz1 z1.size⟩
     |exact⟨_,rfl,heap_new_at rfl,z2.alloc _,qH hsz1 z2.size⟩
  case rest=>
   obtain⟨KB,rfl,hbox,hnx,hKB⟩:=hcut;obtain⟨d0,d1,-,-⟩:=jc hbox;have HNx:=q8 (N1.out.trans hnx);have HBx:=q8 hbox;have HRx:=q8 (HRd.out.near HNx.out);clear hbox hnx sOf HI HI2 HNum HC1 HC2;by_cases hpf:0≤p∧0≤f
   ·obtain⟨hp0,hf0⟩:=hpf
    have HQ4:=q8 (HQ3.out.trans (if_pos ⟨hp0,hf0⟩));have hp': ¬p<0:=by omega
    have hf': ¬f<0:=by omega
    go_upto_region 9 with fail
    obtain⟨j,rfl⟩: ∃j:Nat,p=j:=⟨p.toNat,by omega⟩;obtain⟨k,rfl⟩: ∃k:Nat,f=k:=⟨f.toNat,by omega⟩;have hjl:=HAl.out hp0;have hkl:=HFl.out hf0;obtain⟨kl,hkey⟩:=q4O (wf_nat (n:=j) (by omega)) (wf_nat (n:=k) (by omega));have HKey:=q8 hkey;have c5:wc.cell? ⟨B,5,none⟩=some (.map (some G)):=cell1 HRx.out.box rfl;clear hp0 hf0 hp' hf' hkey HQ3 HQ2;by_cases hg:((j:Int),(k:Int))∈r.given
    ·have HQ5:=q8 (HQ4.out.trans (if_pos hg))
     have hlook: ∀n,(yu 110 (.map (some G)) (vi #[ve vp j,ve vp k]) false).run qj (wc.drewN n)= .ok (vj true) (wc.drewN n):=fun n=>(HRx.out.v.kept ((Near.refl wc).drewN n) (fun e=>e)).hit QH Tryz.underlying110 (q2W _) HKey.out ⟨rfl,_,_,hg,rfl⟩ false;clear hg;go_quiet (fail)
     go_wp2_with fail
     exact qo (v:=ve vp 7) (by simp [qC,ui,go_sem]) rfl (HFin.out 7 _ (HNx.out.drewN _) HQ5.out)
    ·have HQ5:=q8 (HQ4.out.trans (if_neg hg))
     have hlook: ∀n,(yu 110 (.map (some G)) (vi #[ve vp j,ve vp k]) false).run qj (wc.drewN n)= .ok (vj false) (wc.drewN n):=fun n=>(HRx.out.v.kept ((Near.refl wc).drewN n) (fun e=>e)).miss QH Tryz.underlying110 (q2W _) HKey.out (fun v hv=>hg (by obtain⟨-,x,y,hm,e⟩:=hv;cases e;exact hm)) false;clear hg;go_quiet (fail)
     cases hcb:costB z with
     |false=>
      have HQ6:=q8 (show out=(2,r) by rw [HQ5.out,hcb];rfl);have HL:=q8 (wT z);rw [hcb]at HL;go_wp2_with (go_at_call 99;refine(HL.out _).mono ?_;rintro e w6 ⟨rfl,rfl⟩)
      exact qo (v:=ve vp 2) (by simp [qC,ui,go_sem]) rfl (HFin.out 2 _ (HNx.out.drewN _) HQ6.out)
     |true=>
      have HQ6:=q8 (show out=(0,⟨⟨r.m.feats,r.m.grps,q0A r.m.atts j k z,r.m.reqs,r.m.lims⟩,((j:Int),(k:Int))::r.given⟩) by rw [HQ5.out,hcb];rfl);have HL:=q8 (wT z);rw [hcb]at HL;clear hcb;go_upto_region 13 with(go_at_call 99;refine(HL.out _).mono ?_;rintro e w6 ⟨rfl,rfl⟩)
      have hRy:=HRx.out.near ((Near.refl wc).drewN nq);have hnw:=HNx.out.drewN nq;have hby:=qE ((Near.refl wc).drewN nq) HBx.out;generalize wc.drewN nq=wy at hRy hnw hby⊢;clear d0 d1 c5 hlook;obtain⟨d0,d1,-,-⟩:=jc hby;have c5:wy.cell? ⟨B,5,none⟩=some (.map (some G)):=cell1 hRy.box rfl;obtain⟨es,clk,hput,hv2⟩:=(hRy.v.kept (Near.refl wy).drew (fun e=>e)).store (t:=110) (e:=4) QH Tryz.underlying110 (by unfold maxLen;omega) HKey.out (vj true);have hW: ∀W,W=vR wy.drew G (.map es clk)→W.heap[B]? =wy.heap[B]? ∧W.heap[KB]? =some (vk #[ve vp j,ve vp k] 247 (0,0))∧Rd base B G (N+1) W ⟨r.m,((j:Int),(k:Int))::r.given⟩ (vd a1 r.m.feats.length a2) (vd b1 r.m.grps.length b2) (vd c1 r.m.atts.length c2) (vd dd r.m.reqs.length d2) (vd ee r.m.lims.length e2) gs ts ps∧Kept (fun g=>g=G) wy W:=by
       rintro W rfl;have hk:Kept (fun g=>g=G) wy (vR wy.drew G (.map es clk)):=jj (S:=fun g=>g=G) (Near.refl wy).drew.kept (fun _=>rfl) _;have hGB:=hRy.GB;exact⟨by rw [qQ hk hRy.box (fun e=>hGB e.symm),hRy.box],qQ hk hby (by have:=HRd.out.hb;have:=HRd.out.hG;omega),hRy.give hk hv2,hk⟩
      have HW2:=q8 hW;have HNy:=q8 hnw;have HBB:=q8 hRy.box;clear hW hnw hRy hby hv2 HRx HBx HNx;go_region_held3 (fun w'=>w'.cell? ⟨B,5,none⟩=some (.map (some G))∧w'.cell? ⟨KB,0,none⟩=some (ve vp j)∧w'.cell? ⟨KB,1,none⟩=some (ve vp k))
       (first|exact⟨(Near.refl wy).drew.cell c5,(Near.refl wy).drew.cell d0,(Near.refl wy).drew.cell d1⟩|(obtain⟨e1,e2,-⟩:=HW2.out _ rfl;exact⟨cell1 (e1.trans HBB.out) rfl,cell1 e2 rfl,cell1 e2 rfl⟩)) (fail)
      have hp2:=HW2.out _ rfl;generalize vR wy.drew G (.map es clk)=wz at hp2⊢;obtain⟨-,hbz,hRz,hkz⟩:=hp2;obtain⟨gc,rfl⟩: ∃gc,c1=some ⟨gc,0,none⟩:=by
       rcases hRz.t.2 with⟨-,e⟩|⟨g,cap,cur,e,-⟩
       ·have:=hRz.te
        rw [List.eq_nil_of_length_eq_zero e]at this
        have:=congrArg List.length this
        simp at this;omega
       ·simp only [qq]at e
        exact⟨g,e.1⟩
      obtain⟨pa,hpa⟩: ∃pa,ts[j]? =some pa:=⟨_,qi (by rw [hRz.len_at];omega)⟩;have hat:r.m.atts[j]? =some pa.a:=by rw [←hRz.te,qA,hpa];rfl
      have hvl:=HV.out pa.a (qp hat);have HE:=q8 (show out=(0,⟨⟨r.m.feats,r.m.grps,r.m.atts.set j ⟨pa.a.name,setV pa.a.values k z⟩,r.m.reqs,r.m.lims⟩,((j:Int),(k:Int))::r.given⟩) by rw [HQ6.out,q5z hat]);have HZ:=q8 hRz;have HKz:=q8 (show Kept (fun g=>base≤g∨g=B∨g=G) w wz from HNy.out.kept.trans (Kept.mono hkz fun _ _ e=>vv (vv e)));have HSelf:=q8 (set_self hat);have q2:wz.cell? ⟨B,2,none⟩=some (vd (some ⟨gc,0,none⟩) r.m.atts.length c2):=cell1 hRz.box rfl;have HPa:=q8 hpa;have HBz:=q8 hbz;clear d0 d1 hput HW2 hbz hRz hkz hpa hat c5 HNy HBB;obtain⟨d0,d1,-,-⟩:=jc HBz.out;go_upto_region 14 with fail
      go_quiet (fail)
      have HKzq:=q8 (HKz.out.drewN nq);have HRzq:=q8 (HZ.out.near ((Near.refl wz).drewN nq));have HBzq:=q8 (qE ((Near.refl wz).drewN nq) HBz.out);generalize wz.drewN nq=wq at HKzq HRzq HBzq⊢;clear HZ HKz HBz q2 d0 d1;go_wp2_with fail
      go_loopw [] (fun wr=> ∃t pb ts',Rd base B G (N+1) wr ⟨⟨r.m.feats,r.m.grps,r.m.atts.set j ⟨pa.a.name,pa.a.values++zk t 0⟩,r.m.reqs,r.m.lims⟩,((j:Int),(k:Int))::r.given⟩ (vd a1 r.m.feats.length a2) (vd b1 r.m.grps.length b2) (vd (some ⟨gc,0,none⟩) r.m.atts.length c2) (vd dd r.m.reqs.length d2) (vd ee r.m.lims.length e2) gs ts' ps∧ts'[j]? =some pb∧pb.a=⟨pa.a.name,pa.a.values++zk t 0⟩∧(t=0∨pa.a.values.length+t≤k+1)∧wr.heap[KB]? =some (vk #[ve vp j,ve vp k] 247 (0,0))∧Kept (fun g=>base≤g∨g=B∨g=G) w wr)
       (fun wr=>k+1 - q7l ((wr.cell? ⟨gc,j*2+1,none⟩).getD undef))
      case atStart=>exact⟨0,pa,ts,by rw [List.replicate_zero,zS,HSelf.out];exact HRzq.out,HPa.out,by rw [List.replicate_zero,zS],vu rfl,HBzq.out,HKzq.out⟩
      case round=>
       obtain⟨t,pb,ts',hR,hpb,hpn,ht,hb,hk⟩:=hrel;obtain⟨vo,vc,hpv⟩: ∃vo vc,pb.v=vd vo pb.a.values.length vc:=by
        obtain⟨x,y,e⟩:=qR (hR.tv pb (qp hpb));exact⟨x,y,e⟩
       have hcell:=(hR.box_at hpb).2;rw [hpv]at hcell;have HLl:=q8 (show pb.a.values.length=pa.a.values.length+t by rw [hpn];simp);obtain⟨d0,d1,-,-⟩:=jc hb;have HRr:=q8 hR;have HPb:=q8 hpb;have HPn:=q8 hpn;have HPv:=q8 hpv;have HBr:=q8 hb;have HKr:=q8 hk;clear hR hpb hpn hpv hb hk;by_cases hle:(pb.a.values.length:Int)≤k
       ·go_wp2_with fail
        go_quiet (fail)
        have HRs:=q8 (HRr.out.near ((Near.refl wr).drewN nq));have HBs:=q8 (qE ((Near.refl wr).drewN nq) HBr.out);have HKs:=q8 (HKr.out.drewN nq);have hcs:=((Near.refl wr).drewN nq).cell hcell;generalize wr.drewN nq=ws' at HRs HBs HKs hcs⊢;obtain⟨g0,g1,-,-⟩:=jc HBs.out;have hbs:=HRs.out.hb;have HVal:=q8 (show ws'.ownsRow base 2 1 (vd vo pb.a.values.length vc) pb.a.values.length (pb.a.values.map intV) by have:=HRs.out.tv pb (qp HPb.out);rw [HPv.out]at this;exact this);have HEnd:=q8 (show∀(v3:Value)(w3:World),w3.ownsRow base 2 1 v3 (pb.a.values.length+1) (pb.a.values.map intV++[ve vp 0])→(ws'.alloc (vk #[ve vp 0] 2)).grownBy w3 (qw vo pb.a.values.length vc).ownBlock→(v3.ownBlock=(qw vo pb.a.values.length vc).ownBlock∨v3.ownBlock=some (ws'.alloc (vk #[ve vp 0] 2)).heap.size)→_ from fun v3 w3 ho hg hl=>HRs.out.slot_end HPb.out ((Near.refl ws').alloc (vk #[ve vp 0] 2)) (v':=v3) (l':=pb.a.values++[0]) (w3:=w3) (by rw [HPv.out];exact hg) (by rw [List.length_append,List.map_append];exact ho) (by rw [HPv.out];exact hl));go_wp2_with (at_builtin;go_must (refine wpList_append_own_at _ rfl (.tmp 78) (.tmp 79) 79 rfl base 2 i0 (ve vp 0) 1 8 Tryz.underlying79 hi hz0 hz1 hz2 rfl (by decide) _ pb.a.values.length (pb.a.values.map intV) rfl (owns_kept HVal.out ((Near.refl ws').alloc _) (fun _ _ h=>h)) ⟨ws'.heap.size,0,none⟩ 1 1 [ve vp 0] rfl rfl (cell_one_at rfl _ _) (by simp [qX]) (by unfold maxLen;omega) (by omega) (by simp;omega) ?_);go_must (intro v3 w3 hown3 hg3 _ hl3;obtain⟨vx,vy,rfl⟩:=qR hown3;obtain⟨⟨y0,y1⟩,hR4,hK4,hB4⟩:=HEnd.out _ w3 hown3 hg3 hl3;rw [HPv.out]at y0;have HR4:=q8 hR4;have HK4:=q8 hK4;have HB4:=q8 (hB4 KB _ _ HBs.out (by decide) (by decide));have HOwn:=q8 hown3;clear hR4 hK4 hB4 hown3 hg3 hl3))
        have hne:pb.a.values.length<k+1:=by omega
        have hll:=HLl.out;have hpn2:(⟨pb.a.name,pb.a.values++[0]⟩:Att)=⟨pa.a.name,pa.a.values++zk (t+1) 0⟩:=by
         rw [HPn.out,List.replicate_succ',List.append_assoc]
        have hR5:=HR4.out;have hpb':(ts'.set j ⟨⟨pb.a.name,pb.a.values++[0]⟩,vd vx (pb.a.values.length+1) vy⟩)[j]? =some ⟨⟨pb.a.name,pb.a.values++[0]⟩,vd vx (pb.a.values.length+1) vy⟩:=by
         rw [j8,if_pos rfl,if_pos (qm.1 HPb.out).1]
        have hc5:=(hR5.box_at hpb').2;rw [List.set_set,hpn2]at hR5;refine⟨⟨t+1,_,_,hR5,by rw [←hpn2];exact hpb',hpn2,vv (by omega),HB4.out,HKs.out.trans (Kept.mono HK4.out fun _ _ e=>vu e)⟩,?_⟩;rw [hc5,hcell];simp only [Option.getD_some,q7l];omega
       ·go_wp2_with fail
        go_quiet (fail)
        have HRs:=q8 (HRr.out.near ((Near.refl wr).drewN nq));have HBs:=q8 (qE ((Near.refl wr).drewN nq) HBr.out);have HKs:=q8 (HKr.out.drewN nq);have hcs:=((Near.refl wr).drewN nq).cell hcell;generalize wr.drewN nq=ws' at HRs HBs HKs hcs⊢;obtain⟨g0,g1,-,-⟩:=jc HBs.out;obtain⟨gv,vc',hpv',hfz,⟨u0,hcu⟩,hRn,hKn⟩:=(HRs.out.near (Near.refl ws').drew).slot_set HPb.out (f:=k) (by omega) z;have hpv2:=HPv.out.symm.trans hpv';simp only [qq,true_and]at hpv2;obtain⟨rfl,rfl⟩:=hpv2;have hll:=HLl.out;have hval:(⟨pb.a.name,pb.a.values.set k z⟩:Att)=⟨pa.a.name,setV pa.a.values k z⟩:=by
         rw [HPn.out];unfold setV;rw [show k+1 - pa.a.values.length=t by omega]
        rw [List.set_set,hval]at hRn;have HRn:=q8 hRn;have HKn:=q8 (HKs.out.drew.trans (Kept.mono hKn fun _ _ e=>vu e));clear hll hval hRn hKn;have hlk:(k:Int)<pb.a.values.length:=by omega
        go_wp2_with fail
        go_still_tail 8,(by kernel_rfl)
        change wpList _ _ _ _ _ ws'.drew;go_wp2_with fail
        exact qo (v:=ve vp 0) (by simp [qC,ui,go_sem]) rfl ⟨N+1,by omega,by rw [HE.out];rfl,by rw [HE.out];exact⟨_,_,_,_,_,_,_,_,HRn.out⟩,HKn.out⟩
   ·have HQ4:=q8 (HQ3.out.trans (if_neg hpf))
    by_cases hp:p<0
    ·clear hpf
     go_wp2_with fail
     exact qo (v:=ve vp 6) (by simp [qC,ui,go_sem]) rfl (HFin.out 6 _ HNx.out HQ4.out)
    ·have hf:f<0:=by omega
     clear hpf;go_wp2_with fail
     exact qo (v:=ve vp 6) (by simp [qC,ui,go_sem]) rfl (HFin.out 6 _ HNx.out HQ4.out)
 ·have hne:((ws.length:Int) !=4)=true:=by rw [bne_iff_ne];omega
  have HQ2:=q8 (HQ.out.trans (if_neg h2));have h2': ¬(ws.length:Int)=4:=by omega
  clear h2;go_enter Tryz.func131,Tryz.ntmps131;go_wp2_with fail
  exact qo (v:=ve vp 4) (by simp [qC,ui,go_sem]) rfl ⟨N,by omega,by rw [HQ2.out];rfl,by rw [HQ2.out];exact HR.out,Kept.refl _ _⟩
end Go.Proofs.YtjcbmcnbdegpmaaGreatDoor
