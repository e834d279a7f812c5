/- MRdr, MRdrB, MRdrC, MDec, MBld, MPutP, MRLev, MRNames. -/
import Derived.Lib.ItoaNum
import Derived.Shelf.Strings.BuilderK
import Derived.Test.YtjcbmcnbdegpmaaGreatDoorKMROne
import Derived.Test.YtjcbmcnbdegpmaaGreatDoorKMTimesW
import Derived.Test.YtjcbmcnbdegpmaaGreatDoorKMLayB
set_option maxRecDepth 100000
set_option maxHeartbeats 12800000
set_option linter.unusedVariables false
set_option linter.unusedSimpArgs false
open Bool renaming and_eq_true->qy
open Go.Lib renaming hid->q8,parseUintM->j6
open Go.Proofs.Tryz renaming prog->qj
open Go.Value.slice renaming injEq->qq
open Go.World renaming block_lt_of_cell?->qM,ownsRow_nil->qW
open List renaming append_assoc->qS,cons_append->zl,flatMap_append->zC,getElem?_eq_getElem->qi,getElem?_eq_some_iff->qm,length_append->qn,length_cons->qT,map_append->ze,mem_append->qK,mem_cons->qI,mem_cons_of_mem->yw,mem_singleton->qN,nil_append->yV,take_add_one->qU,take_length->qF
open Nat renaming le_trans->qH,pow_succ->jn,zero_le->qv
open Option.some renaming inj->zm
open Go.Value renaming slice->vd,int->ve,string->vf,pointer->vg,agg->vi,bool->vj
open Go.Obj renaming cells->vk
open Go.Ending renaming returned->vm
open Go.IntKind renaming i64->vp,u8->vq,u32->vr,u64->vt
open Or renaming inl->vu,inr->vv
namespace Go.Proofs.YtjcbmcnbdegpmaaGreatDoor
open Go Go.RowKit Go.Proofs.Gen Go.Proofs.Mod
def q41(x:xM):List Value:=[.string x.name,.int .i64 x.parent,.int .u8 x.kind]
def encLm(x:Lim):List Value:=[.int .i64 x.att,.int .u8 x.rel,.int .i64 x.bound]
structure Pg where
 g:Grp
 v:Value
structure Pa where
 a:Att
 v:Value
def q6U(p:Pg):List Value:=[.int .i64 p.g.parent,.int .i64 p.g.low,.int .i64 p.g.high,p.v]
def Ka(p:Pa):List Value:=[.string p.a.name,p.v]
def FreeOf(base:Nat)(l:List Value)(g:Nat):Prop:=base<=g/\ ∀v∈l,v.ownBlock≠some g
def givenM(l:List (Int×Int))(k v:Value):Prop:=v= .bool true/\ ∃x y,(x,y)∈l/\k= .agg #[.int .i64 x,.int .i64 y]
structure Rd(base B G N:Nat)(w:World)(r:RS)(a b c d e:Value)(gs:List Pg)(ts:List Pa)(ps:List Pe):Prop where
 hB:B<base
 hG:G<base
 hb:base<=w.heap.size
 box:w.heap[B]? =some (.cells #[a,b,c,d,e,.map (some G)] 112 (0,0))
 f:w.ownsRow base 76 3 a r.m.feats.length (r.m.feats.flatMap q41)
 g:w.ownsRow base 78 4 b gs.length (gs.flatMap q6U)
 ge:gs.map Pg.g=r.m.grps
 gm: ∀p∈gs,RdL (FreeOf base ([a,b,c,d,e]++ts.map Pa.v)) 1 RdI w p.v p.g.members/\WfS p.v
 t:w.ownsRow base 81 2 c ts.length (ts.flatMap Ka)
 te:ts.map Pa.a=r.m.atts
 tv: ∀p∈ts,w.ownsRow base 2 1 p.v p.a.values.length (p.a.values.map intV)
 td: ∀(i j:Nat)(p q:Pa)(k:Nat),ts[i]? =some p->ts[j]? =some q->p.v.ownBlock=some k->q.v.ownBlock=some k->i=j
 q:w.ownsRow base 84 3 d ps.length (ps.flatMap encP)
 qe:ps.map Pe.ex=r.m.reqs
 qr: ∀p∈ps,RdEx (FreeOf base ([a,b,c,d,e]++ts.map Pa.v)) w (encP p) p.ex
 l:w.ownsRow base 89 3 e r.m.lims.length (r.m.lims.flatMap encLm)
 v:mapV w qj 247 G N (givenM r.given)
theorem RdL.here{α:Type}{S:Nat->Prop}{k:Nat}{R:World->List Value->α->Prop}{w:World}{v:Value}{l:List α}(h:RdL S k R w v l)(q: ∀f x,R w f x->f≠[]):RdL (fun g=>S g/\g<w.heap.size) k R w v l:=by
 have⟨t,j,e,z⟩:=h;refine⟨t,j,e,fun i x y=> ?_⟩;have⟨g,o,f,p,s,n,m⟩:=z i x y
 cases f with
 |nil=>exact absurd rfl (q _ _ m)
 |cons u A=>exact⟨g,o,_,p,⟨s,qM _ _ (n 0 u rfl)⟩,n,m⟩
section
variable {base:Nat}{w w':World}{rows rows':List Value}{K:Nat->Prop}
theorem FreeOf.turn{g:Nat}(h:FreeOf base rows g)(n:g<w.heap.size)(f: ∀v∈rows',∀k,v.ownBlock=some k->w.heap.size<=k\/ ∃u∈rows,u.ownBlock=some k):FreeOf base rows' g:=
 ⟨h.1,fun v l e=>by
   rcases f v l g e with m|⟨u,j,i⟩
   .omega
   .exact h.2 u j i⟩
theorem ua(j:Kept K w w')(l: ∀k,FreeOf base rows k-> ¬K k)(i: ∀v∈rows',∀k,v.ownBlock=some k->w.heap.size<=k\/ ∃u∈rows,u.ownBlock=some k){vs:List Value}{x:Ex}(h:RdEx (FreeOf base rows) w vs x):RdEx (FreeOf base rows') w' vs x:=
 (RdEx.here h).kept j (fun g f=>l g f.1) (fun _ f=>f.1.turn f.2 i)
theorem ko(j:Kept K w w')(m: ∀k,FreeOf base rows k-> ¬K k)(i: ∀v∈rows',∀k,v.ownBlock=some k->w.heap.size<=k\/ ∃u∈rows,u.ownBlock=some k){v:Value}{l:List Int}(h:RdL (FreeOf base rows) 1 RdI w v l):RdL (FreeOf base rows') 1 RdI w' v l:=
 (RdL.here h (fun n x h e=>by rw [h]at e;cases e)).kept j (fun g f=>m g f.1) (fun _ f=>f.1.turn f.2 i) (fun _ _ h=>h)
theorem uF{B T j s q n l:Nat}{u v:Value}{z g:List Value}(x:Kept (fun k=>k=B\/u.ownBlock=some k) w w')(E:B<base)(C:w.ownsRow base T s u n z)(o:w.ownsRow base j q v l g)(h:j≠T):w'.ownsRow base j q v l g:=by
 refine owns_kept o x fun k i f=> ?_;have⟨D,t,H,y⟩:=zY o i;rcases f with rfl|f
 .omega
 .obtain⟨-,m,A,p⟩:=zY C f
  rw [y]at p
  cases p;exact h rfl
end
section
variable {base B G N:Nat}{w w':World}{r:RS}{a b c d e:Value}{gs:List Pg}{ts:List Pa}{ps:List Pe}
theorem Rd.GB(h:Rd base B G N w r a b c d e gs ts ps):G≠B:=fun i=>by
 obtain⟨j,f,g,-⟩:=h.v;rw [i,h.box]at g
 cases g
theorem Rd.near(h:Rd base B G N w r a b c d e gs ts ps)(i:Near w w'):Rd base B G N w' r a b c d e gs ts ps:=
 have f: ∀{T s n:Nat}{v:Value}{l:List Value},w.ownsRow base T s v n l->w'.ownsRow base T s v n l:=fun h=>owns_kept h i fun _ _ e=>e;have j: ∀v∈[a,b,c,d,e]++ts.map Pa.v,∀k,v.ownBlock=some k->w.heap.size<=k\/ ∃u∈[a,b,c,d,e]++ts.map Pa.v,u.ownBlock=some k:=fun v m _ e=>vv ⟨v,m,e⟩;⟨h.hB,h.hG,qH h.hb i.size,qE i h.box,f h.f,f h.g,h.ge,fun p g=>⟨ko i (fun _ _ e=>e) j (h.gm p g).1,(h.gm p g).2⟩,f h.t,h.te,fun p g=>f (h.tv p g),h.td,f h.q,h.qe,fun p g=>ua i (fun _ _ e=>e) j (h.qr p g),f h.l,h.v.kept i fun e=>e⟩
end
end Go.Proofs.YtjcbmcnbdegpmaaGreatDoor
namespace Go.Proofs.YtjcbmcnbdegpmaaGreatDoor
open Go Go.RowKit Go.Proofs.Gen Go.Proofs.Mod
theorem Zu{w:World}{base e k n:Nat}{v:Value}{i:List Value}(h:w.ownsRow base e k v n i):WfS v:=by
 intro o p c f;rcases h.2 with⟨rfl,rfl⟩|⟨g,j,l,rfl,_,_,m,_⟩
 .cases f
  exact⟨Nat.le_refl _,fun _=>rfl⟩
 .cases f
  exact⟨m,fun h=>by cases h⟩
def Grew(w:World)(v v':Value):Prop:=v'.ownBlock=v.ownBlock\/ ∃k,v'.ownBlock=some k/\w.heap.size<=k
section
variable {base B G N:Nat}{w w':World}{r:RS}{a b c d e:Value}{gs:List Pg}{ts:List Pa}{ps:List Pe}
theorem Rd.mod(h:Rd base B G N w r a b c d e gs ts ps):RdMod (fun g=>base<=g) w (vi #[a,b,c,d,e]) r.m:=by
 refine⟨a,b,c,d,e,rfl,RdL.own (enc:=q41) (fun _=>rfl) h.f (fun _ _=>rfl),?_,?_,?_,RdL.own (enc:=encLm) (fun _=>rfl) h.l (fun _ _=>rfl),Zu h.f,Zu h.g⟩
 .rw [<-h.ge]
  exact RdL.map (RdL.own (enc:=q6U) (R:=fun w i p=>RdGrp (fun g=>base<=g) w i p.g) (fun _=>rfl) h.g fun p f=>⟨p.v,rfl,(h.gm p f).1.kept (Kept.refl (fun _=>False) w) (fun _ _ h=>h) (fun _ j=>j.1) (fun _ _ h=>h),(h.gm p f).2⟩)
 .rw [<-h.te]
  exact RdL.map (RdL.own (enc:=Ka) (R:=fun w i p=>RdAtt (fun g=>base<=g) w i p.a) (fun _=>rfl) h.t fun p f=>⟨p.v,rfl,RdL.own (enc:=fun x=>[intV x]) (fun _=>rfl) (by rw [gW];exact h.tv p f) (fun _ _=>rfl)⟩)
 .rw [<-h.qe]
  exact RdL.map (RdL.own (enc:=encP) (R:=fun w i p=>RdEx (fun g=>base<=g) w i p.ex) (fun _=>rfl) h.q fun p f=>(h.qr p f).kept (Kept.refl (fun _=>False) w) (fun _ _ h=>h) (fun _ j=>j.1))
theorem Rd.forms(h:Rd base B G N w r a b c d e gs ts ps): ∃j i k m q o n p l g,a=vd j r.m.feats.length i/\b=vd k r.m.grps.length m/\c=vd q r.m.atts.length o/\d=vd n r.m.reqs.length p/\e=vd l r.m.lims.length g:=by
 obtain⟨j,i,k,m,q,o,n,p,l,g,f,-⟩:=RdMod.form h.mod;simp only [Value.agg.injEq,Array.mk.injEq,List.cons.injEq,and_true]at f;exact⟨j,i,k,m,q,o,n,p,l,g,f.1,f.2.1,f.2.2.1,f.2.2.2.1,f.2.2.2.2⟩
theorem Rd.free_not(h:Rd base B G N w r a b c d e gs ts ps){u:Value}(g:u∈[a,b,c,d,e]++ts.map Pa.v): ∀k,FreeOf base ([a,b,c,d,e]++ts.map Pa.v) k-> ¬(k=B\/u.ownBlock=some k):=by
 rintro k ⟨i,f⟩ (e|e)
 .have:=h.hB;omega
 .exact f u g e
theorem Rd.G_not(h:Rd base B G N w r a b c d e gs ts ps){T s n:Nat}{u:Value}{f:List Value}(g:w.ownsRow base T s u n f): ¬(G=B\/u.ownBlock=some G):=by
 rintro(e|e)
 .exact h.GB e
 .have:=(zY g e).1
  have:=h.hG
  omega
theorem Rd.feat(h:Rd base B G N w r a b c d e gs ts ps){j:Value}{x:xM}(l:Kept (fun k=>k=B\/a.ownBlock=some k) w w')(m:w'.heap[B]? =some (vk #[j,b,c,d,e,.map (some G)] 112 (0,0)))
 (E:w'.ownsRow base 76 3 j (r.m.feats.length+1) (r.m.feats.flatMap q41++q41 x)) (D:Grew w a j):Rd base B G N w' ⟨⟨r.m.feats++[x],r.m.grps,r.m.atts,r.m.reqs,r.m.lims⟩,r.given⟩ j b c d e gs ts ps:=by
 have f: ∀{T s n:Nat}{v:Value}{z:List Value},w.ownsRow base T s v n z->T≠76->w'.ownsRow base T s v n z:=fun g q=>uF l h.hB h.f g q;have A:=h.free_not (u:=a) (by simp);have y: ∀v∈[j,b,c,d,e]++ts.map Pa.v,∀k,v.ownBlock=some k->w.heap.size<=k\/ ∃u∈[a,b,c,d,e]++ts.map Pa.v,u.ownBlock=some k:=by
  intro v g k o;rw [zl]at g;rcases qI.1 g with rfl|g
  .rcases D with t|⟨H,t,C⟩
   .exact vv ⟨a,by simp,t▸o⟩
   .rw [t]at o;cases o;exact vu C
  .exact vv ⟨v,by rw [zl];exact yw _ g,o⟩
 exact⟨h.hB,h.hG,qH h.hb l.size,m,by rw [qn,zC];simpa using E,f h.g (by decide),h.ge,fun p i=>⟨ko l A y (h.gm p i).1,(h.gm p i).2⟩,f h.t (by decide),h.te,fun p i=>f (h.tv p i) (by decide),h.td,f h.q (by decide),h.qe,fun p i=>ua l A y (h.qr p i),f h.l (by decide),h.v.kept l (h.G_not h.f)⟩
end
end Go.Proofs.YtjcbmcnbdegpmaaGreatDoor
namespace Go.Proofs.YtjcbmcnbdegpmaaGreatDoor
open Go Go.RowKit Go.Proofs.Gen Go.Proofs.Mod
section
variable {base B G N:Nat}{w w':World}{r:RS}{a b c d e:Value}{gs:List Pg}{ts:List Pa}{ps:List Pe}
theorem uE{l l':List Value}(h: ∀v∈l',v∈l\/ ∃u∈l,Grew w u v): ∀v∈l',∀k,v.ownBlock=some k->w.heap.size<=k\/ ∃u∈l,u.ownBlock=some k:=by
 intro v m k f;rcases h v m with h|⟨u,j,g|⟨n,g,i⟩⟩
 .exact vv ⟨v,h,f⟩
 .exact vv ⟨u,j,g▸f⟩
 .rw [g]at f;cases f;exact vu i
theorem Rd.lim(h:Rd base B G N w r a b c d e gs ts ps){l:Value}{x:Lim}(j:Kept (fun k=>k=B∨e.ownBlock=some k) w w')(m:w'.heap[B]? =some (vk #[a,b,c,d,l,.map (some G)] 112 (0,0)))
 (A:w'.ownsRow base 89 3 l (r.m.lims.length+1) (r.m.lims.flatMap encLm++encLm x)) (z:Grew w e l):Rd base B G N w' ⟨⟨r.m.feats,r.m.grps,r.m.atts,r.m.reqs,r.m.lims++[x]⟩,r.given⟩ a b c d l gs ts ps:=by
 have f: ∀{T s n:Nat}{v:Value}{y:List Value},w.ownsRow base T s v n y→T≠89→w'.ownsRow base T s v n y:=fun g o=>uF j h.hB h.l g o;have t:=h.free_not (u:=e) (by simp);have q: ∀v∈[a,b,c,d,l]++ts.map Pa.v,∀k,v.ownBlock=some k→w.heap.size≤k∨ ∃u∈[a,b,c,d,e]++ts.map Pa.v,u.ownBlock=some k:=by
  refine uE fun v g=> ?_;simp only [zl,yV,qI]at g⊢;rcases g with rfl|rfl|rfl|rfl|rfl|g
  ·exact vu (vu rfl)
  ·exact vu (vv (vu rfl))
  ·exact vu (vv (vv (vu rfl)))
  ·exact vu (vv (vv (vv (vu rfl))))
  ·exact vv ⟨_,vv (vv (vv (vv (vu rfl)))),z⟩
  ·exact vu (vv (vv (vv (vv (vv (g))))))
 exact⟨h.hB,h.hG,qH h.hb j.size,m,f h.f (by decide),f h.g (by decide),h.ge,fun p i=>⟨ko j t q (h.gm p i).1,(h.gm p i).2⟩,f h.t (by decide),h.te,fun p i=>f (h.tv p i) (by decide),h.td,f h.q (by decide),h.qe,fun p i=>ua j t q (h.qr p i),by rw [qn,zC];simpa using A,h.v.kept j (h.G_not h.l)⟩
theorem Rd.att(h:Rd base B G N w r a b c d e gs ts ps){t:Value}{n:ByteArray}(x:Kept (fun k=>k=B∨c.ownBlock=some k) w w')(y:w'.heap[B]? =some (vk #[a,b,t,d,e,.map (some G)] 112 (0,0)))
 (O:w'.ownsRow base 81 2 t (ts.length+1) (ts.flatMap Ka++Ka ⟨⟨n,[]⟩,vd none 0 0⟩)) (M:Grew w c t):Rd base B G N w' ⟨⟨r.m.feats,r.m.grps,r.m.atts++[⟨n,[]⟩],r.m.reqs,r.m.lims⟩,r.given⟩ a b t d e gs (ts++[⟨⟨n,[]⟩,vd none 0 0⟩]) ps:=by
 have m: ∀{T s n:Nat}{v:Value}{E:List Value},w.ownsRow base T s v n E→T≠81→w'.ownsRow base T s v n E:=fun g A=>uF x h.hB h.t g A;have I:=h.free_not (u:=c) (by simp);have D: ∀v∈[a,b,t,d,e]++(ts++[(⟨⟨n,[]⟩,vd none 0 0⟩:Pa)]).map Pa.v,∀k,v.ownBlock=some k→w.heap.size≤k∨ ∃u∈[a,b,c,d,e]++ts.map Pa.v,u.ownBlock=some k:=by
  intro v g k H;rw [ze,←qS]at g;rcases qK.1 g with g|g
  ·refine uE (w:=w) (l:=[a,b,c,d,e]++ts.map Pa.v) (l':=[a,b,t,d,e]++ts.map Pa.v) (fun v g=> ?_) v g k H
   simp only [zl,yV,qI]at g⊢;rcases g with rfl|rfl|rfl|rfl|rfl|g
   ·exact vu (vu rfl)
   ·exact vu (vv (vu rfl))
   ·exact vv ⟨_,vv (vv (vu rfl)),M⟩
   ·exact vu (vv (vv (vv (vu rfl))))
   ·exact vu (vv (vv (vv (vv (vu rfl)))))
   ·exact vu (vv (vv (vv (vv (vv (g))))))
  ·simp only [List.map_cons,List.map_nil,qN]at g
   subst g
   cases H
 have C: ∀(i j:Nat)(p q:Pa)(k:Nat),(ts++[⟨⟨n,[]⟩,vd none 0 0⟩])[i]? =some p→(ts++[⟨⟨n,[]⟩,vd none 0 0⟩])[j]? =some q→p.v.ownBlock=some k→q.v.ownBlock=some k→i=j:=by
  have z: ∀(i:Nat)(p:Pa)(k:Nat),(ts++[⟨⟨n,[]⟩,vd none 0 0⟩])[i]? =some p→p.v.ownBlock=some k→ts[i]? =some p:=by
   intro i p k o f;by_cases K:i<ts.length
   ·rwa [List.getElem?_append_left K]at o
   ·rw [List.getElem?_append_right (by omega)]at o
    have P:i - ts.length=0:=by
     have:=(qm.1 o).1
     simp at this;omega
    rw [P]at o
    cases o
    cases f
  exact fun i j p q k o L f J=>h.td i j p q k (z i p k o f) (z j q k L J) f J
 exact⟨h.hB,h.hG,qH h.hb x.size,y,m h.f (by decide),m h.g (by decide),h.ge,fun p f=>⟨ko x I D (h.gm p f).1,(h.gm p f).2⟩,by rw [qn,zC];simpa using O,by rw [ze,h.te];rfl,fun p f=>by
  rcases qK.1 f with f|f
  ·exact m (h.tv p f) (by decide)
  ·rw [qN]at f
   subst f;exact qW _ _ _ _,C,m h.q (by decide),h.qe,fun p f=>ua x I D (h.qr p f),m h.l (by decide),h.v.kept x (h.G_not h.t)⟩
theorem Rd.req(h:Rd base B G N w r a b c d e gs ts ps){m:Value}{p:Pe}(g:Kept (fun k=>k=B∨d.ownBlock=some k) w w')(o:w'.heap[B]? =some (vk #[a,b,c,m,e,.map (some G)] 112 (0,0)))
 (C:w'.ownsRow base 84 3 m (ps.length+1) (ps.flatMap encP++encP p)) (A:Grew w d m) (j:RdEx (FreeOf base ([a,b,c,d,e]++ts.map Pa.v)) w (encP p) p.ex):Rd base B G N w' ⟨⟨r.m.feats,r.m.grps,r.m.atts,r.m.reqs++[p.ex],r.m.lims⟩,r.given⟩ a b c m e gs ts (ps++[p]):=by
 have f: ∀{T s n:Nat}{v:Value}{z:List Value},w.ownsRow base T s v n z→T≠84→w'.ownsRow base T s v n z:=fun i y=>uF g h.hB h.q i y;have x:=h.free_not (u:=d) (by simp);have t: ∀v∈[a,b,c,m,e]++ts.map Pa.v,∀k,v.ownBlock=some k→w.heap.size≤k∨ ∃u∈[a,b,c,d,e]++ts.map Pa.v,u.ownBlock=some k:=by
  refine uE fun v i=> ?_;simp only [zl,yV,qI]at i⊢;rcases i with rfl|rfl|rfl|rfl|rfl|i
  ·exact vu (vu rfl)
  ·exact vu (vv (vu rfl))
  ·exact vu (vv (vv (vu rfl)))
  ·exact vv ⟨_,vv (vv (vv (vu rfl))),A⟩
  ·exact vu (vv (vv (vv (vv (vu rfl)))))
  ·exact vu (vv (vv (vv (vv (vv (i))))))
 exact⟨h.hB,h.hG,qH h.hb g.size,o,f h.f (by decide),f h.g (by decide),h.ge,fun p j=>⟨ko g x t (h.gm p j).1,(h.gm p j).2⟩,f h.t (by decide),h.te,fun p j=>f (h.tv p j) (by decide),h.td,by rw [qn,zC];simpa using C,by rw [ze,h.qe];rfl,fun q l=>by
  rcases qK.1 l with l|l
  ·exact ua g x t (h.qr q l)
  ·rw [qN]at l
   subst l;exact ua g x t j,f h.l (by decide),h.v.kept g (h.G_not h.q)⟩
theorem Rd.grp(h:Rd base B G N w r a b c d e gs ts ps){m:Value}{p:Pg}(i:Kept (fun k=>k=B∨b.ownBlock=some k) w w')(o:w'.heap[B]? =some (vk #[a,m,c,d,e,.map (some G)] 112 (0,0)))
 (D:w'.ownsRow base 78 4 m (gs.length+1) (gs.flatMap q6U++q6U p)) (C:Grew w b m) (l:RdL (FreeOf base ([a,b,c,d,e]++ts.map Pa.v)) 1 RdI w p.v p.g.members) (A:WfS p.v):Rd base B G N w' ⟨⟨r.m.feats,r.m.grps++[p.g],r.m.atts,r.m.reqs,r.m.lims⟩,r.given⟩ a m c d e (gs++[p]) ts ps:=by
 have f: ∀{T s n:Nat}{v:Value}{z:List Value},w.ownsRow base T s v n z→T≠78→w'.ownsRow base T s v n z:=fun j x=>uF i h.hB h.g j x;have y:=h.free_not (u:=b) (by simp);have t: ∀v∈[a,m,c,d,e]++ts.map Pa.v,∀k,v.ownBlock=some k→w.heap.size≤k∨ ∃u∈[a,b,c,d,e]++ts.map Pa.v,u.ownBlock=some k:=by
  refine uE fun v j=> ?_;simp only [zl,yV,qI]at j⊢;rcases j with rfl|rfl|rfl|rfl|rfl|j
  ·exact vu (vu rfl)
  ·exact vv ⟨_,vv (vu rfl),C⟩
  ·exact vu (vv (vv (vu rfl)))
  ·exact vu (vv (vv (vv (vu rfl))))
  ·exact vu (vv (vv (vv (vv (vu rfl)))))
  ·exact vu (vv (vv (vv (vv (vv (j))))))
 exact⟨h.hB,h.hG,qH h.hb i.size,o,f h.f (by decide),by rw [qn,zC];simpa using D,by rw [ze,h.ge];rfl,fun q g=>by
  rcases qK.1 g with g|g
  ·exact⟨ko i y t (h.gm q g).1,(h.gm q g).2⟩
  ·rw [qN]at g
   subst g;exact⟨ko i y t l,A⟩,f h.t (by decide),h.te,fun p l=>f (h.tv p l) (by decide),h.td,f h.q (by decide),h.qe,fun p l=>ua i y t (h.qr p l),f h.l (by decide),h.v.kept i (h.G_not h.g)⟩
end
end Go.Proofs.YtjcbmcnbdegpmaaGreatDoor
namespace Go.Proofs.Mod
open Go Go.Proofs.YtjcbmcnbdegpmaaGreatDoor
theorem Q1{k:Nat}(h:k<10):(UInt8.ofNat (48+k)).toNat=48+k:=by
 rw [UInt8.toNat_ofNat'];exact Nat.mod_eq_of_lt (by omega)
theorem Qu: ∀(f u:Nat),∀b∈decN f u,48<=b.toNat/\b.toNat<=57
 |0,_,b,h=>by simp [decN]at h
 |f+1,u,b,h=>by
  rw [decN]at h;split at h
  .rw [qN]at h
   subst h;rw [Q1 (by assumption)];omega
  .rcases qK.1 h with h|h
   .exact Qu f _ b h
   .rw [qN]at h
    subst h;rw [Q1 (Nat.mod_lt _ (by decide))];omega
theorem q28(f u:Nat):decN (f+1) u≠[]:=by
 rw [decN];split<;>simp
theorem q0W{M a:Nat}{d:UInt8}(e:48<=d.toNat/\d.toNat<=57)(i:a<1844674407370955162)(k:a*10+(d.toNat - 48)<=M):
 ∀{l:List UInt8}{b:Nat},j6 M b l= .ok a->j6 M b (l++[d])= .ok (a*10+(d.toNat - 48))
 |[],b,h=>by
  obtain rfl:b=a:=by rw [j6]at h;exact Go.Lib.NumEnd.ok.inj h
  rw [yV,j6,if_pos e,if_neg (by omega),if_neg (by omega),j6]
 |c::l,b,h=>by
  rw [j6]at h;rw [zl,j6];split at h
  .split at h
   .cases h
   .split at h
    .cases h
    .rename_i f g j
     rw [if_pos f,if_neg g,if_neg j];exact q0W e i k h
  .cases h
theorem q0X{M:Nat}: ∀(f u:Nat),1<=f->u<10^f->u<=M->u<=9223372036854775808->j6 M 0 (decN f u)= .ok u
 |f+1,u,_,c,j,h=>by
  rw [decN];split
  .rename_i b
   have:=Q1 b
   rw [j6,if_pos (by omega),if_neg (by decide),if_neg (by omega),j6];congr 1;omega
  .rename_i b
   have i:=Q1 (Nat.mod_lt u (by decide:0<10));have e:1<=f:=by
    cases f with
    |zero=>simp at c;omega
    |succ f=>omega
   have g:=q0X (M:=M) f (u/10) e (by rw [jn]at c;omega) (by omega) (by omega);rw [q0W (a:=u/10) (d:=UInt8.ofNat (48+u%10)) (by omega) (by omega) (by omega) g];congr 1;omega
theorem q3I{u:Nat}(h:u<=9223372036854775808):u<10^20:=by
 have:(10:Nat)^20=100000000000000000000:=by decide
 omega
theorem Ja{v:Int}(i: -9223372036854775808<=v)(j:v<=9223372036854775807):numB (toB (yY v))=some v:=by
 have g:Go.Lib.parseIntB 64 (yY v)= .ok v:=by
  have f: ∀u:Nat,decN 20 u≠[]:=fun u=>q28 19 u;unfold yY;split
  .rename_i h
   rw [Go.Lib.parseIntB];simp only [show(45:UInt8).toNat=45 from rfl,or_true,if_true];have d:=q0X (M:=2^64 - 1) 20 v.natAbs (by decide) (q3I (by omega)) (by omega) (by omega);rw [Go.Lib.parseUintB,if_neg (f _),d];simp only [not_true_eq_false,false_and,if_false,true_and];rw [if_neg (by omega)];congr 1;omega
  .rename_i h
   have d:=q0X (M:=2^64 - 1) 20 v.toNat (by decide) (q3I (by omega)) (by omega) (by omega);have a:=f v.toNat;have b:=Qu 20 v.toNat;generalize decN 20 v.toNat=l at d a b
   cases l with
   |nil=>exact absurd rfl a
   |cons c r=>
    have k:=b c (by simp);rw [Go.Lib.parseIntB];rw [if_neg (by omega),Go.Lib.parseUintB,if_neg a,d];show(if¬c.toNat=45/\2^ (64 - 1)<=v.toNat then Go.Lib.NumEnd.range else _)=_;rw [if_neg (by omega),if_neg (by omega),if_neg (by omega)];congr 1;omega
 unfold numB;have e:(toB (yY v)).data.toList=yY v:=by simp [toB]
 rw [e,g];simp
theorem Qt: ∀(f u:Nat),1<=f->u<10^f->Go.Lib.decDigits u=decN f u
 |f+1,u,_,a=>by
  rw [Go.Lib.decDigits,decN];split
  .rfl
  .rename_i h
   have b:1<=f:=by
    cases f with
    |zero=>simp at a;omega
    |succ f=>omega
   rw [Qt f (u/10) b (by rw [jn]at a;omega)]
theorem Jn{n:Int}(a: -9223372036854775808<=n)(b:n<=9223372036854775807):Go.Lib.itoa n=yY n:=by
 unfold Go.Lib.itoa yY;split
 .rw [Qt 20 _ (by decide) (q3I (by omega))]
 .rw [Qt 20 _ (by decide) (q3I (by omega))]
end Go.Proofs.Mod
namespace Go.Proofs.YtjcbmcnbdegpmaaGreatDoor
open Go Go.RowKit Go.Proofs.Gen Go.Proofs.Mod
def Wb(B b:Nat)(w:World)(k:Nat):Prop:=B<=k/\(k=b\/ ∃c fz,w.heap[k]? =some (.cells c 5 fz))
def Wr(B b:Nat)(w w':World):Prop:=Kept (Wb B b w) w w'
section
variable {B b:Nat}{u v w:World}
theorem Wr.refl(B b:Nat)(w:World):Wr B b w w:=Kept.refl _ _
theorem Wr.trans(h:Wr B b u v)(k:Wr B b v w):Wr B b u w:=
 ⟨k.os.trans h.os,k.tape.trans h.tape,k.output.trans h.output,qH h.size k.size,fun i f g=>by
   have a:=h.block i f g;refine(k.block i (Nat.lt_of_lt_of_le f h.size) fun d=>g ⟨d.1,d.2.imp id fun⟨c,j,e⟩=>⟨c,j,a.symm.trans e⟩⟩).trans a⟩
theorem Near.wr(h:Near u v):Wr B b u v:=h.kept
theorem Wr.drew(h:Wr B b u v):Wr B b u v.drew:=Kept.drew h
theorem Wr.kept(h:Wr B b u v):Kept (fun k=>B<=k) u v:=Kept.mono h fun _ _ h=>h.1
theorem Wr.obj(h:Wr B b u v){k:Nat}{o:Obj}(d:u.heap[k]? =some o)(f: ∀c a,o≠vk c 5 a)(g:k≠b):v.heap[k]? =some o:=
 qQ h d fun⟨_,h⟩=>h.elim g fun⟨c,a,e⟩=>by rw [d]at e;cases e;exact f _ _ rfl
theorem Wr.cells(h:Wr B b u v){k t:Nat}{cs:Array Value}{a:Nat×Nat}(f:u.heap[k]? =some (vk cs t a))(c:t≠5)(d:k≠b):v.heap[k]? =some (vk cs t a):=
 h.obj f (fun _ _ e=>by cases e;exact c rfl) d
theorem Wr.owns(h:Wr B b u v){base e a n:Nat}{x:Value}{g:List Value}(d:u.ownsRow base e a x n g)(o:e≠5)(j:x.ownBlock≠some b):v.ownsRow base e a x n g:=
 owns_kept d h fun k f l=>by
  rcases l.2 with rfl|⟨c,q,i⟩
  .exact j f
  .obtain⟨-,m,r,p⟩:=zY d f
   rw [p]at i
   cases i;exact o rfl
theorem q6V(h:Below B u v)(k:Lib.OthersKept 5 (some b) u v):Wr B b u v:=
 ⟨h.os,h.tape,h.output,h.size,fun i j d=>by
   by_cases g:i<B
   .exact h.block i g
   .obtain⟨o,a⟩: ∃o,u.heap[i]? =some o:=⟨_,Array.getElem?_eq_getElem j⟩
    rw [a];exact k i o a (fun e=>d ⟨by omega,vu (zm e)⟩) fun c f e=>d ⟨by omega,vv ⟨c,f,by rw [a,e]⟩⟩⟩
def Bld(B b:Nat)(w:World)(l:List UInt8):Prop:=Lib.IsBuilderF 95 5 B b (Lib.byteCells l) w/\B<=w.heap.size
theorem Bld.near{l:List UInt8}(h:Bld B b u l)(m:Near u v):Bld B b v l:=by
 have d: ∀{p:Value},Lib.BuilderAtF 95 5 B b p (Lib.byteCells l) u->Lib.BuilderAtF 95 5 B b p (Lib.byteCells l) v:=by
  rintro p ⟨q,x,i,a,f⟩;refine⟨q,x,qE m i,⟨a.1,a.2.imp id ?_⟩,f⟩;rintro⟨g,j,k,o,e,n,i,c⟩;exact⟨g,j,k,o,e,n,qE m i,c⟩
 exact⟨h.1.imp d d,qH h.2 m.size⟩
theorem Bld.fresh(c:B<=b)(a:B<=u.heap.size)(d:u.heap[b]? =some (vk #[vg none,vd none 0 0] 95 (0,0))):Bld B b u []:=
 ⟨vu ⟨c,_,d,World.ownsRowF_nil _ _ _ _,by simp [Value.ownBlock]⟩,a⟩
end
theorem bld_extra:Builder.Extra qj xG where
 sizeBuilder:=by kernel_rfl
 liesBuilder:=by kernel_rfl
 t5:=Tryz.underlying5
 a5:=Tryz.isAgg5
 z5:=Tryz.sizeOf5
 v5:=fun _=>by kernel_rfl
 infoByte:=by kernel_rfl
 cellsByte:=by kernel_rfl
 sizeByte:=by kernel_rfl
 neB5:=by decide
theorem write_calls{B b:Nat}{w:World}{l:List UInt8}(h:Bld B b w l){s:ByteArray}(hl:l.length+s.size<=140737488355328):
 Calls qj 44 #[vg b,vf s] w fun e w'=>e=vm (.tuple #[ve vp s.size,.nilIface])/\Bld B b w' (l++s.data.toList)/\Wr B b w w':=by
 refine(Any.Builder_WriteString_k (ρ:=xG) {Jj with} bld_extra B b _ s w h.1 (by rw [Lib.byteCells_length];exact hl) h.2).mono ?_;rintro e w' ⟨rfl,h1,h2,h3⟩;exact⟨rfl,⟨vv (by rw [Lib.byteCells_append];exact h1),qH h.2 h2.size⟩,q6V h2 h3⟩
theorem text_calls{B b:Nat}{w:World}{l:List UInt8}(h:Bld B b w l):
 Calls qj 50 #[vg b] w fun e w'=>e=vm (vf (toB l))/\Bld B b w' l/\Wr B b w w':=by
 refine(Any.Builder_String_any_k (ρ:=xG) {Jj with} bld_extra B b l w h.1 h.2).mono ?_;rintro e w' ⟨rfl,h1,h2,h3⟩;exact⟨rfl,⟨h1,qH h.2 h2.size⟩,q6V h2 h3⟩
theorem ZB{S:Nat->Prop}{w:World}{v:Value}{ws:List ByteArray}(h:RdL S 1 RdS w v ws)(hw:WfS v)(hn:ws.length<=140737488355328)(hlen:(Lib.join (ws.map (·.data.toList)) [32]).length<=140737488355328):
 Calls qj 45 #[v,vf ⟨#[32]⟩] w fun e w'=>e=vm (vf (toB (Lib.join (ws.map (·.data.toList)) [32])))/\Near w w':=by
 obtain⟨ao,cap,rfl,hc⟩:=h
 cases ws with
 |nil=>
  refine(Any.strings_Join_none (ρ:=xG) Jj bld_extra ao cap ⟨#[32]⟩ w).mono ?_;rintro e w' ⟨rfl,rfl⟩;exact⟨rfl,Near.refl _⟩
 |cons x r=>
  obtain⟨g,o,vs,rfl,-,h3,h4⟩:=hc 0 x rfl;have hcell: ∀(j:Nat) y,(x::r)[j]? =some y->w.cell? (vw g (o+j))=some (vf y):=fun j y hy=>by
   obtain⟨g',o',vs',e,-,h5,h6⟩:=hc j y hy
   cases e
   have:=h5 0 (vf y) (by rw [h6];rfl)
   simpa using this
  refine(Any.strings_Join (ρ:=xG) Jj bld_extra g o cap (x::r) ⟨#[32]⟩ w hcell (qM _ _ (hcell 0 x rfl)) hn (hw _ _ _ rfl).1 hlen).mono ?_;rintro e w' ⟨rfl,hb⟩;exact⟨rfl,Near.of_below hb⟩
end Go.Proofs.YtjcbmcnbdegpmaaGreatDoor
namespace Go.Proofs.Mod
open Go Go.Proofs.YtjcbmcnbdegpmaaGreatDoor
variable{e:Ex}{k o:Nat}{l:List Ex}
def q0B(o i:Nat):List UInt8:=if i=0 then []else 32::(signT o i++[32])
def q2v(o i:Nat):List Nat:=if o=4 then []else bareL o i
def wB(o i:Nat)(e:Ex):List UInt8:=q0B o i++wrapT (bareB (q2v o i) e.op) (putE e)
theorem jA(o i:Nat)(e:Ex)(l:List Ex):putKids o i (e::l)=wB o i e++putKids o (i+1) l:=by
 simp only [putKids,wB,q0B,q2v,qS]
theorem wP(o:Nat): ∀(a:List Ex)(i:Nat)(c:List Ex),putKids o i (a++c)=putKids o i a++putKids o (i+a.length) c
 |[],i,c=>by simp [putKids]
 |e::a,i,c=>by
  rw [zl,jA,jA,wP o a (i+1) c,qS,qT,show i+1+a.length=i+(a.length+1) by omega]
theorem QD(h:l[k]? =some e):putKids o 0 (l.take (k+1))=putKids o 0 (l.take k)++wB o k e:=by
 have a:=(qm.1 h).1;rw [qU,h,Option.toList_some,wP,jA,List.length_take,Nat.min_eq_left (by omega),Nat.zero_add];simp [putKids]
theorem Ys(o:Nat)(l:List Ex)(k:Nat):(putKids o 0 (l.take k)).length<=(putKids o 0 l).length:=by
 have h:=wP o (l.take k) 0 (l.drop k);rw [List.take_append_drop]at h;rw [h,qn];omega
theorem q3v(h:l[k]? =some e):(putKids o 0 (l.take k)).length+(wB o k e).length<=(putKids o 0 l).length:=by
 have:=Ys o l (k+1)
 rw [QD h,qn]at this;exact this
theorem q11{i:Nat}(h:0<i):0<(wB o i e).length:=by
 unfold wB q0B;rw [if_neg (by omega)];simp
theorem q8z(o:Nat)(l:List Ex):l.length<=(putKids o 0 l).length+1:=by
 have a: ∀(l:List Ex)(i:Nat),0<i->l.length<=(putKids o i l).length:=by
  intro l;induction l with
  |nil=>intro i h;simp
  |cons e l b=>
   intro i h;have c:=q11 (o:=o) (e:=e) h;have d:=b (i+1) (by omega);rw [jA,qn,qT];omega
 cases l with
 |nil=>simp
 |cons e l=>
  have:=a l (0+1) (by omega)
  rw [jA,qn,qT];omega
theorem q50(b:Bool)(t:List UInt8):(wrapT b t).length<=t.length+2/\t.length<=(wrapT b t).length:=by
 cases b
 .simp [wrapT];omega
 .simp [wrapT]
theorem KR(o i:Nat):(signT o i).length<=3:=by
 unfold signT
 repeat' split
 all_goals decide
mutual
theorem q0V: ∀(e:Ex),(e.row.all fun x=>decide (x.name.size<=32))=true->(putE e).length+7<=40*e.size
 | .mk o n l,h=>by
  rw [Ex.row,List.all_cons,qy,decide_eq_true_eq]at h;obtain⟨h1,h2⟩:=h;replace h1:n.size<=32:=h1;have hk:=fun o i=>Zo o i l h2;rw [putE,Ex.size];split
  .simp;omega
  .split
   .simp;omega
   .split
    .have e:n.data.toList.length=n.size:=Array.length_toList
     omega
    .split
     .have:=hk 4 0
      simp only [qT];omega
     .have:=hk o 0
      omega
theorem Zo: ∀(o i:Nat)(l:List Ex),((Ex.rows l).all fun x=>decide (x.name.size<=32))=true->(putKids o i l).length<=40*Ex.sizes l
 |o,i,[],_=>by simp [putKids]
 |o,i,e::l,h=>by
  rw [Ex.rows,List.all_append,qy]at h;have a:=q0V e h.1;have b:=Zo o (i+1) l h.2;have d:=(q50 (bareB (q2v o i) e.op) (putE e)).1;have c:=KR o i;have f:(q0B o i).length<=5:=by
   unfold q0B;split
   .simp
   .simp;omega
  rw [jA,wB,qn,qn,Ex.sizes];omega
end
end Go.Proofs.Mod
namespace Go.Proofs.YtjcbmcnbdegpmaaGreatDoor
open Go Go.RowKit Go.Proofs.Gen Go.Proofs.Mod
variable{l:List Ex}
theorem q1p(l:List Ex)(x:Ex):Ex.most (l++[x])=max (Ex.most l) x.levels:=by
 induction l with
 |nil=>simp [Ex.most]
 |cons y l a=>simp only [zl,Ex.most,a];omega
theorem Vv: ∀e:Ex,e.levels<=e.size:=by
 refine Ex.ind fun o n l f=> ?_;have c: ∀a:List Ex,(∀k∈a,k.levels<=k.size)->Ex.most a<=Ex.sizes a:=by
  intro a;induction a with
  |nil=>intro _;simp [Ex.most]
  |cons k a b=>
   intro h;have g:=h k (List.mem_cons_self ..);have i:=b fun x d=>h x (yw _ d);simp only [Ex.most,Ex.sizes];omega
 have:=c l f
 simp only [Ex.levels,Ex.size];omega
theorem q1o{k:Nat}{x:Ex}(h:l[k]? =some x):Ex.most (l.take (k+1))=max (Ex.most (l.take k)) x.levels:=by
 rw [qU,h];exact q1p _ _
theorem most_le(k:Nat):Ex.most (l.take k)<=Ex.sizes l:=by
 induction l generalizing k with
 |nil=>simp [Ex.most]
 |cons y l a=>
  cases k with
  |zero=>simp [Ex.most]
  |succ k=>
   have:=a k
   have:=Vv y
   simp only [List.take_succ_cons,Ex.most,Ex.sizes];omega
theorem J3: ∀{x:Ex}{S:Nat→Prop}{w:World}{vs:List Value},RdEx S w vs x→x.size<1099511627776→
 Calls qj 172 #[vi vs.toArray] w fun e K=>e=vm (ve vp (x.levels:Nat))∧Near w K:=by
 intro x;induction x using Ex.ind with
 |h A t c Q=>
 intro S w vs R g;obtain⟨sv,rfl,G⟩:=R.inv;obtain⟨D,E,rfl⟩:=G.form;have ad:c.length<1099511627776:=by
  have:c.length≤Ex.sizes c:=by
   clear Q R G g;induction c with
   |nil=>simp
   |cons k l af=>
    have:=Ex.size_pos k
    simp only [qT,Ex.sizes];omega
  simp only [Ex.size]at g;omega
 have M:=q8 (fun k=>(most_le (l:=c) k));have ah:Ex.sizes c<1099511627776:=by simp only [Ex.size]at g;omega
 have HS:=q8 G;have P:=q8 (fun(k:Ex)(N:k∈c)(K:World)(vs:List Value)(hn:Near w K)(h:RdEx S w vs k)=>Q k N (h.kept hn (fun _ _ h=>h) (fun _ h=>h)) (by have:=Ex.sizes_mem N;omega));have HL:=q8 (show(Ex.mk A t c).levels=Ex.most c+1 by rw [Ex.levels]);generalize(Ex.mk A t c).levels=r at HL⊢;have hW: ∀W,W=w.alloc (vk #[ve vq A,vf t,vd D c.length E] 84)→Near w W∧W.heap[w.heap.size]? =some (vk #[ve vq A,vf t,vd D c.length E] 84 (0,0)):=by
  rintro W rfl;exact⟨(Near.refl w).alloc _,heap_new_at rfl⟩
 clear R G g Q;go_enter Tryz.func172,Tryz.ntmps172;go_upto_region 1 with fail
 have h0:=hW _ rfl;generalize w.alloc (vk #[ve vq A,vf t,vd D c.length E] 84)=W at h0⊢;have⟨Z,Y⟩:=h0;have v:=q8 Z;have HE:=q8 Y;clear hW Z Y;go_wp2_with fail
 go_loopw [3,4] (fun n U wr=> ∃k a:Nat,k≤c.length∧U=ve vp k∧n=ve vp a∧a=Ex.most (c.take k)∧Near W wr) (fun _ U _=>c.length - (intOf U).toNat)
 case atStart=>exact⟨0,0,qv _,rfl,rfl,rfl,Near.refl _⟩
 case round=>
  obtain⟨k,a,N,rfl,rfl,L,m⟩:=hrel;have HA:=q8 L;have ae:a≤Ex.sizes c:=by rw [L];exact M k
  have f:=q8 m;have c2:wr.cell? (vw w.heap.size 2)=some (vd D c.length E):=cell1 (qE m HE) rfl;clear L m;by_cases j:k<c.length
  ·have aa:(k:Int)<c.length:=by omega
   obtain⟨y,C⟩: ∃y,c[k]? =some y:=⟨_,qi j⟩;have⟨ag,ab,e,hc⟩:=HS.out;obtain⟨b,o,vs,I,-,d,p⟩:=hc k y C;simp only [qq,true_and]at e;obtain⟨rfl,rfl⟩:=e;subst I;have X:=q8 (P y (List.mem_of_getElem? C) wr vs (v.trans f) p);have O:=q8 (show Ex.most (c.take (k+1))=max a y.levels by rw [q1o C,HA.out]);have⟨yo,yn,yk⟩:=y;obtain⟨ys,rfl,z⟩:=p.inv;obtain⟨J,V,rfl⟩:=z.form;have y0:wr.cell? (vw b (o+k*3))=some (ve vq yo):=(v.trans f).cell (d 0 _ rfl);have y1:wr.cell? (vw b (o+k*3+1))=some (vf yn):=(v.trans f).cell (d 1 _ rfl);have y2:wr.cell? (vw b (o+k*3+2))=some (vd J yk.length V):=(v.trans f).cell (d 2 _ rfl);generalize(Ex.mk yo yn yk).levels=u at X O;clear hc d p z C;by_cases q:a≤u
   ·have B:(a:Int)≤u:=by omega
    have i:=q8 (show u=Ex.most (c.take (k+1)) by rw [O.out,Nat.max_eq_right q]);clear q;go_wp2_with (go_at_call 172;refine X.mono ?_;rintro e w1 ⟨rfl,s⟩;have H:=q8 s;clear s)
    exact⟨⟨k+1,u,j,by go_num,by first|rfl|(congr 1;omega),i,f.trans H⟩,by simp [intOf];omega⟩
   ·have B: ¬(a:Int)≤u:=by omega
    have i:=q8 (show a=Ex.most (c.take (k+1)) by rw [O.out,Nat.max_eq_left (by omega)]);clear q;go_wp2_with (go_at_call 172;refine X.mono ?_;rintro e w1 ⟨rfl,s⟩;have H:=q8 s;clear s)
    exact⟨⟨k+1,a,j,by go_num,by first|rfl|(congr 1;omega),i,f.trans H⟩,by simp [intOf];omega⟩
  ·obtain rfl:k=c.length:=by omega
   go_wp2_with fail
   go_ret;exact⟨by rw [HL.out,←qF (l:=c),←HA.out];rfl,v.trans f⟩
theorem QB{S:Nat→Prop}{w:World}{v:Value}{m:Mod}(h:RdMod S w v m)(hl:m.feats.length<1099511627776):Calls qj 27 #[v] w fun e U=> ∃V,e=vm V∧U.ownsRow w.heap.size 9 1 V m.names.length (m.names.map vf)∧Near w U:=by
 obtain⟨q,l,A,u,z,r,B,y,t,s,rfl,hF,-⟩:=RdMod.form h;have L:m.names.length=m.feats.length:=by simp [Mod.names]
 have⟨i9,E,I,M,P⟩:=info_parts XD;have Q:Near w (w.alloc (vk #[vd q m.feats.length l,vd A m.grps.length u,vd z m.atts.length r,vd B m.reqs.length y,vd t m.lims.length s] 28)):=(Near.refl w).alloc _;have Y:(w.alloc (vk #[vd q m.feats.length l,vd A m.grps.length u,vd z m.atts.length r,vd B m.reqs.length y,vd t m.lims.length s] 28)).heap[w.heap.size]? =some (vk #[vd q m.feats.length l,vd A m.grps.length u,vd z m.atts.length r,vd B m.reqs.length y,vd t m.lims.length s] 28 (0,0)):=heap_new_at rfl;have Z:=q8 hF;have p:=q8 L;have f: ∀(k:Nat)(x:xM),m.feats[k]? =some x→(m.names.take (k+1))=m.names.take k++[x.name]:=fun k x C=>by
  rw [qU];simp [Mod.names,C]
 have G:=q8 f;go_enter Tryz.func27,Tryz.ntmps27;go_upto_region 2 with fail
 generalize w.alloc (vk #[vd q m.feats.length l,vd A m.grps.length u,vd z m.atts.length r,vd B m.reqs.length y,vd t m.lims.length s] 28)=W at Q Y⊢;have O:=q8 Q;have HA:=q8 Y;go_wp2_with fail
 go_loopw [3,4] (fun v i wr=> ∃k:Nat,k≤m.feats.length∧i=ve vp k∧wr.ownsRow W.heap.size 9 1 v k ((m.names.take k).map vf)∧Near W wr) (fun _ i _=>m.feats.length - (intOf i).toNat)
 case atStart=>exact⟨0,qv _,rfl,qW _ _ _ _,Near.refl _⟩
 case round=>
  obtain⟨k,hk,rfl,c,n⟩:=hrel;obtain⟨vo,vc,rfl⟩:=qR c;have K:=q8 c;have a:=q8 n;have q0:wr.cell? w.heap.size=some (vd q m.feats.length l):=cell1 (qE n HA) rfl;by_cases d:k<m.feats.length
  ·have R:(k:Int)<m.feats.length:=by omega
   obtain⟨x,C⟩: ∃x,m.feats[k]? =some x:=⟨_,qi d⟩;have⟨aa,X,e,hc⟩:=Z.out;obtain⟨b,o,vs,D,-,j,hv⟩:=hc k x C;obtain rfl:vs=[vf x.name,ve vp x.parent,ve vq x.kind]:=hv;simp only [qq,true_and]at e;obtain⟨rfl,rfl⟩:=e;subst D;have d0:w.cell? (vw b (o+k*3))=some (vf x.name):=j 0 _ rfl;have g0:=(O.trans a).cell d0;have HX:=q8 C;go_wp2_with (at_builtin;go_must (refine wpList_append_more rfl (.tmp 12) (.tmp 19) 68 rfl W.heap.size 9 i9 (vf ByteArray.empty) 1 16 Tryz.underlying68 E I M P rfl (by decide) (vd vo k vc) k ((m.names.take k).map vf) rfl (K.alloc _) _ 1 [vf x.name] rfl ⟨rfl,vv ⟨_,1,rfl,cell_one_at (by simp) _ _⟩⟩ (by simp [Value.oneCell']) (by unfold maxLen;omega) (by omega) (by have:=a.size;simp;omega) ?_);intro b3 c3 w3 g H;have N:=q8 g;have J:=q8 (Kept.grown (a.alloc _) H (fun k e d=>by have:=(zY K e).1;omega):Near W w3))
   exact⟨⟨k+1,d,by go_num,by rw [G.out k x HX,ze];exact N,J⟩,by simp [intOf];omega⟩
  ·obtain rfl:k=m.feats.length:=by omega
   go_wp2_with fail
   go_ret;refine⟨_,rfl,?_,O.trans a⟩
   have:=K.out
   rw [←p.out,qF]at this;rw [p.out]at this⊢;exact yZ this O.size
end Go.Proofs.YtjcbmcnbdegpmaaGreatDoor
