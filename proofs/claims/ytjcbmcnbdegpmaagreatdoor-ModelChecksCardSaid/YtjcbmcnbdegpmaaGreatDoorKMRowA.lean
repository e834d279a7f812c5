/- MTame, MAct, MLib, MPad, MPadW, MRowA. -/
import Derived.Test.YtjcbmcnbdegpmaaGreatDoorTie
import Derived.HandedShaped
import Derived.Shelf.Vars
import Derived.Lib.LaidTab
import Derived.Lib.LaidU8
import Derived.Stop.LaidErr
import Derived.Lay
import Derived.SevenTiedAt
import Derived.Test.YtjcbmcnbdegpmaaGreatDoorKMValue
import Derived.Test.YtjcbmcnbdegpmaaGreatDoorKMPrW
set_option maxRecDepth 100000
set_option maxHeartbeats 12800000
set_option linter.unusedVariables false
set_option linter.unusedSimpArgs false
open Go.DataW renaming trod->yK
open Go.MakeChecks renaming laidMetH_plain->gw
open Go.OpenSpec renaming ofChange->jy
open Go.Proofs.Mod.Grp renaming members->yq
open Go.Proofs.Tryz renaming prog->qj
open Go.Value renaming slice->qw
open Go.Value.slice renaming injEq->qq
open List renaming getElem?_eq_some_iff->qm,length_append->qn,length_map->qG,map_append->ze,mem_append->qK,mem_cons->qI,mem_map->yH,mem_of_getElem?->qp,mem_singleton->qN,replicate->zk
open Nat renaming sub_self->xz,zero_le->qv
open Option.some renaming inj->zm
open Go.Value renaming slice->vd,int->ve,string->vf,pointer->vg,agg->vi,bool->vj
open Go.Obj renaming cells->vk
open Go.Ending renaming returned->vm
open Go.IntKind renaming i64->vp,u8->vq,u32->vr,u64->vt
open Or renaming inl->vu,inr->vv
namespace Go.Proofs.YtjcbmcnbdegpmaaGreatDoor
open Go Go.RowKit Go.Proofs.Gen Go.Proofs.Mod
variable{B G N base j n:Nat}{S:Nat->Prop}{l:List Att}{r:RS}{s:ByteArray}{w:World}
structure ZX(m:Mod):Prop where
 feats:m.feats.length<=24
 grps:m.grps.length<=24
 atts:m.atts.length<=8
 vals: ∀a∈m.atts,a.values.length<=24
 reqs:m.reqs.length<=64
 lims:m.lims.length<=16
 sum:(m.grps.flatMap yq).length<=m.grps.length*4194304
 exs: ∀x∈m.reqs,validB x=true
 kinds: ∀f∈m.feats,f.kind<256
 short: ∀a∈m.atts,a.values.length<=m.feats.length
theorem q0o:ZX noM:=⟨by decide,by decide,by decide,(fun a h=>nomatch h),by decide,by decide,by decide,(fun a h=>nomatch h),(fun a h=>nomatch h),(fun a h=>nomatch h)⟩
theorem ZX.adds(h:ZX r.m)(f:xM)(d:f.kind<256):ZX (addsL r f).2.m:=by
 unfold addsL;split
 .split
  .exact h
  .rename_i c
   have:=h.feats
   refine⟨by simp;omega,h.grps,h.atts,h.vals,h.reqs,h.lims,h.sum,h.exs,fun x b=> ?_,fun a e=>by have:=h.short a e;simp;omega⟩;rcases qK.1 b with b|b
   .exact h.kinds x b
   .rw [qN.1 b];exact d
 .exact h
theorem q6d(s:ByteArray):kindW s<256:=by
 unfold kindW
 repeat' split
 all_goals decide
theorem ZX.root(h:ZX r.m)(a:List ByteArray):ZX (rootL r a).2.m:=by
 unfold rootL;split
 .split
  .exact h.adds _ (show 1<256 by decide)
  .exact h
 .exact h
theorem ZX.child(h:ZX r.m)(a:List ByteArray):ZX (childL r a).2.m:=by
 unfold childL;split
 .split
  .exact h
  .split
   .exact h.adds _ (q6d _)
   .exact h
 .exact h
theorem ZX.group(h:ZX r.m){a:List ByteArray}(l:a.length<=4194304):ZX (groupL r a).2.m:=by
 unfold groupL;split
 .split
  .split
   .split
    .split
     .exact h
     .rename_i d c k f i e b
      have j:=h.grps;have g:=h.sum;refine⟨h.feats,by simp;omega,h.atts,h.vals,h.reqs,h.lims,?_,h.exs,h.kinds,h.short⟩;rw [List.flatMap_append,qn,qn]
      have:([wu r.m a d c].flatMap yq).length<=4194304:=by
       simp [wu];omega
      simp only [List.length_singleton];rw [Nat.add_mul];omega
    .exact h
   .exact h
  .exact h
 .exact h
theorem ZX.added(h:ZX r.m)(c:List ByteArray):ZX (addedL r c).2.m:=by
 unfold addedL;split
 .split
  .split
   .exact h
   .have:=h.atts
    refine⟨h.feats,h.grps,by simp;omega,fun a b=> ?_,h.reqs,h.lims,h.sum,h.exs,h.kinds,fun a b=> ?_⟩
    .rcases qK.1 b with b|b
     .exact h.vals a b
     .rw [qN.1 b];exact qv _
    .rcases qK.1 b with b|b
     .exact h.short a b
     .rw [qN.1 b];exact qv _
  .exact h
 .exact h
theorem ZX.value(h:ZX r.m)(c:List ByteArray):ZX (valueL r c).2.m:=by
 unfold valueL;split
 .split
  .split
   .rename_i f
    split
    .exact h
    .split
     .have l:(idxF r.m (wd c 2)).toNat<r.m.feats.length:=by
       have n:idxF r.m (wd c 2)<r.m.feats.length:=by
        have:=VJ f.2
        unfold Mod.names at this;rwa [qG]at this
       omega
      have k:=h.feats;have d: ∀x,∀a∈q0A r.m.atts (idxA r.m (wd c 1)).toNat (idxF r.m (wd c 2)).toNat x,a.values.length<=r.m.feats.length:=by
       intro x a g;have⟨i,b⟩:=List.getElem?_of_mem g;unfold q0A at b;rw [List.getElem?_modify]at b
       cases e:r.m.atts[i]? with
       |none=>rw [e]at b;simp at b
       |some t=>
        rw [e]at b;have j:=h.short t (qp e);replace b:(if(idxA r.m (wd c 1)).toNat=i then(⟨t.name,setV t.values (idxF r.m (wd c 2)).toNat _⟩:Att)else t)=a:=zm b;split at b
        .rw [<-b]
         simp [setV];omega
        .rw [<-b]
         exact j
      exact⟨h.feats,h.grps,by simp only [q0A,List.length_modify];exact h.atts,fun a g=>by have:=d _ a g;omega,h.reqs,h.lims,h.sum,h.exs,h.kinds,d _⟩
     .exact h
   .exact h
  .exact h
 .exact h
theorem ZX.require(h:ZX r.m)(rest:List UInt8):ZX (requireL r rest).2.m:=by
 unfold requireL;split
 .rename_i x b
  split
  .split
   .exact h
   .have:=h.reqs
    refine⟨h.feats,h.grps,h.atts,h.vals,by simp;omega,h.lims,h.sum,fun y a=> ?_,h.kinds,h.short⟩;rcases qK.1 a with a|a
    .exact h.exs y a
    .rw [qN.1 a];exact wR b
  .exact h
 .exact h
theorem ZX.limit(h:ZX r.m)(a:List ByteArray):ZX (limitL r a).2.m:=by
 unfold limitL;split
 .split
  .split
   .exact h
   .split
    .split
     .exact h
     .have:=h.lims
      exact⟨h.feats,h.grps,h.atts,h.vals,h.reqs,by simp;omega,h.sum,h.exs,h.kinds,h.short⟩
    .exact h
  .exact h
 .exact h
theorem ZX.act(h:ZX r.m){a:List ByteArray}(b:a.length<=4194304)(rest:List UInt8):ZX (actL r a rest).2.m:=by
 unfold actL;repeat' split
 .exact h.root a
 .exact h.child a
 .exact h.group b
 .exact h.added a
 .exact h.value a
 .exact h.require rest
 .exact h.limit a
 .exact h
theorem VW(c:UInt8): ∀s:List UInt8,(cutAt c s).length<=s.length+1
 |[]=>by simp [cutAt]
 |b::l=>by
  have d:=VW c l;unfold cutAt;split
  .simp;omega
  .have: ∀k:List (List UInt8),k≠[]->(consHead b k).length=k.length:=fun k a=>by
    cases k with
    |nil=>exact absurd rfl a
    |cons x l=>rfl
   rw [this _ (Z9 c l)];simp;omega
theorem JG(c:UInt8): ∀s:List UInt8,∀x∈cutAt c s,x.length<=s.length
 |[],x,h=>by simp [cutAt]at h;subst h;simp
 |b::l,x,h=>by
  have a:=JG c l;unfold cutAt at h;split at h
  .rcases qI.1 h with rfl|h
   .simp
   .have:=a x h;simp;omega
  .cases d:cutAt c l with
   |nil=>exact absurd d (Z9 c l)
   |cons y e=>
    rw [d]at h a;rcases qI.1 h with rfl|h
    .have:=a y List.mem_cons_self;simp;omega
    .have:=a x (List.mem_cons_of_mem _ h);simp;omega
theorem q08(s:List UInt8):(wordsOf s).length<=s.length+1:=by
 unfold wordsOf;rw [qG];exact Nat.le_trans (List.length_filter_le _ _) (VW 32 s)
theorem Wx(s:List UInt8)(i:Nat):(wd (wordsOf s) i).size<=s.length:=by
 unfold wd;rw [List.getD_eq_getElem?_getD]
 cases h:(wordsOf s)[i]? with
 |none=>simp;exact qv _
 |some x=>
  have a:=qp h;unfold wordsOf at a;obtain⟨y,b,rfl⟩:=yH.1 a
  have:=JG 32 s y (List.mem_filter.1 b).1
  simpa [toB,ByteArray.size]using this
theorem ent(F:Nat){b:Func}{c:Code}(d:qj.funcs[F]? =some b)(a:(b.name== "runtime.NumGoroutine")=false)(e:b.body=some c)(args:Array Value)(w:World):(callFunc F args).run qj w= .ok (.enter F args) w:=j3 d a e args w
theorem q4f{a:List ByteArray}(h:q6s (wd a 0)=none)(rest:List UInt8):actL r a rest=(4,r):=by
 unfold q6s at h
 repeat' (split at h;·cases h)
 unfold actL
 simp [*]
theorem q2H{F:Nat}(h:xW base B G N w r)(d:ZX r.m)(E:ji w)(P:N≤1099511627776){Q:Nat→Prop}{t:Value}{b:List ByteArray}(k:RdL Q 1 RdS w t b)(z:WfS t)(D:b.length≤4194304)(y: ∀i,(wd b i).size≤4194304)
 {rest:ByteArray}(O:wd b 0=wReq→FPar rest w)(a:q6s (wd b 0)=some F):
 (∀g j,(callFunc F g).run qj j= .ok (.enter F g) j)∧Calls qj F #[vg B,t,vf rest] w fun e j=> ∃x,x≤N+1∧LPost base B G x w (actL r b (bytesL rest)) e j:=by
 have l: ∀{f:Nat}{p:Nat×RS},Calls qj f #[vg B,t,vf rest] w (LPost base B G N w p)→Calls qj f #[vg B,t,vf rest] w fun e j=> ∃x,x≤N+1∧LPost base B G x w p e j:=fun h=>h.mono fun e j h=>⟨N,by omega,h⟩;have s:=ent 127 Tryz.func127 (by kernel_rfl) rfl;have n:=ent 128 Tryz.func128 (by kernel_rfl) rfl;have q:=ent 129 Tryz.func129 (by kernel_rfl) rfl;have m:=ent 130 Tryz.func130 (by kernel_rfl) rfl;have u:=ent 131 Tryz.func131 (by kernel_rfl) rfl;have v:=ent 132 Tryz.func132 (by kernel_rfl) rfl;have o:=ent 133 Tryz.func133 (by kernel_rfl) rfl;have J:=d.sum;have R:=d.grps;unfold q6s at a;unfold actL;by_cases L:wd b 0=wRoot
 ·rw [if_pos L]at a⊢
  cases a;exact⟨s,l (WS h d.feats k rest)⟩
 rw [if_neg L]at a⊢;by_cases c:wd b 0=gB∨wd b 0=Uq∨wd b 0=Ur
 ·rw [if_pos c]
  have C:F=128:=by
   rcases c with c|c|c
   ·rw [if_pos c]at a;exact(zm a).symm
   ·rw [if_neg (by rw [c];decide),if_pos c]at a;exact(zm a).symm
   ·rw [if_neg (by rw [c];decide),if_neg (by rw [c];decide),if_pos c]at a;exact(zm a).symm
  subst C;exact⟨n,l (Ub h d.feats k (by have:=y 0;unfold maxLen;omega) rest)⟩
 rw [if_neg c];rw [if_neg (fun e=>c (vu e)),if_neg (fun e=>c (vv (vu e))),if_neg (fun e=>c (vv (vv e)))]at a;by_cases H:wd b 0=wGroup
 ·rw [if_pos H]at a⊢
  cases a;exact⟨q,l (Gs h E d.feats d.grps (by omega) k z D y rest)⟩
 rw [if_neg H]at a⊢;by_cases I:wd b 0=wAttr
 ·rw [if_pos I]at a⊢
  cases a;exact⟨m,l (Uh h d.atts k rest)⟩
 rw [if_neg I]at a⊢;by_cases K:wd b 0=vF
 ·rw [if_pos K]at a⊢
  cases a;exact⟨u,WD h E P d.feats d.atts d.vals k y rest⟩
 rw [if_neg K]at a⊢;by_cases A:wd b 0=wReq
 ·rw [if_pos A]at a⊢
  cases a;exact⟨v,l (Xe h d.feats d.reqs (O A))⟩
 rw [if_neg A]at a⊢;by_cases M:wd b 0=WB
 ·rw [if_pos M]at a⊢
  cases a;exact⟨o,l (Vt h E d.atts d.lims k y rest)⟩
 rw [if_neg M]at a
 cases a
theorem q0S{g t:Nat}{l:List ByteArray}(h:w.heap[g]? =some (vk (l.map Value.string).toArray t (0,0)))(c:S g)(n cap:Nat)(b:n=l.length):RdL S 1 RdS w (vd g n cap) l:=by
 subst b;refine⟨_,_,rfl,fun i x d=>⟨g,0,[vf x],rfl,c,fun j u a=> ?_,rfl⟩⟩
 cases j with
 |succ j=>cases a
 |zero=>
  cases a;refine cell1 h ?_;simp [d]
theorem KP(d:ji w)(f:s.size<=4194304):
 Calls qj 51 #[vf s,vf ⟨#[10]⟩] w fun e a=>e=vm (vd w.heap.size (cutAt 10 s.data.toList).length (cutAt 10 s.data.toList).length)/\RdL (fun g=>w.heap.size<=g) 1 RdS a (vd w.heap.size (cutAt 10 s.data.toList).length (cutAt 10 s.data.toList).length) ((cutAt 10 s.data.toList).map toB)/\Near w a:=by
 have⟨m,c⟩:=d.len;have b:=Lib.splitB_all ⟨#[10]⟩ (by decide) 0 (Lib.countB s ⟨#[10]⟩) s rfl;rw [JZ,qG]at b;refine(Any.strings_Split q6a (by kernel_rfl) s ⟨#[10]⟩ m w (by omega) c (by decide)).mono ?_;rintro e a ⟨rfl,rfl⟩;rw [JZ,<-b];exact⟨rfl,q0S (heap_new_at rfl) (Nat.le_refl _) _ _ (by rw [qG]),(Near.refl w).alloc _⟩
theorem WJ(b:s.size<=4194304):
 Calls qj 53 #[vf s,vf ⟨#[32]⟩] w fun e a=>e=vm (vf (toB (Lib.trimB s.data.toList 32)))/\Near w a:=by
 refine(Any.strings_Trim_one q69 s 32 (by decide) w (by omega)).mono ?_;rintro e a ⟨rfl,h⟩;exact⟨rfl,h.elim (fun e=>e▸Near.refl w) fun e=>e▸(Near.refl w).drew⟩
theorem YT(w:World)(s p:ByteArray):
 Calls qj 56 #[vf s,vf p] w fun e a=>e=vm (vf (toB (Lib.trimPrefix s.data.toList p.data.toList)))/\a=w:=Any.strings_TrimPrefix q6b s p w
theorem Ud(z:Int)(w:World):Calls qj 55 #[ve .i32 z] w fun e a=>e=vm (vj (decide (z=32)))/\a=w:=by
 have b:(z==32)=decide (z=32):=rfl;go_enter Tryz.func55,Tryz.ntmps55;go_wp2_with fail
 go_ret;exact⟨rfl,rfl⟩
theorem Kn(args:Array Value)(w:World):(callFunc 55 args).run qj w= .ok (.enter 55 args) w:=j3 Tryz.func55 (by kernel_rfl) rfl args w
theorem KA(h:s.size≤4194304):
 Calls qj 54 #[vf s,.func (.func 55) #[] #[]] w fun e a=> ∃v,e=vm v∧RdL (fun g=>w.heap.size≤g) 1 RdS a v (wordsOf s.data.toList)∧WfS v∧Near w a:=by
 refine(Any.strings_FieldsFunc q68 55 #[] Kn (fun c=>decide (c=32)) s w (by omega) ?_ (by kernel_rfl) (by kernel_rfl)).mono ?_
 ·intro W x d
  refine(Ud x W).mono ?_;rintro e a ⟨rfl,rfl⟩;exact⟨by rw [show decide ((x:Int)=32)=decide (x=32)from decide_eq_decide.2 (by omega)],0,rfl⟩
 ·rintro e a ⟨A,rfl,f,b,d⟩
  rw [XV]at b⊢;refine⟨_,rfl,RdL.strings b,Zu b,Near.of_below d⟩
def padA(n:Nat)(a:Att):Att:=⟨a.name,a.values++zk (n - a.values.length) 0⟩
def padTo(n j:Nat)(l:List Att):List Att:=(l.take j).map (padA n)++l.drop j
theorem q3x(n:Nat)(l:List Att):padTo n 0 l=l:=by simp [padTo]
theorem q5K(n:Nat)(l:List Att):padTo n l.length l=l.map (padA n):=by simp [padTo]
theorem q5J(n j:Nat)(l:List Att):(padTo n j l).length=l.length:=by
 simp [padTo];omega
theorem q7d{a:Att}(h:l[j]? =some a):(padTo n j l)[j]? =some a:=by
 have b:=(qm.1 h).1;unfold padTo;rw [List.getElem?_append_right (by simp;omega),qG,List.length_take,Nat.min_eq_left (by omega),xz,List.getElem?_drop,Nat.add_zero];exact h
theorem q3y{a:Att}(h:l[j]? =some a):(padTo n j l).set j (padA n a)=padTo n (j+1) l:=by
 have b:=(qm.1 h).1;have c:((l.take j).map (padA n)).length=j:=by simp;omega
 unfold padTo;rw [List.set_append_right _ _ (by omega),c,xz,List.take_add_one,h,ze,List.append_assoc];congr 1;rw [List.drop_eq_getElem_cons b];rfl
theorem ZX.bulk{m:Mod}(h:ZX m):Zd (padM m):=by
 have j:=h.feats;have c:=h.grps;have i:=h.atts;have e:=h.reqs;have g:=h.lims;have f:=h.sum;refine⟨by show m.feats.length<_;omega,by show m.grps.length<_;omega,by show(m.atts.map _).length<_;rw [qG];omega,by show m.reqs.length<_;omega,by show m.lims.length<_;omega,?_,fun x b=> ?_,fun x b=> ?_,h.kinds⟩
 .show(m.grps.flatMap yq).length<_
  have:m.grps.length*4194304<=24*4194304:=Nat.mul_le_mul_right _ c
  omega
 .obtain⟨a,d,rfl⟩:=yH.1 (show x∈m.atts.map _ from b)
  have:=h.vals a d
  simp;omega
 .have:=h.exs x b
  unfold validB at this;simp only [Bool.and_eq_true,decide_eq_true_eq]at this;omega
theorem RdMod.here{v:Value}{m:Mod}(h:RdMod S w v m):RdMod (fun g=>S g/\g<w.heap.size) w v m:=by
 have⟨a,b,c,d,e,z,s,y,t,u,n,q⟩:=h;have i: ∀{α:Type}{k:Nat}{R j:World->List Value->α->Prop}{v:Value}{l:List α},RdL (fun g=>S g/\g<w.heap.size) k R w v l->(∀f x,R w f x->j w f x)->RdL (fun g=>S g/\g<w.heap.size) k j w v l:=fun h p=>h.kept (Kept.refl (fun _=>False) w) (fun _ _ h=>h) (fun _ h=>h) p;have r: ∀{o:Nat->Prop}{f:List Value}{x:Ex},RdEx o w f x->f≠[]:=fun h e=>by
  cases h
  cases e
 refine⟨a,b,c,d,e,z,RdL.here s (fun f x h e=>by rw [h]at e;cases e),?_,?_,?_,RdL.here n (fun f x h e=>by rw [h]at e;cases e),q⟩
 .refine i (RdL.here y (fun f x h e=>by obtain⟨v,h,-⟩:=h;rw [h]at e;cases e)) fun f x h=> ?_
  have⟨v,e,h,q⟩:=h;exact⟨v,e,RdL.here h (fun f x h e=>by rw [h]at e;cases e),q⟩
 .refine i (RdL.here t (fun f x h e=>by obtain⟨v,h,-⟩:=h;rw [h]at e;cases e)) fun f x h=> ?_
  have⟨v,e,h⟩:=h;exact⟨v,e,RdL.here h (fun f x h e=>by rw [h]at e;cases e)⟩
 .exact i (RdL.here u (fun f x h=>r h)) fun f x h=>RdEx.here h
def padR(r:RS)(j:Nat):RS:=⟨⟨r.m.feats,r.m.grps,padTo r.m.feats.length j r.m.atts,r.m.reqs,r.m.lims⟩,r.given⟩
theorem padR_zero(r:RS):padR r 0=r:=by
 unfold padR;rw [q3x]
theorem q3A(r:RS):(padR r r.m.atts.length).m=padM r.m:=by
 unfold padR padM;rw [q5K];rfl
theorem q3z{a b d e:Value}{I:Option Addr}{S:Nat}{R:List Pg}{ts:List Pa}{W:List Pe}{t:Att}
 (h:Rd base B G N w (padR r j) a b (vd I r.m.atts.length S) d e R ts W) (E:r.m.atts[j]? =some t) (hs:t.values.length≤r.m.feats.length):
 ∃k v J z,I=some ⟨k,0,none⟩∧v=vd J t.values.length z∧w.cell? (vw k (j*2))=some (vf t.name)∧w.cell? (vw k (j*2+1))=some v∧w.ownsRow base 2 1 v t.values.length (t.values.map intV)∧
 ∀i,t.values.length+i=r.m.feats.length→ ∀y l n c,Near w y→y.grownBy l v.ownBlock→l.ownsRow base 2 1 (vd n (t.values.length+i) c) (t.values.length+i) (t.values.map intV++zk i (ve vp 0))→
  ((qw n (t.values.length+i) c).ownBlock=v.ownBlock∨(qw n (t.values.length+i) c).ownBlock=some y.heap.size)→
  (l.cell? (vw k (j*2+1))=some v∧l.frozen? (vw k (j*2+1))=false)∧(∃L,Rd base B G N (l.setCell (vw k (j*2+1)) (vd n (t.values.length+i) c)) (padR r (j+1)) a b (vd I r.m.atts.length S) d e R L W)∧Kept (fun g=>base≤g) w (l.setCell (vw k (j*2+1)) (vd n (t.values.length+i) c)):=by
 have hp:(padTo r.m.feats.length j r.m.atts)[j]? =some t:=q7d E;have hj:j<r.m.atts.length:=(qm.1 E).1;have aa:ts.length=r.m.atts.length:=by
  have:=h.te
  rw [←qG,this];exact q5J _ _ _
 obtain⟨p,f⟩: ∃p,ts[j]? =some p:=⟨_,List.getElem?_eq_getElem (by omega)⟩;have o:p.a=t:=by
  have x:(ts.map Pa.a)[j]? =some p.a:=by rw [List.getElem?_map,f];rfl
  rw [h.te]at x;exact zm (x.symm.trans hp)
 have hc:=h.t;rcases hc.2 with⟨-,U⟩|⟨k,P,ab,Q,-⟩
 ·omega
 simp only [qq]at Q;obtain⟨rfl,-,rfl⟩:=Q;have M:=h.tv p (qp f);rw [o]at M;have⟨J,z,D⟩:=qR M;have u:=(h.box_at f);have U:w.cell? (vw k (j*2))=some (vf t.name):=by
  have:(ts.flatMap Ka)[j*2]? =some (vf t.name):=by
   have H: ∀{ts:List Pa}{j:Nat}{p:Pa},ts[j]? =some p→(ts.flatMap Ka)[j*2]? =some (vf p.a.name):=by
    intro ts;induction ts with
    |nil=>intro j p h;simp at h
    |cons q ts ih=>
     intro j p h
     cases j with
     |zero=>cases h;rfl
     |succ j=>
      have:=ih (j:=j) (p:=p) h
      rw [List.flatMap_cons,←this,show(j+1)*2=j*2+1+1 by omega];rfl
   rw [H f,o]
  exact(yh u.1 this).1
 refine⟨k,p.v,J,z,rfl,D,U,u.2,M,fun i A y l n c Y Z K O=> ?_⟩;rw [A]at K O⊢;rw [show i=r.m.feats.length - t.values.length by omega]at K;have s:(t.values++zk (r.m.feats.length - t.values.length) (0:Int)).length=r.m.feats.length:=by simp;omega
 have C:l.ownsRow base 2 1 (vd n r.m.feats.length c) (t.values++zk (r.m.feats.length - t.values.length) (0:Int)).length ((t.values++zk (r.m.feats.length - t.values.length) (0:Int)).map intV):=by
  rw [s,ze,List.map_replicate];exact K
 obtain⟨x,V,X,-⟩:=h.slot_end f Y Z C O;have e2:padR r (j+1)=⟨⟨(padR r j).m.feats,(padR r j).m.grps,(padR r j).m.atts.set j ⟨p.a.name,t.values++zk (r.m.feats.length - t.values.length) 0⟩,(padR r j).m.reqs,(padR r j).m.lims⟩,(padR r j).given⟩:=by
  rw [o];show padR r (j+1)=⟨⟨r.m.feats,r.m.grps,(padTo r.m.feats.length j r.m.atts).set j (padA r.m.feats.length t),r.m.reqs,r.m.lims⟩,r.given⟩;rw [q3y E];rfl
 rw [←e2]at V;exact⟨x,⟨_,V⟩,X⟩
end Go.Proofs.YtjcbmcnbdegpmaaGreatDoor
namespace Go.Proofs.YtjcbmcnbdegpmaaGreatDoor
open Go.ChangeShapes Go.WideShapes Go.ChangeAt Go.RowKit Go.Deep Go.Proofs.Gen
theorem vX{H:Type}{enc:TypeId×Value->H}{a:Assume}{C:Checked}{os:Os}{f:FuncId}{p:Func}{s:ChangeSpec}{n:List PathCond}{b l g m:Bool}{X:World->Array Value->Prop}
 (L: ∀(w w':World)(args:Array Value),w.heap=w'.heap->X w args->X w' args)
 (G:ownKnob C.prog.godebug=none) (o:os.Started) (q:C.prog.inits.idxOf? f=none) (A:C.prog.funcs[f]? =some p)
 (k: ∃(w:World)(c:Tape)(i:Input),w.os=os/\(w.forCall c i).Shaped C.prog/\i.vars=[]/\Input.okWide C.prog (w.forCall c i) .any w.heap.size f i/\
   ((s.pre enc C.prog p n b (w.forCall c i).memory i.args/\X (w.forCall c i).memory i.args)/\sizedMet enc C.prog p (jy s) b (w.forCall c i).memory i.args)/\a.holds C.prog (lone (Frame.enter C.prog f i.args .normal) [] (w.forCall c i)))
 (h: ∀(W:World)(base:Nat)(args:Array Value)(E B:List (DataW H))(d:List MemPlace),
   (∀(j:Nat) t v,p.params[j]? =some t->args[j]? =some v->Value.okWide C.prog W .any base t v)->
   DataW.Whole enc C.prog p.params.toList s.vars b W args.toList E B d->
   X W args->W.ShapedOpen C.prog->
   Calls C.prog f args W fun e J=> ∃v,e=vm v/\s.post enc C.prog p b l g m W args v J):
 ReturnsInHanded a C os f .any (fun w args=>(s.pre enc C.prog p n b w args/\X w args)/\sizedMet enc C.prog p (jy s) b w args) (s.post enc C.prog p b l g m):=by
 refine returnsInHanded_of_calls G o q k ?_;intro w c i _ y _ z u _;have⟨_,_,_,D,x,_,_,_,_,r⟩:=z;have e:D=p:=zm (x.symm.trans A);subst e;have⟨⟨⟨E,B,d,K,_⟩,M⟩,_⟩:=u;have I:=DataW.Whole.of_heap (w':=w.forCall c i) (by rfl) K;refine(h (w.forCall c i) w.heap.size i.args E B d r I (L _ _ _ (by rfl) M) y).mono fun e J ⟨v,N,O⟩=> ?_;subst N;exact ChangeSpec.post_blind O
theorem q5L:ownKnob qj.godebug=none:=by kernel_rfl
def jJ:List (String×DataW Unit):=[("math/bits.deBruijn32tab",Rows.laid_math_bits_deBruijn32tab),("math/bits.deBruijn64tab",Rows.laid_math_bits_deBruijn64tab),("internal/strconv.uint64pow10",Rows.laid_internal_strconv_uint64pow10),("unicode/utf8.acceptRanges",Rows.laid_unicode_utf8_acceptRanges),("strconv.ErrRange",Rows.laid_strconv_ErrRange),("strconv.ErrSyntax",Rows.laid_strconv_ErrSyntax),("unicode/utf8.first",Rows.laid_unicode_utf8_first)]
theorem YE{P:Program}{w:World}{n s:String}{x:DataW Unit}{g:Nat}{t:TypeId}{r:Array (String×TypeId)}(h:Lib.VarReads P w n (.iface s x))(i:P.globalNamed n=some g)(m:(P.globals[g]?).map (·.type)=some t)(q:P.underlying t=some (.interface r)):
 ∃u v,w.cell? g=some (.iface u v):=by
 have⟨A,z,j,a,p,f,d,y,b⟩:=h;obtain rfl:=zm (i.symm.trans f);obtain rfl:=zm (m.symm.trans d);have o:=World.var?_cell i y 0
 cases a with
 |zero=>simp [yK]at b
 |succ k=>
  unfold yK at b;rw [q]at b;have⟨l⟩:=j;split at b
  all_goals first
   |(exfalso;simp_all;done)
   |(rename_i u v _ c;have e:l=[.iface u v]:=c;exact⟨u,v,by rw [o,e];rfl⟩)
theorem KF{W:World}(b:W.ShapedOpen qj)(a:laidMetH qj jJ W):ji W:=by
 rw [gw _ _ _ (by kernel_rfl)]at a;refine⟨?_,?_,?_,?_⟩
 .exact cell_of_shapedOpen_int (zero:= #[ve vp 0]) (t:=3) b (of_decide_eq_true (by kernel_rfl)) (by kernel_rfl) rfl (by kernel_rfl) (by kernel_rfl) Tryz.underlying3
 .exact Lib.tabIs_of_head (g:=0) (t:=286) (e:=56) (n:=20) (by kernel_rfl) (by kernel_rfl) (by kernel_rfl) (by kernel_rfl) (by kernel_rfl) (by kernel_rfl) (show laidMet qj (("internal/strconv.uint64pow10",Lib.tabData vt Lib.pow10Tab)::_) W from(a.tail).tail)
 .exact YE (t:=97) (Lib.laidMet.reads (n:= "strconv.ErrSyntax") (d:=Rows.laid_strconv_ErrSyntax) a (.tail _ (.tail _ (.tail _ (.tail _ (.tail _ (.head _))))))) (by kernel_rfl) (by kernel_rfl) Tryz.underlying97
 .exact YE (t:=97) (Lib.laidMet.reads (n:= "strconv.ErrRange") (d:=Rows.laid_strconv_ErrRange) a (.tail _ (.tail _ (.tail _ (.tail _ (.head _)))))) (by kernel_rfl) (by kernel_rfl) Tryz.underlying97
end Go.Proofs.YtjcbmcnbdegpmaaGreatDoor
