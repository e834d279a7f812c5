/- MWords, MStudy, MImpl, MFalse, MAtomic, MBack, MRedP, MRev, MRedW, MFPrint, MPLine, MLimT, MPrW. -/
import Derived.Lib.FieldsP
import Derived.Lib.Split
import Derived.Lib.MapLaws
import Derived.Lib.SpaceUEq
import Derived.Test.YtjcbmcnbdegpmaaGreatDoorKMRChk
set_option maxRecDepth 100000
set_option maxHeartbeats 12800000
set_option linter.unusedVariables false
set_option linter.unusedSimpArgs false
open Array renaming getElem?_eq_some_iff->qk,length_toList->zW,toArray_toList->Qz
open Array.mk renaming injEq->za
open Bool renaming and_eq_true->qy
open Go renaming bodyPost_ret->qo
open Go.Instr renaming mapUpdate->zA
open Go.IntKind renaming u32->ug
open Go.Lib renaming hid->q8,index->jp,splitK->uv
open Go.Proofs.Tryz renaming prog->qj
open Go.Sem renaming run->yx
open Go.Utf8 renaming decode->Y7
open Go.Value renaming int->qs,slice->qw,string->yb
open Go.Value.agg renaming injEq->qY
open Go.Value.slice renaming injEq->qq
open Go.World renaming block_lt_of_cell?->qM
open List renaming cons_append->zl,drop_eq_getElem_cons->yz,filter_cons_of_pos->q2V,getElem?_append_left->zc,getElem?_append_right->qV,getElem?_eq_getElem->qi,getElem?_eq_none->zP,getElem?_eq_some_iff->qm,getElem?_map->qA,getElem?_of_mem->qZ,getElem?_range->yT,length->uq,length_append->qn,length_drop->yC,length_singleton->yW,map_append->ze,map_cons->yL,map_map->kX,mem_range->yd,nil_append->yV,range->qO,range_succ->jw,setIfInBounds_toArray->qb,set_cons_succ->qd,set_cons_zero->qh,take_add_one->qU,take_append_drop->zO,take_of_length_le->zE
open List.cons renaming injEq->qJ
open Nat renaming add_zero->Y5,le_refl->qt,le_trans->qH,lt_of_le_of_lt->zR,lt_of_lt_of_le->qu,lt_trans->wF,pow_le_pow_right->zr,sub_self->xz,zero_add->zz,zero_le->qv
open Option.some renaming inj->zm,injEq->zo
open Go.Value renaming slice->vd,int->ve,string->vf,pointer->vg,agg->vi,bool->vj
open Go.Obj renaming cells->vk
open Go.Ending renaming returned->vm
open Go.IntKind renaming i64->vp,u8->vq,u32->vr,u64->vt
open Or renaming inl->vu,inr->vv
namespace Go.Proofs.Mod
open Go Go.Proofs.YtjcbmcnbdegpmaaGreatDoor
variable{a:Nat}{c:UInt8}{l x:List UInt8}
theorem U4(b:UInt8)(l:List (List UInt8)):consHead b l≠[]:=by cases l<;>simp [consHead]
theorem Z9(c:UInt8): ∀s:List UInt8,cutAt c s≠[]
 |[]=>by simp [cutAt]
 |b::l=>by
  rw [cutAt];split
  .simp
  .exact U4 _ _
theorem q2a(a: ∀b∈x,b≠c)(y:List UInt8):cutAt c (x++c::y)=x::cutAt c y:=by
 induction x with
 |nil=>rw [yV,cutAt,if_pos rfl]
 |cons b x d=>rw [zl,cutAt,if_neg (a b (by simp)),d fun z e=>a z (by simp [e])];rfl
theorem q45(a: ∀b∈x,b≠c):cutAt c x=[x]:=by
 induction x with
 |nil=>rfl
 |cons b x d=>rw [cutAt,if_neg (a b (by simp)),d fun z e=>a z (by simp [e])];rfl
theorem YD(c:UInt8)(l:List UInt8):jp (c::l) [c]=0:=by simp [jp,List.isPrefixOf]
theorem wV{b:UInt8}(h:b≠c)(l:List UInt8):jp (b::l) [c]=if jp l [c]== -1 then -1 else jp l [c]+1:=by
 rw [jp,if_neg (by simp [List.isPrefixOf,h.symm])]
theorem XE(h:jp l [c]≠ -1): ∃i:Nat,jp l [c]=i:=by
 have:=Go.Lib.index_ge l [c]
 exact⟨(jp l [c]).toNat,by omega⟩
theorem X3{b:UInt8}(h:b≠c): ∀(k:Nat)(l:List UInt8),uv [c] 0 k (b::l)=consHead b (uv [c] 0 k l)
 |0,l=>rfl
 |k+1,l=>by
  rw [uv,uv,wV h];by_cases a:jp l [c]= -1
  .rw [a];rfl
  .have⟨i,f⟩:=XE a
   have g:((i:Int)== -1)=false:=by rw [beq_eq_false_iff_ne];omega
   have d:((i:Int)+1== -1)=false:=by rw [beq_eq_false_iff_ne];omega
   have e:((i:Int)+1).toNat=i+1:=by omega
   simp [f,g,d,e,consHead]
theorem VY{b:UInt8}(h:b≠c)(l:List UInt8):Go.Lib.count (b::l) [c]=Go.Lib.count l [c]:=by
 by_cases a:jp l [c]= -1
 .rw [Go.Lib.count_miss a,Go.Lib.count_miss (by rw [wV h,a];rfl)]
 .have⟨i,d⟩:=XE a
  have e:jp (b::l) [c]=((i+1:Nat):Int):=by
   rw [wV h,d,if_neg (by simp)];rfl
  rw [Go.Lib.count_hit (by simp) d,Go.Lib.count_hit (by simp) e];simp
theorem Qe(c:UInt8): ∀s:List UInt8,uv [c] 0 (Go.Lib.count s [c]) s=cutAt c s
 |[]=>by
  rw [Go.Lib.count_miss rfl];rfl
 |b::l=>by
  rw [cutAt];by_cases h:b=c
  .subst h
   rw [if_pos rfl,Go.Lib.count_hit (i:=0) (by simp) (YD b l),Nat.add_comm,uv,YD]
   have:=Qe b l
   simpa using this
  .rw [if_neg h,VY h,X3 h,Qe c l]
theorem JZ(s:ByteArray)(c:UInt8):Go.Lib.splitB ⟨#[c]⟩ 0 (Go.Lib.countB s ⟨#[c]⟩) s=(cutAt c s.data.toList).map toB:=by
 have h:=Go.Lib.splitB_data ⟨#[c]⟩ 0 (Go.Lib.countB s ⟨#[c]⟩) s;have a:uv [c] 0 (Go.Lib.countB s ⟨#[c]⟩) s.data.toList=cutAt c s.data.toList:=Qe c _;have b:(Go.Lib.splitB ⟨#[c]⟩ 0 (Go.Lib.countB s ⟨#[c]⟩) s).map (fun x=>x.data.toList)=cutAt c s.data.toList:=h.trans a;rw [<-b,kX]
 have:(toB∘fun x:ByteArray=>x.data.toList)=id:=by
  funext x;show toB x.data.toList=x;unfold toB;rw [Qz]
 rw [this,List.map_id]
theorem uw(a: ∀b∈x,b≠32)(c:x≠[])(y:List UInt8):wordsOf (x++32::y)=toB x::wordsOf y:=by
 unfold wordsOf;rw [q2a a,q2V (by simpa using c),yL]
theorem Yj(c: ∀b∈x,b≠32)(a:x≠[]):wordsOf x=[toB x]:=by
 unfold wordsOf;rw [q45 c,q2V (by simpa using a)];rfl
theorem KC(y:List UInt8):wordsOf (32::y)=wordsOf y:=by
 unfold wordsOf;rw [cutAt,if_pos rfl,List.filter_cons_of_neg (by simp)]
theorem q07:wordsOf []=[]:=by simp [wordsOf,cutAt]
theorem q2A{j:Nat}(h:j<l.length):l[j]? =some (l.getD j 0):=by
 rw [List.getD,qi h];rfl
theorem q27(s:ByteArray)(h:a<s.data.toList.length):((Y7 s a).1=32→s.data.toList[a]? =some 32∧(Y7 s a).2=1)∧
 ((Y7 s a).1≠32→ ∀j,a≤j→j<a+(Y7 s a).2→s.data.toList[j]? ≠some 32)∧1≤(Y7 s a).2∧a+(Y7 s a).2≤s.data.toList.length:=by
 have x:s.data.toList.length - a≠0:=by omega
 have n: ∀{k:Nat},a+k<s.data.toList.length→s.data.toList[a+k]? =some 32→(s.data.toList.getD (a+k) 0).toNat=32:=fun g e=>by
  rw [q2A g]at e;rw [zm e];rfl
 have i:s.data.toList[a]? =some 32→(s.data.toList.getD a 0).toNat=32:=n (k:=0) h;have r:(s.data.toList.getD a 0).toNat=32→s.data.toList[a]? =some 32:=fun e=>by
  rw [q2A h];congr 1;exact UInt8.toNat_inj.1 e
 rw [Go.Lib.decode_N];rcases Go.Lib.decodeN_shape (s.data.toList.length - a) (s.data.toList.getD a 0).toNat (s.data.toList.getD (a+1) 0).toNat (s.data.toList.getD (a+2) 0).toNat (s.data.toList.getD (a+3) 0).toNat with⟨c,e⟩|⟨o,p,q,t,e⟩|⟨o,p,q,u,t,v,e⟩|⟨o,p,q,u,y,t,w,e⟩|e
 ·rw [e]
  refine⟨fun b=>⟨r b,rfl⟩,fun b j l d f=> ?_,by simp,by simp only;omega⟩;obtain rfl:j=a:=by simp only at d;omega
  exact b (i f)
 ·rw [e]
  refine⟨fun b=>by simp only at b;omega,fun b j l d f=> ?_,by simp,by simp only;omega⟩;obtain⟨k,rfl⟩: ∃k,j=a+k:=⟨j - a,by omega⟩;have g:k<2:=by simp only at d;omega
  have:=n (by omega) f
  match k,g with
  |0,_=>simp only [Y5]at this;omega
  |1,_=>omega
 ·rw [e]
  refine⟨fun b=>by simp only at b;omega,fun b j l d f=> ?_,by simp,by simp only;omega⟩;obtain⟨k,rfl⟩: ∃k,j=a+k:=⟨j - a,by omega⟩;have g:k<3:=by simp only at d;omega
  have:=n (by omega) f
  match k,g with
  |0,_=>simp only [Y5]at this;omega
  |1,_=>omega
  |2,_=>omega
 ·rw [e]
  refine⟨fun b=>by simp only at b;omega,fun b j l d f=> ?_,by simp,by simp only;omega⟩;obtain⟨k,rfl⟩: ∃k,j=a+k:=⟨j - a,by omega⟩;have g:k<4:=by simp only at d;omega
  have:=n (by omega) f
  match k,g with
  |0,_=>simp only [Y5]at this;omega
  |1,_=>omega
  |2,_=>omega
  |3,_=>omega
 ·by_cases m:(s.data.toList.getD a 0).toNat<128
  ·rw [Go.Lib.decodeN_ascii _ _ _ _ _ m]at e⊢
   refine⟨fun b=>⟨r b,rfl⟩,fun b j l d f=> ?_,by simp,by simp only;omega⟩;obtain rfl:j=a:=by simp only at d;omega
   exact b (i f)
  ·rw [e]
   refine⟨fun b=>by simp at b,fun b j l d f=> ?_,by simp,by simp only;omega⟩;obtain rfl:j=a:=by simp only at d;omega
   have:=i f
   omega
def Vk(l:List UInt8)(a b:Nat):Prop:= ∀j,a<=j->j<b->l[j]? ≠some 32
theorem Vk.mem{b:Nat}(h:Vk l a b): ∀c∈(l.drop a).take (b - a),c≠32:=by
 intro c f e;subst e;have⟨i,d⟩:=qZ f;rw [List.getElem?_take]at d;split at d
 .rw [List.getElem?_drop]at d
  exact h (a+i) (by omega) (by omega) d
 .cases d
theorem q1X(s:ByteArray)(a b:Nat):s.extract a b=toB ((s.data.toList.drop a).take (b - a)):=by
 have:=kJ s a b
 unfold bytesL at this;rw [<-this];unfold toB;rw [Qz]
theorem KQ(s:ByteArray): ∀(f b:Nat)(g:Option Nat)(d:List (Nat×Nat)),s.data.toList.length<=b+f->b<=s.data.toList.length->(∀a,g=some a->a<b/\Vk s.data.toList a b)->
 (Go.Lib.closeSpans s (Go.Lib.spansFromP (fun c=>decide (c=32)) s f b g d)).map (fun x=>s.extract x.1 x.2)=d.map (fun x=>s.extract x.1 x.2)++wordsOf (s.data.toList.drop (g.getD b)):=by
 have o:s.size=s.data.toList.length:=by rw [zW];rfl
 have l: ∀(b:Nat)(g:Option Nat)(d:List (Nat×Nat)),s.data.toList.length=b->(∀a,g=some a->a<b/\Vk s.data.toList a b)->
  (Go.Lib.closeSpans s (d,g)).map (fun x=>s.extract x.1 x.2)=d.map (fun x=>s.extract x.1 x.2)++wordsOf (s.data.toList.drop (g.getD b)):=by
  intro b g d k u
  cases g with
  |none=>
   show d.map _=_++wordsOf (s.data.toList.drop b);rw [<-k,List.drop_length,q07,List.append_nil]
  |some a=>
   have⟨B,v⟩:=u a rfl;show(d++[(a,s.size)]).map _=_++wordsOf (s.data.toList.drop a);have e:(s.data.toList.drop a).take (b - a)=s.data.toList.drop a:=zE (by rw [yC];omega);have y:=v.mem;rw [e]at y;rw [Yj y (fun h=>by have:=congrArg uq h;rw [yC]at this;simp at this;omega),ze,List.map_singleton,q1X,o,k,e]
 intro f;induction f with
 |zero=>
  intro b g d B v n;exact l b g d (by omega) n
 |succ f p=>
  intro b g d B v n;rw [Go.Lib.spansFromP.eq_def];simp only;by_cases k:b<s.size
  .rw [if_pos k]
   rw [o]at k;have⟨G,C,J,A⟩:=q27 s k;by_cases m:(Y7 s b).1=32
   .have⟨z,E⟩:=G m
    rw [if_pos (by simpa using m),E];have i:s.data.toList.drop b=32::s.data.toList.drop (b+1):=by
     rw [yz k];rw [qi k]at z;rw [zm z]
    cases g with
    |none=>
     refine(p (b+1) none d (by omega) (by omega) (by simp)).trans ?_;show _++wordsOf (s.data.toList.drop (b+1))=_++wordsOf (s.data.toList.drop b);rw [i,KC]
    |some a=>
     have⟨D,t⟩:=n a rfl;refine(p (b+1) none (d++[(a,b)]) (by omega) (by omega) (by simp)).trans ?_;show _++wordsOf (s.data.toList.drop (b+1))=_++wordsOf (s.data.toList.drop a);have e:s.data.toList.drop a=(s.data.toList.drop a).take (b - a)++32::s.data.toList.drop (b+1):=by
      rw [<-i]
      have:=(zO (b - a) (s.data.toList.drop a)).symm
      rwa [List.drop_drop,show a+(b - a)=b by omega]at this
     rw [e,uw t.mem (fun h=>by have:=congrArg uq h;rw [List.length_take,yC]at this;simp at this;omega),ze,List.map_singleton,q1X,List.append_assoc];rfl
   .rw [if_neg (by simpa using m)]
    cases g with
    |none=>exact p _ (some b) d (by omega) A (fun a q=>by cases q;exact⟨by omega,C m⟩)
    |some a=>
     have⟨D,t⟩:=n a rfl;refine p _ (some a) d (by omega) A (fun I q=> ?_)
     cases q;refine⟨by omega,fun j r w=> ?_⟩;by_cases H:j<b
     .exact t j r H
     .exact C m j (by omega) w
  .rw [if_neg k]
   exact l b g d (by omega) n
theorem XV(s:ByteArray):Go.Lib.goFieldsP (fun c=>decide (c=32)) s=wordsOf s.data.toList:=by
 have a:s.size=s.data.toList.length:=by rw [zW];rfl
 have:=KQ s s.size 0 none [] (by omega) (qv _) (by simp)
 simpa [Go.Lib.goFieldsP,Go.Lib.spansOfP]using this
end Go.Proofs.Mod
namespace Go.Proofs.YtjcbmcnbdegpmaaGreatDoor
open Go Go.RowKit Go.Proofs.Gen Go.Proofs.Mod
variable{B i:Nat}{v:Value}{w w':World}
def maskN(m:Mod):Nat:=2^m.feats.length - 1
noncomputable def fixM (m:Mod) (on:Bool):Nat:=if nowhere (allF (rulesF m))=true then maskN m else fixN (allF (rulesF m)) on&&&maskN m
def ka(S:Nat->Prop)(w:World)(B:Nat)(m:Mod):Prop:=
 ∃a b c d e sv x y base,w.heap[B]? =some (.cells #[a,b,c,d,e,sv,x,y,.int .u32 (maskN m:Nat),.int .u32 (fixM m false:Nat),.int .u32 (fixM m true:Nat)] 144 (0,0))/\RdMod S w (.agg #[a,b,c,d,e]) m/\Sets 43 IsF base w sv (rulesF m)/\IsF w (.agg #[x,y]) (allF (rulesF m))
theorem ka.near{S:Nat->Prop}{m:Mod}(h:ka S w B m)(g:Near w w'):ka S w' B m:=
 let⟨a,b,c,d,e,n,x,y,f,i,l,j,k⟩:=h;⟨a,b,c,d,e,n,x,y,f,qQ g i,l.kept g (fun _ _ h=>h) (fun _ h=>h),j.map g (fun _ _ h=>h.near g),k.near g⟩
theorem IsF.at166{f:F}{b:Nat}{cs:Array Value}{a:Nat×Nat}(h:IsF w v f)(c:Kept (fun k=>k=b) w w')(d:w.heap[b]? =some (vk cs 144 a)):IsF w' v f:=
 h.only (e:=144) ⟨fun k=>k=b,c,fun k _ e=>⟨cs,a,e▸d⟩⟩ (by decide)
def ZY(S:Nat->Prop)(w:World)(m:Mod)(e:Ending)(w':World):Prop:=
 ∃p,e= .returned (.tuple #[p,.int .i64 (chk m:Nat)])/\(chk m=0-> ∃B,p= .pointer (some ⟨B,0,none⟩)/\ka S w' B m)/\(chk m≠0->p= .pointer none)/\Near w w'
theorem q1r{n:Nat}(h:n<=24):ug.wrap (ug.wrap ((2:Int)^n) - 1)=((2^n - 1:Nat):Int):=(by decide: ∀k:Fin 25,ug.wrap (ug.wrap ((2:Int)^ (k:Nat)) - 1)=((2^ (k:Nat) - 1:Nat):Int)) ⟨n,by omega⟩
theorem q1R(f:F)(on:Bool):fixN f on<4294967296:=by
 unfold fixN;split
 .decide
 .exact wF (ZF fun i a=>yd.1 a) (by decide)
theorem Z5{m:Mod}(h:m.feats.length<=24):maskN m<4294967296:=by
 unfold maskN
 have:2^m.feats.length<=2^24:=zr (by decide) h
 have:(2:Nat)^24=16777216:=by decide
 omega
theorem KO{S:Nat→Prop}{m:Mod}(h:RdMod S w v m)(B: ∀g,S g→g<w.heap.size)(u:Zd m)(a:chk m≠0):Calls qj 72 #[v] w (ZY S w m):=by
 have f:=q8 (fun(E:World)(x:Near w E)=>jH (h.kept x (fun _ _ h=>h) (fun _ h=>h)) (fun g C=>qu (B g C) x.size) u);obtain⟨k,r,p,d,n,q,l,s,j,i,rfl,-⟩:=RdMod.form h;have D:((chk m:Int) !=0)=true:=by rw [bne_iff_ne];omega
 have c:=q8 a;have y: ∀W,W=w.alloc (vk #[vd k m.feats.length r,vd p m.grps.length d,vd n m.atts.length q,vd l m.reqs.length s,vd j m.lims.length i] 28)→Near w W∧W.heap[w.heap.size]? =some (vk #[vd k m.feats.length r,vd p m.grps.length d,vd n m.atts.length q,vd l m.reqs.length s,vd j m.lims.length i] 28 (0,0)):=by
  rintro W rfl;exact⟨(Near.refl w).alloc _,heap_new_at rfl⟩
 clear h B u a;go_enter Tryz.func72,Tryz.ntmps72;go_upto_region 1 with fail
 have z:=y _ rfl;generalize w.alloc (vk #[vd k m.feats.length r,vd p m.grps.length d,vd n m.atts.length q,vd l m.reqs.length s,vd j m.lims.length i] 28)=W at z⊢;have⟨A,b⟩:=z;have I:=cell1 (o:=0) b rfl;have H:=cell1 (o:=1) b rfl;have K:=cell1 (o:=2) b rfl;have M:=cell1 (o:=3) b rfl;have L:=cell1 (o:=4) b rfl;have t:=q8 A;clear y A b;go_wp2_with (go_at_call 29;refine(f _ t).mono ?_;rintro e J ⟨rfl,G⟩)
 exact qo (v:= .tuple #[vg none,ve vp (chk m:Nat)]) (by simp [results,Tryz.results72,go_sem]) rfl ⟨_,rfl,fun h=>absurd h c,fun _=>rfl,t.trans G⟩
theorem xO{S:Nat→Prop}{m:Mod}(h:RdMod S w v m)(hS: ∀g,S g→g<w.heap.size)(hb:Zd m)(h0:chk m=0):Calls qj 72 #[v] w (ZY S w m):=by
 have ok:=jm h0;have a5:=q8 (fun(b:World)(hn:Near w b)=>(h0▸jH (h.kept hn (fun _ _ h=>h) (fun _ h=>h)) (fun g hg=>qu (hS g hg) hn.size) hb:Calls qj 29 #[v] b fun e a9=>e=vm (ve vp ((0:Nat):Int))∧Near b a9));have a7:=q8 (fun(b:World)(hn:Near w b)=>Qg (h.kept hn (fun _ _ h=>h) (fun _ h=>h)) (fun g hg=>qu (hS g hg) hn.size) ok hb);have ag:=q8 (jQ ok);have L:=ok.n24;have P:=q8 (q1r ok.n24);have ai:=q8 h;have I:=q8 h0;have a4:Hid (maskN m=2^m.feats.length - 1):=rfl;obtain⟨t,y,u,z,B,x,D,r,C,l,rfl,-⟩:=RdMod.form h;have hW: ∀W,W=w.alloc (vk #[vd t m.feats.length y,vd u m.grps.length z,vd B m.atts.length x,vd D m.reqs.length r,vd C m.lims.length l] 28)→Near w W∧W.heap[w.heap.size]? =some (vk #[vd t m.feats.length y,vd u m.grps.length z,vd B m.atts.length x,vd D m.reqs.length r,vd C m.lims.length l] 28 (0,0)):=by
  rintro W rfl;exact⟨(Near.refl w).alloc _,heap_new_at rfl⟩
 clear h hS hb h0 ok;go_enter Tryz.func72,Tryz.ntmps72;go_upto_region 1 with fail
 have h1:=hW _ rfl;generalize w.alloc (vk #[vd t m.feats.length y,vd u m.grps.length z,vd B m.atts.length x,vd D m.reqs.length r,vd C m.lims.length l] 28)=W at h1⊢;have⟨hN,Q⟩:=h1;have q0:=cell1 (o:=0) Q rfl;have q1:=cell1 (o:=1) Q rfl;have q2:=cell1 (o:=2) Q rfl;have q3:=cell1 (o:=3) Q rfl;have q4:=cell1 (o:=4) Q rfl;have HN:=q8 hN;have HA:=q8 Q;clear hW hN Q;go_upto_region 4 with(go_at_call 29;refine(a5 _ HN).mono ?_;rintro e w1 ⟨rfl,n1⟩;have s:=q8 (HN.trans n1);have n:=q8 (qE n1 HA);clear n1)
 have af: ∀b,Near w1 b→b.cell? w.heap.size=some (vd t m.feats.length y)∧b.cell? (vw w.heap.size 1)=some (vd u m.grps.length z)∧b.cell? (vw w.heap.size 2)=some (vd B m.atts.length x)∧b.cell? (vw w.heap.size 3)=some (vd D m.reqs.length r)∧b.cell? (vw w.heap.size 4)=some (vd C m.lims.length l):=fun b h=>⟨cell1 (qQ h n) rfl,cell1 (qQ h n) rfl,cell1 (qQ h n) rfl,cell1 (qQ h n) rfl,cell1 (qQ h n) rfl⟩;clear q0 q1 q2 q3 q4;go_region_held3 (fun b=>b.cell? w.heap.size=some (vd t m.feats.length y)∧b.cell? (vw w.heap.size 1)=some (vd u m.grps.length z)∧b.cell? (vw w.heap.size 2)=some (vd B m.atts.length x)∧b.cell? (vw w.heap.size 3)=some (vd D m.reqs.length r)∧b.cell? (vw w.heap.size 4)=some (vd C m.lims.length l))
  ((refine af _ ?_;first|exact z1.alloc _|exact z1|exact(Near.refl _).drew))
  ((go_at_call 71;refine(a7 _ (s.trans (Near.refl w1).drew)).mono ?_;rintro e a ⟨v2,rfl,N,n2⟩;have D2:=q8 N;obtain⟨so,sc,rfl⟩:=N.form;clear N;have z1:Near w1 a:=(Near.refl w1).drew.trans n2))
 rw [P.out,←a4.out];have hV: ∀V,V=a.alloc (vk #[vd t m.feats.length y,vd u m.grps.length z,vd B m.atts.length x,vd D m.reqs.length r,vd C m.lims.length l,vd so (rulesF m).length sc,vd none 0 0,ve vp 0,ve vr (maskN m:Nat),ve vr 0,ve vr 0] 144)→Near a V∧V.heap[a.heap.size]? =some (vk #[vd t m.feats.length y,vd u m.grps.length z,vd B m.atts.length x,vd D m.reqs.length r,vd C m.lims.length l,vd so (rulesF m).length sc,vd none 0 0,ve vp 0,ve vr (maskN m:Nat),ve vr 0,ve vr 0] 144 (0,0)):=by
  rintro V rfl;exact⟨(Near.refl a).alloc _,heap_new_at rfl⟩
 have h2:=hV _ rfl;generalize a.alloc (vk #[vd t m.feats.length y,vd u m.grps.length z,vd B m.atts.length x,vd D m.reqs.length r,vd C m.lims.length l,vd so (rulesF m).length sc,vd none 0 0,ve vp 0,ve vr (maskN m:Nat),ve vr 0,ve vr 0] 144)=V at h2⊢;have⟨nV,hB⟩:=h2;have K:=q8 z1;have R:=q8 nV;have HB:=q8 hB;have g5:=cell1 (o:=5) hB rfl;clear af hV nV hB n2 z1;go_upto_region 6 with(go_at_call 70;refine(andall_f (D2.map R fun _ _ h=>h.near R) (by have:=ag.out;simp [rulesF]at this⊢;omega)).mono ?_;rintro e w3 ⟨v3,rfl,d3,n3⟩;obtain⟨Y,X,x3,x4,rfl⟩:=d3.form;have D3:=q8 d3;have N3:=q8 n3;have i:=qE n3 HB;have al:=q8 i;have r6:=cell1 (o:=6) i rfl;have r7:=cell1 (o:=7) i rfl;have f6:=zQ i 6;have f7:=zQ i 7;clear d3 n3 i)
 have am: ∀M,M=(w3.setCell (vw a.heap.size 6) (vd Y X x3)).setCell (vw a.heap.size 7) (ve vp x4)→M.heap[a.heap.size]? =some (vk #[vd t m.feats.length y,vd u m.grps.length z,vd B m.atts.length x,vd D m.reqs.length r,vd C m.lims.length l,vd so (rulesF m).length sc,vd Y X x3,ve vp x4,ve vr (maskN m:Nat),ve vr 0,ve vr 0] 144 (0,0))∧Near a M∧Kept (fun k=>k=a.heap.size) w3 M:=by
  rintro M rfl;have j:=qz (qz al 6 (vd Y X x3)) 7 (ve vp x4);simp only [qb,qh,qd]at j;exact⟨j,((R.trans N3).set (p:=vw a.heap.size 6) (qt _) _).set (p:=vw a.heap.size 7) (qt _) _,Kept.setCell (S:=fun k=>k=a.heap.size) (Kept.setCell (S:=fun k=>k=a.heap.size) (Kept.refl _ w3) (p:=vw a.heap.size 6) (fun _=>rfl) _) (p:=vw a.heap.size 7) (fun _=>rfl) _⟩
 have h3:=am _ rfl;generalize(w3.setCell (vw a.heap.size 6) (vd Y X x3)).setCell (vw a.heap.size 7) (ve vp x4)=M at h3⊢;have⟨J,ab,an⟩:=h3;have D4:=q8 (D3.at166 an al);have a3:=q8 J;have a6:=q8 ab;have s6:=cell1 (o:=6) J rfl;have s7:=cell1 (o:=7) J rfl;have ax:=q8 (q6t D4);obtain⟨p,hp⟩: ∃p,p=fixN (allF (rulesF m)) false:=⟨_,rfl⟩;obtain⟨q,hq⟩: ∃q,q=fixN (allF (rulesF m)) true:=⟨_,rfl⟩;rw [←hp,←hq]at ax;have HP:=q8 hp;have HQ:=q8 hq;clear am J ab an g5 r6 r7 f6 f7 hp hq;go_upto_region 7 with(go_at_call 143;refine ax.mono ?_;rintro e w5 ⟨rfl,n5⟩;have N5:=q8 n5;have f:=qE n5 a3;have au:=q8 f;have r9:=cell1 (o:=9) f rfl;have ay:=cell1 (o:=10) f rfl;have f9:=zQ f 9;have a0:=zQ f 10;clear n5 f)
 clear r9 ay f9 a0 s6 s7;have aa: ∀H,H=(w5.setCell (vw a.heap.size 9) (ve vr p)).setCell (vw a.heap.size 10) (ve vr q)→H.heap[a.heap.size]? =some (vk #[vd t m.feats.length y,vd u m.grps.length z,vd B m.atts.length x,vd D m.reqs.length r,vd C m.lims.length l,vd so (rulesF m).length sc,vd Y X x3,ve vp x4,ve vr (maskN m:Nat),ve vr p,ve vr q] 144 (0,0))∧Near a H∧Kept (fun k=>k=a.heap.size) w5 H:=by
  rintro M rfl;have j:=qz (qz au 9 (ve vr p)) 10 (ve vr q);simp only [qb,qh,qd]at j;exact⟨j,((a6.trans N5).set (p:=vw a.heap.size 9) (qt _) _).set (p:=vw a.heap.size 10) (qt _) _,Kept.setCell (S:=fun k=>k=a.heap.size) (Kept.setCell (S:=fun k=>k=a.heap.size) (Kept.refl _ w5) (p:=vw a.heap.size 9) (fun _=>rfl) _) (p:=vw a.heap.size 10) (fun _=>rfl) _⟩
 have h4:=aa _ rfl;generalize(w5.setCell (vw a.heap.size 9) (ve vr p)).setCell (vw a.heap.size 10) (ve vr q)=H at h4⊢;have⟨d,aq,ak⟩:=h4;have D6:=q8 ((D4.near N5).at166 ak au);have ar:=q8 d;have a8:=q8 aq;have s8:=cell1 (o:=8) d rfl;have s9:=cell1 (o:=9) d rfl;have ba:=cell1 (o:=10) d rfl;have t9:=zQ d 9;have az:=zQ d 10;clear aa d aq ak;go_region
 have ao:=q8 (Go.Proofs.Gen.u32_and p (maskN m) (by rw [HP.out];exact q1R _ _) (Z5 L));have av:=q8 (Go.Proofs.Gen.u32_and q (maskN m) (by rw [HQ.out];exact q1R _ _) (Z5 L));rw [ao.out,av.out];have ad: ∀V4,V4=((H.setCell (vw a.heap.size 9) (ve vr ((p&&&maskN m:Nat):Int))).setCell (vw a.heap.size 10) (ve vr ((q&&&maskN m:Nat):Int))).drew→V4.heap[a.heap.size]? =some (vk #[vd t m.feats.length y,vd u m.grps.length z,vd B m.atts.length x,vd D m.reqs.length r,vd C m.lims.length l,vd so (rulesF m).length sc,vd Y X x3,ve vp x4,ve vr (maskN m:Nat),ve vr ((p&&&maskN m:Nat):Int),ve vr ((q&&&maskN m:Nat):Int)] 144 (0,0))∧Near a V4∧Kept (fun k=>k=a.heap.size) H V4:=by
  rintro M rfl;have j:=qz (qz ar 9 (ve vr ((p&&&maskN m:Nat):Int))) 10 (ve vr ((q&&&maskN m:Nat):Int));simp only [qb,qh,qd]at j;exact⟨j,((a8.set (p:=vw a.heap.size 9) (qt _) _).set (p:=vw a.heap.size 10) (qt _) _).drew,(Kept.setCell (S:=fun k=>k=a.heap.size) (Kept.setCell (S:=fun k=>k=a.heap.size) (Kept.refl _ H) (p:=vw a.heap.size 9) (fun _=>rfl) _) (p:=vw a.heap.size 10) (fun _=>rfl) _).drew⟩
 have h5:=ad _ rfl;generalize((H.setCell (vw a.heap.size 9) (ve vr ((p&&&maskN m:Nat):Int))).setCell (vw a.heap.size 10) (ve vr ((q&&&maskN m:Nat):Int))).drew=V4 at h5⊢;have⟨G,aj,ae⟩:=h5;have D7:=q8 (D6.at166 ae ar);have ah:=q8 G;have A:=q8 aj;have y6:=cell1 (o:=6) G rfl;have y7:=cell1 (o:=7) G rfl;have U:=q8 (empty_f D7);obtain⟨nb,O⟩: ∃nb,nb=nowhere (allF (rulesF m)):=⟨_,rfl⟩;rw [←O]at U;have ap:=q8 O;clear ad G aj ae s8 s9 ba t9 az O ao av
 cases nb with
 |false=>
  go_wp2_with (go_at_call 19;refine U.mono ?_;rintro e w7 ⟨rfl,E⟩)
  have c:=qE E ah;have hf: ∀Z,fixM m Z=fixN (allF (rulesF m)) Z&&&maskN m:=fun Z=>by unfold fixM;rw [←ap.out,if_neg (by decide)]
  refine qo (v:= .tuple #[vg a.heap.size,ve vp 0]) (by simp [results,Tryz.results72,go_sem]) rfl ⟨_,by rw [I.out];rfl,fun _=>⟨_,rfl,?_⟩,fun h=>absurd I h,(s.trans K).trans (A.trans E)⟩;exact⟨_,_,_,_,_,_,_,_,_,by rw [hf,hf,←HP.out,←HQ.out];exact c,ai.kept ((s.trans K).trans (A.trans E)) (fun _ _ h=>h) (fun _ h=>h),D2.map (A.trans E) (fun _ _ h=>h.near (A.trans E)),D7.near E⟩
 |true=>
  go_upto_region 9 with(go_at_call 19;refine U.mono ?_;rintro e w7 ⟨rfl,E⟩;have N7:=q8 E;have c:=qE E ah;have aw:=q8 c;have u8:=cell1 (o:=8) c rfl;have u9:=cell1 (o:=9) c rfl;have bc:=cell1 (o:=10) c rfl;have v9:=zQ c 9;have bb:=zQ c 10;clear E c)
  clear y6 y7;go_region
  go_wp2_with fail
  have j:=qz (qz aw 9 (ve vr (maskN m:Nat))) 10 (ve vr (maskN m:Nat));simp only [qb,qh,qd]at j;have hf: ∀Z,fixM m Z=maskN m:=fun Z=>by unfold fixM;rw [←ap.out,if_pos rfl]
  have n8:Near a ((w7.setCell (vw a.heap.size 9) (ve vr (maskN m:Nat))).setCell (vw a.heap.size 10) (ve vr (maskN m:Nat))).drew:=(((A.trans N7).set (p:=vw a.heap.size 9) (qt _) _).set (p:=vw a.heap.size 10) (qt _) _).drew;have k8:Kept (fun k=>k=a.heap.size) w7 ((w7.setCell (vw a.heap.size 9) (ve vr (maskN m:Nat))).setCell (vw a.heap.size 10) (ve vr (maskN m:Nat))).drew:=(Kept.setCell (S:=fun k=>k=a.heap.size) (Kept.setCell (S:=fun k=>k=a.heap.size) (Kept.refl _ w7) (p:=vw a.heap.size 9) (fun _=>rfl) _) (p:=vw a.heap.size 10) (fun _=>rfl) _).drew;refine qo (v:= .tuple #[vg a.heap.size,ve vp 0]) (by simp [results,Tryz.results72,go_sem]) rfl ⟨_,by rw [I.out];rfl,fun _=>⟨_,rfl,?_⟩,fun h=>absurd I h,(s.trans K).trans n8⟩;exact⟨_,_,_,_,_,_,_,_,_,by rw [hf,hf];exact j,ai.kept ((s.trans K).trans n8) (fun _ _ h=>h) (fun _ h=>h),D2.map n8 (fun _ _ h=>h.near n8),(D7.near N7).at166 k8 aw⟩
theorem YX{S:Nat->Prop}{m:Mod}(h:RdMod S w v m)(c: ∀g,S g->g<w.heap.size)(b:Zd m):Calls qj 72 #[v] w (ZY S w m):=by
 by_cases a:chk m=0
 .exact xO h c b a
 .exact KO h c b a
noncomputable def implF (f:F) (i k:Nat):Bool:=nowhere (fun c=>(f c&&c i)&& !c k)
theorem gT{S:Nat→Prop}{m:Mod}(h:ka S w B m){k:Nat}(L:i<24)(Q:k<24):
 Calls qj 155 #[vg B,ve vp i,ve vp k] w fun e f=>e=vm (vj (implF (allF (rulesF m)) i k))∧Near w f:=by
 obtain⟨a,b,c,d,e,sv,x,y,s,z,-,-,v⟩:=h;have⟨D,p,o,q,g⟩:=v.form;simp only [qY,za,qJ,and_true]at g;obtain⟨rfl,rfl⟩:=g;have J:=q8 v;have j:Hid (implF (allF (rulesF m)) i k=nowhere (fun c=>(allF (rulesF m) c&&c i)&& !c k)):=rfl;generalize implF (allF (rulesF m)) i k=r at j⊢;have n: ∀f,Near w f→f.cell? (vw B 6)=some (vd D p o)∧f.cell? (vw B 7)=some (ve vp q):=fun f h=>⟨cell1 (qQ h z) rfl,cell1 (qQ h z) rfl⟩;go_enter Tryz.func155,Tryz.ntmps155;go_upto_region 1 with fail
 go_region_held3 (fun f=>f.cell? (vw B 6)=some (vd D p o)∧f.cell? (vw B 7)=some (ve vp q))
  ((refine n _ ?_;first|exact G|exact t|exact E|exact l|exact(Near.refl _).drew))
  (first
    |(go_at_call_of 147 (qs vp (i:Nat));refine(hasM_calls i L _).mono ?_;rintro e N ⟨Y,rfl,u,V⟩;have R:=q8 u;obtain⟨x1,Z,x3,x4,rfl⟩:=u.form;have l:Near w N:=(Near.refl w).drew.trans V)
    |(go_at_call 74;refine(and_f (J.near l) R).mono ?_;rintro e M ⟨v2,rfl,H,I⟩;have U:=q8 H;obtain⟨x5,x6,x7,x8,rfl⟩:=H.form;have E:Near w M:=l.trans I)
    |(go_at_call_of 147 (qs vp (k:Nat));refine(hasM_calls k Q _).mono ?_;rintro e K ⟨v3,rfl,A,C⟩;have O:=q8 A;obtain⟨X,y2,y3,y4,rfl⟩:=A.form;have t:Near w K:=E.trans C)
    |(go_at_call 23;refine(within_f (U.near C) O).mono ?_;rintro e W ⟨rfl,P⟩;have G:Near w W:=t.trans P))
 go_wp2_with fail
 go_ret;exact⟨by rw [j.out];rfl,G⟩
theorem wM(c i:Nat)(a:c<4294967296)(b:i<32):(bits .and vr ((c:Int)/2^min i 32) 1==0)= !c.testBit i:=by
 rw [Nat.min_eq_left (by omega)];exact QY c i a b
noncomputable def falseB (m:Mod) (i:Nat):Bool:=match m.feats[i]? with|some f=>(decide (f.kind=3)||decide (f.kind=4))&& !(fixM m true).testBit i&&implF (allF (rulesF m)) f.parent.toNat i|none=>false
theorem VN{m:Mod}(h:m.feats.length<=24)(on:Bool):fixM m on<4294967296:=by
 unfold fixM;split
 .exact Z5 h
 .exact zR Nat.and_le_right (Z5 h)
theorem XX{S:Nat→Prop}{m:Mod}(h:ka S w B m)(Q:vC m)(hi:i<m.feats.length):
 Calls qj 81 #[vg B,ve vp i] w fun e E=>e=vm (vj (falseB m i))∧Near w E:=by
 have v:=Q.n24;have U:=q8 (fun(E:World)(W:Near w E)(p:Nat)(hp:p<24)=>gT (h.near W) hp (show i<24 by omega));obtain⟨f,L⟩: ∃f,m.feats[i]? =some f:=⟨_,qi hi⟩;have C:=q8 (fun(H:0<i)=>Q.par H L);have O:=q8 (Q.feat i f L).2.2;have s:=q8 (show falseB m i=((decide (f.kind=3)||decide (f.kind=4))&& !(fixM m true).testBit i&&implF (allF (rulesF m)) f.parent.toNat i) by unfold falseB;rw [L]);obtain⟨a,b,c,d,e,sv,x,y,ad,hB,aa,-,-⟩:=h;obtain⟨_,_,_,_,_,Z,r1,-⟩:=aa
 cases Z;have⟨af,ab,e',hc⟩:=r1;subst e';obtain⟨Y,X,vs,rfl,-,k,Z⟩:=hc i f L;obtain rfl:vs=[vf f.name,ve vp f.parent,ve vq f.kind]:=Z;have g0:w.cell? (vw Y (X+i*3))=some (vf f.name):=k 0 _ rfl;have g1:w.cell? (vw Y (X+i*3+1))=some (ve vp f.parent):=k 1 _ rfl;have g2:w.cell? (vw Y (X+i*3+2))=some (ve vq f.kind):=k 2 _ rfl;have s0:=cell1 (o:=0) hB rfl;have hN:Near w (w.alloc (vk #[vf f.name,ve vp f.parent,ve vq f.kind] 76)):=(Near.refl w).alloc _;have I:=q8 hB;have HN:=q8 hN;have ae:(i:Int)<m.feats.length:=by omega
 have q:=q8 (wM (fixM m true) i (VN v true) (by omega));have j:=q8 (QY (fixM m true) i (VN v true) (by omega));generalize(fixM m true).testBit i=db at q j s;generalize fixM m true=dd at q j s I⊢;by_cases l:f.kind=3∨f.kind=4
 ·have H:0<i:=by
   by_cases H:i=0
   ·have:=O.out
    unfold kindB at this;rw [if_pos H]at this;simp at this;omega
   ·omega
  obtain⟨p0,p1,-⟩:=C H;obtain⟨z,K⟩: ∃n:Nat,f.parent=n:=⟨f.parent.toNat,by omega⟩;have G:=q8 (fun E W=>U E W z (by omega));rw [K]at g1 p0 p1;have g:=q8 (show falseB m i=(!db&&implF (allF (rulesF m)) z i) by rw [s.out,K];rcases l with l|l<;>simp [l]);generalize falseB m i=r at g⊢;generalize implF (allF (rulesF m)) z i=ib at G g;have M:((f.kind:Int)==3)=true∨(((f.kind:Int)==3)=false∧((f.kind:Int)==4)=true):=by
   rcases l with l|l
   ·left;rw [l];rfl
   ·right;rw [l];exact⟨rfl,rfl⟩
  go_enter Tryz.func81,Tryz.ntmps81;go_upto_region 2 with fail
  have P: ∀V,V=w.alloc (vk #[vf f.name,ve vp z,ve vq f.kind] 76)→Near w V∧V.heap[w.heap.size]? =some (vk #[vf f.name,ve vp z,ve vq f.kind] 76 (0,0)):=by
   rintro V rfl;exact⟨(Near.refl w).alloc _,heap_new_at rfl⟩
  have J:=P _ rfl;generalize w.alloc (vk #[vf f.name,ve vp z,ve vq f.kind] 76)=V at J⊢;have⟨A,t⟩:=J;have k1:V.cell? (vw w.heap.size 1)=some (ve vp (z:Nat)):=cell1 t rfl;have k2:V.cell? (vw w.heap.size 2)=some (ve vq f.kind):=cell1 t rfl;have ag:=cell1 (o:=10) (qQ A I) rfl;have R:=q8 (G V A);have u:=q8 A;have b1:=q.out;have b2:=j.out
  cases db
  all_goals
   simp only [Bool.not_true,Bool.not_false]at b1 b2;rcases M with D|⟨D,N⟩
   all_goals
    go_wp2_with (go_at_call 155;refine R.mono ?_;rintro e w1 ⟨rfl,n1⟩)
    go_ret
    first
     |exact⟨by rw [g.out];rfl,u.trans n1⟩
     |exact⟨by rw [g.out];rfl,u⟩
 ·have g:=q8 (show falseB m i=false by rw [s.out,decide_eq_false (fun h=>l (vu h)),decide_eq_false (fun h=>l (vv h))];rfl)
  generalize falseB m i=r at g⊢;have D:((f.kind:Int)==3)=false:=beq_eq_false_iff_ne.2 (fun h=>l (vu (by omega)));have N:((f.kind:Int)==4)=false:=beq_eq_false_iff_ne.2 (fun h=>l (vv (by omega)));go_enter Tryz.func81,Tryz.ntmps81;go_upto_region 2 with fail
  have P: ∀V,V=w.alloc (vk #[vf f.name,ve vp f.parent,ve vq f.kind] 76)→Near w V∧V.heap[w.heap.size]? =some (vk #[vf f.name,ve vp f.parent,ve vq f.kind] 76 (0,0)):=by
   rintro V rfl;exact⟨(Near.refl w).alloc _,heap_new_at rfl⟩
  have J:=P _ rfl;generalize w.alloc (vk #[vf f.name,ve vp f.parent,ve vq f.kind] 76)=V at J⊢;have⟨A,t⟩:=J;have k2:V.cell? (vw w.heap.size 2)=some (ve vq f.kind):=cell1 t rfl;have u:=q8 A;go_wp2_with fail
  go_ret;exact⟨by rw [g.out];rfl,u⟩
theorem q7o:(qj.info? 38).map (fun i=>(i.zero,i.size,i.bytes))=some (some (ve vr 0),1,4):=by kernel_rfl
noncomputable def q6g (m:Mod) (i k:Nat):Bool:= !(fixM m true).testBit k&& (implF (allF (rulesF m)) i k&&implF (allF (rulesF m)) k i)
noncomputable def atX (m:Mod) (i:Nat):Nat->Nat
 |0=>0
 |d+1=>if q6g m i (i+d)=true then atX m i d|||2^ (i+d)else atX m i d
noncomputable def atS (m:Mod):Nat->Nat×List Nat
 |0=>(fixM m true,[])
 |i+1=>if(atS m i).1.testBit i=true then atS m i else((atS m i).1|||atX m i (m.feats.length - i),(atS m i).2++[atX m i (m.feats.length - i)])
theorem Ws(m:Mod)(i:Nat): ∀d,i+d<=24->atX m i d<2^24
 |0,_=>by simp [atX]
 |d+1,h=>by
  rw [atX];split
  .exact Nat.or_lt_two_pow (Ws m i d (by omega)) (Nat.pow_lt_pow_right (by decide) (by omega))
  .exact Ws m i d (by omega)
theorem q1S{m:Mod}(h:m.feats.length<=24)(on:Bool):fixM m on<2^24:=by
 have:maskN m<2^24:=by
  unfold maskN
  have:2^m.feats.length<=2^24:=zr (by decide) h
  have:(2:Nat)^24=16777216:=by decide
  omega
 unfold fixM;split
 .exact this
 .exact zR Nat.and_le_right this
theorem q4W{m:Mod}(h:m.feats.length<=24): ∀i,i<=m.feats.length->(atS m i).1<2^24/\(atS m i).2.length<=i
 |0,_=>⟨q1S h true,qt _⟩
 |i+1,b=>by
  have a:=q4W h i (by omega);rw [atS];split
  .exact⟨a.1,by omega⟩
  .exact⟨Nat.or_lt_two_pow a.1 (Ws m i _ (by omega)),by simp;omega⟩
def u32V(n:Nat):Value:= .int .u32 (n:Nat)
theorem Kr{S:Nat→Prop}{m:Mod}(h:ka S w B m)(I:m.feats.length≤24):
 Calls qj 79 #[vg B] w fun e O=> ∃s,e=vm s∧O.ownsRow w.heap.size 38 1 s (atS m m.feats.length).2.length ((atS m m.feats.length).2.map u32V)∧Near w O:=by
 have HS:=q8 h;have⟨am,Y,av,aj,ap⟩:=info_parts q7o;obtain⟨a,b,c,d,e,sv,x,y,ax,hB,au,-,-⟩:=h;obtain⟨_,_,_,_,_,hv,r1,-⟩:=au
 cases hv;obtain⟨fo,fc,rfl⟩:=r1.form;have HB:=q8 hB;have ag:=q8 (VN I true);have HX:=q8 (fun i d (h:i+d≤24)=>wF (Ws m i d h) (by decide:2^24<4294967296));have HA:=q8 (fun i (h:i≤m.feats.length)=>q4W I i h);have ak:=q8 (fun(O:World)(hn:Near w O)(i k:Nat)(hi:i<m.feats.length)(U:k<m.feats.length)=>gT (HS.near hn) (show i<24 by omega) (show k<24 by omega));have s0:=cell1 (o:=0) hB rfl;have af:=cell1 (o:=10) hB rfl;clear hB;go_enter Tryz.func79,Tryz.ntmps79;go_wp2_with fail
 clear s0 af;go_loopw [3,4,18] (fun v J ix wr=> ∃i:Nat,i≤m.feats.length∧ix=ve vp i∧J=ve vr ((atS m i).1:Nat)∧wr.ownsRow w.heap.size 38 1 v (atS m i).2.length ((atS m i).2.map u32V)∧Near w wr) (fun _ _ ix _=>m.feats.length - (intOf ix).toNat)
 case atStart=>exact⟨0,qv _,rfl,rfl,World.ownsRow_nil _ _ _ _,Near.refl _⟩
 case round=>
  obtain⟨i,hi,rfl,rfl,A,X⟩:=hrel;have⟨f,K⟩:=HA i hi;have ae:atS m (i+1)=if(atS m i).1.testBit i=true then atS m i else((atS m i).1|||atX m i (m.feats.length - i),(atS m i).2++[atX m i (m.feats.length - i)]):=by rw [atS]
  obtain⟨vo,vc,rfl⟩:=qR A;have R:=q8 A;have n:=q8 X;have l:=q8 ae;clear A X ae;by_cases P:i<m.feats.length
  ·have aw:(i:Int)<m.feats.length:=by omega
   generalize atS m i=st at R l f K⊢;have⟨J,L⟩:=st;dsimp only at R l f K⊢;have M:=wM J i (wF f (by decide)) (by omega);have u:=q0k J i (wF f (by decide)) (by omega);have z:=gD J i (wF f (by decide)) (by omega)
   cases Q:J.testBit i with
   |true=>
    rw [Q]at u z;rw [Q,if_pos rfl]at l;clear M Q;go_wp2_with fail
    exact⟨⟨i+1,P,by go_num,by rw [l.out],by rw [l.out];exact R,n⟩,by simp [intOf];omega⟩
   |false=>
    rw [Q]at u z;rw [Q,if_neg (by decide)]at l;have HD:Hid (J<4294967296):=wF f (by decide);clear M Q f;have ao:=q8 (fun d (h:i+d≤m.feats.length)=>HX i d (by omega));obtain⟨wo,ai⟩: ∃x,x=wr:=⟨_,rfl⟩;subst ai;have z0:=n.cell (cell1 (o:=0) HB rfl);go_wp2_with fail
    clear z0;go_loopw [6,7] (fun xv kv w2=> ∃d:Nat,i+d≤m.feats.length∧kv=ve vp ((i+d:Nat):Int)∧xv=ve vr (atX m i d:Nat)∧Near wo w2) (fun _ kv _=>m.feats.length - (intOf kv).toNat)
    case atStart=>exact⟨0,by omega,by simp,by simp [atX],Near.refl _⟩
    case round=>
     obtain⟨d,hd,rfl,rfl,ad⟩:=hrel;have p:=q8 ad;have G:atX m i (d+1)=if q6g m i (i+d)=true then atX m i d|||2^ (i+d)else atX m i d:=by rw [atX]
     have aa:=q8 (ao d hd);have Z:=q8 (show i+d=m.feats.length→d=m.feats.length - i by omega);have t:=q8 (show((i+d:Nat):Int)+1=((i+(d+1):Nat):Int) by omega);clear ad;obtain⟨k,U⟩: ∃k,k=i+d:=⟨_,rfl⟩;rw [←U]at G hd Z t⊢;have E:=q8 U;clear U;have s0:=(n.trans p).cell (cell1 (o:=0) HB rfl);have af:=(n.trans p).cell (cell1 (o:=10) HB rfl);by_cases az:k<m.feats.length
     ·have ay:(k:Int)<m.feats.length:=by omega
      have b1:=wM (fixM m true) k ag (by omega);have b2:=QY (fixM m true) k ag (by omega);have hj:q6g m i k=(!(fixM m true).testBit k&& (implF (allF (rulesF m)) i k&&implF (allF (rulesF m)) k i)):=rfl;have al:=q8 (vG (atX m i d) k aa (by omega));have HG:=q8 (fun(O:World)(hn:Near w O)(i k:Nat)(hi:i<m.feats.length)(U:k<m.feats.length)=>ak O hn i k hi U);generalize implF (allF (rulesF m))=g at HG hj;have C:=n.trans p;have nq:=p.out;generalize(fixM m true).testBit k=db at b1 b2 hj;rw [hj]at G;have D:=q8 G;clear hj G
      cases db
      all_goals
       simp only [Bool.not_true,Bool.not_false]at b1 b2
      ·cases N:g i k with
       |false=>
        have q:=q8 (show atX m i (d+1)=atX m i d by rw [D.out,N];rfl);go_wp2_with (go_at_call 155;refine(HG _ C _ _ (by assumption) (by assumption)).mono ?_;rintro e w3 ⟨rfl,H⟩;replace C:=C.trans H;replace nq:=nq.trans H)
        exact⟨⟨d+1,by have:=E.out;omega,by rw [←t.out],by rw [q.out],nq⟩,by simp [intOf];omega⟩
       |true=>
        cases ab:g k i with
        |false=>
         have q:=q8 (show atX m i (d+1)=atX m i d by rw [D.out,N,ab];rfl);go_wp2_with (go_at_call 155;refine(HG _ C _ _ (by assumption) (by assumption)).mono ?_;rintro e w3 ⟨rfl,H⟩;replace C:=C.trans H;replace nq:=nq.trans H)
         exact⟨⟨d+1,by have:=E.out;omega,by rw [←t.out],by rw [q.out],nq⟩,by simp [intOf];omega⟩
        |true=>
         have q:=q8 (show atX m i (d+1)=atX m i d|||2^k by rw [D.out,N,ab];rfl);go_wp2_with (go_at_call 155;refine(HG _ C _ _ (by assumption) (by assumption)).mono ?_;rintro e w3 ⟨rfl,H⟩;replace C:=C.trans H;replace nq:=nq.trans H)
         exact⟨⟨d+1,by have:=E.out;omega,by rw [←t.out],by rw [q.out,al.out],nq⟩,by simp [intOf];omega⟩
      ·go_wp2_with fail
       exact⟨⟨d+1,by have:=E.out;omega,by rw [←t.out],by rw [D.out];simp,p⟩,by simp [intOf];omega⟩
     ·have aq:k=m.feats.length:=by omega
      have W:=Z aq;have an:=q8 (Go.Proofs.Gen.u32_or J (atX m i d) HD aa);rw [←W]at l;clear W;go_wp2_with (at_builtin;go_must (refine wpList_append_more rfl (.tmp 64) (.tmp 66) 57 rfl w.heap.size 38 am (ve vr 0) 1 4 Tryz.underlying57 Y av aj ap rfl (by decide) (vd vo L.length vc) L.length (L.map u32V) rfl (owns_kept R (p.alloc _) (fun _ _ h=>h)) _ 1 [ve vr (atX m i d:Nat)] rfl ⟨rfl,vv ⟨_,1,rfl,cell_one_at (by simp) _ _⟩⟩ (by simp [Value.oneCell']) (by unfold maxLen;omega) (by omega) (by have:=n.size;have:=p.size;simp;omega) ?_);go_must (intro b4 c4 w4 r V;have ar:=q8 r;have ah:=q8 (Kept.grown ((n.trans p).alloc _) V (fun j e P=>by have:=(R.lt _ e).1;omega):Near w w4);clear r V))
      exact⟨⟨i+1,P,by go_num,by rw [l.out,an.out],by rw [l.out];show w4.ownsRow _ _ _ _ (L++[atX m i d]).length ((L++[atX m i d]).map u32V);rw [ze,qn];exact ar,ah⟩,by simp [intOf];omega⟩
  ·obtain rfl:i=m.feats.length:=by omega
   go_wp2_with fail
   go_ret;exact⟨_,rfl,R,n⟩
end Go.Proofs.YtjcbmcnbdegpmaaGreatDoor
namespace Go.Proofs.YtjcbmcnbdegpmaaGreatDoor
open Go Go.RowKit Go.Shelf Go.Proofs.Gen Go.Proofs.Mod
attribute [local go_sem] Oper.semAt_some
def KeepB(a B:Nat)(W W':World):Prop:=Kept (fun g=>a<=g/\g≠B) W W'
def encB(us:List (Value×Value))(x:{j:Nat//j<us.length}):Array Value:= #[.int .i64 (x.1:Nat),.agg #[us[x.1].1,us[x.1].2]]
def downL(n k:Nat):List Nat:=((qO n).drop k).reverse
theorem GD{n j:Nat}(h:j<n):downL n j=downL n (j+1)++[j]:=by
 unfold downL;rw [yz (by simpa using h),List.reverse_cons];simp
theorem q22(n:Nat):downL n n=[]:=by simp [downL]
theorem q4c(n:Nat)(hn:1<=n)(l o a:Nat)(ao:Option Addr)(cap:Nat)(c:List (Value×Value))(E:c.length<4611686018427387904)(J D:List {j:Nat//j<c.length}->World->Prop)
 (K: ∀b x W,J b W->b.length<c.length->YieldAt Fence.wide (n - 1) qj l (encB c x) W fun e m=>
   (e=vm (vj true)/\J (b++[x]) m/\KeepB a o W m)\/(e=vm (vj false)/\D (b++[x]) m))
 (W:World) (R:W.cell? o=some (vd ao c.length cap))
 (L: ∀j (h:j<c.length),∃g,ao=some ⟨g,0,none⟩/\g<a/\W.cell? (vw g (j*2))=some c[j].1/\W.cell? (vw g (j*2+1))=some c[j].2) (U:J [] W):
 CallsIn Fence.wide n qj 208 #[.func (.yield l) #[] #[],vg o] W fun e m=>(∃v,e=vm v)/\
  ((∃B:List {j:Nat//j<c.length},B.map (·.1)=downL c.length 0/\J B m)\/(∃b,True/\D b m)):=by
 have N:=q8 K;have P:=q8 L;refine callsIn_of_wp Tryz.func208 rfl trivial ?_ rfl;simp only [Tryz.ntmps208,List.size_toArray,List.length_cons,List.length_nil,Nat.reduceAdd,Nat.reduceSub,Array.replicate_succ,Array.replicate_zero,List.push_toArray,List.append_toArray,yV,zl];gi_wp2;gi_loopw [3] (fun i wr=> ∃(k:Nat)(b:List {j:Nat//j<c.length}),k<=c.length/\i=ve vp ((k:Int) - 1)/\b.map (·.1)=downL c.length k/\J b wr/\KeepB a o W wr) (fun i _=>(intOf i+1).toNat)
 case atStart=>exact⟨c.length,[],qt _,rfl,by rw [q22];rfl,U,Kept.refl _ _⟩
 case round=>
  obtain⟨k,b,hk,rfl,q,V,z⟩:=hrel;have C:=q8 V;have r:=q8 z;have d:=q8 q
  cases k with
  |zero=>
   gi_wp2;go_end0
   exact⟨⟨_,rfl⟩,vu ⟨b,d,C⟩⟩
  |succ j=>
   have s:j<c.length:=by omega
   have S:(j:Int)<c.length:=by omega
   have M:(0:Int)<=j:=by omega
   rw [show(((j+1:Nat):Int) - 1)=(j:Int) by omega];have A:b.length<c.length:=by
    have:=congrArg uq d
    simp [downL]at this;omega
   obtain⟨g,rfl,O,u,t⟩:=P j s;have⟨fn,G,assign,H,I,Q⟩:=N b ⟨j,s⟩ wr C A;dsimp only [encB]at I;have b1:wr.cell? o=some (vd g c.length cap):=r.cell R (fun e=>e.2 rfl);have X:wr.cell? (vw g (j*2))=some c[j].1:=r.cell u (fun e=>by have h:a<=g:=e.1;omega);have Y:wr.cell? (vw g (j*2+1))=some c[j].2:=r.cell t (fun e=>by have h:a<=g:=e.1;omega);gi_wp2;refine Q.mono ?_;have f:=q8 (GD s);rintro e Z (⟨rfl,y,w⟩|⟨rfl,p⟩)
   .gi_wp2
    go_roundw
    case rel=>exact⟨j,b++[⟨j,s⟩],by omega,by go_num,by rw [ze,d.out,f.out,List.map_singleton],y,Kept.trans r w⟩
    case measure=>simp [intOf]
   .gi_wp2
    refine qo (results_none rfl _ _ _) rfl ?_;exact⟨⟨_,rfl⟩,vv ⟨_,trivial,p⟩⟩
theorem q00(n:Nat)(r:1<=n)(f a:Nat)(ao:Option Addr)(cap:Nat)(c:List (Value×Value))(d:c.length<4611686018427387904)(w:World)(k:w.cell? f=some (vd ao c.length cap))
 (s: ∀j (h:j<c.length),∃g,ao=some ⟨g,0,none⟩/\g<a/\w.cell? (vw g (j*2))=some c[j].1/\w.cell? (vw g (j*2+1))=some c[j].2):
 SeqStopsK Fence.wide n qj 208 #[vg f] (encB c) (KeepB a f) (fun u=>u.map (·.1)=downL c.length 0) (fun _=>True) c.length w:=by
 intro l J y W q _ _ i t;have b: ∀{p:Addr}{v:Value},w.cell? p=some v->W.cell? p=some v:=fun {p v} h=>(q.cell (p:=p) (qM w _ h)).trans h;exact q4c n r l f a ao cap c d J y i W (b k) (fun j h=>let⟨g,e,m,x,o⟩:=s j h;⟨g,e,m,b x,b o⟩) t
theorem back_calls(ao:Option Addr)(n cap:Nat)(w:World):Calls qj 153 #[vd ao n cap] w fun e a=>e=vm (.func (.func 208) #[] #[vg w.heap.size])/\a=w.alloc (vk #[vd ao n cap] 135):=by
 go_enter Tryz.func153,Tryz.ntmps153;go_wp2
 go_ret;exact⟨rfl,rfl⟩
end Go.Proofs.YtjcbmcnbdegpmaaGreatDoor
namespace Go.Proofs.YtjcbmcnbdegpmaaGreatDoor
open Go Go.RowKit Go.Proofs.Gen Go.Proofs.Mod
def atF(fs:List F)(j:Nat):F:=fun c=>match fs[j]? with|some f=>f c|none=>true
def prodF(fs:List F)(js:List Nat):F:=fun c=>js.all fun j=>atF fs j c
def behP(fs:List F)(js:List Nat):List F:=(qO (js.length+1)).map fun t=>prodF fs (js.take t)
theorem q4a(fs:List F):behP fs []=[fun _=>true]:=rfl
theorem wh(fs:List F)(js:List Nat):(behP fs js).length=js.length+1:=by simp [behP]
theorem q2t(fs:List F)(js:List Nat)(x:Nat):behP fs (js++[x])=behP fs js++[fun c=>prodF fs js c&&atF fs x c]:=by
 unfold behP;rw [qn,yW,jw,ze];congr 1
 .refine List.map_congr_left fun t a=> ?_
  rw [yd]at a;rw [List.take_append_of_le_length (by omega)]
 .simp only [yL,List.map_nil]
  congr 1;funext c;rw [zE (by simp)];simp [prodF]
theorem q2u(fs:List F)(js:List Nat):(behP fs js)[js.length]? =some (prodF fs js):=by
 unfold behP;rw [qA,yT (by omega)];simp
theorem Xi(fs:List F): ∀t,t<=fs.length-> ∀c,prodF fs ((downL fs.length 0).take t) c=allF (fs.drop (fs.length - t)) c
 |0,_,c=>by simp [prodF,allF]
 |t+1,f,c=>by
  have b:=Xi fs t (by omega) c;have d:(downL fs.length 0)[t]? =some (fs.length - 1 - t):=by
   unfold downL;rw [List.drop_zero,List.getElem?_reverse (by simp;omega),List.length_range,yT (by omega)]
  have a:fs[fs.length - 1 - t]? =some fs[fs.length - 1 - t]:=qi (by omega);rw [qU,d];have e:fs.drop (fs.length - (t+1))=fs[fs.length - 1 - t]::fs.drop (fs.length - t):=by
   rw [show fs.length - (t+1)=fs.length - 1 - t by omega,yz (by omega),show fs.length - 1 - t+1=fs.length - t by omega]
  rw [e];unfold prodF allF at*
  rw [List.all_append,b,List.all_cons,Bool.and_comm];simp [atF,a]
theorem q6C(fs:List F):(behP fs (downL fs.length 0)).reverse=(qO (fs.length+1)).map fun k=>allF (fs.drop k):=by
 have a:(downL fs.length 0).length=fs.length:=by simp [downL]
 apply List.ext_getElem?;intro i;by_cases b:i<fs.length+1
 .rw [List.getElem?_reverse (by rw [wh,a];omega),wh,a,qA,yT b]
  unfold behP;rw [qA,yT (by rw [a];omega)];simp only [Option.map_some,zo];funext c;rw [Xi fs _ (by omega) c];congr 2;omega
 .rw [zP (by rw [List.length_reverse,wh,a];omega),zP (by simp;omega)]
theorem q2F{fs:List F}{k:Nat}{f:F}(h:fs[k]? =some f):(fun c=>allF (fs.take k) c&&f c)=allF (fs.take (k+1)):=by
 funext c;rw [qU,h];simp [allF]
noncomputable def q5F (m:Mod) (i:Nat):Bool:=
 match(rulesOf m)[i]?,(rulesF m)[i]? with
 |some r,some f=>(decide (r.1=6)||decide (r.1=7))&&nowhere fun c=>(allF ((rulesF m).take i) c&&allF ((rulesF m).drop (i+1)) c)&& !f c
 |_,_=>false
noncomputable def redTo (m:Mod) (k:Nat):List Nat:=(qO k).filter (q5F m)
theorem WV(m:Mod)(k:Nat):redTo m (k+1)=redTo m k++if q5F m k=true then [k]else []:=by
 unfold redTo;rw [jw,List.filter_append];simp only [List.filter_cons,List.filter_nil]
theorem Xg(m:Mod)(k:Nat):(redTo m k).length<=k:=qH (List.length_filter_le _ _) (by simp)
end Go.Proofs.YtjcbmcnbdegpmaaGreatDoor
namespace Go.Proofs.YtjcbmcnbdegpmaaGreatDoor
open Go Go.RowKit Go.Sort Go.Proofs.Gen Go.Proofs.Mod
variable{fs:List F}{w w':World}
abbrev Q4:=Option Addr×Nat×Nat×Int
def q33(q:Q4):Value×Value:=(.slice q.1 q.2.1 q.2.2.1,.int .i64 q.2.2.2)
def q6T(q:Q4):List Value:=[(q33 q).1,(q33 q).2]
theorem VF(w:World)(n g:Nat)(d:Array Q4):Kept (fun k=>k=g) w (putRowK q6T 2 (Sort.ahead w n) g 0 d):=by
 refine⟨rfl,rfl,rfl,?_,fun k b a=> ?_⟩
 .show w.heap.size<=(w.heap.modify _ _).size
  rw [Array.size_modify];exact qt _
 .show(w.heap.modify _ _)[k]? =w.heap[k]?
  rw [Array.getElem?_modify,if_neg (fun e=>a e.symm)]
theorem IsF.at53{v:Value}{f:F}{b:Nat}{cs:Array Value}{a:Nat×Nat}(h:IsF w v f)(c:Kept (fun k=>k=b) w w')(d:w.heap[b]? =some (vk cs 43 a)):IsF w' v f:=
 h.only (e:=43) ⟨fun k=>k=b,c,fun k _ e=>⟨cs,a,e▸d⟩⟩ (by decide)
def q2L(w:World)(g:Nat)(fs:List F):Prop:= ∀(j:Nat)(f:F),fs[j]? =some f-> ∃u v,w.cell? ⟨g,j*2,none⟩=some u/\w.cell? ⟨g,j*2+1,none⟩=some v/\IsF w (.agg #[u,v]) f
theorem q2L.near{g:Nat}(h:q2L w g fs)(a:Near w w'):q2L w' g fs:=fun j f b=>
 let⟨u,v,d,c,e⟩:=h j f b;⟨u,v,a.cell d,a.cell c,e.near a⟩
theorem q7b: ∀{vs:List (Value×Value)},(∀p∈vs,∃q:Q4,p=q33 q)-> ∃ds:List Q4,vs=ds.map q33
 |[],_=>⟨[],rfl⟩
 |p::vs,h=>by
  obtain⟨q,rfl⟩:=h p List.mem_cons_self;obtain⟨ds,rfl⟩:=q7b (vs:=vs) fun p hp=>h p (List.mem_cons_of_mem _ hp);exact⟨q::ds,rfl⟩
theorem VK{g:Nat}{d:Array Q4}(h:HoldsK q6T 2 w g 0 d){j:Nat}{q:Q4}(e:d[j]? =some q):w.cell? (vw g (j*2))=some (q33 q).1/\w.cell? (vw g (j*2+1))=some (q33 q).2:=by
 obtain⟨a,rfl⟩:=qk.1 e;have b:=(h (j*2) (by rw [size_flatK];omega)).1;have c:=(h (j*2+1) (by rw [size_flatK];omega)).1;rw [get_flatK _ _ _ _ (by omega),show j*2/2=j by omega,show j*2%2=0 by omega,getElem!_pos d j a,zz]at b;rw [get_flatK _ _ _ _ (by omega),show(j*2+1)/2=j by omega,show(j*2+1)%2=1 by omega,getElem!_pos d j a,zz]at c;exact⟨b,c⟩
theorem q0L{base:Nat}{g cap:Nat}(h:Sets 43 IsF base w (vd g fs.length cap) fs)(N:fs.length<=4611686018427387904):
 Calls qj 154 #[vd g fs.length cap] w fun e A=>e=vm (.tuple #[])/\q2L A g fs.reverse/\Kept (fun k=>k=g) w A:=by
 have⟨z,B,l,G⟩:=h;obtain⟨i,rfl⟩:=q7b (vs:=z) fun p L=>by
  have⟨j,o⟩:=qZ L;have C:j<fs.length:=by rw [<-l];exact(qm.1 o).1
  have⟨a,b,c,d,e⟩:=(G j _ p (qi C) o).form;simp only [qY,za,qJ,and_true]at e;exact⟨(a,b,c,d),Prod.ext e.1 e.2⟩
 rw [List.length_map]at l;rcases B.2 with⟨e,-⟩|⟨Q,D,M,e,-,E,-,-,O,P⟩
 .cases e
 cases e;have I:HoldsK q6T 2 w g 0 i.toArray:=by
  intro t m;rw [size_flatK]at m;have o:t/2<i.length:=by simp at m;omega
  have⟨s,r⟩:=gY (vs:=i.map q33) (j:=t/2) (p:=q33 i[t/2]) (by rw [qA,qi o];rfl);refine⟨?_,zQ E _⟩;rw [get_flatK _ _ _ t m,getElem!_pos i.toArray (t/2) (by simpa using o),zz];rcases Nat.mod_two_eq_zero_or_one t with y|y
  .rw [y]
   rw [show t/2*2=t by omega]at s;exact(yh B s).1
  .rw [y]
   rw [show t/2*2+1=t by omega]at r;exact(yh B r).1
 have K:=AnyQ.slices_Reverse q66 2 (fun _=>by kernel_rfl) (fun _=>by kernel_rfl) q6T (fun _=>rfl) (fun q v J=>by
  simp only [q6T,List.mem_cons,List.not_mem_nil,or_false]at J;rcases J with rfl|rfl<;>rfl) g 0 cap i.toArray w I (by simp;omega)
 rw [show i.toArray.size=fs.length by simpa using l]at K;refine K.mono ?_;rintro e A ⟨rfl,n,rfl⟩;have H:=VF w n g i.toArray.reverse;have u:=holdsK_putRowK q6T 2 (Sort.ahead w n) g 0 i.toArray i.toArray.reverse I (by simp);refine⟨rfl,fun j f x=> ?_,H⟩;have o:j<i.length:=by
  have:=(qm.1 x).1
  simp at this;omega
 rw [List.getElem?_reverse (by omega)]at x;have⟨s,r⟩:=VK u (j:=j) (q:=i[i.length - 1 - j]) (by simp [o]);refine⟨_,_,s,r,IsF.at53 (G (fs.length - 1 - j) f (q33 i[i.length - 1 - j]) x ?_) H E⟩;rw [qA,<-l,qi (by omega)];rfl
end Go.Proofs.YtjcbmcnbdegpmaaGreatDoor
namespace Go.Proofs.YtjcbmcnbdegpmaaGreatDoor
open Go Go.RowKit Go.Shelf Go.Proofs.Gen Go.Proofs.Mod
theorem Xp{W g:World}{base e b n:Nat}{v:Value}{i:List Value}{row:Option Nat}(h:W.ownsRow base e b v n i)(j:W.grownBy g row)(q: ∀r,row=some r-> ∃o:Obj,W.heap[r]? =some o/\o.isCells=false):g.ownsRow base e b v n i:=by
 refine owns_kept (R:=fun k=>row=some k) h (Kept.grown (Kept.refl _ _) j (fun k d _=>d)) (fun k d c=> ?_);have⟨o,f,l⟩:=q k c;obtain⟨-,p,s,m⟩:=zY h d;rw [m]at f
 cases f
 cases l
theorem IsF.grew{W c:World}{v:Value}{f:F}{row:Option Nat}(h:IsF W v f)(d:W.grownBy c row)(j: ∀r,row=some r-> ∃o:Obj,W.heap[r]? =some o/\o.isCells=false):IsF c v f:=by
 obtain⟨t,⟨i,e,rfl,b⟩,g⟩:=h;exact⟨t,⟨i,e,rfl,Xp b d j⟩,g⟩
theorem Wg: ∀{l:List (Nat×Nat)}{k:Nat}{r:Nat×Nat},l[k]? =some r->(flatR l)[k*2]? =some (ve vq r.1)/\(flatR l)[k*2+1]? =some (ve vp r.2)
 |x::l,0,r,h=>by cases h;exact⟨rfl,rfl⟩
 |x::l,k+1,r,h=>by
  have b:=Wg (l:=l) (k:=k) (r:=r) h;have e:flatR (x::l)=ve vq x.1::ve vp x.2::flatR l:=rfl;rw [e,show(k+1)*2=k*2+1+1 by omega];simpa using b
def BehI(R:Nat)(W2:World)(fs:List F)(js:List Nat)(W:World):Prop:=
 ∃ao cap,W.heap[R+1]? =some (.cells #[.slice ao (js.length+1) cap] 135 (0,0))/\Sets 43 IsF R W (.slice ao (js.length+1) cap) (behP fs js)/\Kept (fun b=>R<=b/\b≠R+2) W2 W
theorem q2s{R:Nat}{d:World}{fs:List F}(n:d.heap.size=R+3){js:List Nat}{W m:World}{row:Option Nat}(h:BehI R d fs js W)(c:W.grownBy m row)(i: ∀r,row=some r->d.heap.size<=r/\ ∃o:Obj,W.heap[r]? =some o/\o.isCells=false):BehI R d fs js m:=by
 have⟨x,g,l,⟨B,u,t,y⟩,q⟩:=h;have b: ∀r,row=some r-> ∃o:Obj,W.heap[r]? =some o/\o.isCells=false:=fun r e=>(i r e).2;refine⟨x,g,?_,⟨B,Xp u c b,t,fun j f p s n=>(y j f p s n).grew c b⟩,q.grown c fun k e A=>by have:=(i k e).1;omega⟩;exact(c.block _ (qk.1 l).1 (fun e=>by have:=(i _ e.symm).1;omega)).trans l
theorem q49{R:Nat}{W2 W Z w3:World}{fs:List F}{js:List Nat}{x:Nat}{ao ao3:Option Addr}{cap cap3:Nat}{vs:List (Value×Value)}{u v:Value}{cs:Array Value}{fr:Nat×Nat}(h2:W2.heap.size=R+3)(hbt:W2.heap[R+2]? =some (.cells cs 135 fr))
 (hb:W.heap[R+1]? =some (.cells #[.slice ao (js.length+1) cap] 135 (0,0))) (hown:W.ownsRow R 43 2 (.slice ao (js.length+1) cap) (js.length+1) (uL vs)) (hvl:vs.length=js.length+1) (hvs: ∀(j:Nat)(f:F)(p:Value×Value),(behP fs js)[j]? =some f->vs[j]? =some p->IsF W (.agg #[p.1,p.2]) f)
 (hk:Kept (fun b=>R<=b/\b≠R+2) W2 W) (hn:Near W Z) (hg:Z.grownBy w3 (qw ao (js.length+1) cap).ownBlock) (hown3:w3.ownsRow R 43 2 (.slice ao3 (js.length+1+1) cap3) (js.length+1+1) (uL vs++[u,v])) (hf:IsF Z (.agg #[u,v]) (fun c=>prodF fs js c&&atF fs x c)):
 w3.heap[R+1]? =some (.cells #[.slice ao (js.length+1) cap] 135 (0,0))/\ ∀W4,W4=w3.setCell ⟨R+1,0,none⟩ (.slice ao3 (js.length+1+1) cap3)->KeepsFrom W2.heap.size W W4/\KeepB R (R+2) W W4/\BehI R W2 fs (js++[x]) W4:=by
 have hbt':W.heap[R+2]? =some (.cells cs 135 fr):=qQ hk hbt (fun e=>e.2 rfl);have hrow: ∀k,(qw ao (js.length+1) cap).ownBlock=some k->R<=k/\k≠R+1/\k≠R+2/\ ∃cur fr,W.heap[k]? =some (.cells cur 43 fr):=fun k e=>by
  obtain⟨h1,cur,fr,h3⟩:=zY hown e;refine⟨h1,fun e=> ?_,fun e=> ?_,cur,fr,h3⟩
  .rw [e,hb]at h3;cases h3
  .rw [e,hbt']at h3;cases h3
 have hkW:Kept (fun b=>(qw ao (js.length+1) cap).ownBlock=some b) W w3:=Kept.grown hn.kept hg fun k e _=>e;have hb3:w3.heap[R+1]? =some (.cells #[.slice ao (js.length+1) cap] 135 (0,0)):=qQ hkW hb (fun e=>(hrow _ e).2.1 rfl);refine⟨hb3,?_⟩;rintro W4 rfl;have hk4:Kept (fun b=>b=R+1\/(qw ao (js.length+1) cap).ownBlock=some b) W (w3.setCell ⟨R+1,0,none⟩ (.slice ao3 (js.length+1+1) cap3)):=Kept.setCell (Kept.mono hkW fun _ _ e=> .inr e) (p:=⟨R+1,0,none⟩) (fun _=> .inl rfl) _;have hkB:Kept (fun b=>R<=b/\b≠R+2) W (w3.setCell ⟨R+1,0,none⟩ (.slice ao3 (js.length+1+1) cap3)):=Kept.mono hk4 fun k _ e=>by
  rcases e with rfl|e
  .exact⟨by omega,by omega⟩
  .exact⟨(hrow k e).1,(hrow k e).2.2.1⟩
 have far: ∀{Y:World}{y:Value}{g:F},IsF Y y g->(∀k,(qw ao (js.length+1) cap).ownBlock=some k-> ∃cur fr,Y.heap[k]? =some (.cells cur 43 fr))->Kept (fun b=>(qw ao (js.length+1) cap).ownBlock=some b) Y w3->IsF (w3.setCell ⟨R+1,0,none⟩ (.slice ao3 (js.length+1+1) cap3)) y g:=fun hy hc hk'=>by
  have h1:=hy.only (e:=43) ⟨_,hk',fun k _ e=>hc k e⟩ (by decide);exact h1.only (e:=135) ⟨fun b=>b=R+1,Kept.setCell (S:=fun b=>b=R+1) (Kept.refl _ w3) (p:=⟨R+1,0,none⟩) (fun _=>rfl) _,fun k _ e=>⟨#[.slice ao (js.length+1) cap],(0,0),(show k=R+1 from e)▸hb3⟩⟩ (by decide)
 refine⟨⟨hk4.size,fun k o hB hbk hc=> ?_⟩,hkB,ao3,cap3,?_,?_,hk.trans hkB⟩
 .refine(hk4.block k (qk.1 hbk).1 ?_).trans hbk
  rintro(rfl|e)
  .omega
  .obtain⟨-,-,-,cur,fr,h3⟩:=hrow k e
   rw [h3]at hbk
   cases hbk
   cases hc
 .rw [qn,yW]
  exact box_one hb3 _
 .rw [q2t,qn,yW]
  have hl:=wh fs js;have ho3:=zF hown3 hb3 (by decide) 0 (.slice ao3 (js.length+1+1) cap3);refine⟨vs++[(u,v)],?_,by simp [hvl,hl],fun j f' p h1 h2'=> ?_⟩
  .rw [YF,qn,yW,hl]
   exact ho3
  .by_cases hj:j<js.length+1
   .rw [zc (by rw [hl];exact hj)]at h1
    rw [zc (by omega)]at h2';exact far (hvs j f' p h1 h2') (fun k e=>(hrow k e).2.2.2) hkW
   .have hjl:=(qm.1 h1).1
    simp [hl]at hjl;obtain rfl:j=js.length+1:=by omega
    rw [qV (by rw [hl];exact qt _),hl,xz]at h1;rw [qV (by omega),hvl,xz]at h2';simp at h1 h2';subst h1 h2';exact far hf (fun k e=>by obtain⟨-,-,-,cur,fr,h3⟩:=hrow k e;exact⟨cur,fr,qQ hn h3⟩) (Kept.grown (Kept.refl _ Z) hg fun k e _=>e)
section
variable {P:Program}{Q:Exit->Act->World->Prop}{md:Region.Mode}{S:World->Prop}{z fuel:Nat}{listed:Array Bool}{a:Act}{w:World}{v:Value}{oi:Oper}{r:List Oper}
end
theorem q7T(t:Array Value)(p q:Tmp)(u v:Value):(#[p,q].zip #[u,v]).foldl (fun t (p,v)=>t.setIfInBounds p v) t=(t.setIfInBounds p u).setIfInBounds q v:=by
 have e:(#[p,q]:Array Tmp).zip #[u,v]= #[(p,u),(q,v)]:=by simp
 rw [e];rfl
theorem V7{F:Fence}{n:Nat}{P:Program}{α:Type}{g:Operand}{p1 p2:Tmp}{assign body:Code}{Q:Exit->Act->World->Prop}{a:Act}{w:World}
 (hro:F.round=none) (h1:1<=n) {gf:Nat}{lb:Array Value}(hg:a.eval g= .func (.func gf) #[] lb)(hFg:F.fn gf)(eg: ∀args w,(callFunc gf args).run P w= .ok (.enter gf args) w)
 {e1 e2:α->Value}{Kp:World->World->Prop}{S Sp:List α->Prop}{N:Nat}(hseq:SeqStopsK F (n - 1) P gf lb (fun x=> #[e1 x,e2 x]) Kp S Sp N w)
 (hKt: ∀{A B C:World},Kp A B->Kp B C->Kp A C) (hKb: ∀(W:World)(l:Nat)(o o':Obj),w.heap.size<=l->W.heap[l]? =some o->o.isCells=false->o.isWalk=false->Kp W (W.putObj l o'))
 (I:List α->World->Prop) (hI:OwnFrom w.heap.size I) (h0:I [] w) (q:Tmp) (X:α->Nat->World->Prop) (hX: ∀x bd,OwnFrom w.heap.size (fun(_:Unit) W=>X x bd W))
 (hassign: ∀(l:Nat)(pre:List α)(x:α)(W:World)(K:Act->World->Prop),I pre W->(∀a' W',KeepsFrom w.heap.size W W'->Kp W W'->I pre W'->(∃bd,a'={tmps:=((a.tmps.setIfInBounds p1 (e1 x)).setIfInBounds p2 (e2 x)).setIfInBounds q (vg (some ⟨bd,0,none⟩)),defers:=[]}/\w.heap.size<=bd/\X x bd W')->K a' W')->
   assign.wpIn (F.inRound l) (n - 1 - 1) P (Exit.then K (fun _ _ _=>False)) {tmps:=(a.tmps.setIfInBounds p1 (e1 x)).setIfInBounds p2 (e2 x),defers:=[]} W)
 (hbody: ∀(l:Nat)(pre:List α)(x:α)(bd:Nat)(W:World),w.heap.size<=bd->X x bd W->I pre W->pre.length<N->
   body.wpIn (F.inRound l) (n - 1 - 1) P (ownPostG w.heap.size Kp I (fun _ _ _=>False) (pre++[x]) W) {tmps:=((a.tmps.setIfInBounds p1 (e1 x)).setIfInBounds p2 (e2 x)).setIfInBounds q (vg (some ⟨bd,0,none⟩)),defers:=[]} W)
 (hdone: ∀(D:Nat)(xs:List α)(W:World),w.heap.size<=D->S xs->I xs W->W.heap[D]? =some (.deferred (some []))->Q .normal {a with defers:={target:= .collected D,args:= #[]}::a.defers} W):
 (Code.rangeFunc g #[p1,p2] assign body).wpIn F n P Q a w:=by
 refine wpIn_rangeFunc_ownH hro h1 hg hFg eg hseq hKt hKb (Below.refl _ _) (fun _=>rfl) I (fun _ _ _=>False) hI (fun _ _ _ _ _ h _ _=>h) h0
  (fun x a' W=> ∃bd,a'={tmps:=((a.tmps.setIfInBounds p1 (e1 x)).setIfInBounds p2 (e2 x)).setIfInBounds q (vg (some ⟨bd,0,none⟩)),defers:=[]}/\w.heap.size<=bd/\X x bd W) ?_ (fun l pre x W K hI hK=>by rw [q7T];exact hassign l pre x W K hI hK) ?_ hdone (fun _ _ _ _ _ _ h _=>h.elim)
 .rintro x a' s W W' row ⟨bd,h1,h2,h3⟩ hg hr
  exact⟨bd,h1,h2,hX x bd () W W' row h3 hg hr⟩
 .rintro l pre x a' W - - hI ⟨bd,rfl,h2,h3⟩ hl
  exact hbody l pre x bd W h2 h3 hI hl
end Go.Proofs.YtjcbmcnbdegpmaaGreatDoor
namespace Go.Proofs.YtjcbmcnbdegpmaaGreatDoor
open Go Go.RowKit Go.Proofs.Gen Go.Proofs.Mod
variable{n:Int}{v:Value}{vs:List Value}{w:World}{x:Ex}
theorem JW(h:validB x=true):x.row.all rightB=true∧(putE x).length≤40000∧x.size≤1000:=by
 unfold validB at h;simp only [qy,decide_eq_true_eq]at h;obtain⟨⟨b,d⟩,-⟩:=h;refine⟨b,?_,d⟩
 have:=q0V x (by
  rw [List.all_eq_true]at b⊢;intro y c;have e:=b y c;have⟨o,n,l⟩:=y;have a:jr o n l.length=true:=e;rw [decide_eq_true_eq];show n.size≤32;unfold jr at a;split at a
  all_goals
   try simp only [qy,decide_eq_true_eq]at a
   first
    |omega
    |exact(xE a.2).2
    |cases a)
 omega
theorem XO{S:Nat→Prop}(h:RdEx S w vs x)(hS: ∀g,S g→g<w.heap.size)(c:validB x=true):
 Calls qj 125 #[vi vs.toArray] w fun e q=>e=vm (.tuple #[vf (toB (putE x)),ve vp 0])∧Near w q:=by
 have⟨r,s,aa⟩:=JW c;have Q:=q8 (fun q (N:Near w q)=>(c▸kL (h.kept N (fun _ _ h=>h) (fun _ h=>h)) (fun g H=>qu (hS g H) N.size) (by omega):Calls qj 165 #[vi vs.toArray] q fun e I=>e=vm (vj true)∧Near q I));have E:=q8 (fun B b P K=>q0U B b P K x r);have R:=q8 (RdEx.here h);have n:=q8 s;have⟨i,f,j⟩:=x;obtain⟨sv,rfl,U⟩:=h.inv;obtain⟨o,l,rfl⟩:=U.form;generalize G:putE (.mk i f j)=pe at n⊢;have m:=q8 G;have hW: ∀W,W=w.alloc (vk #[ve vq i,vf f,vd o j.length l] 84)→Near w W∧W.heap[w.heap.size]? =some (vk #[ve vq i,vf f,vd o j.length l] 84 (0,0)):=by
  rintro W rfl;exact⟨(Near.refl w).alloc _,heap_new_at rfl⟩
 go_enter Tryz.func125,Tryz.ntmps125;go_upto_region 1 with fail
 have O:=hW _ rfl;generalize w.alloc (vk #[ve vq i,vf f,vd o j.length l] 84)=W at O⊢;have⟨v,y⟩:=O;have z:=q8 v;have HE:=q8 y;have c0:W.cell? w.heap.size=some (ve vq i):=cell1 y rfl;have c1:W.cell? (vw w.heap.size 1)=some (vf f):=cell1 y rfl;have c2:W.cell? (vw w.heap.size 2)=some (vd o j.length l):=cell1 y rfl;go_upto_region 3 with(go_at_call 165;refine(Q _ z).mono ?_;rintro e a ⟨rfl,n1⟩;have D:=q8 n1)
 go_upto_region 7 with fail
 obtain⟨b,J⟩: ∃b,a.heap.size=b:=⟨_,rfl⟩;have hV: ∀V,V=((a.alloc (vk #[vg none,vd none 0 0] 95)).alloc (vk #[.func (.func 181) #[] #[vg b,vg (vw (b+1+1) 0)]] 236)).alloc (vk #[.func (.func 179) #[] #[vg (vw (b+1) 0),vg b]] 238)→
  Near a V∧Bld b b V []∧q2M b (b+1) (b+1+1) V:=by
  rintro V rfl;subst J;have v:Near a (((a.alloc (vk #[vg none,vd none 0 0] 95)).alloc (vk #[.func (.func 181) #[] #[vg a.heap.size,vg (vw (a.heap.size+1+1) 0)]] 236)).alloc (vk #[.func (.func 179) #[] #[vg (vw (a.heap.size+1) 0),vg a.heap.size]] 238)):=(((Near.refl a).alloc _).alloc _).alloc _;refine⟨v,Bld.fresh (qt _) v.size ?_,⟨?_,heap_new_at (by simp),by omega,by omega⟩⟩
  ·rw [qD (by simp<;>omega),qD (by simp),heap_new_at rfl]
  ·rw [qD (by simp),heap_new_at (by simp)]
 rw [J];have M:=hV _ rfl;generalize((a.alloc (vk #[vg none,vd none 0 0] 95)).alloc (vk #[.func (.func 181) #[] #[vg b,vg (vw (b+1+1) 0)]] 236)).alloc (vk #[.func (.func 179) #[] #[vg (vw (b+1) 0),vg b]] 238)=V at M⊢;have⟨L,A,u⟩:=M;have p:=q8 ((z.trans D).trans L);have d:=qE (D.trans L) HE;have v0:V.cell? w.heap.size=some (ve vq i):=cell1 d rfl;have v1:V.cell? (vw w.heap.size 1)=some (vf f):=cell1 d rfl;have v2:V.cell? (vw w.heap.size 2)=some (vd o j.length l):=cell1 d rfl;have p0:V.cell? (vw (b+1) 0)=some (.func (.func 181) #[] #[vg b,vg (vw (b+1+1) 0)]):=cell1 u.put rfl;have ab:w.heap.size≤b:=by have:=(z.trans D).size;omega
 have C:=q8 (R.kept p (T:=fun g=>g<b) (fun _ _ h=>h) (fun g H=>by have:=H.2;omega));have t:=q8 (E b b (b+1) (b+1+1) V [] _ C u A (by rw [m.out];have:=n.out;simp;omega));rw [m.out]at t;go_wp2_with (first
  |(go_at_call 181;refine t.mono ?_;rintro e w5 ⟨rfl,X,Y⟩;have B5:=q8 X;have Z:=q8 Y)
  |(go_at_call 50;refine(text_calls B5).mono ?_;rintro e w6 ⟨rfl,-,k6⟩;have K6:=q8 k6))
 go_ret2
 exact⟨rfl,Kept.mono (p.kept.trans (Z.trans K6).kept) fun k hk e=>by have e:b≤k:=e;omega⟩
theorem YC(f:ji w)(a: -9223372036854775808<=n)(c:n<=9223372036854775807):
 Calls qj 46 #[ve vp n] w fun e b=>e=vm (vf (toB (yY n)))/\Near w b:=by
 refine(Any.strconv_Itoa q3M n a c w f.tab).mono ?_;rintro e b ⟨rfl,k,d,rfl⟩;exact⟨by rw [Jn a c];rfl,Zw w k d⟩
theorem XR(f:ji w)(a: -9223372036854775808<=n)(c:n<=9223372036854775807):
 Calls qj 47 #[ve vp n,ve vp 10] w fun e b=>e=vm (vf (toB (yY n)))/\Near w b:=by
 refine(Any.strconv_FormatInt_10 UO n a c w f.tab).mono ?_;rintro e b ⟨rfl,k,d,rfl⟩;exact⟨by rw [Jn a c];rfl,Zw w k d⟩
theorem YU(l:List UInt8):(toB l).size=l.length:=by simp [toB,ByteArray.size]
theorem q0n(a b:List UInt8):toB a++toB b=toB (a++b):=by
 apply ByteArray.ext;rw [ByteArray.data_append];simp [toB]
theorem line_calls{S:Nat→Prop}{B b:Nat}{l:List UInt8}{a:List ByteArray}(p:Bld B b w l)(h:RdL S 1 RdS w v a)(q:WfS v)(x:a.length≤1099511627776)(o:l.length+(lineT (a.map (·.data.toList))).length≤1099511627776):
 Calls qj 43 (#[v]++ #[vg b]) w (JL B b w (l++lineT (a.map (·.data.toList)))):=by
 have d:Hid (lineT (a.map (·.data.toList))=Lib.join (a.map (·.data.toList)) [32]++[10]):=rfl;have i:=q8 (fun(y:(Lib.join (a.map (·.data.toList)) [32]).length≤140737488355328)=>ZB h q (by omega) y);generalize lineT (a.map (·.data.toList))=g at d o⊢;generalize Lib.join (a.map (·.data.toList)) [32]=c at d i;have j:g.length=c.length+1:=by rw [d.out];simp
 have f:=q8 (i (by omega));have C:=q8 p;obtain⟨G,z,rfl⟩:=h.form;have E: ∀w,(Op.stringOp .add (toB c) ⟨#[10]⟩).run qj w= .ok (vf (toB c++⟨#[10]⟩)) w:=fun w=>run_string_add_sum (w:=w) (toB c) ⟨#[10]⟩ (by rw [YU];show _+1≤_;omega);have s:(toB c++⟨#[10]⟩:ByteArray)=toB g:=by rw [d.out];exact q0n c [10]
 have D:=q8 s;have A:=q8 (show l.length+(toB g).size≤140737488355328 by rw [YU];omega);clear p h q x o s j i;go_enter Tryz.func43,Tryz.ntmps43;go_wp2_with (first
  |(go_at_call 45;refine f.mono ?_;rintro e I ⟨rfl,r⟩;have k:=q8 r;clear r)
  |(go_at_call 44;rw [D.out];refine(write_calls (C.near k) A).mono ?_;rintro e H ⟨rfl,m,n⟩;have t:=q8 m;have u:=q8 n;clear m n))
 go_end0
 exact⟨rfl,t,k.wr.trans u⟩
theorem J5{S:Nat→Prop}(h:RdEx S w vs x)(s: ∀g,S g→g<w.heap.size)(a:validB x=true):
 Calls qj 48 #[vi vs.toArray] w fun e f=>e=vm (vf (toB (reqT x)))∧Near w f:=by
 have m:=q8 (fun f (n:Near w f)=>XO (h.kept n (fun _ _ h=>h) (fun _ h=>h)) (fun g t=>qu (s g t) n.size) a);have c:=(JW a).2.1;have d:Hid (reqT x=wReq.data.toList++32::putE x):=rfl;have⟨j,k,i⟩:=x;obtain⟨C,rfl,r⟩:=h.inv;obtain⟨v,p,rfl⟩:=r.form;generalize reqT (.mk j k i)=u at d⊢;generalize putE (.mk j k i)=b at d m c;have q:Near w (w.alloc (vk #[ve vq j,vf k,vd v i.length p] 84)):=(Near.refl w).alloc _;have l:=q8 q;have B: ∀w,(Op.stringOp .add ⟨#[114,101,113,117,105,114,101,32]⟩ (toB b)).run qj w= .ok (vf (⟨#[114,101,113,117,105,114,101,32]⟩++toB b)) w:=fun w=>run_string_add_sum (w:=w) _ (toB b) (by rw [YU];show 8+_≤_;omega);have z:(⟨#[114,101,113,117,105,114,101,32]⟩++toB b:ByteArray)=toB u:=by rw [d.out];exact q0n [114,101,113,117,105,114,101,32] b
 have A:=q8 z;go_enter Tryz.func48,Tryz.ntmps48;go_wp2_with (go_at_call 125;refine(m _ l).mono ?_;rintro e D ⟨rfl,y⟩;have o:=q8 y)
 go_ret;exact⟨by rw [←A.out];rfl,l.trans o⟩
theorem q8v: ∀f u,(decN f u).length<=f
 |0,_=>qt 0
 |f+1,u=>by
  unfold decN;split
  .simp
  .have:=q8v f (u/10)
   simp;omega
theorem q43(n:Int):(yY n).length<=21:=by
 unfold yY;split
 .have:=q8v 20 n.natAbs
  simp;omega
 .have:=q8v 20 n.toNat
  omega
theorem q6f(l:List (List UInt8)):(Lib.join l [32]).length<=(l.map fun x=>x.length+1).sum:=by
 cases l with
 |nil=>simp [Lib.join_nil]
 |cons x r=>
  rw [Lib.join_cons,qn,yL,List.sum_cons]
  have:(Lib.joinTail [32] r).length=(r.map fun x=>x.length+1).sum:=by
   unfold Lib.joinTail;rw [List.length_flatten,kX];congr 1
  omega
theorem q3p(r:Nat):(q0N r).length<=2:=by
 unfold q0N
 repeat' split
 all_goals decide
theorem q3r{s1 s2 s3 s4:ByteArray}: ∀W,W=w.alloc (vk #[vf s1,vf s2,vf s3,vf s4] 9)->Near w W/\RdL (fun g=>w.heap.size<=g) 1 RdS W (vd w.heap.size 4 4) [s1,s2,s3,s4]/\WfS (vd w.heap.size 4 4):=by
 rintro W rfl;refine⟨(Near.refl w).alloc _,⟨_,_,rfl,fun i x b=>⟨w.heap.size,0,[vf x],rfl,qt _,fun j u a=> ?_,rfl⟩⟩,fun d n c e=> ?_⟩
 .cases j with
  |succ j=>cases a
  |zero=>
   cases a;refine cell1 (heap_new_at rfl) ?_;rcases i with _|_|_|_|i
   all_goals first|(cases b;rfl)|(simp at b)
 .simp only [qq]at e
  obtain⟨rfl,rfl,rfl⟩:=e;exact⟨qt _,fun h=>by cases h⟩
theorem Jh{S:Nat→Prop}{m:Mod}(h:RdMod S w v m)(hv:ji w){l:Lim}(ha:0≤l.att∧l.att<m.atts.length)(hrel:1≤l.rel∧l.rel≤3)(t: -9223372036854775808≤l.bound∧l.bound≤9223372036854775807)(J: ∀a∈m.atts,a.name.size≤32):
 Calls qj 49 #[v,vi #[ve vp l.att,ve vq l.rel,ve vp l.bound]] w fun e c=>e=vm (vf (toB (limT m l)))∧Near w c:=by
 obtain⟨Q,V,U,y,c1,r,R,K,P,C,rfl,-,-,hA,-⟩:=RdMod.form h
 obtain⟨d,j⟩: ∃n:Nat,l.att=n:=⟨l.att.toNat,by omega⟩
 obtain⟨x,X⟩: ∃x,m.atts[d]? =some x:=⟨_,qi (by omega)⟩
 obtain⟨g,o,rfl,b⟩: ∃g o,c1=some ⟨g,o,none⟩∧w.cell? (vw g (o+d*2))=some (vf x.name):=by
  have⟨ab,aa,e,hc⟩:=hA
  obtain⟨g,o,vs,M,-,b,v',rfl,-⟩:=hc d x X
  simp only [qq,true_and]at e
  obtain⟨rfl,rfl⟩:=e
  exact⟨g,o,M,by simpa using b 0 _ rfl⟩
 have ag:(d:Int)<m.atts.length:=by omega
 have hQ:limT m l=Lib.join [WB.data.toList,x.name.data.toList,q0N l.rel,yY l.bound] [32]:=by
  unfold limT gk
  rw [j,Int.toNat_natCast,X]
  rfl
 have I:=J x (List.mem_of_getElem? X)
 have⟨la,f,i⟩:=l
 replace j:la=d:=j
 subst j
 have L:=q8 hQ
 generalize limT m ⟨(d:Int),f,i⟩=af at L⊢
 have HF:=q8 (fun c (hn:Near w c)=>XR (hv.near hn) t.1 t.2)
 dsimp only at hrel t L HF⊢
 have hW: ∀W,W=(w.alloc (vk #[vd Q m.feats.length V,vd U m.grps.length y,vd (some ⟨g,o,none⟩) m.atts.length r,vd R m.reqs.length K,vd P m.lims.length C] 28)).alloc (vk #[ve vp (d:Int),ve vq f,ve vp i] 89)→Near w W∧W.heap[w.heap.size]? =some (vk #[vd Q m.feats.length V,vd U m.grps.length y,vd (some ⟨g,o,none⟩) m.atts.length r,vd R m.reqs.length K,vd P m.lims.length C] 28 (0,0))∧W.heap[w.heap.size+1]? =some (vk #[ve vp (d:Int),ve vq f,ve vp i] 89 (0,0)):=by
  rintro W rfl
  exact⟨((Near.refl w).alloc _).alloc _,by rw [qD (by simp),heap_new_at rfl],heap_new_at (by simp)⟩
 have D:=q8 I
 have O:=q8 hrel
 have ae:=q8 t
 have Y:=q8 b
 go_enter Tryz.func49,Tryz.ntmps49
 go_upto_region 1 with fail
 have h0:=hW _ rfl
 generalize(w.alloc (vk #[vd Q m.feats.length V,vd U m.grps.length y,vd (some ⟨g,o,none⟩) m.atts.length r,vd R m.reqs.length K,vd P m.lims.length C] 28)).alloc (vk #[ve vp (d:Int),ve vq f,ve vp i] 89)=W at h0⊢
 have⟨hN,hM,Z⟩:=h0
 have⟨W1,W2,p,r1,r2,r3,u,E⟩:=q7i W (k1:=1) (k2:=2) (k3:=3) (by decide) (by decide) (by decide) ⟨#[60,61]⟩ ⟨#[62,61]⟩ ⟨#[61]⟩
 have ad:= @run_makeMap qj
 replace r1:yx qj (zA 102 (.map (some W.heap.size)) (ve vq 1) (vf ⟨#[60,61]⟩)) (W.alloc (.map #[] 0))= .ok () W1:=r1
 replace r2:yx qj (zA 102 (.map (some W.heap.size)) (ve vq 2) (vf ⟨#[62,61]⟩)) W1= .ok () W2:=r2
 replace r3:yx qj (zA 102 (.map (some W.heap.size)) (ve vq 3) (vf ⟨#[61]⟩)) W2= .ok () p:=r3
 have H:=q1t E (by decide) (by decide) (by decide) (s:=f) (by have:=O.out;omega)
 have N:(if f=1 then(⟨#[60,61]⟩:ByteArray)else if f=2 then⟨#[62,61]⟩else if f=3 then⟨#[61]⟩else⟨#[]⟩)=toB (q0N f):=by
  unfold q0N
  repeat' split
  all_goals rfl
 rw [N]at H
 have z:=q8 (qE u hM)
 have q:=q8 (qE u Z)
 have k:=q8 (hN.trans u)
 have l1:p.cell? (vw (w.heap.size+1) 1)=some (ve vq f):=cell1 (qE u Z) rfl
 go_upto_region 2 with fail
 have G: ∀c,Near p c→c.cell? (vw w.heap.size 2)=some (vd (some ⟨g,o,none⟩) m.atts.length r)∧c.cell? (vw (w.heap.size+1) 0)=some (ve vp (d:Int))∧c.cell? (vw (w.heap.size+1) 2)=some (ve vp i)∧c.cell? (vw g (o+d*2))=some (vf x.name):=
  fun c h=>⟨cell1 (qE h z) rfl,cell1 (qE h q) rfl,cell1 (qE h q) rfl,(k.trans h).cell Y⟩
 go_wp2_with fail
 go_region_held3 (fun c=>c.cell? (vw w.heap.size 2)=some (vd (some ⟨g,o,none⟩) m.atts.length r)∧c.cell? (vw (w.heap.size+1) 0)=some (ve vp (d:Int))∧c.cell? (vw (w.heap.size+1) 2)=some (ve vp i)∧c.cell? (vw g (o+d*2))=some (vf x.name))
  ((refine G _ ?_;first|exact z2|exact B.alloc _|exact B|exact(Near.refl _).drew))
  (first
    |(go_at_call 47;refine(HF _ (k.trans (Near.refl _).drew)).mono ?_;rintro e w1 ⟨rfl,n1⟩;have B:Near p w1:=(Near.refl p).drew.trans n1)
    |(go_at_call 45;have A:=q3r (w:=w1) (s1:=WB) (s2:=x.name) (s3:=toB (q0N f)) (s4:=toB (yY i)) _ rfl;refine(ZB A.2.1 A.2.2 (by simp) (qH (q6f _) (by have h1:=D.out;have h2:=q43 i;have h3:=q3p f;have e:x.name.data.toList.length=x.name.size:=zW;show 5+1+(x.name.data.toList.length+1+((q0N f).length+1+((yY i).length+1+0)))≤_;omega))).mono ?_;rintro e w2 ⟨rfl,n2⟩;have z2:Near p w2:=(B.trans A.1).trans n2))
 go_wp2_with fail
 go_ret
 exact⟨by rw [L.out];rfl,k.trans z2⟩
end Go.Proofs.YtjcbmcnbdegpmaaGreatDoor
namespace Go.Proofs.YtjcbmcnbdegpmaaGreatDoor
open Go Go.RowKit Go.Proofs.Gen Go.Proofs.Mod
theorem vN{α:Type}{l:List α}{k:Nat}{x:α}(f:α->List UInt8)(h:l[k]? =some x):(l.take (k+1)).flatMap f=(l.take k).flatMap f++f x:=by
 rw [qU,h];simp
theorem q8s{α:Type}(l:List α)(k:Nat)(f:α->List UInt8):((l.take k).flatMap f).length<=(l.flatMap f).length:=by
 conv=>rhs;rw [<-zO k l]
 rw [List.flatMap_append,qn];omega
theorem q4j{α:Type}{l:List α}{k:Nat}{x:α}(h:l[k]? =some x):l.zipIdx[k]? =some (x,k):=by simp [h]
theorem ji.kept{w w':World}{b:Nat}(h:ji w)(c:7<b)(d:Kept (fun k=>b≤k) w w'):ji w':=by
 have⟨⟨m,e⟩,a,⟨t,p,f⟩,g,n,j⟩:=h;refine⟨⟨m,d.cell e (by show¬b≤1;omega)⟩,?_,⟨t,p,d.cell f (by show¬b≤6;omega)⟩,g,n,d.cell j (by show¬b≤7;omega)⟩;unfold Lib.TabIs World.var? at a⊢;have l:qj.globalNamed "internal/strconv.uint64pow10"=some 0:=by kernel_rfl
 rw [l]at a⊢;simp only [Option.bind_some]at a⊢
 cases c:w.heap[0]? with
 |none=>rw [c]at a;cases a
 |some o=>
  rw [d.block 0 (qk.1 c).1 (by omega),c];rw [c]at a;exact a
theorem ji.seven{w:World}(h:ji w):7<w.heap.size:=by
 obtain⟨-,-,-,t,p,h⟩:=h;exact qM _ _ h
structure q2N(S:Nat->Prop)(b M mp:Nat)(nv:Value)(cs:Array Value)(m:Mod)(W:World):Prop where
 box:W.heap[M]? =some (.cells cs 28 (0,0))
 lt:M<b
 sev:7<b
 sub: ∀g,S g->g<b
 mod:RdMod S W (.agg cs) m
 kinds:mapV W qj 5 mp 3 (q09 2 3 4 gB Uq Ur)
 ne:mp≠b
 names:W.ownsRow (b+1) 9 1 nv m.names.length (m.names.map .string)
 vars:ji W
section
variable {S:Nat->Prop}{b M mp:Nat}{nv:Value}{cs:Array Value}{m:Mod}{W W':World}
theorem q2N.wr(h:q2N S b M mp nv cs m W)(a:Wr b b W W'):q2N S b M mp nv cs m W' where
 box:=a.cells h.box (by decide) (by have:=h.lt;omega)
 lt:=h.lt
 sev:=h.sev
 sub:=h.sub
 mod:=h.mod.kept a.kept (fun g f k=>by have:=h.sub g f;omega) (fun _ h=>h)
 kinds:=by
  obtain⟨j,c,d,-⟩:=h.kinds;exact h.kinds.of_block ((a.obj d (fun _ _ e=>by cases e) h.ne).trans d.symm)
 ne:=h.ne
 names:=a.owns h.names (by decide) fun e=>by have:=(zY h.names e).1;omega
 vars:=h.vars.kept h.sev a.kept
theorem q2N.near(h:q2N S b M mp nv cs m W)(a:Near W W'):q2N S b M mp nv cs m W':=h.wr a.wr
theorem q2N.name{c cap:Nat}(h:q2N S b M mp (vd c m.feats.length cap) cs m W){i:Nat}(f:i<m.feats.length):
 W.cell? (vw c i)=some (vf (toB (nameT m i))):=by
 have e:m.names.length=m.feats.length:=by simp [Mod.names]
 have d:m.names[i]? =some (toB (nameT m i)):=by
  rw [qi (by omega)];unfold nameT;rw [qi (by omega)];rfl
 have a:=h.names;rw [e]at a;exact(yh a (u:=vf (toB (nameT m i))) (by rw [qA,d];rfl)).1
end
theorem UJ{w:World}(a:List ByteArray)(c:a.length<=maxLen):
 (w.alloc (vk (a.map yb).toArray 9)).ownsRow w.heap.size 9 1 (vd w.heap.size a.length a.length) a.length (a.map vf):=
 ⟨by simp,vv ⟨_,_,_,rfl,qt _,heap_new_at rfl,qt _,c,by simp,by simp [zE]⟩⟩
theorem q53{g o n c:Nat}(h:n<=c):WfS (vd (some ⟨g,o,none⟩) n c):=fun d f a e=>by
 cases e;exact⟨h,fun e=>by cases e⟩
theorem line_new{b:Nat}{w:World}{l:List UInt8}(j:Bld b b w l)(a:List ByteArray)(k:a.length<=4)(f:l.length+(lineT (a.map (·.data.toList))).length<=1099511627776):
 Calls qj 43 (#[vd w.heap.size a.length a.length]++ #[vg b]) (w.alloc (vk (a.map yb).toArray 9))
  fun e d=>e=vm (.tuple #[])/\Bld b b d (l++lineT (a.map (·.data.toList)))/\Wr b b w d:=by
 have c:Near w (w.alloc (vk (a.map yb).toArray 9)):=(Near.refl w).alloc _;refine(line_calls (j.near c) (RdL.strings (UJ a (by unfold maxLen;omega))) (q53 (qt _)) (by omega) f).mono ?_;rintro e d ⟨rfl,h,g⟩;exact⟨rfl,h,c.wr.trans g⟩
section
variable {S:Nat->Prop}{b M mp:Nat}{nv:Value}{m:Mod}{W:World}{i:Nat}{a1 b1 c1 d1 e1:Option Addr}{n1 n2 n3 n4 n5 a2 b2 c2 d2 e2:Nat}
theorem q2N.feat{f:xM}(h:q2N S b M mp nv #[vd a1 n1 a2,vd b1 n2 b2,vd c1 n3 c2,vd d1 n4 d2,vd e1 n5 e2] m W)(k:m.feats[i]? =some f):
 ∃g o,a1=some ⟨g,o,none⟩/\W.cell? (vw g (o+i*3))=some (vf f.name)/\W.cell? (vw g (o+i*3+1))=some (ve vp f.parent)/\W.cell? (vw g (o+i*3+2))=some (ve vq f.kind):=by
 obtain⟨_,_,_,_,_,l,⟨n,j,e,d⟩,-⟩:=h.mod
 cases l;obtain⟨g,o,p,a,-,c,rfl⟩:=d i f k
 cases e;exact⟨g,o,a,by simpa using c 0 _ rfl,c 1 _ rfl,c 2 _ rfl⟩
theorem q2N.grp{x:Grp}(h:q2N S b M mp nv #[vd a1 n1 a2,vd b1 n2 b2,vd c1 n3 c2,vd d1 n4 d2,vd e1 n5 e2] m W)(n:m.grps[i]? =some x):
 ∃g o d c,b1=some ⟨g,o,none⟩/\W.cell? (vw g (o+i*4))=some (ve vp x.parent)/\W.cell? (vw g (o+i*4+1))=some (ve vp x.low)/\W.cell? (vw g (o+i*4+2))=some (ve vp x.high)/\W.cell? (vw g (o+i*4+3))=some (vd d x.members.length c)/\RdL S 1 RdI W (vd d x.members.length c) x.members:=by
 obtain⟨_,_,_,_,_,p,-,⟨q,l,e,k⟩,-⟩:=h.mod
 cases p;obtain⟨g,o,r,f,-,a,v,rfl,j,-⟩:=k i x n
 cases e;obtain⟨d,c,rfl⟩:=j.form;exact⟨g,o,d,c,f,by simpa using a 0 _ rfl,a 1 _ rfl,a 2 _ rfl,a 3 _ rfl,j⟩
theorem q2N.att{x:Att}(h:q2N S b M mp nv #[vd a1 n1 a2,vd b1 n2 b2,vd c1 n3 c2,vd d1 n4 d2,vd e1 n5 e2] m W)(n:m.atts[i]? =some x):
 ∃g o c a,c1=some ⟨g,o,none⟩/\W.cell? (vw g (o+i*2))=some (vf x.name)/\W.cell? (vw g (o+i*2+1))=some (vd c x.values.length a)/\RdL S 1 RdI W (vd c x.values.length a) x.values:=by
 obtain⟨_,_,_,_,_,p,-,-,⟨q,l,e,k⟩,-⟩:=h.mod
 cases p;obtain⟨g,o,r,d,-,f,v,rfl,j⟩:=k i x n
 cases e;obtain⟨c,a,rfl⟩:=j.form;exact⟨g,o,c,a,d,by simpa using f 0 _ rfl,f 1 _ rfl,j⟩
theorem q2N.req{x:Ex}(h:q2N S b M mp nv #[vd a1 n1 a2,vd b1 n2 b2,vd c1 n3 c2,vd d1 n4 d2,vd e1 n5 e2] m W)(t:m.reqs[i]? =some x):
 ∃g o c f d k a,d1=some ⟨g,o,none⟩/\W.cell? (vw g (o+i*3))=some (ve vq c)/\W.cell? (vw g (o+i*3+1))=some (vf f)/\W.cell? (vw g (o+i*3+2))=some (vd d k a)/\RdEx S W [ve vq c,vf f,vd d k a] x:=by
 obtain⟨_,_,_,_,_,u,-,-,-,⟨w,s,e,r⟩,-⟩:=h.mod
 cases u;obtain⟨g,o,y,l,-,j,p⟩:=r i x t
 cases e;have⟨c,f,n⟩:=x;obtain⟨v,rfl,q⟩:=p.inv;obtain⟨d,a,rfl⟩:=q.form;exact⟨g,o,c,f,d,_,a,l,by simpa using j 0 _ rfl,j 1 _ rfl,j 2 _ rfl,p⟩
theorem q2N.lim{x:Lim}(h:q2N S b M mp nv #[vd a1 n1 a2,vd b1 n2 b2,vd c1 n3 c2,vd d1 n4 d2,vd e1 n5 e2] m W)(j:m.lims[i]? =some x):
 ∃g o,e1=some ⟨g,o,none⟩/\W.cell? (vw g (o+i*3))=some (ve vp x.att)/\W.cell? (vw g (o+i*3+1))=some (ve vq x.rel)/\W.cell? (vw g (o+i*3+2))=some (ve vp x.bound):=by
 obtain⟨_,_,_,_,_,k,-,-,-,-,⟨l,f,e,d⟩,-⟩:=h.mod
 cases k;obtain⟨g,o,n,a,-,c,rfl⟩:=d i x j
 cases e;exact⟨g,o,a,by simpa using c 0 _ rfl,c 1 _ rfl,c 2 _ rfl⟩
end
theorem Qm(W:World)(cs:Array Value)(t:TypeId): ∃V k,W.alloc (vk cs t)=V/\W.heap.size=k/\Near W V/\V.heap[k]? =some (vk cs t (0,0)):=
 ⟨_,_,rfl,rfl,(Near.refl W).alloc _,heap_new_at rfl⟩
theorem q4H{S:Nat->Prop}{w:World}{c:Option Addr}{n f k:Nat}{l:List Int}{z:Int}(h:RdL S 1 RdI w (vd c n f) l)(j:l[k]? =some z): ∃g o,c=some ⟨g,o,none⟩/\w.cell? (vw g (o+k))=some (ve vp z):=by
 have⟨r,q,e,p⟩:=h
 cases e;obtain⟨g,o,s,a,-,d,rfl⟩:=p k z j;exact⟨g,o,a,by simpa using d 0 _ rfl⟩
theorem Xq{α β:Type}{l:List α}{x:α}(f:α->List β)(h:x∈l):(f x).length<=(l.flatMap f).length:=by
 obtain⟨c,a,rfl⟩:=List.append_of_mem h;simp;omega
theorem q5Z{b:Nat}{u v w:World}(h:Near u v)(k:Wr b b v w)(c:u.heap.size<=b):Near u w:=
 ⟨k.os.trans h.os,k.tape.trans h.tape,k.output.trans h.output,qH h.size k.size,fun i a _=>
   (k.block i (qu a h.size) (fun e=>by have:=e.1;omega)).trans (h.block i a (fun e=>e))⟩
end Go.Proofs.YtjcbmcnbdegpmaaGreatDoor
