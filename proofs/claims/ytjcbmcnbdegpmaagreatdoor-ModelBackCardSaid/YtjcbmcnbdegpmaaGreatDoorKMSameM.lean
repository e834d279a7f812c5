/- MAgain, MAgainB, MLine, MBackP, MBackQ, MBackR, MBackL, MSameM. -/
import Derived.Test.YtjcbmcnbdegpmaaGreatDoorKMParseW
set_option maxRecDepth 100000
set_option maxHeartbeats 12800000
set_option linter.unusedVariables false
set_option linter.unusedSimpArgs false
open Array renaming length_toList->zW,toArray_toList->Qz
open Bool renaming and_eq_true->qy,false_eq_true->q7E
open Go.Lib renaming hid->q8,join->zL,trimB->wJ,trimPrefix->ur
open Int renaming toNat_natCast->jF
open List renaming all_eq_true->qL,append_assoc->qS,append_nil->zS,cons_append->zl,dropWhile_cons_of_neg->q03,eq_nil_of_length_eq_zero->zJ,flatMap_append->zC,flatMap_cons->zI,getElem?_append_left->zc,getElem?_append_right->qV,getElem?_eq_getElem->qi,getElem?_eq_none->zP,getElem?_eq_some_iff->qm,getElem?_map->qA,getElem?_of_mem->qZ,getElem?_take->zH,isPrefixOf_iff_prefix->uu,length_append->qn,length_cons->qT,length_map->qG,length_nil->jb,length_take->zd,map_append->ze,map_congr_left->ja,map_cons->yL,map_map->kX,map_nil->jE,mem_append->qK,mem_cons->qI,mem_flatMap->vD,mem_of_getElem?->qp,mem_singleton->qN,mem_zipIdx_iff_getElem?->zw,not_mem_nil->zh,replicate->zk,take_length->qF,take_of_length_le->zE,take_zero->yU
open Nat renaming le_refl->qt,le_trans->qH,sub_self->xz,zero_add->zz,zero_le->qv
open Go.Value renaming slice->vd,int->ve,string->vf,pointer->vg,agg->vi,bool->vj
open Go.Obj renaming cells->vk
open Go.Ending renaming returned->vm
open Go.IntKind renaming i64->vp,u8->vq,u32->vr,u64->vt
open Or renaming inl->vu,inr->vv
namespace Go.Proofs.Mod
open Go Go.Proofs.YtjcbmcnbdegpmaaGreatDoor
variable{a t:St}{b e k x:Ex}{f i l m o:Nat}{n:ByteArray}{r s w:List UInt8}
def skipB(r:List UInt8):List UInt8:=r.dropWhile fun c=>decide (c=32)
def atTZz(r:List UInt8):Option St:=(tokOf (skipB r)).map fun w=>⟨skipB r,w⟩
theorem Vl(t:St):nextT t=atTZz (t.rest.drop t.word.length):=rfl
theorem xw(r:List UInt8):atTZz (32::r)=atTZz r:=by
 have:skipB (32::r)=skipB r:=by simp [skipB]
 unfold atTZz;rw [this]
def delim(r:List UInt8):Prop:=r=[]\/(∃q,r=32::q)\/ ∃q,r=41::q
def signOf:Nat->List UInt8|0=>[63]|1=>[60,61,62]|2=>[61,62]|3=>[124]|4=>[94]|_=>[38]
def stopW(l:Nat)(w:List UInt8):Prop:= ∀k,l<=k->k<=5->w≠signOf k
theorem stopW.mono(h:stopW l w)(c:l<=m):stopW m w:=fun k b a=>h k (qH c b) a
def levO(o:Nat):Nat:=if o=10 then 0 else if o=9 then 1 else if o=8 then 2 else if o=6 then 3 else if o=7 then 4 else if o=5 then 5 else 6
def pAt(l f:Nat)(t:St):Option (Ex×St):=
 match l with
 |0=>pChoice f t
 |1=>pSame f t
 |2=>pImplies f t
 |3=>pRow f 0 t
 |4=>pRow f 1 t
 |5=>pRow f 2 t
 |_=>pRow f 3 t
theorem q32(h:s∈signs)(r:List UInt8):tokOf (s++r)=some s:=by
 simp only [signs,qI,zh,or_false]at h;rcases h with rfl|rfl|rfl|rfl|rfl|rfl|rfl|rfl|rfl|rfl<;>simp [tokOf,signs,List.find?,List.isPrefixOf]
theorem vz(h:s∈signs)(r:List UInt8):atTZz (s++r)=some ⟨s++r,s⟩:=by
 have a:skipB (s++r)=s++r:=by
  simp only [signs,qI,zh,or_false]at h;rcases h with rfl|rfl|rfl|rfl|rfl|rfl|rfl|rfl|rfl|rfl<;>simp [skipB]
 unfold atTZz;rw [a,q32 h];rfl
def q51(n:List UInt8):Prop:=n≠[]/\(∀c∈n,wordB c.toNat=true)/\(n=[48]\/n=[49]\/nameB ⟨n.toArray⟩=true)
theorem q0p{n:List UInt8}(h: ∀c∈n,wordB c.toNat=true)(a:delim r):(n++r).takeWhile (fun c=>wordB c.toNat)=n:=by
 induction n with
 |nil=>
  rcases a with rfl|⟨q,rfl⟩|⟨q,rfl⟩<;>simp [show wordB 32=false by decide,show wordB 41=false by decide]
 |cons c n d=>
  rw [zl,List.takeWhile_cons_of_pos (p:=fun c:UInt8=>wordB c.toNat) (h c (by simp)),d fun x b=>h x (by simp [b])]
theorem q5W{c:UInt8}(h:wordB c.toNat=true):signs.find? (fun s=>s.isPrefixOf (c::r))=none:=by
 have m:c≠60/\c≠61/\c≠33/\c≠38/\c≠94/\c≠124/\c≠63/\c≠58/\c≠40/\c≠41:=by
  refine⟨?_,?_,?_,?_,?_,?_,?_,?_,?_,?_⟩<;>(rintro rfl;exact absurd h (by decide))
 have⟨i,o,j,k,e,d,l,f,g,b⟩:=m;have n: ∀{a:UInt8},c≠a->(a==c)=false:=fun h=>beq_eq_false_iff_ne.2 h.symm;simp [signs,List.find?,List.isPrefixOf,n i,n o,n j,n k,n e,n d,n l,n f,n g,n b]
theorem q6D{n:List UInt8}(h:q51 n)(e:delim r):atTZz (n++r)=some ⟨n++r,n⟩:=by
 have⟨d,a,f⟩:=h
 cases n with
 |nil=>exact absurd rfl d
 |cons c n=>
  have b:c≠32:=by rintro rfl;exact absurd (a 32 (by simp)) (by decide)
  have i:skipB (c::n++r)=c::n++r:=by simp [skipB,b]
  unfold atTZz;rw [i];have g:tokOf (c::n++r)=some (c::n):=by
   unfold tokOf;rw [if_neg (by simp)];simp only [zl,q5W (a c (by simp))]
   have:=q0p a e
   rw [zl]at this;rw [this,if_pos f]
  rw [g];rfl
theorem xq(s r:List UInt8):yt s ⟨s++r,s⟩=(atTZz r).map fun t=>(true,t):=by
 unfold yt;rw [if_pos rfl,Vl];simp
theorem ku(h:t.word≠s):yt s t=some (false,t):=by
 unfold yt;rw [if_neg h]
theorem gR{l:List Ex}(h:t.word≠rowSign i):pMore (f+1) i l t=some (l,t):=by
 rw [pMore,ku h];rfl
theorem q7W(c:l<=5)(h:pAt (l+1) (f+1) t=some (e,a))(b:a.word≠signOf l):pAt l (f+2) t=some (e,a):=by
 match l,c with
 |0,_=>
  show pChoice (f+2) t=_;rw [pChoice,show pSame (f+1) t=some (e,a)from h];show(yt [63] a).bind _=_;rw [ku (show a.word≠[63]from b)];rfl
 |1,_=>
  show pSame (f+2) t=_;rw [pSame,show pImplies (f+1) t=some (e,a)from h];show(yt [60,61,62] a).bind _=_;rw [ku (show a.word≠[60,61,62]from b)];rfl
 |2,_=>
  show pImplies (f+2) t=_;rw [pImplies,show pRow (f+1) 0 t=some (e,a)from h];show(yt [61,62] a).bind _=_;rw [ku (show a.word≠[61,62]from b)];rfl
 |3,_=>
  show pRow (f+2) 0 t=_;rw [pRow,if_neg (by decide),show pRow (f+1) (0+1) t=some (e,a)from h];show(pMore (f+1) 0 [e] a).bind _=_;rw [gR b];rfl
 |4,_=>
  show pRow (f+2) 1 t=_;rw [pRow,if_neg (by decide),show pRow (f+1) (1+1) t=some (e,a)from h];show(pMore (f+1) 1 [e] a).bind _=_;rw [gR b];rfl
 |5,_=>
  show pRow (f+2) 2 t=_;rw [pRow,if_neg (by decide),show pRow (f+1) (2+1) t=some (e,a)from h];show(pMore (f+1) 2 [e] a).bind _=_;rw [gR b];rfl
theorem q2k{l f:Nat}{e:Ex}{t a:St}: ∀d,l+d<=6->pAt (l+d) (f+1) t=some (e,a)->stopW l a.word->pAt l (f+1+d) t=some (e,a)
 |0,_,h,_=>h
 |d+1,g,h,b=>by
  have c:=q7W (l:=l+d) (by omega) h (b (l+d) (by omega) (by omega))
  have:=q2k (f:=f+1) d (by omega) c b
  rw [show f+1+(d+1)=f+1+1+d by omega];exact this
def Reads(e:Ex):Prop:= ∀l,l<=levO e.op-> ∀(r:List UInt8)(t':St)(f:Nat),atTZz r=some t'->stopW l t'.word->delim r->12*(putE e).length+8<=f+l-> ∃t,atTZz (putE e++r)=some t/\pAt l f t=some (e,t')
theorem q65(o:Nat):levO o<=6:=by
 unfold levO
 repeat' split
 all_goals omega
theorem Reads.of(h: ∀(r:List UInt8)(a:St)(f:Nat),atTZz r=some a->stopW (levO e.op) a.word->delim r->12*(putE e).length+8<=f+1+levO e.op-> ∃t,atTZz (putE e++r)=some t/\pAt (levO e.op) (f+1) t=some (e,a)):Reads e:=by
 intro l j r a f c b d k;have m:=q65 e.op;have⟨t,i,g⟩:=h r a (f - (levO e.op - l) - 1) c (b.mono j) d (by omega);refine⟨t,i,?_⟩
 have:=q2k (l:=l) (f:=f - (levO e.op - l) - 1) (levO e.op - l) (by omega) (by rw [show l+(levO e.op - l)=levO e.op by omega];exact g) b
 rwa [show f - (levO e.op - l) - 1+1+(levO e.op - l)=f by omega]at this
theorem Qx{n:Nat}(h:t.word≠[33]):pBangs (f+1) n t=some (n,t):=by
 rw [pBangs,ku h];rfl
theorem q8A{b:St}{n:Nat}(d:pBangs f 0 t=some (n,a))(c:pLeast f a=some (x,b)):pRow (f+2) 3 t=some (nots n x,b):=by
 rw [pRow,if_pos rfl,pNot,d];show(pLeast f a).bind _=_;rw [c];rfl
theorem q73: ∀j,([41]:List UInt8)≠signOf j
 |0=>by decide
 |1=>by decide
 |2=>by decide
 |3=>by decide
 |4=>by decide
 |n+5=>by show([41]:List UInt8)≠[38];decide
theorem q5u: ∀j,([]:List UInt8)≠signOf j
 |0=>by decide
 |1=>by decide
 |2=>by decide
 |3=>by decide
 |4=>by decide
 |n+5=>by show([]:List UInt8)≠[38];decide
theorem wC(g:Reads k)(b:atTZz r=some a)(h:12*(putE k).length+8<=f):pLeast (f+1) ⟨40::(putE k++[41]++r),[40]⟩=some (k,a):=by
 have c:atTZz (41::r)=some ⟨41::r,[41]⟩:=vz (s:=[41]) (by decide) r;have⟨t,e,d⟩:=g 0 (qv _) (41::r) ⟨41::r,[41]⟩ f c (fun j _ _=>q73 j) (vv (vv ⟨r,rfl⟩)) (by omega);rw [pLeast,show(⟨40::(putE k++[41]++r),[40]⟩:St)=⟨[40]++(putE k++41::r),[40]⟩ by simp,xq,e];show((pChoice f t).bind _)=_;rw [show pChoice f t=some (k,⟨41::r,[41]⟩)from d];show((yt [41] ⟨[41]++r,[41]⟩).bind _)=_;rw [xq,b];rfl
theorem jI{b:Bool}(e:Reads k)(o:b=true->l<=levO k.op)(u:l<=6)(d:atTZz r=some a)(g:stopW l a.word)(i:delim r)(p:12*(wrapT b (putE k)).length+8<=f+l):
 ∃t,atTZz (wrapT b (putE k)++r)=some t/\pAt l f t=some (k,a):=by
 cases b with
 |true=>exact e l (o rfl) r a f d g i p
 |false=>
  have h:(wrapT false (putE k)).length=(putE k).length+2:=by simp [wrapT]
  have c:atTZz (wrapT false (putE k)++r)=some ⟨40::(putE k++[41]++r),[40]⟩:=vz (s:=[40]) (by decide) (putE k++[41]++r);refine⟨_,c,?_⟩;have j:=wC e (f:=f - (6 - l) - 3) d (by omega);have q:=q8A (Qx (f:=f - (6 - l) - 3) (n:=0) (t:=⟨40::(putE k++[41]++r),[40]⟩) (show([40]:List UInt8)≠[33] by decide)) j;have m:=q2k (l:=l) (f:=f - (6 - l) - 1) (6 - l) (by omega) (by rw [show l+(6 - l)=6 by omega,show f - (6 - l) - 1+1=f - (6 - l) - 3+1+2 by omega];exact q) g;rwa [show f - (6 - l) - 1+1+(6 - l)=f by omega]at m
theorem q1h: ∀(n:Nat)(e:Ex),nots n (mk0 4 [e])=mk0 4 [nots n e]
 |0,_=>rfl
 |n+1,e=>by
  show nots n (mk0 4 [mk0 4 [e]])=mk0 4 [nots n (mk0 4 [e])];rw [q1h n (mk0 4 [e])]
def Ku(e:Ex):Prop:= ∀(r:List UInt8)(t':St)(n0:Nat),atTZz r=some t'->delim r-> ∃t n1 x t2,atTZz (putE e++r)=some t/\nots n1 x=e/\
 ∀f1 f2,12*(putE e).length<=f1->12*(putE e).length<=f2->pBangs f1 n0 t=some (n0+n1,t2)/\pLeast f2 t2=some (x,t')
theorem Ku.reads(h:Ku e)(d:levO e.op=6):Reads e:=by
 refine Reads.of fun r m f c _ i b=> ?_;have⟨t,o,x,n,l,k,j⟩:=h r m 0 c i;rw [d]at b⊢;have⟨a,g⟩:=j (f - 1) (f - 1) (by omega) (by omega);rw [zz]at a;refine⟨t,l,?_⟩
 have:=q8A a g
 rw [k,show f - 1+2=f+1 by omega]at this;exact this
theorem wL{n:List UInt8}(m:putE e=n)(b:q51 n)(q:(if n=[48]then mk0 1 []else if n=[49]then mk0 2 []else Ex.mk 3 ⟨n.toArray⟩ [])=e):Ku e:=by
 intro r v u o p;have w:1<=n.length:=List.length_pos_iff.2 b.1;have l: ∀s:List UInt8,s∈signs->n≠s:=fun s k e=>by
  subst e
  have:=b.2.1
  simp only [signs,qI,zh,or_false]at k;have a: ∀c∈[60,61,33,38,94,124,63,58,40,41],¬wordB (UInt8.toNat c)=true:=by decide
  rcases k with rfl|rfl|rfl|rfl|rfl|rfl|rfl|rfl|rfl|rfl
  .exact a 60 (by decide) (this 60 (by simp))
  .exact a 61 (by decide) (this 61 (by simp))
  .exact a 33 (by decide) (this 33 (by simp))
  .exact a 38 (by decide) (this 38 (by simp))
  .exact a 94 (by decide) (this 94 (by simp))
  .exact a 124 (by decide) (this 124 (by simp))
  .exact a 63 (by decide) (this 63 (by simp))
  .exact a 58 (by decide) (this 58 (by simp))
  .exact a 40 (by decide) (this 40 (by simp))
  .exact a 41 (by decide) (this 41 (by simp))
 refine⟨⟨n++r,n⟩,0,e,⟨n++r,n⟩,by rw [m];exact q6D b p,rfl,fun i j h f=> ?_⟩;rw [m]at h f;obtain⟨t,rfl⟩: ∃g,i=g+1:=⟨i - 1,by omega⟩;obtain⟨x,rfl⟩: ∃g,j=g+1:=⟨j - 1,by omega⟩;refine⟨Qx (l _ (by decide)),?_⟩;rw [pLeast,ku (l _ (by decide))];have d:(n.head?.map fun c=>wordB c.toNat)=some true:=by
  cases n with
  |nil=>exact absurd rfl b.1
  |cons c n=>simp [b.2.1 c (by simp)]
 show(if(n.head?.map fun c=>wordB c.toNat)=some true then _ else none)=_;rw [if_pos d,Vl];simp only [List.drop_left,o,Option.map_some,q]
theorem right_cases{k:Nat}(h:jr o n k=true):
 ((o=1\/o=2)/\k=0/\n.size=0)\/(o=3/\k=0/\nameB n=true)\/(o=4/\k=1/\n.size=0)\/((o=5\/o=6\/o=7)/\2<=k/\n.size=0)\/((o=8\/o=9)/\k=2/\n.size=0)\/(o=10/\k=3/\n.size=0):=by
 unfold jr at h;split at h<;>simp_all
theorem xP(h:n.size=0):n=⟨#[]⟩:=by
 cases n with
 |mk d=>
  have:d.size=0:=h
  rw [Array.eq_empty_of_size_eq_zero this]
theorem Zx(h:nameB n=true):q51 n.data.toList/\n.data.toList≠[48]/\n.data.toList≠[49]:=by
 have b:=h;unfold nameB at h;simp only [qy,decide_eq_true_eq,qL]at h;have⟨⟨⟨g,f⟩,c⟩,d⟩:=h;have a:n.data.toList≠[]:=fun e=>by
  have:n.size=n.data.toList.length:=by rw [zW];rfl
  have b:n.data.toList.length=0:=by rw [e];rfl
  omega
 refine⟨⟨a,d,vv (vv (by rw [Qz];exact b))⟩,fun e=> ?_,fun e=> ?_⟩<;>(rw [e]at c;revert c;decide)
theorem kT{l:List Nat}{k:Nat}(h: ∀o∈l,m<=levO o)(b:m<=6)(a:bareB l k=true):m<=levO k:=by
 unfold bareB at a;rw [Bool.or_eq_true,List.contains_iff_mem,decide_eq_true_eq]at a;rcases a with a|a
 .exact h _ a
 .have:levO k=6:=by unfold levO;(repeat' split);all_goals omega
  omega
theorem wO(h: ∀k≤5,l≤k→w≠signOf k):stopW l w:=fun k b a=>h k a b
theorem G7(B:n=⟨#[]⟩)(v:Reads k)(l:k.op<=4->Ku k):Ku (.mk 4 n [k]):=by
 subst B;intro r z d m q;have o:putE (.mk 4 ⟨#[]⟩ [k])=33::wrapT (decide (k.op<=4)) (putE k):=by simp [putE,putKids,bareB]
 by_cases j:k.op<=4
 .rw [o,decide_eq_true j]
  have⟨t,h,x,u,w,C,y⟩:=l j r z (d+1) m q;refine⟨⟨33::(putE k++r),[33]⟩,h+1,x,u,vz (s:=[33]) (by decide) (putE k++r),?_,fun c f b a=> ?_⟩
  .show nots h (mk0 4 [x])=_
   rw [q1h,C];rfl
  .simp only [wrapT,qT,if_true]at b a
   obtain⟨e,rfl⟩: ∃g,c=g+1:=⟨c - 1,by omega⟩;have⟨A,p⟩:=y e f (by omega) (by omega);refine⟨?_,p⟩;rw [pBangs,show(⟨33::(putE k++r),[33]⟩:St)=⟨[33]++(putE k++r),[33]⟩from rfl,xq,w];show pBangs e (d+1) t=_;rw [A,show d+1+h=d+(h+1) by omega]
 .rw [o,decide_eq_false j]
  have i:atTZz (40::(putE k++[41]++r))=some ⟨40::(putE k++[41]++r),[40]⟩:=vz (s:=[40]) (by decide) (putE k++[41]++r);refine⟨⟨33::(40::(putE k++[41]++r)),[33]⟩,1,k,⟨40::(putE k++[41]++r),[40]⟩,(by show atTZz ([33]++(40::(putE k++[41]++r)))=_;exact vz (by decide) _),rfl,fun c f b a=> ?_⟩;simp only [wrapT,qT,qn,jb,q7E,if_false]at b a;obtain⟨e,rfl⟩: ∃g,c=g+2:=⟨c - 2,by omega⟩;obtain⟨D,rfl⟩: ∃g,f=g+1:=⟨f - 1,by omega⟩;refine⟨?_,wC v m (by omega)⟩;rw [pBangs,show(⟨33::(40::(putE k++[41]++r)),[33]⟩:St)=⟨[33]++(40::(putE k++[41]++r)),[33]⟩from rfl,xq,i];show pBangs (e+1) (d+1) ⟨40::(putE k++[41]++r),[40]⟩=_;exact Qx (show([40]:List UInt8)≠[33] by decide)
theorem Jq{a:Ex}(s:n=⟨#[]⟩)(k:Reads a)(p:Reads b):Reads (.mk 8 n [a,b]):=by
 subst s;have u:putE (.mk 8 ⟨#[]⟩ [a,b])=wrapT (bareB [5,7,6] a.op) (putE a)++(32::([61,62]++(32::wrapT (bareB [5,7,6,8] b.op) (putE b)))):=by simp [putE,putKids,bareL,signT]
 refine Reads.of fun r x f h e i c=> ?_;rw [u]at c⊢;have m:levO (Ex.mk 8 ⟨#[]⟩ [a,b]).op=2:=rfl;rw [m]at c e⊢;simp only [qn,qT,jb]at c;have⟨g,o,j⟩:=jI (l:=2) (f:=f) p (kT (l:=[5,7,6,8]) (by decide) (by decide)) (by decide) h e i (by omega);have t:atTZz (32::([61,62]++(32::(wrapT (bareB [5,7,6,8] b.op) (putE b)++r))))=some ⟨[61,62]++(32::(wrapT (bareB [5,7,6,8] b.op) (putE b)++r)),[61,62]⟩:=(xw _).trans (vz (by decide) _);have⟨d,v,q⟩:=jI (l:=3) (f:=f) k (kT (l:=[5,7,6]) (by decide) (by decide)) (by decide) t (wO (w:=[61,62]) (by decide)) (vv (vu ⟨_,rfl⟩)) (by omega);refine⟨d,by simpa using v,?_⟩;show pImplies (f+1) d=_;rw [pImplies,show pRow f 0 d=_ from q];show(yt [61,62] ⟨[61,62]++_,[61,62]⟩).bind _=_;rw [xq,xw,o];show(pImplies f g).bind _=_;rw [show pImplies f g=_ from j];rfl
theorem WQ{a:Ex}(s:n=⟨#[]⟩)(k:Reads a)(p:Reads b):Reads (.mk 9 n [a,b]):=by
 subst s;have u:putE (.mk 9 ⟨#[]⟩ [a,b])=wrapT (bareB [5,7,6,8] a.op) (putE a)++(32::([60,61,62]++(32::wrapT (bareB [5,7,6,8] b.op) (putE b)))):=by simp [putE,putKids,bareL,signT]
 refine Reads.of fun r x f h e i c=> ?_;rw [u]at c⊢;have m:levO (Ex.mk 9 ⟨#[]⟩ [a,b]).op=1:=rfl;rw [m]at c e⊢;simp only [qn,qT,jb]at c;have⟨g,o,j⟩:=jI (l:=2) (f:=f) p (kT (l:=[5,7,6,8]) (by decide) (by decide)) (by decide) h (e.mono (by decide)) i (by omega);have t:atTZz (32::([60,61,62]++(32::(wrapT (bareB [5,7,6,8] b.op) (putE b)++r))))=some ⟨[60,61,62]++(32::(wrapT (bareB [5,7,6,8] b.op) (putE b)++r)),[60,61,62]⟩:=(xw _).trans (vz (by decide) _);have⟨d,v,q⟩:=jI (l:=2) (f:=f) k (kT (l:=[5,7,6,8]) (by decide) (by decide)) (by decide) t (wO (w:=[60,61,62]) (by decide)) (vv (vu ⟨_,rfl⟩)) (by omega);refine⟨d,by simpa using v,?_⟩;show pSame (f+1) d=_;rw [pSame,show pImplies f d=_ from q];show(yt [60,61,62] ⟨[60,61,62]++_,[60,61,62]⟩).bind _=_;rw [xq,xw,o];show(pImplies f g).bind _=_;rw [show pImplies f g=_ from j];rfl
theorem Kk{a c:Ex}(z:n=⟨#[]⟩)(t:Reads a)(y:Reads b)(A:Reads c):Reads (.mk 10 n [a,b,c]):=by
 subst z;have C:putE (.mk 10 ⟨#[]⟩ [a,b,c])=wrapT (bareB [5,7,6,8,9] a.op) (putE a)++(32::([63]++(32::(wrapT (bareB [5,7,6,8,9,10] b.op) (putE b)++(32::([58]++(32::wrapT (bareB [5,7,6,8,9,10] c.op) (putE c)))))))):=by simp [putE,putKids,bareL,signT]
 refine Reads.of fun r E f o i p d=> ?_;rw [C]at d⊢;have u:levO (Ex.mk 10 ⟨#[]⟩ [a,b,c]).op=0:=rfl;rw [u]at d i⊢;simp only [qn,qT,jb]at d;have⟨k,s,v⟩:=jI (l:=0) (f:=f) (b:=bareB [5,7,6,8,9,10] c.op) A (fun _=>qv _) (by decide) o i p (by omega);have B:atTZz (32::([58]++(32::(wrapT (bareB [5,7,6,8,9,10] c.op) (putE c)++r))))=some ⟨[58]++(32::(wrapT (bareB [5,7,6,8,9,10] c.op) (putE c)++r)),[58]⟩:=(xw _).trans (vz (by decide) _);have⟨j,h,q⟩:=jI (l:=0) (f:=f) (b:=bareB [5,7,6,8,9,10] b.op) y (fun _=>qv _) (by decide) B (wO (w:=[58]) (by decide)) (vv (vu ⟨_,rfl⟩)) (by omega);generalize D:(32::([58]++(32::(wrapT (bareB [5,7,6,8,9,10] c.op) (putE c)++r))))=T at h;have g:atTZz (32::([63]++(32::(wrapT (bareB [5,7,6,8,9,10] b.op) (putE b)++T))))=some ⟨[63]++(32::(wrapT (bareB [5,7,6,8,9,10] b.op) (putE b)++T)),[63]⟩:=(xw _).trans (vz (by decide) _);have⟨e,m,x⟩:=jI (l:=1) (f:=f) t (kT (l:=[5,7,6,8,9]) (by decide) (by decide)) (by decide) g (wO (w:=[63]) (by decide)) (vv (vu ⟨_,rfl⟩)) (by omega);refine⟨e,by rw [←D]at m;simpa using m,?_⟩;show pChoice (f+1) e=_;rw [pChoice,show pSame f e=_ from x];show(yt [63] ⟨[63]++_,[63]⟩).bind _=_;rw [xq,xw,h];show(pChoice f j).bind _=_;rw [show pChoice f j=_ from q];show(yt [58] ⟨[58]++_,[58]⟩).bind _=_;rw [xq,xw,s];show(pChoice f k).bind _=_;rw [show pChoice f k=_ from v];rfl
def q0J(o i:Nat):Prop:=(o=6/\i=0)\/(o=7/\i=1)\/(o=5/\i=2)
theorem QZ(h:q0J o i)(j:Nat):(if o=4 then []else bareL o j)=bareL o 0/\(∀k,bareB (bareL o 0) k=true->i+4<=levO k)/\signT o (j+1)=rowSign i/\rowSign i∈signs/\rowSign i=signOf (i+3)/\levO o=i+3/\rowOp i=o/\i<=2/\stopW (i+4) (rowSign i):=by
 rcases h with⟨rfl,rfl⟩|⟨rfl,rfl⟩|⟨rfl,rfl⟩
 .exact⟨by simp [bareL],fun k a=>kT (l:=bareL 6 0) (by decide) (by decide) a,by simp [signT,rowSign],by decide,rfl,rfl,rfl,by decide,wO (by decide)⟩
 .exact⟨by simp [bareL],fun k a=>kT (l:=bareL 7 0) (by decide) (by decide) a,by simp [signT,rowSign],by decide,rfl,rfl,rfl,by decide,wO (by decide)⟩
 .exact⟨by simp [bareL],fun k a=>kT (l:=bareL 5 0) (by decide) (by decide) a,by simp [signT,rowSign],by decide,rfl,rfl,rfl,by decide,wO (by decide)⟩
theorem Vh(h:i<=2)(t:St):pAt (i+4) f t=pRow f (i+1) t/\pAt (i+3) f t=pRow f i t:=by
 match i,h with
 |0,_=>exact⟨rfl,rfl⟩
 |1,_=>exact⟨rfl,rfl⟩
 |2,_=>exact⟨rfl,rfl⟩
theorem Yw{o i:Nat}(c:q0J o i){r:List UInt8}{b:St}(n:atTZz r=some b)(d:stopW (i+3) b.word)(q:delim r):
 ∀(rest:List Ex)(j f:Nat)(done:List Ex),(∀k∈rest,Reads k)→12*(putKids o (j+1) rest).length+8≤f+6→
  ∃t,atTZz (putKids o (j+1) rest++r)=some t∧delim (putKids o (j+1) rest++r)∧stopW (i+4) t.word∧pMore f i done t=some (done++rest,b)
 |[],j,f,done,_,e=>by
  obtain⟨-,-,-,-,p,-,-,s,-⟩:=QZ c j;obtain⟨g,rfl⟩: ∃g,f=g+1:=⟨f - 1,by omega⟩;refine⟨b,by simpa [putKids]using n,by simpa [putKids]using q,d.mono (by omega),?_⟩;rw [gR (by rw [p];exact d (i+3) (qt _) (by omega)),zS]
 |k::a,j,f,done,u,e=>by
  have⟨C,G,K,w,p,L,M,s,B⟩:=QZ c (j+1);have h:=(QZ c j).2.2.1;have I:putKids o (j+1) (k::a)=32::(rowSign i++(32::(wrapT (bareB (bareL o 0) k.op) (putE k)++putKids o (j+1+1) a))):=by
   rw [putKids,if_neg (by omega),C,h];simp
  rw [I]at e⊢;simp only [qn,qT]at e;obtain⟨g,rfl⟩: ∃g,f=g+1:=⟨f - 1,by omega⟩;have⟨A,y,E,z,J⟩:=Yw c n d q a (j+1) g (done++[k]) (fun x H=>u x (by simp [H])) (by omega);have⟨m,D,v⟩:=jI (l:=i+4) (f:=g) (u k (by simp)) (G _) (by omega) y z E (by omega);refine⟨⟨rowSign i++(32::(wrapT (bareB (bareL o 0) k.op) (putE k)++(putKids o (j+1+1) a++r))),rowSign i⟩,?_,vv (vu ⟨_,rfl⟩),B,?_⟩
  ·have:=(xw (rowSign i++(32::(wrapT (bareB (bareL o 0) k.op) (putE k)++(putKids o (j+1+1) a++r))))).trans (vz w _)
   simpa using this
  ·rw [pMore,xq,xw,D]
   show((pRow g (i+1) m).bind _)=_;rw [←(Vh s m).1,v];show pMore g i (done++[k]) A=_;rw [J,qS];rfl
theorem Zl{l:List Ex}(h:q0J o i)(t:n=⟨#[]⟩)(s:2≤l.length)(p: ∀k∈l,Reads k):Reads (.mk o n l):=by
 subst t;have⟨B,G,K,L,M,w,E,m,N⟩:=QZ h 0;match l,s with
 |a::b::l,_=>
  have c:o≠1∧o≠2∧o≠3∧o≠4:=by rcases h with⟨rfl,_⟩|⟨rfl,_⟩|⟨rfl,_⟩<;>decide
  have I:putE (.mk o ⟨#[]⟩ (a::b::l))=wrapT (bareB (bareL o 0) a.op) (putE a)++putKids o (0+1) (b::l):=by
   rw [putE,if_neg c.1,if_neg c.2.1,if_neg c.2.2.1,if_neg c.2.2.2,putKids,if_pos rfl,B];simp
  refine Reads.of fun r O f y j z e=> ?_;rw [I]at e⊢;have g:levO (Ex.mk o ⟨#[]⟩ (a::b::l)).op=i+3:=w;rw [g]at e j⊢;simp only [qn]at e;have⟨A,u,D,v,J⟩:=Yw h y j z (b::l) 0 f [a] (fun x H=>p x (by simp [H])) (by omega);have⟨d,C,q⟩:=jI (l:=i+4) (f:=f) (p a (by simp)) (G _) (by omega) u v D (by omega);refine⟨d,by simpa using C,?_⟩;rw [(Vh m d).2,pRow,if_neg (by omega),←(Vh m d).1,q];show((pMore f i [a] A).bind _)=_;rw [J,←E];rfl
theorem Ug{l:List Ex}(h:(Ex.mk o n l).row.all rightB=true):jr o n l.length=true/\ ∀k∈l,k.row.all rightB=true:=by
 have b: ∀l:List Ex,(Ex.rows l).all rightB=true-> ∀k∈l,k.row.all rightB=true:=by
  intro l;induction l with
  |nil=>intro _ k a;cases a
  |cons e l c=>
   intro h k a;rw [Ex.rows,List.all_append,qy]at h;rcases qI.1 a with rfl|a
   .exact h.1
   .exact c h.2 k a
 rw [Ex.row,List.all_cons,qy]at h;exact⟨h.1,b l h.2⟩
theorem q0R: ∀e:Ex,e.row.all rightB=true->Reads e/\(e.op<=4->Ku e):=by
 refine Ex.ind fun o n l r h=> ?_;have⟨s,q⟩:=Ug h;have g: ∀k∈l,Reads k:=fun k j=>(r k j (q k j)).1;rcases right_cases s with⟨m,d,f⟩|⟨rfl,d,f⟩|⟨rfl,d,f⟩|⟨m,d,f⟩|⟨m,d,f⟩|⟨rfl,d,f⟩
 .have f:=xP f
  have d:=zJ d;subst f d;rcases m with rfl|rfl
  .have:=wL (e:= .mk 1 ⟨#[]⟩ []) (n:=[48]) (by simp [putE]) ⟨by simp,by decide,vu rfl⟩ (by rw [if_pos rfl];rfl)
   exact⟨this.reads rfl,fun _=>this⟩
  .have:=wL (e:= .mk 2 ⟨#[]⟩ []) (n:=[49]) (by simp [putE]) ⟨by simp,by decide,vv (vu rfl)⟩ (by rw [if_neg (by decide),if_pos rfl];rfl)
   exact⟨this.reads rfl,fun _=>this⟩
 .have d:=zJ d
  subst d;have⟨v,u,t⟩:=Zx f
  have:=wL (e:= .mk 3 n []) (n:=n.data.toList) (by simp [putE]) v (by rw [if_neg u,if_neg t,Qz])
  exact⟨this.reads rfl,fun _=>this⟩
 .obtain⟨k,rfl⟩:=List.length_eq_one_iff.1 d
  have j:=r k (by simp) (q k (by simp))
  have:=G7 (xP f) j.1 j.2
  exact⟨this.reads rfl,fun _=>this⟩
 .refine⟨?_,fun p=> ?_⟩
  .rcases m with rfl|rfl|rfl
   .exact Zl (i:=2) (vv (vv ⟨rfl,rfl⟩)) (xP f) d g
   .exact Zl (i:=0) (vu ⟨rfl,rfl⟩) (xP f) d g
   .exact Zl (i:=1) (vv (vu ⟨rfl,rfl⟩)) (xP f) d g
  .have:o<=4:=p
   omega
 .refine⟨?_,fun p=> ?_⟩
  .match l,d with
   |[a,b],_=>
    rcases m with rfl|rfl
    .exact Jq (xP f) (g a (by simp)) (g b (by simp))
    .exact WQ (xP f) (g a (by simp)) (g b (by simp))
  .have:o<=4:=p
   omega
 .refine⟨?_,fun p=>absurd p (by show¬10<=4;decide)⟩
  match l,d with
  |[a,b,c],_=>exact Kk (xP f) (g a (by simp)) (g b (by simp)) (g c (by simp))
theorem q4J: ∀e:Ex,e.row.all rightB=true->(putE e).length+7<=47*e.size:=by
 refine Ex.ind fun o n l f h=> ?_;have⟨m,r⟩:=Ug h;have d: ∀(l:List Ex),(∀k∈l,(putE k).length+7<=47*k.size)-> ∀i,(putKids o i l).length<=47*Ex.sizes l:=by
  intro l;induction l with
  |nil=>intro _ i;simp [putKids]
  |cons e l f=>
   intro h i;have s:=KR o i;have a:=h e (by simp);have b:=f (fun k c=>h k (by simp [c])) (i+1);have j: ∀b,(wrapT b (putE e)).length<=(putE e).length+2:=fun b=>by cases b<;>simp [wrapT]
   have j:=j (bareB (if o=4 then []else bareL o i) e.op);have t:(if i=0 then []else 32::(signT o i++[32])).length<=5:=by
    split
    .simp
    .simp;omega
   rw [putKids,Ex.sizes,qn,qn];omega
 have c:=d l (fun k c=>f k c (r k c)) 0;have q:o=3->n.data.toList.length<=32:=fun e=>by
  subst e;have g:nameB n=true:=by
   rcases right_cases m with⟨h,-⟩|⟨-,-,h⟩|⟨h,-⟩|⟨h,-⟩|⟨h,-⟩|⟨h,-⟩
   .omega
   .exact h
   all_goals omega
  unfold nameB at g;simp only [qy,decide_eq_true_eq]at g
  have:n.size=n.data.toList.length:=by rw [zW];rfl
  omega
 rw [putE,Ex.size];split
 .simp;omega
 .split
  .simp;omega
  .split
   .have:=q (by assumption)
    omega
   .split
    .rename_i p
     subst p;rw [qT];omega
    .omega
theorem Xo(h:validB x=true):parseF (12*(32::putE x).length+24) (32::putE x)=some x:=by
 have c:=h;unfold validB at h;simp only [qy,decide_eq_true_eq]at h;obtain⟨⟨a,f⟩,-⟩:=h;have g:=q4J x a;have b:atTZz []=some ⟨[],[]⟩:=rfl;have⟨t,d,e⟩:=(q0R x a).1 0 (qv _) [] ⟨[],[]⟩ (12*(32::putE x).length+24) b (fun k _ _=>q5u k) (vu rfl) (by simp;omega);unfold parseF;rw [if_neg (by simp;omega),Vl];show((atTZz (32::putE x)).bind _)=_;rw [xw,<-zS (putE x),d];show((pChoice _ t).bind _)=_;rw [zS];rw [show pChoice (12*(32::putE x).length+24) t=some (x,⟨[],[]⟩)from e];show(if([]:List UInt8)=[]then(if validB x=true then some x else none)else none)=_;rw [if_pos rfl,if_pos c]
def ux(w:List UInt8):Prop:=w≠[]/\ ∀b∈w,b≠32/\b≠10
theorem jB(h:nameB n=true):ux n.data.toList:=by
 obtain⟨⟨d,a,-⟩,-,-⟩:=Zx h;exact⟨d,fun b c=>⟨fun e=>absurd (a b c) (by rw [e];decide),fun e=>absurd (a b c) (by rw [e];decide)⟩⟩
theorem Kf(n:Int):ux (yY n):=by
 have c: ∀u:Nat,ux (decN 20 u):=fun u=>⟨q28 19 u,fun b a=>by
  have:=Qu 20 u b a
  refine⟨fun e=> ?_,fun e=> ?_⟩<;>(rw [e]at this;revert this;decide)⟩
 unfold yY;split
 .refine⟨by simp,fun b a=> ?_⟩
  rcases qI.1 a with rfl|a
  .decide
  .exact(c _).2 b a
 .exact c _
theorem join_one(x:List UInt8):zL [x] [32]=x:=by simp [zL,List.intercalate,List.intersperse]
theorem join_cons(x y:List UInt8)(l:List (List UInt8)):zL (x::y::l) [32]=x++32::zL (y::l) [32]:=by simp [zL,List.intercalate,List.intersperse]
theorem Yk: ∀{a:List (List UInt8)},a≠[]→(∀w∈a,ux w)→wordsOf (zL a [32])=a.map toB
 |[],h,_=>absurd rfl h
 |[x],_,h=>by
  have⟨c,d⟩:=h x (by simp);rw [join_one,Yj (fun b e=>(d b e).1) c];rfl
 |x::y::l,_,h=>by
  have⟨c,d⟩:=h x (by simp);rw [join_cons,uw (fun b e=>(d b e).1) c,Yk (by simp) fun w f=>h w (by simp at f⊢;exact vv f)];rfl
def lineOk(t:List UInt8):Prop:=(∀b∈t,b≠10)/\(∃b q,t=b::q/\b≠32/\b≠35)/\ ∃b q,t=q++[b]/\b≠32
theorem word_ends(h:ux w):(∃b q,w=b::q/\b≠32)/\ ∃b q,w=q++[b]/\b≠32:=by
 have⟨a,c⟩:=h;refine⟨?_,w.getLast a,w.dropLast,(List.dropLast_concat_getLast a).symm,(c _ (List.getLast_mem a)).1⟩
 cases w with
 |nil=>exact absurd rfl a
 |cons b q=>exact⟨b,q,rfl,(c b (by simp)).1⟩
theorem vK: ∀{i:List (List UInt8)}{x:List UInt8}{l:List (List UInt8)},i=x::l→(∀w∈i,ux w)→x.head?≠some 35→lineOk (zL i [32])
 |_,x,[],rfl,h,c=>by
  rw [join_one];have f:=h x (by simp);have⟨⟨b,q,g,n⟩,m,k,p,o⟩:=word_ends f;exact⟨fun b a=>(f.2 b a).2,⟨b,q,g,n,fun e=>c (by rw [g,e];rfl)⟩,m,k,p,o⟩
 |_,x,y::l,rfl,h,c=>by
  have f:=h x (by simp);obtain⟨⟨b,q,g,n⟩,-⟩:=word_ends f;have j: ∀(l:List (List UInt8))(y:List UInt8),(∀w∈y::l,ux w)→(∀b∈zL (y::l) [32],b≠10)∧ ∃b q,zL (y::l) [32]=q++[b]∧b≠32:=by
   intro l;induction l with
   |nil=>
    intro y h;rw [join_one];exact⟨fun b a=>((h y (by simp)).2 b a).2,(word_ends (h y (by simp))).2⟩
   |cons z l v=>
    intro y h;have⟨B,b,q,s,t⟩:=v z fun w d=>h w (by simp at d⊢;exact vv d);rw [join_cons];refine⟨fun b a=> ?_,b,y++32::q,by rw [s];simp,t⟩;rcases qK.1 a with a|a
    ·exact((h y (by simp)).2 b a).2
    ·rcases qI.1 a with rfl|a
     ·decide
     ·exact B b a
  have⟨u,m,k,r,A⟩:=j l y fun w d=>h w (by simp at d⊢;exact vv d);rw [join_cons];refine⟨fun b a=> ?_,⟨b,q++32::zL (y::l) [32],by rw [g];rfl,n,fun e=>c (by rw [g,e];rfl)⟩,m,x++32::k,by rw [r];simp,A⟩;rcases qK.1 a with a|a
  ·exact(f.2 b a).2
  ·rcases qI.1 a with rfl|a
   ·decide
   ·exact u b a
theorem Zh{t:List UInt8}(h:lineOk t):wJ t 32=t:=by
 obtain⟨-,⟨b,q,e,c,-⟩,i,g,d,a⟩:=h;have f:Go.Lib.trimRightB t 32=t:=by
  unfold Go.Lib.trimRightB;rw [d,List.reverse_append,List.reverse_singleton,List.singleton_append,q03 (by simpa using a),List.reverse_cons,List.reverse_reverse]
 unfold wJ;rw [f];unfold Go.Lib.trimLeftB;rw [e,q03 (by simpa using c)]
theorem UN{t:List UInt8}(h:lineOk t)(r:RS):lineL r t=actL r (wordsOf t) (ur t (wd (wordsOf t) 0).data.toList):=by
 have c:=Zh h;obtain⟨-,⟨b,q,d,e,a⟩,-⟩:=h;unfold lineL;rw [c,if_neg];rw [d];simp [a]
theorem ky{x:List UInt8}{l:List (List UInt8)}(h: ∀w∈x::l,ux w)(b:x.head?≠some 35)(r:RS): ∃a,lineL r (zL (x::l) [32])=actL r ((x::l).map toB) a:=by
 rw [UN (vK rfl h b),Yk (by simp) h];exact⟨_,rfl⟩
def nl(t:List UInt8):List UInt8:=t++[10]
theorem Wo: ∀{ts:List (List UInt8)},(∀t∈ts,∀b∈t,b≠10)->cutAt 10 (ts.flatMap nl)=ts++[[]]
 |[],_=>rfl
 |t::ts,h=>by
  rw [zI];show cutAt 10 ((t++[10])++ts.flatMap nl)=_;rw [qS];show cutAt 10 (t++10::ts.flatMap nl)=_;rw [q2a (h t (by simp)),Wo fun x a=>h x (by simp [a])];rfl
theorem Yz{ts:List (List UInt8)}(h: ∀t∈ts,∀b∈t,b≠10):linesOf (ts.flatMap nl)=ts:=by
 unfold linesOf;rw [Wo h];simp
def q04(r:RS)(ls:List (List UInt8))(r':RS):Prop:= ∀i rest,readL r i (ls++rest)=readL r' (i+ls.length) rest
theorem q04.nil(r:RS):q04 r [] r:=fun _ _=>rfl
theorem q04.cons{r a d:RS}{l:List UInt8}{c:List (List UInt8)}(h:lineL r l=(0,a))(k:q04 a c d):q04 r (l::c) d:=fun i b=>by
 rw [zl,readL,h,if_pos rfl,k,qT];congr 1;omega
theorem q04.one{r a:RS}{l:List UInt8}(h:lineL r l=(0,a)):q04 r [l] a:= .cons h (.nil a)
theorem q04.app{r c e:RS}{a b:List (List UInt8)}(h:q04 r a c)(k:q04 c b e):q04 r (a++b) e:=fun i d=>by rw [qS,h,k,qn,Nat.add_assoc]
theorem q04.each{α:Type}(g:Nat->α->List (List UInt8))(a:Nat->RS): ∀(l:List α)(i:Nat),(∀k x,l[k]? =some x->q04 (a (i+k)) (g (i+k) x) (a (i+k+1)))->q04 (a i) ((l.zipIdx i).flatMap fun p=>g p.2 p.1) (a (i+l.length))
 |[],i,_=>q04.nil _
 |x::l,i,h=>by
  rw [List.zipIdx_cons,zI];have d:=h 0 x rfl;have b:=q04.each g a l (i+1) fun k y c=>by
   have:=h (k+1) y c
   rwa [show i+(k+1)=i+1+k by omega]at this
  rw [show i+1+l.length=i+(x::l).length by simp;omega]at b;exact d.app b
end Go.Proofs.Mod
namespace Go.Proofs.Mod
open Go Go.Proofs.YtjcbmcnbdegpmaaGreatDoor
theorem kj(n:ByteArray):toB n.data.toList=n:=by
 unfold toB;rw [Qz]
def featW(m:Mod)(i:Nat)(f:xM):List (List UInt8):=if i=0 then [wRoot.data.toList,f.name.data.toList]else [QU f.kind,nameT m f.parent.toNat,f.name.data.toList]
def grpW(m:Mod)(g:Grp):List (List UInt8):=[wGroup.data.toList,nameT m g.parent.toNat,yY g.low,yY g.high]++g.members.map fun k=>nameT m k.toNat
def q2Y(m:Mod)(a:Att)(i:Nat)(x:Int):List (List UInt8):=if x=0 then []else [zL [vF.data.toList,a.name.data.toList,nameT m i,yY x] [32]]
def attP(m:Mod)(a:Att):List (List UInt8):=zL [wAttr.data.toList,a.name.data.toList] [32]::(a.values.zipIdx.flatMap fun p=>q2Y m a p.2 p.1)
def linesP(m:Mod):List (List UInt8):=
 (m.feats.zipIdx.flatMap fun p=>[zL (featW m p.2 p.1) [32]])++((m.grps.zipIdx.flatMap fun p=>[zL (grpW m p.1) [32]])++((m.atts.zipIdx.flatMap fun p=>attP m p.1)++((m.reqs.zipIdx.flatMap fun p=>[reqT p.1])++m.lims.zipIdx.flatMap fun p=>[limT m p.1])))
theorem gX{α β:Type}(f:α->List β): ∀(l:List α)(i:Nat),((l.zipIdx i).flatMap fun p=>f p.1)=l.flatMap f
 |[],_=>rfl
 |x::l,i=>by rw [List.zipIdx_cons,zI,zI,gX f l]
theorem uJ{α:Type}(g:α->List (List UInt8)): ∀l:List α,(l.flatMap g).flatMap nl=l.flatMap fun x=>(g x).flatMap nl
 |[]=>rfl
 |x::l=>by rw [zI,zC,uJ g l,zI]
theorem gQ(t:List UInt8):[t].flatMap nl=t++[10]:=by simp [nl]
theorem wQ(m:Mod):printM m=(linesP m).flatMap nl:=by
 have c: ∀a:Att,attT m a=(attP m a).flatMap nl:=fun a=>by
  unfold attT attP;rw [zI,uJ];congr 1;congr 1;funext p;unfold ww q2Y;split
  .rfl
  .rw [gQ];rfl
 have b: ∀p:xM×Nat,ZK m p.2 p.1=[zL (featW m p.2 p.1) [32]].flatMap nl:=fun p=>by
  rw [gQ];unfold ZK featW;split<;>rfl
 unfold printM linesP;rw [zC,zC,zC,zC,uJ,uJ,uJ,uJ,uJ];congr 1
 .congr 1
  funext p;exact b p
 congr 1
 .rw [gX (fun g=>[zL (grpW m g) [32]].flatMap nl)]
  congr 1;funext g;rw [gQ];rfl
 congr 1
 .rw [gX (fun a=>(attP m a).flatMap nl)]
  congr 1;funext a;exact c a
 congr 1
 .rw [gX (fun x=>[reqT x].flatMap nl)]
  congr 1;funext x;rw [gQ];simp [lineT,join_one]
 .rw [gX (fun x=>[limT m x].flatMap nl)]
  congr 1;funext x;rw [gQ];simp [lineT,join_one]
theorem Gr{l:List ByteArray}{s:ByteArray}(h:hasN l s=false): ∀x∈l,x≠s:=by
 intro x a e
 have:hasN l s=true:=by
  unfold hasN;rw [List.any_eq_true];exact⟨x,a,decide_eq_true e⟩
 rw [h]at this
 cases this
theorem VH{l:List ByteArray}(h: ∀(i:Nat) x,l[i]? =some x->hasN (l.take i) x=false){k i:Nat}{x:ByteArray}(c:l[i]? =some x)(a:i<k):idxN (l.take k) x=(i:Int):=by
 refine ZC (fun j y d b=> ?_) (by rw [zH,if_pos a];exact c);rw [zH,if_pos (by omega)]at b;refine Gr (h i x c) y (qp (i:=j) ?_);rw [zH,if_pos d];exact b
theorem Jv{l:List ByteArray}{s:ByteArray}(b:nameB s=true)(a:hasN l s=false):freshE l s=0:=by
 unfold freshE;rw [if_pos b,if_neg (by rw [a];decide)]
theorem xN{α:Type}{l:List α}{k:Nat}{x:α}(h:l[k]? =some x):l.take (k+1)=l.take k++[x]:=by rw [List.take_add_one,h];rfl
section
variable {m:Mod}
theorem UL{i:Nat}{f:xM}(h:m.feats[i]? =some f):m.names[i]? =some f.name:=by unfold Mod.names;rw [qA,h];rfl
theorem q1n(c:vC m): ∀(i:Nat) x,m.names[i]? =some x->hasN (m.names.take i) x=false:=by
 intro i x a;unfold Mod.names at a;rw [qA]at a
 cases b:m.feats[i]? with
 |none=>rw [b]at a;cases a
 |some f=>
  rw [b]at a
  cases a;exact(c.feat i f b).2.1
theorem Gc(k:Nat):(m.feats.take k).map xM.name=m.names.take k:=by unfold Mod.names;rw [List.map_take]
theorem xt{i:Nat}{f:xM}(h:m.feats[i]? =some f):nameT m i=f.name.data.toList:=by unfold nameT;rw [UL h];rfl
theorem Gd:m.names.take m.feats.length=m.names:=zE (by simp [Mod.names])
theorem UR(b:vC m){i k:Nat}{f:xM}(h:m.feats[i]? =some f)(a:i<k):idxN (m.names.take k) f.name=(i:Int):=VH (q1n b) (UL h) a
theorem VI(a:vC m){i:Nat}{f:xM}(h:m.feats[i]? =some f):idxN m.names f.name=(i:Int):=by
 have:=UR a h (qm.1 h).1
 rwa [Gd]at this
def stF(m:Mod)(k:Nat):RS:=⟨⟨m.feats.take k,[],[],[],[]⟩,[]⟩
theorem q0w(s:vC m){k:Nat}{x:xM}(z:m.feats[k]? =some x):lineL (stF m k) (zL (featW m k x) [32])=(0,stF m (k+1)):=by
 have⟨r,C,g⟩:=s.feat k x z;have M:=(qm.1 z).1;have I:=s.n24;have p:stF m (k+1)=⟨⟨m.feats.take k++[x],[],[],[],[]⟩,[]⟩:=by unfold stF;rw [xN z]
 have o:(m.feats.take k).length=k:=by rw [zd];omega
 cases k with
 |zero=>
  simp only [kindB,if_true,qy,decide_eq_true_eq]at g;have⟨g,t⟩:=g;have⟨n,e⟩:=ky (x:=wRoot.data.toList) (l:=[x.name.data.toList]) (fun w h=>by
   simp only [qI,zh,or_false]at h;rcases h with rfl|rfl
   .exact jB (by decide)
   .exact jB r) (by decide) (stF m 0)
  rw [featW,if_pos rfl,e,p];simp only [yL,jE,kj];have h:wd [wRoot,x.name] 0=wRoot:=rfl;have y:wd [wRoot,x.name] 1=x.name:=rfl;unfold actL;rw [h,if_pos rfl];unfold rootL;rw [if_pos (show [wRoot,x.name].length=2 from rfl),if_pos (show(stF m 0).m.feats.length=0 from rfl),y];unfold addsL;rw [if_pos (show freshE (stF m 0).m.names x.name=0 from Jv r C),if_neg (by rw [show(stF m 0).m.feats.length=0 from rfl];decide)];have⟨a,b,c⟩:=x;simp only at g t;subst g t;rfl
 |succ k=>
  simp only [kindB,Nat.succ_ne_zero,if_false,qy,decide_eq_true_eq]at g;have⟨⟨⟨g,t⟩,L⟩,K⟩:=g;have A:x.parent.toNat<k+1:=by omega
  obtain⟨f,i⟩: ∃f,m.feats[x.parent.toNat]? =some f:=⟨_,qi (by omega)⟩;obtain⟨H,-,-⟩:=s.feat _ _ i;have v: ∃d:ByteArray,QU x.kind=d.data.toList/\nameB d=true/\kindW d=x.kind/\d≠wRoot/\(d=gB\/d=Uq\/d=Ur):=by
   have:x.kind=2\/x.kind=3\/x.kind=4:=by omega
   rcases this with e|e|e
   .exact⟨gB,by rw [e];rfl,by decide,by rw [e];decide,by decide,vu rfl⟩
   .exact⟨Uq,by rw [e];rfl,by decide,by rw [e];decide,by decide,vv (vu rfl)⟩
   .exact⟨Ur,by rw [e];rfl,by decide,by rw [e];decide,by decide,vv (vv rfl)⟩
  have⟨d,J,D,G,E,B⟩:=v;have u:=jB D;have⟨n,e⟩:=ky (x:=d.data.toList) (l:=[f.name.data.toList,x.name.data.toList]) (fun w h=>by
   simp only [qI,zh,or_false]at h;rcases h with rfl|rfl|rfl
   .exact u
   .exact jB H
   .exact jB r) (by rcases B with rfl|rfl|rfl<;>decide) (stF m (k+1))
  rw [featW,if_neg (by omega),J,xt i,e,p];simp only [yL,jE,kj];unfold actL;rw [show wd [d,f.name,x.name] 0=d from rfl,if_neg E,if_pos B];unfold childL;have q:(stF m (k+1)).m.names=m.names.take (k+1):=Gc (k+1);have j:idxF (stF m (k+1)).m f.name=(x.parent.toNat:Int):=by unfold idxF;rw [q];exact UR s i A
  rw [if_pos (show [d,f.name,x.name].length=3 from rfl),if_neg (by rw [show(stF m (k+1)).m.feats.length=k+1 from o];omega),show wd [d,f.name,x.name] 1=f.name from rfl,j,if_pos (by omega)];unfold addsL;rw [show wd [d,f.name,x.name] 2=x.name from rfl,show wd [d,f.name,x.name] 0=d from rfl,G,q,if_pos (Jv r C),if_neg (by rw [show(stF m (k+1)).m.feats.length=k+1 from o];omega)];rw [show(x.parent.toNat:Int)=x.parent by omega];rfl
def stG(m:Mod)(k:Nat):RS:=⟨⟨m.feats,m.grps.take k,[],[],[]⟩,[]⟩
theorem q38(n:vC m)(q: ∀g∈m.grps,g.members.length<4611686018427387904){k:Nat}{g:Grp}(t:m.grps[k]? =some g):lineL (stG m k) (zL (grpW m g) [32])=(0,stG m (k+1)):=by
 have⟨G,H⟩:=n.grp k g t;have X:=(qm.1 t).1;have P:=n.g24;have Q:=q g (qp t);have B:stG m (k+1)=⟨⟨m.feats,m.grps.take k++[g],[],[],[]⟩,[]⟩:=by unfold stG;rw [xN t]
 have z:(m.grps.take k).length=k:=by rw [zd];omega
 have y:=G;unfold vL at y;simp only [qy,decide_eq_true_eq]at y;have⟨⟨⟨⟨⟨N,Y⟩,V⟩,Z⟩,W⟩,U⟩:=y;obtain⟨a,c⟩: ∃a,m.feats[g.parent.toNat]? =some a:=⟨_,qi (by omega)⟩;obtain⟨O,-,-⟩:=n.feat _ _ c;have p:=(gS H);have j: ∀x∈g.members,∃f,m.feats[x.toNat]? =some f/\nameB f.name=true/\0<=x:=fun x r=>by
  obtain⟨u,f,h,-⟩:=p x r;exact⟨f,h,(n.feat _ _ h).1,u⟩
 have b: ∀w∈wGroup.data.toList::(nameT m g.parent.toNat::yY g.low::yY g.high::g.members.map fun k=>nameT m k.toNat),ux w:=by
  intro w E;simp only [qI,List.mem_map]at E;rcases E with rfl|rfl|rfl|rfl|⟨x,r,rfl⟩
  .exact jB (by decide)
  .rw [xt c];exact jB O
  .exact Kf _
  .exact Kf _
  .obtain⟨f,h,S,-⟩:=j x r
   rw [xt h];exact jB S
 have⟨D,e⟩:=ky (x:=wGroup.data.toList) (l:=nameT m g.parent.toNat::yY g.low::yY g.high::g.members.map fun k=>nameT m k.toNat) b (by decide) (stG m k);have M:((wGroup.data.toList::(nameT m g.parent.toNat::yY g.low::yY g.high::g.members.map fun k=>nameT m k.toNat)).map toB)=wGroup::a.name::toB (yY g.low)::toB (yY g.high)::g.members.map fun k=>toB (nameT m k.toNat):=by
  simp only [yL,kj,xt c,kX,List.cons.injEq,true_and];rfl
 rw [M]at e;have d:idxF (stG m k).m a.name=g.parent:=by
  have:=VI n c
  unfold idxF;show idxN m.names a.name=_;omega
 have i:(g.members.map fun k=>toB (nameT m k.toNat)).map (idxF (stG m k).m)=g.members:=by
  rw [kX]
  have: ∀x∈g.members,(idxF (stG m k).m∘fun k=>toB (nameT m k.toNat)) x=x:=fun x r=>by
   obtain⟨f,h,-,u⟩:=j x r
   have:=VI n h
   show idxN m.names (toB (nameT m x.toNat))=x;rw [xt h,kj];omega
  rw [ja this,List.map_id']
 rw [grpW,zl,zl,zl,zl,List.nil_append,e,B];generalize K:(g.members.map fun k=>toB (nameT m k.toNat))=T at i;have R:T.length=g.members.length:=by rw [<-K,qG]
 have v:wu (stG m k).m (wGroup::a.name::toB (yY g.low)::toB (yY g.high)::T) g.low g.high=g:=by
  unfold wu;rw [show wd (wGroup::a.name::toB (yY g.low)::toB (yY g.high)::T) 1=a.name from rfl,d,show(wGroup::a.name::toB (yY g.low)::toB (yY g.high)::T).drop 4=T from rfl,i]
 have A:grpE (stG m k).m k g=0:=by
  unfold grpE;have L:takenTo (stG m k).m.grps k=takenTo m.grps k:=by
   unfold takenTo;show((m.grps.take k).take k).flatMap _=_;rw [List.take_take,Nat.min_self]
  rw [L];show(if(vL m.feats.length g&&vJ m.feats g.parent (takenTo m.grps k) g.members)=true then 0 else 2)=0;rw [G,H];rfl
 unfold actL;rw [show wd (wGroup::a.name::toB (yY g.low)::toB (yY g.high)::T) 0=wGroup from rfl,if_neg (by decide),if_neg (by decide),if_pos rfl];unfold groupL;rw [if_pos (by simp;omega),show wd (wGroup::a.name::toB (yY g.low)::toB (yY g.high)::T) 2=toB (yY g.low)from rfl,show wd (wGroup::a.name::toB (yY g.low)::toB (yY g.high)::T) 3=toB (yY g.high)from rfl,Ja (by omega) (by omega),Ja (by omega) (by omega)];simp only;have o:(decide (0<=idxF (stG m k).m (wd (wGroup::a.name::toB (yY g.low)::toB (yY g.high)::T) 1))&& ((wGroup::a.name::toB (yY g.low)::toB (yY g.high)::T).drop 4).all fun s=>decide (0<=idxF (stG m k).m s))=true:=by
  rw [qy,show wd (wGroup::a.name::toB (yY g.low)::toB (yY g.high)::T) 1=a.name from rfl,d,qL];refine⟨decide_eq_true N,fun s I=>decide_eq_true ?_⟩;have C:s∈T:=I;have J:idxF (stG m k).m s∈g.members:=by rw [<-i];exact List.mem_map_of_mem C
  obtain⟨-,-,-,u⟩:=j _ J;exact u
 rw [if_pos o,v,show(stG m k).m.grps.length=k from z,if_pos A,if_neg (by omega)];rfl
end
end Go.Proofs.Mod
namespace Go.Proofs.Mod
open Go Go.Proofs.YtjcbmcnbdegpmaaGreatDoor
def tz(l:List Int):List Int:=(l.reverse.dropWhile fun x=>decide (x=0)).reverse
def QT(a:Att):Att:=⟨a.name,tz a.values⟩
theorem KJ(l:List Int)(x:Int):tz (l++[x])=if x=0 then tz l else l++[x]:=by
 unfold tz;rw [List.reverse_append,List.reverse_singleton,List.singleton_append];by_cases h:x=0
 .rw [List.dropWhile_cons_of_pos (by simpa using h),if_pos h]
 .rw [q03 (by simpa using h),if_neg h,List.reverse_cons,List.reverse_reverse]
theorem q4m: ∀l:List Int,(tz l).length<=l.length/\tz l++zk (l.length - (tz l).length) 0=l:=by
 have c: ∀(n:Nat)(l:List Int),l.length=n->(tz l).length<=l.length/\tz l++zk (l.length - (tz l).length) 0=l:=by
  intro n;induction n with
  |zero=>
   intro l a;rw [zJ a];exact⟨qt _,rfl⟩
  |succ n g=>
   intro l a;have b:l≠[]:=fun e=>by rw [e]at a;simp at a
   have d:=List.dropLast_concat_getLast b;generalize l.dropLast=q at d;generalize l.getLast b=x at d;subst d;rw [qn]at a;have⟨i,f⟩:=g q (by simpa using a);rw [KJ];split
   .rename_i h
    subst h;refine⟨by rw [qn];omega,?_⟩;rw [qn,show q.length+[(0:Int)].length - (tz q).length=(q.length - (tz q).length)+1 by simp;omega,List.replicate_succ',<-qS,f]
   .exact⟨qt _,by simp⟩
 exact fun l=>c l.length l rfl
theorem q75{l:List Int}{j:Nat}{x:Int}(c:l[j]? =some x)(d:x≠0):setV (tz (l.take j)) j x=tz (l.take (j+1)):=by
 have g:=(qm.1 c).1;have a:(l.take j).length=j:=by rw [zd];omega
 rw [xN c,KJ,if_neg d];have⟨f,b⟩:=q4m (l.take j);rw [a]at f b;unfold setV;have e:tz (l.take j)++zk (j+1 - (tz (l.take j)).length) 0=l.take j++[0]:=by
  rw [show j+1 - (tz (l.take j)).length=(j - (tz (l.take j)).length)+1 by omega,List.replicate_succ',<-qS,b]
 rw [e,List.set_append_right _ _ (by omega),a,xz];rfl
section
variable {m:Mod}
def gV(g0:List (Int×Int))(k:Nat)(l:List Int):Nat->List (Int×Int)
 |0=>g0
 |j+1=>if l.getD j 0=0 then gV g0 k l j else((k:Int),(j:Int))::gV g0 k l j
def gA(l:List Att):Nat->List (Int×Int)
 |0=>[]
 |k+1=>match l[k]? with|some a=>gV (gA l k) k a.values a.values.length|none=>gA l k
theorem gV_lt{d:List (Int×Int)}{k:Nat}{l:List Int}(b: ∀p∈d,p.1<k): ∀j,∀p∈gV d k l j,p.1<k\/(p.1=k/\p.2<j)
 |0,p,a=>vu (b p a)
 |j+1,p,a=>by
  rw [gV]at a;split at a
  .rcases gV_lt b j p a with h|⟨c,e⟩
   .exact vu h
   .exact vv ⟨c,by omega⟩
  .rcases qI.1 a with rfl|a
   .exact vv ⟨rfl,by simp only;omega⟩
   .rcases gV_lt b j p a with h|⟨c,e⟩
    .exact vu h
    .exact vv ⟨c,by omega⟩
theorem gA_lt(l:List Att): ∀k,∀p∈gA l k,p.1<k
 |0,p,a=>by cases a
 |k+1,p,a=>by
  rw [gA]at a;split at a
  .rcases gV_lt (gA_lt l k) _ p a with h|⟨h,-⟩<;>omega
  .have:=gA_lt l k p a
   omega
def stA(m:Mod)(k:Nat):RS:=⟨⟨m.feats,m.grps,(m.atts.take k).map QT,[],[]⟩,gA m.atts k⟩
def stV(m:Mod)(k:Nat)(a:Att)(j:Nat):RS:=⟨⟨m.feats,m.grps,(m.atts.take k).map QT++[⟨a.name,tz (a.values.take j)⟩],[],[]⟩,gV (gA m.atts k) k a.values j⟩
theorem att_fresh(h:chk m=0): ∀(i:Nat) a,m.atts[i]? =some a->nameB a.name=true/\hasN ((m.atts.map Att.name).take i) a.name=false:=by
 intro i a d;unfold chk at h;split at h
 .cases h
 .have c:=wZ h
  have⟨f,e⟩:=kz (c _ (by simp:eachE 8 (attE m) m.atts∈_))
  have:=e i a d
  unfold attE at this;split at this
  .rename_i b
   exact wY b
  .contradiction
theorem Ym(l:List Att)(k:Nat):((l.take k).map QT).map Att.name=(l.map Att.name).take k:=by
 rw [kX,List.map_take];rfl
theorem q39(h:chk m=0){k:Nat}{a:Att}(f:m.atts[k]? =some a):lineL (stA m k) (zL [wAttr.data.toList,a.name.data.toList] [32])=(0,stV m k a 0):=by
 have j:=jm h;have⟨d,i⟩:=att_fresh h k a f;have o:=(qm.1 f).1;have n:=j.a8;have⟨c,e⟩:=ky (x:=wAttr.data.toList) (l:=[a.name.data.toList]) (fun w g=>by
  simp only [qI,zh,or_false]at g;rcases g with rfl|rfl
  .exact jB (by decide)
  .exact jB d) (by decide) (stA m k)
 rw [e];simp only [yL,jE,kj];unfold actL;rw [show wd [wAttr,a.name] 0=wAttr from rfl,if_neg (by decide),if_neg (by decide),if_neg (by decide),if_pos rfl];unfold addedL;have b:(stA m k).m.atts.map Att.name=(m.atts.map Att.name).take k:=Ym m.atts k;rw [if_pos (show [wAttr,a.name].length=2 from rfl),show wd [wAttr,a.name] 1=a.name from rfl,b,if_pos (Jv d i),if_neg (by show¬((m.atts.take k).map QT).length=8;rw [qG,zd];omega)];unfold stV;rw [yU];rfl
theorem q35(h:chk m=0){k:Nat}{a:Att}(g:m.atts[k]? =some a){j:Nat}{x:Int}(p:a.values[j]? =some x):q04 (stV m k a j) (q2Y m a j x) (stV m k a (j+1)):=by
 have u:=jm h;have⟨M,O⟩:=att_fresh h k a g;have P:=(qm.1 g).1;have Q:=(qm.1 p).1;have⟨N,L⟩:=u.att k a g;have o:a.values.getD j 0=x:=by rw [List.getD,p];rfl
 unfold q2Y;by_cases c:x=0
 .rw [if_pos c]
  have:stV m k a (j+1)=stV m k a j:=by
   unfold stV;rw [gV,o,if_pos c,xN p,KJ,if_pos c]
  rw [this];exact .nil _
 .rw [if_neg c]
  refine .one ?_;obtain⟨f,q⟩: ∃f,m.feats[j]? =some f:=⟨_,qi (by omega)⟩;obtain⟨E,-,-⟩:=u.feat _ _ q;have C:costB x=true:=qL.1 L x (qp p);have n:=C;unfold costB at n;simp only [qy,decide_eq_true_eq]at n;have⟨A,e⟩:=ky (x:=vF.data.toList) (l:=[a.name.data.toList,nameT m j,yY x]) (fun w B=>by
   simp only [qI,zh,or_false]at B;rcases B with rfl|rfl|rfl|rfl
   .exact jB (by decide)
   .exact jB M
   .rw [xt q];exact jB E
   .exact Kf _) (by decide) (stV m k a j)
  rw [e];simp only [yL,jE,kj,xt q];unfold actL;rw [show wd [vF,a.name,f.name,toB (yY x)] 0=vF from rfl,if_neg (by decide),if_neg (by decide),if_neg (by decide),if_neg (by decide),if_pos rfl];unfold valueL;have G:((m.atts.take k).map QT).length=k:=by rw [qG,zd];omega
  have v:idxA (stV m k a j).m a.name=(k:Int):=by
   unfold idxA;have z:(stV m k a j).m.atts.map Att.name=(m.atts.map Att.name).take (k+1):=by
    show((m.atts.take k).map QT++[(⟨a.name,tz (a.values.take j)⟩:Att)]).map Att.name=_;rw [ze,Ym,xN (l:=m.atts.map Att.name) (k:=k) (x:=a.name) (by rw [qA,g];rfl)];rfl
   rw [z];refine VH (fun i y d=> ?_) (by rw [qA,g];rfl) (by omega);rw [qA]at d
   cases s:m.atts[i]? with
   |none=>rw [s]at d;cases d
   |some b=>rw [s]at d;cases d;exact(att_fresh h i b s).2
  have t:idxF (stV m k a j).m f.name=(j:Int):=VI u q;rw [if_pos (show [vF,a.name,f.name,toB (yY x)].length=4 from rfl),show wd [vF,a.name,f.name,toB (yY x)] 3=toB (yY x)from rfl,Ja (by omega) (by omega),show wd [vF,a.name,f.name,toB (yY x)] 1=a.name from rfl,show wd [vF,a.name,f.name,toB (yY x)] 2=f.name from rfl,v,t];simp only;have r:((k:Int),(j:Int))∉(stV m k a j).given:=fun J=>by
   rcases gV_lt (gA_lt m.atts k) j _ J with h|⟨-,h⟩
   .simp only at h;omega
   .simp only at h;omega
  rw [if_pos (show(0:Int)<=(k:Int)/\(0:Int)<=(j:Int)from⟨by omega,by omega⟩),if_neg r,if_pos C];have I:gV (gA m.atts k) k a.values (j+1)=((k:Int),(j:Int))::gV (gA m.atts k) k a.values j:=by rw [gV,o,if_neg c]
  have H:q0A (stV m k a j).m.atts (k:Int).toNat (j:Int).toNat x=(m.atts.take k).map QT++[⟨a.name,tz (a.values.take (j+1))⟩]:=by
   unfold q0A;rw [jF,jF];show((m.atts.take k).map QT++[(⟨a.name,tz (a.values.take j)⟩:Att)]).modify k _=_;refine List.ext_getElem? fun i=> ?_;rw [List.getElem?_modify];by_cases D:k=i
   .subst D
    rw [qV (by omega),qV (by omega),G,xz];simp [q75 p c]
   .by_cases K:i<k
    .rw [zc (by omega),zc (by omega)]
     simp [D]
    .rw [zP (by simp;omega),zP (by simp;omega)]
     rfl
  rw [H];unfold stV;rw [I]
theorem q3h(h:chk m=0){k:Nat}{a:Att}(b:m.atts[k]? =some a):q04 (stA m k) (attP m a) (stA m (k+1)):=by
 have e:stV m k a (0+a.values.length)=stA m (k+1):=by
  unfold stV stA;rw [zz,qF,xN b,ze,gA,b];rfl
 rw [<-e];exact .cons (q39 h b) (q04.each (fun i x=>q2Y m a i x) (stV m k a) a.values 0 fun j x c=>by rw [zz];exact q35 h b c)
def tA(m:Mod):List Att:=m.atts.map QT
def stR(m:Mod)(k:Nat):RS:=⟨⟨m.feats,m.grps,tA m,m.reqs.take k,[]⟩,gA m.atts m.atts.length⟩
def stL(m:Mod)(k:Nat):RS:=⟨⟨m.feats,m.grps,tA m,m.reqs,m.lims.take k⟩,gA m.atts m.atts.length⟩
theorem q0T: ∀e:Ex,e.row.all rightB=true->(∀b∈putE e,b≠10)/\ ∃b q,putE e=q++[b]/\b≠32:=by
 refine Ex.ind fun o n l x h=> ?_
 have⟨B,L⟩:=Ug h
 have p: ∀k∈l,∀b:Bool,(∀c∈wrapT b (putE k),c≠10)/\ ∃c q,wrapT b (putE k)=q++[c]/\c≠32:=fun k s b=>by
  have⟨r,u⟩:=x k s (L k s)
  cases b with
  |true=>exact⟨r,u⟩
  |false=>
   refine⟨fun c a=> ?_,41,40::putE k,by simp [wrapT],by decide⟩
   simp only [wrapT,q7E,if_false,qI,qK,zh,or_false]at a
   rcases a with rfl|a|rfl
   .decide
   .exact r c a
   .decide
 have v: ∀i,∀c∈signT o i,c≠10:=fun i=>by
  unfold signT
  repeat' split
  all_goals decide
 have w: ∀(l:List Ex),(∀k∈l,∀b:Bool,(∀c∈wrapT b (putE k),c≠10)/\ ∃c q,wrapT b (putE k)=q++[c]/\c≠32)-> ∀i,(∀c∈putKids o i l,c≠10)/\(l≠[]-> ∃c q,putKids o i l=q++[c]/\c≠32):=by
  intro l
  induction l with
  |nil=>intro _ i;exact⟨fun c a=>by simp [putKids]at a,fun h=>absurd rfl h⟩
  |cons e l x=>
   intro p i
   have⟨K,c,q,J,I⟩:=p e (by simp) (bareB (if o=4 then []else bareL o i) e.op)
   have⟨r,u⟩:=x (fun k s=>p k (by simp [s])) (i+1)
   rw [putKids]
   refine⟨fun c a=> ?_,fun _=> ?_⟩
   .rcases qK.1 a with a|a
    .split at a
     .cases a
     .simp only [qI,qK,zh,or_false]at a
      rcases a with rfl|a|rfl
      .decide
      .exact v i c a
      .decide
    .rcases qK.1 a with a|a
     .exact K c a
     .exact r c a
   .by_cases z:l=[]
    .subst z
     refine⟨c,(if i=0 then []else 32::(signT o i++[32]))++q,?_,I⟩
     rw [J,show putKids o (i+1) []=[] by simp [putKids],zS,qS]
    .have⟨H,E,j,g⟩:=u z
     refine⟨H,(if i=0 then []else 32::(signT o i++[32]))++(wrapT (bareB (if o=4 then []else bareL o i) e.op) (putE e)++E),?_,g⟩
     rw [j]
     simp only [qS]
 have⟨C,y⟩:=w l p 0
 have f:o≠1->o≠2->o≠3->l≠[]:=fun j g D e=>by
  subst e
  rcases right_cases B with⟨h,-⟩|⟨h,-⟩|⟨-,h,-⟩|⟨-,h,-⟩|⟨-,h,-⟩|⟨-,h,-⟩
  .rcases h with h|h
   .exact j h
   .exact g h
  .exact D h
  all_goals simp at h
 rw [putE]
 split
 .exact⟨by decide,48,[],rfl,by decide⟩
 .split
  .exact⟨by decide,49,[],rfl,by decide⟩
  .split
   .rename_i t
    subst t
    have t:nameB n=true:=by
     rcases right_cases B with⟨h,-⟩|⟨-,-,h⟩|⟨h,-⟩|⟨h,-⟩|⟨h,-⟩|⟨h,-⟩
     .omega
     .exact h
     all_goals omega
    have A:=jB t
    exact⟨fun b d=>(A.2 b d).2,(word_ends A).2⟩
   .split
    .rename_i G
     subst G
     have⟨c,q,j,g⟩:=y (f (by decide) (by decide) (by decide))
     refine⟨fun b d=> ?_,c,33::q,by rw [j];rfl,g⟩
     rcases qI.1 d with rfl|d
     .decide
     .exact C b d
    .exact⟨C,y (f (by assumption) (by assumption) (by assumption))⟩
theorem J4{x:Ex}(h:validB x=true):lineOk (reqT x):=by
 unfold validB at h;simp only [qy]at h;have⟨d,b,q,e,c⟩:=q0T x h.1.1;refine⟨fun b a=> ?_,⟨114,_,rfl,by decide,by decide⟩,b,wReq.data.toList++32::q,by unfold reqT;rw [e];simp,c⟩;unfold reqT at a;rcases qK.1 a with a|a
 .have: ∀b∈wReq.data.toList,b≠10:=by decide
  exact this b a
 .rcases qI.1 a with rfl|a
  .decide
  .exact d b a
theorem q36(e:vC m){k:Nat}{x:Ex}(c:m.reqs[k]? =some x):lineL (stR m k) (reqT x)=(0,stR m (k+1)):=by
 have⟨d,g⟩:=e.req k x c;have l:=(qm.1 c).1;have i:=e.r64;have a: ∀b∈wReq.data.toList,b≠32:=by decide
 have j:wordsOf (reqT x)=wReq::wordsOf (putE x):=by
  unfold reqT;rw [uw a (by decide),kj]
 rw [UN (J4 d),j,show wd (wReq::wordsOf (putE x)) 0=wReq from rfl];have f:ur (reqT x) wReq.data.toList=32::putE x:=by
  unfold ur reqT;rw [if_pos (by unfold Go.Lib.hasPrefix;rw [uu];exact⟨_,rfl⟩),List.drop_left]
 rw [f];unfold actL;rw [show wd (wReq::wordsOf (putE x)) 0=wReq from rfl,if_neg (by decide),if_neg (by decide),if_neg (by decide),if_neg (by decide),if_neg (by decide),if_pos rfl];unfold requireL;rw [Xo d];simp only;have h:reqE (stR m k).m.names x=0:=by
  unfold reqE;show(if validB x=true then(if(usedL x).all (hasN m.names)=true then 0 else 6)else 2)=0;rw [if_pos d,if_pos g]
 rw [if_pos h,if_neg (by show¬(m.reqs.take k).length=64;rw [zd];omega)];unfold stR;rw [xN c]
theorem q37(h:chk m=0)(f: ∀l∈m.lims,-9223372036854775808<=l.bound/\l.bound<=9223372036854775807){k:Nat}{l:Lim}(g:m.lims[k]? =some l):lineL (stL m k) (limT m l)=(0,stL m (k+1)):=by
 have s:=jm h;have K:=(qm.1 g).1;have t:=s.l16;have c:=s.lim k l g;unfold Qq at c;simp only [qy,decide_eq_true_eq]at c;have⟨⟨⟨A,G⟩,J⟩,I⟩:=c;have⟨z,u⟩:=f l (qp g);obtain⟨a,j⟩: ∃a,m.atts[l.att.toNat]? =some a:=⟨_,qi (by omega)⟩;have⟨D,H⟩:=att_fresh h _ a j;have p:gk m l.att.toNat=a.name.data.toList:=by unfold gk;rw [j];rfl
 have E: ∃wr:ByteArray,q0N l.rel=wr.data.toList/\ux wr.data.toList/\relW wr=l.rel:=by
  have:l.rel=1\/l.rel=2\/l.rel=3:=by omega
  rcases this with e|e|e
  .exact⟨"<=".toUTF8,by rw [e];decide,⟨by decide,by decide⟩,by rw [e];decide⟩
  .exact⟨">=".toUTF8,by rw [e];decide,⟨by decide,by decide⟩,by rw [e];decide⟩
  .exact⟨"=".toUTF8,by rw [e];decide,⟨by decide,by decide⟩,by rw [e];decide⟩
 have⟨wr,C,v,B⟩:=E;have⟨q,e⟩:=ky (x:=WB.data.toList) (l:=[a.name.data.toList,wr.data.toList,yY l.bound]) (fun w r=>by
  simp only [qI,zh,or_false]at r;rcases r with rfl|rfl|rfl|rfl
  .exact jB (by decide)
  .exact jB D
  .exact v
  .exact Kf _) (by decide) (stL m k)
 rw [limT,p,C,e];simp only [yL,jE,kj];unfold actL;rw [show wd [WB,a.name,wr,toB (yY l.bound)] 0=WB from rfl,if_neg (by decide),if_neg (by decide),if_neg (by decide),if_neg (by decide),if_neg (by decide),if_neg (by decide),if_pos rfl];unfold limitL;have n:idxA (stL m k).m a.name=l.att:=by
  unfold idxA;have o:(stL m k).m.atts.map Att.name=(m.atts.map Att.name).take m.atts.length:=by
   show(m.atts.map QT).map Att.name=_;rw [kX,zE (by simp)];rfl
  rw [o]
  have:=VH (l:=m.atts.map Att.name) (k:=m.atts.length) (i:=l.att.toNat) (x:=a.name) (fun i y d=>by
   rw [qA]at d
   cases f:m.atts[i]? with
   |none=>rw [f]at d;cases d
   |some b=>rw [f]at d;cases d;exact(att_fresh h i b f).2) (by rw [qA,j];rfl) (by omega)
  omega
 rw [if_pos (show [WB,a.name,wr,toB (yY l.bound)].length=4 from rfl),show wd [WB,a.name,wr,toB (yY l.bound)] 3=toB (yY l.bound)from rfl,Ja z u,show wd [WB,a.name,wr,toB (yY l.bound)] 1=a.name from rfl,show wd [WB,a.name,wr,toB (yY l.bound)] 2=wr from rfl,B,n];simp only;rw [if_neg (by omega),if_pos A,if_neg (by show¬(m.lims.take k).length=16;rw [zd];omega)];unfold stL;rw [xN g]
end
end Go.Proofs.Mod
namespace Go.Proofs.Mod
open Go Go.Proofs.YtjcbmcnbdegpmaaGreatDoor
theorem q8t{α β:Type}(g:α->List β)(B:Nat): ∀l:List α,(∀x∈l,(g x).length<=B)->(l.flatMap g).length<=l.length*B
 |[],_=>by simp
 |x::l,h=>by
  have a:=h x (by simp);have b:=q8t g B l fun y c=>h y (by simp [c]);rw [zI,qn,qT,Nat.succ_mul];omega
theorem UK: ∀(n:Nat)(l:List Int),l.Nodup->(∀x∈l,0<=x/\x<n)->l.length<=n
 |0,[],_,_=>by simp
 |0,x::l,_,h=>by have:=h x (by simp);omega
 |n+1,l,a,h=>by
  have g:=UK n (l.filter fun x=>decide (x≠n)) (a.sublist List.filter_sublist) fun x b=>by
   rw [List.mem_filter,decide_eq_true_eq]at b
   have:=h x b.1
   omega
  have c: ∀l:List Int,l.Nodup->l.length<=(l.filter fun x=>decide (x≠(n:Int))).length+1:=by
   intro l;induction l with
   |nil=>intro _;simp
   |cons x l f=>
    intro a;rw [List.nodup_cons]at a;by_cases b:x=n
    .subst b
     have:l.filter (fun y=>decide (y≠(n:Int)))=l:=by
      rw [List.filter_eq_self];intro y d;rw [decide_eq_true_eq];exact fun e=>a.1 (e▸d)
     rw [List.filter_cons_of_neg (by simp),this];simp
    .rw [List.filter_cons_of_pos (by simpa using b),qT,qT]
     have:=f a.2
     omega
  have:=c l a
  omega
def Y9(w:List UInt8):Prop:=ux w/\w.length<=32
theorem uX: ∀c:List (List UInt8),(∀w∈c,Y9 w)→(zL c [32]).length≤33*c.length
 |[],_=>by simp [zL,List.intercalate,List.intersperse]
 |[x],h=>by
  have:=(h x (by simp)).2
  rw [join_one];simp;omega
 |x::y::l,h=>by
  have a:=(h x (by simp)).2;have b:=uX (y::l) fun w d=>h w (by simp at d⊢;exact vv d);rw [join_cons,qn,qT];simp only [qT]at b⊢;omega
theorem xQ{n:ByteArray}(h:nameB n=true):Y9 n.data.toList:=by
 refine⟨jB h,?_⟩;unfold nameB at h;simp only [qy,decide_eq_true_eq]at h
 have:n.size=n.data.toList.length:=by rw [zW];rfl
 omega
theorem q8w: ∀(f u:Nat),(decN f u).length<=f
 |0,_=>by simp [decN]
 |f+1,u=>by
  rw [decN];split
  .simp
  .have:=q8w f (u/10)
   simp;omega
theorem q42(n:Int):Y9 (yY n):=by
 refine⟨Kf n,?_⟩;unfold yY;split
 .have:=q8w 20 n.natAbs
  rw [qT];omega
 .have:=q8w 20 n.toNat
  omega
section
variable {m:Mod}
theorem q4R(g:vC m){k:Nat}{x:xM}(h:m.feats[k]? =some x): ∃y l,featW m k x=y::l/\(∀w∈y::l,Y9 w)/\y.head?≠some 35/\(y::l).length<=28:=by
 obtain⟨f,-,d⟩:=g.feat k x h;have r:=(qm.1 h).1;unfold featW;split
 .exact⟨_,_,rfl,fun w b=>by
   simp only [qI,zh,or_false]at b;rcases b with rfl|rfl
   .exact xQ (by decide)
   .exact xQ f,by decide,by simp⟩
 .rename_i o
  rw [kindB,if_neg o]at d;simp only [qy,decide_eq_true_eq]at d;have⟨⟨⟨d,s⟩,q⟩,p⟩:=d;obtain⟨i,c⟩: ∃i,m.feats[x.parent.toNat]? =some i:=⟨_,qi (by omega)⟩;obtain⟨j,-,-⟩:=g.feat _ _ c;have a:Y9 (QU x.kind)/\(QU x.kind).head?≠some 35:=by
   have:x.kind=2\/x.kind=3\/x.kind=4:=by omega
   rcases this with e|e|e
   .rw [e];exact⟨xQ (n:=gB) (by decide),by decide⟩
   .rw [e];exact⟨xQ (n:=Uq) (by decide),by decide⟩
   .rw [e];exact⟨xQ (n:=Ur) (by decide),by decide⟩
  exact⟨_,_,rfl,fun w b=>by
   simp only [qI,zh,or_false]at b;rcases b with rfl|rfl|rfl
   .exact a.1
   .rw [xt c];exact xQ j
   .exact xQ f,a.2,by simp⟩
theorem q6q(c:vC m){k:Nat}{g:Grp}(t:m.grps[k]? =some g):g.members.length<=24/\ ∃y l,grpW m g=y::l/\(∀w∈y::l,Y9 w)/\y.head?≠some 35/\(y::l).length<=28:=by
 have⟨r,o⟩:=c.grp k g t;have h:=c.n24;have a:=(gS o);obtain⟨-,i,-⟩:=Zy.1 o;have s:g.members.length<=24:=qH (UK m.feats.length g.members i fun x n=>by
  obtain⟨u,f,d,-⟩:=a x n
  have:=(qm.1 d).1
  omega) h
 have j:=r;unfold vL at j;simp only [qy,decide_eq_true_eq]at j;have⟨⟨⟨⟨⟨z,A⟩,B⟩,D⟩,C⟩,v⟩:=j;obtain⟨p,b⟩: ∃p,m.feats[g.parent.toNat]? =some p:=⟨_,qi (by omega)⟩;obtain⟨q,-,-⟩:=c.feat _ _ b;refine⟨s,_,_,rfl,fun w e=> ?_,by decide,by simp;omega⟩;have e:w=wGroup.data.toList\/w=nameT m g.parent.toNat\/w=yY g.low\/w=yY g.high\/ ∃x∈g.members,nameT m x.toNat=w:=by simpa [grpW]using e
 rcases e with rfl|rfl|rfl|rfl|⟨x,n,rfl⟩
 .exact xQ (by decide)
 .rw [xt b];exact xQ q
 .exact q42 _
 .exact q42 _
 .obtain⟨u,f,d,-⟩:=a x n
  rw [xt d];exact xQ (c.feat _ _ d).1
theorem q7v(h:chk m=0){k:Nat}{a:Att}(e:m.atts[k]? =some a): ∀t∈attP m a,lineOk t/\t.length<=924:=by
 have d:=jm h;obtain⟨i,-⟩:=att_fresh h k a e;obtain⟨o,-⟩:=d.att k a e;intro t c;rcases qI.1 c with rfl|c
 .have b: ∀w∈[wAttr.data.toList,a.name.data.toList],Y9 w:=fun w b=>by
   simp only [qI,zh,or_false]at b;rcases b with rfl|rfl
   .exact xQ (by decide)
   .exact xQ i
  exact⟨vK rfl (fun w h=>(b w h).1) (by decide),qH (uX _ b) (by simp)⟩
 .have⟨⟨x,j⟩,n,c⟩:=vD.1 c
  have l:=zw.1 n;simp only at c l;unfold q2Y at c;split at c
  .cases c
  .rw [qN]at c
   subst c;obtain⟨f,g⟩: ∃f,m.feats[j]? =some f:=⟨_,qi (by have:=(qm.1 l).1;omega)⟩;have b: ∀w∈[vF.data.toList,a.name.data.toList,nameT m j,yY x],Y9 w:=fun w b=>by
    simp only [qI,zh,or_false]at b;rcases b with rfl|rfl|rfl|rfl
    .exact xQ (by decide)
    .exact xQ i
    .rw [xt g];exact xQ (d.feat _ _ g).1
    .exact q42 _
   exact⟨vK rfl (fun w h=>(b w h).1) (by decide),qH (uX _ b) (by simp)⟩
theorem q7k(h:chk m=0){k:Nat}{l:Lim}(i:m.lims[k]? =some l):lineOk (limT m l)/\(limT m l).length<=924:=by
 have g:=jm h;have b:=g.lim k l i;unfold Qq at b;simp only [qy,decide_eq_true_eq]at b;have⟨⟨⟨r,o⟩,s⟩,q⟩:=b;obtain⟨a,f⟩: ∃a,m.atts[l.att.toNat]? =some a:=⟨_,qi (by omega)⟩;have⟨j,p⟩:=att_fresh h _ a f;have d:gk m l.att.toNat=a.name.data.toList:=by unfold gk;rw [f];rfl
 have n:Y9 (q0N l.rel):=by
  have:l.rel=1\/l.rel=2\/l.rel=3:=by omega
  rcases this with e|e|e<;>(rw [e];exact⟨⟨by decide,by decide⟩,by decide⟩)
 have c: ∀w∈[WB.data.toList,gk m l.att.toNat,q0N l.rel,yY l.bound],Y9 w:=fun w c=>by
  simp only [qI,zh,or_false]at c;rcases c with rfl|rfl|rfl|rfl
  .exact xQ (by decide)
  .rw [d];exact xQ j
  .exact n
  .exact q42 _
 exact⟨vK rfl (fun w h=>(c w h).1) (by decide),qH (uX _ c) (by simp)⟩
theorem q0M{x:Ex}(h:validB x=true):(reqT x).length<=47001:=by
 unfold validB at h;simp only [qy,decide_eq_true_eq]at h
 have:=q4J x h.1.1
 have a:wReq.data.toList.length=7:=by decide
 unfold reqT;rw [qn,qT,a];omega
theorem Qp(h:chk m=0): ∀t∈linesP m,lineOk t:=by
 have f:=jm h;intro t c;unfold linesP at c;simp only [qK,vD,qN]at c;rcases c with⟨⟨x,k⟩,b,rfl⟩|⟨⟨g,k⟩,b,rfl⟩|⟨⟨a,k⟩,b,c⟩|⟨⟨x,k⟩,b,rfl⟩|⟨⟨l,k⟩,b,rfl⟩
 ·obtain⟨y,l,e,d,i,-⟩:=q4R f (zw.1 b)
  simp only at e⊢;rw [e];exact vK rfl (fun w h=>(d w h).1) i
 ·obtain⟨-,y,l,e,d,i,-⟩:=q6q f (zw.1 b)
  simp only at e⊢;rw [e];exact vK rfl (fun w h=>(d w h).1) i
 ·exact(q7v h (zw.1 b) t c).1
 ·exact J4 (f.req k x (zw.1 b)).1
 ·exact(q7k h (zw.1 b)).1
theorem Xj(h:chk m=0):(printM m).length≤4194303:=by
 have a:=jm h;have w:=a.n24;have v:=a.g24;have B:=a.a8;have i:=a.r64;have u:=a.l16;rw [wQ];unfold linesP;simp only [zC,qn,uJ];have j:=q8t (fun p:xM×Nat=>[zL (featW m p.2 p.1) [32]].flatMap nl) 925 m.feats.zipIdx fun p b=>by
  have⟨y,l,e,c,x,d⟩:=q4R a (zw.1 b);rw [gQ,e,qn]
  have:=uX _ c
  simp only [qT,jb]at this d⊢;omega
 have n:=q8t (fun p:Grp×Nat=>[zL (grpW m p.1) [32]].flatMap nl) 925 m.grps.zipIdx fun p b=>by
  obtain⟨-,y,l,e,c,x,d⟩:=q6q a (zw.1 b);rw [gQ,e,qn]
  have:=uX _ c
  simp only [qT,jb]at this d⊢;omega
 have z:=q8t (fun p:Att×Nat=>(attP m p.1).flatMap nl) 23125 m.atts.zipIdx fun p b=>by
  have f:=zw.1 b;have r:=q7v h f;obtain⟨A,-⟩:=a.att _ _ f;have o:(attP m p.1).length≤25:=by
   unfold attP
   have:=q8t (fun q:Int×Nat=>q2Y m p.1 q.2 q.1) 1 p.1.values.zipIdx fun q _=>by
    unfold q2Y;split<;>simp
   rw [List.length_zipIdx]at this;rw [qT];omega
  have:=q8t nl 925 (attP m p.1) fun t g=>by
   have:=(r t g).2
   simp [nl];omega
  have:=Nat.mul_le_mul_right 925 o
  omega
 have s:=q8t (fun p:Ex×Nat=>[reqT p.1].flatMap nl) 47002 m.reqs.zipIdx fun p b=>by
  have:=q0M (a.req _ _ (zw.1 b)).1
  rw [gQ,qn];simp;omega
 have k:=q8t (fun p:Lim×Nat=>[limT m p.1].flatMap nl) 925 m.lims.zipIdx fun p b=>by
  have:=(q7k h (zw.1 b)).2
  rw [gQ,qn];simp;omega
 rw [List.length_zipIdx]at j n z s k;omega
theorem q01(h:chk m=0)(G: ∀l∈m.lims,-9223372036854775808<=l.bound/\l.bound<=9223372036854775807):parseM (printM m)=(0,0,m):=by
 have o:=jm h;have q: ∀g∈m.grps,g.members.length<4611686018427387904:=fun g H=>by
  have⟨k,s⟩:=qZ H
  have:=(q6q o s).1
  omega
 have z:=q04.each (fun i f=>[zL (featW m i f) [32]]) (stF m) m.feats 0 fun k x j=>by rw [zz];exact .one (q0w o j)
 have w:=q04.each (fun _ g=>[zL (grpW m g) [32]]) (stG m) m.grps 0 fun k x j=>by rw [zz];exact .one (q38 o q j)
 have y:=q04.each (fun _ a=>attP m a) (stA m) m.atts 0 fun k x j=>by rw [zz];exact q3h h j
 have A:=q04.each (fun _ x=>[reqT x]) (stR m) m.reqs 0 fun k x j=>by rw [zz];exact .one (q36 o j)
 have C:=q04.each (fun _ l=>[limT m l]) (stL m) m.lims 0 fun k x j=>by rw [zz];exact .one (q37 h G j)
 have J:stF m (0+m.feats.length)=stG m 0:=by unfold stF stG;rw [zz,qF,yU]
 have I:stG m (0+m.grps.length)=stA m 0:=by unfold stG stA;rw [zz,qF,yU];rfl
 have D:stA m (0+m.atts.length)=stR m 0:=by unfold stA stR tA;rw [zz,qF,yU]
 have L:stR m (0+m.reqs.length)=stL m 0:=by unfold stR stL;rw [zz,qF,yU]
 rw [J]at z;rw [I]at w;rw [D]at y;rw [L]at A;have p:q04 ⟨noM,[]⟩ (linesP m) (stL m (0+m.lims.length)):=z.app (w.app (y.app (A.app C)));have E:linesOf (printM m)=linesP m:=by rw [wQ];exact Yz fun t K=>(Qp h t K).1
 have n:readL ⟨noM,[]⟩ 0 (linesP m)=(0,0,stL m (0+m.lims.length)):=by
  have:=p 0 []
  rw [zS]at this;rw [this];rfl
 have r:padM (stL m (0+m.lims.length)).m=m:=by
  unfold padM stL;rw [zz,qF];have⟨a,b,c,d,e⟩:=m;simp only [Mod.mk.injEq,true_and,and_true];show(c.map QT).map _=c;rw [kX]
  have: ∀x∈c,((fun x:Att=>(⟨x.name,x.values++zk (a.length - x.values.length) 0⟩:Att))∘QT) x=x:=fun x j=>by
   have⟨k,s⟩:=qZ j;have B:=(o.att k x s).1;have⟨M,u⟩:=q4m x.values;have⟨N,v⟩:=x;simp only at B M u;show(⟨N,tz v++zk (a.length - (tz v).length) 0⟩:Att)=_;rw [<-B,u]
  rw [ja this,List.map_id']
 unfold parseM;rw [if_neg (by have:=Xj h;omega),E,n];simp only [if_true];rw [r,if_pos h]
end
end Go.Proofs.Mod
namespace Go.Proofs.YtjcbmcnbdegpmaaGreatDoor
open Go Go.RowKit Go.Proofs.Gen Go.Proofs.Mod
variable{m:Mod}{x y:List UInt8}
theorem q1T(hx: ∀b∈x,b≠32)(h0:x≠[])(hl:lineOk (x++32::y)):firstOf (x++32::y)=toB x:=by
 unfold firstOf;rw [Zh hl,uw hx h0];rfl
theorem first_ne{t:List UInt8}(e:t=x++32::y)(hx: ∀b∈x,b≠32)(h0:x≠[])(hr:x≠wReq.data.toList)(hl:lineOk t):firstOf t≠wReq:=by
 subst e;rw [q1T hx h0 hl];intro e;refine hr ?_;rw [<-e];simp [toB]
theorem q3o{x:Ex}(h:validB x=true):restOf (reqT x)=toB (32::putE x):=by
 unfold restOf;rw [Zh (J4 h)];have hnb: ∀b∈wReq.data.toList,b≠32:=by decide
 have hw:wordsOf (reqT x)=wReq::wordsOf (putE x):=by
  unfold reqT;rw [uw hnb (by decide),kj]
 rw [hw,show wd (wReq::wordsOf (putE x)) 0=wReq from rfl];have ht:ur (reqT x) wReq.data.toList=32::putE x:=by
  unfold ur reqT;rw [if_pos (by unfold Go.Lib.hasPrefix;rw [uu];exact⟨_,rfl⟩),List.drop_left]
 rw [ht]
theorem q0Y(h:chk m=0): ∀t∈linesP m,firstOf t=wReq→ ∀w',FPar (restOf t) w':=by
 have ok:=jm h;intro t ht hf;have hl:=Qp h t ht;unfold linesP at ht;simp only [qK,vD,qN]at ht;rcases ht with⟨⟨x,k⟩,hp,rfl⟩|⟨⟨g,k⟩,hp,rfl⟩|⟨⟨a,k⟩,hp,ht⟩|⟨⟨x,k⟩,hp,rfl⟩|⟨⟨l,k⟩,hp,rfl⟩
 ·exfalso
  have hx:=zw.1 hp;have hk:=(ok.feat _ _ hx).2.2;simp only at hk hl hf;unfold featW at hl hf;by_cases h0:k=0
  ·rw [if_pos h0,join_cons]at hl hf
   exact first_ne rfl (by decide) (by decide) (by decide) hl hf
  ·rw [if_neg h0,join_cons]at hl hf
   unfold kindB at hk;rw [if_neg h0]at hk;simp only [qy,decide_eq_true_eq]at hk;have h3:x.kind=2∨x.kind=3∨x.kind=4:=by omega
   rcases h3 with e|e|e<;>rw [e]at hl hf<;>exact first_ne rfl (by decide) (by decide) (by decide) hl hf
 ·exfalso
  unfold grpW at hl hf;rw [zl,zl,join_cons]at hl hf;exact first_ne rfl (by decide) (by decide) (by decide) hl hf
 ·exfalso
  unfold attP at ht;rcases qI.1 ht with rfl|ht
  ·rw [join_cons]at hl hf
   exact first_ne rfl (by decide) (by decide) (by decide) hl hf
  ·obtain⟨q,-,ht⟩:=vD.1 ht
   unfold q2Y at ht;split at ht
   ·cases ht
   ·rw [qN]at ht
    subst ht;rw [join_cons]at hl hf;exact first_ne rfl (by decide) (by decide) (by decide) hl hf
 ·intro w'
  have hv:=(ok.req _ _ (zw.1 hp)).1;simp only at hv⊢;rw [q3o hv];have hb:bytesL (toB (32::putE x))=32::putE x:=by simp [bytesL,toB]
  have hlen:=q0M hv;have hsz:x.size≤1000:=by
   unfold validB at hv;simp only [qy,decide_eq_true_eq]at hv;exact hv.1.2
  refine q1N (x:=x) (by rw [hb];exact Xo hv) ?_ (by omega);unfold reqT at hlen;rw [qn]at hlen
  have:(toB (32::putE x)).size=(32::putE x).length:=by simp [toB,ByteArray.size]
  omega
 ·exfalso
  unfold limT at hl hf;rw [join_cons]at hl hf;exact first_ne rfl (by decide) (by decide) (by decide) hl hf
theorem Yc(h:chk m=0):linesOf (printM m)=linesP m:=by
 rw [wQ];exact Yz fun t ht=>(Qp h t ht).1
theorem Vp{S T:Nat→Prop}{w:World}{va vb:Value}{a b:Mod}(ha:RdMod S w va a)(hb:RdMod T w vb b)(q:Zd a):
 Calls Tryz.prog 13 #[va,vb] w fun e c=>e=vm (vj (sameM a b))∧Near w c:=by
 obtain⟨Y,a2,b1,G,N,c2,Z,R,X,K,rfl,hF,hG,u,hE,hL,-⟩:=RdMod.form ha;obtain⟨E,I,U,L,n,o,i1,V,J,O,rfl,aa,ae,ad,af,ab,-⟩:=RdMod.form hb;have v:=q8 (fun(c:World)(f:Near w c)=>J2 (hF.kept f (fun _ _ h=>h) (fun _ h=>h) (fun _ _ h=>h)) (aa.kept f (fun _ _ h=>h) (fun _ h=>h) (fun _ _ h=>h)) (by have:=q.feats;omega));have A:=q8 (fun(c:World)(f:Near w c)=>Gw (hG.kept f (fun _ _ h=>h) (fun _ h=>h) (fun _ _ h=>h.kept f (fun _ _ h=>h) (fun _ h=>h))) (ae.kept f (fun _ _ h=>h) (fun _ h=>h) (fun _ _ h=>h.kept f (fun _ _ h=>h) (fun _ h=>h))) (by have:=q.grps;omega)
  (fun i x y vs z B _ D _ n o=>X8 n o (by have:=jZ (qp D);have:=q.mems;omega)))
 have H:=q8 (fun(c:World)(f:Near w c)=>Gx (u.kept f (fun _ _ h=>h) (fun _ h=>h) (fun _ _ h=>h.kept f (fun _ _ h=>h) (fun _ h=>h))) (ad.kept f (fun _ _ h=>h) (fun _ h=>h) (fun _ _ h=>h.kept f (fun _ _ h=>h) (fun _ h=>h))) (by have:=q.atts;omega)
  (fun i x y vs z B _ D _ n o=>X9 n o (q.vals x (qp D))))
 have H4:=q8 (fun(c:World)(f:Near w c)=>YI (hE.kept f (fun _ _ h=>h) (fun _ h=>h) (fun _ _ h=>h.kept f (fun _ _ h=>h) (fun _ h=>h))) (af.kept f (fun _ _ h=>h) (fun _ h=>h) (fun _ _ h=>h.kept f (fun _ _ h=>h) (fun _ h=>h))) (by have:=q.reqs;omega)
  (fun i x y vs z B _ D _ n o=>KS n o (q.exs x (qp D))))
 have H5:=q8 (fun(c:World)(f:Near w c)=>J1 (hL.kept f (fun _ _ h=>h) (fun _ h=>h) (fun _ _ h=>h)) (ab.kept f (fun _ _ h=>h) (fun _ h=>h) (fun _ _ h=>h)) (by have:=q.lims;omega));have l:Hid (sameM a b=(eqv sameFt a.feats b.feats&&eqv sameG a.grps b.grps&&eqv sameA a.atts b.atts&&eqv sameE a.reqs b.reqs&&eqv sameLm a.lims b.lims)):=rfl;generalize sameM a b=r at l⊢;generalize eqv sameFt a.feats b.feats=z1 at v l;generalize eqv sameG a.grps b.grps=z2 at A l;generalize eqv sameA a.atts b.atts=z3 at H l;generalize eqv sameE a.reqs b.reqs=z4 at H4 l;generalize eqv sameLm a.lims b.lims=z5 at H5 l;have hW: ∀W,W=(w.alloc (vk #[vd Y a.feats.length a2,vd b1 a.grps.length G,vd N a.atts.length c2,vd Z a.reqs.length R,vd X a.lims.length K] 28)).alloc (vk #[vd E b.feats.length I,vd U b.grps.length L,vd n b.atts.length o,vd i1 b.reqs.length V,vd J b.lims.length O] 28)→
  Near w W∧W.heap[w.heap.size]? =some (vk #[vd Y a.feats.length a2,vd b1 a.grps.length G,vd N a.atts.length c2,vd Z a.reqs.length R,vd X a.lims.length K] 28 (0,0))∧W.heap[w.heap.size+1]? =some (vk #[vd E b.feats.length I,vd U b.grps.length L,vd n b.atts.length o,vd i1 b.reqs.length V,vd J b.lims.length O] 28 (0,0)):=by
  rintro W rfl;exact⟨((Near.refl w).alloc _).alloc _,by rw [qD (by simp),heap_new_at rfl],heap_new_at (by simp)⟩
 go_enter Tryz.func13,Tryz.ntmps13;go_upto_region 1 with fail
 have h0:=hW _ rfl;generalize(w.alloc (vk #[vd Y a.feats.length a2,vd b1 a.grps.length G,vd N a.atts.length c2,vd Z a.reqs.length R,vd X a.lims.length K] 28)).alloc (vk #[vd E b.feats.length I,vd U b.grps.length L,vd n b.atts.length o,vd i1 b.reqs.length V,vd J b.lims.length O] 28)=W at h0⊢;have⟨hN,u,C⟩:=h0;have d:=q8 hN;have p0:W.cell? w.heap.size=some (vd Y a.feats.length a2):=cell1 u rfl;have q0:W.cell? (vw (w.heap.size+1) 0)=some (vd E b.feats.length I):=cell1 C rfl;have P:=q8 (fun(c:World)(h:Near W c)=>(show c.cell? (vw w.heap.size 1)=some (vd b1 a.grps.length G)∧c.cell? (vw (w.heap.size+1) 1)=some (vd U b.grps.length L)from⟨cell1 (qE h u) rfl,cell1 (qE h C) rfl⟩));have K2:=q8 (fun(c:World)(h:Near W c)=>(show c.cell? (vw w.heap.size 2)=some (vd N a.atts.length c2)∧c.cell? (vw (w.heap.size+1) 2)=some (vd n b.atts.length o)from⟨cell1 (qE h u) rfl,cell1 (qE h C) rfl⟩));have K3:=q8 (fun(c:World)(h:Near W c)=>(show c.cell? (vw w.heap.size 3)=some (vd Z a.reqs.length R)∧c.cell? (vw (w.heap.size+1) 3)=some (vd i1 b.reqs.length V)from⟨cell1 (qE h u) rfl,cell1 (qE h C) rfl⟩));have K4:=q8 (fun(c:World)(h:Near W c)=>(show c.cell? (vw w.heap.size 4)=some (vd X a.lims.length K)∧c.cell? (vw (w.heap.size+1) 4)=some (vd J b.lims.length O)from⟨cell1 (qE h u) rfl,cell1 (qE h C) rfl⟩))
 cases z1 with
 |false=>
  have p:Hid (r=false):=l;go_wp2_with (go_at_call 57;refine(v _ d).mono ?_;rintro e M ⟨rfl,j⟩;have g:=q8 j)
  go_ret;exact⟨by obtain rfl:=p.out;rfl,d.trans g⟩
 |true=>
 cases z2 with
 |false=>
  have p:Hid (r=false):=l;go_wp2_with (first
   |(go_at_call 57;refine(v _ d).mono ?_;rintro e M ⟨rfl,j⟩;have⟨p1,q1⟩:=P _ j;have g:=q8 j)
   |(go_at_call 58;refine(A _ (d.trans g)).mono ?_;rintro e w2 ⟨rfl,m⟩;have k:=q8 (g.trans m)))
  go_ret;exact⟨by obtain rfl:=p.out;rfl,d.trans k⟩
 |true=>
 cases z3 with
 |false=>
  have p:Hid (r=false):=l;go_wp2_with (first
   |(go_at_call 57;refine(v _ d).mono ?_;rintro e M ⟨rfl,j⟩;have⟨p1,q1⟩:=P _ j;have g:=q8 j)
   |(go_at_call 58;refine(A _ (d.trans g)).mono ?_;rintro e w2 ⟨rfl,m⟩;have⟨p2,q2⟩:=K2 _ (g.trans m);have k:=q8 (g.trans m))
   |(go_at_call 61;refine(H _ (d.trans k)).mono ?_;rintro e w3 ⟨rfl,t⟩;have s:=q8 (k.trans t)))
  go_ret;exact⟨by obtain rfl:=p.out;rfl,d.trans s⟩
 |true=>
 cases z4 with
 |false=>
  have p:Hid (r=false):=l;go_wp2_with (first
   |(go_at_call 57;refine(v _ d).mono ?_;rintro e M ⟨rfl,j⟩;have⟨p1,q1⟩:=P _ j;have g:=q8 j)
   |(go_at_call 58;refine(A _ (d.trans g)).mono ?_;rintro e w2 ⟨rfl,m⟩;have⟨p2,q2⟩:=K2 _ (g.trans m);have k:=q8 (g.trans m))
   |(go_at_call 61;refine(H _ (d.trans k)).mono ?_;rintro e w3 ⟨rfl,t⟩;have⟨p3,q3⟩:=K3 _ (k.trans t);have s:=q8 (k.trans t))
   |(go_at_call 64;refine(H4 _ (d.trans s)).mono ?_;rintro e w4 ⟨rfl,n4⟩;have Q:=q8 (s.trans n4)))
  go_ret;exact⟨by obtain rfl:=p.out;rfl,d.trans Q⟩
 |true=>
  have p:Hid (r=z5):=l;go_wp2_with (first
   |(go_at_call 57;refine(v _ d).mono ?_;rintro e M ⟨rfl,j⟩;have⟨p1,q1⟩:=P _ j;have g:=q8 j)
   |(go_at_call 58;refine(A _ (d.trans g)).mono ?_;rintro e w2 ⟨rfl,m⟩;have⟨p2,q2⟩:=K2 _ (g.trans m);have k:=q8 (g.trans m))
   |(go_at_call 61;refine(H _ (d.trans k)).mono ?_;rintro e w3 ⟨rfl,t⟩;have⟨p3,q3⟩:=K3 _ (k.trans t);have s:=q8 (k.trans t))
   |(go_at_call 64;refine(H4 _ (d.trans s)).mono ?_;rintro e w4 ⟨rfl,n4⟩;have⟨p4,q4⟩:=K4 _ (s.trans n4);have Q:=q8 (s.trans n4))
   |(go_at_call 66;refine(H5 _ (d.trans Q)).mono ?_;rintro e w5 ⟨rfl,n5⟩;have N5:=q8 (Q.trans n5)))
  go_ret;exact⟨by obtain rfl:=p.out;rfl,d.trans N5⟩
end Go.Proofs.YtjcbmcnbdegpmaaGreatDoor
