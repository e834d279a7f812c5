/- MLayD, MWhyC, MShrP, MWhyS, MWhyE, MRSet, MWhyW, MConj, MLawQ. -/
import Derived.Shelf.Slices.Delete
import Derived.Ground.Names2Prog
import Derived.Test.YtjcbmcnbdegpmaaGreatDoorKMValue
import Derived.Test.YtjcbmcnbdegpmaaGreatDoorKMPrW
set_option maxRecDepth 100000
set_option maxHeartbeats 12800000
set_option linter.unusedVariables false
set_option linter.unusedSimpArgs false
open Array renaming getElem?_eq_some_iff->qk
open Array.mk renaming injEq->za
open Bool renaming eq_false_iff->zt
open Go renaming bodyPost_ret->qo,results->qC
open Go.Addr renaming add_lit->yP
open Go.Lib renaming hid->q8
open Go.Proofs.Tryz renaming prog->qj,underlying47->yF
open Go.Value renaming int->qs
open Go.Value.agg renaming injEq->qY
open Go.Value.slice renaming injEq->qq
open Go.World renaming ownsRow_nil->qW
open List renaming all_eq_true->qL,append_assoc->qS,append_nil->zS,foldl_append->kO,getElem?_eq_getElem->qi,getElem?_eq_some_iff->qm,getElem?_map->qA,length_append->qn,map_append->ze,mem_of_getElem?->qp,mem_range->yd,range->qO,replicate->zk,setIfInBounds_toArray->qb,set_cons_succ->qd,set_cons_zero->qh,take_add_one->qU,take_length->qF
open List.cons renaming injEq->qJ
open Nat renaming le_refl->qt,le_trans->qH,lt_of_lt_of_le->qu,zero_le->qv
open Or renaming inl->qB
open Go.Value renaming slice->vd,int->ve,string->vf,pointer->vg,agg->vi,bool->vj
open Go.Obj renaming cells->vk
open Go.Ending renaming returned->vm
open Go.IntKind renaming i64->vp,u8->vq,u32->vr,u64->vt
open Or renaming inl->vu,inr->vv
namespace Go.Proofs.YtjcbmcnbdegpmaaGreatDoor
open Go Go.RowKit Go.Shelf
def Vx:Go.Shelf.Ren:=⟨fun|23=>237|n=>n,fun|22=>47|3=>3|4=>4|0=>0|n=>n,fun|n=>n⟩
theorem q67:Go.Proofs.Lays2.n23 qj Vx:={
 mixed:=by kernel_rfl
 f23:=Tryz.func237.trans (congrArg some (by kernel_rfl))
 t0:=Tryz.underlying0
 a0:=Tryz.isAgg0
 z0:=Tryz.sizeOf0
 v0:=Tryz.zeroValue0
 t3:=Tryz.underlying3
 a3:=Tryz.isAgg3
 z3:=Tryz.sizeOf3
 v3:=Tryz.zeroValue3
 t4:=Tryz.underlying4
 a4:=Tryz.isAgg4
 z4:=Tryz.sizeOf4
 v4:=Tryz.zeroValue4
 t22:=yF
 a22:=Tryz.isAgg47
 z22:=Tryz.sizeOf47
 v22:=Tryz.zeroValue47
 i3:=by kernel_rfl}
end Go.Proofs.YtjcbmcnbdegpmaaGreatDoor
namespace Go.Proofs.YtjcbmcnbdegpmaaGreatDoor
open Go Go.RowKit Go.Sort Go.Shelf Go.Proofs.Gen Go.Proofs.Mod
variable{base:Nat}{l:List Nat}{v:Value}{w:World}
def RdN(w:World)(v:Value)(l:List Nat):Prop:=
 (v= .slice none 0 0/\l=[])\/ ∃g o c,v= .slice (some ⟨g,o,none⟩) l.length c/\ ∀j x,l[j]? =some x->w.cell? ⟨g,o+j,none⟩=some (natV x)
theorem RdN.near{w':World}(h:RdN w v l)(hn:Near w w'):RdN w' v l:=
 h.imp id fun⟨g,o,c,e,hc⟩=>⟨g,o,c,e,fun j x hx=>hn.cell (hc j x hx)⟩
theorem RdN.src(h:RdN w v l):SrcOf w 1 l.length v (l.map natV):=by
 refine⟨by simp,?_⟩;rcases h with⟨rfl,rfl⟩|⟨g,o,c,rfl,hc⟩
 .exact .inl ⟨rfl,rfl⟩
 .refine .inr ⟨⟨g,o,none⟩,c,rfl,fun j u hu=> ?_⟩
  rw [qA]at hu
  cases hx:l[j]? with
  |none=>rw [hx]at hu;cases hu
  |some x=>
   rw [hx]at hu
   cases hu;rw [yP];exact hc j x hx
theorem RdN.own(h:w.ownsRow base 3 1 v l.length (l.map natV)):RdN w v l:=by
 rcases h.2 with⟨e,e2⟩|⟨g,cap,cur,rfl,hb,hg,r⟩
 .exact .inl ⟨e,List.eq_nil_of_length_eq_zero e2⟩
 .refine .inr ⟨g,0,cap,rfl,fun j x hx=> ?_⟩
  have:=World.ownsRow.cells (g:=g) h rfl j (natV x) (by rw [qA,hx];rfl)
  rwa [yP]at this
theorem RdN.form(h:RdN w v l): ∃ao cap,v= .slice ao l.length cap:=by
 rcases h with⟨rfl,rfl⟩|⟨g,o,c,rfl,-⟩
 .exact⟨none,0,rfl⟩
 .exact⟨_,c,rfl⟩
theorem q5Q: ∀u∈l.map natV,u.oneCell'=true:=fun u hu=>by
 obtain⟨x,-,rfl⟩:=List.mem_map.1 hu;rfl
theorem Kj(h:RdN w v l)(hl:l.length<=1000):
 Calls qj 238 #[v] w fun e w'=> ∃v',e= .returned v'/\w'.ownsRow w.heap.size 3 1 v' l.length (l.map natV)/\Near w w':=by
 obtain⟨i0,hi0,hz0,hz1,hz2⟩:=info_parts wU;have hq:=fun(w:World)(a:Option Addr)(n c:Nat)=>Lib.run_eql_slice_nil (P:=qj) w 47 3 a n c 0 0 yF;have HSr:=q8 h;rcases h with⟨rfl,rfl⟩|⟨g,o,cap,rfl,-⟩
 .clear HSr
  go_enter Tryz.func238,Tryz.ntmps238;go_wp2_with fail
  go_ret;exact⟨_,rfl,qW _ _ _ _,Near.refl _⟩
 .go_enter Tryz.func238,Tryz.ntmps238
  go_wp2_with (first
   |(at_builtin;refine wpList_append_more rfl (.tmp 5) (.tmp 6) 47 rfl w.heap.size 3 i0 (.int .i64 0) 1 8 yF hi0 hz0 hz1 hz2 rfl (by decide) (.slice (some ⟨w.heap.size,0,none⟩) 0 0) 0 [] rfl ?c1 _ l.length (l.map natV) rfl ?c2 q5Q (by unfold maxLen;omega) (by omega) (by simp) ?_;rotate_left 2;intro bo bcp w2 hown2 hg2;simp only [Nat.zero_add,List.nil_append]at hown2;have HO2:=q8 hown2;have HG2:=q8 hg2;clear hown2 hg2))
  case c1=>exact⟨rfl,.inr ⟨w.heap.size,0,#[],rfl,qt _,heap_new_at rfl,qt _,by unfold maxLen;omega,rfl,rfl⟩⟩
  case c2=>exact(HSr.out.near ((Near.refl w).alloc _)).src
  go_ret;exact⟨_,rfl,HO2.out,Kept.mono (((Kept.refl (fun k=>w.heap.size<=k) w).alloc _).grown HG2.out (fun k hk _=>by cases hk;exact qt _)) (fun b hb h=>by omega)⟩
theorem q3O(w:World)(n g:Nat)(d:Array Int):Kept (fun k=>k=g) w (putRow (qs .i64) (Sort.ahead w n) g 0 d):=by
 refine⟨rfl,rfl,rfl,?_,fun k hk hne=> ?_⟩
 .show w.heap.size<=(w.heap.modify _ _).size
  rw [Array.size_modify];exact qt _
 .show(w.heap.modify _ _)[k]? =w.heap[k]?
  rw [Array.getElem?_modify,if_neg (fun e=>hne e.symm)]
theorem JE{g cap:Nat}(h:w.ownsRow base 3 1 (.slice (some ⟨g,0,none⟩) l.length cap) l.length (l.map natV)){i:Nat}(hi:i<l.length):
 Calls qj 237 #[.slice (some ⟨g,0,none⟩) l.length cap,.int .i64 i,.int .i64 ((i:Int)+1)] w fun e w'=>e= .returned (.slice (some ⟨g,0,none⟩) (l.length - 1) cap)/\RdN w' (.slice (some ⟨g,0,none⟩) (l.length - 1) cap) (l.eraseIdx i)/\Kept (fun k=>k=g) w w':=by
 have hlen:(l.map fun n:Nat=>(n:Int)).length=l.length:=by simp
 have hg: ∃cur,w.heap[g]? =some (.cells cur 3 (0,0))/\l.length<=cap/\cap<=maxLen:=by
  rcases h.2 with⟨e,-⟩|⟨g',cap',cur,e,-,hg,h1,h2,-⟩
  .cases e
  .cases e
   exact⟨cur,hg,h1,h2⟩
 obtain⟨cur,hgc,hcap,hmx⟩:=hg;have hcell:=World.ownsRow.cells (g:=g) h rfl;have hH:Holds (qs .i64) w g 0 (l.map fun n:Nat=>(n:Int)).toArray:=fun j hj=>by
  have hj':j<l.length:=by simpa using hj
  refine⟨?_,zQ hgc _⟩
  have:=hcell j (natV l[j]) (by simp [hj'])
  rw [yP]at this;rw [getElem!_pos _ j (by simpa using hj')];simpa [natV]using this
 have hd:=Any.slices_Delete_int q67 g 0 cap i (i+1) (l.map fun n:Nat=>(n:Int)) w hH (by rw [hlen];exact hcap) (by unfold maxLen at hmx;omega) (by omega) (by rw [hlen];omega);rw [hlen,show i+1 - i=1 by omega]at hd;refine hd.mono ?_;rintro e w' ⟨rfl,q,rfl⟩;have hk:=q3O w q g ((l.map fun n:Nat=>(n:Int)).take i++(l.map fun n:Nat=>(n:Int)).drop (i+1)++zk 1 0).toArray;have hl1:(l.eraseIdx i).length=l.length - 1:=List.length_eraseIdx_of_lt hi;have hs:((l.map fun n:Nat=>(n:Int)).take i++(l.map fun n:Nat=>(n:Int)).drop (i+1)++zk 1 0).toArray.size=(l.map fun n:Nat=>(n:Int)).toArray.size:=by simp;omega
 refine⟨rfl,.inr ⟨g,0,cap,by rw [hl1],fun j x hx=> ?_⟩,hk⟩;have hj:j<l.length - 1:=by
  have:=(qm.1 hx).1
  rw [hl1]at this;exact this
 have hc:=cell?_putRow (qs .i64) (Sort.ahead w q) g 0 (l.map fun n:Nat=>(n:Int)).toArray _ (by exact hH) hs j (by rw [hs];simp;omega);refine hc.trans ?_;rw [getElem!_pos _ j (by rw [hs];simp;omega)];have he:l.eraseIdx i=l.take i++l.drop (i+1):=List.eraseIdx_eq_take_drop_succ l i;rw [he]at hx;have h2:((l.map fun n:Nat=>(n:Int)).take i++(l.map fun n:Nat=>(n:Int)).drop (i+1)++zk 1 0)[j]? =some (x:Int):=by
  rw [List.getElem?_append_left (by simp;omega),<-List.map_take,<-List.map_drop,<-ze,qA,hx];rfl
 have:=(qm.1 h2).2
 simpa [natV]using this
end Go.Proofs.YtjcbmcnbdegpmaaGreatDoor
namespace Go.Proofs.Mod
open Go
section
variable {α:Type}
def shr(P:List α->Bool):List α->List α->List α
 |pre,[]=>pre
 |pre,x::suf=>if P (pre++suf)=true then shr P pre suf else shr P (pre++[x]) suf
def Up(P:List α->Bool):Prop:= ∀a b:List α,a.Sublist b->P a=true->P b=true
theorem K7: ∀{l:List α}{i j:Nat},j<i->((l.eraseIdx i).eraseIdx j).Sublist (l.eraseIdx j)
 |[],_,_,_=>by simp
 |x::l,0,j,h=>by omega
 |x::l,i+1,0,_=>by
  simp only [List.eraseIdx_cons_succ,List.eraseIdx_cons_zero];exact List.eraseIdx_sublist ..
 |x::l,i+1,j+1,h=>by
  simp only [List.eraseIdx_cons_succ];exact(K7 (l:=l) (by omega)).cons_cons x
theorem ZM(a b:List α)(x:α):(a++x::b).eraseIdx a.length=a++b:=by
 induction a with
 |nil=>rfl
 |cons y a c=>simp only [List.cons_append,List.length_cons,List.eraseIdx_cons_succ,c]
theorem J0{P:List α→Bool}(g:Up P): ∀(b a:List α),P (a++b)=true→(∀j,j<a.length→P ((a++b).eraseIdx j)=false)→
 (shr P a b).Sublist (a++b)∧P (shr P a b)=true∧ ∀j,j<(shr P a b).length→P ((shr P a b).eraseIdx j)=false
 |[],a,h,d=>by
  rw [shr];rw [zS]at h d⊢;exact⟨List.Sublist.refl _,h,d⟩
 |x::b,a,h,d=>by
  rw [shr];by_cases f:P (a++b)=true
  ·rw [if_pos f]
   have i:=J0 g b a f fun j c=>by
    refine zt.2 fun k=> ?_;have m:((a++b).eraseIdx j).Sublist ((a++x::b).eraseIdx j):=by
     rw [←ZM a b x];exact K7 c
    have:=g _ _ m k
    rw [d j c]at this
    cases this
   exact⟨i.1.trans ((List.sublist_cons_self x b).append_left a),i.2⟩
  ·rw [if_neg f]
   have e:a++x::b=(a++[x])++b:=by simp
   rw [e]at h d⊢;refine J0 g b (a++[x]) h fun j c=> ?_;rw [qn,List.length_singleton]at c;by_cases l:j<a.length
   ·exact d j l
   ·obtain rfl:j=a.length:=by omega
    rw [←e,ZM];exact zt.2 f
end
end Go.Proofs.Mod
namespace Go.Proofs.YtjcbmcnbdegpmaaGreatDoor
open Go Go.RowKit Go.Proofs.Gen Go.Proofs.Mod
variable{B i k n:Nat}{S:Nat→Prop}{but:Int}{d:F}{l:List Nat}{m:Mod}{v vd vl:Value}{w:World}
theorem q3B{base e size:Nat}{xs:List Value}(h:w.ownsRow base e size v n xs)(hn:0<n): ∃g c,v= .slice (some ⟨g,0,none⟩) n c/\base<=g:=by
 rcases h.2 with⟨-,e2⟩|⟨g,cap,cur,e,hb,-⟩
 .omega
 .exact⟨g,cap,e,hb⟩
theorem shrink_calls{g:Nat}{lb:Array Value}{P:List Nat→Bool}(h:RdN w v l)(hl:l.length≤1000)(eg: ∀args w,(callFunc g args).run qj w= .ok (.enter g args) w)
 (hP: ∀(l':List Nat)(v':Value)(w':World),Near w w'→RdN w' v' l'→l'.Sublist l→Calls qj g (#[v']++lb) w' fun e w''=>e= .returned (.bool (P l'))∧Near w' w''):
 Calls qj 199 #[v,.func (.func g) #[] lb] w fun e w'=> ∃v',e= .returned v'∧RdN w' v' (shr P [] l)∧Near w w':=by
 have HP:=q8 hP;obtain⟨so,sc,rfl⟩:=h.form;have H:=q8 h;clear h hP;go_enter Tryz.func199,Tryz.ntmps199;go_wp2_with fail
 go_loopw [0,5] (fun v ix wr=> ∃pre suf:List Nat,RdN wr v (pre++suf)∧ix= .int .i64 (pre.length:Nat)∧(pre++suf).Sublist l∧shr P pre suf=shr P [] l∧Near w wr) (fun v ix _=>q7l v - (intOf ix).toNat)
 case atStart=>exact⟨[],l,H.out,rfl,List.Sublist.refl _,rfl,Near.refl _⟩
 case round=>
  obtain⟨pre,suf,hr,rfl,hsb,hsh,hn⟩:=hrel;obtain⟨ao,cap,rfl⟩:=hr.form;have HR:=q8 hr;have HSb:=q8 hsb;have HSh:=q8 hsh;have HN:=q8 hn;have hle:=hsb.length_le;clear hr hsb hsh hn
  cases suf with
  |nil=>
   rw [zS]at HR⊢;have hge: ¬(pre.length:Int)<(pre.length:Int):=by omega
   go_wp2_with fail
   go_ret;refine⟨_,rfl,?_,HN.out⟩;rw [←HSh.out,shr];exact HR.out
  |cons x suf=>
   have hlen:(pre++x::suf).length=pre.length+suf.length+1:=by simp;omega
   obtain⟨n,hnn⟩: ∃n,(pre++x::suf).length=n:=⟨_,rfl⟩;rw [hnn]at hlen hle⊢;have hlt:(pre.length:Int)<n:=by omega
   have HNn:=q8 hnn;have hpn:pre.length<n:=by omega
   have hpn0:0<n:=by omega
   have HLn:=q8 hlen;clear hnn hlen;have HE:=q8 (ZM pre suf x);have HR2:=q8 (show RdN wr (.slice ao n cap) (pre++x::suf) by rw [←HNn.out];exact HR.out);have HDl:=q8 (fun(w2:World) g2 c2 (h:w2.ownsRow wr.heap.size 3 1 (.slice (some ⟨g2,0,none⟩) n c2) n ((pre++x::suf).map natV))=>(show Calls qj 237 #[.slice (some ⟨g2,0,none⟩) n c2,.int .i64 (pre.length:Nat),.int .i64 ((pre.length:Int)+1)] w2 fun e w'=>e= .returned (.slice (some ⟨g2,0,none⟩) (n - 1) c2)∧RdN w' (.slice (some ⟨g2,0,none⟩) (n - 1) c2) (pre++suf)∧Kept (fun k=>k=g2) w2 w' by
    have:=JE (by rw [HNn.out];exact h) (i:=pre.length) (by rw [HNn.out];exact hpn)
    rw [HE.out,HNn.out]at this;exact this))
   go_upto_region 4 with fail
   refine(Kj HR2.out (by rw [HNn.out];omega)).mono ?_;rintro e w2 ⟨v2,rfl,o2,n2⟩;rw [HNn.out]at o2;obtain⟨g2,c2,rfl,hg2⟩:=q3B o2 hpn0;have O2:=q8 o2;have N2:=q8 n2;clear o2 n2;have e1:IntKind.i64.wrap ((pre.length:Int)+1)=(pre.length:Int)+1:=IntWalk.i64_in _ (by omega);go_upto_region 4 with fail
   refine(HDl.out _ _ _ O2.out).mono ?_;rintro e w3 ⟨rfl,r3,k3⟩;have R3:=q8 r3;have N3:=q8 (show Near wr w3 from Kept.mono (Kept.trans (N2.out.kept:Kept (fun k=>k=g2) wr w2) k3) (fun k hk e=>by have e2:k=g2:=e;omega));clear r3 k3 e1 O2 HDl;have HS2:=q8 ((List.Sublist.refl pre).append (List.sublist_cons_self x suf)|>.trans HSb.out);have HC:=q8 (HP.out (pre++suf) _ w3 (HN.out.trans N3.out) R3.out HS2.out)
   cases hp:P (pre++suf)with
   |true=>
    rw [hp]at HC;have HQ:=q8 (show shr P pre suf=shr P [] l by rw [←HSh.out,shr,if_pos hp]);clear hp;go_wp2_with fail
    refine HC.out.mono ?_;rintro e w4 ⟨rfl,n4⟩;have N4:=q8 n4;clear n4;go_wp2_with fail
    exact⟨⟨pre,suf,R3.out.near N4.out,rfl,HS2.out,HQ.out,HN.out.trans (N3.out.trans N4.out)⟩,by simp [intOf,q7l];omega⟩
   |false=>
    rw [hp]at HC;have HQ:=q8 (show shr P (pre++[x]) suf=shr P [] l by rw [←HSh.out,shr,if_neg (by rw [hp];decide)]);clear hp;go_wp2_with fail
    refine HC.out.mono ?_;rintro e w4 ⟨rfl,n4⟩;have N4:=q8 n4;clear n4;go_wp2_with fail
    exact⟨⟨pre++[x],suf,by rw [qS];exact HR2.out.near (N3.out.trans N4.out),by simp,by rw [qS];exact HSb.out,HQ.out,HN.out.trans (N3.out.trans N4.out)⟩,by simp [intOf,q7l];omega⟩
def cj(fs:List F)(d:F)(l:List Nat):F:=l.foldl (fun x i c=>x c&& (fs[i]?.getD fun _=>false) c) d
theorem q6y{fs:List F}{f:F}(hk:l[k]? =some i)(hi:fs[i]? =some f):cj fs d (l.take (k+1))=fun c=>cj fs d (l.take k) c&&f c:=by
 rw [qU,hk];unfold cj;rw [kO];simp [hi]
theorem q4G{base:Nat}{w:World}{sv:Value}{fs:List F}(h:Sets 43 IsF base w sv fs){j:Nat}{f:F}(hj:fs[j]? =some f):
 ∃g cap a n c r,sv= .slice (some ⟨g,0,none⟩) fs.length cap/\w.cell? ⟨g,j*2,none⟩=some (.slice a n c)/\w.cell? ⟨g,j*2+1,none⟩=some (.int .i64 r)/\IsF w (.agg #[.slice a n c,.int .i64 r]) f:=by
 obtain⟨g,cap,u,v,rfl,-,-,h0,h1,hf⟩:=h.get hj;obtain⟨a,n,c,r,e⟩:=hf.form;simp only [qY,za,qJ,and_true]at e;obtain⟨rfl,rfl⟩:=e;exact⟨g,cap,a,n,c,r,rfl,h0,h1,hf⟩
theorem K9{bd bs:Nat}{x y:Value}(hA:ka S w B m)(hd:IsF w (.agg #[x,y]) d)(hbd:w.heap[bd]? =some (.cells #[x,y] 43 (0,0)))(hbs:w.heap[bs]? =some (.cells #[.pointer (some ⟨B,0,none⟩)] 137 (0,0)))
 (h:RdN w v l) (hl: ∀i∈l,i<(rulesF m).length) (hl2:l.length≤1000):
 Calls qj 198 #[v,.pointer (some ⟨bd,0,none⟩),.pointer (some ⟨bs,0,none⟩)] w fun e w'=>e= .returned (.bool (nowhere (cj (rulesF m) d l)))∧Near w w':=by
 obtain⟨c0,c1,c2,c3,c4,sv,s1,s2,base,hB,-,hSets,-⟩:=hA;generalize rulesF m=fs at hl hSets⊢;have p5:w.cell? ⟨B,5,none⟩=some sv:=cell1 hB rfl;have pd:w.cell? ⟨bs,0,none⟩=some (.pointer (some ⟨B,0,none⟩)):=cell1 hbs rfl;have HSet:=q8 (fun(j:Nat)(f:F)=> @q4G base w sv fs hSets j f);have HL:=q8 hl;have HH:=q8 h;obtain⟨vo,vc,rfl⟩:=h.form;obtain⟨x1,x2,x3,x4,e⟩:=hd.form;simp only [qY,za,qJ,and_true]at e;obtain⟨rfl,rfl⟩:=e;have HD:=q8 hd;have b0:w.cell? ⟨bd,0,none⟩=some (.slice x1 x2 x3):=cell1 hbd rfl;have b1:w.cell? ⟨bd,1,none⟩=some (.int .i64 x4):=cell1 hbd rfl;have HP5:=q8 p5;have HPd:=q8 pd;have hBl:=(qk.1 hB).1;have hbl:=(qk.1 hbs).1;clear hSets hB hbs hbd h hd hl p5 pd;go_enter Tryz.func198,Tryz.ntmps198;go_upto_region 2 with fail
 obtain⟨W,X,hWe,hXe,nW,hX⟩:=zZ w #[.slice x1 x2 x3,.int .i64 x4] 43;rw [hWe,hXe];have HXe:=q8 hXe;have NW:=q8 nW;have HX:=q8 hX;clear hWe hXe nW hX b0 b1;go_wp2_with fail
 go_loopw [11] (fun ix wr=> ∃k:Nat,k≤l.length∧ix= .int .i64 k∧ ∃p q,wr.heap[X]? =some (.cells #[p,q] 43 (0,0))∧IsF wr (.agg #[p,q]) (cj fs d (l.take k))∧Kept (fun g=>g=X) W wr) (fun ix _=>l.length - (intOf ix).toNat)
 case atStart=>exact⟨0,qv _,rfl,_,_,HX.out,HD.out.near NW.out,Kept.refl _ _⟩
 case round=>
  obtain⟨k,hk,rfl,p,q,hbx,hf,hkp⟩:=hrel;obtain⟨y1,y2,y3,y4,e⟩:=hf.form;simp only [qY,za,qJ,and_true]at e;obtain⟨rfl,rfl⟩:=e;have HF:=q8 hf;have HBx:=q8 hbx;have HK:=q8 (show Kept (fun g=>g=X) w wr from Kept.trans NW.out.kept hkp);have HKw:=q8 hkp;clear hf hkp;by_cases hlt:k<l.length
  ·have hlt':(k:Int)<l.length:=by omega
   obtain⟨i,hi⟩: ∃i,l[k]? =some i:=⟨_,qi hlt⟩;have hin:=HL.out i (qp hi);obtain⟨f,hfi⟩: ∃f,fs[i]? =some f:=⟨_,qi hin⟩;obtain⟨gs,cs,a,n,c,r,hsv,t0,t1,hF⟩:=HSet.out i f hfi;obtain⟨g,o,hvo,hcl⟩: ∃g o,vo=some ⟨g,o,none⟩∧w.cell? ⟨g,o+k,none⟩=some (natV i):=by
    rcases HH.out with⟨-,e⟩|⟨g,o,c,e,hc⟩
    ·rw [e]at hlt;simp at hlt
    ·simp only [qq,true_and]at e
     exact⟨g,o,e.1,hc k i hi⟩
   subst hvo;have hne: ∀u o (z:Value),w.cell? ⟨u,o,none⟩=some z→ ¬u=X:=fun u o z h e=>by have:=World.block_lt_of_cell? _ _ h;have:=HXe.out;simp at*;omega
   have q0:wr.cell? ⟨X,0,none⟩=some (.slice y1 y2 y3):=cell1 hbx rfl;have q1:wr.cell? ⟨X,1,none⟩=some (.int .i64 y4):=cell1 hbx rfl;have q2:wr.cell? ⟨bs,0,none⟩=some (.pointer (some ⟨B,0,none⟩)):=HK.out.cell HPd.out (hne _ _ _ HPd.out);have q3:wr.cell? ⟨B,5,none⟩=some (.slice (some ⟨gs,0,none⟩) fs.length cs):=HK.out.cell (hsv▸HP5.out) (hne _ _ _ HP5.out);have q4:wr.cell? ⟨gs,i*2,none⟩=some (.slice a n c):=HK.out.cell t0 (hne _ _ _ t0);have q5:wr.cell? ⟨gs,i*2+1,none⟩=some (.int .i64 r):=HK.out.cell t1 (hne _ _ _ t1);have q6:wr.cell? ⟨g,o+k,none⟩=some (.int .i64 (i:Nat)):=HK.out.cell hcl (hne _ _ _ hcl);have hin':(i:Int)<fs.length:=by omega
   have HFi:=q8 (hF.only (w':=wr) (e:=43) ⟨fun g=>g=X,HK.out,fun g hg e=>by have:=HXe.out;omega⟩ (by decide));have HAnd:=q8 (fun(w':World)(h:Near wr w')=>and_f (HF.out.near h) (HFi.out.near h));have hmx:qj.follows .mixedOrders=true:=by kernel_rfl
   go_upto_region 5 with fail
   refine kn hmx (fun w'=>w'.cell? ⟨X,0,none⟩=some (.slice y1 y2 y3)∧w'.cell? ⟨X,1,none⟩=some (.int .i64 y4)∧w'.cell? ⟨bs,0,none⟩=some (.pointer (some ⟨B,0,none⟩))∧w'.cell? ⟨B,5,none⟩=some (.slice (some ⟨gs,0,none⟩) fs.length cs)∧w'.cell? ⟨gs,i*2,none⟩=some (.slice a n c)∧w'.cell? ⟨gs,i*2+1,none⟩=some (.int .i64 r)) 9 ⟨by simpa using q0,by simpa using q1,by simpa using q2,by simpa using q3,by simpa using q4,by simpa using q5⟩ (fun hS=> ?_);refine tD0 (v:= .agg #[.slice y1 y2 y3,.int .i64 y4]) (by kernel_rfl) (by kernel_rfl) (by kernel_rfl) (by kernel_rfl) (fun _ _ _ h=>h) (qB ⟨by rfl,fun w' hS'=>by dsimp only at hS';obtain⟨g0,g1,g2,g3,g4,g5⟩:=hS';go_simp⟩) hS ?_;try simp only [Act.put,qb,qh,qd]
   refine tD1 (v:= .pointer (some ⟨B,0,none⟩)) (by kernel_rfl) (by kernel_rfl) (by kernel_rfl) (by kernel_rfl) (fun _ _ _ h=>h) (qB ⟨by rfl,fun w' hS'=>by dsimp only at hS';obtain⟨g0,g1,g2,g3,g4,g5⟩:=hS';go_simp⟩) hS ?_;try simp only [Act.put,qb,qh,qd]
   refine tD2 (v:= .pointer (some ⟨B,0,none⟩)) (by kernel_rfl) (by kernel_rfl) (by kernel_rfl) (by kernel_rfl) (fun _ _ _ h=>h) (qB ⟨by rfl,fun w' hS'=>by dsimp only at hS';obtain⟨g0,g1,g2,g3,g4,g5⟩:=hS';go_simp⟩) hS ?_;try simp only [Act.put,qb,qh,qd]
   refine tD3 (v:= .pointer (some ⟨B,5,none⟩)) (by kernel_rfl) (by kernel_rfl) (by kernel_rfl) (by kernel_rfl) (fun _ _ _ h=>h) (qB ⟨by rfl,fun w' hS'=>by dsimp only at hS';obtain⟨g0,g1,g2,g3,g4,g5⟩:=hS';go_simp⟩) hS ?_;try simp only [Act.put,qb,qh,qd]
   refine tD4 (v:= .slice (some ⟨gs,0,none⟩) fs.length cs) (by kernel_rfl) (by kernel_rfl) (by kernel_rfl) (by kernel_rfl) (fun _ _ _ h=>h) (qB ⟨by rfl,fun w' hS'=>by dsimp only at hS';obtain⟨g0,g1,g2,g3,g4,g5⟩:=hS';go_simp⟩) hS ?_;try simp only [Act.put,qb,qh,qd]
   refine tD5 (v:= .int .i64 (i:Nat)) (by kernel_rfl) (by kernel_rfl) (by kernel_rfl) (by kernel_rfl) (fun _ _ _ h=>h) (qB ⟨by rfl,fun w' hS'=>by dsimp only at hS';obtain⟨g0,g1,g2,g3,g4,g5⟩:=hS';go_simp⟩) hS ?_;try simp only [Act.put,qb,qh,qd]
   refine tD6 (v:= .pointer (some ⟨gs,i*2,none⟩)) (by kernel_rfl) (by kernel_rfl) (by kernel_rfl) (by kernel_rfl) (fun _ _ _ h=>h) (qB ⟨by rfl,fun w' hS'=>by dsimp only at hS';obtain⟨g0,g1,g2,g3,g4,g5⟩:=hS';go_simp⟩) hS ?_;try simp only [Act.put,qb,qh,qd]
   refine tD7 (v:= .agg #[.slice a n c,.int .i64 r]) (by kernel_rfl) (by kernel_rfl) (by kernel_rfl) (by kernel_rfl) (fun _ _ _ h=>h) (qB ⟨by rfl,fun w' hS'=>by dsimp only at hS';obtain⟨g0,g1,g2,g3,g4,g5⟩:=hS';go_simp⟩) hS ?_;try simp only [Act.put,qb,qh,qd]
   refine oZ8 (by kernel_rfl) (fun K hK=> ?_);go_simp;refine(HAnd.out _ (Near.refl wr).drew).mono ?_;rintro e z1 ⟨v1,rfl,d1,n1⟩;obtain⟨z2,z3,z4,z5,rfl⟩:=d1.form;have D1:=q8 d1;have N1:=q8 ((Near.refl wr).drew.trans n1);have hB1:=qE N1.out HBx.out;have HB1:=q8 hB1;obtain⟨r0,r1,f0,f1⟩:=ym hB1;refine hK.out _ _ (Or.inr ⟨n1.cell hS.1,n1.cell hS.2.1,n1.cell hS.2.2.1,n1.cell hS.2.2.2.1,n1.cell hS.2.2.2.2.1,n1.cell hS.2.2.2.2.2⟩) ?_;clear hK K;try simp only [Act.put,qb,qh,qd]
   refine oZ9 (by kernel_rfl) (fun K hK=> ?_);go_simp;refine hK.out _ _ (qB rfl) ?_;clear hK K;refine yR (by kernel_rfl) ?_;have HNew:=q8 (show((z1.setCell ⟨X,0,none⟩ (.slice z2 z3 z4)).setCell ⟨X,1,none⟩ (.int .i64 z5)).heap[X]? =some (.cells #[.slice z2 z3 z4,.int .i64 z5] 43 (0,0))∧IsF ((z1.setCell ⟨X,0,none⟩ (.slice z2 z3 z4)).setCell ⟨X,1,none⟩ (.int .i64 z5)) (.agg #[.slice z2 z3 z4,.int .i64 z5]) (cj fs d (l.take (k+1)))∧Kept (fun g=>g=X) W ((z1.setCell ⟨X,0,none⟩ (.slice z2 z3 z4)).setCell ⟨X,1,none⟩ (.int .i64 z5))from
    ⟨gI HB1.out _ _,by rw [q6y hi hfi];exact yJ D1.out HB1.out,Kept.setCell (S:=fun k=>k=X) (p:=⟨X,1,none⟩) (Kept.setCell (S:=fun k=>k=X) (p:=⟨X,0,none⟩) (Kept.trans HKw.out N1.out.kept) (fun _=>rfl) _) (fun _=>rfl) _⟩)
   generalize(z1.setCell ⟨X,0,none⟩ (.slice z2 z3 z4)).setCell ⟨X,1,none⟩ (.int .i64 z5)=w4 at HNew⊢;clear r0 r1 f0 f1 hB1 hS q0 q1 q2 q3 q4 q5 q6;go_wp2_with fail
   exact⟨⟨k+1,by omega,by go_num,_,_,HNew.out⟩,by simp [intOf];omega⟩
  ·obtain rfl:k=l.length:=by omega
   have q0:wr.cell? ⟨X,0,none⟩=some (.slice y1 y2 y3):=cell1 hbx rfl;have q1:wr.cell? ⟨X,1,none⟩=some (.int .i64 y4):=cell1 hbx rfl;rw [qF]at HF;go_wp2_with (go_at_call 19;refine(empty_f HF.out).mono ?_;rintro e w5 ⟨rfl,n5⟩)
   go_ret;exact⟨rfl,Kept.mono (Kept.trans HK.out n5.kept) (fun g hg e=>by have:=HXe.out;omega)⟩
def q3f(fs:List F)(r:Int):F:=if 0<=r then(fs[r.toNat]?).getD fun _=>false else fun _=>false
def errR(n:Nat)(r:Int):Nat:=if 0<=r/\r<n then 0 else 3
theorem vW{W:World}{b:Nat}{p q r s t:Value}(h:W.heap[b]? =some (.cells #[p,q,r,s,t] 28 (0,0))): ∀w',Near W w'->w'.cell? ⟨b,0,none⟩=some p/\w'.cell? ⟨b,1,none⟩=some q/\w'.cell? ⟨b,2,none⟩=some r/\w'.cell? ⟨b,3,none⟩=some s/\w'.cell? ⟨b,4,none⟩=some t:=
 fun _ hn=>⟨cell1 (qE hn h) rfl,cell1 (qE hn h) rfl,cell1 (qE hn h) rfl,cell1 (qE hn h) rfl,cell1 (qE hn h) rfl⟩
theorem vH(w:World)(cs ds:Array Value)(s t:TypeId): ∃V,(w.alloc (.cells cs s)).alloc (.cells ds t)=V/\Near w V/\V.heap[w.heap.size]? =some (.cells cs s (0,0))/\V.heap[w.heap.size+1]? =some (.cells ds t (0,0)):=
 ⟨_,rfl,((Near.refl w).alloc _).alloc _,by rw [qD (by simp),heap_new_at rfl],heap_new_at (by simp)⟩
theorem gJ(h:RdMod S w v m)(hS: ∀g,S g→g<w.heap.size)(hb:Zd m)(h0:chk m=0)(r:Int):
 Calls qj 20 #[v,.int .i64 r] w fun e w'=> ∃d,e= .returned (.tuple #[d,.int .i64 (errR (rulesF m).length r:Nat)])∧IsF w' d (q3f (rulesF m) r)∧Near w w':=by
 have ok:=jm h0;have HCk:=q8 (fun(w':World)(hn:Near w w')=>(h0▸jH (h.kept hn (fun _ _ h=>h) (fun _ h=>h)) (fun g hg=>qu (hS g hg) hn.size) hb:Calls qj 29 #[v] w' fun e w''=>e= .returned (.int .i64 ((0:Nat):Int))∧Near w' w''));have HRu:=q8 (fun(w':World)(hn:Near w w')=>vU (h.kept hn (fun _ _ h=>h) (fun _ h=>h)) ok.n0 (by have:=ok.n24;omega) (by have:=ok.g24;omega) (by have:=ok.r64;omega) (by have:=ok.l16;omega));have HSet:=q8 (fun(w':World)(hn:Near w w')(r:Nat×Nat)(hr:r∈rulesOf m)=>X4 (h.kept hn (fun _ _ h=>h) (fun _ h=>h)) (fun g hg=>qu (hS g hg) hn.size) ok hb (rulesOf_mem hr));obtain⟨a1,a2,b1,b2,c1,c2,d1,d2,e1,e2,rfl,-⟩:=RdMod.form h;have HL:=q8 (show(rulesF m).length=(rulesOf m).length by simp [rulesF]);have HAt:=q8 (fun(k:Nat) x (hx:(rulesOf m)[k]? =some x)=>(show q3f (rulesF m) (k:Nat)=q0D m x by simp [q3f,rulesF,hx]));have HZ:=q8 (fun(hr: ¬(0≤r∧r<(rulesOf m).length))=>(show q3f (rulesF m) r=fun _=>false by
  unfold q3f;split
  ·rw [List.getElem?_eq_none (by rw [HL.out];omega)];rfl
  ·rfl))
 have HE:=q8 (show errR (rulesF m).length r=if 0≤r∧r<(rulesOf m).length then 0 else 3 by rw [HL.out];rfl);have hle:(rulesOf m).length≤1000:=by rw [←HL.out];exact jQ ok
 generalize errR (rulesF m).length r=er at HE⊢;generalize rulesOf m=rs at HRu HSet HL HAt HZ HE hle;clear h hS ok h0 HL;go_enter Tryz.func20,Tryz.ntmps20;go_upto_region 1 with fail
 obtain⟨W,hWe,nW,hA,hR⟩:=vH w #[.slice a1 m.feats.length a2,.slice b1 m.grps.length b2,.slice c1 m.atts.length c2,.slice d1 m.reqs.length d2,.slice e1 m.lims.length e2] #[.slice none 0 0,.int .i64 0] 28 43;rw [hWe];have HA:=q8 (vW hA);have HR:=q8 hR;have NW:=q8 nW;obtain⟨q0,q1,q2,q3,q4⟩:=HA.out W (Near.refl W);clear hWe nW hA hR;go_upto_region 2 with(go_at_call 29;refine(HCk.out _ NW.out).mono ?_;rintro e w1 ⟨rfl,n1⟩;have N1:=q8 n1;clear n1)
 clear q0 q1 q2 q3 q4;obtain⟨q0,q1,q2,q3,q4⟩:=HA.out _ N1.out;go_upto_region 5 with(go_at_call 75;refine(HRu.out _ (NW.out.trans N1.out)).mono ?_;rintro e w2 ⟨v2,rfl,o2,n2⟩;obtain⟨ro,rc,rfl⟩:=o2.form;have HRow:=q8 o2.row;have N2:=q8 (N1.out.trans n2);clear o2 n2)
 have hR2:=qE N2.out HR.out;have HR2:=q8 hR2;clear q0 q1 q2 q3 q4;by_cases hin:0≤r∧r<rs.length
 ·obtain⟨k,rfl⟩: ∃k:Nat,r=k:=⟨r.toNat,by omega⟩
  have hlt:k<rs.length:=by omega
  obtain⟨x,hx⟩: ∃x,rs[k]? =some x:=⟨_,qi hlt⟩;have HQ:=q8 (HE.out.trans (if_pos hin));have HAx:=q8 (HAt.out k x hx);have HSx:=q8 (fun w' hn=>HSet.out w' hn x (qp hx));obtain⟨ao',cap',e,hc⟩:=HRow.out;obtain⟨b,o,vs,hao,hbg,hcell,hv⟩:=hc k x hx;obtain rfl:vs=[.int .u8 x.1,.int .i64 x.2]:=hv;simp only [qq,true_and]at e;obtain⟨rfl,rfl⟩:=e;subst hao;have g0:w2.cell? ⟨b,o+k*2,none⟩=some (.int .u8 x.1):=hcell 0 _ rfl;have g1:w2.cell? ⟨b,o+k*2+1,none⟩=some (.int .i64 x.2):=hcell 1 _ rfl;have hlt':(k:Int)<rs.length:=by omega
  have hge:(0:Int)≤k:=by omega
  obtain⟨q0,q1,q2,q3,q4⟩:=HA.out _ N2.out;clear hc hcell hx hin hR2 HRow;go_upto_region 7 with fail
  have hbg':w.heap.size+1<b:=by have:=NW.out.size;have:=N1.out.size;have:=(qk.1 HR.out).1;omega
  have sOf: ∀w',Kept (fun k=>k=w.heap.size+1) w2 w'→w'.cell? ⟨w.heap.size,0,none⟩=some (.slice a1 m.feats.length a2)∧w'.cell? ⟨w.heap.size,1,none⟩=some (.slice b1 m.grps.length b2)∧w'.cell? ⟨w.heap.size,2,none⟩=some (.slice c1 m.atts.length c2)∧w'.cell? ⟨w.heap.size,3,none⟩=some (.slice d1 m.reqs.length d2)∧w'.cell? ⟨w.heap.size,4,none⟩=some (.slice e1 m.lims.length e2)∧w'.cell? ⟨b,o+k*2,none⟩=some (.int .u8 x.1)∧w'.cell? ⟨b,o+k*2+1,none⟩=some (.int .i64 x.2):=fun w' h=>
   have h1: ¬w.heap.size=w.heap.size+1:=by omega
   have h2: ¬b=w.heap.size+1:=by omega
   ⟨h.cell q0 h1,h.cell q1 h1,h.cell q2 h1,h.cell q3 h1,h.cell q4 h1,h.cell g0 h2,h.cell g1 h2⟩
  have HSOf:=q8 sOf;clear sOf hbg';go_region_held3 (fun w'=>w'.cell? ⟨w.heap.size,0,none⟩=some (.slice a1 m.feats.length a2)∧w'.cell? ⟨w.heap.size,1,none⟩=some (.slice b1 m.grps.length b2)∧w'.cell? ⟨w.heap.size,2,none⟩=some (.slice c1 m.atts.length c2)∧w'.cell? ⟨w.heap.size,3,none⟩=some (.slice d1 m.reqs.length d2)∧w'.cell? ⟨w.heap.size,4,none⟩=some (.slice e1 m.lims.length e2)∧w'.cell? ⟨b,o+k*2,none⟩=some (.int .u8 x.1)∧w'.cell? ⟨b,o+k*2+1,none⟩=some (.int .i64 x.2))
   ((refine HSOf.out _ ?_;first|exact z1.kept|exact(Near.refl _).drew.kept|exact Kept.setCell (S:=fun k=>k=w.heap.size+1) (p:=⟨w.heap.size+1,1,none⟩) (Kept.setCell (S:=fun k=>k=w.heap.size+1) (p:=⟨w.heap.size+1,0,none⟩) z1.kept (fun _=>rfl) _) (fun _=>rfl) _))
   ((go_at_call 76;refine(HSx.out _ (NW.out.trans (N2.out.trans (Near.refl _).drew))).mono ?_;rintro e w3 ⟨v3,rfl,d3,n3⟩;obtain⟨x1,x2,x3,x4,rfl⟩:=d3.form;have z1:Near w2 w3:=(Near.refl w2).drew.trans n3;have hR3:=qE z1 HR2.out;have HR3:=q8 hR3;obtain⟨r0,r1,f0,f1⟩:=ym hR3;have D3:=q8 d3;clear d3 n3 hR3))
  obtain⟨t0,t1⟩:=yE HR3.out (.slice x1 x2 x3) (.int .i64 x4);go_wp2_with fail
  exact qo (v:= .tuple #[.agg #[.slice x1 x2 x3,.int .i64 x4],.int .i64 0]) (by simp [qC,Tryz.results20,go_sem,t0,t1]) rfl ⟨_,by rw [HQ.out];rfl,by rw [HAx.out];exact yJ D3.out HR3.out,((NW.out.trans (N2.out.trans z1)).set (by show w.heap.size≤w.heap.size+1;omega) _).set (by show w.heap.size≤w.heap.size+1;omega) _⟩
 ·have HQ:=q8 (HE.out.trans (if_neg hin))
  have HZz:=q8 (HZ.out hin);obtain⟨r0,r1,f0,f1⟩:=ym hR2;clear hR2 HRow;have fin: ∀w',w'=(w2.setCell ⟨w.heap.size+1,0,none⟩ (.slice none 0 0)).setCell ⟨w.heap.size+1,1,none⟩ (.int .i64 0)→Near w w':=by
   rintro w' rfl;exact((NW.out.trans N2.out).set (by show w.heap.size≤w.heap.size+1;omega) _).set (by show w.heap.size≤w.heap.size+1;omega) _
  by_cases h1:r<0
  ·clear hin
   go_wp2_with fail
   obtain⟨t0,t1⟩:=yE HR2.out (.slice none 0 0) (.int .i64 0);exact qo (v:= .tuple #[.agg #[.slice none 0 0,.int .i64 0],.int .i64 3]) (by simp [qC,Tryz.results20,go_sem,t0,t1]) rfl ⟨_,by rw [HQ.out];rfl,by rw [HZz.out];exact Jo _,fin _ rfl⟩
  ·have h2:(rs.length:Int)≤r:=by omega
   clear hin;go_wp2_with fail
   obtain⟨t0,t1⟩:=yE HR2.out (.slice none 0 0) (.int .i64 0);exact qo (v:= .tuple #[.agg #[.slice none 0 0,.int .i64 0],.int .i64 3]) (by simp [qC,Tryz.results20,go_sem,t0,t1]) rfl ⟨_,by rw [HQ.out];rfl,by rw [HZz.out];exact Jo _,fin _ rfl⟩
noncomputable def enoughB (fs:List F) (d:F) (l:List Nat):Bool:=nowhere (cj fs d l)
def butL(n:Nat)(but:Int):List Nat:=(qO n).filter fun i=>decide ((i:Int)≠but)
noncomputable def explL (fs:List F) (d:F) (but:Int):List Nat:=if enoughB fs d (butL fs.length but)=true then shr (enoughB fs d) [] (butL fs.length but)else []
noncomputable def explE (fs:List F) (d:F) (but:Int):Nat:=if enoughB fs d (butL fs.length but)=true then 0 else 8
theorem Uc: ∀i∈butL n but,i<n:=fun _ hi=>yd.1 (List.mem_filter.1 hi).1
theorem Q3(n:Nat)(but:Int):(butL n but).length<=n:=by
 have:=List.length_filter_le (fun i:Nat=>decide ((i:Int)≠but)) (qO n)
 rwa [List.length_range]at this
theorem q2n(k:Nat)(but:Int):butL (k+1) but=butL k but++if(k:Int)=but then []else [k]:=by
 unfold butL;rw [List.range_succ,List.filter_append];by_cases h:(k:Int)=but<;>simp [h]
theorem q0c(hA:ka S w B m)(hd:IsF w v d)(h:RdN w vl l)(hl: ∀i∈l,i<(rulesF m).length)(hl2:l.length≤1000):
 Calls qj 144 #[.pointer (some ⟨B,0,none⟩),v,vl] w fun e w'=> ∃v',e= .returned (.tuple #[v',.bool (enoughB (rulesF m) d l)])∧RdN w' v' (if enoughB (rulesF m) d l=true then shr (enoughB (rulesF m) d) [] l else [])∧Near w w':=by
 obtain⟨x1,x2,x3,x4,rfl⟩:=hd.form;obtain⟨vo,vc,rfl⟩:=h.form;obtain⟨W,hWe,nW,hB1,hB2⟩:=vH w #[.pointer (some ⟨B,0,none⟩)] #[.slice x1 x2 x3,.int .i64 x4] 137 43;have HEn:=q8 (fun(l':List Nat)(v':Value)(w':World)(hn:Near W w')(hr:RdN w' v' l')(hs:l'.Sublist l)=>
  (show Calls qj 198 (#[v']++ #[.pointer (some ⟨w.heap.size+1,0,none⟩),.pointer (some ⟨w.heap.size,0,none⟩)]) w' fun e w''=>e= .returned (.bool (enoughB (rulesF m) d l'))∧Near w' w'' from
    K9 (hA.near (nW.trans hn)) (hd.near (nW.trans hn)) (qE hn hB2) (qE hn hB1) hr (fun i hi=>hl i (hs.subset hi)) (qH hs.length_le hl2)))
 have HR:=q8 (h.near nW);generalize enoughB (rulesF m) d=P at HEn⊢;obtain⟨rl,hrl⟩: ∃rl,rl=if P l=true then shr P [] l else []:=⟨_,rfl⟩;rw [←hrl];have HC:=q8 (HEn.out l _ W (Near.refl W) HR.out (List.Sublist.refl l));generalize P l=pb at HC hrl⊢;have HRl:=q8 hrl;clear hrl;have NW:=q8 nW;have HWe:=q8 hWe;clear hA hd h hl nW hB1 hB2 hWe;go_enter Tryz.func144,Tryz.ntmps144;go_upto_region 1 with fail
 rw [HWe.out]
 cases pb with
 |false=>
  clear HEn;go_wp2_with fail
  refine HC.out.mono ?_;rintro e w2 ⟨rfl,n2⟩;have N2:=q8 n2;clear n2;go_wp2_with fail
  exact qo (v:= .tuple #[.slice none 0 0,.bool false]) (by simp [qC,Tryz.results144,go_sem]) rfl ⟨_,rfl,.inl ⟨rfl,HRl.out⟩,NW.out.trans N2.out⟩
 |true=>
  go_wp2_with fail
  refine HC.out.mono ?_;rintro e w2 ⟨rfl,n2⟩;have N2:=q8 n2;clear n2;go_wp2_with (go_at_call 199;refine(shrink_calls (P:=P) (HR.out.near N2.out) hl2 (fun _ _=>rfl) (fun l' v' w' hn hr hs=>HEn.out l' v' w' (N2.out.trans hn) hr hs)).mono ?_;rintro e w3 ⟨v3,rfl,r3,n3⟩;have R3:=q8 r3;have N3:=q8 n3;clear r3 n3)
  exact qo (v:= .tuple #[v3,.bool true]) (by simp [qC,Tryz.results144,go_sem]) rfl ⟨_,rfl,by rw [HRl.out];exact R3.out,NW.out.trans (N2.out.trans N3.out)⟩
theorem wD(hA:ka S w B m)(hd:IsF w v d)(hfew:(rulesF m).length≤1000):
 Calls qj 73 #[.pointer (some ⟨B,0,none⟩),v,.int .i64 but] w fun e w'=> ∃v',e= .returned (.tuple #[v',.int .i64 (explE (rulesF m) d but:Nat)])∧RdN w' v' (explL (rulesF m) d but)∧Near w w':=by
 obtain⟨x1,x2,x3,x4,rfl⟩:=hd.form;obtain⟨i0,hi0,hz0,hz1,hz2⟩:=info_parts wU;have HWy:=q8 (fun(w':World)(v':Value)(hn:Near w w')(hr:RdN w' v' (butL (rulesF m).length but))=>q0c (hA.near hn) (hd.near hn) hr Uc (qH (Q3 _ _) hfew));obtain⟨c0,c1,c2,c3,c4,sv,s1,s2,base,hB,-,hSets,-⟩:=hA;have hf:=hSets.form;have HEr:=q8 (show explE (rulesF m) d but=if enoughB (rulesF m) d (butL (rulesF m).length but)=true then 0 else 8 from rfl);have HEl:=q8 (show explL (rulesF m) d but=if enoughB (rulesF m) d (butL (rulesF m).length but)=true then shr (enoughB (rulesF m) d) [] (butL (rulesF m).length but)else []from rfl);generalize explE (rulesF m) d but=er at HEr⊢;generalize explL (rulesF m) d but=el at HEl⊢;generalize rulesF m=fs at HWy hf hfew HEr HEl;obtain⟨so,sc,rfl⟩:=hf;generalize enoughB fs d=P at HWy HEr HEl;obtain⟨W,X,hWe,hXe,nW,hX⟩:=zZ w #[.slice x1 x2 x3,.int .i64 x4] 43;have HB:=q8 (qE nW hB);have HX:=q8 hX;have NW:=q8 nW;have q5:W.cell? ⟨B,5,none⟩=some (.slice so fs.length sc):=cell1 HB.out rfl;have HWe:=q8 hWe;have HXe:=q8 hXe;clear hB hSets hd hWe hXe nW hX;go_enter Tryz.func73,Tryz.ntmps73;go_upto_region 1 with fail
 rw [HWe.out,HXe.out];go_wp2_with fail
 have hlen0:=Q3 fs.length but;go_loopw [8,17] (fun v ix wr=> ∃k:Nat,k≤fs.length∧ix= .int .i64 k∧wr.ownsRow W.heap.size 3 1 v (butL k but).length ((butL k but).map natV)∧Near W wr) (fun _ ix _=>fs.length - (intOf ix).toNat)
 case atStart=>exact⟨0,qv _,rfl,qW _ _ _ _,Near.refl _⟩
 case round=>
  obtain⟨k,hk,rfl,hown,hnr⟩:=hrel;have hbl:=Q3 k but;obtain⟨L,hL⟩: ∃L,L=butL k but:=⟨_,rfl⟩;rw [←hL]at hown hbl;obtain⟨vo,vc,rfl⟩:=qR hown;have HO:=q8 hown;have HNr:=q8 hnr;have HL:=q8 hL;clear hown hnr hL;by_cases hlt:k<fs.length
  ·have hlt':(k:Int)<fs.length:=by omega
   have HSu:=q8 (q2n k but);by_cases hb:(k:Int)=but
   ·have hb2:((k:Int) !=but)=false:=bne_eq_false_iff_eq.2 hb
    rw [if_pos hb,zS,←HL.out]at HSu;clear hb;go_wp2_with fail
    exact⟨⟨k+1,hlt,by go_num,by rw [HSu.out];exact HO.out,HNr.out⟩,by simp [intOf];omega⟩
   ·have hb2:((k:Int) !=but)=true:=bne_iff_ne.2 hb
    rw [if_neg hb,←HL.out]at HSu;clear hb;go_wp2_with (at_builtin;go_must (refine wpList_append_more rfl (.tmp 23) (.tmp 25) 47 rfl W.heap.size 3 i0 (.int .i64 0) 1 8 yF hi0 hz0 hz1 hz2 rfl (by decide) (.slice vo L.length vc) L.length (L.map natV) rfl (owns_kept HO.out ((Near.refl wr).alloc _) (fun _ _ h=>h)) _ 1 [.int .i64 k] rfl ⟨rfl,.inr ⟨_,1,rfl,cell_one_at (by simp) _ _⟩⟩ (by simp [Value.oneCell']) (by unfold maxLen;omega) (by omega) (by have:=HNr.out.size;simp;omega) ?_);go_must (intro b4 c4 w4 hown4 hg4;have HO4:=q8 hown4;have HN4:=q8 (Kept.grown (HNr.out.alloc _) hg4 (fun j e hlt=>by have:=(HO.out.lt _ e).1;omega):Near W w4);clear hown4 hg4))
    exact⟨⟨k+1,hlt,by go_num,by rw [HSu.out,ze,qn];exact HO4.out,HN4.out⟩,by simp [intOf];omega⟩
  ·obtain rfl:k=fs.length:=by omega
   have p0:wr.cell? ⟨X,0,none⟩=some (.slice x1 x2 x3):=cell1 (qE HNr.out HX.out) rfl;have p1:wr.cell? ⟨X,1,none⟩=some (.int .i64 x4):=cell1 (qE HNr.out HX.out) rfl;have HC:=q8 (HWy.out wr (.slice vo L.length vc) (NW.out.trans HNr.out) (HL.out▸RdN.own HO.out));rw [←HL.out]at HC HEr HEl
   cases hP:P L with
   |false=>
    rw [hP]at HC HEr HEl;clear hP HWy;go_wp2_with (go_at_call 144;refine HC.out.mono ?_;rintro e w5 ⟨v5,rfl,r5,n5⟩;have R5:=q8 r5;have N5:=q8 n5;clear r5 n5)
    exact qo (v:= .tuple #[.slice none 0 0,.int .i64 8]) (by simp [qC,Tryz.results73,go_sem]) rfl ⟨_,by rw [HEr.out];rfl,by rw [HEl.out];exact .inl ⟨rfl,rfl⟩,NW.out.trans (HNr.out.trans N5.out)⟩
   |true=>
    rw [hP]at HC HEr HEl;clear hP HWy;go_wp2_with (go_at_call 144;refine HC.out.mono ?_;rintro e w5 ⟨v5,rfl,r5,n5⟩;have R5:=q8 r5;have N5:=q8 n5;clear r5 n5)
    exact qo (v:= .tuple #[v5,.int .i64 0]) (by simp [qC,Tryz.results73,go_sem]) rfl ⟨_,by rw [HEr.out];rfl,by rw [HEl.out];exact R5.out,NW.out.trans (HNr.out.trans N5.out)⟩
theorem q2I(h:RdMod S w v m)(hS: ∀g,S g→g<w.heap.size)(hb:Zd m)(h0:chk m=0)(hd:IsF w vd d):
 Calls qj 16 #[v,vd] w fun e w'=> ∃v',e= .returned (.tuple #[v',.int .i64 (explE (rulesF m) d (-1):Nat)])∧RdN w' v' (explL (rulesF m) d (-1))∧Near w w':=by
 have HSt:=q8 (fun(w':World)(hn:Near w w')=>YX (h.kept hn (fun _ _ h=>h) (fun _ h=>h)) (fun g hg=>qu (hS g hg) hn.size) hb);have HFew:=q8 (jQ (jm h0));have HC0:=q8 h0;have HD:=q8 hd;obtain⟨a1,a2,b1,b2,c1,c2,d1,d2,e1,e2,rfl,-⟩:=RdMod.form h;obtain⟨x1,x2,x3,x4,rfl⟩:=hd.form;obtain⟨W,hWe,nW,hA,hR⟩:=vH w #[.slice a1 m.feats.length a2,.slice b1 m.grps.length b2,.slice c1 m.atts.length c2,.slice d1 m.reqs.length d2,.slice e1 m.lims.length e2] #[.slice x1 x2 x3,.int .i64 x4] 28 43;have HX:=q8 (fun(B:Nat)(w':World)(hn:Near W w')(hA:ka S w' B m)=>wD (but:= -1) hA (hd.near (nW.trans hn)) HFew.out);generalize explE (rulesF m) d (-1)=er at HX⊢;generalize explL (rulesF m) d (-1)=el at HX⊢;have HA:=q8 (vW hA);have HR:=q8 hR;have NW:=q8 nW;have HWe:=q8 hWe;obtain⟨q0,q1,q2,q3,q4⟩:=HA.out W (Near.refl W);clear hWe nW hA hR h hS hb h0 hd;go_enter Tryz.func16,Tryz.ntmps16;go_upto_region 1 with fail
 rw [HWe.out];go_upto_region 2 with(go_at_call 72;refine(HSt.out _ NW.out).mono ?_;rintro e w1 ⟨p,rfl,hg,-,n1⟩;obtain⟨B,rfl,hst⟩:=hg HC0.out;rw [HC0.out];have ST:=q8 hst;have N1:=q8 n1;clear hg hst n1)
 have p0:w1.cell? ⟨w.heap.size+1,0,none⟩=some (.slice x1 x2 x3):=cell1 (qE N1.out HR.out) rfl;have p1:w1.cell? ⟨w.heap.size+1,1,none⟩=some (.int .i64 x4):=cell1 (qE N1.out HR.out) rfl;clear q0 q1 q2 q3 q4;go_wp2_with (go_at_call 73;refine(HX.out _ _ N1.out ST.out).mono ?_;rintro e w2 ⟨v2,rfl,r2,n2⟩;have R2:=q8 r2;have N2:=q8 n2;clear r2 n2)
 exact qo (v:= .tuple #[v2,.int .i64 er]) (by simp [qC,Tryz.results16,go_sem]) rfl ⟨_,rfl,R2.out,NW.out.trans (N1.out.trans N2.out)⟩
def exL(l:List Nat)(but:Int):List Nat:=if 0<=but then l.eraseIdx but.toNat else l
theorem q3Z(but:Int)(hk:l[k]? =some i):exL (l.take (k+1)) but=exL (l.take k) but++if(k:Int)=but then []else [i]:=by
 have hlt:=(qm.1 hk).1;have hl:(l.take k).length=k:=by rw [List.length_take];omega
 rw [qU,hk];show exL (l.take k++[i]) but=_;generalize l.take k=p at hl⊢;subst hl;unfold exL;by_cases h0:0≤but
 ·obtain⟨j,rfl⟩: ∃j:Nat,but=j:=⟨but.toNat,by omega⟩
  rw [if_pos h0,if_pos h0,Int.toNat_natCast];rcases Nat.lt_trichotomy j p.length with h|h|h
  ·rw [if_neg (by omega),List.eraseIdx_append_of_lt_length h]
  ·subst h
   rw [if_pos rfl,List.eraseIdx_append_of_length_le (qt _),List.eraseIdx_of_length_le (qt _)];simp
  ·rw [if_neg (by omega),List.eraseIdx_of_length_le (by simp;omega),List.eraseIdx_of_length_le (by omega)]
 ·rw [if_neg h0,if_neg h0,if_neg (by omega)]
theorem q7u(fs:List F)(d f:F)(l:List Nat)(hi:fs[i]? =some f):cj fs d (l++[i])=fun c=>cj fs d l c&&f c:=by
 unfold cj;rw [kO];simp [hi]
theorem YJ(h:RdMod S w v m)(hS: ∀g,S g→g<w.heap.size)(hb:Zd m)(h0:chk m=0)(hd:IsF w vd d)(hl:RdN w vl l)(hin: ∀i∈l,i<(rulesF m).length)(hl2:l.length≤1000):
 Calls qj 18 #[v,vd,vl,.int .i64 but] w (jO w (cj (rulesF m) d (exL l but))):=by
 have HRs:=q8 (fun(w':World)(hn:Near w w')(i:Nat)(f:F)(hi:(rulesF m)[i]? =some f)=>(show Calls qj 20 #[v,.int .i64 (i:Nat)] w' fun e w''=> ∃d,e= .returned (.tuple #[d,.int .i64 0])∧IsF w'' d f∧Near w' w'' by
  have h1:=gJ (h.kept hn (fun _ _ h=>h) (fun _ h=>h)) (fun g hg=>qu (hS g hg) hn.size) hb h0 (i:Int);have hlt:=(qm.1 hi).1;rw [show errR (rulesF m).length (i:Int)=0 from if_pos ⟨by omega,by omega⟩,show q3f (rulesF m) (i:Int)=f by simp [q3f,hi]]at h1;exact h1))
 have HD:=q8 hd;have HL:=q8 hl;obtain⟨a1,a2,b1,b2,c1,c2,d1,d2,e1,e2,rfl,-⟩:=RdMod.form h;obtain⟨x1,x2,x3,x4,rfl⟩:=hd.form;obtain⟨vo,vc,rfl⟩:=hl.form;generalize rulesF m=fs at HRs hin⊢;have HIn:=q8 hin;obtain⟨W,hWe,nW,hA,hX⟩:=vH w #[.slice a1 m.feats.length a2,.slice b1 m.grps.length b2,.slice c1 m.atts.length c2,.slice d1 m.reqs.length d2,.slice e1 m.lims.length e2] #[.slice x1 x2 x3,.int .i64 x4] 28 43;obtain⟨V,R,hVe,hRe,nV,hR⟩:=zZ W #[.slice none 0 0,.int .i64 0] 43;have hWl:=(qk.1 hX).1;have hsz:W.heap.size=w.heap.size+1+1:=by rw [←hWe];simp
 have HA:=q8 (qE nV hA);have HX:=q8 (qE nV hX);have HR:=q8 hR;have NV:=q8 (nW.trans nV);have HRe:=q8 (show R=w.heap.size+1+1 by omega);have HVs:=q8 (show R<V.heap.size from(qk.1 hR).1);have HVe:=q8 (show((w.alloc (.cells #[.slice a1 m.feats.length a2,.slice b1 m.grps.length b2,.slice c1 m.atts.length c2,.slice d1 m.reqs.length d2,.slice e1 m.lims.length e2] 28)).alloc (.cells #[.slice x1 x2 x3,.int .i64 x4] 43)).alloc (.cells #[.slice none 0 0,.int .i64 0] 43)=V by rw [hWe,hVe]);clear hWe nW hA hX hVe hRe nV hR hWl hsz h hS hb h0 hd hl hin;go_enter Tryz.func18,Tryz.ntmps18;go_upto_region 1 with fail
 rw [HVe.out];go_wp2_with fail
 go_loopw [9] (fun ix wr=> ∃k:Nat,k≤l.length∧ix= .int .i64 k∧ ∃p q,wr.heap[w.heap.size+1]? =some (.cells #[p,q] 43 (0,0))∧IsF wr (.agg #[p,q]) (cj fs d (exL (l.take k) but))∧Kept (fun g=>g=w.heap.size+1) V wr) (fun ix _=>l.length - (intOf ix).toNat)
 case atStart=>exact⟨0,qv _,rfl,_,_,HX.out,by
  have:exL (l.take 0) but=[]:=by unfold exL;split<;>simp
  rw [this];exact HD.out.near NV.out,Kept.refl _ _⟩
 case round=>
  obtain⟨k,hk,rfl,p,q,hbx,hf,hkp⟩:=hrel;obtain⟨y1,y2,y3,y4,e⟩:=hf.form;simp only [qY,za,qJ,and_true]at e;obtain⟨rfl,rfl⟩:=e;have HF:=q8 hf;have HBx:=q8 hbx;have HK:=q8 hkp;have HNw:=q8 (show Near w wr from Kept.mono (Kept.trans NV.out.kept hkp) (fun g hg e=>by have e2:g=w.heap.size+1:=e;omega));clear hf hkp hbx;by_cases hlt:k<l.length
  ·have hlt':(k:Int)<l.length:=by omega
   obtain⟨i,hi⟩: ∃i,l[k]? =some i:=⟨_,qi hlt⟩;have hin:=HIn.out i (qp hi);obtain⟨f,hfi⟩: ∃f,fs[i]? =some f:=⟨_,qi hin⟩;obtain⟨g,o,hvo,hcl⟩: ∃g o,vo=some ⟨g,o,none⟩∧w.cell? ⟨g,o+k,none⟩=some (natV i):=by
    rcases HL.out with⟨-,e⟩|⟨g,o,c,e,hc⟩
    ·rw [e]at hlt;simp at hlt
    ·simp only [qq,true_and]at e
     exact⟨g,o,e.1,hc k i hi⟩
   subst hvo;have q6:wr.cell? ⟨g,o+k,none⟩=some (.int .i64 (i:Nat)):=HNw.out.cell hcl;have hA1:=qQ HK.out HA.out (show¬w.heap.size=w.heap.size+1 by omega);have HSu:=q8 (q3Z but hi);have HApp:=q8 (fun L=>q7u fs d f L hfi);have HRi:=q8 (fun(w':World)(hn:Near wr w')=>HRs.out w' (HNw.out.trans hn) i f hfi);have sOf: ∀w',Near wr w'→w'.cell? ⟨w.heap.size,0,none⟩=some (.slice a1 m.feats.length a2)∧w'.cell? ⟨w.heap.size,1,none⟩=some (.slice b1 m.grps.length b2)∧w'.cell? ⟨w.heap.size,2,none⟩=some (.slice c1 m.atts.length c2)∧w'.cell? ⟨w.heap.size,3,none⟩=some (.slice d1 m.reqs.length d2)∧w'.cell? ⟨w.heap.size,4,none⟩=some (.slice e1 m.lims.length e2)∧w'.cell? ⟨g,o+k,none⟩=some (.int .i64 (i:Nat)):=fun w' h=>by
    obtain⟨z0,z1,z2,z3,z4⟩:=vW hA1 w' h;exact⟨z0,z1,z2,z3,z4,h.cell q6⟩
   have HSOf:=q8 sOf;obtain⟨q0,q1,q2,q3,q4,-⟩:=sOf wr (Near.refl _);clear sOf hA1 hi hfi hcl;go_upto_region 4 with fail
   go_cut [10] (fun s10 wx=> ∃kb p q,s10= .pointer (some ⟨kb,0,none⟩)∧wx.heap[kb]? =some (.cells #[p,q] 43 (0,0))∧IsF wx (.agg #[p,q]) f∧Near wr wx∧wr.heap.size≤kb)
   case first=>
    go_region_held3 (fun w'=>w'.cell? ⟨w.heap.size,0,none⟩=some (.slice a1 m.feats.length a2)∧w'.cell? ⟨w.heap.size,1,none⟩=some (.slice b1 m.grps.length b2)∧w'.cell? ⟨w.heap.size,2,none⟩=some (.slice c1 m.atts.length c2)∧w'.cell? ⟨w.heap.size,3,none⟩=some (.slice d1 m.reqs.length d2)∧w'.cell? ⟨w.heap.size,4,none⟩=some (.slice e1 m.lims.length e2)∧w'.cell? ⟨g,o+k,none⟩=some (.int .i64 (i:Nat)))
     ((refine HSOf.out _ ?_;first|exact jR z1 z1.size _ _|exact jR z1 (qt _) _ _|exact jR (z1.alloc _) z1.size _ _|exact z1|exact z1.alloc _|exact(Near.refl _).drew|exact(Near.refl _).drew.alloc _|exact((Near.refl _).alloc _).drew))
     (first
       |(go_at_call 20;refine(HRi.out _ (by first|exact(Near.refl _).drew|exact((Near.refl _).alloc _).drew|exact(Near.refl _).drew.alloc _)).mono ?_;rintro e w3 ⟨v3,rfl,d3,n3⟩;obtain⟨z2,z3,z4,z5,rfl⟩:=d3.form;have z1:Near wr w3:=(by first|exact(Near.refl _).drew.trans n3|exact((Near.refl _).alloc _).drew.trans n3|exact((Near.refl _).drew.alloc _).trans n3);have D3:=q8 d3;clear d3;try(have hb3:w3.heap[wr.heap.size]? =some (.cells #[.slice none 0 0,.int .i64 0] 43 (0,0)):=qE n3 (heap_new_at rfl);obtain⟨h0,h1,f0,f1⟩:=jc hb3)))
    all_goals
     go_wp2_with fail
     go_meet
     first
      |exact⟨_,_,_,rfl,gI hb3 _ _,yJ D3.out hb3,jR z1 (qt _) _ _,qt _⟩
      |exact⟨_,_,_,rfl,heap_new_at rfl,D3.out.near ((Near.refl _).alloc _),z1.alloc _,z1.size⟩
   case rest=>
    obtain⟨kb,p,q,rfl,hkb,hfx,hnx,hle⟩:=hcut;obtain⟨p1,p2,p3,p4,e⟩:=hfx.form;simp only [qY,za,qJ,and_true]at e;obtain⟨rfl,rfl⟩:=e;have HNx:=q8 hnx;have HFx:=q8 hfx;have HBc:=q8 (qE hnx HBx.out);have HKc:=q8 (Kept.trans HK.out hnx.kept);obtain⟨t0,t1,-,-⟩:=jc hkb;obtain⟨b0,b1,-,-⟩:=jc HBc.out;clear hkb hfx hnx q0 q1 q2 q3 q4 q6;by_cases hb:(k:Int)=but
    ·have hb2:((k:Int) !=but)=false:=bne_eq_false_iff_eq.2 hb
     rw [if_pos hb,zS]at HSu;clear hb;go_wp2_with fail
     exact⟨⟨k+1,hlt,by go_num,_,_,HBc.out,by rw [HSu.out];exact HF.out.near HNx.out,HKc.out⟩,by simp [intOf];omega⟩
    ·have hb2:((k:Int) !=but)=true:=bne_iff_ne.2 hb
     rw [if_neg hb]at HSu;clear hb;go_wp2_with (go_at_call 74;refine(and_f (HF.out.near HNx.out) HFx.out).mono ?_;rintro e w5 ⟨v5,rfl,d5,n5⟩;obtain⟨s1,s2,s3,s4,rfl⟩:=d5.form;have D5:=q8 d5;have N5:=q8 n5;have HB5:=q8 (qE n5 HBc.out);obtain⟨r0,r1,f0,f1⟩:=ym HB5.out;clear d5 n5)
     exact⟨⟨k+1,hlt,by go_num,_,_,gI HB5.out _ _,by rw [HSu.out,HApp.out];exact yJ D5.out HB5.out,Kept.setCell (S:=fun k=>k=w.heap.size+1) (p:=⟨w.heap.size+1,1,none⟩) (Kept.setCell (S:=fun k=>k=w.heap.size+1) (p:=⟨w.heap.size+1,0,none⟩) (Kept.trans HKc.out N5.out.kept) (fun _=>rfl) _) (fun _=>rfl) _⟩,by simp [intOf];omega⟩
  ·obtain rfl:k=l.length:=by omega
   obtain⟨b0,b1,-,-⟩:=jc HBx.out;have hRw:=qQ HK.out HR.out (show¬R=w.heap.size+1 by have:=HRe.out;omega);rw [HRe.out]at hRw;obtain⟨r0,r1,f0,f1⟩:=ym hRw;have HRw:=q8 hRw;rw [qF]at HF;clear hRw;go_wp2_with fail
   obtain⟨t0,t1⟩:=yE HRw.out (.slice y1 y2 y3) (.int .i64 y4);exact qo (v:= .agg #[.slice y1 y2 y3,.int .i64 y4]) (by simp [qC,Tryz.results18,go_sem,t0,t1]) rfl ⟨_,rfl,yJ HF.out HRw.out,jR HNw.out (by omega) _ _⟩
theorem GJ(fs:List F)(c:Nat->Bool): ∀(l:List Nat)(d:F),cj fs d l c=(d c&&l.all fun i=>(fs[i]?.getD fun _=>false) c)
 |[],d=>by simp [cj]
 |i::l,d=>by
  have h:=GJ fs c l (fun c=>d c&& (fs[i]?.getD fun _=>false) c);show cj fs (fun c=>d c&& (fs[i]?.getD fun _=>false) c) l c=_;rw [h,List.all_cons,Bool.and_assoc]
theorem q21(fs:List F)(d:F):Up (enoughB fs d):=fun a b hs ha=>by
 refine kG.2 fun c=> ?_;have h:=kG.1 ha c;rw [GJ]at h⊢;refine zt.2 fun hb=> ?_;rw [Bool.and_eq_true]at hb;rw [hb.1,Bool.true_and]at h
 have:(a.all fun i=>(fs[i]?.getD fun _=>false) c)=true:=qL.2 fun x hx=>qL.1 hb.2 x (hs.subset hx)
 rw [this]at h
 cases h
theorem q48(n:Nat):butL n (-1)=qO n:=List.filter_eq_self.2 fun i _=>decide_eq_true (by omega)
theorem q2D(fs:List F)(c:Nat->Bool):((qO fs.length).all fun i=>(fs[i]?.getD fun _=>false) c)=allF fs c:=by
 unfold allF;rw [Bool.eq_iff_iff,qL,qL];constructor
 .intro h f hf
  obtain⟨i,hi⟩:=List.getElem?_of_mem hf
  have:=h i (yd.2 (qm.1 hi).1)
  rwa [hi]at this
 .intro h i hi
  have hlt:=yd.1 hi;rw [qi hlt];exact h _ (List.getElem_mem hlt)
theorem Gz(fs:List F)(d:F):enoughB fs d (butL fs.length (-1))=nowhere (fun c=>allF fs c&&d c):=by
 unfold enoughB;rw [q48];congr 1;funext c;rw [GJ,q2D,Bool.and_comm]
theorem YH{fs:List F}{d:F}{but:Int}(h:enoughB fs d (butL fs.length but)=true):
 (explL fs d but).Sublist (butL fs.length but)/\nowhere (cj fs d (explL fs d but))=true/\ ∀j,j<(explL fs d but).length->nowhere (cj fs d ((explL fs d but).eraseIdx j))=false:=by
 have e:explL fs d but=shr (enoughB fs d) [] (butL fs.length but):=if_pos h;rw [e];exact J0 (q21 fs d) _ [] h fun j hj=>by simp at hj
theorem GW(n:Nat)(but:Int):(butL n but).Pairwise (· < ·):=List.Pairwise.filter _ List.pairwise_lt_range
theorem q3m(h:l.Pairwise (· < ·)){x y:Nat}(hx:l[i]? =some x)(hy:l[i+1]? =some y):x<y:=by
 obtain⟨h1,rfl⟩:=qm.1 hx;obtain⟨h2,rfl⟩:=qm.1 hy;exact List.pairwise_iff_getElem.1 h i (i+1) h1 h2 (by omega)
end Go.Proofs.YtjcbmcnbdegpmaaGreatDoor
