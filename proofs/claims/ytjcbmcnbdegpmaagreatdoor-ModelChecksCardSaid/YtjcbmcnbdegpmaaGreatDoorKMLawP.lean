/- MName, MRight, MIdx, MOk, MValid, MCheck, MWalk, MOwn, MTimes, MGrpP, MRules, MLawP. -/
import Derived.Test.YtjcbmcnbdegpmaaGreatDoorKMClo
set_option maxRecDepth 100000
set_option maxHeartbeats 12800000
set_option linter.unusedVariables false
open Array renaming getElem?_eq_some_iff->qk
open Bool renaming and_eq_true->qy,eq_false_iff->zt,eq_iff_iff->zq,or_eq_true->yM
open Go.Ending renaming returned->jM
open Go.Lib renaming hid->q8
open Go.Proofs.Mod.Grp renaming members->yq
open Go.Proofs.Tryz renaming prog->qj
open Go.Value.slice renaming injEq->qq
open List renaming all_eq_true->qL,append_assoc->qS,drop_eq_getElem_cons->yz,eq_nil_of_length_eq_zero->zJ,flatMap_append->zC,flatMap_cons->zI,getElem?_eq_getElem->qi,getElem?_eq_some_iff->qm,getElem?_of_mem->qZ,length_append->qn,length_cons->qT,mem_append->qK,mem_cons->qI,mem_cons_of_mem->yw,mem_cons_self->j5,mem_of_getElem?->qp,range->qO,range_succ->jw,take_add_one->qU,take_append_drop->zO,take_length->qF,take_succ_cons->un,take_succ_eq_append_getElem->zM,take_zero->yU
open List.cons renaming injEq->qJ
open Nat renaming zero_add->zz,zero_le->qv
open Go.Value renaming slice->vd,int->ve,string->vf,pointer->vg,agg->vi,bool->vj
open Go.Obj renaming cells->vk
open Go.Ending renaming returned->vm
open Go.IntKind renaming i64->vp,u8->vq,u32->vr,u64->vt
open Or renaming inl->vu,inr->vv
namespace Go.Proofs.YtjcbmcnbdegpmaaGreatDoor
open Go Go.RowKit Go.Proofs.Gen Go.Proofs.Mod
variable{I:Nat->World->Prop}{J:World->Prop}{S:Nat->Prop}{ao:Option Addr}{cap o:Nat}{g:FuncId}{l:List Ex}{lb:Array Value}{s:ByteArray}{w:World}
theorem inWord_calls(c:Nat)(w:World):Calls qj 257 #[ve vq c] w fun e d=>e=vm (vj (wordB c))/\d=w:=by
 obtain⟨b,a⟩: ∃b,b=wordB c:=⟨_,rfl⟩;have f:=q8 (show b=true↔c=95\/(48<=c/\c<=57)\/(97<=c/\c<=122)\/(65<=c/\c<=90) by rw [a];exact JT);rw [<-a];clear a;go_enter Tryz.func257,Tryz.ntmps257;go_wp2
 all_goals
  go_ret;refine⟨congrArg (fun x=>jM (vj x)) (zq.2 ?_),rfl⟩;rw [f.out];simp only [yM,beq_iff_eq,decide_eq_true_eq,true_iff];omega
theorem kidsN_big(h:10<o):kidsN o=(0,false):=by
 unfold kidsN;split<;>first|omega|rfl
theorem kids_calls(o:Nat)(w:World):Calls qj 265 #[ve vq o] w fun e b=>e=vm (.tuple #[ve vp (kidsN o).1,vj (kidsN o).2])/\b=w:=by
 have c:o=0\/o=1\/o=2\/o=3\/o=4\/o=5\/o=6\/o=7\/o=8\/o=9\/o=10\/10<o:=by omega
 rcases c with rfl|rfl|rfl|rfl|rfl|rfl|rfl|rfl|rfl|rfl|rfl|h
 case inr.inr.inr.inr.inr.inr.inr.inr.inr.inr.inr=>
  rw [kidsN_big h];have k: ∀n:Int,n<=10->((o:Int)==n)=false:=fun n q=>beq_eq_false_iff_ne.2 (by omega);have m:=k 1 (by omega);have r:=k 2 (by omega);have j:=k 3 (by omega);have p:=k 4 (by omega);have d:=k 5 (by omega);have l:=k 6 (by omega);have i:=k 7 (by omega);have f:=k 8 (by omega);have g:=k 9 (by omega);have a:=k 10 (by omega);go_enter Tryz.func265,Tryz.ntmps265;go_wp2_with fail
  go_ret2
  exact⟨rfl,rfl⟩
 all_goals
  go_enter Tryz.func265,Tryz.ntmps265;go_wp2_with fail
  go_ret2
  exact⟨rfl,rfl⟩
theorem xE(h:nameB s=true):1<=s.size/\s.size<=32:=by
 unfold nameB at h;simp only [qy,decide_eq_true_eq]at h;exact h.1.1
theorem kQ(s:ByteArray)(w:World):Calls qj 240 #[vf s] w fun e q=>e=vm (vj (nameB s))/\q=w:=by
 by_cases H:s.size<1
 .have g:nameB s=false:=zt.2 fun h=>by have:=xE h;omega
  rw [g];go_enter Tryz.func240,Tryz.ntmps240;go_wp2_with fail
  go_ret;exact⟨rfl,rfl⟩
 .by_cases G:32<s.size
  .have g:nameB s=false:=zt.2 fun h=>by have:=xE h;omega
   rw [g];go_enter Tryz.func240,Tryz.ntmps240;go_wp2_with fail
   go_ret;exact⟨rfl,rfl⟩
  .have r:0<s.size:=by omega
   have o:s.data.toList[0]? =some s[0]:=by rw [qi (by simpa using r)];rfl
   by_cases p:48<=s[0].toNat/\s[0].toNat<=57
   .have g:nameB s=false:=by
     unfold nameB;rw [o];simp [p.1,p.2]
    rw [g];have m:(48:Int)<=s[0].toNat/\(s[0].toNat:Int)<=57:=by omega
    have⟨C,D⟩:=m;clear p o;go_enter Tryz.func240,Tryz.ntmps240;go_wp2_with fail
    go_ret;exact⟨rfl,rfl⟩
   .have g:nameB s=s.data.toList.all fun c=>wordB c.toNat:=by
     unfold nameB;rw [o];have B:decide (1<=s.size)=true:=decide_eq_true (by omega);have y:decide (s.size<=32)=true:=decide_eq_true (by omega);have x:(decide (48<=s[0].toNat)&&decide (s[0].toNat<=57))=false:=by
      rw [Bool.and_eq_false_iff,decide_eq_false_iff_not,decide_eq_false_iff_not];omega
     rw [B,y];simp only [x,Bool.not_false,Bool.true_and]
    obtain⟨b,d⟩: ∃b,b=nameB s:=⟨_,rfl⟩;rw [<-d];rw [g]at d;have u:=q8 d;have z:(s.size:Int)<=32:=by omega
    have m: ¬((48:Int)<=s[0].toNat/\(s[0].toNat:Int)<=57):=by omega
    clear d g o p;go_enter Tryz.func240,Tryz.ntmps240;by_cases C:(48:Int)<=s[0].toNat
    all_goals
     have D:(s[0].toNat:Int)<48\/57<(s[0].toNat:Int):=by omega
     go_wp2_with fail
     all_goals first|(exfalso;omega)|skip
    all_goals
     go_loop [24] (fun i=> ∃k:Nat,k<=s.size/\i=ve vp k/\ ∀c∈s.data.toList.take k,wordB c.toNat=true) (fun i=>s.size - (intOf i).toNat)
     case atStart=>exact⟨0,qv _,rfl,by simp⟩
     case round=>
      obtain⟨k,E,rfl,v⟩:=hrel;have t:=q8 v;clear v;by_cases j:k<s.size
      .have n:s.data.toList.take (k+1)=s.data.toList.take k++[s[k]]:=by rw [zM (by simpa using j)];rfl
       have A:=q8 n;clear n
       cases f:wordB s[k].toNat with
       |false=>
        have a:=q8 f;clear f;go_wp2_with (go_at_call 257;refine(inWord_calls _ _).mono ?_;rintro e q ⟨rfl,rfl⟩;rw [a.out])
        go_ret;refine⟨?_,rfl⟩
        have:b=false:=by
         rw [u.out];refine zt.2 fun h=> ?_
         have:=qL.1 h s[k] (qp (by rw [qi (by simpa using j)];rfl))
         rw [a.out]at this
         cases this
        rw [this];rfl
       |true=>
        have a:=q8 f;clear f;go_wp2_with (go_at_call 257;refine(inWord_calls _ _).mono ?_;rintro e q ⟨rfl,rfl⟩;rw [a.out])
        go_round
        case rel=>
         refine⟨k+1,j,by go_num,fun c l=> ?_⟩;rw [A.out]at l;rcases qK.1 l with l|l
         .exact t c l
         .rw [List.mem_singleton.1 l]
          exact a
        case measure=>simp [intOf];omega
      .go_wp2_with fail
       go_ret;refine⟨?_,rfl⟩
       have:b=true:=by
        rw [u.out,qL];have h:=t.out;rwa [List.take_of_length_le (by simp;omega)]at h
       rw [this];rfl
theorem ZT:s.toList=[]↔s=ByteArray.empty:=by
 rw [ByteArray.toList_eq,<-ByteArray.size_eq_zero_iff];constructor
 .intro h
  have:=congrArg List.length h
  simpa using this
 .intro h
  exact zJ (by simpa using h)
theorem Yr(h:10<o)(s:ByteArray)(k:Nat):jr o s k=false:=by
 unfold jr;split<;>first|omega|rfl
theorem KZ(o:Nat)(s:ByteArray)(ao:Option Addr)(k cap:Nat)(w:World):
 Calls qj 245 #[vi #[ve vq o,vf s,vd ao k cap]] w fun e a=>e=vm (vj (jr o s k))/\Near w a:=by
 have j:o=0\/o=1\/o=2\/o=3\/o=4\/o=5\/o=6\/o=7\/o=8\/o=9\/o=10\/10<o:=by omega
 have f:Near w (w.alloc (vk #[ve vq o,vf s,vd ao k cap] 84)):=(Near.refl w).alloc _;have g:=q8 f;clear f;obtain⟨b,c⟩: ∃b,b=jr o s k:=⟨_,rfl⟩;have d:=q8 c;rw [<-c];clear c;rcases j with rfl|rfl|rfl|rfl|rfl|rfl|rfl|rfl|rfl|rfl|rfl|h
 case inr.inr.inr.inr.inr.inr.inr.inr.inr.inr.inr=>
  rw [Yr h]at d;have i:=q8 h;have l:((o:Int)==3)=false:=beq_eq_false_iff_ne.2 (by omega);clear h;go_enter Tryz.func245,Tryz.ntmps245;go_wp2_with (go_at_call 265;refine(kids_calls _ _).mono ?_;rintro e a ⟨rfl,rfl⟩;rw [kidsN_big i])
  go_ret;exact⟨by rw [d.out];rfl,g⟩
 all_goals
  go_enter Tryz.func245,Tryz.ntmps245;go_wp2_with (first
   |(go_at_call 265;refine(kids_calls _ _).mono ?_;rintro e a ⟨rfl,rfl⟩;simp only [kidsN])
   |(go_at_call 240;refine(kQ _ _).mono ?_;rintro e a ⟨rfl,rfl⟩))
  all_goals
   go_ret;refine⟨congrArg (fun x=>jM (vj x)) (zq.2 ?_),g⟩;rw [d.out];simp [jr,ZT]at*
   try first|omega|exact⟨fun h=>⟨by omega,h⟩,fun h=>h.2⟩
def AskB(I:Nat->World->Prop)(J:World->Prop)(i:Nat)(e:Ending)(w:World):Prop:= ∃b,e= .returned (.bool b)/\(b=false->I (i+1) w)/\(b=true->J w)
def q8q(I:Nat->World->Prop)(J:World->Prop)(n:Nat)(e:Ending)(w:World):Prop:= ∃z:Int,e= .returned (.int .i64 z)/\ -1<=z/\(z<0->I n w)/\(0<=z->J w)
theorem XJ(Y: ∀c w,(callFunc g c).run qj w= .ok (.enter g c) w)
 (H:I 0 w) (R:l.length<4611686018427387904) (y: ∀i d,I i d->RdL S 3 (RdEx S) d (vd ao l.length cap) l)
 (E: ∀i x s d,l[i]? =some x->I i d->RdEx S d s x->Calls qj g (#[vi s.toArray]++lb) d (AskB I J i)):
 Calls qj 266 #[vd ao l.length cap,.func (.func g) #[] lb] w (q8q I J l.length):=by
 have D:=q8 E;have B:=q8 y;have O:=q8 H;go_enter Tryz.func266,Tryz.ntmps266;go_wp2_with fail
 go_loopw [8] (fun i wr=> ∃k:Nat,k<=l.length/\i=ve vp k/\I k wr) (fun i _=>l.length - (intOf i).toNat)
 case atStart=>exact⟨0,qv _,rfl,O⟩
 case round=>
  obtain⟨k,V,rfl,L⟩:=hrel;have m:=q8 L;by_cases j:k<l.length
  .have A:(k:Int)<l.length:=by omega
   obtain⟨x,C⟩: ∃x,l[k]? =some x:=⟨_,qi j⟩;have⟨r,f,e,G⟩:=B k wr m;have⟨b,o,s,n,hS,a,z⟩:=G k x C;have u:=z;have⟨M,nm,U⟩:=x;obtain⟨sv,rfl,N⟩:=z.inv;obtain⟨Z,Q,rfl⟩:=N.form;simp only [qq,true_and]at e;obtain⟨rfl,rfl⟩:=e;subst n;have X:wr.cell? (vw b (o+k*3))=some (ve vq M):=a 0 _ rfl;have c1:=a 1 _ rfl;have W:=a 2 _ rfl;have P:=q8 (D k _ _ wr C m u);go_wp2_with fail
   refine P.mono ?_;rintro e w2 ⟨K,rfl,v,t⟩;have q:=q8 v;have p:=q8 t
   cases K with
   |false=>
    go_wp2_with fail
    exact⟨⟨k+1,j,by go_num,q trivial⟩,by simp [intOf];omega⟩
   |true=>
    go_wp2_with fail
    go_ret;exact⟨(k:Int),rfl,by omega,fun h=>by omega,fun _=>p trivial⟩
  .obtain rfl:k=l.length:=by omega
   obtain⟨r,f,e,-⟩:=B _ wr m;go_wp2_with fail
   go_ret;exact⟨(-1:Int),rfl,by omega,fun _=>m,fun h=>by omega⟩
def q8r(I:Nat->World->Prop)(J:World->Prop)(n:Nat)(e:Ending)(w:World):Prop:= ∃b,e= .returned (.bool b)/\(b=false->I n w)/\(b=true->J w)
theorem ZR(r: ∀a w,(callFunc g a).run qj w= .ok (.enter g a) w)
 (n:I 0 w) (p:l.length<4611686018427387904) (j: ∀i b,I i b->RdL S 3 (RdEx S) b (vd ao l.length cap) l)
 (o: ∀i x m b,l[i]? =some x->I i b->RdEx S b m x->Calls qj g (#[vi m.toArray]++lb) b (AskB I J i)):
 Calls qj 246 #[vd ao l.length cap,.func (.func g) #[] lb] w (q8r I J l.length):=by
 have H:=q8 (XJ r n p j o);go_enter Tryz.func246,Tryz.ntmps246;go_wp2_with (go_at_call 266;refine H.mono ?_;rintro e s ⟨z,rfl,q,f,c⟩;have k:=q8 f;have d:=q8 c)
 go_ret;exact⟨decide (0<=z),rfl,fun h=>k (by have:=of_decide_eq_false h;omega),fun h=>d (of_decide_eq_true h)⟩
end Go.Proofs.YtjcbmcnbdegpmaaGreatDoor
namespace Go.Proofs.Mod
open Go Ex
variable{L:Int}{e k:Ex}{i lev o:Nat}{l:List Ex}{n:ByteArray}
theorem Ex.sizes_append: ∀a b:List Ex,sizes (a++b)=sizes a+sizes b
 |[],b=>by simp [sizes]
 |e::a,b=>by simp [sizes,Ex.sizes_append a b];omega
theorem Ex.sizes_take(h:l[i]? =some k):sizes (l.take (i+1))=sizes (l.take i)+k.size:=by
 rw [qU,h,Ex.sizes_append];simp [sizes]
theorem Ex.sizes_le(l:List Ex)(i:Nat):sizes (l.take i)<=sizes l:=by
 conv=>rhs;rw [<-zO i l,Ex.sizes_append]
 omega
theorem Ex.len_le: ∀l:List Ex,l.length<=sizes l
 |[]=>Nat.le_refl _
 |e::l=>by
  have:=size_pos e
  have:=Ex.len_le l
  simp [sizes];omega
theorem Ex.rows_mem: ∀{l:List Ex}{e:Ex},e∈rows l↔ ∃k∈l,e∈k.row
 |[],e=>by simp [rows]
 |k::l,e=>by simp [rows,Ex.rows_mem (l:=l)]
theorem Ex.most_le: ∀{l:List Ex}{n:Nat},most l<=n↔ ∀k∈l,k.levels<=n
 |[],n=>by simp [most]
 |k::l,n=>by simp [most,Ex.most_le (l:=l),Nat.max_le]
def okT(e:Ex)(lev:Nat)(L:Int):Prop:=(∀x∈e.row,rightB x=true)/\e.levels<=lev/\(e.size:Int)<=L
theorem gP:okT e 64 1000↔validB e=true:=by
 unfold okT validB;simp only [qy,qL,decide_eq_true_eq];constructor
 .rintro⟨a,b,c⟩;exact⟨⟨a,by omega⟩,b⟩
 .rintro⟨⟨a,b⟩,c⟩;exact⟨a,c,by omega⟩
theorem q5T(h:okT (.mk o n l) (lev+1) L)(b:l[i]? =some k):okT k lev (L - 1 - (sizes (l.take i):Nat)):=by
 have⟨c,d,e⟩:=h;have a:k∈l:=qp b;refine⟨fun x f=>c x ?_,?_,?_⟩
 .simp only [row,qI]
  exact vv (Ex.rows_mem.2 ⟨k,a,f⟩)
 .have:=YA a
  simp only [levels]at d;omega
 .have g:=Ex.sizes_take b
  have j:=Ex.sizes_le l (i+1);simp only [size]at e;omega
theorem q5U(f:rightB (.mk o n l)=true)(j:0<=L - 1)(h: ∀i k,l[i]? =some k->okT k lev (L - 1 - (sizes (l.take i):Nat))):okT (.mk o n l) (lev+1) L:=by
 refine⟨fun x a=> ?_,?_,?_⟩
 .simp only [row,qI]at a
  rcases a with rfl|a
  .exact f
  .have⟨k,b,a⟩:=Ex.rows_mem.1 a
   have⟨i,c⟩:=qZ b;exact(h i k c).1 x a
 .simp only [levels]
  have:most l<=lev:=Ex.most_le.2 fun k b=>by
   have⟨i,c⟩:=qZ b;exact(h i k c).2.1
  omega
 .simp only [size]
  rcases Nat.eq_zero_or_pos l.length with d|d
  .have:l=[]:=zJ d
   subst this;simp [sizes];omega
  .have b:l[l.length - 1]? =some l[l.length - 1]:=qi (by omega)
   have g:=(h _ _ b).2.2;have e:=Ex.sizes_take b;rw [show l.length - 1+1=l.length from by omega,qF]at e;omega
theorem q5R(a:l[i]? =some k)(h: ¬okT k lev (L - 1 - (sizes (l.take i):Nat))): ¬okT (.mk o n l) (lev+1) L:=fun b=>h (q5T b a)
theorem q3E(h:L - 1<0): ¬okT e lev L:=fun a=>by have:=size_pos e;have:=a.2.2;omega
theorem q5S: ¬okT e 0 L:=fun h=>by
 have⟨o,n,l⟩:=e
 have:=h.2.1
 simp [levels]at this
theorem q1c(h:rightB e=false): ¬okT e lev L:=fun a=>by
 have⟨o,n,l⟩:=e
 have:=a.1 (.mk o n l) (by simp [row])
 rw [h]at this
 cases this
end Go.Proofs.Mod
namespace Go.Proofs.YtjcbmcnbdegpmaaGreatDoor
open Go Go.RowKit Go.Proofs.Gen Go.Proofs.Mod
variable{S:Nat->Prop}{b:Nat}{vs:List Value}{w:World}{x:Ex}
def ValidPost(x:Ex)(lev:Nat)(L:Int)(b:Nat)(w:World)(e:Ending)(w':World):Prop:=
 ∃r L',e= .returned (.bool r)/\w'.heap[b]? =some (.cells #[.int .i64 L'] 3 (0,0))/\ -1<=L'/\L'<=L/\(r=true↔okT x lev L)/\(r=true->L'=L - (x.size:Nat))/\Kept (fun g=>g=b) w w'
theorem qQ{w':World}(h:Kept S w w'){k:Nat}{o:Obj}(a:w.heap[k]? =some o)(b: ¬S k:=by exact id):w'.heap[k]? =some o:=(h.block k (qk.1 a).1 b).trans a
theorem box_one{u:Value}{t:TypeId}(h:w.heap[b]? =some (vk #[u] t (0,0)))(v:Value):(w.setCell b v).heap[b]? =some (vk #[v] t (0,0)):=by
 have:=qz h 0 v
 simpa using this
theorem JX{lev:Nat}{L:Int}{i l:Nat}(k:1<=lev)(f:lev<=64)(H:w.heap[i]? =some (vk #[ve vp lev] 3 (0,0)))(v:w.heap[l]? =some (vk #[vg b] 281 (0,0)))(u:RdEx S w vs x)
 (E: ∀c,Near w c->Calls qj 212 #[vi vs.toArray,ve vp ((lev - 1:Nat):Int),vg b] c (ValidPost x (lev - 1) L b c)):
 Calls qj 247 (#[vi vs.toArray]++ #[vg i,vg l]) w fun e c=> ∃r a,e=vm (vj r)/\c.heap[b]? =some (vk #[ve vp a] 3 (0,0))/\ -1<=a/\a<=L/\(r=false↔okT x (lev - 1) L)/\(r=false->a=L - (x.size:Nat))/\Kept (fun g=>g=b) w c:=by
 have⟨N,K,s⟩:=x;obtain⟨V,rfl,M⟩:=u.inv;obtain⟨B,p,rfl⟩:=M.form;have m:=q8 E;have d:Near w (w.alloc (vk #[ve vq N,vf K,vd B s.length p] 84)):=(Near.refl w).alloc _;have j:=q8 d;have U:=cell1 (o:=0) (qQ d H) rfl;have R:=cell1 (o:=0) (qQ d v) rfl;have C:(1:Int)<=lev:=by omega
 have D:(lev:Int)<=64:=by omega
 have y:((lev - 1:Nat):Int)=(lev:Int) - 1:=by omega
 rw [y]at m;go_enter Tryz.func247,Tryz.ntmps247;go_wp2_with (go_at_call 212;refine(m _ j).mono ?_;rintro e Q ⟨r,a,rfl,I,G,O,P,t,z⟩;have A:=q8 I;have n:=q8 P;have q:=q8 t;have J:=q8 z)
 go_ret;exact⟨!r,a,rfl,A,G,O,by rw [<-n.out];cases r<;>simp,fun h=>q (by cases r<;>simp_all),(j.kept).trans J⟩
theorem XM: ∀(x:Ex){S:Nat→Prop}{w:World}{vs:List Value}{lev:Nat}{L:Int}{b:Nat},RdEx S w vs x→(∀g,S g→g≠b)→w.heap[b]? =some (vk #[ve vp L] 3 (0,0))→lev≤64→0≤L→L≤1000→x.size<4611686018427387904→
 Calls qj 212 #[vi vs.toArray,ve vp lev,vg b] w (ValidPost x lev L b w):=by
 refine Ex.ind fun s q a ih=> ?_
 intro S w vs lev L b U hS P Y a6 az ah
 obtain⟨sv,rfl,hs⟩:=U.inv
 obtain⟨C,D,rfl⟩:=hs.form
 have ag:=q8 ih
 have am:=(qk.1 P).1
 have hW: ∀W,W=((w.alloc (vk #[ve vq s,vf q,vd C a.length D] 84)).alloc (vk #[ve vp lev] 3)).alloc (vk #[vg b] 281)→Near w W∧W.heap[w.heap.size]? =some (vk #[ve vq s,vf q,vd C a.length D] 84 (0,0))∧W.heap[w.heap.size+1]? =some (vk #[ve vp lev] 3 (0,0))∧W.heap[w.heap.size+1+1]? =some (vk #[vg b] 281 (0,0)):=by
  rintro W rfl
  refine⟨(((Near.refl w).alloc _).alloc _).alloc _,?_,?_,heap_new_at (by simp)⟩
  ·rw [qD (by simp<;>omega),qD (by simp),heap_new_at rfl]
  ·rw [qD (by simp),heap_new_at (by simp)]
 have a1:L - 1≤1000:=by omega
 have a5: -1≤L - 1:=by omega
 go_enter Tryz.func212,Tryz.ntmps212
 go_upto_region 1 with fail
 have O:=hW _ rfl
 generalize((w.alloc (vk #[ve vq s,vf q,vd C a.length D] 84)).alloc (vk #[ve vp lev] 3)).alloc (vk #[vg b] 281)=W at O⊢
 have⟨hN,hE,au,hP⟩:=O
 have H:=qQ hN P
 have p0:=cell1 (o:=0) hP rfl
 have b0:=cell1 (o:=0) H rfl
 have bf:=zQ H 0
 have HK:Hid (∀u,u=W.setCell b (ve vp (L - 1))→Kept (fun g=>g=b) W u∧u.heap[b]? =some (vk #[ve vp (L - 1)] 3 (0,0))):=q8 (by
  rintro u rfl
  exact⟨Kept.setCell (S:=fun g=>g=b) (Kept.refl _ _) (p:=b) (fun _=>rfl) _,box_one H _⟩)
 have HN:=q8 hN
 have HE:=q8 hE
 have aw:=q8 au
 have HP:=q8 hP
 have HS:=q8 hS
 have HV:=q8 U
 have a2:b<w.heap.size:=am
 go_upto_region 2 with fail
 have h4:=HK _ rfl
 generalize W.setCell b (ve vp (L - 1))=u at h4⊢
 have⟨A,Q⟩:=h4
 have m:=q8 (HN.kept.trans A:Kept (fun g=>g=b) w u)
 have e4:=qQ A HE (by omega)
 have l4:=qQ A aw (by omega)
 have p4:=qQ A HP (by omega)
 have z:=q8 Q
 have al:=q8 l4
 have aq:=q8 p4
 obtain⟨c0,c1,c2⟩:u.cell? w.heap.size=some (ve vq s)∧u.cell? (vw w.heap.size 1)=some (vf q)∧u.cell? (vw w.heap.size 2)=some (vd C a.length D):=⟨cell1 e4 rfl,cell1 e4 rfl,cell1 e4 rfl⟩
 have l0:=cell1 (o:=0) l4 rfl
 have a4:=cell1 (o:=0) p4 rfl
 have a0:=cell1 (o:=0) Q rfl
 have ar:=q8 e4
 by_cases hz:lev=0
 ·subst hz
  go_wp2_with fail
  go_ret
  exact⟨false,L - 1,rfl,z,by omega,by omega,by simp [q5S],(fun h=>by cases h),m⟩
 ·have ay:((lev:Int)==0)=false:=beq_eq_false_iff_ne.2 (by omega)
  by_cases ad:L - 1<0
  ·go_wp2_with fail
   go_ret
   exact⟨false,L - 1,rfl,z,by omega,by omega,by simp [q3E ad],(fun h=>by cases h),m⟩
  ·obtain⟨c,rfl⟩: ∃c,lev=c+1:=⟨lev - 1,by omega⟩
   have HR:=q8 (KZ s q C a.length D u)
   cases hr:jr s q a.length with
   |false=>
    rw [hr]at HR
    have K:Hid (rightB (.mk s q a)=false):=hr
    go_wp2_with (go_at_call 245;refine HR.mono ?_;rintro e N ⟨rfl,n5⟩;have d:=q8 n5)
    go_ret
    exact⟨false,L - 1,rfl,qQ d z,by omega,by omega,by simp [q1c K],(fun h=>by cases h),m.trans d.kept⟩
   |true=>
    rw [hr]at HR
    have K:Hid (rightB (.mk s q a)=true):=hr
    go_upto_region 4 with(go_at_call 245;refine HR.mono ?_;rintro e N ⟨rfl,n5⟩;have d:=q8 n5;have aj:=qQ n5 ar)
    have g2:N.cell? (vw w.heap.size 2)=some (vd C a.length D):=cell1 aj rfl
    have R:a.length<4611686018427387904:=by
     have:=Ex.len_le a
     simp only [Ex.size]at ah
     omega
    have Z: ∀n,Kept (fun g=>g=b) N n→RdL S 3 (RdEx S) n (vd C a.length D) a:=fun n t=>by
     have⟨v,e,h⟩:=HV.inv
     simp only [qJ,and_true,true_and]at e
     rw [e]
     have aa:=(m.trans d.kept).trans t
     exact h.kept aa (fun g hg P=>HS g hg P) (fun _ h=>h) (fun vs x y=>y.kept aa (fun g hg P=>HS g hg P) (fun _ h=>h))
    have X:=ZR (w:=N) (l:=a) (ao:=C) (cap:=D) (g:=247) (lb:= #[vg (vw (w.heap.size+1) 0),vg (vw (w.heap.size+1+1) 0)]) (j3 Tryz.func247 (by kernel_rfl) rfl)
     (I:=fun i n=>Kept (fun g=>g=b) N n∧n.heap[b]? =some (vk #[ve vp (L - 1 - (Ex.sizes (a.take i):Nat))] 3 (0,0))∧0≤L - 1 - (Ex.sizes (a.take i):Nat)∧ ∀j k,j<i→a[j]? =some k→okT k c (L - 1 - (Ex.sizes (a.take j):Nat)))
     (J:=fun n=> ¬okT (.mk s q a) (c+1) L∧ ∃M,n.heap[b]? =some (vk #[ve vp M] 3 (0,0))∧ -1≤M∧M≤L∧Kept (fun g=>g=b) N n)
     ⟨Kept.refl _ _,by simp only [yU,Ex.sizes];simpa using qQ d z,by simp [Ex.sizes];omega,fun j k hj=>by omega⟩ R (fun i n hI=>Z n hI.1)
     (fun i x vs n y hI U=>by
       have⟨t,f,O,G⟩:=hI
       have hm:x∈a:=qp y
       have a3:=Ex.sizes_le a (i+1)
       have ak:=Ex.sizes_take y
       have af:(Ex.mk s q a).size=Ex.sizes a+1:=rfl
       refine(JX (lev:=c+1) (L:=L - 1 - (Ex.sizes (a.take i):Nat)) (b:=b) (by omega) Y (qQ t (qQ d al) (by omega)) (qQ t (qQ d aq) (by omega)) U (fun av hn=> ?_)).mono ?_
       ·exact ag x hm (U.kept hn (fun _ _ h=>h) (fun _ h=>h)) HS (qQ hn f) (by omega) O (by omega) (by omega)
       ·rintro e av ⟨r,M,rfl,q0,q1,q2,q3,q4,q5⟩
        refine⟨r,rfl,fun h=> ?_,fun h=> ?_⟩
        ·have B:=q3.1 h
         have ai:=q4 h
         refine⟨t.trans q5,by rw [q0,ai,ak];congr 5;omega,by have:=B.2.2;omega,fun j k hj E=> ?_⟩
         by_cases e:j=i
         ·subst e
          rw [y]at E
          cases E
          exact B
         ·exact G j k (by omega) E
        ·have B: ¬okT x c (L - 1 - (Ex.sizes (a.take i):Nat)):=fun h'=>by
          have:=q3.2 h'
          rw [h]at this
          cases this
         exact⟨q5R y B,M,q0,q1,by omega,t.trans q5⟩)
    have ab:=q8 X
    go_wp2_with (go_at_call 246;refine ab.mono ?_;rintro e w6 ⟨r,rfl,ax,an⟩;have ap:=q8 ax;have ae:=q8 an)
    go_ret
    cases r with
    |false=>
     have⟨t,f,O,G⟩:=ap rfl
     rw [qF]at f O
     have y:okT (.mk s q a) (c+1) L:=q5U K (by omega) fun i k V=>G i k (qm.1 V).1 V
     have af:(Ex.mk s q a).size=Ex.sizes a+1:=rfl
     exact⟨true,_,rfl,f,by omega,by omega,by simp [y],fun _=>by omega,(m.trans d.kept).trans t⟩
    |true=>
     have⟨y,M,f,q1,q2,t⟩:=ae rfl
     exact⟨false,M,rfl,f,q1,q2,by simp [y],(fun h=>by cases h),(m.trans d.kept).trans t⟩
theorem kL(m:RdEx S w vs x)(u: ∀g,S g->g<w.heap.size)(j:x.size<4611686018427387904):Calls qj 165 #[vi vs.toArray] w fun e q=>e=vm (vj (validB x))/\Near w q:=by
 have⟨c,b,a⟩:=x;obtain⟨I,rfl,y⟩:=m.inv;obtain⟨i,d,rfl⟩:=y.form;have p: ∀W,W=(w.alloc (vk #[ve vq c,vf b,vd i a.length d] 84)).alloc (vk #[ve vp 1000] 3)->Near w W/\W.heap[w.heap.size+1]? =some (vk #[ve vp 1000] 3 (0,0)):=by
  rintro W rfl;exact⟨((Near.refl w).alloc _).alloc _,heap_new_at (by simp)⟩
 have l:=q8 p;have B:=q8 (show∀W,W=(w.alloc (vk #[ve vq c,vf b,vd i a.length d] 84)).alloc (vk #[ve vp 1000] 3)->Calls qj 212 #[vi #[ve vq c,vf b,vd i a.length d],ve vp 64,vg (vw (w.heap.size+1) 0)] W (ValidPost (.mk c b a) 64 1000 (w.heap.size+1) W)from fun W f=>by
  have⟨z,n⟩:=l W f;exact XM (.mk c b a) (lev:=64) (L:=1000) (m.kept z (fun _ _ h=>h) (fun _ h=>h)) (fun g s=>by have:=u g s;omega) n (by omega) (by omega) (by omega) j)
 go_enter Tryz.func165,Tryz.ntmps165;go_wp2_with (go_at_call 212;refine(B _ rfl).mono ?_;rintro e C ⟨r,E,rfl,n,H,J,A,G,t⟩;have o:=q8 A;have v:=q8 t)
 go_ret;refine⟨?_,?_⟩
 .have:r=validB (.mk c b a):=zq.2 (o.trans gP)
  rw [this];rfl
 .exact Kept.mono ((l _ rfl).1.kept.trans v) (fun k D e=>by have e:k=w.heap.size+1:=e;omega)
end Go.Proofs.YtjcbmcnbdegpmaaGreatDoor
namespace Go.Proofs.Mod
open Go
section
variable {α:Type}
def eachFrom(g:Nat->α->Nat):Nat->List α->Nat
 |_,[]=>0
 |i,x::l=>if g i x=0 then eachFrom g (i+1) l else g i x
def eachE(most:Nat)(g:Nat->α->Nat)(l:List α):Nat:=if most<l.length then 5 else eachFrom g 0 l
theorem ue(g:Nat->α->Nat): ∀(l:List α)(i k:Nat),(∀j x,j<k->l[j]? =some x->g (i+j) x=0)->eachFrom g i l=eachFrom g (i+k) (l.drop k)
 |l,i,0,_=>rfl
 |[],i,k+1,_=>rfl
 |x::l,i,k+1,h=>by
  have a:=h 0 x (by omega) rfl;have c:=ue g l (i+1) k fun j y d b=>by
   have:=h (j+1) y (by omega) b
   rwa [show i+(j+1)=i+1+j from by omega]at this
  rw [Nat.add_zero]at a;show(if g i x=0 then eachFrom g (i+1) l else g i x)=_;rw [if_pos a,c,show i+1+k=i+(k+1)from by omega];rfl
theorem j0{g:Nat->α->Nat}{l:List α}{k:Nat}{x:α}(h: ∀j y,j<k->l[j]? =some y->g j y=0)(a:l[k]? =some x)(c:g k x≠0):eachFrom g 0 l=g k x:=by
 rw [ue g l 0 k fun j y e d=>by rw [zz];exact h j y e d];have b:=(qm.1 a).1
 have:l.drop k=x::l.drop (k+1):=by
  rw [yz b];rw [qi b]at a
  cases a;rfl
 rw [this,zz];show(if g k x=0 then _ else g k x)=_;rw [if_neg c]
theorem jh{g:Nat->α->Nat}{l:List α}(h: ∀j y,l[j]? =some y->g j y=0):eachFrom g 0 l=0:=by
 rw [ue g l 0 l.length fun j y _ a=>by rw [zz];exact h j y a,List.drop_length];rfl
theorem ud{g:Nat->α->Nat}: ∀{l:List α}{i:Nat},eachFrom g i l=0-> ∀j y,l[j]? =some y->g (i+j) y=0
 |x::l,i,h,j,y,a=>by
  unfold eachFrom at h;split at h
  .rename_i b
   cases j with
   |zero=>cases a;exact b
   |succ j=>
    have:=ud h j y a
    rwa [show i+(j+1)=i+1+j from by omega]
  .contradiction
end
def firstE:List Nat->Nat
 |[]=>0
 |e::l=>if e=0 then firstE l else e
def freshE(l:List ByteArray)(s:ByteArray):Nat:=if nameB s=true then(if hasN l s=true then 7 else 0)else 6
def kindB(i:Nat)(f:xM):Bool:=if i=0 then decide (f.kind=1)&&decide (f.parent= -1)else decide (2<=f.kind)&&decide (f.kind<=4)&&decide (0<=f.parent)&&decide (f.parent<i)
def featE(names:List ByteArray)(i:Nat)(f:xM):Nat:=if freshE (names.take i) f.name=0 then(if kindB i f=true then 0 else 2)else freshE (names.take i) f.name
def takenTo(l:List Grp)(i:Nat):List Int:=(l.take i).flatMap yq
def vL(n:Nat)(g:Grp):Bool:=decide (0<=g.parent)&&decide (g.parent<n)&&decide (0<g.members.length)&&decide (0<=g.low)&&decide (g.low<=g.high)&&decide (g.high<=g.members.length)
def q3H(fs:List xM)(p:Int)(taken:List Int)(k:Int):Bool:=decide (0<=k)&& (match fs[k.toNat]? with|some f=>decide (f.kind=4)&&decide (f.parent=p)|none=>false)&& !taken.contains k
def vJ(fs:List xM)(p:Int):List Int->List Int->Bool
 |_,[]=>true
 |taken,k::l=>q3H fs p taken k&&vJ fs p (taken++[k]) l
def grpE(m:Mod)(i:Nat)(g:Grp):Nat:=if(vL m.feats.length g&&vJ m.feats g.parent (takenTo m.grps i) g.members)=true then 0 else 2
def inB(l:List Grp)(i:Nat):Bool:=l.any fun g=>g.members.contains (i:Int)
def loneE(l:List Grp)(i:Nat)(f:xM):Nat:=if(decide (f.kind=4)&& !inB l i)=true then 2 else 0
def costB(x:Int):Bool:=decide (-2147483648<=x)&&decide (x<=2147483648)
def attE(m:Mod)(i:Nat)(a:Att):Nat:=if freshE ((m.atts.map Att.name).take i) a.name=0 then(if(decide (a.values.length=m.feats.length)&&a.values.all costB)=true then 0 else 2)else freshE ((m.atts.map Att.name).take i) a.name
def reqE(names:List ByteArray)(x:Ex):Nat:=if validB x=true then(if(usedL x).all (hasN names)=true then 0 else 6)else 2
def Qq(n:Nat)(l:Lim):Bool:=decide (0<=l.att)&&decide (l.att<n)&&decide (1<=l.rel)&&decide (l.rel<=3)
def chk(m:Mod):Nat:=
 if m.feats.length=0 then 2 else
 firstE [eachE 24 (featE m.names) m.feats,eachE 24 (grpE m) m.grps,eachFrom (loneE m.grps) 0 m.feats,eachE 8 (attE m) m.atts,eachE 64 (fun _=>reqE m.names) m.reqs,eachE 16 (fun _ l=>if Qq m.atts.length l=true then 0 else 2) m.lims]
def rulesOf(m:Mod):List (Nat×Nat):=
 (1,0)::(((qO (m.feats.length - 1)).flatMap fun i=>(2,i+1)::if(m.feats[i+1]?.map xM.kind)=some 2 then [(3,i+1)]else [])++
  ((qO m.grps.length).flatMap fun i=>[(4,i),(5,i)])++((qO m.reqs.length).map fun i=>(6,i))++((qO m.lims.length).map fun i=>(7,i)))
end Go.Proofs.Mod
namespace Go.Proofs.YtjcbmcnbdegpmaaGreatDoor
open Go Go.RowKit Go.Proofs.Gen Go.Proofs.Mod
variable{B a e k n:Nat}{v:Value}{w w':World}
def Fr(B:Nat)(w w':World):Prop:=Kept (fun g=>B<=g/\ ∀cs fr,w.heap[g]? ≠some (.cells cs 84 fr)) w w'
theorem Fr.near(h:Near w w'):Fr B w w':=h.kept
theorem Fr.trans{a b c:World}(h:Fr B a b)(k:Fr B b c):Fr B a c:=by
 refine Kept.trans h (Kept.mono k fun g l d=>⟨d.1,fun j i e=> ?_⟩);have f:=(qk.1 e).1
 have:=h.block g f (fun d=>d.2 j i e)
 exact d.2 j i (this.trans e)
theorem Fr.box{cs:Array Value}{a:Nat×Nat}(h:Fr B w w')(b:w.heap[k]? =some (vk cs 84 a)):w'.heap[k]? =some (vk cs 84 a):=qQ h b fun c=>c.2 cs a b
theorem Fr.low(h:Fr B w w'):Kept (fun g=>B<=g) w w':=Kept.mono h fun _ _ a=>a.1
theorem Fr.one(h:Kept (fun g=>g=a) w w')(b:B<=a)(d: ∀f c,w.heap[a]? ≠some (vk f 84 c)):Fr B w w':=Kept.mono h fun g _ e=>by cases e;exact⟨b,d⟩
theorem zY{base b:Nat}{j:List Value}(h:w.ownsRow base e b v n j)(c:v.ownBlock=some k):base<=k/\ ∃a l,w.heap[k]? =some (vk a e l):=by
 rcases h.2 with⟨rfl,_⟩|⟨g,f,a,rfl,d,i,_⟩
 .cases c
 .cases c
  exact⟨d,a,_,i⟩
theorem Fr.row{i:List Value}(h:w.ownsRow B e a v n i)(g:w.grownBy w' v.ownBlock)(l:e≠84):Fr B w w':=by
 refine Kept.grown (Kept.refl _ w) g fun k f _=> ?_;have⟨c,d,p,m⟩:=zY h f;refine⟨c,fun o j b=> ?_⟩;rw [m]at b
 cases b;exact l rfl
structure q7y(S:Nat->Prop)(B M:Nat)(g:FuncId)(lb:Array Value)(I:List Ex->World->Prop):Prop where
 enters: ∀args w,(callFunc g args).run qj w= .ok (.enter g args) w
 low: ∀b,S b->b<B
 near: ∀d w w',I d w->Near w w'->I d w'
 step: ∀d x vs w,d.length<M->x.name.size<=maxLen->I d w->RdEx S w vs x->Calls qj g (#[.agg vs.toArray]++lb) w fun e w'=>e= .returned (.tuple #[])/\I (d++[x]) w'/\Fr B w w'
theorem Ex.rows_take{l:List Ex}{i:Nat}{k:Ex}(h:l[i]? =some k):Ex.rows (l.take (i+1))=Ex.rows (l.take i)++k.row:=by
 have c: ∀a b:List Ex,Ex.rows (a++b)=Ex.rows a++Ex.rows b:=by
  intro a b;induction a with
  |nil=>rfl
  |cons e a d=>simp [Ex.rows,d]
 rw [qU,h,c];simp [Ex.rows]
theorem WA{S:Nat→Prop}{M:Nat}{g:FuncId}{lb:Array Value}{I:List Ex→World→Prop}(hT:q7y S B M g lb I): ∀(x:Ex){w:World}{vs:List Value}{d:List Ex},I d w→RdEx S w vs x→x.size<4611686018427387904→d.length+x.size≤M→(∀y∈x.row,y.name.size≤maxLen)→
 Calls qj 213 #[vi vs.toArray,.func (.func g) #[] lb] w fun e H=>e=vm (.tuple #[])∧I (d++x.row) H∧Fr B w H:=by
 have A:=q8 hT;have eg:=hT.enters;refine Ex.ind fun n m a ih=> ?_;intro w vs d hI q s P Z;obtain⟨sv,rfl,hs⟩:=q.inv;obtain⟨r,z,rfl⟩:=hs.form;have O:=q8 ih;have ad:a.length<4611686018427387904:=by
  have:=Ex.len_le a
  simp only [Ex.size]at s;omega
 have l: ∀k∈a,k.size<4611686018427387904:=fun k hk=>by
  have:=Ex.sizes_mem hk
  simp only [Ex.size]at s;omega
 have X:=q8 l;have u:=q8 P;have p:=q8 Z;have hW: ∀W,W=w.alloc (vk #[ve vq n,vf m,vd r a.length z] 84)→Near w W∧W.heap[w.heap.size]? =some (vk #[ve vq n,vf m,vd r a.length z] 84 (0,0)):=by
  rintro W rfl;exact⟨(Near.refl w).alloc _,heap_new_at rfl⟩
 have HI:=q8 hI;have HV:=q8 q;go_enter Tryz.func213,Tryz.ntmps213;go_upto_region 1 with fail
 have h0:=hW _ rfl;generalize w.alloc (vk #[ve vq n,vf m,vd r a.length z] 84)=W at h0⊢;have⟨K,G⟩:=h0;obtain⟨c0,c1,c2⟩:W.cell? w.heap.size=some (ve vq n)∧W.cell? (vw w.heap.size 1)=some (vf m)∧W.cell? (vw w.heap.size 2)=some (vd r a.length z):=⟨cell1 G rfl,cell1 G rfl,cell1 G rfl⟩;have HN:=q8 K;have HE:=q8 G;have HC:=q8 (A.step d _ _ W (by have:=u.out;have:=Ex.size_pos (.mk n m a);omega) (p (.mk n m a) (by simp [Ex.row])) (A.near _ _ _ HI K) (HV.kept K (fun _ _ h=>h) (fun _ h=>h)));go_wp2_with fail
 refine HC.mono ?_;rintro e w1 ⟨rfl,i1,f1⟩;have U:=q8 i1;have N:=q8 (Fr.trans (Fr.near HN) f1);have Y:=f1.box HE;have g2:w1.cell? (vw w.heap.size 2)=some (vd r a.length z):=cell1 Y rfl;go_wp2_with fail
 go_loopw [12] (fun i wr=> ∃k:Nat,k≤a.length∧i=ve vp k∧I ((d++[.mk n m a])++Ex.rows (a.take k)) wr∧Fr B w wr) (fun i _=>a.length - (intOf i).toNat)
 case atStart=>exact⟨0,qv _,rfl,by simpa [Ex.rows]using U.out,N⟩
 case round=>
  obtain⟨k,hk,rfl,hi,hf⟩:=hrel;have C:=q8 hi;have j:=q8 hf;by_cases t:k<a.length
  ·have ae:(k:Int)<a.length:=by omega
   obtain⟨x,E⟩: ∃x,a[k]? =some x:=⟨_,qi t⟩;have⟨v,e,D⟩:=HV.inv;simp only [qJ,and_true,true_and]at e;subst e;have⟨al,af,e,hc⟩:=D.kept j.low (fun b R h=>by have:=A.low b R;omega) (fun _ h=>h) (fun vs x E=>E.kept j.low (fun b R h=>by have:=A.low b R;omega) (fun _ h=>h));obtain⟨b,o,vs,J,-,c,q⟩:=hc k x E;have HX:=q8 E;have f:=qp E;have V:=q;have⟨L,ak,ag⟩:=x;obtain⟨ah,rfl,aa⟩:=q.inv;obtain⟨aj,ai,rfl⟩:=aa.form;simp only [qq,true_and]at e;obtain⟨rfl,rfl⟩:=e;subst J;have c0:wr.cell? (vw b (o+k*3))=some (ve vq L):=c 0 _ rfl;have c1:=c 1 _ rfl;have c2:=c 2 _ rfl;have HK:=q8 (fun(H:World)(hn:Near wr H)=>O _ f (A.near _ _ _ C hn) (V.kept hn (fun _ _ h=>h) (fun _ h=>h)) (X _ f) (by
    have h1:=u.out;have h2:=Ex.sizes_take HX;have h3:=Ex.sizes_le a (k+1);simp only [Ex.size,qn,qT,List.length_nil,Ex.rows_length]at h1 h2⊢;omega) (fun y hy=>p y (by simp only [Ex.row,qI];exact vv (Ex.rows_mem.2 ⟨_,f,hy⟩))))
   go_wp2_with (go_at_call 213;refine(HK _ ((Near.refl wr).alloc _)).mono ?_;rintro e w2 ⟨rfl,i2,f2⟩;have Q:=q8 i2;have ab:=q8 (Fr.trans (Fr.near ((Near.refl wr).alloc _)) f2))
   exact⟨⟨k+1,t,by go_num,by rw [Ex.rows_take HX,←qS];exact Q,j.trans ab⟩,by simp [intOf];omega⟩
  ·obtain rfl:k=a.length:=by omega
   go_wp2_with fail
   go_end0
   refine⟨rfl,?_,j⟩
   have:=C.out
   rw [qF]at this;simpa [Ex.row]using this
end Go.Proofs.YtjcbmcnbdegpmaaGreatDoor
namespace Go.Proofs.Mod
open Go Go.RowKit Go.Proofs.Gen
section
variable {α:Type}{k:Nat}{enc:α->List Value}{R:World->List Value->α->Prop}{w:World}{base e:Nat}{v:Value}{l:List α}
theorem q1Q(d: ∀x,(enc x).length=k): ∀{l:List α}{i:Nat}{x:α}{j:Nat}{u:Value},l[i]? =some x->(enc x)[j]? =some u->(l.flatMap enc)[i*k+j]? =some u
 |y::l,0,x,j,u,b,a=>by
  cases b;rw [zI,Nat.zero_mul,zz,List.getElem?_append_left (qm.1 a).1];exact a
 |y::l,i+1,x,j,u,b,a=>by
  have c:=d y;rw [zI,List.getElem?_append_right (by rw [c,Nat.succ_mul];omega),c,show(i+1)*k+j - k=i*k+j from by rw [Nat.succ_mul];omega];exact q1Q d (l:=l) b a
theorem q3Y(a: ∀x,(enc x).length=k): ∀l:List α,(l.flatMap enc).length=l.length*k
 |[]=>by simp
 |y::l=>by rw [zI,qn,a,q3Y a l,qT,Nat.succ_mul];omega
theorem RdL.own(n: ∀x,(enc x).length=k)(h:w.ownsRow base e k v l.length (l.flatMap enc))(p: ∀x,x∈l->R w (enc x) x):RdL (fun g=>base<=g) k R w v l:=by
 obtain⟨f,a,rfl⟩:=qR h;refine⟨f,a,rfl,fun i x b=> ?_⟩;have q:=(qm.1 b).1;rcases h.2 with⟨e,_⟩|⟨g,c,m,e,d,_⟩
 .simp only [qq]at e
  omega
 .simp only [qq]at e
  obtain⟨rfl,-,-⟩:=e;refine⟨g,0,enc x,rfl,d,fun j u o=> ?_,p x (qp b)⟩
  have:=h.cells rfl (i*k+j) u (q1Q n b o)
  rw [Addr.add_lit]at this;rw [show 0+i*k+j=0+(i*k+j)from by omega];exact this
theorem gW(f:α->Value): ∀l:List α,(l.flatMap fun x=>[f x])=l.map f
 |[]=>rfl
 |y::l=>by rw [zI,gW f l];rfl
theorem RdL.strings{l:List ByteArray}(h:w.ownsRow base e 1 v l.length (l.map Value.string)):RdL (fun g=>base<=g) 1 RdS w v l:=
 RdL.own (enc:=fun x=>[vf x]) (fun _=>rfl) (by rw [gW];exact h) (fun _ _=>rfl)
end
end Go.Proofs.Mod
namespace Go.Proofs.Mod
open Go
variable{fs:List xM}{g:Grp}{l:List Grp}
def timesN(l:List Grp)(k:Int):Nat:=(l.flatMap yq).count k
def okM(fs:List xM)(p k:Int):Bool:=decide (0<=k)&& (match fs[k.toNat]? with|some f=>decide (f.kind=4)&&decide (f.parent=p)|none=>false)
theorem uA{k:Nat}(h:l[k]? =some g):takenTo l (k+1)=takenTo l k++g.members:=by
 unfold takenTo;rw [qU,h];simp
theorem Yx(fs:List xM)(p:Int)(taken:List Int)(k:Int)(l:List Int):vJ fs p taken (k::l)=((okM fs p k&& !taken.contains k)&&vJ fs p (taken++[k]) l):=rfl
theorem Zy{fs:List xM}{p:Int}: ∀{l taken:List Int},vJ fs p taken l=true↔(∀k∈l,okM fs p k=true)/\l.Nodup/\ ∀k∈l,k∉taken
 |[],taken=>by simp [vJ]
 |k::l,taken=>by
  rw [Yx,qy,qy,Zy (l:=l)];simp only [List.contains_eq_mem,Bool.not_eq_true',decide_eq_false_iff_not,qK,qI,List.not_mem_nil,or_false,List.nodup_cons];constructor
  .rintro⟨⟨b,d⟩,f,c,g⟩
   refine⟨fun x a=> ?_,⟨fun h=>g k h (vv rfl),c⟩,fun x a=> ?_⟩
   .rcases a with rfl|a
    .exact b
    .exact f x a
   .rcases a with rfl|a
    .exact d
    .exact fun e=>g x a (vu e)
  .rintro⟨b,⟨d,f⟩,c⟩
   refine⟨⟨b k (vu rfl),c k (vu rfl)⟩,fun x a=>b x (vv a),f,fun x a=> ?_⟩;rintro(e|rfl)
   .exact c x (vv a) e
   .exact d a
theorem Ge{i:Nat}(h:l[i]? =some g):vJ fs g.parent (takenTo l i) g.members=g.members.all fun k=>okM fs g.parent k&&decide (timesN (l.take (i+1)) k<=1):=by
 have b: ∀k,timesN (l.take (i+1)) k=(takenTo l i).count k+g.members.count k:=fun k=>by
  have:=uA h
  unfold takenTo at this;unfold timesN;rw [this,List.count_append];rfl
 rw [zq,Zy,qL];constructor
 .rintro⟨d,c,f⟩ k a
  rw [qy,decide_eq_true_eq,b];have n:=List.nodup_iff_count.1 c k;have m:=List.count_eq_zero.2 (f k a);exact⟨d k a,by omega⟩
 .intro j
  have a: ∀k∈g.members,okM fs g.parent k=true/\(takenTo l i).count k+g.members.count k<=1:=fun k a=>by
   have:=j k a
   rw [qy,decide_eq_true_eq,b]at this;exact this
  refine⟨fun k h=>(a k h).1,List.nodup_iff_count.2 fun k=> ?_,fun k h=> ?_⟩
  .by_cases e:k∈g.members
   .have:=(a k e).2
    omega
   .rw [List.count_eq_zero.2 e]
    omega
  .have d:=(a k h).2
   have c:=List.count_pos_iff.2 h;exact List.count_eq_zero.1 (by omega)
theorem q3Q(l:List Grp)(i:Nat):inB l i=decide (0<timesN l i):=by
 unfold inB timesN;rw [zq,decide_eq_true_eq,List.count_pos_iff,List.any_eq_true,List.mem_flatMap];simp only [List.contains_iff_mem]
theorem jZ(h:g∈l):g.members.length<=(l.flatMap yq).length:=by
 induction l with
 |nil=>cases h
 |cons x l a=>
  rw [zI,qn];rcases qI.1 h with rfl|h
  .omega
  .have:=a h
   omega
theorem YV(l:List Grp)(i:Nat):(takenTo l i).length<=(l.flatMap yq).length:=by
 unfold takenTo
 have:l.flatMap yq=(l.take i).flatMap yq++(l.drop i).flatMap yq:=by rw [<-zC,zO]
 rw [this,qn];omega
theorem WK(l:List Grp)(i j:Nat)(h:i<=j):(takenTo l i).length<=(takenTo l j).length:=by
 unfold takenTo;have e:l.take j=l.take i++(l.drop i).take (j - i):=by
  have:=List.take_add (l:=l) (i:=i) (j:=j - i)
  rwa [show i+(j - i)=j from by omega]at this
 rw [e,zC,qn];omega
theorem Gf{p:Int}{l taken:List Int}{j:Nat}{k:Int}(h:l[j]? =some k):vJ fs p (taken++l.take j) (l.drop j)=(q3H fs p (taken++l.take j) k&&vJ fs p (taken++l.take (j+1)) (l.drop (j+1))):=by
 have a:=(qm.1 h).1;rw [yz a];rw [qi a]at h
 cases h;rw [Yx];have e:taken++l.take j++[l[j]]=taken++l.take (j+1):=by rw [qS,zM a]
 rw [e];rfl
def ZS(m:Mod)(i:Nat):List (Nat×Nat):=(2,i+1)::if(m.feats[i+1]?.map xM.kind)=some 2 then [(3,i+1)]else []
def ruA(m:Mod)(k:Nat):List (Nat×Nat):=(1,0)::(qO k).flatMap (ZS m)
def ruB(m:Mod)(k:Nat):List (Nat×Nat):=ruA m (m.feats.length - 1)++(qO k).flatMap fun i=>[(4,i),(5,i)]
def ruC(m:Mod)(k:Nat):List (Nat×Nat):=ruB m m.grps.length++(qO k).map fun i=>(6,i)
def ruD(m:Mod)(k:Nat):List (Nat×Nat):=ruC m m.reqs.length++(qO k).map fun i=>(7,i)
theorem KW(m:Mod):ruD m m.lims.length=rulesOf m:=by
 unfold ruD ruC ruB ruA rulesOf ZS;simp only [List.cons_append,qS]
theorem UD(m:Mod):ruB m 0=ruA m (m.feats.length - 1):=by simp [ruB]
theorem UB(m:Mod):ruC m 0=ruB m m.grps.length:=by simp [ruC]
theorem Uz(m:Mod):ruD m 0=ruC m m.reqs.length:=by simp [ruD]
theorem UF(m:Mod)(k:Nat):ruA m (k+1)=ruA m k++ZS m k:=by simp [ruA,jw]
theorem UE(m:Mod)(k:Nat):ruB m (k+1)=ruB m k++[(4,k),(5,k)]:=by simp [ruB,jw]
theorem UC(m:Mod)(k:Nat):ruC m (k+1)=ruC m k++[(6,k)]:=by simp [ruC,jw]
theorem UA(m:Mod)(k:Nat):ruD m (k+1)=ruD m k++[(7,k)]:=by simp [ruD,jw]
theorem KX(m:Mod): ∀k,(ruA m k).length<=2*k+1
 |0=>by simp [ruA]
 |k+1=>by
  have:=KX m k
  have a:(ZS m k).length<=2:=by unfold ZS;split<;>simp
  rw [UF,qn];omega
theorem q0F(m:Mod)(k:Nat):(ruB m k).length<=2*m.feats.length+2*k+1:=by
 induction k with
 |zero=>
  rw [UD]
  have:=KX m (m.feats.length - 1)
  omega
 |succ k a=>rw [UE,qn];simp;omega
theorem q0E(m:Mod)(k:Nat):(ruC m k).length<=2*m.feats.length+2*m.grps.length+k+1:=by
 induction k with
 |zero=>
  rw [UB]
  have:=q0F m m.grps.length
  omega
 |succ k a=>rw [UC,qn];simp;omega
theorem KV(m:Mod)(k:Nat):(ruD m k).length<=2*m.feats.length+2*m.grps.length+m.reqs.length+k+1:=by
 induction k with
 |zero=>
  rw [Uz]
  have:=q0E m m.reqs.length
  omega
 |succ k a=>rw [UA,qn];simp;omega
def encR(r:Nat×Nat):List Value:=[.int .u8 r.1,.int .i64 r.2]
end Go.Proofs.Mod
namespace Go.Proofs.Mod
open Go
mutual
def countE:Ex->Int->Int->Int
 | .mk _ n l,lv,lf=>if lv=0\/lf - 1<0\/100<n.size then -1 else countL l (lv - 1) (lf - 1)
def countL:List Ex->Int->Int->Int
 |[],_,lf=>lf
 |e::l,lv,lf=>if 0<=lf then countL l lv (countE e lv lf)else lf
end
theorem Qv: ∀{l:List Ex}{lv lf:Int},lf<0->countL l lv lf=lf
 |[],_,_,_=>by rw [countL]
 |e::l,lv,lf,h=>by rw [countL,if_neg (by omega)]
theorem Kg: ∀e:Ex,∀b a:Int,-1<=countE e b a/\(0<=a->countE e b a<a)/\(0<=countE e b a->(e.size:Int)+countE e b a=a):=by
 refine Ex.ind fun o n l s=> ?_;have r: ∀c:List Ex,(∀k∈c,k∈l)-> ∀b a:Int,(-1<=a-> -1<=countL c b a)/\(0<=a->countL c b a<=a)/\(0<=countL c b a->(Ex.sizes c:Int)+countL c b a=a):=by
  intro c;induction c with
  |nil=>intro _ b a;rw [countL];exact⟨id,fun _=>Int.le_refl _,fun _=>by simp [Ex.sizes]⟩
  |cons k c j=>
   intro p b a;have i:=s k (p k (j5 ..)) b a;have g:=j (fun x t=>p x (yw _ t)) b (countE k b a);rw [countL];by_cases d:0<=a
   .rw [if_pos d]
    refine⟨fun _=>g.1 i.1,fun _=> ?_,fun h=> ?_⟩
    .by_cases m:0<=countE k b a
     .have:=g.2.1 m;have:=i.2.1 d;omega
     .rw [Qv (by omega)];omega
    .have m:0<=countE k b a:=by
      refine Decidable.byContradiction fun q=> ?_;rw [Qv (by omega)]at h;exact q h
     have u:=g.2.2 h;have v:=i.2.2 m;simp only [Ex.sizes];omega
   .rw [if_neg d]
    exact⟨id,fun h=>absurd h d,fun h=>absurd h d⟩
 intro b a;have h:=r l (fun _ h=>h) (b - 1) (a - 1);rw [countE];split
 .exact⟨Int.le_refl _,fun _=>by omega,fun h=>by omega⟩
 .rename_i q
  refine⟨h.1 (by omega),fun _=> ?_,fun d=> ?_⟩
  .have:=h.2.1 (by omega);omega
  .have:=h.2.2 d
   simp only [Ex.size];omega
theorem U0{l:List Ex}{k:Nat}{x:Ex}{lv lf:Int}(h:l[k]? =some x):countL (l.take (k+1)) lv lf=if 0<=countL (l.take k) lv lf then countE x lv (countL (l.take k) lv lf)else countL (l.take k) lv lf:=by
 induction l generalizing k lf with
 |nil=>cases h
 |cons e l b=>
  cases k with
  |zero=>
   cases h;rw [un,yU,yU,countL,countL,countL]
  |succ k=>
   rw [un,un,countL,countL];by_cases a:0<=lf
   .rw [if_pos a,if_pos a]
    exact b h
   .rw [if_neg a,if_neg a,if_neg a]
theorem U1{l:List Ex}{lv lf:Int}(k:Nat)(h:countL (l.take k) lv lf<0):countL l lv lf=countL (l.take k) lv lf:=by
 induction l generalizing k lf with
 |nil=>simp
 |cons e l b=>
  cases k with
  |zero=>
   rw [yU,countL]at h;rw [yU,Qv h,countL]
  |succ k=>
   rw [un,countL]at h⊢;rw [countL];split at h
   ·rename_i a
    rw [if_pos a,if_pos a];exact b k h
   ·rename_i a
    rw [if_neg a,if_neg a]
def greatE(x:Ex):Bool:=decide (countE x 100 1200<0)
theorem vY{x:Ex}(h:greatE x=false):x.size<=1200:=by
 have a: ¬countE x 100 1200<0:=of_decide_eq_false h
 have:=(Kg x 100 1200).2.2 (by omega)
 omega
def greatM(m:Mod):Bool:=
 decide (40<m.feats.length)||decide (40<m.grps.length)||decide (20<m.atts.length)||decide (70<m.reqs.length)||decide (40<m.lims.length)||
 m.feats.any (fun f=>decide (100<f.name.size))||m.grps.any (fun g=>decide (60<g.members.length))||m.atts.any (fun a=>decide (100<a.name.size)||decide (60<a.values.length))||m.reqs.any greatE
structure q2J(m:Mod):Prop where
 feats:m.feats.length<=40
 grps:m.grps.length<=40
 atts:m.atts.length<=20
 reqs:m.reqs.length<=70
 lims:m.lims.length<=40
 names: ∀f∈m.feats,f.name.size<=100
 mems: ∀g∈m.grps,g.members.length<=60
 anames: ∀a∈m.atts,a.name.size<=100
 vals: ∀a∈m.atts,a.values.length<=60
 exs: ∀x∈m.reqs,greatE x=false
theorem uC{m:Mod}:greatM m=false↔q2J m:=by
 unfold greatM;simp only [Bool.or_eq_false_iff,decide_eq_false_iff_not,List.any_eq_false,yM,decide_eq_true_eq,not_or,Nat.not_lt,Bool.not_eq_true];constructor
 .rintro⟨⟨⟨⟨⟨⟨⟨⟨d,e⟩,i⟩,h⟩,j⟩,n⟩,g⟩,c⟩,l⟩
  exact⟨d,e,i,h,j,n,g,fun a b=>(c a b).1,fun a b=>(c a b).2,l⟩
 .rintro⟨d,e,i,h,j,n,g,c,l,k⟩
  exact⟨⟨⟨⟨⟨⟨⟨⟨d,e⟩,i⟩,h⟩,j⟩,n⟩,g⟩,fun a b=>⟨c a b,l a b⟩⟩,k⟩
theorem ZH{l:List Grp}{c:Nat}(h: ∀g∈l,g.members.length<=c):(l.flatMap yq).length<=l.length*c:=by
 induction l with
 |nil=>simp
 |cons g l a=>
  rw [zI,qn,qT,Nat.succ_mul]
  have:=h g (j5 ..)
  have:=a fun x b=>h x (yw _ b)
  omega
section
variable {α β:Type}{f:α->β->Bool}
def eqv(f:α->β->Bool):List α->List β->Bool
 |[],[]=>true
 |x::l,y::l'=>f x y&&eqv f l l'
 |_,_=>false
theorem uM: ∀{l:List α}{l':List β},l.length≠l'.length->eqv f l l'=false
 |[],[],h=>absurd rfl h
 |x::l,y::l',h=>by rw [eqv,uM (l:=l) (l':=l') (fun e=>h (by simp [e])),Bool.and_false]
 |[],y::l',_=>rfl
 |x::l,[],_=>rfl
theorem QL: ∀{l:List α}{l':List β}(k:Nat){x:α}{y:β},l[k]? =some x->l'[k]? =some y->f x y=false->eqv f l l'=false
 |a::l,b::l',0,x,y,hx,hy,h=>by cases hx;cases hy;rw [eqv,h];rfl
 |a::l,b::l',k+1,x,y,hx,hy,h=>by rw [eqv,QL k (l:=l) (l':=l') hx hy h,Bool.and_false]
 |[],_,k,_,_,hx,_,_=>by simp at hx
 |_::_,[],k,_,_,_,hy,_=>by simp at hy
theorem q1Z: ∀{l:List α}{l':List β},l.length=l'.length->(∀(k:Nat) x y,l[k]? =some x->l'[k]? =some y->f x y=true)->eqv f l l'=true
 |[],[],_,_=>rfl
 |x::l,y::l',c,h=>by
  rw [eqv,h 0 x y rfl rfl,q1Z (by simpa using c) fun k a b d e=>h (k+1) a b d e];rfl
 |[],y::l',c,_=>by simp at c
 |x::l,[],c,_=>by simp at c
end
theorem kS{α:Type}{f:α->α->Bool}(h: ∀x,f x x=true): ∀l:List α,eqv f l l=true
 |[]=>rfl
 |x::l=>by rw [eqv,h x,kS h l];rfl
mutual
def sameE:Ex->Ex->Bool
 | .mk o n l,.mk o' n' l'=>decide (o=o')&&decide (n=n')&&Ya l l'
def Ya:List Ex->List Ex->Bool
 |[],[]=>true
 |x::l,y::l'=>sameE x y&&Ya l l'
 |_,_=>false
end
theorem X6: ∀l a:List Ex,Ya l a=eqv sameE l a
 |[],[]=>by rw [Ya];rfl
 |x::l,y::a=>by rw [Ya,eqv,X6 l a]
 |[],y::a=>by simp [Ya,eqv]
 |x::l,[]=>by simp [Ya,eqv]
theorem q3g(o a:Nat)(n b:ByteArray)(l l':List Ex):sameE (.mk o n l) (.mk a b l')=(decide (o=a)&&decide (n=b)&&eqv sameE l l'):=by rw [sameE,X6]
mutual
theorem Yq: ∀x:Ex,sameE x x=true
 | .mk o n l=>by rw [sameE,Yp l];simp
theorem Yp: ∀l:List Ex,Ya l l=true
 |[]=>by rw [Ya]
 |x::l=>by rw [Ya,Yq x,Yp l];rfl
end
def sameI(a b:Int):Bool:=decide (a=b)
def sameFt(a b:xM):Bool:=decide (a.name=b.name)&&decide (a.parent=b.parent)&&decide (a.kind=b.kind)
def sameG(a b:Grp):Bool:=decide (a.parent=b.parent)&&decide (a.low=b.low)&&decide (a.high=b.high)&&eqv sameI a.members b.members
def sameA(a b:Att):Bool:=decide (a.name=b.name)&&eqv sameI a.values b.values
def sameLm(a b:Lim):Bool:=decide (a.att=b.att)&&decide (a.rel=b.rel)&&decide (a.bound=b.bound)
def sameM(a b:Mod):Bool:=eqv sameFt a.feats b.feats&&eqv sameG a.grps b.grps&&eqv sameA a.atts b.atts&&eqv sameE a.reqs b.reqs&&eqv sameLm a.lims b.lims
theorem sameM_refl(m:Mod):sameM m m=true:=by
 unfold sameM;rw [kS (f:=sameFt) (fun x=>by simp [sameFt]),kS (f:=sameG) (fun x=>by simp [sameG,kS (f:=sameI) (fun _=>by simp [sameI])]),kS (f:=sameA) (fun x=>by simp [sameA,kS (f:=sameI) (fun _=>by simp [sameI])]),kS Yq,kS (f:=sameLm) (fun x=>by simp [sameLm])];rfl
end Go.Proofs.Mod
