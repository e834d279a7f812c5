/- MU8, MSameA, MSameB, MCountW, MGreat. -/
import Derived.Test.YtjcbmcnbdegpmaaGreatDoorKMRNames
set_option maxRecDepth 100000
set_option maxHeartbeats 12800000
set_option linter.unusedVariables false
set_option linter.unusedSimpArgs false
open Bool renaming and_eq_false_iff->kY
open Decidable renaming byContradiction->q7D
open Go.ByteArray renaming toList_eq->zp
open Go.Lib renaming hid->q8
open Go.Proofs.Tryz renaming prog->qj
open Go.Value.slice renaming injEq->qq
open List renaming getElem?_eq_getElem->qi,getElem?_eq_some_iff->qm,getElem?_of_mem->qZ,mem_of_getElem?->qp
open Nat renaming zero_le->qv
open Go.Value renaming slice->vd,int->ve,string->vf,pointer->vg,agg->vi,bool->vj
open Go.Obj renaming cells->vk
open Go.Ending renaming returned->vm
open Go.IntKind renaming i64->vp,u8->vq,u32->vr,u64->vt
open Or renaming inl->vu,inr->vv
namespace Go.Proofs.YtjcbmcnbdegpmaaGreatDoor
open Go Go.RowKit Go.Proofs.Gen Go.Proofs.Mod
variable{C J L Q v va vb:Value}{S T:Nat->Prop}{ao:Option Addr}{cap i k n o:Nat}{l:List Nat}{l':List Int}{m:Mod}{vs:List Value}{w:World}{x:Grp}{α β:Type}
def RdU(_:World)(vs:List Value)(n:Nat):Prop:=vs=[.int .u8 n]
theorem XF(h:RdL S 1 RdU w v l)(K:l.length<4611686018427387904)(s:Nat):Calls qj 221 #[v,ve vq s] w fun e D=>(∃z:Int,e=vm (ve vp z)/\decide (0<=z)=l.contains s)/\D=w:=by
 have G:=q8 h;obtain⟨N,I,rfl⟩:=h.form;go_enter Tryz.func221,Tryz.ntmps221;go_wp2_with fail
 go_loop [8] (fun i=> ∃k:Nat,k<=l.length/\i=ve vp k/\ ∀j x,j<k->l[j]? =some x->x≠s) (fun i=>l.length - (intOf i).toNat)
 case atStart=>exact⟨0,qv _,rfl,fun j x f=>by omega⟩
 case round=>
  obtain⟨k,L,rfl,m⟩:=hrel;have d:=q8 m;by_cases c:k<l.length
  .have q:(k:Int)<l.length:=by omega
   obtain⟨x,u⟩: ∃x,l[k]? =some x:=⟨_,qi c⟩;have⟨H,p,e,E⟩:=G.out;obtain⟨b,o,J,g,-,a,C⟩:=E k x u;obtain rfl:J=[ve vq x]:=C;simp only [qq,true_and]at e;obtain⟨rfl,rfl⟩:=e;subst g;have M:w.cell? (vw b (o+k))=some (ve vq x):=by simpa using a 0 _ rfl
   have t:=q8 u;by_cases r:x=s
   .subst r
    go_wp2_with fail
    go_ret;refine⟨⟨_,rfl,?_⟩,rfl⟩
    have:=qp t
    simp [this]
   .have A:((s:Int)==(x:Int))=false:=by
     rw [beq_eq_false_iff_ne];omega
    go_wp2_with fail
    go_round
    case rel=>
     refine⟨k+1,c,by go_num,fun j y f n=> ?_⟩;by_cases e:j=k
     .subst e
      have:=t.out
      rw [n]at this
      cases this;exact r
     .exact d j y (by omega) n
    case measure=>simp [intOf];omega
  .obtain rfl:k=l.length:=by omega
   go_wp2_with fail
   go_ret;refine⟨⟨_,rfl,?_⟩,rfl⟩
   have: ¬s∈l:=fun B=>by
    have⟨j,f⟩:=qZ B;exact d j s (qm.1 f).1 f rfl
   simp [this]
theorem ZP{S:Nat→Prop}(h:RdL S 1 RdU w v l)(g:l.length<4611686018427387904)(s:Nat):Calls qj 180 #[v,ve vq s] w fun e a=>e=vm (vj (l.contains s))∧a=w:=by
 have H:=q8 (XF h g s);obtain⟨j,f,rfl⟩:=h.form;obtain⟨b,c⟩: ∃b,b=l.contains s:=⟨_,rfl⟩;rw [←c]at H⊢;clear h c;go_enter Tryz.func180,Tryz.ntmps180;go_wp2_with (go_at_call 221;refine H.mono ?_;rintro e a ⟨⟨z,rfl,d⟩,rfl⟩;have i:=q8 d;clear d)
 go_ret;exact⟨by rw [←i.out];rfl,rfl⟩
theorem GZ(r:5<=o/\o<=10)(i:Nat)(w:World):Calls qj 183 #[ve vq o,ve vp i] w fun e n=> ∃v,e=vm v/\RdL (fun g=>w.heap.size<=g) 1 RdU n v (bareL o i)/\Near w n:=by
 have p: ∀W,W=w.alloc (vk #[ve vq 5,ve vq 7,ve vq 6,ve vq 8,ve vq 9,ve vq 10] 5)->Near w W/\ ∀k,k<=6->RdL (fun g=>w.heap.size<=g) 1 RdU W (vd w.heap.size k 6) ([5,7,6,8,9,10].take k):=by
  rintro W rfl;have z:RdL (fun g=>w.heap.size<=g) 1 RdU (w.alloc (vk #[ve vq 5,ve vq 7,ve vq 6,ve vq 8,ve vq 9,ve vq 10] 5)) (vd w.heap.size 6 6) [5,7,6,8,9,10]:=by
   refine⟨_,_,rfl,fun j x d=>⟨w.heap.size,0,[ve vq x],rfl,Nat.le_refl _,fun t u q=> ?_,rfl⟩⟩
   cases t with
   |succ t=>cases q
   |zero=>
    cases q;refine cell1 (heap_new_at rfl) ?_;rcases j with _|_|_|_|_|_|j
    all_goals first|(cases d;rfl)|(simp at d)
  exact⟨(Near.refl w).alloc _,fun k s=>z.take k 6 s⟩
 have l:i=0\/(((i:Int)==0)=false/\i≠0):=by
  by_cases h:i=0
  .exact vu h
  .exact vv ⟨by rw [beq_eq_false_iff_ne];omega,h⟩
 have b:=p _ rfl;generalize m:w.alloc (vk #[ve vq 5,ve vq 7,ve vq 6,ve vq 8,ve vq 9,ve vq 10] 5)=W at b;have a:=q8 b;have y:=q8 m;clear p b m;have f:o=5\/o=6\/o=7\/o=8\/o=9\/o=10:=by omega
 clear r;rcases f with rfl|rfl|rfl|rfl|rfl|rfl<;>rcases l with rfl|⟨l,c⟩
 all_goals
  go_enter Tryz.func183,Tryz.ntmps183;go_wp2_with fail
  go_ret;rw [y.out];refine⟨_,rfl,?_,a.1⟩
  first
   |exact⟨none,0,rfl,fun j x d=>nomatch d⟩
   |exact a.2 1 (by decide)
   |exact a.2 2 (by decide)
   |exact a.2 3 (by decide)
   |(simp only [bareL,c];exact a.2 4 (by decide))
   |exact a.2 4 (by decide)
   |exact a.2 5 (by decide)
   |(simp only [bareL,c];exact a.2 6 (by decide))
theorem WO(f:5<=o/\o<=10)(i:Nat)(w:World):Calls qj 182 #[ve vq o,ve vp i] w fun e d=>e=vm (vf (toB (signT o i)))/\Near w d:=by
 have c:i=1\/(((i:Int)==1)=false/\i≠1):=by
  by_cases h:i=1
  .exact vu h
  .exact vv ⟨by rw [beq_eq_false_iff_ne];omega,h⟩
 have b:o=5\/o=6\/o=7\/o=8\/o=9\/o=10:=by omega
 rcases b with rfl|rfl|rfl|rfl|rfl|rfl<;>rcases c with rfl|⟨c,a⟩
 all_goals
  go_enter Tryz.func182,Tryz.ntmps182;go_wp2_with fail
  go_ret;refine⟨?_,by first|exact Near.refl w|exact(Near.refl w).drew⟩
  first
   |rfl
   |(simp only [signT,a];rfl)
theorem ub{f:α->β->Bool}{l:List α}{l':List β}{x:α}{y:β}(h: ∀(j:Nat) a b,j<k->l[j]? =some a->l'[j]? =some b->f a b=true)(i:l[k]? =some x)(g:l'[k]? =some y)(m:f x y=true): ∀(j:Nat) a b,j<k+1->l[j]? =some a->l'[j]? =some b->f a b=true:=by
 intro j a b n d c;by_cases e:j=k
 .subst e
  rw [i]at d;rw [g]at c
  cases d
  cases c;exact m
 .exact h j a b (by omega) d c
theorem gi{f:α->β->Bool}{l:List α}{l':List β}(e:l.length=l'.length)(h: ∀(j:Nat) a b,j<l.length->l[j]? =some a->l'[j]? =some b->f a b=true):eqv f l l'=true:=
 q1Z e fun k x y c d=>h k x y (qm.1 c).1 c d
theorem JI{x y:ByteArray}(h:x≠y):(x.toList==y.toList)=false:=by
 rw [beq_eq_false_iff_ne];intro a;rw [zp,zp]at a;refine h ?_
 cases x
 cases y;congr 1;exact Array.toList_inj.1 a
theorem we{l:List xM}{x:xM}(h:RdL S 3 RdFeat w (vd ao n cap) l)(k:l[i]? =some x):
 ∃g o,ao=some ⟨g,o,none⟩/\w.cell? (vw g (o+i*3))=some (vf x.name)/\w.cell? (vw g (o+i*3+1))=some (ve vp x.parent)/\w.cell? (vw g (o+i*3+2))=some (ve vq x.kind):=by
 have⟨d,c,e,m⟩:=h;obtain⟨g,o,f,b,-,a,j⟩:=m i x k;obtain rfl:f=[vf x.name,ve vp x.parent,ve vq x.kind]:=j
 cases e;exact⟨g,o,b,a 0 _ rfl,a 1 _ rfl,a 2 _ rfl⟩
theorem ZA{l:List Lim}{x:Lim}(h:RdL S 3 RdLim w (vd ao n cap) l)(k:l[i]? =some x):
 ∃g o,ao=some ⟨g,o,none⟩/\w.cell? (vw g (o+i*3))=some (ve vp x.att)/\w.cell? (vw g (o+i*3+1))=some (ve vq x.rel)/\w.cell? (vw g (o+i*3+2))=some (ve vp x.bound):=by
 have⟨d,c,e,m⟩:=h;obtain⟨g,o,f,b,-,a,j⟩:=m i x k;obtain rfl:f=[ve vp x.att,ve vq x.rel,ve vp x.bound]:=j
 cases e;exact⟨g,o,b,a 0 _ rfl,a 1 _ rfl,a 2 _ rfl⟩
theorem J2{l l':List xM}(R:RdL S 3 RdFeat w L l)(P:RdL T 3 RdFeat w Q l')(hl:l.length<4611686018427387904):
 Calls qj 57 #[L,Q] w fun e X=>e=vm (vj (eqv sameFt l l'))/\Near w X:=by
 have W:=q8 R;have Z:=q8 P;obtain⟨ao,aa,rfl⟩:=R.form;obtain⟨bo,ab,rfl⟩:=P.form;obtain⟨r,O⟩: ∃r,r=eqv sameFt l l':=⟨_,rfl⟩;rw [<-O];have H:=q8 O;by_cases f:l.length=l'.length
 .have s:=q8 f
  have C:((l.length:Int) !=l'.length)=false:=by rw [f];simp
  go_enter Tryz.func57,Tryz.ntmps57;go_wp2_with fail
  go_loopw [5,13] (fun x i wr=> ∃k:Nat,k<=l.length/\i=ve vp k/\(∀(j:Nat) a b,j<k->l[j]? =some a->l'[j]? =some b->sameFt a b=true)/\Near w wr) (fun _ i _=>l.length - (intOf i).toNat)
  case atStart=>exact⟨0,qv _,rfl,fun j x y hj=>by omega,Near.refl _⟩
  case round=>
   obtain⟨k,hk,rfl,B,hn⟩:=hrel;have t:=q8 B;have d:=q8 hn;by_cases q:k<l.length
   .have v:k<l'.length:=by rw [<-s.out];exact q
    have K:(k:Int)<l.length:=by omega
    have I:(k:Int)<l'.length:=by omega
    obtain⟨x,U⟩: ∃x,l[k]? =some x:=⟨_,qi q⟩;obtain⟨y,J⟩: ∃y,l'[k]? =some y:=⟨_,qi v⟩;obtain⟨g,o,rfl,x0,x1,x2⟩:=we (RdL.kept W d (fun _ _ h=>h) (fun _ h=>h) (fun _ _ h=>h)) U;obtain⟨g',o',rfl,y0,Y,V⟩:=we (RdL.kept Z d (fun _ _ h=>h) (fun _ h=>h) (fun _ _ h=>h)) J;have N:=q8 U;have M:=q8 J;have⟨n,p,u⟩:=x;have⟨z,A,D⟩:=y;dsimp only at x0 x1 x2 y0 Y V;by_cases G:n=z/\p=A/\u=D
    .obtain⟨rfl,rfl,rfl⟩:=G
     go_wp2_with fail
     go_quiet (fail)
     all_goals
      go_wp2_with fail
      exact⟨⟨k+1,q,by go_num,ub t N M (by simp [sameFt]),d.drewN _⟩,by simp [intOf];omega⟩
    .have c:=q8 (show r=false by rw [H.out];exact QL k N M (by simp only [sameFt,kY,decide_eq_false_iff_not];exact q7D fun h=>G (by simp only [not_or,Decidable.not_not]at h;exact⟨h.1.1,h.1.2,h.2⟩)))
     have hw:(n.toList==z.toList)=false\/n=z/\((p==A)=false\/p=A/\((u:Int)==(D:Int))=false):=by
      by_cases m:n=z
      .by_cases E:p=A
       .have h: ¬u=D:=fun h3=>G ⟨m,E,h3⟩
        exact vv ⟨m,vv ⟨E,beq_eq_false_iff_ne.2 (by omega)⟩⟩
       .have h:=E
        exact vv ⟨m,vu (beq_eq_false_iff_ne.2 h)⟩
      .have h:=m
       exact vu (JI h)
     rcases hw with m|⟨rfl,m|⟨rfl,m⟩⟩
     all_goals
      go_wp2_with fail
      go_quiet (fail)
      all_goals
       go_wp2_with fail
       go_ret;exact⟨by obtain rfl:=c.out;rfl,d.drewN _⟩
   .obtain rfl:k=l.length:=by omega
    have c:=q8 (show r=true by rw [H.out];exact gi s t);go_wp2_with fail
    go_ret;exact⟨by obtain rfl:=c.out;rfl,d⟩
 .have c:=q8 (show r=false by rw [H.out];exact uM f)
  have C:((l.length:Int) !=l'.length)=true:=by rw [bne_iff_ne];omega
  go_enter Tryz.func57,Tryz.ntmps57;go_wp2_with fail
  go_ret;exact⟨by obtain rfl:=c.out;rfl,Near.refl _⟩
theorem J1{l l':List Lim}(R:RdL S 3 RdLim w L l)(P:RdL T 3 RdLim w Q l')(hl:l.length<4611686018427387904):
 Calls qj 66 #[L,Q] w fun e X=>e=vm (vj (eqv sameLm l l'))/\Near w X:=by
 have W:=q8 R;have Z:=q8 P;obtain⟨ao,aa,rfl⟩:=R.form;obtain⟨bo,ab,rfl⟩:=P.form;obtain⟨r,O⟩: ∃r,r=eqv sameLm l l':=⟨_,rfl⟩;rw [<-O];have H:=q8 O;by_cases f:l.length=l'.length
 .have s:=q8 f
  have C:((l.length:Int) !=l'.length)=false:=by rw [f];simp
  go_enter Tryz.func66,Tryz.ntmps66;go_wp2_with fail
  go_loopw [5,13] (fun x i wr=> ∃k:Nat,k<=l.length/\i=ve vp k/\(∀(j:Nat) a b,j<k->l[j]? =some a->l'[j]? =some b->sameLm a b=true)/\Near w wr) (fun _ i _=>l.length - (intOf i).toNat)
  case atStart=>exact⟨0,qv _,rfl,fun j x y hj=>by omega,Near.refl _⟩
  case round=>
   obtain⟨k,hk,rfl,B,hn⟩:=hrel;have t:=q8 B;have d:=q8 hn;by_cases q:k<l.length
   .have v:k<l'.length:=by rw [<-s.out];exact q
    have K:(k:Int)<l.length:=by omega
    have I:(k:Int)<l'.length:=by omega
    obtain⟨x,U⟩: ∃x,l[k]? =some x:=⟨_,qi q⟩;obtain⟨y,J⟩: ∃y,l'[k]? =some y:=⟨_,qi v⟩;obtain⟨g,o,rfl,x0,x1,x2⟩:=ZA (RdL.kept W d (fun _ _ h=>h) (fun _ h=>h) (fun _ _ h=>h)) U;obtain⟨g',o',rfl,y0,Y,V⟩:=ZA (RdL.kept Z d (fun _ _ h=>h) (fun _ h=>h) (fun _ _ h=>h)) J;have N:=q8 U;have M:=q8 J;have⟨n,p,u⟩:=x;have⟨z,A,D⟩:=y;dsimp only at x0 x1 x2 y0 Y V;by_cases G:n=z/\p=A/\u=D
    .obtain⟨rfl,rfl,rfl⟩:=G
     go_wp2_with fail
     go_quiet (fail)
     all_goals
      go_wp2_with fail
      exact⟨⟨k+1,q,by go_num,ub t N M (by simp [sameLm]),d.drewN _⟩,by simp [intOf];omega⟩
    .have c:=q8 (show r=false by rw [H.out];exact QL k N M (by simp only [sameLm,kY,decide_eq_false_iff_not];exact q7D fun h=>G (by simp only [not_or,Decidable.not_not]at h;exact⟨h.1.1,h.1.2,h.2⟩)))
     have hw:(n==z)=false\/n=z/\(((p:Int)==(A:Int))=false\/p=A/\(u==D)=false):=by
      by_cases m:n=z
      .by_cases E:p=A
       .have h: ¬u=D:=fun h3=>G ⟨m,E,h3⟩
        exact vv ⟨m,vv ⟨E,beq_eq_false_iff_ne.2 h⟩⟩
       .have h:=E
        exact vv ⟨m,vu (beq_eq_false_iff_ne.2 (by omega))⟩
      .have h:=m
       exact vu (beq_eq_false_iff_ne.2 h)
     rcases hw with m|⟨rfl,m|⟨rfl,m⟩⟩
     all_goals
      go_wp2_with fail
      go_quiet (fail)
      all_goals
       go_wp2_with fail
       go_ret;exact⟨by obtain rfl:=c.out;rfl,d.drewN _⟩
   .obtain rfl:k=l.length:=by omega
    have c:=q8 (show r=true by rw [H.out];exact gi s t);go_wp2_with fail
    go_ret;exact⟨by obtain rfl:=c.out;rfl,d⟩
 .have c:=q8 (show r=false by rw [H.out];exact uM f)
  have C:((l.length:Int) !=l'.length)=true:=by rw [bne_iff_ne];omega
  go_enter Tryz.func66,Tryz.ntmps66;go_wp2_with fail
  go_ret;exact⟨by obtain rfl:=c.out;rfl,Near.refl _⟩
theorem X7{l:List Int}(E:RdL S 1 RdI w C l)(I:RdL T 1 RdI w J l')(R:l.length<4611686018427387904):
 Calls qj 60 #[C,J] w fun e M=>e=vm (vj (eqv sameI l l'))/\Near w M:=by
 have L:=q8 E;have N:=q8 I;obtain⟨ao,O,rfl⟩:=E.form;obtain⟨U,P,rfl⟩:=I.form;obtain⟨r,H⟩: ∃r,r=eqv sameI l l':=⟨_,rfl⟩;rw [<-H];have v:=q8 H;by_cases f:l.length=l'.length
 .have n:=q8 f
  have t:((l.length:Int) !=l'.length)=false:=by rw [f];simp
  go_enter Tryz.func60,Tryz.ntmps60;go_wp2_with fail
  go_loopw [5,13] (fun x i wr=> ∃k:Nat,k<=l.length/\i=ve vp k/\(∀(j:Nat) a b,j<k->l[j]? =some a->l'[j]? =some b->sameI a b=true)/\Near w wr) (fun _ i _=>l.length - (intOf i).toNat)
  case atStart=>exact⟨0,qv _,rfl,fun j x y Z=>by omega,Near.refl _⟩
  case round=>
   obtain⟨k,V,rfl,s,Q⟩:=hrel;have p:=q8 s;have d:=q8 Q;by_cases m:k<l.length
   .have q:k<l'.length:=by rw [<-n.out];exact m
    have B:(k:Int)<l.length:=by omega
    have z:(k:Int)<l'.length:=by omega
    obtain⟨x,K⟩: ∃x,l[k]? =some x:=⟨_,qi m⟩;obtain⟨y,A⟩: ∃y,l'[k]? =some y:=⟨_,qi q⟩;obtain⟨g,o,rfl,x0⟩:=uV (RdL.kept L d (fun _ _ h=>h) (fun _ h=>h) (fun _ _ h=>h)) K;obtain⟨g',W,rfl,X⟩:=uV (RdL.kept N d (fun _ _ h=>h) (fun _ h=>h) (fun _ _ h=>h)) A;have G:=q8 K;have D:=q8 A;by_cases u:x=y
    .obtain rfl:=u
     go_wp2_with fail
     go_quiet (fail)
     all_goals
      go_wp2_with fail
      exact⟨⟨k+1,m,by go_num,ub p G D (by simp [sameI]),d.drewN _⟩,by simp [intOf];omega⟩
    .have c:=q8 (show r=false by rw [v.out];exact QL k G D (by exact decide_eq_false u))
     have Y:(x==y)=false:=beq_eq_false_iff_ne.2 u
     all_goals
      go_wp2_with fail
      go_quiet (fail)
      all_goals
       go_wp2_with fail
       go_ret;exact⟨by obtain rfl:=c.out;rfl,d.drewN _⟩
   .obtain rfl:k=l.length:=by omega
    have c:=q8 (show r=true by rw [v.out];exact gi n p);go_wp2_with fail
    go_ret;exact⟨by obtain rfl:=c.out;rfl,d⟩
 .have c:=q8 (show r=false by rw [v.out];exact uM f)
  have t:((l.length:Int) !=l'.length)=true:=by rw [bne_iff_ne];omega
  go_enter Tryz.func60,Tryz.ntmps60;go_wp2_with fail
  go_ret;exact⟨by obtain rfl:=c.out;rfl,Near.refl _⟩
theorem X5{l:List Int}(E:RdL S 1 RdI w C l)(I:RdL T 1 RdI w J l')(R:l.length<4611686018427387904):
 Calls qj 63 #[C,J] w fun e M=>e=vm (vj (eqv sameI l l'))/\Near w M:=by
 have L:=q8 E;have N:=q8 I;obtain⟨ao,O,rfl⟩:=E.form;obtain⟨U,P,rfl⟩:=I.form;obtain⟨r,H⟩: ∃r,r=eqv sameI l l':=⟨_,rfl⟩;rw [<-H];have v:=q8 H;by_cases f:l.length=l'.length
 .have n:=q8 f
  have t:((l.length:Int) !=l'.length)=false:=by rw [f];simp
  go_enter Tryz.func63,Tryz.ntmps63;go_wp2_with fail
  go_loopw [5,13] (fun x i wr=> ∃k:Nat,k<=l.length/\i=ve vp k/\(∀(j:Nat) a b,j<k->l[j]? =some a->l'[j]? =some b->sameI a b=true)/\Near w wr) (fun _ i _=>l.length - (intOf i).toNat)
  case atStart=>exact⟨0,qv _,rfl,fun j x y Z=>by omega,Near.refl _⟩
  case round=>
   obtain⟨k,V,rfl,s,Q⟩:=hrel;have p:=q8 s;have d:=q8 Q;by_cases m:k<l.length
   .have q:k<l'.length:=by rw [<-n.out];exact m
    have B:(k:Int)<l.length:=by omega
    have z:(k:Int)<l'.length:=by omega
    obtain⟨x,K⟩: ∃x,l[k]? =some x:=⟨_,qi m⟩;obtain⟨y,A⟩: ∃y,l'[k]? =some y:=⟨_,qi q⟩;obtain⟨g,o,rfl,x0⟩:=uV (RdL.kept L d (fun _ _ h=>h) (fun _ h=>h) (fun _ _ h=>h)) K;obtain⟨g',W,rfl,X⟩:=uV (RdL.kept N d (fun _ _ h=>h) (fun _ h=>h) (fun _ _ h=>h)) A;have G:=q8 K;have D:=q8 A;by_cases u:x=y
    .obtain rfl:=u
     go_wp2_with fail
     go_quiet (fail)
     all_goals
      go_wp2_with fail
      exact⟨⟨k+1,m,by go_num,ub p G D (by simp [sameI]),d.drewN _⟩,by simp [intOf];omega⟩
    .have c:=q8 (show r=false by rw [v.out];exact QL k G D (by exact decide_eq_false u))
     have Y:(x==y)=false:=beq_eq_false_iff_ne.2 u
     all_goals
      go_wp2_with fail
      go_quiet (fail)
      all_goals
       go_wp2_with fail
       go_ret;exact⟨by obtain rfl:=c.out;rfl,d.drewN _⟩
   .obtain rfl:k=l.length:=by omega
    have c:=q8 (show r=true by rw [v.out];exact gi n p);go_wp2_with fail
    go_ret;exact⟨by obtain rfl:=c.out;rfl,d⟩
 .have c:=q8 (show r=false by rw [v.out];exact uM f)
  have t:((l.length:Int) !=l'.length)=true:=by rw [bne_iff_ne];omega
  go_enter Tryz.func63,Tryz.ntmps63;go_wp2_with fail
  go_ret;exact⟨by obtain rfl:=c.out;rfl,Near.refl _⟩
theorem zZ(W:World)(cs:Array Value)(t:TypeId): ∃V k,W.alloc (vk cs t)=V/\W.heap.size=k/\Near W V/\V.heap[k]? =some (vk cs t (0,0)):=
 ⟨_,_,rfl,rfl,(Near.refl W).alloc _,heap_new_at rfl⟩
theorem ZD{l:List Grp}(h:RdL T 4 (RdGrp S) w (vd ao n cap) l)(p:l[i]? =some x):
 ∃g o c b,ao=some ⟨g,o,none⟩/\w.cell? (vw g (o+i*4))=some (ve vp x.parent)/\w.cell? (vw g (o+i*4+1))=some (ve vp x.low)/\w.cell? (vw g (o+i*4+2))=some (ve vp x.high)/\w.cell? (vw g (o+i*4+3))=some (vd c x.members.length b)/\RdGrp S w [ve vp x.parent,ve vp x.low,ve vp x.high,vd c x.members.length b] x:=by
 have⟨k,j,e,q⟩:=h;obtain⟨g,o,r,d,-,a,v,rfl,f,m⟩:=q i x p;obtain⟨c,b,rfl⟩:=f.form
 cases e;exact⟨g,o,c,b,d,a 0 _ rfl,a 1 _ rfl,a 2 _ rfl,a 3 _ rfl,_,rfl,f,m⟩
theorem Q7{l:List Att}{x:Att}(h:RdL T 2 (RdAtt S) w (vd ao n cap) l)(m:l[i]? =some x):
 ∃g o c b,ao=some ⟨g,o,none⟩/\w.cell? (vw g (o+i*2))=some (vf x.name)/\w.cell? (vw g (o+i*2+1))=some (vd c x.values.length b)/\RdAtt S w [vf x.name,vd c x.values.length b] x:=by
 have⟨k,j,e,p⟩:=h;obtain⟨g,o,q,d,-,a,v,rfl,f⟩:=p i x m;obtain⟨c,b,rfl⟩:=f.form
 cases e;exact⟨g,o,c,b,d,a 0 _ rfl,a 1 _ rfl,_,rfl,f⟩
theorem gZ{l:List Ex}{x:Ex}(h:RdL T 3 (RdEx S) w (vd ao n cap) l)(r:l[i]? =some x):
 ∃g o p k,ao=some ⟨g,o,none⟩/\w.cell? (vw g (o+i*3))=some (ve vq x.op)/\w.cell? (vw g (o+i*3+1))=some (vf x.name)/\w.cell? (vw g (o+i*3+2))=some (vd p x.kids.length k)/\RdEx S w [ve vq x.op,vf x.name,vd p x.kids.length k] x:=by
 have⟨q,m,e,s⟩:=h;obtain⟨g,o,t,d,-,a,b⟩:=s i x r;have⟨u,y,v⟩:=x;obtain⟨z,rfl,c⟩:=b.inv;obtain⟨j,f,rfl⟩:=c.form
 cases e;exact⟨g,o,j,f,d,a 0 _ rfl,a 1 _ rfl,a 2 _ rfl,b⟩
theorem q3N(l:List Ex):l.length<=Ex.sizes l:=by
 induction l with
 |nil=>simp
 |cons k l a=>
  have:=Ex.size_pos k
  simp only [List.length_cons,Ex.sizes];omega
theorem Gw{l l':List Grp}(ha:RdL S 4 (RdGrp S) w va l)(u:RdL T 4 (RdGrp T) w vb l')(hl:l.length<4611686018427387904)
 (hf: ∀(i:Nat) x y vs K n,Near w n->l[i]? =some x->l'[i]? =some y->RdGrp S n vs x->RdGrp T n K y->Calls qj 59 #[vi vs.toArray,vi K.toArray] n fun e aa=>e=vm (vj (sameG x y))/\Near n aa):
 Calls qj 58 #[va,vb,.func (.func 59) #[] #[]] w fun e n=>e=vm (vj (eqv sameG l l'))/\Near w n:=by
 have HA:=q8 ha;have HB:=q8 u;have HF:=q8 hf;obtain⟨ao,ae,rfl⟩:=ha.form;obtain⟨bo,af,rfl⟩:=u.form;clear ha u hf;obtain⟨r,hr⟩: ∃r,r=eqv sameG l l':=⟨_,rfl⟩;rw [<-hr];have HR:=q8 hr;clear hr;by_cases m:l.length=l'.length
 .have B:=q8 m
  have Y:((l.length:Int) !=l'.length)=false:=by rw [m];simp
  clear m;go_enter Tryz.func58,Tryz.ntmps58;go_wp2_with fail
  go_loopw [7,17] (fun x i wr=> ∃k:Nat,k<=l.length/\i=ve vp k/\(∀(j:Nat) a b,j<k->l[j]? =some a->l'[j]? =some b->sameG a b=true)/\Near w wr) (fun _ i _=>l.length - (intOf i).toNat)
  case atStart=>exact⟨0,qv _,rfl,fun j x y hj=>by omega,Near.refl _⟩
  case round=>
   obtain⟨k,hk,rfl,H,z⟩:=hrel;have N:=q8 H;have c:=q8 z;clear H z;by_cases v:k<l.length
   .have O:k<l'.length:=by rw [<-B.out];exact v
    have ad:(k:Int)<l.length:=by omega
    have ab:(k:Int)<l'.length:=by omega
    obtain⟨x,X⟩: ∃x,l[k]? =some x:=⟨_,qi v⟩;obtain⟨y,P⟩: ∃y,l'[k]? =some y:=⟨_,qi O⟩;obtain⟨g,o,xo,xc,rfl,x0,x1,x2,x3,E⟩:=ZD (RdL.kept HA c (fun _ _ h=>h) (fun _ h=>h) (fun _ _ h=>h.kept c (fun _ _ h=>h) (fun _ h=>h))) X;obtain⟨U,Q,yo,Z,rfl,z0,z1,z2,z3,M⟩:=ZD (RdL.kept HB c (fun _ _ h=>h) (fun _ h=>h) (fun _ _ h=>h.kept c (fun _ _ h=>h) (fun _ h=>h))) P;have HX:=q8 X;have HY:=q8 P;obtain⟨b,u⟩: ∃b,b=sameG x y:=⟨_,rfl⟩;have I:=q8 u;have HC:=q8 (fun(n:World)(z:Near wr n)=>u▸HF.out k x y _ _ n (c.trans z) X P (E.kept z (fun _ _ h=>h) (fun _ h=>h)) (M.kept z (fun _ _ h=>h) (fun _ h=>h)));clear X P E M u;go_upto_region 6 with fail
    clear x0 x1 x2 x3;have⟨V,W,C,J,A,G⟩:=zZ wr #[ve vp x.parent,ve vp x.low,ve vp x.high,vd xo x.members.length xc] 78;rw [C,J];have y0:V.cell? (vw U (Q+k*4))=some (ve vp y.parent):=A.cell z0;have y1:V.cell? (vw U (Q+k*4+1))=some (ve vp y.low):=A.cell z1;have y2:V.cell? (vw U (Q+k*4+2))=some (ve vp y.high):=A.cell z2;have y3:V.cell? (vw U (Q+k*4+3))=some (vd yo y.members.length Z):=A.cell z3;clear z0 z1 z2 z3;go_upto_region 7 with fail
    clear y0 y1 y2 y3;have⟨s,p,q,t,d,L⟩:=zZ V #[ve vp y.parent,ve vp y.low,ve vp y.high,vd yo y.members.length Z] 78;rw [q,t];have p0:s.cell? W=some (ve vp x.parent):=cell1 (qE d G) rfl;have q0:s.cell? p=some (ve vp y.parent):=cell1 L rfl;have p1:s.cell? (vw W 1)=some (ve vp x.low):=cell1 (qE d G) rfl;have q1:s.cell? (vw p 1)=some (ve vp y.low):=cell1 L rfl;have p2:s.cell? (vw W 2)=some (ve vp x.high):=cell1 (qE d G) rfl;have q2:s.cell? (vw p 2)=some (ve vp y.high):=cell1 L rfl;have p3:s.cell? (vw W 3)=some (vd xo x.members.length xc):=cell1 (qE d G) rfl;have q3:s.cell? (vw p 3)=some (vd yo y.members.length Z):=cell1 L rfl;have R:=q8 (A.trans d);clear C J A G q t d L
    cases b with
    |false=>
     have f:=q8 (show r=false by rw [HR.out];exact QL k HX HY I.symm);go_wp2_with (go_at_call 59;refine(HC _ R).mono ?_;rintro e w5 ⟨rfl,D⟩;have N5:=q8 D;clear D)
     go_ret;exact⟨by obtain rfl:=f.out;rfl,c.trans (R.trans N5)⟩
    |true=>
     go_wp2_with (go_at_call 59;refine(HC _ R).mono ?_;rintro e w5 ⟨rfl,D⟩;have N5:=q8 D;clear D)
     exact⟨⟨k+1,v,by go_num,ub N HX HY I.symm,c.trans (R.trans N5)⟩,by simp [intOf];omega⟩
   .obtain rfl:k=l.length:=by omega
    have f:=q8 (show r=true by rw [HR.out];exact gi B N);go_wp2_with fail
    go_ret;exact⟨by obtain rfl:=f.out;rfl,c⟩
 .have f:=q8 (show r=false by rw [HR.out];exact uM m)
  have Y:((l.length:Int) !=l'.length)=true:=by rw [bne_iff_ne];omega
  clear m;go_enter Tryz.func58,Tryz.ntmps58;go_wp2_with fail
  go_ret;exact⟨by obtain rfl:=f.out;rfl,Near.refl _⟩
theorem Gx{l l':List Att}(U:RdL S 2 (RdAtt S) w va l)(s:RdL T 2 (RdAtt T) w vb l')(hl:l.length<4611686018427387904)
 (hf: ∀(i:Nat) x y vs H m,Near w m->l[i]? =some x->l'[i]? =some y->RdAtt S m vs x->RdAtt T m H y->Calls qj 62 #[vi vs.toArray,vi H.toArray] m fun e Z=>e=vm (vj (sameA x y))/\Near m Z):
 Calls qj 61 #[va,vb,.func (.func 62) #[] #[]] w fun e m=>e=vm (vj (eqv sameA l l'))/\Near w m:=by
 have HA:=q8 U;have HB:=q8 s;have HF:=q8 hf;obtain⟨ao,ad,rfl⟩:=U.form;obtain⟨bo,ae,rfl⟩:=s.form;clear U s hf;obtain⟨r,hr⟩: ∃r,r=eqv sameA l l':=⟨_,rfl⟩;rw [<-hr];have X:=q8 hr;clear hr;by_cases f:l.length=l'.length
 .have v:=q8 f
  have Q:((l.length:Int) !=l'.length)=false:=by rw [f];simp
  clear f;go_enter Tryz.func61,Tryz.ntmps61;go_wp2_with fail
  go_loopw [7,17] (fun x i wr=> ∃k:Nat,k<=l.length/\i=ve vp k/\(∀(j:Nat) a b,j<k->l[j]? =some a->l'[j]? =some b->sameA a b=true)/\Near w wr) (fun _ i _=>l.length - (intOf i).toNat)
  case atStart=>exact⟨0,qv _,rfl,fun j x y hj=>by omega,Near.refl _⟩
  case round=>
   obtain⟨k,hk,rfl,C,u⟩:=hrel;have J:=q8 C;have c:=q8 u;clear C u;by_cases t:k<l.length
   .have K:k<l'.length:=by rw [<-v.out];exact t
    have ab:(k:Int)<l.length:=by omega
    have aa:(k:Int)<l'.length:=by omega
    obtain⟨x,P⟩: ∃x,l[k]? =some x:=⟨_,qi t⟩;obtain⟨y,L⟩: ∃y,l'[k]? =some y:=⟨_,qi K⟩;obtain⟨g,o,xo,xc,rfl,x0,x1,B⟩:=Q7 (RdL.kept HA c (fun _ _ h=>h) (fun _ h=>h) (fun _ _ h=>h.kept c (fun _ _ h=>h) (fun _ h=>h))) P;obtain⟨g',o',yo,R,rfl,z0,z1,I⟩:=Q7 (RdL.kept HB c (fun _ _ h=>h) (fun _ h=>h) (fun _ _ h=>h.kept c (fun _ _ h=>h) (fun _ h=>h))) L;have HX:=q8 P;have HY:=q8 L;obtain⟨b,s⟩: ∃b,b=sameA x y:=⟨_,rfl⟩;have D:=q8 s;have HC:=q8 (fun(m:World)(u:Near wr m)=>s▸HF.out k x y _ _ m (c.trans u) P L (B.kept u (fun _ _ h=>h) (fun _ h=>h)) (I.kept u (fun _ _ h=>h) (fun _ h=>h)));clear P L B I s;go_upto_region 6 with fail
    clear x0 x1;have⟨V,fb,z,G,O,Y⟩:=zZ wr #[vf x.name,vd xo x.values.length xc] 81;rw [z,G];have y0:V.cell? (vw g' (o'+k*2))=some (vf y.name):=O.cell z0;have y1:V.cell? (vw g' (o'+k*2+1))=some (vd yo y.values.length R):=O.cell z1;clear z0 z1;go_upto_region 7 with fail
    clear y0 y1;have⟨M,E,p,q,n,hY⟩:=zZ V #[vf y.name,vd yo y.values.length R] 81;rw [p,q];have p0:M.cell? fb=some (vf x.name):=cell1 (qE n Y) rfl;have q0:M.cell? E=some (vf y.name):=cell1 hY rfl;have p1:M.cell? (vw fb 1)=some (vd xo x.values.length xc):=cell1 (qE n Y) rfl;have q1:M.cell? (vw E 1)=some (vd yo y.values.length R):=cell1 hY rfl;have N:=q8 (O.trans n);clear z G O Y p q n hY
    cases b with
    |false=>
     have d:=q8 (show r=false by rw [X.out];exact QL k HX HY D.symm);go_wp2_with (go_at_call 62;refine(HC _ N).mono ?_;rintro e w5 ⟨rfl,A⟩;have W:=q8 A;clear A)
     go_ret;exact⟨by obtain rfl:=d.out;rfl,c.trans (N.trans W)⟩
    |true=>
     go_wp2_with (go_at_call 62;refine(HC _ N).mono ?_;rintro e w5 ⟨rfl,A⟩;have W:=q8 A;clear A)
     exact⟨⟨k+1,t,by go_num,ub J HX HY D.symm,c.trans (N.trans W)⟩,by simp [intOf];omega⟩
   .obtain rfl:k=l.length:=by omega
    have d:=q8 (show r=true by rw [X.out];exact gi v J);go_wp2_with fail
    go_ret;exact⟨by obtain rfl:=d.out;rfl,c⟩
 .have d:=q8 (show r=false by rw [X.out];exact uM f)
  have Q:((l.length:Int) !=l'.length)=true:=by rw [bne_iff_ne];omega
  clear f;go_enter Tryz.func61,Tryz.ntmps61;go_wp2_with fail
  go_ret;exact⟨by obtain rfl:=d.out;rfl,Near.refl _⟩
theorem YI{l l':List Ex}(Y:RdL S 3 (RdEx S) w va l)(s:RdL T 3 (RdEx T) w vb l')(hl:l.length<4611686018427387904)
 (hf: ∀(i:Nat) x y vs J n,Near w n->l[i]? =some x->l'[i]? =some y->RdEx S n vs x->RdEx T n J y->Calls qj 65 #[vi vs.toArray,vi J.toArray] n fun e aa=>e=vm (vj (sameE x y))/\Near n aa):
 Calls qj 64 #[va,vb,.func (.func 65) #[] #[]] w fun e n=>e=vm (vj (eqv sameE l l'))/\Near w n:=by
 have HA:=q8 Y;have HB:=q8 s;have HF:=q8 hf;obtain⟨ao,ae,rfl⟩:=Y.form;obtain⟨bo,af,rfl⟩:=s.form;clear Y s hf;obtain⟨r,hr⟩: ∃r,r=eqv sameE l l':=⟨_,rfl⟩;rw [<-hr];have HR:=q8 hr;clear hr;by_cases f:l.length=l'.length
 .have A:=q8 f
  have U:((l.length:Int) !=l'.length)=false:=by rw [f];simp
  clear f;go_enter Tryz.func64,Tryz.ntmps64;go_wp2_with fail
  go_loopw [7,17] (fun x i wr=> ∃k:Nat,k<=l.length/\i=ve vp k/\(∀(j:Nat) a b,j<k->l[j]? =some a->l'[j]? =some b->sameE a b=true)/\Near w wr) (fun _ i _=>l.length - (intOf i).toNat)
  case atStart=>exact⟨0,qv _,rfl,fun j x y hj=>by omega,Near.refl _⟩
  case round=>
   obtain⟨k,hk,rfl,E,z⟩:=hrel;have L:=q8 E;have c:=q8 z;clear E z;by_cases t:k<l.length
   .have M:k<l'.length:=by rw [<-A.out];exact t
    have ad:(k:Int)<l.length:=by omega
    have ab:(k:Int)<l'.length:=by omega
    obtain⟨x,R⟩: ∃x,l[k]? =some x:=⟨_,qi t⟩;obtain⟨y,N⟩: ∃y,l'[k]? =some y:=⟨_,qi M⟩;obtain⟨g,o,xo,xc,rfl,x0,x1,x2,D⟩:=gZ (RdL.kept HA c (fun _ _ h=>h) (fun _ h=>h) (fun _ _ h=>h.kept c (fun _ _ h=>h) (fun _ h=>h))) R;obtain⟨g',X,yo,W,rfl,z0,z1,z2,K⟩:=gZ (RdL.kept HB c (fun _ _ h=>h) (fun _ h=>h) (fun _ _ h=>h.kept c (fun _ _ h=>h) (fun _ h=>h))) N;have HX:=q8 R;have HY:=q8 N;obtain⟨b,s⟩: ∃b,b=sameE x y:=⟨_,rfl⟩;have H:=q8 s;have HC:=q8 (fun(n:World)(z:Near wr n)=>s▸HF.out k x y _ _ n (c.trans z) R N (D.kept z (fun _ _ h=>h) (fun _ h=>h)) (K.kept z (fun _ _ h=>h) (fun _ h=>h)));clear R N D K s;go_upto_region 6 with fail
    clear x0 x1 x2;have⟨V,fb,B,I,G,P⟩:=zZ wr #[ve vq x.op,vf x.name,vd xo x.kids.length xc] 84;rw [B,I];have y0:V.cell? (vw g' (X+k*3))=some (ve vq y.op):=G.cell z0;have y1:V.cell? (vw g' (X+k*3+1))=some (vf y.name):=G.cell z1;have y2:V.cell? (vw g' (X+k*3+2))=some (vd yo y.kids.length W):=G.cell z2;clear z0 z1 z2;go_upto_region 7 with fail
    clear y0 y1 y2;have⟨v,u,p,q,m,Q⟩:=zZ V #[ve vq y.op,vf y.name,vd yo y.kids.length W] 84;rw [p,q];have p0:v.cell? fb=some (ve vq x.op):=cell1 (qE m P) rfl;have q0:v.cell? u=some (ve vq y.op):=cell1 Q rfl;have p1:v.cell? (vw fb 1)=some (vf x.name):=cell1 (qE m P) rfl;have q1:v.cell? (vw u 1)=some (vf y.name):=cell1 Q rfl;have p2:v.cell? (vw fb 2)=some (vd xo x.kids.length xc):=cell1 (qE m P) rfl;have q2:v.cell? (vw u 2)=some (vd yo y.kids.length W):=cell1 Q rfl;have O:=q8 (G.trans m);clear B I G P p q m Q
    cases b with
    |false=>
     have d:=q8 (show r=false by rw [HR.out];exact QL k HX HY H.symm);go_wp2_with (go_at_call 65;refine(HC _ O).mono ?_;rintro e w5 ⟨rfl,C⟩;have Z:=q8 C;clear C)
     go_ret;exact⟨by obtain rfl:=d.out;rfl,c.trans (O.trans Z)⟩
    |true=>
     go_wp2_with (go_at_call 65;refine(HC _ O).mono ?_;rintro e w5 ⟨rfl,C⟩;have Z:=q8 C;clear C)
     exact⟨⟨k+1,t,by go_num,ub L HX HY H.symm,c.trans (O.trans Z)⟩,by simp [intOf];omega⟩
   .obtain rfl:k=l.length:=by omega
    have d:=q8 (show r=true by rw [HR.out];exact gi A L);go_wp2_with fail
    go_ret;exact⟨by obtain rfl:=d.out;rfl,c⟩
 .have d:=q8 (show r=false by rw [HR.out];exact uM f)
  have U:((l.length:Int) !=l'.length)=true:=by rw [bne_iff_ne];omega
  clear f;go_enter Tryz.func64,Tryz.ntmps64;go_wp2_with fail
  go_ret;exact⟨by obtain rfl:=d.out;rfl,Near.refl _⟩
theorem X8{S T:Nat→Prop}{z:List Value}{y:Grp}(R:RdGrp S w vs x)(N:RdGrp T w z y)(J:x.members.length<4611686018427387904):
 Calls qj 59 #[vi vs.toArray,vi z.toArray] w fun e H=>e=vm (vj (sameG x y))∧Near w H:=by
 have⟨p,j,f,l⟩:=x;have⟨i,c,a,d⟩:=y;obtain⟨v,rfl,G,-⟩:=R;obtain⟨Y,rfl,m,-⟩:=N;obtain⟨D,C,rfl⟩:=G.form;obtain⟨k,g,rfl⟩:=m.form;dsimp only at G m J⊢;have u:=q8 (fun(H:World)(L:Near w H)=>X7 (G.kept L (fun _ _ h=>h) (fun _ h=>h) (fun _ _ h=>h)) (m.kept L (fun _ _ h=>h) (fun _ h=>h) (fun _ _ h=>h)) J);have o:Hid (sameG ⟨p,j,f,l⟩ ⟨i,c,a,d⟩=(decide (p=i)&&decide (j=c)&&decide (f=a)&&eqv sameI l d)):=rfl;generalize sameG ⟨p,j,f,l⟩ ⟨i,c,a,d⟩=r at o⊢;generalize eqv sameI l d=b at u o;have Q: ∀W,W=(w.alloc (vk #[ve vp p,ve vp j,ve vp f,vd D l.length C] 78)).alloc (vk #[ve vp i,ve vp c,ve vp a,vd k d.length g] 78)→Near w W∧W.heap[w.heap.size]? =some (vk #[ve vp p,ve vp j,ve vp f,vd D l.length C] 78 (0,0))∧W.heap[w.heap.size+1]? =some (vk #[ve vp i,ve vp c,ve vp a,vd k d.length g] 78 (0,0)):=by
  rintro W rfl;exact⟨((Near.refl w).alloc _).alloc _,by rw [qD (by simp),heap_new_at rfl],heap_new_at (by simp)⟩
 go_enter Tryz.func59,Tryz.ntmps59;go_upto_region 1 with fail
 have K:=Q _ rfl;generalize(w.alloc (vk #[ve vp p,ve vp j,ve vp f,vd D l.length C] 78)).alloc (vk #[ve vp i,ve vp c,ve vp a,vd k d.length g] 78)=W at K⊢;have⟨P,B,E⟩:=K;have p0:W.cell? w.heap.size=some (ve vp p):=cell1 B rfl;have U:W.cell? (vw w.heap.size 1)=some (ve vp j):=cell1 B rfl;have Z:W.cell? (vw w.heap.size 2)=some (ve vp f):=cell1 B rfl;have p3:W.cell? (vw w.heap.size 3)=some (vd D l.length C):=cell1 B rfl;have X:W.cell? (vw (w.heap.size+1) 0)=some (ve vp i):=cell1 E rfl;have q1:W.cell? (vw (w.heap.size+1) 1)=some (ve vp c):=cell1 E rfl;have q2:W.cell? (vw (w.heap.size+1) 2)=some (ve vp a):=cell1 E rfl;have q3:W.cell? (vw (w.heap.size+1) 3)=some (vd k d.length g):=cell1 E rfl;have t:=q8 P;by_cases q:p=i
 ·by_cases s:j=c
  ·by_cases A:f=a
   ·have n:=q8 (show r=b by rw [o.out,decide_eq_true q,decide_eq_true s,decide_eq_true A];rfl)
    subst q s A;go_wp2_with (go_at_call 60;refine(u _ t).mono ?_;rintro e V ⟨rfl,O⟩;have M:=q8 O)
    go_ret;exact⟨by obtain rfl:=n.out;rfl,t.trans M⟩
   ·have n:=q8 (show r=false by rw [o.out,decide_eq_false A];simp)
    have I:(f==a)=false:=beq_eq_false_iff_ne.2 A;subst q s;go_wp2
    go_ret;exact⟨by obtain rfl:=n.out;rfl,t⟩
  ·have n:=q8 (show r=false by rw [o.out,decide_eq_false s];simp)
   have I:(j==c)=false:=beq_eq_false_iff_ne.2 s;subst q;go_wp2
   go_ret;exact⟨by obtain rfl:=n.out;rfl,t⟩
 ·have n:=q8 (show r=false by rw [o.out,decide_eq_false q];simp)
  have I:(p==i)=false:=beq_eq_false_iff_ne.2 q;go_wp2
  go_ret;exact⟨by obtain rfl:=n.out;rfl,t⟩
theorem X9{S T:Nat→Prop}{k:List Value}{x y:Att}(K:RdAtt S w vs x)(G:RdAtt T w k y)(z:x.values.length<4611686018427387904):
 Calls qj 62 #[vi vs.toArray,vi k.toArray] w fun e s=>e=vm (vj (sameA x y))∧Near w s:=by
 have⟨p,g⟩:=x;have⟨d,a⟩:=y;obtain⟨v,rfl,q⟩:=K;obtain⟨P,rfl,i⟩:=G;obtain⟨n,l,rfl⟩:=q.form;obtain⟨f,c,rfl⟩:=i.form;dsimp only at q i z⊢;have j:=q8 (fun(s:World)(D:Near w s)=>X5 (q.kept D (fun _ _ h=>h) (fun _ h=>h) (fun _ _ h=>h)) (i.kept D (fun _ _ h=>h) (fun _ h=>h) (fun _ _ h=>h)) z);have m:Hid (sameA ⟨p,g⟩ ⟨d,a⟩=(decide (p=d)&&eqv sameI g a)):=rfl;generalize sameA ⟨p,g⟩ ⟨d,a⟩=r at m⊢;generalize eqv sameI g a=b at j m;have J: ∀W,W=(w.alloc (vk #[vf p,vd n g.length l] 81)).alloc (vk #[vf d,vd f a.length c] 81)→Near w W∧W.heap[w.heap.size]? =some (vk #[vf p,vd n g.length l] 81 (0,0))∧W.heap[w.heap.size+1]? =some (vk #[vf d,vd f a.length c] 81 (0,0)):=by
  rintro W rfl;exact⟨((Near.refl w).alloc _).alloc _,by rw [qD (by simp),heap_new_at rfl],heap_new_at (by simp)⟩
 go_enter Tryz.func62,Tryz.ntmps62;go_upto_region 1 with fail
 have B:=J _ rfl;generalize(w.alloc (vk #[vf p,vd n g.length l] 81)).alloc (vk #[vf d,vd f a.length c] 81)=W at B⊢;have⟨H,A,C⟩:=B;have R:W.cell? w.heap.size=some (vf p):=cell1 A rfl;have M:W.cell? (vw w.heap.size 1)=some (vd n g.length l):=cell1 A rfl;have O:W.cell? (vw (w.heap.size+1) 0)=some (vf d):=cell1 C rfl;have Q:W.cell? (vw (w.heap.size+1) 1)=some (vd f a.length c):=cell1 C rfl;have t:=q8 H;by_cases o:p=d
 ·have u:=q8 (show r=b by rw [m.out,decide_eq_true o];rfl)
  subst o;go_wp2_with (go_at_call 63;refine(j _ t).mono ?_;rintro e N ⟨rfl,I⟩;have E:=q8 I)
  go_ret;exact⟨by obtain rfl:=u.out;rfl,t.trans E⟩
 ·have u:=q8 (show r=false by rw [m.out,decide_eq_false o];simp)
  have L:(p.toList==d.toList)=false:=JI o;go_wp2
  go_ret;exact⟨by obtain rfl:=u.out;rfl,t⟩
theorem KS: ∀{x:Ex}{S T:Nat→Prop}{w:World}{vs f:List Value}{y:Ex},RdEx S w vs x→RdEx T w f y→x.size<4611686018427387904→
 Calls qj 65 #[vi vs.toArray,vi f.toArray] w fun e D=>e=vm (vj (sameE x y))∧Near w D:=by
 intro x;induction x using Ex.ind with
 |h p l d U=>
 intro S T w vs f y B M G;have⟨k,a,c⟩:=y;obtain⟨v,rfl,I⟩:=B.inv;obtain⟨Z,rfl,o⟩:=M.inv;obtain⟨A,z,rfl⟩:=I.form;obtain⟨j,g,rfl⟩:=o.form;have R:Ex.sizes d<4611686018427387904:=by simp only [Ex.size]at G;omega
 have t:=q8 (fun(D:World)(C:Near w D)=>YI (I.kept C (fun _ _ h=>h) (fun _ h=>h) (fun _ _ h=>h.kept C (fun _ _ h=>h) (fun _ h=>h))) (o.kept C (fun _ _ h=>h) (fun _ h=>h) (fun _ _ h=>h.kept C (fun _ _ h=>h) (fun _ h=>h))) (by have:d.length≤Ex.sizes d:=q3N d;omega)
  (fun i x y vs f P _ B _ n m=>U x (qp B) n m (by have:=Ex.sizes_mem (qp B);omega)))
 have q:=q8 (q3g p k l a d c);generalize sameE (.mk p l d) (.mk k a c)=r at q⊢;generalize eqv sameE d c=b at t q;have Q: ∀W,W=(w.alloc (vk #[ve vq p,vf l,vd A d.length z] 84)).alloc (vk #[ve vq k,vf a,vd j c.length g] 84)→Near w W∧W.heap[w.heap.size]? =some (vk #[ve vq p,vf l,vd A d.length z] 84 (0,0))∧W.heap[w.heap.size+1]? =some (vk #[ve vq k,vf a,vd j c.length g] 84 (0,0)):=by
  rintro W rfl;exact⟨((Near.refl w).alloc _).alloc _,by rw [qD (by simp),heap_new_at rfl],heap_new_at (by simp)⟩
 go_enter Tryz.func65,Tryz.ntmps65;go_upto_region 1 with fail
 have J:=Q _ rfl;generalize(w.alloc (vk #[ve vq p,vf l,vd A d.length z] 84)).alloc (vk #[ve vq k,vf a,vd j c.length g] 84)=W at J⊢;have⟨N,E,H⟩:=J;have p0:W.cell? w.heap.size=some (ve vq p):=cell1 E rfl;have V:W.cell? (vw w.heap.size 1)=some (vf l):=cell1 E rfl;have p2:W.cell? (vw w.heap.size 2)=some (vd A d.length z):=cell1 E rfl;have Y:W.cell? (vw (w.heap.size+1) 0)=some (ve vq k):=cell1 H rfl;have q1:W.cell? (vw (w.heap.size+1) 1)=some (vf a):=cell1 H rfl;have q2:W.cell? (vw (w.heap.size+1) 2)=some (vd j c.length g):=cell1 H rfl;have u:=q8 N;by_cases n:p=k
 ·by_cases m:l=a
  ·have s:=q8 (show r=b by rw [q.out,decide_eq_true n,decide_eq_true m];rfl)
   subst n m;go_wp2_with (go_at_call 64;refine(t _ u).mono ?_;rintro e X ⟨rfl,O⟩;have K:=q8 O)
   go_ret;exact⟨by obtain rfl:=s.out;rfl,u.trans K⟩
  ·have s:=q8 (show r=false by rw [q.out,decide_eq_false m];simp)
   have L:(l.toList==a.toList)=false:=JI m;subst n;go_wp2
   go_ret;exact⟨by obtain rfl:=s.out;rfl,u⟩
 ·have s:=q8 (show r=false by rw [q.out,decide_eq_false n];simp)
  have L:((p:Int)==(k:Int))=false:=beq_eq_false_iff_ne.2 (by omega);go_wp2
  go_ret;exact⟨by obtain rfl:=s.out;rfl,u⟩
theorem Xu: ∀{x:Ex}{S:Nat→Prop}{w:World}{vs:List Value}{lv lf:Int},RdEx S w vs x→0≤lv→lv≤100→0≤lf→lf≤1200→
 Calls qj 114 #[vi vs.toArray,ve vp lv,ve vp lf] w fun e w'=>e=vm (ve vp (countE x lv lf))∧Near w w':=by
 intro x;induction x using Ex.ind with
 |h op nm kids ih=>
 intro S w vs lv lf hx hv0 hv1 hf0 hf1;obtain⟨sv,rfl,hs⟩:=hx.inv;obtain⟨so,sc,rfl⟩:=hs.form;have HS:=q8 hs;have HIh:=q8 (fun(k:Ex)(hk:k∈kids)(w':World)(vs:List Value)(lv lf:Int)(hn:Near w w')(h:RdEx S w vs k)=>ih k hk (lv:=lv) (lf:=lf) (h.kept hn (fun _ _ h=>h) (fun _ h=>h)));have HQ:=q8 (show countE (.mk op nm kids) lv lf=if lv=0∨lf - 1<0∨100<nm.size then -1 else countL kids (lv - 1) (lf - 1) by rw [countE]);generalize countE (.mk op nm kids) lv lf=r at HQ⊢;have hW: ∀W,W=w.alloc (vk #[ve vq op,vf nm,vd so kids.length sc] 84)→Near w W∧W.heap[w.heap.size]? =some (vk #[ve vq op,vf nm,vd so kids.length sc] 84 (0,0)):=by
  rintro W rfl;exact⟨(Near.refl w).alloc _,heap_new_at rfl⟩
 clear hx hs ih;go_enter Tryz.func114,Tryz.ntmps114;go_upto_region 1 with fail
 have h0:=hW _ rfl;generalize w.alloc (vk #[ve vq op,vf nm,vd so kids.length sc] 84)=W at h0⊢;have⟨hN,hE⟩:=h0;have c1:W.cell? (vw w.heap.size 1)=some (vf nm):=cell1 hE rfl;have HN:=q8 hN;have HE:=q8 hE;clear hW hN hE;by_cases h1:lv=0
 ·have HR:=q8 (show r= -1 by rw [HQ.out,if_pos (vu h1)])
  subst h1;go_wp2_with fail
  go_ret;exact⟨by obtain rfl:=HR.out;rfl,HN⟩
 have e1:(lv==0)=false:=beq_eq_false_iff_ne.2 h1;by_cases h2:lf - 1<0
 ·have HR:=q8 (show r= -1 by rw [HQ.out,if_pos (vv (vu h2))])
  obtain rfl:lf=0:=by omega
  clear h2;go_wp2_with fail
  go_ret;exact⟨by obtain rfl:=HR.out;rfl,HN⟩
 have h2':0≤lf - 1:=by omega
 by_cases h3:100<nm.size
 ·have HR:=q8 (show r= -1 by rw [HQ.out,if_pos (vv (vv h3))])
  have h3':(100:Int)<nm.size:=by omega
  clear h3;go_wp2_with fail
  go_ret;exact⟨by obtain rfl:=HR.out;rfl,HN⟩
 have h3': ¬(100:Int)<nm.size:=by omega
 have HR:=q8 (show r=countL kids (lv - 1) (lf - 1) by rw [HQ.out,if_neg (by omega)]);have hv2:0≤lv - 1:=by omega
 clear h2 h3 HQ;go_wp2_with fail
 clear c1 h3' e1;go_loopw [2,7] (fun n ix wr=> ∃(k:Nat)(a:Int),k≤kids.length∧ix=ve vp k∧n=ve vp a∧a=countL (kids.take k) (lv - 1) (lf - 1)∧ -1≤a∧a+k≤lf - 1∧Near W wr) (fun _ ix _=>kids.length - (intOf ix).toNat)
 case atStart=>exact⟨0,lf - 1,qv _,rfl,rfl,by rw [List.take_zero,countL],by omega,by simp,Near.refl _⟩
 case round=>
  obtain⟨k,a,hk,rfl,rfl,ha,ha0,ha1,hnr⟩:=hrel;have HA:=q8 ha;have HNr:=q8 hnr;have hk1:(k:Int)≤1201:=by omega
  have hk2:k≤1201:=by omega
  have ha2:a≤1200:=by omega
  have c2:wr.cell? (vw w.heap.size 2)=some (vd so kids.length sc):=cell1 (qE hnr HE) rfl;clear ha hnr;by_cases hlt:k<kids.length
  ·have hlt':(k:Int)<kids.length:=by omega
   by_cases han:0≤a
   ·obtain⟨y,hy⟩: ∃y,kids[k]? =some y:=⟨_,qi hlt⟩
    obtain⟨g,o,yo,yc,rfl,d0,d1,d2,hry⟩:=gZ HS hy;have y0:wr.cell? (vw g (o+k*3))=some (ve vq y.op):=(HN.trans HNr).cell d0;have y1:wr.cell? (vw g (o+k*3+1))=some (vf y.name):=(HN.trans HNr).cell d1;have y2:wr.cell? (vw g (o+k*3+2))=some (vd yo y.kids.length yc):=(HN.trans HNr).cell d2;have HY:=q8 (U0 (lv:=lv - 1) (lf:=lf - 1) hy);have hkey:=Kg y (lv - 1) a;have HC:=q8 (HIh y (qp hy) wr _ (lv - 1) a (HN.trans HNr) hry hv2 (by omega) han ha2);obtain⟨c,hc⟩: ∃c,c=countE y (lv - 1) a:=⟨_,rfl⟩;have hc0: -1≤c:=by rw [hc];exact hkey.1
    have hc1:c<a:=by rw [hc];exact hkey.2.1 han
    have HCc:=q8 hc;rw [←hc]at HC;clear d0 d1 d2 hy hry hc hkey;go_wp2_with (go_at_call 114;refine HC.mono ?_;rintro e w1 ⟨rfl,n1⟩;have N1:=q8 n1;clear n1)
    exact⟨⟨k+1,c,hlt,by go_num,rfl,by rw [HY.out,←HA.out,if_pos han,HCc.out],hc0,by omega,HNr.trans N1⟩,by simp [intOf];omega⟩
   ·have HRr:=q8 (show r=a by rw [HR.out,HA.out];exact U1 k (by rw [←HA.out];omega))
    go_wp2_with fail
    go_ret;exact⟨by obtain rfl:=HRr.out;rfl,HN.trans HNr⟩
  ·obtain rfl:k=kids.length:=by omega
   have HRr:=q8 (show r=a by rw [HR.out,HA.out,List.take_length]);go_wp2_with fail
   go_ret;exact⟨by obtain rfl:=HRr.out;rfl,HN.trans HNr⟩
theorem XL{x:Ex}{S:Nat→Prop}(n:RdEx S w vs x):
 Calls qj 35 #[vi vs.toArray,ve vp 100] w fun e j=>e=vm (vj (greatE x))∧Near w j:=by
 have o:=q8 (fun(j:World)(v:Near w j)=>Xu (lv:=100) (lf:=1200) (n.kept v (fun _ _ h=>h) (fun _ h=>h)) (by omega) (by omega) (by omega) (by omega));have k:Hid (greatE x=decide (countE x 100 1200<0)):=rfl;generalize greatE x=r at k⊢;generalize countE x 100 1200=c at o k;have⟨f,d,a⟩:=x;obtain⟨z,rfl,t⟩:=n.inv;obtain⟨g,b,rfl⟩:=t.form;have u: ∀W,W=w.alloc (vk #[ve vq f,vf d,vd g a.length b] 84)→Near w W∧W.heap[w.heap.size]? =some (vk #[ve vq f,vf d,vd g a.length b] 84 (0,0)):=by
  rintro W rfl;exact⟨(Near.refl w).alloc _,heap_new_at rfl⟩
 go_enter Tryz.func35,Tryz.ntmps35;go_upto_region 1 with fail
 have l:=u _ rfl;generalize w.alloc (vk #[ve vq f,vf d,vd g a.length b] 84)=W at l⊢;have⟨q,i⟩:=l;have B:W.cell? w.heap.size=some (ve vq f):=cell1 i rfl;have C:W.cell? (vw w.heap.size 1)=some (vf d):=cell1 i rfl;have A:W.cell? (vw w.heap.size 2)=some (vd g a.length b):=cell1 i rfl;have m:=q8 q;go_wp2_with (go_at_call 114;refine(o _ m).mono ?_;rintro e y ⟨rfl,s⟩;have p:=q8 s)
 go_ret;exact⟨by rw [k.out];rfl,m.trans p⟩
theorem Z8{l:List α}{P:α->Prop}(h: ∀(j:Nat) y,j<l.length->l[j]? =some y->P y): ∀x∈l,P x:=fun x b=>by
 have⟨j,a⟩:=qZ b;exact h j x (qm.1 a).1 a
theorem Je{P:α->Prop}{l:List α}{x:α}(h: ∀(j:Nat) y,j<k->l[j]? =some y->P y)(b:l[k]? =some x)(c:P x): ∀(j:Nat) y,j<k+1->l[j]? =some y->P y:=by
 intro j y d a;by_cases e:j=k
 .subst e
  rw [b]at a
  cases a;exact c
 .exact h j y (by omega) a
theorem q3U(h: ¬q2J m):greatM m=true:=by
 cases a:greatM m with
 |true=>rfl
 |false=>exact absurd (uC.1 a) h
theorem wW{S:Nat→Prop}(h:RdMod S w v m):
 Calls qj 8 #[v] w fun e w'=>e=vm (vj (greatM m))∧Near w w':=by
 obtain⟨R,I,Q,L,N,H,G,E,K,J,rfl,hF,hG,u,hE,hL,-⟩:=RdMod.form h;have B:=q8 (q3U (m:=m));have HZ:=q8 ((uC (m:=m)).2);generalize greatM m=r at B HZ⊢;have hW: ∀W,W=w.alloc (vk #[vd R m.feats.length I,vd Q m.grps.length L,vd N m.atts.length H,vd G m.reqs.length E,vd K m.lims.length J] 28)→Near w W∧W.heap[w.heap.size]? =some (vk #[vd R m.feats.length I,vd Q m.grps.length L,vd N m.atts.length H,vd G m.reqs.length E,vd K m.lims.length J] 28 (0,0)):=by
  rintro W rfl;exact⟨(Near.refl w).alloc _,heap_new_at rfl⟩
 have ab:=q8 hF;have ag:=q8 hG;have af:=q8 u;have aa:=q8 hE;go_enter Tryz.func8,Tryz.ntmps8;go_upto_region 1 with fail
 have h0:=hW _ rfl;generalize w.alloc (vk #[vd R m.feats.length I,vd Q m.grps.length L,vd N m.atts.length H,vd G m.reqs.length E,vd K m.lims.length J] 28)=W at h0⊢;have⟨hN,u⟩:=h0;have q0:W.cell? w.heap.size=some (vd R m.feats.length I):=cell1 u rfl;have q1:W.cell? (vw w.heap.size 1)=some (vd Q m.grps.length L):=cell1 u rfl;have q2:W.cell? (vw w.heap.size 2)=some (vd N m.atts.length H):=cell1 u rfl;have q3:W.cell? (vw w.heap.size 3)=some (vd G m.reqs.length E):=cell1 u rfl;have q4:W.cell? (vw w.heap.size 4)=some (vd K m.lims.length J):=cell1 u rfl;have k:=q8 hN;have HA:=q8 u;have C:(m.feats.length≤40∧m.grps.length≤40∧m.atts.length≤20∧m.reqs.length≤70∧m.lims.length≤40)∨(r=true∧((40:Int)<m.feats.length∨(¬(40:Int)<m.feats.length∧(40:Int)<m.grps.length)∨(¬(40:Int)<m.feats.length∧ ¬(40:Int)<m.grps.length∧(20:Int)<m.atts.length)∨(¬(40:Int)<m.feats.length∧ ¬(40:Int)<m.grps.length∧ ¬(20:Int)<m.atts.length∧(70:Int)<m.reqs.length)∨(¬(40:Int)<m.feats.length∧ ¬(40:Int)<m.grps.length∧ ¬(20:Int)<m.atts.length∧ ¬(70:Int)<m.reqs.length∧(40:Int)<m.lims.length))):=by
  by_cases hh:m.feats.length≤40∧m.grps.length≤40∧m.atts.length≤20∧m.reqs.length≤70∧m.lims.length≤40
  ·exact vu hh
  ·exact vv ⟨B fun h=>hh ⟨h.feats,h.grps,h.atts,h.reqs,h.lims⟩,by omega⟩
 rcases C with⟨l0,l1,l2,l3,l4⟩|⟨hr,hw⟩
 case inr=>
  have l:=q8 hr;rcases hw with O|⟨O,Y⟩|⟨O,Y,h3⟩|⟨O,Y,h3,h4⟩|⟨O,Y,h3,h4,h5⟩
  all_goals
   go_wp2_with fail
   go_ret;exact⟨by obtain rfl:=l.out;rfl,k⟩
 have g0: ¬(40:Int)<m.feats.length:=by omega
 have g1: ¬(40:Int)<m.grps.length:=by omega
 have g2: ¬(20:Int)<m.atts.length:=by omega
 have g3: ¬(70:Int)<m.reqs.length:=by omega
 have g4: ¬(40:Int)<m.lims.length:=by omega
 go_wp2_with fail
 go_loop [3] (fun f=> ∃i:Nat,i≤m.feats.length∧f=ve vp i∧(∀j y,j<i→m.feats[j]? =some y→y.name.size≤100)) (fun f=>m.feats.length - (intOf f).toNat)
 case atStart=>exact⟨0,qv _,rfl,fun j y hj=>by omega⟩
 case round=>
  obtain⟨i,hi,rfl,c⟩:=hrel;have d:=q8 c;by_cases b:i<m.feats.length
  ·have p:(i:Int)<m.feats.length:=by omega
   obtain⟨x,t⟩: ∃x,m.feats[i]? =some x:=⟨_,qi b⟩;obtain⟨g,o,rfl,k0,k1,k2⟩:=we (ab.kept k (fun _ _ h=>h) (fun _ h=>h) (fun _ _ h=>h)) t;have n:=q8 t;by_cases z:x.name.size≤100
   ·have s: ¬(100:Int)<x.name.size:=by omega
    have A:=q8 z;go_wp2_with fail
    go_round
    case rel=>exact⟨i+1,b,by go_num,Je (P:=fun(y:xM)=>y.name.size≤100) d n A⟩
    case measure=>simp [intOf];omega
   ·have l:=q8 (B fun h=>z (h.names x (qp n)))
    have s:(100:Int)<x.name.size:=by omega
    go_wp2_with fail
    go_ret;exact⟨by obtain rfl:=l.out;rfl,k⟩
  ·obtain rfl:i=m.feats.length:=by omega
   have HF:=q8 (Z8 (P:=fun(y:xM)=>y.name.size≤100) d);go_wp2_with fail
   go_loop [4] (fun f=> ∃i:Nat,i≤m.grps.length∧f=ve vp i∧(∀j y,j<i→m.grps[j]? =some y→y.members.length≤60)) (fun f=>m.grps.length - (intOf f).toNat)
   case atStart=>exact⟨0,qv _,rfl,fun j y hj=>by omega⟩
   case round=>
    obtain⟨i,hi,rfl,c⟩:=hrel;have d:=q8 c;by_cases b:i<m.grps.length
    ·have p:(i:Int)<m.grps.length:=by omega
     obtain⟨x,t⟩: ∃x,m.grps[i]? =some x:=⟨_,qi b⟩;obtain⟨g,o,so,sc,rfl,k0,k1,k2,k3,-⟩:=ZD (ag.kept k (fun _ _ h=>h) (fun _ h=>h) (fun _ _ h=>h.kept k (fun _ _ h=>h) (fun _ h=>h))) t;have n:=q8 t;by_cases z:x.members.length≤60
     ·have s: ¬(60:Int)<x.members.length:=by omega
      have A:=q8 z;go_wp2_with fail
      go_round
      case rel=>exact⟨i+1,b,by go_num,Je (P:=fun(y:Grp)=>y.members.length≤60) d n A⟩
      case measure=>simp [intOf];omega
     ·have l:=q8 (B fun h=>z (h.mems x (qp n)))
      have s:(60:Int)<x.members.length:=by omega
      go_wp2_with fail
      go_ret;exact⟨by obtain rfl:=l.out;rfl,k⟩
    ·obtain rfl:i=m.grps.length:=by omega
     have HM:=q8 (Z8 (P:=fun(y:Grp)=>y.members.length≤60) d);go_wp2_with fail
     go_loop [5] (fun f=> ∃i:Nat,i≤m.atts.length∧f=ve vp i∧(∀j y,j<i→m.atts[j]? =some y→y.name.size≤100∧y.values.length≤60)) (fun f=>m.atts.length - (intOf f).toNat)
     case atStart=>exact⟨0,qv _,rfl,fun j y hj=>by omega⟩
     case round=>
      obtain⟨i,hi,rfl,c⟩:=hrel;have d:=q8 c;by_cases b:i<m.atts.length
      ·have p:(i:Int)<m.atts.length:=by omega
       obtain⟨x,t⟩: ∃x,m.atts[i]? =some x:=⟨_,qi b⟩;obtain⟨g,o,so,sc,rfl,k0,k1,-⟩:=Q7 (af.kept k (fun _ _ h=>h) (fun _ h=>h) (fun _ _ h=>h.kept k (fun _ _ h=>h) (fun _ h=>h))) t;have n:=q8 t;by_cases z:x.name.size≤100
       ·have s: ¬(100:Int)<x.name.size:=by omega
        by_cases ht:x.values.length≤60
        ·have ae: ¬(60:Int)<x.values.length:=by omega
         have A:=q8 (show x.name.size≤100∧x.values.length≤60 from⟨z,ht⟩);go_wp2_with fail
         go_round
         case rel=>exact⟨i+1,b,by go_num,Je (P:=fun(y:Att)=>y.name.size≤100∧y.values.length≤60) d n A⟩
         case measure=>simp [intOf];omega
        ·have l:=q8 (B fun h=>ht (h.vals x (qp n)))
         have ae:(60:Int)<x.values.length:=by omega
         go_wp2_with fail
         go_ret;exact⟨by obtain rfl:=l.out;rfl,k⟩
       ·have l:=q8 (B fun h=>z (h.anames x (qp n)))
        have s:(100:Int)<x.name.size:=by omega
        go_wp2_with fail
        go_ret;exact⟨by obtain rfl:=l.out;rfl,k⟩
      ·obtain rfl:i=m.atts.length:=by omega
       have HV:=q8 (Z8 (P:=fun(y:Att)=>y.name.size≤100∧y.values.length≤60) d);go_wp2_with fail
       go_loopw [6] (fun f wr=> ∃i:Nat,i≤m.reqs.length∧f=ve vp i∧(∀j y,j<i→m.reqs[j]? =some y→greatE y=false)∧Near W wr) (fun f _=>m.reqs.length - (intOf f).toNat)
       case atStart=>exact⟨0,qv _,rfl,fun j y hj=>by omega,Near.refl _⟩
       case round=>
        obtain⟨i,hi,rfl,c,D⟩:=hrel;have d:=q8 c;have q:=q8 D;have q3:wr.cell? (vw w.heap.size 3)=some (vd G m.reqs.length E):=cell1 (qE D HA) rfl;by_cases b:i<m.reqs.length
        ·have p:(i:Int)<m.reqs.length:=by omega
         obtain⟨x,t⟩: ∃x,m.reqs[i]? =some x:=⟨_,qi b⟩;obtain⟨g,o,so,sc,rfl,k0,k1,k2,ad⟩:=gZ (aa.kept (k.trans q) (fun _ _ h=>h) (fun _ h=>h) (fun _ _ h=>h.kept (k.trans q) (fun _ _ h=>h) (fun _ h=>h))) t;have n:=q8 t;have U:=q8 (XL ad)
         cases M:greatE x with
         |false=>
          rw [M]at U;have A:=q8 M;go_wp2_with (go_at_call 35;refine U.mono ?_;rintro e w1 ⟨rfl,X⟩;have V:=q8 X)
          exact⟨⟨i+1,b,by go_num,Je (P:=fun y=>greatE y=false) d n A,q.trans V⟩,by simp [intOf];omega⟩
         |true=>
          have l:=q8 (B fun h=>by have:=h.exs x (qp n);rw [M]at this;cases this);rw [M]at U;go_wp2_with (go_at_call 35;refine U.mono ?_;rintro e w1 ⟨rfl,X⟩;have V:=q8 X)
          go_ret;exact⟨by obtain rfl:=l.out;rfl,k.trans (q.trans V)⟩
        ·obtain rfl:i=m.reqs.length:=by omega
         have l:=q8 (HZ ⟨l0,l1,l2,l3,l4,HF,HM,fun a Z=>(HV a Z).1,fun a Z=>(HV a Z).2,Z8 (P:=fun y=>greatE y=false) d⟩);go_wp2_with fail
         go_ret;exact⟨by obtain rfl:=l.out;rfl,k.trans q⟩
end Go.Proofs.YtjcbmcnbdegpmaaGreatDoor
