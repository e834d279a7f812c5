/- LinJ, AddA, FixA, CntB, FixP, ListA, MPrint, MROne. -/
import Derived.Laws.CopyOwn
import Derived.Laws.BitsAllLaws
import Derived.Lib.Join
import Derived.Test.YtjcbmcnbdegpmaaGreatDoorKMOpen
set_option maxRecDepth 100000
set_option maxHeartbeats 12800000
set_option linter.unusedVariables false
open Array renaming getElem?_eq_some_iff->qk
open Bool renaming eq_iff_iff->zq
open Go renaming bodyPost_ret->qo,results->qC
open Go.Ending renaming returned->jM
open Go.Lib renaming hid->q8,join->zL
open Go.Proofs.Tryz renaming prog->qj,results151->Wu,underlying79->JO
open Go.RowKit.Below renaming heap_setCell->zg
open Go.Value renaming int->qs,ownBlock->zN
open Go.World renaming ownsRow_nil->qW
open List renaming getElem?_append_left->zc,getElem?_append_right->qV,getElem?_eq_getElem->qi,getElem?_eq_none->zP,getElem?_map->qA,getElem?_set->j8,getElem?_toArray->ye,length_map->qG,setIfInBounds_toArray->qb,set_cons_succ->qd,set_cons_zero->qh
open Nat renaming le_refl->qt,le_trans->qH,lt_irrefl->jo,not_succ_le_self->um
open Go.Value renaming slice->vd,int->ve,string->vf,pointer->vg,agg->vi,bool->vj
open Go.Obj renaming cells->vk
open Go.Ending renaming returned->vm
open Go.IntKind renaming i64->vp,u8->vq,u32->vr,u64->vt
open Or renaming inl->vu,inr->vv
namespace Go.Proofs.YtjcbmcnbdegpmaaGreatDoor
open Go Go.RowKit Go.Proofs.Gen Go.Proofs.Bdd Go.Proofs.Bdd.T
variable{S:Nat->Prop}{a:Nat->Int}{ao:Option Addr}{b cap d e rel:Nat}{c:Nat->Value}{f:F}{l:List Int}{v:Value}{w:World}
theorem Jy(a b:Value)(c:Int)(w:World):Sem.run qj (Instr.field 274 (vi #[a,b,ve vp c]) 2) w= .ok (ve vp c) w:=by
 unfold Instr.field;simp [run_underlying Tryz.underlying274,part,asAgg]
theorem vO.copyable{n:Nat}(h:vO w (vd ao n cap) l)(p:0<l.length):
 ∃g,ao=some g/\ ∀j u,(l.map (fun x=>qs vp x))[j]? =some u->w.cell? (g.add j)=some u:=by
 have⟨o,f,e,k⟩:=h
 cases e;obtain⟨b,c,rfl,-⟩:=k 0 _ (qi p);refine⟨_,rfl,fun j u a=> ?_⟩;rw [qA]at a
 cases d:l[j]? with
 |none=>rw [d]at a;cases a
 |some x=>
  rw [d]at a
  cases a;have⟨r,i,e,m⟩:=k j x d
  cases e;have q:(⟨b,c,none⟩:Addr).add j=⟨b,c+j,none⟩:=by
   unfold Addr.add;by_cases h:j=0<;>simp [h]
  rw [q];exact m
theorem QG{d:Value}{b:List Value}(j:b[0]? =some (vg e))(q:b.length=50)(k: ∀i,i<24->b[1+i]? =some (ve vp (a i)))(l:b[25]? =some d)
 (o: ∀i,i<24->b[26+i]? =some (c i)):b=linCells e a d c:=by
 refine List.ext_getElem? fun n=> ?_;by_cases h:n<50
 .by_cases f:n=0
  .subst f;exact j
  .by_cases p:n<25
   .obtain⟨m,rfl⟩: ∃m,n=1+m:=⟨n - 1,by omega⟩
    rw [k m (by omega),jl (by omega)]
   .by_cases g:n=25
    .subst g
     rw [l,yO]
    .obtain⟨m,rfl⟩: ∃m,n=26+m:=⟨n - 26,by omega⟩
     rw [o m (by omega),yA (by omega)]
 .rw [zP (by omega),zP (by rw [jg];omega)]
theorem Zz{c:Value}{b:Nat->Value}(m:l.length<=24):splice (linCells d (fun _=>0) c b) 1 (l.map (fun x=>qs vp x))=linCells d (jK l) c b:=by
 have f:=jg d (fun _=>0) c b;have a: ∀n,(splice (linCells d (fun _=>0) c b) 1 (l.map (fun x=>qs vp x)))[n]? =if n<1 then(linCells d (fun _=>0) c b)[n]? else if n<1+l.length then(l[n - 1]?).map (fun x=>qs vp x)else(linCells d (fun _=>0) c b)[n]? :=by
  intro n;unfold splice;have k:((linCells d (fun _=>0) c b).take 1).length=1:=by simp [f]
  by_cases e:n<1
  .rw [if_pos e,zc (by omega),List.getElem?_take,if_pos e]
  .rw [if_neg e,qV (by omega),k]
   by_cases j:n<1+l.length
   .rw [if_pos j,zc (by rw [qG];omega),qA]
   .rw [if_neg j,qV (by rw [qG];omega),qG,List.getElem?_drop]
    congr 1;omega
 refine QG ?_ ?_ (fun i g=> ?_) ?_ (fun i g=> ?_)
 .rw [a,if_pos (by omega)]
  rfl
 .rw [length_splice _ _ _ (by rw [qG,f];omega),f]
 .rw [a,if_neg (by omega),show 1+i - 1=i by omega]
  unfold jK;rw [List.getD_eq_getElem?_getD];by_cases h:i<l.length
  .rw [if_pos (by omega),qi h]
   rfl
  .rw [if_neg (by omega),jl g,zP (by omega)]
   rfl
 .rw [a,if_neg (by omega),if_neg (by omega),yO]
 .rw [a,if_neg (by omega),if_neg (by omega),yA g]
theorem k7{e:Value}(v:Value):(linCells d a e c).set 25 v=linCells d a v c:=by
 refine QG ?_ ?_ (fun i b=> ?_) ?_ (fun i b=> ?_)
 .rw [j8,if_neg (by omega)]
  rfl
 .rw [List.length_set,jg]
 .rw [j8,if_neg (by omega),jl b]
 .rw [j8,if_pos rfl,if_pos (by rw [jg];omega)]
 .rw [j8,if_neg (by omega),yA b]
theorem Qw{a:Nat}(f:w.heap[b]? =some (vk (linCells a (fun _=>0) (vd none 0 0) (fun _=>vd none 0 0)).toArray 272 (0,0)))(h:vO w (vd ao l.length cap) l)(i:l.length<=24):
 ∃c,Sem.run qj (Builtin.copy_ #[79,79] 3 #[vd (some ⟨b,1,none⟩) 24 24,vd ao l.length cap]) w= .ok (ve vp l.length) c/\
  c.heap[b]? =some (vk (linCells a (jK l) (vd none 0 0) (fun _=>vd none 0 0)).toArray 272 (0,0))/\Kept (fun k=>k=b) w c:=by
 rw [<-Zz i];rcases Nat.eq_zero_or_pos l.length with d|d
 .obtain rfl:l=[]:=List.eq_nil_of_length_eq_zero d
  refine⟨w,run_copy_none (P:=qj) w 79 79 3 2 _ _ 24 24 0 cap JO (by kernel_rfl) rfl,?_,Kept.refl _ _⟩;rw [show splice (linCells a (fun _=>0) (vd none 0 0) (fun _=>vd none 0 0)) 1 (([]:List Int).map fun x=>qs vp x)=linCells a (fun _=>0) (vd none 0 0) (fun _=>vd none 0 0)from List.take_append_drop 1 _];exact f
 .obtain⟨j,rfl,g⟩:=h.copyable d
  refine⟨_,(run_copy_row (P:=qj) w 79 79 3 2 b 1 24 24 j l.length cap _ 272 (l.map fun x=>ve vp x) JO (by kernel_rfl) f (by rw [qG];exact(Nat.min_eq_left i).symm) g (by rw [qG,List.size_toArray,jg];omega) (by simp [Value.oneCell'])).trans (by rw [qG];rfl),?_,?_⟩
  .have:=setRow_heap w b _ ((linCells a (fun _=>0) (vd none 0 0) (fun _=>vd none 0 0)).toArray.toList.take 1++(l.map fun x=>qs vp x)++(linCells a (fun _=>0) (vd none 0 0) (fun _=>vd none 0 0)).toArray.toList.drop (1+(l.map fun x=>qs vp x).length)).toArray 272 _ f
   simpa [splice]using this
  .exact⟨rfl,rfl,rfl,by simp [World.setRow],fun k m g=>setRow_other w b k _ (fun e=>g e)⟩
theorem Qs{kb:Nat}{a:Int}(q:je l)(g: -17592186044416<=a/\a<=17592186044416)
 (c:w.heap[b]? =some (vk (linCells d (jK l) (vd e 3 3) (fun _=>vd none 0 0)).toArray 272 (0,0)))
 (f:w.heap[d]? =some (vk #[vd none 0 0,.map (some kb)] 194 (0,0))) (m:w.heap[kb]? =some (.map #[] 0)) (j:w.heap[e]? =some (vk (decs (endsOf a (placesOf rel))).toArray 274 (0,0)))
 (o:S b) (s1:S d) (s2:S kb) (s3: ∀k,w.heap.size<=k->S k):
 xe w b d S (jK l) (fun s=>JM rel s a) (vd e 3 3) (fun _=>vd none 0 0) (endsOf a (placesOf rel)) [] (fun _=>[]) 24 where
 box:={good:= .nil,maker:=xF f m s1 s2,blk:=c,base:=o
       ends:=⟨by simp [endsOf,decs,Wl],vv ⟨e,3,(decs (endsOf a (placesOf rel))).toArray,rfl,Nat.zero_le _,j,qt _,by unfold maxLen;omega,by simp [endsOf,decs,Wl],by simp [endsOf,decs,Wl]⟩⟩
       rows:=fun i r=>qW _ _ _ _
       apart:=fun _ _ _ _ _ _ h=>by simp [zN]at h
       apartE:=fun _ _ _ _ h=>by simp [zN]at h
       own:=fun _ _ _ h=>by simp [zN]at h}
 costs:=Kh q
 known:=fun _ _ _ h=>by cases h
 ends:=q6v _ rel g
 all:=fun s n p=>q40 rel s n p
 room:=by decide
 rooms:=fun _=>by decide
 few:=by simp [endsOf]
 base:=s3
theorem wX{w':World}{z:Nat}{a:Int}{o:Value}{u:List Dec}{p j:Nat->List Dec}{x:Dec}{i:List T}{k:Nat->Value}(v:je l){m:Int}(n:m=Kw a)
 (h:q6L w b z S (jK l) (fun s=>JM rel s m) o u [] p 24 0 x i k j w'): ∃t,T.In i t/\x.hi=(pl i t:Nat)/\t.Ok/\i.length<1099511627776/\ ∀c,t.ev c=linF l rel a c:=by
 subst n;obtain⟨-,⟨t,r,y,g,q,-,-⟩,f,-,d,-⟩:=h;refine⟨t,r,y,q,by simp at d;omega,fun c=> ?_⟩;have e:=g 0 f.1 f.2;rw [<-e,Vs];have A:=Yn (Kh v) c 24;show JM rel (0+sumFrom (jK l) c 24) (Kw a)=JM rel (sumFrom (jK l) c 24) a;rw [q0P _ _ (by omega),Int.zero_add]
def Um(w:World)(l:List Int)(rel:Nat)(bound:Int)(e:Ending)(w':World):Prop:=
 ∃v,e= .returned (.tuple #[v,.int .i64 (if LinOk l rel then 0 else 2)])/\IsF w' v (if LinOk l rel then linF l rel bound else fun _=>false)/\Near w w'
theorem Gi{c:Int}(h:vO w v l)(g: ¬LinOk l rel):
 Calls qj 151 #[v,ve vq rel,ve vp c] w (Um w l rel c):=by
 have q:=q8 g;have r: ¬je l\/(je l/\(rel=0\/4<=rel)):=by
  by_cases i:je l
  .exact vv ⟨i,by have C: ¬(1<=rel/\rel<=3):=fun h=>g ⟨i,h⟩;omega⟩
  .exact vu i
 have B:=fun k (n:Near w k)=>Zg (h.near n);have m:=q8 B;have z: ∀k:World,Near w k->IsF k (vi #[vd none 0 0,ve vp 0]) (fun _=>false):=fun k _=>⟨.leaf false,⟨trivial,vd none 0 0,rfl,qW _ _ _ _⟩,fun _=>rfl⟩;have f:=q8 z;rcases r with i|⟨i,G⟩
 .have u:decide (je l)=false:=decide_eq_false i
  rw [u]at m;go_enter Tryz.func151,Tryz.ntmps151;go_wp2_with (first
   |(go_at_call 206;refine(m _ ((Near.refl w).alloc _)).mono ?_;rintro e s ⟨rfl,j⟩;have d:=qE j (heap_new_at rfl);have E:=cell1 (o:=0) d rfl;have D:=cell1 (o:=1) d rfl;have A:=zQ d))
  have a:=qz (qz d 0 (vd none 0 0)) 1 (ve vp 0);simp only [qb,qh,qd]at a;have x:=cell1 (o:=0) a rfl;have t:=cell1 (o:=1) a rfl;have y:=(((Near.refl w).alloc (vk #[vd none 0 0,ve vp 0] 43)).trans j);have b:Near w ((s.setCell w.heap.size (vd none 0 0)).setCell (vw w.heap.size 1) (ve vp 0)):=Kept.setCell (S:=fun _=>False) (Kept.setCell (S:=fun _=>False) y (p:=w.heap.size) (fun h=>absurd h (jo _)) (vd none 0 0)) (p:=vw w.heap.size 1) (fun h=>absurd h (jo _)) (ve vp 0);refine qo (v:= .tuple #[vi #[vd none 0 0,ve vp 0],ve vp 2]) (by simp [qC,Wu,go_sem,x,t]) rfl ⟨_,by rw [if_neg q],?_,b⟩;rw [if_neg q];exact f _ b
 .have u:decide (je l)=true:=decide_eq_true i
  rw [u]at m;have H:((rel:Int) !=1)=true:=bne_iff_ne.2 (by omega);have C:((rel:Int) !=2)=true:=bne_iff_ne.2 (by omega);have I:((rel:Int) !=3)=true:=bne_iff_ne.2 (by omega);go_enter Tryz.func151,Tryz.ntmps151;go_wp2_with (first
   |(go_at_call 206;refine(m _ ((Near.refl w).alloc _)).mono ?_;rintro e s ⟨rfl,j⟩;have d:=qE j (heap_new_at rfl);have E:=cell1 (o:=0) d rfl;have D:=cell1 (o:=1) d rfl;have A:=zQ d))
  have a:=qz (qz d 0 (vd none 0 0)) 1 (ve vp 0);simp only [qb,qh,qd]at a;have x:=cell1 (o:=0) a rfl;have t:=cell1 (o:=1) a rfl;have y:=(((Near.refl w).alloc (vk #[vd none 0 0,ve vp 0] 43)).trans j);have b:Near w ((s.setCell w.heap.size (vd none 0 0)).setCell (vw w.heap.size 1) (ve vp 0)):=Kept.setCell (S:=fun _=>False) (Kept.setCell (S:=fun _=>False) y (p:=w.heap.size) (fun h=>absurd h (jo _)) (vd none 0 0)) (p:=vw w.heap.size 1) (fun h=>absurd h (jo _)) (ve vp 0);refine qo (v:= .tuple #[vi #[vd none 0 0,ve vp 0],ve vp 2]) (by simp [qC,Wu,go_sem,x,t]) rfl ⟨_,by rw [if_neg q],?_,b⟩;rw [if_neg q];exact f _ b
theorem wS{bound:Int}(h:vO w v l)(hok:LinOk l rel)(p0 p1 p2:Nat)(hp:rel=1∧p0=1∧p1=1∧p2=0∨rel=2∧p0=0∧p1=1∧p2=1∨rel=3∧p0=0∧p1=1∧p2=0):
 Calls qj 151 #[v,ve vq rel,ve vp bound] w (Um w l rel bound):=by
 have HB:=q8 hok;have HP:=q8 hp;have hc:decide (je l)=true:=decide_eq_true hok.1;have hv:=fun w' (n:Near w w')=>Zg (h.near n);rw [hc]at hv;have HV:=q8 hv;have HRd:=q8 h;obtain⟨ao,cap,rfl,-⟩:=h;clear hv hc hok;rcases hp with⟨rfl,rfl,rfl,rfl⟩|⟨rfl,rfl,rfl,rfl⟩|⟨rfl,rfl,rfl,rfl⟩
 ·go_enter Tryz.func151,Tryz.ntmps151
  go_upto_region 3 with(first
   |(go_at_call 206;refine(HV.out _ ((Near.refl w).alloc _)).mono ?_;rintro e w1 ⟨rfl,n1⟩))
  go_cut [2] (fun s2 wx=>s2=ve vp (Kw bound)∧wx=w1)
  case first=>
   go_wp2
   all_goals(go_meet;refine⟨congrArg (qs vp) ?_,rfl⟩;unfold Kw;omega)
  case rest=>
   obtain⟨rfl,rfl⟩:=hcut;have hbd:=U9 bound;obtain⟨bd,hbe⟩: ∃b,b=Kw bound:=⟨_,rfl⟩;rw [←hbe]at hbd⊢;have HBE:=q8 hbe;clear hbe;go_upto_region 12 with(first
    |(go_at_call 67;refine(xR _).mono ?_;rintro e w2 ⟨rfl,rfl⟩))
   generalize hW:((((wc.alloc _).alloc _).alloc _).alloc _)=W;have k1:Near wc W:=by rw [←hW];exact((((Near.refl wc).alloc _).alloc _).alloc _).alloc _
   have k2:W.heap[wc.heap.size]? =some (vk #[ve vp 1,ve vp 1,ve vp 0] 266 (0,0)):=by
    rw [←hW];repeat(first|exact heap_new_at (by simp;done)|refine(qD (by simp<;>omega)).trans ?_)
   have k3:W.heap[wc.heap.size+1]? =some (.map #[] 0):=by
    rw [←hW];repeat(first|exact heap_new_at (by simp;done)|refine(qD (by simp<;>omega)).trans ?_)
   have k4:W.heap[wc.heap.size+1+1]? =some (vk #[vd none 0 0,.map (some (wc.heap.size+1))] 194 (0,0)):=by
    rw [←hW];repeat(first|exact heap_new_at (by simp;done)|refine(qD (by simp<;>omega)).trans ?_)
   have k5:W.heap[wc.heap.size+1+1+1]? =some (vk (linCells (wc.heap.size+1+1) (fun _=>0) (vd none 0 0) (fun _=>vd none 0 0)).toArray 272 (0,0)):=by
    rw [←hW];exact heap_new_at (by simp)
   have k6:W.heap.size=wc.heap.size+4:=by rw [←hW];simp
   clear hW;have H1:=q8 (((Near.refl w).alloc (vk #[vd none 0 0,ve vp 0] 43)).trans (n1.trans k1));have HRes:=q8 (qE (n1.trans k1) (heap_new_at rfl));have hlt:=n1.size';have HLT:=q8 (show w.heap.size<wc.heap.size by simp at hlt;omega);have HS6:=q8 k6;have H2:=q8 k2;have H3:=q8 k3;have H4:=q8 k4;have H5:=q8 k5;clear k1 k2 k3 k4 k5 k6 n1 hlt;have hll:=HB.out.1.1;have HRW:=q8 (HRd.out.near H1.out);obtain⟨w3,hrun,hb3,hk3⟩:=Qw H5.out HRW.out hll;have HB3:=q8 hb3;have HK3:=q8 hk3;clear hb3 hk3;go_upto_region 13 with fail
   clear hrun;have hs6:=HS6.out;have e2:=(HK3.out.block wc.heap.size (by omega) (by omega)).trans H2.out;have t0:=cell1 (o:=0) e2 rfl;have t1:=cell1 (o:=1) e2 rfl;have t2:=cell1 (o:=2) e2 rfl;have e5:=qE ((Near.refl w3).alloc (vk #[ve vp (-35184372088832),ve vp (bd - 1),ve vp 1,ve vp bd,ve vp bd,ve vp 1,ve vp (bd+1),ve vp 35184372088832,ve vp 0] 274)) HB3.out;have c25:=cell1 (o:=25) e5 (by rw [ye];exact yO);have f25:=zQ e5;clear e2 e5 hs6;go_upto_region 14 with fail
   clear t0 t1 t2 c25 f25;generalize hW4:((w3.alloc _).setCell _ _)=W4;have hs6:=HS6.out;have hs3:=HK3.out.size;have hlt:=HLT.out;have g1:(w3.alloc (vk (decs (endsOf bd (placesOf 1))).toArray 274)).heap[wc.heap.size+1+1+1]? =some (vk (linCells (wc.heap.size+1+1) (jK l) (vd none 0 0) (fun _=>vd none 0 0)).toArray 272 (0,0)):=qE ((Near.refl w3).alloc _) HB3.out;have g2:W4.heap[wc.heap.size+1+1+1]? =some (vk (linCells (wc.heap.size+1+1) (jK l) (vd w3.heap.size 3 3) (fun _=>vd none 0 0)).toArray 272 (0,0)):=by
    have:=qz g1 25 (vd w3.heap.size 3 3)
    rw [qb,k7]at this;rw [←hW4];exact this
   have g3:Kept (fun k=>k=wc.heap.size+1+1+1) W W4:=by
    rw [←hW4];exact Kept.setCell (S:=fun k=>k=wc.heap.size+1+1+1) (HK3.out.alloc _) (fun _=>rfl) _
   have g4:W4.heap[w3.heap.size]? =some (vk (decs (endsOf bd (placesOf 1))).toArray 274 (0,0)):=by
    rw [←hW4,zg _ _ _ _ (by show w3.heap.size≠wc.heap.size+1+1+1;omega)];exact heap_new_at rfl
   have g5:=(g3.block w.heap.size (by omega) (by omega)).trans HRes.out;have hpre:=Qs (S:=fun k=>w.heap.size+1≤k) (rel:=1) HB.out.1 hbd g2 ((g3.block (wc.heap.size+1+1) (by omega) (by omega)).trans H4.out) ((g3.block (wc.heap.size+1) (by omega) (by omega)).trans H3.out) g4 (by show w.heap.size+1≤_;omega) (by show w.heap.size+1≤_;omega) (by show w.heap.size+1≤_;omega) (fun k hk=>by have:=g3.size;show w.heap.size+1≤k;omega);have gn:Near w W4:=Kept.mono (H1.out.kept.trans g3) (fun k hk e=>by omega);have g6:W4.cell? (vw (wc.heap.size+1+1+1) 0)=some (vg (vw (wc.heap.size+1+1) 0)):=cell1 (o:=0) g2 rfl;have HPre:=q8 hpre;have HR4:=q8 g5;have HN4:=q8 gn;clear hW4 g1 g2 g3 g4 g5 gn hpre hs6 hs3;have hfield:=Jy;go_region_held3 (fun w'=>w'.cell? (vw (wc.heap.size+1+1+1) 0)=some (vg (vw (wc.heap.size+1+1) 0)))
    (first
      |exact g6
      |exact HC5.out
      |exact HC6.out
      |exact(Kept.setCell (S:=fun k=>k=w.heap.size) (Kept.setCell (S:=fun k=>k=w.heap.size) (Kept.refl _ w6) (p:=w.heap.size) (fun _=>rfl) _) (p:=vw w.heap.size 1) (fun _=>rfl) _).cell HC6.out (by omega))
    (first
      |(go_at_call 207;refine(uZ 24 0 W4.drew _ [] _ _ 0 0 rfl (HPre.out.near (Near.refl W4).drew) rfl (by omega)).mono ?_;rintro e w5 ⟨⟨xv,xl,xp⟩,L5,kv5,ks5,rfl,hq5⟩;obtain⟨t5,ht5,hx5,ok5,hl5,he5⟩:=wX HB.out.1 HBE.out hq5;have HC5:=q8 (cell1 (o:=0) hq5.1.blk rfl);have HQ5:=q8 hq5;have HX5:=q8 hx5;have HE5:=q8 he5;clear hq5 hx5 he5)
      |(go_at_call 69;refine(xh HQ5.out.1.good hl5 ht5 ok5 HQ5.out.1.maker HX5.out).mono ?_;rintro e w6 ⟨v6,rfl,d6,b6⟩;obtain⟨bo,bn,bc,rfl,-⟩:=d6.form;have HD6:=q8 d6;have HN6:=q8 (Near.of_below b6);have HC6:=q8 (HN6.out.cell HC5.out);have HR6:=q8 (qE HN6.out ((HQ5.out.2.2.2.2.2.2.2.2.block w.heap.size (qk.1 HR4.out).1 (fun h=>um _ h)).trans HR4.out));have q0:=cell1 (o:=0) HR6.out rfl;have q1:=cell1 (o:=1) HR6.out rfl;have qf:=zQ HR6.out;clear d6 b6))
   go_wp2
   have hs:=yJ (f:=linF l 1 bound) ⟨t5,HD6.out,HE5.out⟩ HR6.out;have hw6:=qz (qz HR6.out 0 (vd bo bn bc)) 1 (ve vp (pl (nodes t5) t5:Nat));simp only [qb,qh,qd]at hw6;have y0:=cell1 (o:=0) hw6 rfl;have y1:=cell1 (o:=1) hw6 rfl;have hn6:Near w w6:=(Kept.mono (HN4.out.drew.kept.trans HQ5.out.2.2.2.2.2.2.2.2) (fun k hk h=>um _ (qH h (Nat.le_of_lt_succ (Nat.lt_succ_of_lt hk))))).trans HN6.out;refine qo (v:= .tuple #[vi #[vd bo bn bc,ve vp (pl (nodes t5) t5:Nat)],ve vp 0]) (by simp [qC,Wu,go_sem,y0,y1]) rfl ⟨_,by rw [if_pos HB.out],?_,(hn6.set (qt _) _).set (qt _) _⟩;rw [if_pos HB.out];exact hs
 ·go_enter Tryz.func151,Tryz.ntmps151
  go_upto_region 3 with(first
   |(go_at_call 206;refine(HV.out _ ((Near.refl w).alloc _)).mono ?_;rintro e w1 ⟨rfl,n1⟩))
  go_cut [2] (fun s2 wx=>s2=ve vp (Kw bound)∧wx=w1)
  case first=>
   go_wp2
   all_goals(go_meet;refine⟨congrArg (qs vp) ?_,rfl⟩;unfold Kw;omega)
  case rest=>
   obtain⟨rfl,rfl⟩:=hcut;have hbd:=U9 bound;obtain⟨bd,hbe⟩: ∃b,b=Kw bound:=⟨_,rfl⟩;rw [←hbe]at hbd⊢;have HBE:=q8 hbe;clear hbe;go_upto_region 12 with(first
    |(go_at_call 67;refine(xR _).mono ?_;rintro e w2 ⟨rfl,rfl⟩))
   generalize hW:((((wc.alloc _).alloc _).alloc _).alloc _)=W;have k1:Near wc W:=by rw [←hW];exact((((Near.refl wc).alloc _).alloc _).alloc _).alloc _
   have k2:W.heap[wc.heap.size]? =some (vk #[ve vp 0,ve vp 1,ve vp 1] 266 (0,0)):=by
    rw [←hW];repeat(first|exact heap_new_at (by simp;done)|refine(qD (by simp<;>omega)).trans ?_)
   have k3:W.heap[wc.heap.size+1]? =some (.map #[] 0):=by
    rw [←hW];repeat(first|exact heap_new_at (by simp;done)|refine(qD (by simp<;>omega)).trans ?_)
   have k4:W.heap[wc.heap.size+1+1]? =some (vk #[vd none 0 0,.map (some (wc.heap.size+1))] 194 (0,0)):=by
    rw [←hW];repeat(first|exact heap_new_at (by simp;done)|refine(qD (by simp<;>omega)).trans ?_)
   have k5:W.heap[wc.heap.size+1+1+1]? =some (vk (linCells (wc.heap.size+1+1) (fun _=>0) (vd none 0 0) (fun _=>vd none 0 0)).toArray 272 (0,0)):=by
    rw [←hW];exact heap_new_at (by simp)
   have k6:W.heap.size=wc.heap.size+4:=by rw [←hW];simp
   clear hW;have H1:=q8 (((Near.refl w).alloc (vk #[vd none 0 0,ve vp 0] 43)).trans (n1.trans k1));have HRes:=q8 (qE (n1.trans k1) (heap_new_at rfl));have hlt:=n1.size';have HLT:=q8 (show w.heap.size<wc.heap.size by simp at hlt;omega);have HS6:=q8 k6;have H2:=q8 k2;have H3:=q8 k3;have H4:=q8 k4;have H5:=q8 k5;clear k1 k2 k3 k4 k5 k6 n1 hlt;have hll:=HB.out.1.1;have HRW:=q8 (HRd.out.near H1.out);obtain⟨w3,hrun,hb3,hk3⟩:=Qw H5.out HRW.out hll;have HB3:=q8 hb3;have HK3:=q8 hk3;clear hb3 hk3;go_upto_region 13 with fail
   clear hrun;have hs6:=HS6.out;have e2:=(HK3.out.block wc.heap.size (by omega) (by omega)).trans H2.out;have t0:=cell1 (o:=0) e2 rfl;have t1:=cell1 (o:=1) e2 rfl;have t2:=cell1 (o:=2) e2 rfl;have e5:=qE ((Near.refl w3).alloc (vk #[ve vp (-35184372088832),ve vp (bd - 1),ve vp 0,ve vp bd,ve vp bd,ve vp 1,ve vp (bd+1),ve vp 35184372088832,ve vp 1] 274)) HB3.out;have c25:=cell1 (o:=25) e5 (by rw [ye];exact yO);have f25:=zQ e5;clear e2 e5 hs6;go_upto_region 14 with fail
   clear t0 t1 t2 c25 f25;generalize hW4:((w3.alloc _).setCell _ _)=W4;have hs6:=HS6.out;have hs3:=HK3.out.size;have hlt:=HLT.out;have g1:(w3.alloc (vk (decs (endsOf bd (placesOf 2))).toArray 274)).heap[wc.heap.size+1+1+1]? =some (vk (linCells (wc.heap.size+1+1) (jK l) (vd none 0 0) (fun _=>vd none 0 0)).toArray 272 (0,0)):=qE ((Near.refl w3).alloc _) HB3.out;have g2:W4.heap[wc.heap.size+1+1+1]? =some (vk (linCells (wc.heap.size+1+1) (jK l) (vd w3.heap.size 3 3) (fun _=>vd none 0 0)).toArray 272 (0,0)):=by
    have:=qz g1 25 (vd w3.heap.size 3 3)
    rw [qb,k7]at this;rw [←hW4];exact this
   have g3:Kept (fun k=>k=wc.heap.size+1+1+1) W W4:=by
    rw [←hW4];exact Kept.setCell (S:=fun k=>k=wc.heap.size+1+1+1) (HK3.out.alloc _) (fun _=>rfl) _
   have g4:W4.heap[w3.heap.size]? =some (vk (decs (endsOf bd (placesOf 2))).toArray 274 (0,0)):=by
    rw [←hW4,zg _ _ _ _ (by show w3.heap.size≠wc.heap.size+1+1+1;omega)];exact heap_new_at rfl
   have g5:=(g3.block w.heap.size (by omega) (by omega)).trans HRes.out;have hpre:=Qs (S:=fun k=>w.heap.size+1≤k) (rel:=2) HB.out.1 hbd g2 ((g3.block (wc.heap.size+1+1) (by omega) (by omega)).trans H4.out) ((g3.block (wc.heap.size+1) (by omega) (by omega)).trans H3.out) g4 (by show w.heap.size+1≤_;omega) (by show w.heap.size+1≤_;omega) (by show w.heap.size+1≤_;omega) (fun k hk=>by have:=g3.size;show w.heap.size+1≤k;omega);have gn:Near w W4:=Kept.mono (H1.out.kept.trans g3) (fun k hk e=>by omega);have g6:W4.cell? (vw (wc.heap.size+1+1+1) 0)=some (vg (vw (wc.heap.size+1+1) 0)):=cell1 (o:=0) g2 rfl;have HPre:=q8 hpre;have HR4:=q8 g5;have HN4:=q8 gn;clear hW4 g1 g2 g3 g4 g5 gn hpre hs6 hs3;have hfield:=Jy;go_region_held3 (fun w'=>w'.cell? (vw (wc.heap.size+1+1+1) 0)=some (vg (vw (wc.heap.size+1+1) 0)))
    (first
      |exact g6
      |exact HC5.out
      |exact HC6.out
      |exact(Kept.setCell (S:=fun k=>k=w.heap.size) (Kept.setCell (S:=fun k=>k=w.heap.size) (Kept.refl _ w6) (p:=w.heap.size) (fun _=>rfl) _) (p:=vw w.heap.size 1) (fun _=>rfl) _).cell HC6.out (by omega))
    (first
      |(go_at_call 207;refine(uZ 24 0 W4.drew _ [] _ _ 0 0 rfl (HPre.out.near (Near.refl W4).drew) rfl (by omega)).mono ?_;rintro e w5 ⟨⟨xv,xl,xp⟩,L5,kv5,ks5,rfl,hq5⟩;obtain⟨t5,ht5,hx5,ok5,hl5,he5⟩:=wX HB.out.1 HBE.out hq5;have HC5:=q8 (cell1 (o:=0) hq5.1.blk rfl);have HQ5:=q8 hq5;have HX5:=q8 hx5;have HE5:=q8 he5;clear hq5 hx5 he5)
      |(go_at_call 69;refine(xh HQ5.out.1.good hl5 ht5 ok5 HQ5.out.1.maker HX5.out).mono ?_;rintro e w6 ⟨v6,rfl,d6,b6⟩;obtain⟨bo,bn,bc,rfl,-⟩:=d6.form;have HD6:=q8 d6;have HN6:=q8 (Near.of_below b6);have HC6:=q8 (HN6.out.cell HC5.out);have HR6:=q8 (qE HN6.out ((HQ5.out.2.2.2.2.2.2.2.2.block w.heap.size (qk.1 HR4.out).1 (fun h=>um _ h)).trans HR4.out));have q0:=cell1 (o:=0) HR6.out rfl;have q1:=cell1 (o:=1) HR6.out rfl;have qf:=zQ HR6.out;clear d6 b6))
   go_wp2
   have hs:=yJ (f:=linF l 2 bound) ⟨t5,HD6.out,HE5.out⟩ HR6.out;have hw6:=qz (qz HR6.out 0 (vd bo bn bc)) 1 (ve vp (pl (nodes t5) t5:Nat));simp only [qb,qh,qd]at hw6;have y0:=cell1 (o:=0) hw6 rfl;have y1:=cell1 (o:=1) hw6 rfl;have hn6:Near w w6:=(Kept.mono (HN4.out.drew.kept.trans HQ5.out.2.2.2.2.2.2.2.2) (fun k hk h=>um _ (qH h (Nat.le_of_lt_succ (Nat.lt_succ_of_lt hk))))).trans HN6.out;refine qo (v:= .tuple #[vi #[vd bo bn bc,ve vp (pl (nodes t5) t5:Nat)],ve vp 0]) (by simp [qC,Wu,go_sem,y0,y1]) rfl ⟨_,by rw [if_pos HB.out],?_,(hn6.set (qt _) _).set (qt _) _⟩;rw [if_pos HB.out];exact hs
 ·go_enter Tryz.func151,Tryz.ntmps151
  go_upto_region 3 with(first
   |(go_at_call 206;refine(HV.out _ ((Near.refl w).alloc _)).mono ?_;rintro e w1 ⟨rfl,n1⟩))
  go_cut [2] (fun s2 wx=>s2=ve vp (Kw bound)∧wx=w1)
  case first=>
   go_wp2
   all_goals(go_meet;refine⟨congrArg (qs vp) ?_,rfl⟩;unfold Kw;omega)
  case rest=>
   obtain⟨rfl,rfl⟩:=hcut;have hbd:=U9 bound;obtain⟨bd,hbe⟩: ∃b,b=Kw bound:=⟨_,rfl⟩;rw [←hbe]at hbd⊢;have HBE:=q8 hbe;clear hbe;go_upto_region 12 with(first
    |(go_at_call 67;refine(xR _).mono ?_;rintro e w2 ⟨rfl,rfl⟩))
   generalize hW:((((wc.alloc _).alloc _).alloc _).alloc _)=W;have k1:Near wc W:=by rw [←hW];exact((((Near.refl wc).alloc _).alloc _).alloc _).alloc _
   have k2:W.heap[wc.heap.size]? =some (vk #[ve vp 0,ve vp 1,ve vp 0] 266 (0,0)):=by
    rw [←hW];repeat(first|exact heap_new_at (by simp;done)|refine(qD (by simp<;>omega)).trans ?_)
   have k3:W.heap[wc.heap.size+1]? =some (.map #[] 0):=by
    rw [←hW];repeat(first|exact heap_new_at (by simp;done)|refine(qD (by simp<;>omega)).trans ?_)
   have k4:W.heap[wc.heap.size+1+1]? =some (vk #[vd none 0 0,.map (some (wc.heap.size+1))] 194 (0,0)):=by
    rw [←hW];repeat(first|exact heap_new_at (by simp;done)|refine(qD (by simp<;>omega)).trans ?_)
   have k5:W.heap[wc.heap.size+1+1+1]? =some (vk (linCells (wc.heap.size+1+1) (fun _=>0) (vd none 0 0) (fun _=>vd none 0 0)).toArray 272 (0,0)):=by
    rw [←hW];exact heap_new_at (by simp)
   have k6:W.heap.size=wc.heap.size+4:=by rw [←hW];simp
   clear hW;have H1:=q8 (((Near.refl w).alloc (vk #[vd none 0 0,ve vp 0] 43)).trans (n1.trans k1));have HRes:=q8 (qE (n1.trans k1) (heap_new_at rfl));have hlt:=n1.size';have HLT:=q8 (show w.heap.size<wc.heap.size by simp at hlt;omega);have HS6:=q8 k6;have H2:=q8 k2;have H3:=q8 k3;have H4:=q8 k4;have H5:=q8 k5;clear k1 k2 k3 k4 k5 k6 n1 hlt;have hll:=HB.out.1.1;have HRW:=q8 (HRd.out.near H1.out);obtain⟨w3,hrun,hb3,hk3⟩:=Qw H5.out HRW.out hll;have HB3:=q8 hb3;have HK3:=q8 hk3;clear hb3 hk3;go_upto_region 13 with fail
   clear hrun;have hs6:=HS6.out;have e2:=(HK3.out.block wc.heap.size (by omega) (by omega)).trans H2.out;have t0:=cell1 (o:=0) e2 rfl;have t1:=cell1 (o:=1) e2 rfl;have t2:=cell1 (o:=2) e2 rfl;have e5:=qE ((Near.refl w3).alloc (vk #[ve vp (-35184372088832),ve vp (bd - 1),ve vp 0,ve vp bd,ve vp bd,ve vp 1,ve vp (bd+1),ve vp 35184372088832,ve vp 0] 274)) HB3.out;have c25:=cell1 (o:=25) e5 (by rw [ye];exact yO);have f25:=zQ e5;clear e2 e5 hs6;go_upto_region 14 with fail
   clear t0 t1 t2 c25 f25;generalize hW4:((w3.alloc _).setCell _ _)=W4;have hs6:=HS6.out;have hs3:=HK3.out.size;have hlt:=HLT.out;have g1:(w3.alloc (vk (decs (endsOf bd (placesOf 3))).toArray 274)).heap[wc.heap.size+1+1+1]? =some (vk (linCells (wc.heap.size+1+1) (jK l) (vd none 0 0) (fun _=>vd none 0 0)).toArray 272 (0,0)):=qE ((Near.refl w3).alloc _) HB3.out;have g2:W4.heap[wc.heap.size+1+1+1]? =some (vk (linCells (wc.heap.size+1+1) (jK l) (vd w3.heap.size 3 3) (fun _=>vd none 0 0)).toArray 272 (0,0)):=by
    have:=qz g1 25 (vd w3.heap.size 3 3)
    rw [qb,k7]at this;rw [←hW4];exact this
   have g3:Kept (fun k=>k=wc.heap.size+1+1+1) W W4:=by
    rw [←hW4];exact Kept.setCell (S:=fun k=>k=wc.heap.size+1+1+1) (HK3.out.alloc _) (fun _=>rfl) _
   have g4:W4.heap[w3.heap.size]? =some (vk (decs (endsOf bd (placesOf 3))).toArray 274 (0,0)):=by
    rw [←hW4,zg _ _ _ _ (by show w3.heap.size≠wc.heap.size+1+1+1;omega)];exact heap_new_at rfl
   have g5:=(g3.block w.heap.size (by omega) (by omega)).trans HRes.out;have hpre:=Qs (S:=fun k=>w.heap.size+1≤k) (rel:=3) HB.out.1 hbd g2 ((g3.block (wc.heap.size+1+1) (by omega) (by omega)).trans H4.out) ((g3.block (wc.heap.size+1) (by omega) (by omega)).trans H3.out) g4 (by show w.heap.size+1≤_;omega) (by show w.heap.size+1≤_;omega) (by show w.heap.size+1≤_;omega) (fun k hk=>by have:=g3.size;show w.heap.size+1≤k;omega);have gn:Near w W4:=Kept.mono (H1.out.kept.trans g3) (fun k hk e=>by omega);have g6:W4.cell? (vw (wc.heap.size+1+1+1) 0)=some (vg (vw (wc.heap.size+1+1) 0)):=cell1 (o:=0) g2 rfl;have HPre:=q8 hpre;have HR4:=q8 g5;have HN4:=q8 gn;clear hW4 g1 g2 g3 g4 g5 gn hpre hs6 hs3;have hfield:=Jy;go_region_held3 (fun w'=>w'.cell? (vw (wc.heap.size+1+1+1) 0)=some (vg (vw (wc.heap.size+1+1) 0)))
    (first
      |exact g6
      |exact HC5.out
      |exact HC6.out
      |exact(Kept.setCell (S:=fun k=>k=w.heap.size) (Kept.setCell (S:=fun k=>k=w.heap.size) (Kept.refl _ w6) (p:=w.heap.size) (fun _=>rfl) _) (p:=vw w.heap.size 1) (fun _=>rfl) _).cell HC6.out (by omega))
    (first
      |(go_at_call 207;refine(uZ 24 0 W4.drew _ [] _ _ 0 0 rfl (HPre.out.near (Near.refl W4).drew) rfl (by omega)).mono ?_;rintro e w5 ⟨⟨xv,xl,xp⟩,L5,kv5,ks5,rfl,hq5⟩;obtain⟨t5,ht5,hx5,ok5,hl5,he5⟩:=wX HB.out.1 HBE.out hq5;have HC5:=q8 (cell1 (o:=0) hq5.1.blk rfl);have HQ5:=q8 hq5;have HX5:=q8 hx5;have HE5:=q8 he5;clear hq5 hx5 he5)
      |(go_at_call 69;refine(xh HQ5.out.1.good hl5 ht5 ok5 HQ5.out.1.maker HX5.out).mono ?_;rintro e w6 ⟨v6,rfl,d6,b6⟩;obtain⟨bo,bn,bc,rfl,-⟩:=d6.form;have HD6:=q8 d6;have HN6:=q8 (Near.of_below b6);have HC6:=q8 (HN6.out.cell HC5.out);have HR6:=q8 (qE HN6.out ((HQ5.out.2.2.2.2.2.2.2.2.block w.heap.size (qk.1 HR4.out).1 (fun h=>um _ h)).trans HR4.out));have q0:=cell1 (o:=0) HR6.out rfl;have q1:=cell1 (o:=1) HR6.out rfl;have qf:=zQ HR6.out;clear d6 b6))
   go_wp2
   have hs:=yJ (f:=linF l 3 bound) ⟨t5,HD6.out,HE5.out⟩ HR6.out;have hw6:=qz (qz HR6.out 0 (vd bo bn bc)) 1 (ve vp (pl (nodes t5) t5:Nat));simp only [qb,qh,qd]at hw6;have y0:=cell1 (o:=0) hw6 rfl;have y1:=cell1 (o:=1) hw6 rfl;have hn6:Near w w6:=(Kept.mono (HN4.out.drew.kept.trans HQ5.out.2.2.2.2.2.2.2.2) (fun k hk h=>um _ (qH h (Nat.le_of_lt_succ (Nat.lt_succ_of_lt hk))))).trans HN6.out;refine qo (v:= .tuple #[vi #[vd bo bn bc,ve vp (pl (nodes t5) t5:Nat)],ve vp 0]) (by simp [qC,Wu,go_sem,y0,y1]) rfl ⟨_,by rw [if_pos HB.out],?_,(hn6.set (qt _) _).set (qt _) _⟩;rw [if_pos HB.out];exact hs
theorem q3K{b:Int}(h:vO w v l):Calls qj 151 #[v,ve vq rel,ve vp b] w (Um w l rel b):=by
 by_cases a:LinOk l rel
 .rcases(show rel=1\/rel=2\/rel=3 by have⟨_,c,d⟩:=a;omega)with rfl|rfl|rfl
  .exact wS h a 1 1 0 (by simp)
  .exact wS h a 0 1 1 (by simp)
  .exact wS h a 0 1 0 (by simp)
 .exact Gi h a
def cF:Nat->Nat->(Nat->Bool)->F->Nat
 |0,_,c,f=>(f c).toNat
 |k+1,lo,c,f=>cF k (lo+1) (upd c lo false) f+cF k (lo+1) (upd c lo true) f
theorem q6A(t:T): ∀(k a:Nat)(c:Nat->Bool),cA k a c t=cF k a c t.ev
 |0,_,_=>rfl
 |k+1,a,c=>by
  show cA k (a+1) (upd c a false) t+cA k (a+1) (upd c a true) t=_;rw [q6A t k,q6A t k];rfl
theorem Uu(c:Nat->Bool)(i:Nat)(b:Bool):updI c i b=upd c i b:=by
 funext j;unfold updI upd;by_cases h:j=i
 .rw [if_pos (by omega),if_pos h]
 .rw [if_neg (by omega),if_neg h]
def cntE(s:Nat)(n:Int):Int:=if n<0\/24<n then 3 else if 2^n.toNat<=s then 2 else 0
def cntN(s:Nat)(f:F)(n:Int):Nat:=if cntE s n=0 then cF n.toNat 0 (fun _=>false) f else 0
theorem q2e{s:Nat}(h:IsF w v f)(q: ∀i,s.testBit i=dep f i)(n:Int):
 Calls qj 80 #[v,ve vp n] w fun e r=>e=vm (.tuple #[ve vt (cntN s f n:Nat),ve vp (cntE s n)])/\Near w r:=by
 have⟨t,j,u⟩:=h;have x:f=t.ev:=funext fun c=>(u c).symm;subst x;have a:sup (nodes t)=s:=by
  apply Nat.eq_of_testBit_eq;intro i;rw [q5t j.1,q]
 by_cases g:n<0\/24<n
 .have b:cntE s n=3:=by simp [cntE,g]
  have d:cntN s t.ev n=0:=by simp [cntN,b]
  rw [b,d];obtain⟨y,m,p,rfl,-⟩:=j.form;exact q2d _ _ _ rfl n g w
 .obtain⟨k,rfl⟩: ∃k:Nat,n=k:=⟨n.toNat,by omega⟩
  have o:k<=24:=by omega
  by_cases l:2^k<=s
  .have b:cntE s k=2:=by simp [cntE,g,l]
   have d:cntN s t.ev k=0:=by simp [cntN,b]
   rw [b,d];exact GF j o (by rw [a];exact l)
  .have b:cntE s k=0:=by simp [cntE,g,l]
   have d:cntN s t.ev k=cF k 0 (fun _=>false) t.ev:=by simp [cntN,b]
   rw [b,d]
   have:=VZ j o (by rw [a];omega)
   rwa [q6A]at this
noncomputable def q3V (f:F) (on:Bool) (i:Nat):Bool:=nowhere (fun c=>f (updI c i on))
noncomputable def xg (f:F) (on:Bool) (V:List Nat):Nat:=q4N (V.filter (q3V f on))
theorem VL(f:F)(on:Bool)(V:List Nat)(i:Nat):xg f on (V++[i])=if q3V f on i=true then xg f on V|||2^i else xg f on V:=by
 unfold xg;rw [List.filter_append];by_cases h:q3V f on i=true
 .rw [if_pos h,List.filter_cons_of_pos h,List.filter_nil,q1f]
 .rw [if_neg h,List.filter_cons_of_neg h,List.filter_nil,List.append_nil]
theorem ZF{on:Bool}{V:List Nat}(h: ∀i∈V,i<24):xg f on V<16777216:=q5V fun i a=>h i (List.mem_filter.1 a).1
theorem Zj{c k:Nat}(b:c<2^k):(2^k+c).testBit=updI c.testBit k true:=by
 rw [Uu];funext j;have a:=Nat.two_pow_add_eq_or_of_lt b 1;rw [Nat.mul_one]at a;rw [a,Nat.testBit_or,Nat.testBit_two_pow];unfold upd;by_cases e:j=k
 .simp [e]
 .have: ¬k=j:=fun h=>e h.symm
  simp [e,this]
end Go.Proofs.YtjcbmcnbdegpmaaGreatDoor
namespace Go.Proofs.Mod
open Go Go.Proofs.YtjcbmcnbdegpmaaGreatDoor
def signT(o i:Nat):List UInt8:=
 if o=5 then [38]else if o=7 then [94]else if o=6 then [124]else if o=8 then [61,62]else if o=9 then [60,61,62]else if i=1 then [63]else [58]
def bareL(o i:Nat):List Nat:=
 if o=5 then []else if o=7 then [5]else if o=6 then [5,7]else if o=8/\i=0 then [5,7,6]else if o=8\/o=9 then [5,7,6,8]else if i=0 then [5,7,6,8,9]else [5,7,6,8,9,10]
def wrapT(b:Bool)(t:List UInt8):List UInt8:=if b then t else 40::(t++[41])
def bareB(l:List Nat)(k:Nat):Bool:=l.contains k||decide (k<=4)
mutual
def putE:Ex->List UInt8
 | .mk o n l=>if o=1 then [48]else if o=2 then [49]else if o=3 then n.data.toList else if o=4 then 33::putKids 4 0 l else putKids o 0 l
def putKids(o:Nat):Nat->List Ex->List UInt8
 |_,[]=>[]
 |i,e::l=>(if i=0 then []else 32::(signT o i++[32]))++(wrapT (bareB (if o=4 then []else bareL o i) e.op) (putE e)++putKids o (i+1) l)
end
def lineT(ws:List (List UInt8)):List UInt8:=zL ws [32]++[10]
def nameT(m:Mod)(i:Nat):List UInt8:=((m.names[i]?).getD ⟨#[]⟩).data.toList
def QU(k:Nat):List UInt8:=if k=2 then gB.data.toList else if k=3 then Uq.data.toList else if k=4 then Ur.data.toList else []
def ZK(m:Mod)(i:Nat)(f:xM):List UInt8:=if i=0 then lineT [wRoot.data.toList,f.name.data.toList]else lineT [QU f.kind,nameT m f.parent.toNat,f.name.data.toList]
def groupT(m:Mod)(g:Grp):List UInt8:=lineT ([wGroup.data.toList,nameT m g.parent.toNat,yY g.low,yY g.high]++g.members.map fun k=>nameT m k.toNat)
def ww(m:Mod)(a:Att)(i:Nat)(x:Int):List UInt8:=if x=0 then []else lineT [vF.data.toList,a.name.data.toList,nameT m i,yY x]
def attT(m:Mod)(a:Att):List UInt8:=lineT [wAttr.data.toList,a.name.data.toList]++(a.values.zipIdx.flatMap fun p=>ww m a p.2 p.1)
def reqT(x:Ex):List UInt8:=wReq.data.toList++32::putE x
def q0N(r:Nat):List UInt8:=if r=1 then [60,61]else if r=2 then [62,61]else if r=3 then [61]else []
def gk(m:Mod)(i:Nat):List UInt8:=((m.atts[i]?.map Att.name).getD ⟨#[]⟩).data.toList
def limT(m:Mod)(l:Lim):List UInt8:=zL [WB.data.toList,gk m l.att.toNat,q0N l.rel,yY l.bound] [32]
def printM(m:Mod):List UInt8:=
 (m.feats.zipIdx.flatMap fun p=>ZK m p.2 p.1)++(m.grps.flatMap (groupT m)++(m.atts.flatMap (attT m)++((m.reqs.flatMap fun x=>lineT [reqT x])++m.lims.flatMap fun l=>lineT [limT m l])))
end Go.Proofs.Mod
namespace Go.Proofs.YtjcbmcnbdegpmaaGreatDoor
open Go Go.RowKit Go.Proofs.Gen Go.Proofs.Mod
theorem WT(o:Nat)(s:ByteArray)(ao:Option Addr)(k cap:Nat)(w:World):
 Calls qj 171 #[vi #[ve vq o,vf s,vd ao k cap]] w fun e c=>e=vm (vj (jr o s k))/\Near w c:=by
 have j:o=0\/o=1\/o=2\/o=3\/o=4\/o=5\/o=6\/o=7\/o=8\/o=9\/o=10\/10<o:=by omega
 have g:Near w (w.alloc (vk #[ve vq o,vf s,vd ao k cap] 84)):=(Near.refl w).alloc _;have d:=q8 g;obtain⟨b,f⟩: ∃b,b=jr o s k:=⟨_,rfl⟩;have a:=q8 f;rw [<-f];rcases j with rfl|rfl|rfl|rfl|rfl|rfl|rfl|rfl|rfl|rfl|rfl|h
 case inr.inr.inr.inr.inr.inr.inr.inr.inr.inr.inr=>
  rw [Yr h]at a;have u:((o:Int)==1)=false:=beq_eq_false_iff_ne.2 (by omega);have y:((o:Int)==2)=false:=beq_eq_false_iff_ne.2 (by omega);have r:((o:Int)==3)=false:=beq_eq_false_iff_ne.2 (by omega);have v:((o:Int)==4)=false:=beq_eq_false_iff_ne.2 (by omega);have l:((o:Int)==5)=false:=beq_eq_false_iff_ne.2 (by omega);have t:((o:Int)==6)=false:=beq_eq_false_iff_ne.2 (by omega);have q:((o:Int)==7)=false:=beq_eq_false_iff_ne.2 (by omega);have m:((o:Int)==8)=false:=beq_eq_false_iff_ne.2 (by omega);have n:((o:Int)==9)=false:=beq_eq_false_iff_ne.2 (by omega);have i:((o:Int)==10)=false:=beq_eq_false_iff_ne.2 (by omega);go_enter Tryz.func171,Tryz.ntmps171;go_wp2_with fail
  all_goals
   go_ret;exact⟨by rw [a.out];rfl,d⟩
 case inr.inr.inr.inl=>
  rcases Nat.eq_zero_or_pos k with rfl|p
  all_goals
   go_enter Tryz.func171,Tryz.ntmps171;go_wp2_with (go_at_call 117;refine(rName_calls _ _).mono ?_;rintro e c ⟨rfl,rfl⟩)
   all_goals
    go_ret;refine⟨congrArg (fun x=>jM (vj x)) (zq.2 ?_),d⟩;rw [a.out];simp [jr]at*
    try omega
 all_goals
  go_enter Tryz.func171,Tryz.ntmps171;go_wp2_with (go_at_call 117;refine(rName_calls _ _).mono ?_;rintro e c ⟨rfl,rfl⟩)
  all_goals
   go_ret;refine⟨congrArg (fun x=>jM (vj x)) (zq.2 ?_),d⟩;rw [a.out];simp [jr,ZT]at*
   try first|omega|exact fun _=> ‹_› |exact⟨fun _=>⟨by omega,‹_›⟩,fun h=>by omega⟩
end Go.Proofs.YtjcbmcnbdegpmaaGreatDoor
