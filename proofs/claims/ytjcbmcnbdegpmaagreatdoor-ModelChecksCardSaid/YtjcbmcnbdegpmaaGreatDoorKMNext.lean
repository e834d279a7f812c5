/- MNext. -/
import Derived.Test.YtjcbmcnbdegpmaaGreatDoorKMRChkP
set_option maxRecDepth 100000
set_option maxHeartbeats 12800000
set_option linter.unusedVariables false
open Go renaming bodyPost_ret->qo
open Go.Instr renaming index->kr
open Go.Lib renaming hid->q8
open Go.Proofs.Tryz renaming prog->qj
open Go.Sem renaming run->yx
open List renaming drop_zero->wj,length_drop->yC,length_take->zd
open Option.some renaming inj->zm
open Go.Value renaming slice->vd,int->ve,string->vf,pointer->vg,agg->vi,bool->vj
open Go.Obj renaming cells->vk
open Go.Ending renaming returned->vm
open Go.IntKind renaming i64->vp,u8->vq,u32->vr,u64->vt
open Or renaming inl->vu,inr->vv
namespace Go.Proofs.YtjcbmcnbdegpmaaGreatDoor
open Go Go.RowKit Go.Proofs.Gen Go.Proofs.Mod
variable{B j:Nat}{a b:ByteArray}{w:World}
def sp(c:UInt8):Bool:=decide (c=32)
theorem drop_at{L:List UInt8}(h:j<L.length):L.drop j=L[j]::L.drop (j+1):=List.drop_eq_getElem_cons h
theorem byte_at{s:ByteArray}{k:Nat}(h:k<s.size): ∃a:k<(bytesL s).length,(bytesL s)[k]=s[k]:=⟨by rw [zX];exact h,rfl⟩
theorem uB{p:UInt8->Bool}: ∀{L:List UInt8}{n:Nat},(∀c∈L.take n,p c=true)->(∀h:n<L.length,p L[n]=false)->L.takeWhile p=L.take n
 |[],n,_,_=>by simp
 |c::L,0,_,h=>by
  have:=h (by simp)
  rw [List.takeWhile_cons_of_neg (by rw [show p c=false from this];decide)];rfl
 |c::L,n+1,a,h=>by
  rw [List.takeWhile_cons_of_pos (a c (by simp)),uB (L:=L) (n:=n) (fun x d=>a x (by simp [d])) (fun b=>h (by simpa using b))];rfl
theorem YG{α:Type}{p:α->Bool}: ∀{l:List α}{k:Nat}{x:α},l[k]? =some x->p x=true->(∀(q:Nat) y,q<k->l[q]? =some y->p y=false)->l.find? p=some x
 |y::l,0,x,h,a,_=>by
  cases h;rw [List.find?_cons_of_pos a]
 |y::l,k+1,x,h,a,b=>by
  rw [List.find?_cons_of_neg (by rw [b 0 y (by omega) rfl];decide)];exact YG h a fun q z d c=>b (q+1) z (by omega) c
def sgB(k:Nat):ByteArray:=⟨(signs.getD k []).toArray⟩
theorem Wa(w:World):yx qj (kr 312 (vi #[vf ⟨#[60,61,62]⟩,vf ⟨#[61,62]⟩,vf ⟨#[33]⟩,vf ⟨#[38]⟩,vf ⟨#[94]⟩,vf ⟨#[124]⟩,vf ⟨#[63]⟩,vf ⟨#[58]⟩,vf ⟨#[40]⟩,vf ⟨#[41]⟩]) (ve vp 0)) w= .ok (vf ⟨#[60,61,62]⟩) w:=by kernel_rfl
theorem W0(w:World):yx qj (kr 312 (vi #[vf ⟨#[60,61,62]⟩,vf ⟨#[61,62]⟩,vf ⟨#[33]⟩,vf ⟨#[38]⟩,vf ⟨#[94]⟩,vf ⟨#[124]⟩,vf ⟨#[63]⟩,vf ⟨#[58]⟩,vf ⟨#[40]⟩,vf ⟨#[41]⟩]) (ve vp 1)) w= .ok (vf ⟨#[61,62]⟩) w:=by kernel_rfl
theorem UZ(w:World):yx qj (kr 312 (vi #[vf ⟨#[60,61,62]⟩,vf ⟨#[61,62]⟩,vf ⟨#[33]⟩,vf ⟨#[38]⟩,vf ⟨#[94]⟩,vf ⟨#[124]⟩,vf ⟨#[63]⟩,vf ⟨#[58]⟩,vf ⟨#[40]⟩,vf ⟨#[41]⟩]) (ve vp 2)) w= .ok (vf ⟨#[33]⟩) w:=by kernel_rfl
theorem UY(w:World):yx qj (kr 312 (vi #[vf ⟨#[60,61,62]⟩,vf ⟨#[61,62]⟩,vf ⟨#[33]⟩,vf ⟨#[38]⟩,vf ⟨#[94]⟩,vf ⟨#[124]⟩,vf ⟨#[63]⟩,vf ⟨#[58]⟩,vf ⟨#[40]⟩,vf ⟨#[41]⟩]) (ve vp 3)) w= .ok (vf ⟨#[38]⟩) w:=by kernel_rfl
theorem UX(w:World):yx qj (kr 312 (vi #[vf ⟨#[60,61,62]⟩,vf ⟨#[61,62]⟩,vf ⟨#[33]⟩,vf ⟨#[38]⟩,vf ⟨#[94]⟩,vf ⟨#[124]⟩,vf ⟨#[63]⟩,vf ⟨#[58]⟩,vf ⟨#[40]⟩,vf ⟨#[41]⟩]) (ve vp 4)) w= .ok (vf ⟨#[94]⟩) w:=by kernel_rfl
theorem UW(w:World):yx qj (kr 312 (vi #[vf ⟨#[60,61,62]⟩,vf ⟨#[61,62]⟩,vf ⟨#[33]⟩,vf ⟨#[38]⟩,vf ⟨#[94]⟩,vf ⟨#[124]⟩,vf ⟨#[63]⟩,vf ⟨#[58]⟩,vf ⟨#[40]⟩,vf ⟨#[41]⟩]) (ve vp 5)) w= .ok (vf ⟨#[124]⟩) w:=by kernel_rfl
theorem UV(w:World):yx qj (kr 312 (vi #[vf ⟨#[60,61,62]⟩,vf ⟨#[61,62]⟩,vf ⟨#[33]⟩,vf ⟨#[38]⟩,vf ⟨#[94]⟩,vf ⟨#[124]⟩,vf ⟨#[63]⟩,vf ⟨#[58]⟩,vf ⟨#[40]⟩,vf ⟨#[41]⟩]) (ve vp 6)) w= .ok (vf ⟨#[63]⟩) w:=by kernel_rfl
theorem UU(w:World):yx qj (kr 312 (vi #[vf ⟨#[60,61,62]⟩,vf ⟨#[61,62]⟩,vf ⟨#[33]⟩,vf ⟨#[38]⟩,vf ⟨#[94]⟩,vf ⟨#[124]⟩,vf ⟨#[63]⟩,vf ⟨#[58]⟩,vf ⟨#[40]⟩,vf ⟨#[41]⟩]) (ve vp 7)) w= .ok (vf ⟨#[58]⟩) w:=by kernel_rfl
theorem UT(w:World):yx qj (kr 312 (vi #[vf ⟨#[60,61,62]⟩,vf ⟨#[61,62]⟩,vf ⟨#[33]⟩,vf ⟨#[38]⟩,vf ⟨#[94]⟩,vf ⟨#[124]⟩,vf ⟨#[63]⟩,vf ⟨#[58]⟩,vf ⟨#[40]⟩,vf ⟨#[41]⟩]) (ve vp 8)) w= .ok (vf ⟨#[40]⟩) w:=by kernel_rfl
theorem US(w:World):yx qj (kr 312 (vi #[vf ⟨#[60,61,62]⟩,vf ⟨#[61,62]⟩,vf ⟨#[33]⟩,vf ⟨#[38]⟩,vf ⟨#[94]⟩,vf ⟨#[124]⟩,vf ⟨#[63]⟩,vf ⟨#[58]⟩,vf ⟨#[40]⟩,vf ⟨#[41]⟩]) (ve vp 9)) w= .ok (vf ⟨#[41]⟩) w:=by kernel_rfl
def PBox(w:World)(B:Nat)(text:ByteArray)(j:Nat)(wd:ByteArray):Prop:=w.heap[B]? =some (.cells #[.string text,.int .i64 j,.string wd] 303 (0,0))
theorem PBox.set1(h:PBox w B a j b)(k:Nat):PBox (w.setCell (vw B 1) (ve vp (k:Nat))) B a k b:=by
 have:=qz h 1 (ve vp (k:Nat))
 unfold PBox;simpa using this
theorem PBox.set2(h:PBox w B a j b)(k:ByteArray):PBox (w.setCell (vw B 2) (vf k)) B a j k:=by
 have:=qz h 2 (vf k)
 unfold PBox;simpa using this
theorem Ql{d:ByteArray}{t t':St}(h:PAt w B d t)(bj:d.size<4611686018427387904)(ht:nextT t=some t'):
 Calls qj 231 #[vg B] w fun e z=>e=vm (.tuple #[])∧PAt z B d t'∧Kept (fun g=>g=B) w z:=by
 have⟨⟨i,G,hB,hi,hr,a7⟩⟩:=h;have a0: ∀j,((bytesL d).drop (i+G.size)).dropWhile sp=(bytesL d).drop j→tokOf ((bytesL d).drop j)=some t'.word∧t'.rest=(bytesL d).drop j:=fun j hj=>by
  unfold nextT at ht;have e:(t.rest.drop t.word.length).dropWhile (fun c=>decide (c=32))=(bytesL d).drop j:=by
   rw [hr,a7,zX,List.drop_drop];exact hj
  rw [e]at ht
  cases hk:tokOf ((bytesL d).drop j)with
  |none=>rw [hk]at ht;cases ht
  |some q=>rw [hk]at ht;cases ht;exact⟨rfl,rfl⟩
 have aw:=q8 a0;have HB:=q8 hB;have c0:=cell1 (o:=0) hB rfl;have c1:=cell1 (o:=1) hB rfl;have c2:=cell1 (o:=2) hB rfl;have f1:=zQ hB 1;have f2:=zQ hB 2;have bl:(i:Int)+G.size≤d.size:=by omega
 clear ht hr a7 a0 hB;go_enter Tryz.func231,Tryz.ntmps231;go_wp2_with fail
 go_region
 have hW: ∀W,W=(w.setCell (vw B 1) (ve vp ((i:Int)+G.size))).drew→PBox W B d (i+G.size) G∧Kept (fun g=>g=B) w W:=by
  rintro W rfl;have J:PBox (w.setCell (vw B 1) (ve vp ((i:Int)+G.size))) B d (i+G.size) G:=by
   have:=PBox.set1 HB (i+G.size)
   simpa using this
  exact⟨J,(Kept.setCell (S:=fun g=>g=B) (Kept.refl _ w) (p:=vw B 1) (fun _=>rfl) _).drew⟩
 have J:=hW _ rfl;generalize(w.setCell (vw B 1) (ve vp ((i:Int)+G.size))).drew=W at J⊢;have HP:=q8 J.1;have HK:=q8 J.2;clear J hW c0 c1 c2 f1 f2 HB;go_wp2_with fail
 go_loopw [] (fun wr=> ∃j,PBox wr B d j G∧j≤d.size∧((bytesL d).drop (i+G.size)).dropWhile sp=((bytesL d).drop j).dropWhile sp∧Kept (fun g=>g=B) w wr) (fun wr=>d.size - (intOf ((wr.cell? (vw B 1)).getD undef)).toNat)
 case atStart=>exact⟨_,HP,hi,rfl,HK⟩
 case round=>
  have⟨j,hp,hj,ay,hk⟩:=hrel;have aq:=q8 hp;have ai:=q8 hk;have ak:=q8 ay;have c0:wr.cell? B=some (vf d):=cell1 hp rfl;have c1:wr.cell? (vw B 1)=some (ve vp (j:Nat)):=cell1 hp rfl;have c2:wr.cell? (vw B 2)=some (vf G):=cell1 hp rfl;have f1:wr.frozen? (vw B 1)=false:=zQ hp 1;have f2:wr.frozen? (vw B 2)=false:=zQ hp 2;clear hp hk ay;by_cases a3:j<d.size
  ·have av:(j:Int)<d.size:=by omega
   have⟨ab,C⟩:=byte_at a3;by_cases U:d[j].toNat=32
   ·have ae:((d[j].toNat:Int)==32)=true:=by rw [U];rfl
    have bh:=q8 (show((bytesL d).drop j).dropWhile sp=((bytesL d).drop (j+1)).dropWhile sp by
     rw [drop_at ab,List.dropWhile_cons_of_pos];rw [C];exact decide_eq_true (UInt8.toNat_inj.1 U))
    clear C U;go_wp2_with fail
    go_quiet (fail)
    go_wp2_with fail
    have hq:=PBox.set1 (show PBox (wr.drewN nq) B d j G from qQ ((Near.refl wr).drewN nq) aq) (j+1);have a4:PBox ((wr.drewN nq).setCell (vw B 1) (ve vp ((j:Int)+1))) B d (j+1) G:=by simpa using hq
    have e1:((wr.drewN nq).setCell (vw B 1) (ve vp ((j:Int)+1))).cell? (vw B 1)=some (ve vp ((j+1:Nat):Int)):=cell1 a4 rfl;exact⟨⟨j+1,a4,by omega,by rw [ak.out,bh.out],Kept.setCell (S:=fun g=>g=B) (ai.drewN nq) (p:=vw B 1) (fun _=>rfl) _⟩,by rw [e1,c1];simp [intOf];omega⟩
   ·have ae:((d[j].toNat:Int)==32)=false:=beq_eq_false_iff_ne.2 (by omega)
    have ax:((bytesL d).drop j).dropWhile sp=(bytesL d).drop j:=by
     rw [drop_at ab,List.dropWhile_cons_of_neg];rw [C];unfold sp;rw [decide_eq_true_eq];exact fun e=>U (by rw [e];rfl)
    have HT:=q8 (aw j (by rw [ak.out,ax]));clear C U ax;go_wp2_with fail
    go_quiet (fail)
    go_wp2_with fail
    have X: ∀V,V=(wr.drewN nq).setCell (vw B 2) (vf ⟨#[]⟩)→PBox V B d j ⟨#[]⟩∧Kept (fun g=>g=B) w V:=by
     rintro V rfl;exact⟨PBox.set2 (show PBox (wr.drewN nq) B d j G from qQ ((Near.refl wr).drewN nq) aq) _,Kept.setCell (S:=fun g=>g=B) (ai.drewN nq) (p:=vw B 2) (fun _=>rfl) _⟩
    have h3:=X _ rfl;generalize(wr.drewN nq).setCell (vw B 2) (vf ⟨#[]⟩)=V at h3⊢;have⟨M,N⟩:=h3;have HQ:=q8 M;have an:=q8 N;clear X N c0 c1 c2 f1 f2;have c0:V.cell? B=some (vf d):=cell1 M rfl;have c1:V.cell? (vw B 1)=some (ve vp (j:Nat)):=cell1 M rfl;have c2:V.cell? (vw B 2)=some (vf ⟨#[]⟩):=cell1 M rfl;clear M;have a1:((j:Int)==d.size)=false:=beq_eq_false_iff_ne.2 (by omega);have D:=q8 (show bytesL (d.extract j d.size)=(bytesL d).drop j by rw [kJ,List.take_of_length_le];rw [yC,zX];omega);have az:=q8 (show(bytesL d).drop j≠[] by rw [drop_at ab];exact List.cons_ne_nil _ _);go_quiet (fail)
    go_wp2_with fail
    go_quiet (fail)
    go_upto_region 6 with fail
    generalize au:(V.drewN _).drewN _=V2;have h4:PBox V2 B d j ⟨#[]⟩∧Kept (fun g=>g=B) w V2:=by
     rw [←au];exact⟨qQ (((Near.refl V).drewN _).drewN _) HQ,(an.drewN _).drewN _⟩
    clear au;have⟨ad,a5⟩:=h4;generalize d.extract j d.size=f at D⊢;have P:=q8 ad;have ap:=q8 a5;clear a5 c0 c1 c2;have c2:V2.cell? (vw B 2)=some (vf ⟨#[]⟩):=cell1 ad rfl;have f2:V2.frozen? (vw B 2)=false:=zQ ad 2;clear ad;clear ae ab;go_cut [2,69,70] (fun a b c wz=>a=vf f∧b=vi #[vf ⟨#[60,61,62]⟩,vf ⟨#[61,62]⟩,vf ⟨#[33]⟩,vf ⟨#[38]⟩,vf ⟨#[94]⟩,vf ⟨#[124]⟩,vf ⟨#[63]⟩,vf ⟨#[58]⟩,vf ⟨#[40]⟩,vf ⟨#[41]⟩]∧c=ve vp 0∧wz=V2)
    case first=>
     go_wp2_with fail
     go_meet
     exact⟨rfl,rfl,rfl,rfl⟩
    case rest=>
    obtain⟨rfl,rfl,rfl,rfl⟩:=hcut;go_wp2_with fail
    go_loopw [70] (fun ix wz=>wz=wc∧ ∃k:Nat,k≤10∧ix=ve vp k∧ ∀(q:Nat) s,q<k→signs[q]? =some s→s.isPrefixOf (bytesL f)=false) (fun ix _=>10 - (intOf ix).toNat)
    case atStart=>exact⟨rfl,0,by omega,rfl,fun q s hq=>by omega⟩
    case round=>
     obtain⟨al,k,hk,rfl,a2⟩:=hrel;subst al;have ar:=q8 a2;clear a2;by_cases af:k<10
     ·have l:=q8 (fun w=>Xk f (sgB k) w)
      have a8:Hid (signs[k]? =some (bytesL (sgB k))):=(by decide: ∀k:Fin 10,signs[(k:Nat)]? =some (bytesL (sgB k))) ⟨k,af⟩
      cases hb:(bytesL (sgB k)).isPrefixOf (bytesL f)with
      |false=>
       rw [hb]at l;have m:=q8 (show∀(q:Nat) s,q<k+1→signs[q]? =some s→s.isPrefixOf (bytesL f)=false from fun q s hq hs=>by
        by_cases e:q=k
        ·subst e
         rw [a8.out]at hs
         cases hs;exact hb
        ·exact ar q s (by omega) hs)
       clear hb;rcases(show k=0∨k=1∨k=2∨k=3∨k=4∨k=5∨k=6∨k=7∨k=8∨k=9 by omega)with rfl|rfl|rfl|rfl|rfl|rfl|rfl|rfl|rfl|rfl
       ·have r:=Wa
        go_wp2_with (go_at_call 256;refine(l _).mono ?_;rintro e z ⟨rfl,rfl⟩)
        exact⟨⟨trivial,1,by omega,by go_num,m⟩,by simp [intOf]⟩
       ·have r:=W0
        go_wp2_with (go_at_call 256;refine(l _).mono ?_;rintro e z ⟨rfl,rfl⟩)
        exact⟨⟨trivial,2,by omega,by go_num,m⟩,by simp [intOf]⟩
       ·have r:=UZ
        go_wp2_with (go_at_call 256;refine(l _).mono ?_;rintro e z ⟨rfl,rfl⟩)
        exact⟨⟨trivial,3,by omega,by go_num,m⟩,by simp [intOf]⟩
       ·have r:=UY
        go_wp2_with (go_at_call 256;refine(l _).mono ?_;rintro e z ⟨rfl,rfl⟩)
        exact⟨⟨trivial,4,by omega,by go_num,m⟩,by simp [intOf]⟩
       ·have r:=UX
        go_wp2_with (go_at_call 256;refine(l _).mono ?_;rintro e z ⟨rfl,rfl⟩)
        exact⟨⟨trivial,5,by omega,by go_num,m⟩,by simp [intOf]⟩
       ·have r:=UW
        go_wp2_with (go_at_call 256;refine(l _).mono ?_;rintro e z ⟨rfl,rfl⟩)
        exact⟨⟨trivial,6,by omega,by go_num,m⟩,by simp [intOf]⟩
       ·have r:=UV
        go_wp2_with (go_at_call 256;refine(l _).mono ?_;rintro e z ⟨rfl,rfl⟩)
        exact⟨⟨trivial,7,by omega,by go_num,m⟩,by simp [intOf]⟩
       ·have r:=UU
        go_wp2_with (go_at_call 256;refine(l _).mono ?_;rintro e z ⟨rfl,rfl⟩)
        exact⟨⟨trivial,8,by omega,by go_num,m⟩,by simp [intOf]⟩
       ·have r:=UT
        go_wp2_with (go_at_call 256;refine(l _).mono ?_;rintro e z ⟨rfl,rfl⟩)
        exact⟨⟨trivial,9,by omega,by go_num,m⟩,by simp [intOf]⟩
       ·have r:=US
        go_wp2_with (go_at_call 256;refine(l _).mono ?_;rintro e z ⟨rfl,rfl⟩)
        exact⟨⟨trivial,10,by omega,by go_num,m⟩,by simp [intOf]⟩
      |true=>
       rw [hb]at l;have bb:=q8 (show tokOf (bytesL f)=some (bytesL (sgB k)) by
        unfold tokOf;rw [if_neg (by rw [D.out];exact az),YG a8 hb ar])
       have y:=q8 (show j+(sgB k).size≤d.size by
        have J:=(List.isPrefixOf_iff_prefix.1 hb).length_le;rw [zX,D.out,yC,zX]at J;omega)
       have A:=q8 (show PAt (wr.setCell (vw B 2) (vf (sgB k))) B d t'∧Kept (fun g=>g=B) w (wr.setCell (vw B 2) (vf (sgB k)))from⟨⟨⟨j,sgB k,PBox.set2 P _,y,HT.2,by have e:=HT.1;rw [←D.out,bb.out]at e;exact(zm e).symm⟩⟩,Kept.setCell (S:=fun g=>g=B) ap (p:=vw B 2) (fun _=>rfl) _⟩);clear hb;rcases(show k=0∨k=1∨k=2∨k=3∨k=4∨k=5∨k=6∨k=7∨k=8∨k=9 by omega)with rfl|rfl|rfl|rfl|rfl|rfl|rfl|rfl|rfl|rfl
       ·have r:=Wa
        go_wp2_with (go_at_call 256;refine(l _).mono ?_;rintro e z ⟨rfl,rfl⟩)
        refine qo (results_none rfl _ _ _) rfl ?_;exact⟨rfl,A⟩
       ·have r:=W0
        go_wp2_with (go_at_call 256;refine(l _).mono ?_;rintro e z ⟨rfl,rfl⟩)
        refine qo (results_none rfl _ _ _) rfl ?_;exact⟨rfl,A⟩
       ·have r:=UZ
        go_wp2_with (go_at_call 256;refine(l _).mono ?_;rintro e z ⟨rfl,rfl⟩)
        refine qo (results_none rfl _ _ _) rfl ?_;exact⟨rfl,A⟩
       ·have r:=UY
        go_wp2_with (go_at_call 256;refine(l _).mono ?_;rintro e z ⟨rfl,rfl⟩)
        refine qo (results_none rfl _ _ _) rfl ?_;exact⟨rfl,A⟩
       ·have r:=UX
        go_wp2_with (go_at_call 256;refine(l _).mono ?_;rintro e z ⟨rfl,rfl⟩)
        refine qo (results_none rfl _ _ _) rfl ?_;exact⟨rfl,A⟩
       ·have r:=UW
        go_wp2_with (go_at_call 256;refine(l _).mono ?_;rintro e z ⟨rfl,rfl⟩)
        refine qo (results_none rfl _ _ _) rfl ?_;exact⟨rfl,A⟩
       ·have r:=UV
        go_wp2_with (go_at_call 256;refine(l _).mono ?_;rintro e z ⟨rfl,rfl⟩)
        refine qo (results_none rfl _ _ _) rfl ?_;exact⟨rfl,A⟩
       ·have r:=UU
        go_wp2_with (go_at_call 256;refine(l _).mono ?_;rintro e z ⟨rfl,rfl⟩)
        refine qo (results_none rfl _ _ _) rfl ?_;exact⟨rfl,A⟩
       ·have r:=UT
        go_wp2_with (go_at_call 256;refine(l _).mono ?_;rintro e z ⟨rfl,rfl⟩)
        refine qo (results_none rfl _ _ _) rfl ?_;exact⟨rfl,A⟩
       ·have r:=US
        go_wp2_with (go_at_call 256;refine(l _).mono ?_;rintro e z ⟨rfl,rfl⟩)
        refine qo (results_none rfl _ _ _) rfl ?_;exact⟨rfl,A⟩
     ·have bc:k=10:=by omega
      have bk:f.size<4611686018427387904:=by
       have J:=zX f;rw [D.out,yC,zX]at J;omega
      have be: ¬(k:Int)<10:=by omega
      have ao:=q8 (show signs.find? (fun s=>s.isPrefixOf (bytesL f))=none by
       rw [List.find?_eq_none];intro s hs;have⟨q,hq⟩:=List.getElem?_of_mem hs;have bi:q<10:=(List.getElem?_eq_some_iff.1 hq).1;rw [ar.out q s (by omega) hq];decide)
      have ah:=q8 (show(((bytesL f).takeWhile fun c=>wordB c.toNat)=[48]∨((bytesL f).takeWhile fun c=>wordB c.toNat)=[49]∨nameB ⟨((bytesL f).takeWhile fun c=>wordB c.toNat).toArray⟩=true)∧t'.word=((bytesL f).takeWhile fun c=>wordB c.toNat) by
       have e:=HT.1;rw [←D.out]at e;unfold tokOf at e;rw [if_neg (by rw [D.out];exact az),ao.out]at e;dsimp only at e;split at e
       ·rename_i hc
        exact⟨hc,(zm e).symm⟩
       ·cases e)
      clear hk af bc;go_upto_region 12 with fail
      go_cut [2,5] (fun a b wz=>a=vf f∧b=ve vp 0∧wz=wr)
      case first=>
       go_wp2_with fail
       go_meet
       exact⟨rfl,rfl,rfl⟩
      case rest=>
      obtain⟨rfl,rfl,rfl⟩:=hcut;go_wp2_with fail
      obtain⟨wo,bd⟩: ∃x,x=wc:=⟨_,rfl⟩;subst bd;go_loopw [5] (fun nv wz=>wz=wo∧ ∃n:Nat,n≤f.size∧nv=ve vp n∧ ∀c∈(bytesL f).take n,wordB c.toNat=true) (fun nv _=>f.size - (intOf nv).toNat)
      case atStart=>exact⟨rfl,0,Nat.zero_le _,rfl,by simp⟩
      case round=>
       obtain⟨al,n,hn,rfl,ag⟩:=hrel;subst al;have R:=q8 ag;clear ag;by_cases am:n<f.size
       ·have a9:(n:Int)<f.size:=by omega
        have⟨ba,C⟩:=byte_at am
        cases K:wordB f[n].toNat with
        |true=>
         have bf:=q8 (show∀c∈(bytesL f).take (n+1),wordB c.toNat=true by
          rw [List.take_succ_eq_append_getElem ba];intro c hc;rcases List.mem_append.1 hc with hc|hc
          ·exact R c hc
          ·rw [List.mem_singleton.1 hc,C]
           exact K)
         have HI:=q8 (fun w=>inWord_calls f[n].toNat w);rw [K]at HI;clear K C;go_wp2_with (go_at_call 257;refine(HI _).mono ?_;rintro e z ⟨rfl,rfl⟩)
         exact⟨⟨trivial,n+1,am,by go_num,bf⟩,by simp [intOf];omega⟩
        |false=>
         have Q:Hid (∀h:n<(bytesL f).length,wordB ((bytesL f)[n]).toNat=false):=fun h=>by rw [C];exact K
         have HI:=q8 (fun w=>inWord_calls f[n].toNat w);rw [K]at HI;clear K C;have aj:=q8 (show((bytesL f).takeWhile fun c=>wordB c.toNat)=bytesL (f.extract 0 n) by rw [kJ,wj,Nat.sub_zero];exact uB R Q);have v:=q8 (show(bytesL (f.extract 0 n)=[48]∨bytesL (f.extract 0 n)=[49]∨nameB (f.extract 0 n)=true)∧t'.word=bytesL (f.extract 0 n) by
          have:=ah.out
          rw [aj.out]at this;exact this)
         have y:=q8 (show j+(f.extract 0 n).size≤d.size by
          have J:(bytesL (f.extract 0 n)).length≤(bytesL f).length:=by rw [kJ,wj,zd];omega
          rw [zX,D.out,yC,zX]at J;omega)
         go_upto_region 16 with(go_at_call 257;refine(HI _).mono ?_;rintro e z ⟨rfl,hq⟩;have hq:=hq.symm;subst hq)
         generalize f.extract 0 n=u at v y⊢;have Z: ∀L,L=wr.setCell (vw B 2) (vf u)→PAt L B d t'∧Kept (fun g=>g=B) w L∧L.cell? (vw B 2)=some (vf u):=by
          rintro L rfl;exact⟨⟨⟨j,u,PBox.set2 P _,y,HT.2,v.2⟩⟩,Kept.setCell (S:=fun g=>g=B) ap (p:=vw B 2) (fun _=>rfl) _,cell1 (PBox.set2 P _) rfl⟩
         have h5:=Z _ rfl;generalize wr.setCell (vw B 2) (vf u)=L at h5⊢;have⟨aa,Y,c5⟩:=h5;have H:=q8 aa;have I:=q8 Y;clear Z aa Y c2 f2;rcases v.1 with E|E|E
         ·obtain rfl:u=⟨#[48]⟩:=xH E
          clear E v y;go_wp2_with fail
          go_end0
          exact⟨rfl,H,I⟩
         ·obtain rfl:u=⟨#[49]⟩:=xH E
          clear E v y;go_wp2_with fail
          go_end0
          exact⟨rfl,H,I⟩
         ·have O:=q8 (fun w=>kQ u w)
          rw [E]at O;clear E v y;go_wp2_with (go_at_call 240;refine(O _).mono ?_;rintro e z ⟨rfl,rfl⟩)
          all_goals
           go_end0
           exact⟨rfl,H,I⟩
       ·have Q:Hid (∀h:n<(bytesL f).length,wordB ((bytesL f)[n]).toNat=false):=fun h=>absurd (zX f▸h) am
        have a9: ¬(n:Int)<f.size:=by omega
        have aj:=q8 (show((bytesL f).takeWhile fun c=>wordB c.toNat)=bytesL (f.extract 0 n) by rw [kJ,wj,Nat.sub_zero];exact uB R Q);have v:=q8 (show(bytesL (f.extract 0 n)=[48]∨bytesL (f.extract 0 n)=[49]∨nameB (f.extract 0 n)=true)∧t'.word=bytesL (f.extract 0 n) by
         have:=ah.out
         rw [aj.out]at this;exact this)
        have y:=q8 (show j+(f.extract 0 n).size≤d.size by
         have J:(bytesL (f.extract 0 n)).length≤(bytesL f).length:=by rw [kJ,wj,zd];omega
         rw [zX,D.out,yC,zX]at J;omega)
        go_upto_region 16 with fail
        generalize f.extract 0 n=u at v y⊢;have Z: ∀L,L=wr.setCell (vw B 2) (vf u)→PAt L B d t'∧Kept (fun g=>g=B) w L∧L.cell? (vw B 2)=some (vf u):=by
         rintro L rfl;exact⟨⟨⟨j,u,PBox.set2 P _,y,HT.2,v.2⟩⟩,Kept.setCell (S:=fun g=>g=B) ap (p:=vw B 2) (fun _=>rfl) _,cell1 (PBox.set2 P _) rfl⟩
        have h5:=Z _ rfl;generalize wr.setCell (vw B 2) (vf u)=L at h5⊢;have⟨aa,Y,c5⟩:=h5;have H:=q8 aa;have I:=q8 Y;clear Z aa Y c2 f2;rcases v.1 with E|E|E
        ·obtain rfl:u=⟨#[48]⟩:=xH E
         clear E v y;go_wp2_with fail
         go_end0
         exact⟨rfl,H,I⟩
        ·obtain rfl:u=⟨#[49]⟩:=xH E
         clear E v y;go_wp2_with fail
         go_end0
         exact⟨rfl,H,I⟩
        ·have O:=q8 (fun w=>kQ u w)
         rw [E]at O;clear E v y;go_wp2_with (go_at_call 240;refine(O _).mono ?_;rintro e z ⟨rfl,rfl⟩)
         all_goals
          go_end0
          exact⟨rfl,H,I⟩
  ·have bg:j=d.size:=by omega
   have HT:=q8 (aw j (by rw [ak.out,List.drop_eq_nil_of_le (by rw [zX];omega)];rfl));have a6:Hid ((bytesL d).drop j=[]):=List.drop_eq_nil_of_le (by rw [zX];omega);have av: ¬(j:Int)<d.size:=by omega
   have a1:((j:Int)==d.size)=true:=by rw [bg];simp
   clear a3;go_wp2_with fail
   go_quiet (fail)
   go_wp2_with fail
   have X: ∀V,V=(wr.drewN nq).setCell (vw B 2) (vf ⟨#[]⟩)→PBox V B d j ⟨#[]⟩∧Kept (fun g=>g=B) w V:=by
    rintro V rfl;exact⟨PBox.set2 (show PBox (wr.drewN nq) B d j G from qQ ((Near.refl wr).drewN nq) aq) _,Kept.setCell (S:=fun g=>g=B) (ai.drewN nq) (p:=vw B 2) (fun _=>rfl) _⟩
   have h3:=X _ rfl;generalize(wr.drewN nq).setCell (vw B 2) (vf ⟨#[]⟩)=V at h3⊢;have⟨M,N⟩:=h3;have HQ:=q8 M;have an:=q8 N;clear X N c0 c1 c2 f1 f2;have c0:V.cell? B=some (vf d):=cell1 M rfl;have c1:V.cell? (vw B 1)=some (ve vp (j:Nat)):=cell1 M rfl;have c2:V.cell? (vw B 2)=some (vf ⟨#[]⟩):=cell1 M rfl;clear M;go_quiet (fail)
   go_wp2_with fail
   refine qo (results_none rfl _ _ _) rfl ?_;refine⟨rfl,⟨⟨j,⟨#[]⟩,qQ ((Near.refl V).drewN nq) HQ,by show j+0≤d.size;omega,HT.2,?_⟩⟩,an.drewN nq⟩
   have:=HT.1
   rw [a6.out]at this;exact(zm this).symm
end Go.Proofs.YtjcbmcnbdegpmaaGreatDoor
