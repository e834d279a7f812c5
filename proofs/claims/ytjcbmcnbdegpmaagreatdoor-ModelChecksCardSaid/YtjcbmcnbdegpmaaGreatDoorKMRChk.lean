/- MLimit, MAdded, MGroupL, MGramG, MGramH, MDiag, MBroken, MPhone, MPut, MRFeat, MRGrps, MRRow, MRValid, MRChk. -/
import Derived.Defers
import Derived.Recover
import Derived.Test.YtjcbmcnbdegpmaaGreatDoorKMLit
import Derived.Test.YtjcbmcnbdegpmaaGreatDoorKMRGrp
import Derived.Test.YtjcbmcnbdegpmaaGreatDoorKMGreat
set_option maxRecDepth 100000
set_option maxHeartbeats 12800000
set_option linter.unusedVariables false
set_option linter.unusedSimpArgs false
open Bool renaming and_eq_true->qy,true_and->YS
open ByteArray renaming empty->yi
open Go renaming bodyPost_ret->qo,info_parts->zG,results->qC
open Go.Calls renaming quiet_of_same->vP
open Go.Ending renaming returned->jM
open Go.Lib renaming hid->q8
open Go.Proofs.Mod.Grp renaming members->yq
open Go.Proofs.Tryz renaming prog->qj,results129->uj,results133->QN,underlying47->yF,underlying68->yS
open Go.Value renaming oneCell'->qX,slice->qw,string->yb
open Go.Value.slice renaming injEq->qq
open Go.World renaming ownsRow_nil->qW
open List renaming all_append->QS,all_cons->YR,all_eq_true->qL,append_assoc->qS,cons_append->zl,getElem?_eq_getElem->qi,getElem?_eq_some_iff->qm,length->uq,length_append->qn,length_cons->qT,length_drop->yC,length_map->qG,length_take->zd,map_append->ze,mem_append->qK,mem_cons->qI,mem_of_getElem?->qp,not_mem_nil->zh,range->qO,take_add_one->qU,take_length->qF,take_of_length_le->zE
open List.cons renaming injEq->qJ
open Nat renaming le_refl->qt,le_trans->qH,lt_of_le_of_lt->zR,lt_of_lt_of_le->qu,testBit->Qy,zero_le->qv
open Go.Value renaming slice->vd,int->ve,string->vf,pointer->vg,agg->vi,bool->vj
open Go.Obj renaming cells->vk
open Go.Ending renaming returned->vm
open Go.IntKind renaming i64->vp,u8->vq,u32->vr,u64->vt
open Or renaming inl->vu,inr->vv
namespace Go.Proofs.YtjcbmcnbdegpmaaGreatDoor
open Go Go.RowKit Go.Proofs.Gen Go.Proofs.Mod
variable{B G N base k:Nat}{Sw:Nat→Prop}{a:ByteArray}{r:RS}{wv:Value}
theorem q6k:(qj.info? 89).map (fun i=>(i.zero,i.size,i.bytes))=some (some (vi #[ve vp 0,ve vq 0,ve vp 0]),3,24):=by kernel_rfl
theorem Vt{w:World}(h:xW base B G N w r)(hv:ji w)(av:r.m.atts.length≤8)(az:r.m.lims.length≤16){f:List ByteArray}(hw:RdL Sw 1 RdS w wv f)(hz: ∀i,(wd f i).size≤4194304)(rest:ByteArray):
 Calls qj 133 #[vg B,wv,vf rest] w (LPost base B G N w (limitL r f)):=by
 have⟨i0,hi,ap,ae,ak⟩:=zG q6k
 have D:=q8 (fun w' (hn:Near w w')=>uI (hv.near hn) (s:=wd f 3) (by have:=hz 3;omega))
 have HI:=q8 (fun w' (h':xW base B G N w' r)=>YK h' (by omega) (wd f 1))
 have HR:=q8 h
 have⟨a,b,c,d,e,gs,ts,ps,h⟩:=h
 obtain⟨a1,a2,b1,b2,c1,c2,d1,d2,K,J,rfl,rfl,rfl,rfl,rfl⟩:=h.forms
 have Q:=q8 h
 obtain⟨ao,ay,rfl⟩:=hw.form
 have W:=q8 hw
 have HQ:Hid (limitL r f=if f.length=4 then(match numB (wd f 3)with|some x=>if relW (wd f 2)=0 then(4,r)else if 0≤idxA r.m (wd f 1)then(if r.m.lims.length=16 then(5,r)else(0,⟨⟨r.m.feats,r.m.grps,r.m.atts,r.m.reqs,r.m.lims++[⟨idxA r.m (wd f 1),relW (wd f 2),x⟩]⟩,r.given⟩))else(6,r)|none=>(4,r))else(4,r)):=rfl
 generalize limitL r f=y at HQ⊢
 by_cases h2:f.length=4
 ·obtain⟨g,o,rfl,-⟩:=kt W (by omega)
  have au:(1:Int)<f.length:=by omega
  have aq:(2:Int)<f.length:=by omega
  have ar:(3:Int)<f.length:=by omega
  have aj:((f.length:Int) !=4)=false:=by rw [bne_eq_false_iff_eq];omega
  have l:=q8 (HQ.trans (if_pos h2))
  have⟨V,W2,W3,r1,r2,r3,n3,ab⟩:=q89 w (k1:=⟨#[60,61]⟩) (k2:=⟨#[62,61]⟩) (k3:=⟨#[61]⟩) (by decide) (by decide) (by decide) (by decide) (by decide) (by decide) 1 2 3
  have ax:= @run_makeMap qj
  have E:=ab (wd f 2) (by have:=hz 2;unfold maxLen;omega)
  have aa:(if wd f 2=(⟨#[60,61]⟩:ByteArray)then(1:Int)else if wd f 2=⟨#[62,61]⟩then 2 else if wd f 2=⟨#[61]⟩then 3 else 0)=((relW (wd f 2):Nat):Int):=by
   have K: "<=".toUTF8=(⟨#[60,61]⟩:ByteArray):=by decide
   have J: ">=".toUTF8=(⟨#[62,61]⟩:ByteArray):=by decide
   have e3: "=".toUTF8=(⟨#[61]⟩:ByteArray):=by decide
   unfold relW
   rw [K,J,e3]
   repeat' split
   all_goals rfl
  rw [aa]at E
  generalize relW (wd f 2)=m at E l
  generalize numB (wd f 3)=nb at D l
  generalize idxA r.m (wd f 1)=p at HI l
  have U:=q8 n3
  have a5:=n3.cell (jz W (i:=2) (by omega))
  have aw:=n3.cell (jz W (i:=3) (by omega))
  have am:=q8 (jz W (i:=1) (by omega))
  go_enter Tryz.func133,Tryz.ntmps133
  go_upto_region 6 with(first
   |(go_at_call 189;refine(D _ U).mono ?_;rintro e w1 ⟨z,rfl,ah,n1⟩;have HZ:=q8 ah;have N1:=q8 (U.trans n1);have a4:=N1.cell am)
   |(go_at_call 190;refine(HI _ ⟨_,_,_,_,_,_,_,_,Q.near N1⟩).mono ?_;rintro e H ⟨rfl,n2⟩;have N2:=q8 (N1.trans n2)))
  have j:=q8 (Q.near N2)
  have q4:=cell1 (o:=4) j.box rfl
  have ag: ∀q:Nat,y=(q,r)→LPost base B G N w y (vm (ve vp (q:Nat))) H:=fun q hq=>⟨by rw [hq],by rw [hq];exact⟨_,_,_,_,_,_,_,_,j⟩,N2.kept⟩
  have n:=q8 ag
  by_cases hr:m=0
  ·have t:Hid (y=(4,r)):=l.trans (by rw [hr];cases nb<;>rfl)
   have ai:(m:Int)=0:=by omega
   go_wp2_with fail
   exact qo (v:=ve vp 4) (by simp [qC,QN,go_sem]) rfl (n 4 t)
  have ai: ¬(m:Int)=0:=by omega
  cases nb with
  |none=>
   have t:Hid (y=(4,r)):=l
   go_wp2_with fail
   exact qo (v:=ve vp 4) (by simp [qC,QN,go_sem]) rfl (n 4 t)
  |some x=>
   obtain rfl:=HZ x rfl
   have t:Hid (y=if 0≤p then(if r.m.lims.length=16 then(5,r)else(0,⟨⟨r.m.feats,r.m.grps,r.m.atts,r.m.reqs,r.m.lims++[⟨p,m,z⟩]⟩,r.given⟩))else(6,r)):=l.trans (if_neg hr)
   by_cases hp:0≤p
   ·have af: ¬p<0:=by omega
    have A:=q8 (t.trans (if_pos hp))
    by_cases P:r.m.lims.length=16
    ·have M:(r.m.lims.length:Int)=16:=by omega
     have C:=q8 (A.trans (if_pos P))
     go_wp2_with fail
     exact qo (v:=ve vp 5) (by simp [qC,QN,go_sem]) rfl (n 5 C)
    ·have M: ¬(r.m.lims.length:Int)=16:=by omega
     have C:=q8 (A.trans (if_neg P))
     have hB:(qw K r.m.lims.length J).ownBlock≠some B:=fun e=>by
      have:=(zY j.l e).1
      have:=j.hB
      omega
     have Z:=q8 hB
     have HL:=q8 j.l
     have a0:=j.hb
     have cm: ∀(V L:World),V.grownBy L (qw K r.m.lims.length J).ownBlock→Near H V→L.cell? (vw B 4)=some (vd K r.m.lims.length J)∧L.frozen? (vw B 4)=false:=fun V L hg hn=>by
      have hb:=qQ (Kept.grown (S:=fun k=>(qw K r.m.lims.length J).ownBlock=some k) hn.kept hg (fun k hk _=>hk)) j.box hB
      exact⟨cell1 hb rfl,zQ hb 4⟩
     have R:=q8 cm
     go_wp2_with (at_builtin;go_must (refine wpList_append_own_at _ rfl (.tmp 55) (.tmp 60) 26 rfl base 89 i0 (vi #[ve vp 0,ve vq 0,ve vp 0]) 3 24 Tryz.underlying26 hi ap ae ak rfl (by decide) _ r.m.lims.length (r.m.lims.flatMap encLm) rfl (owns_kept HL ((Near.refl H).alloc _) (fun _ _ h=>h)) ⟨H.heap.size,0,none⟩ 1 1 [ve vp p,ve vq m,ve vp z] rfl rfl (K6 (by simp) _ _ _ _) (by simp [qX]) (by unfold maxLen;omega) (by omega) (by simp;omega) ?_);go_must (intro v3 L u I _ Y;have c4:=(R _ _ I ((Near.refl H).alloc _)).1;have f4:=(R _ _ I ((Near.refl H).alloc _)).2;have al:=q8 u;have ad:=q8 I;have X:=q8 Y;obtain⟨an,O,rfl⟩:=qR u))
     have⟨s1,s2,s3⟩:=gG j.box Z ((Near.refl H).alloc (vk #[ve vp p,ve vq m,ve vp z] 89)) ad 4 (vd an (r.m.lims.length+1) O)
     exact qo (v:=ve vp 0) (by simp [qC,QN,go_sem]) rfl ⟨by rw [C.out];rfl,by rw [C.out];exact⟨_,_,_,_,_,_,_,_,j.lim (x:=⟨p,m,z⟩) s2 s1 (s3 al (by decide)) (Qr X (by simp))⟩,N2.kept.trans (Kept.mono s2 fun k _ hk=>hk.elim (fun e=>vv (vu e)) fun e=>vu (zY j.l e).1)⟩
   ·have af:p<0:=by omega
    have A:=q8 (t.trans (if_neg hp))
    go_wp2_with fail
    exact qo (v:=ve vp 6) (by simp [qC,QN,go_sem]) rfl (n 6 A)
 ·have aj:((f.length:Int) !=4)=true:=by rw [bne_iff_ne];omega
  have l:=q8 (HQ.trans (if_neg h2))
  have a3: ¬(f.length:Int)=4:=by omega
  go_enter Tryz.func133,Tryz.ntmps133
  go_wp2_with fail
  exact qo (v:=ve vp 4) (by simp [qC,QN,go_sem]) rfl ⟨by rw [l.out];rfl,by rw [l.out];exact HR,Kept.refl _ _⟩
theorem q6n:(qj.info? 81).map (fun i=>(i.zero,i.size,i.bytes))=some (some (vi #[vf ⟨#[]⟩,vd none 0 0]),2,40):=by kernel_rfl
theorem Uh{w:World}(h:xW base B G N w r)(az:r.m.atts.length≤8){j:List ByteArray}(hw:RdL Sw 1 RdS w wv j)(rest:ByteArray):
 Calls qj 130 #[vg B,wv,vf rest] w (LPost base B G N w (addedL r j)):=by
 have⟨i0,hi,ah,ad,al⟩:=zG q6n;have⟨i9,am,aq,ap,ai⟩:=zG XD;have HR:=q8 h;have⟨a,b,c,d,e,gs,ts,ps,h⟩:=h;obtain⟨a1,a2,b1,b2,K,J,d1,d2,e1,e2,rfl,rfl,rfl,rfl,rfl⟩:=h.forms;have P:=q8 h;obtain⟨_,_,_,_,_,hv,-,-,hF,-⟩:=h.mod
 cases hv;have HF:=q8 hF;have q2:=cell1 (o:=2) h.box rfl;obtain⟨ao,Q,rfl⟩:=hw.form;have HW:=q8 hw;have HQ:Hid (addedL r j=if j.length=2 then(if freshE (r.m.atts.map Att.name) (wd j 1)=0 then(if r.m.atts.length=8 then(5,r)else(0,⟨⟨r.m.feats,r.m.grps,r.m.atts++[⟨wd j 1,[]⟩],r.m.reqs,r.m.lims⟩,r.given⟩))else(freshE (r.m.atts.map Att.name) (wd j 1),r))else(4,r)):=rfl;generalize addedL r j=Y at HQ⊢;clear h hw hF;by_cases h2:j.length=2
 ·obtain⟨g,o,rfl,-⟩:=kt HW (by omega)
  have au:(1:Int)<j.length:=by omega
  have X:((j.length:Int) !=2)=false:=by rw [bne_eq_false_iff_eq];omega
  have p:=q8 (HQ.trans (if_pos h2));have Z:=q8 (jz HW (i:=1) (by omega));clear h2;go_enter Tryz.func130,Tryz.ntmps130;go_wp2_with fail
  go_loopw [7,20] (fun v i wr=> ∃k:Nat,k≤r.m.atts.length∧i=ve vp k∧wr.ownsRow w.heap.size 9 1 v k (((r.m.atts.map Att.name).take k).map vf)∧Near w wr) (fun _ i _=>r.m.atts.length - (intOf i).toNat)
  case atStart=>exact⟨0,qv _,rfl,qW _ _ _ _,Near.refl _⟩
  case round=>
   obtain⟨k,L,rfl,s,V⟩:=hrel;obtain⟨vo,vc,rfl⟩:=qR s;have HO:=q8 s;have m:=q8 V;clear s V q2;by_cases D:k<r.m.atts.length
   ·have ar:(k:Int)<r.m.atts.length:=by omega
    obtain⟨x,hx⟩: ∃x,r.m.atts[k]? =some x:=⟨_,qi D⟩;have⟨a0,av,e,hc⟩:=HF.out;obtain⟨bb,oo,vs,af,-,l,hv⟩:=hc k x hx;obtain⟨sv,rfl,hs⟩:=hv;obtain⟨so,sc,rfl⟩:=hs.form;simp only [qq,true_and]at e;obtain⟨rfl,rfl⟩:=e;subst af;have g0:=m.cell (show w.cell? (vw bb (oo+k*2))=some (vf x.name)from l 0 _ rfl);have g1:=m.cell (show w.cell? (vw bb (oo+k*2+1))=some (vd so x.values.length sc)from l 1 _ rfl);have HX:=q8 (Kq hx);clear hc l hx hs;go_wp2_with (at_builtin;go_must (refine wpList_append_more rfl (.tmp 24) (.tmp 27) 68 rfl w.heap.size 9 i9 (vf yi) 1 16 yS am aq ap ai rfl (by decide) (vd vo k vc) k (((r.m.atts.map Att.name).take k).map vf) rfl ((HO.alloc _).alloc _) _ 1 [vf x.name] rfl ⟨rfl,vv ⟨_,1,rfl,cell_one_at (by simp) _ _⟩⟩ (by simp [qX]) (by unfold maxLen;omega) (by omega) (by have:=m.size;simp;omega) ?_);intro b3 c3 C u R;have an:=q8 u;have ag:=q8 (Kept.grown ((m.alloc _).alloc _) R (fun k e D=>by have:=(zY HO e).1;omega):Near w C);clear u R)
    exact⟨⟨k+1,D,by go_num,by rw [HX.out];exact an,ag⟩,by simp [intOf];omega⟩
   ·obtain rfl:k=r.m.atts.length:=by omega
    have ae:=q8 (show RdL (fun g=>w.heap.size≤g) 1 RdS wr (vd vo r.m.atts.length vc) (r.m.atts.map Att.name)from by
     have hl:(r.m.atts.map Att.name).length=r.m.atts.length:=qG ..
     have:=HO.out
     rw [zE (by omega),←hl]at this
     have:=RdL.strings this
     rwa [hl]at this)
    have O:=q8 (fun w' (hn:Near wr w')=>vZ (ae.kept hn (fun _ _ h=>h) (fun _ h=>h) (fun _ _ h=>h)) (by rw [qG];omega) (wd j 1));have U:=m.cell Z;generalize freshE (r.m.atts.map Att.name) (wd j 1)=q at p O;go_upto_region 10 with(go_at_call 97;refine(O _ (Near.refl _)).mono ?_;rintro e t ⟨rfl,n2⟩;have N2:=q8 (m.trans n2);clear n2)
    have f:=q8 (P.near N2);have M: ∀q:Nat,Y=(q,r)→LPost base B G N w Y (vm (ve vp (q:Nat))) t:=fun q hq=>⟨by rw [hq],by rw [hq];exact⟨_,_,_,_,_,_,_,_,f⟩,N2.kept⟩;have A:=q8 M;clear M U;by_cases h0:q=0
    ·subst h0
     have z:=q8 (p.trans (if_pos rfl));by_cases h8:r.m.atts.length=8
     ·have aj:(r.m.atts.length:Int)=8:=by omega
      have y:=q8 (z.trans (if_pos h8));go_wp2_with fail
      exact qo (v:=ve vp 5) (by simp [qC,Tryz.results130,go_sem]) rfl (A 5 y)
     ·have aj: ¬(r.m.atts.length:Int)=8:=by omega
      have y:=q8 (z.trans (if_neg h8));have q0:=cell1 (o:=2) f.box rfl;have U:=N2.cell Z;have hB:(qw K r.m.atts.length J).ownBlock≠some B:=fun e=>by
       have:=(zY f.t e).1
       have:=f.hB
       omega
      have ab:=q8 hB;have a3:=f.hb;have cm: ∀(W1 C:World),W1.grownBy C (qw K r.m.atts.length J).ownBlock→Near t W1→C.cell? (vw B 2)=some (vd K r.m.atts.length J)∧C.frozen? (vw B 2)=false:=fun W1 C hg hn=>by
       have hb:=qQ (Kept.grown (S:=fun k=>(qw K r.m.atts.length J).ownBlock=some k) hn.kept hg (fun k L _=>L)) f.box hB;exact⟨cell1 hb rfl,zQ hb 2⟩
      have W:=q8 cm;have I:ts.length=r.m.atts.length:=by rw [←P.out.te,qG]
      have HT:=q8 (I▸f.t:t.ownsRow base 81 2 (vd K r.m.atts.length J) r.m.atts.length (ts.flatMap Ka));have aa:=q8 I;clear cm hB I h8;go_upto_region 14 with fail
      go_cut [] (fun wx=>xW base B G N wx ⟨⟨r.m.feats,r.m.grps,r.m.atts++[⟨wd j 1,[]⟩],r.m.reqs,r.m.lims⟩,r.given⟩∧Kept (fun g=>base≤g∨g=B∨g=G) t wx)
      case first=>
       have aw:(t.alloc (vk #[vf (wd j 1),vd none 0 0] 81)).cell? (vw B 2)=some (vd K r.m.atts.length J):=((Near.refl t).alloc _).cell q0;go_region_law (refine jd rfl (.tmp 46) (.tmp 51) 24 rfl base 81 i0 (vi #[vf ⟨#[]⟩,vd none 0 0]) 2 40 Tryz.underlying24 hi ah ad al rfl (by decide) _ _ _ rfl (owns_kept HT ((Near.refl t).drew.alloc _) (fun _ _ h=>h)) ⟨t.heap.size,0,none⟩ 1 1 [vf (wd j 1),vd none 0 0] rfl rfl (by exact kK (by simp) _ _ _) (by simp [qX]) (by unfold maxLen;omega) (by omega) (by simp;omega) ?_;intro ao Q C E H ak;have a4:=(W _ _ H ((Near.refl t).drew.alloc _)).1;have ay:=(W _ _ H ((Near.refl t).drew.alloc _)).2)
       all_goals
        go_wp2_with fail
        go_meet
        have⟨s1,s2,s3⟩:=gG f.box ab ((Near.refl t).drew.alloc (vk #[vf (wd j 1),vd none 0 0] 81)) H 2 (vd ao (r.m.atts.length+1) Q);exact⟨⟨_,_,_,_,_,_,_,_,f.att (n:=wd j 1) s2 s1 (aa.out▸s3 E (by decide)) (Qr ak (by simp))⟩,Kept.mono s2 fun k _ L=>L.elim (fun e=>vv (vu e)) fun e=>vu (zY f.t e).1⟩
      case rest=>
       have⟨hr,L⟩:=hcut;go_wp2_with fail
       exact qo (v:=ve vp 0) (by simp [qC,Tryz.results130,go_sem]) rfl ⟨by rw [y.out];rfl,by rw [y.out];exact hr,N2.kept.trans L⟩
    ·have X:((q:Int) !=0)=true:=by rw [bne_iff_ne];omega
     have z:=q8 (p.trans (if_neg h0));clear h0;go_wp2_with fail
     exact qo (v:=ve vp q) (by simp [qC,Tryz.results130,go_sem]) rfl (A q z)
 ·have X:((j.length:Int) !=2)=true:=by rw [bne_iff_ne];omega
  have p:=q8 (HQ.trans (if_neg h2));have ax: ¬(j.length:Int)=2:=by omega
  clear h2;go_enter Tryz.func130,Tryz.ntmps130;go_wp2_with fail
  exact qo (v:=ve vp 4) (by simp [qC,Tryz.results130,go_sem]) rfl ⟨by rw [p.out];rfl,by rw [p.out];exact HR,Kept.refl _ _⟩
theorem q6l:(qj.info? 78).map (fun i=>(i.zero,i.size,i.bytes))=some (some (vi #[ve vp 0,ve vp 0,ve vp 0,vd none 0 0]),4,48):=by kernel_rfl
theorem Km{w:World}{b:Nat}(c:b=w.heap.size)(x y z u:Value)(t:TypeId): ∀j v,[x,y,z,u][j]? =some v->(w.alloc (vk #[x,y,z,u] t)).cell? ((⟨b,0,none⟩:Addr).add j)=some v:=by
 subst c;intro j v a;rw [Addr.add_lit];match j,a with
 |0,a=>cases a;simp
 |1,a=>cases a;simp
 |2,a=>cases a;simp
 |3,a=>cases a;simp
theorem Ux{α:Type}{l:List α}{x:α}(h:l[k]? =some x):l.take (k+1)=l.take k++[x]:=by rw [qU,h];rfl
def badK(m:Mod)(p:Int)(l:List ByteArray)(k:Nat):Bool:=decide (p<0)|| !(l.take k).all fun s=>decide (0<=idxF m s)
theorem q2w(m:Mod)(p:Int)(l:List ByteArray):badK m p l 0=decide (p<0):=by simp [badK]
theorem q2x{m:Mod}{p:Int}{l:List ByteArray}{s:ByteArray}(h:l[k]? =some s):badK m p l (k+1)=(badK m p l k||decide (idxF m s<0)):=by
 unfold badK;rw [Ux h,QS,Bool.not_and,<-Bool.or_assoc];congr 1;simp only [YR,List.all_nil,Bool.and_true];by_cases a:0<=idxF m s
 .rw [decide_eq_true a,decide_eq_false (by omega)];rfl
 .rw [decide_eq_false a,decide_eq_true (by omega)];rfl
theorem Gs{w:World}(h:xW base B G N w r)(hv:ji w)(cy:r.m.feats.length≤24)(c3:r.m.grps.length≤24)(ai:(r.m.grps.flatMap yq).length≤268435456){f:List ByteArray}(hw:RdL Sw 1 RdS w wv f)(a5:WfS wv)(c4:f.length≤4194304)(hz: ∀i,(wd f i).size≤4194304)(rest:ByteArray):
 Calls qj 129 #[vg B,wv,vf rest] w (LPost base B G N w (groupL r f)):=by
 have⟨i0,hi,b8,bw,cf⟩:=zG q6l;have⟨i3,ca,co,cj,b9⟩:=zG wU;have al:=q8 (fun(i:Nat) t (Z:Near w t)=>uI (hv.near Z) (s:=wd f i) (by have:=hz i;omega));have HI:=q8 (fun t (h':xW base B G N t r) s=>gd h' (by omega) s);have HR:=q8 h;have⟨a,b,c,d,e,gs,ts,ps,h⟩:=h;obtain⟨a1,a2,b1,b2,c1,c2,d1,d2,e1,e2,rfl,rfl,rfl,rfl,rfl⟩:=h.forms;have n:=q8 h;obtain⟨ao,au,rfl⟩:=hw.form;have ct:=(a5 _ _ _ rfl).1;have HW:=q8 hw;have bd:=q8 ai;have HQ:Hid (groupL r f=if 5≤f.length then(match numB (wd f 2),numB (wd f 3)with|some lo,some hi=>if(decide (0≤idxF r.m (wd f 1))&& (f.drop 4).all fun s=>decide (0≤idxF r.m s))=true then(if grpE r.m r.m.grps.length (wu r.m f lo hi)=0 then(if r.m.grps.length=24 then(5,r)else(0,⟨⟨r.m.feats,r.m.grps++[wu r.m f lo hi],r.m.atts,r.m.reqs,r.m.lims⟩,r.given⟩))else(grpE r.m r.m.grps.length (wu r.m f lo hi),r))else(6,r)|_,_=>(4,r))else(4,r)):=rfl;generalize groupL r f=I at HQ⊢;clear h hw hv a5 ai;by_cases h2:5≤f.length
 ·obtain⟨g,o,rfl,-⟩:=kt HW (by omega)
  have cs:(1:Int)<f.length:=by omega
  have cr:(2:Int)<f.length:=by omega
  have cu:(3:Int)<f.length:=by omega
  have bm: ¬((f.length:Int)<5):=by omega
  have E:=q8 (HQ.trans (if_pos h2));have bk:=q8 (al 2);have bg:=q8 (al 3);generalize numB (wd f 2)=b4 at bk E;generalize numB (wd f 3)=a4 at bg E;have b7:=jz HW (i:=2) (by omega);have bu:=q8 (jz HW (i:=3) (by omega));have ci:=q8 (jz HW (i:=1) (by omega));clear hz;go_enter Tryz.func129,Tryz.ntmps129;go_upto_region 4 with(go_at_call 189;refine(bk _ (Near.refl w)).mono ?_;rintro e w1 ⟨C,rfl,Y,n1⟩;have ch:=q8 Y;have N1:=q8 n1;have bx:=N1.cell bu;clear Y n1)
  go_upto_region 5 with(go_at_call 189;refine(bg _ N1).mono ?_;rintro e w2 ⟨A,rfl,Y,n2⟩;have cg:=q8 Y;have N2:=q8 (N1.trans n2);have b6:=N2.cell ci;clear Y n2)
  have ak:I=(4,r)→LPost base B G N w I (vm (ve vp 4)) w2:=fun hq=>⟨by rw [hq];rfl,by rw [hq];exact⟨_,_,_,_,_,_,_,_,n.near N2⟩,N2.kept⟩;have U:=q8 ak;clear ak b7 bx
  cases b4 with
  |none=>
   have H:Hid (I=(4,r)):=E.trans (by cases a4<;>rfl);go_wp2_with fail
   exact qo (v:=ve vp 4) (by simp [qC,uj,go_sem]) rfl (U H)
  |some lo=>
  cases a4 with
  |none=>
   have H:Hid (I=(4,r)):=E;go_wp2_with fail
   exact qo (v:=ve vp 4) (by simp [qC,uj,go_sem]) rfl (U H)
  |some hh=>
  obtain rfl:=ch lo rfl;obtain rfl:=cg hh rfl;have bc:=q8 (HI _ ⟨_,_,_,_,_,_,_,_,n.near N2⟩ (wd f 1));have HP:Hid ((wu r.m f C A).parent=idxF r.m (wd f 1)):=rfl;have V:Hid (wu r.m f C A=⟨idxF r.m (wd f 1),C,A,(f.drop 4).map (idxF r.m)⟩):=rfl;generalize idxF r.m (wd f 1)=p at bc HP V E;go_upto_region 8 with(go_at_call 188;refine bc.mono ?_;rintro e j ⟨rfl,n3⟩;have N3:=q8 (N2.trans n3);clear n3)
  have hW: ∀W,W=j.alloc (vk #[ve vp p,ve vp C,ve vp A,vd none 0 0] 78)→Near j W∧W.heap[j.heap.size]? =some (vk #[ve vp p,ve vp C,ve vp A,vd none 0 0] 78 (0,0))∧W.heap.size=j.heap.size+1:=by
   rintro W rfl;exact⟨(Near.refl j).alloc _,heap_new_at rfl,by simp⟩
  have h1:=hW _ rfl;generalize j.alloc (vk #[ve vp p,ve vp C,ve vp A,vd none 0 0] 78)=W at h1⊢;have⟨hN,hA,av⟩:=h1;have NW:=q8 (N3.trans hN);have HA:=q8 hA;have b5:=q8 av;have x0:=cell1 (o:=0) hA rfl;have h4:(4:Int)≤f.length:=by omega
  have c5:(f.length:Int)≤au:=by omega
  clear hW hN hA av b6;go_upto_region 10 with fail
  go_loopw [12,54] (fun bv iv wr=> ∃(k:Nat)(u:Option Addr)(y:Nat),k≤f.length - 4∧iv=ve vp k∧bv=vj (badK r.m p (f.drop 4) k)∧wr.heap[j.heap.size]? =some (vk #[ve vp p,ve vp C,ve vp A,vd u k y] 78 (0,0))∧wr.ownsRow (j.heap.size+1) 3 1 (vd u k y) k ((((f.drop 4).take k).map (idxF r.m)).map intV)∧Kept (fun g=>g=j.heap.size) W wr) (fun _ iv _=>f.length - 4 - (intOf iv).toNat)
  case atStart=>exact⟨0,none,0,qv _,rfl,by rw [q2w],HA,qW _ _ _ _,Kept.refl _ _⟩
  case round=>
   obtain⟨k,u,y,hk,rfl,rfl,bq,aj,ae⟩:=hrel;have O:=q8 bq;have HO:=q8 aj;have HK:=q8 ae;have bo:Near w wr:=Kept.mono (Kept.trans NW.kept ae) (fun g hg e=>by have:=N3.size;omega);have R:=q8 bo;have c6:=ae.size;clear bq aj ae bo x0;by_cases ax:k<f.length - 4
   ·have cp:(k:Int)<(f.length - 4:Nat):=by omega
    have ck:=R.cell (jz HW (i:=4+k) (by omega));rw [←Nat.add_assoc]at ck;have br:(f.drop 4)[k]? =some (wd f (4+k)):=by
     rw [List.getElem?_drop,wd,List.getD,qi (by omega)];rfl
    have ar:=q8 (q2x (m:=r.m) (p:=p) br);have HM:=q8 (show(((f.drop 4).take (k+1)).map (idxF r.m)).map intV=(((f.drop 4).take k).map (idxF r.m)).map intV++[ve vp (idxF r.m (wd f (4+k)))] by rw [Ux br,ze,ze];rfl);have bp:=q8 (HI _ ⟨_,_,_,_,_,_,_,_,n.near R⟩ (wd f (4+k)));generalize idxF r.m (wd f (4+k))=ix at ar HM bp;generalize badK r.m p (f.drop 4) k=bb at ar⊢;go_upto_region 13 with(go_at_call 188;refine bp.mono ?_;rintro e w4 ⟨rfl,n4⟩;have N4:=q8 n4;have aq:=qE n4 O;have b0:=q8 aq;have y3:=cell1 (o:=3) aq rfl;clear n4 aq)
    have a3:(qw u k y).ownBlock≠some j.heap.size:=fun e=>by have:=(zY HO e).1;omega
    have cm: ∀(W1 l:World),W1.grownBy l (qw u k y).ownBlock→Near w4 W1→l.heap[j.heap.size]? =some (vk #[ve vp p,ve vp C,ve vp A,vd u k y] 78 (0,0)):=fun W1 l hg Z=>
     qQ (Kept.grown (S:=fun M=>(qw u k y).ownBlock=some M) Z.kept hg (fun k hk _=>hk)) b0 a3
    have X:=q8 cm;have cx:=N4.size;have av:=b5.out;clear cm a3 ck;have bn: ∀(w6:World)(bv:Bool),bv=badK r.m p (f.drop 4) (k+1)→(∃l K z,l.ownsRow (j.heap.size+1) 3 1 (vd K (k+1) z) (k+1) ((((f.drop 4).take k).map (idxF r.m)).map intV++[ve vp ix])∧(w4.alloc (vk #[ve vp ix] 3)).grownBy l (qw u k y).ownBlock∧w6=l.setCell (vw j.heap.size 3) (vd K (k+1) z))→
     ∃(M:Nat)(u:Option Addr)(y:Nat),M≤f.length - 4∧Value.int vp ((k:Int)+1)=ve vp M∧Value.bool bv=vj (badK r.m p (f.drop 4) M)∧w6.heap[j.heap.size]? =some (vk #[ve vp p,ve vp C,ve vp A,vd u M y] 78 (0,0))∧w6.ownsRow (j.heap.size+1) 3 1 (vd u M y) M ((((f.drop 4).take M).map (idxF r.m)).map intV)∧Kept (fun g=>g=j.heap.size) W w6:=by
     rintro w6 bv rfl ⟨l,K,z,h1,h2,rfl⟩;have P:=X _ _ h2 ((Near.refl w4).alloc _);have bs:Kept (fun g=>g=j.heap.size) W l:=Kept.mono (Kept.grown (S:=fun M=>M=j.heap.size∨(W.heap.size≤M∧(qw u k y).ownBlock=some M)) (Kept.mono (Kept.trans HK ((N4.trans ((Near.refl w4).alloc _)).kept)) (fun g _ e=>vu e)) h2 (fun M be ax=>by
      refine vv ⟨?_,be⟩
      have:=(zY HO be).1
      omega)) (fun g hg e=>by rcases e with e|⟨e,-⟩;exact e;omega)
     have:=qz P 3 (vd K (k+1) z)
     refine⟨k+1,K,z,ax,by go_num,rfl,by simpa using this,?_,Kept.setCell (S:=fun g=>g=j.heap.size) bs (p:=vw j.heap.size 3) (fun _=>rfl) _⟩;rw [HM.out];exact zF h1 P (by decide) 3 _
    have a7:=q8 bn;clear bn
    cases bb
    all_goals
     go_wp2_with (at_builtin;go_must (refine wpList_append_own_at _ rfl (.tmp 67) (.tmp 69) 47 rfl (j.heap.size+1) 3 i3 (ve vp 0) 1 8 yF ca co cj b9 rfl (by decide) _ k ((((f.drop 4).take k).map (idxF r.m)).map intV) rfl (owns_kept HO (N4.alloc _) (fun _ _ h=>h)) ⟨w4.heap.size,0,none⟩ 1 1 [ve vp ix] rfl rfl (cell_one_at rfl _ _) (by simp [qX]) (by unfold maxLen;omega) (by omega) (by simp;omega) ?_);go_must (intro v5 l L ay _ b3;have P:=X _ _ ay ((Near.refl w4).alloc _);have y5:=cell1 (o:=3) P rfl;have f5:=zQ P 3;have cn:=q8 L;have cd:=q8 ay;obtain⟨K,z,rfl⟩:=qR L;clear L ay b3 P))
     exact⟨a7 _ _ (by rw [ar.out];rfl) ⟨l,K,z,cn,cd,rfl⟩,by simp [intOf];omega⟩
   ·have bf:k=f.length - 4:=by omega
    have HM:=q8 (show((f.drop 4).take k).map (idxF r.m)=(f.drop 4).map (idxF r.m) by rw [zE (by rw [yC];omega)]);have bj:=q8 (show((f.drop 4).map (idxF r.m)).length=k by rw [qG,yC];omega);have af:=q8 (show badK r.m p (f.drop 4) k= !(decide (0≤p)&& (f.drop 4).all fun s=>decide (0≤idxF r.m s)) by
     unfold badK;rw [zE (by rw [yC];omega),Bool.not_and];by_cases hp:0≤p
     ·rw [decide_eq_true hp,decide_eq_false (by omega)];rfl
     ·rw [decide_eq_false hp,decide_eq_true (by omega)];rfl)
    have c8: ¬(k:Int)<(f.length - 4:Nat):=by omega
    have cw:=q8 bf;clear bf;generalize badK r.m p (f.drop 4) k=bi at af⊢;have J:=q8 (n.near R);have H:Hid (I=if(decide (0≤p)&& (f.drop 4).all fun s=>decide (0≤idxF r.m s))=true then(if grpE r.m r.m.grps.length (wu r.m f C A)=0 then(if r.m.grps.length=24 then(5,r)else(0,⟨⟨r.m.feats,r.m.grps++[wu r.m f C A],r.m.atts,r.m.reqs,r.m.lims⟩,r.given⟩))else(grpE r.m r.m.grps.length (wu r.m f C A),r))else(6,r)):=E;generalize(decide (0≤p)&& (f.drop 4).all fun s=>decide (0≤idxF r.m s))=ok at af H;generalize cl:wu r.m f C A=gg at V H;clear cl;have aa:=HO.out;rw [HM.out]at aa;have an:=q8 (bj.out▸aa:wr.ownsRow (j.heap.size+1) 3 1 (vd u k y) ((f.drop 4).map (idxF r.m)).length (((f.drop 4).map (idxF r.m)).map intV));have a9:Hid (RdGrp (fun g=>j.heap.size+1≤g) wr [ve vp p,ve vp C,ve vp A,vd u k y] gg):=V.out▸⟨_,rfl,RdL.own (enc:=fun x=>[intV x]) (fun _=>rfl) (by rw [gW];exact an) (fun _ _=>rfl),Zu an⟩;have cb:=q8 (show gg.members.length=k by rw [V.out];exact bj);have bh:=q8 (fun t (Z:Near wr t)=>ZE (i:=r.m.grps.length) ((J.near Z).mod) (a9.kept Z (fun _ _ h=>h) (fun _ h=>h)) (qt _) (by omega) (by omega) (by
     have h1:(takenTo r.m.grps r.m.grps.length).length=(r.m.grps.flatMap yq).length:=by unfold takenTo;rw [qF]
     have:=bd.out
     have:=cb.out
     omega))
    generalize grpE r.m r.m.grps.length gg=q at bh H;clear aa;have ba: ∀(q:Nat)(l:World),Near w l→I=(q,r)→LPost base B G N w I (vm (ve vp (q:Nat))) l:=fun q l Z hq=>⟨by rw [hq],by rw [hq];exact⟨_,_,_,_,_,_,_,_,n.near Z⟩,Z.kept⟩;have Q:=q8 ba;clear ba
    cases ok with
    |false=>
     obtain rfl:bi=true:=af.out;have ad:Hid (I=(6,r)):=H;go_wp2_with fail
     exact qo (v:=ve vp 6) (by simp [qC,uj,go_sem]) rfl (Q 6 _ R ad)
    |true=>
     obtain rfl:bi=false:=af.out;have ad:=q8 (H.trans (if_pos rfl));have a6: ∀t,Near wr t→(t.cell? B=some (vd a1 r.m.feats.length a2)∧t.cell? (vw B 1)=some (vd b1 r.m.grps.length b2)∧t.cell? (vw B 2)=some (vd c1 r.m.atts.length c2)∧t.cell? (vw B 3)=some (vd d1 r.m.reqs.length d2)∧t.cell? (vw B 4)=some (vd e1 r.m.lims.length e2))∧t.cell? j.heap.size=some (ve vp p)∧t.cell? (vw j.heap.size 1)=some (ve vp C)∧t.cell? (vw j.heap.size 2)=some (ve vp A)∧t.cell? (vw j.heap.size 3)=some (vd u k y):=
      fun t h=>⟨⟨cell1 (qE h J.box) rfl,cell1 (qE h J.box) rfl,cell1 (qE h J.box) rfl,cell1 (qE h J.box) rfl,cell1 (qE h J.box) rfl⟩,cell1 (qE h O) rfl,cell1 (qE h O) rfl,cell1 (qE h O) rfl,cell1 (qE h O) rfl⟩
     go_upto_region 18 with fail
     go_region_held3 (fun t=>(t.cell? B=some (vd a1 r.m.feats.length a2)∧t.cell? (vw B 1)=some (vd b1 r.m.grps.length b2)∧t.cell? (vw B 2)=some (vd c1 r.m.atts.length c2)∧t.cell? (vw B 3)=some (vd d1 r.m.reqs.length d2)∧t.cell? (vw B 4)=some (vd e1 r.m.lims.length e2))∧t.cell? j.heap.size=some (ve vp p)∧t.cell? (vw j.heap.size 1)=some (ve vp C)∧t.cell? (vw j.heap.size 2)=some (ve vp A)∧t.cell? (vw j.heap.size 3)=some (vd u k y))
      ((refine a6 _ ?_;first|exact z1|exact(Near.refl _).drew))
      ((go_at_call 91;refine(bh _ ((Near.refl wr).drew)).mono ?_;rintro e l ⟨rfl,n5⟩;have z1:Near wr l:=(Near.refl wr).drew.trans n5))
     have N5:=q8 (R.trans z1);have D:=q8 (J.near z1);have ah:=q8 (qE z1 O);clear a6 n5;by_cases h0:q=0
     ·subst h0
      have ag:=q8 (ad.trans (if_pos rfl));have q1:=cell1 (o:=1) D.box rfl;by_cases ap:r.m.grps.length=24
      ·have bl:(r.m.grps.length:Int)=24:=by omega
       have ab:=q8 (ag.trans (if_pos ap));go_wp2_with fail
       exact qo (v:=ve vp 5) (by simp [qC,uj,go_sem]) rfl (Q 5 _ N5 ab)
      ·have bl: ¬(r.m.grps.length:Int)=24:=by omega
       have ab:=q8 (ag.trans (if_neg ap));have x0:=cell1 (o:=0) ah rfl;have x1:=cell1 (o:=1) ah rfl;have x2:=cell1 (o:=2) ah rfl;have x3:=cell1 (o:=3) ah rfl;have hB:(qw b1 r.m.grps.length b2).ownBlock≠some B:=fun e=>by
        have:=(zY D.g e).1
        have:=D.hB
        omega
       have bt:=q8 hB;have c7:=D.hb;have cm: ∀(W1 w6:World),W1.grownBy w6 (qw b1 r.m.grps.length b2).ownBlock→Near l W1→w6.cell? (vw B 1)=some (vd b1 r.m.grps.length b2)∧w6.frozen? (vw B 1)=false:=fun W1 w6 hg Z=>by
        have hb:=qQ (Kept.grown (S:=fun k=>(qw b1 r.m.grps.length b2).ownBlock=some k) Z.kept hg (fun k hk _=>hk)) D.box hB;exact⟨cell1 hb rfl,zQ hb 1⟩
       have X:=q8 cm;have aw:gs.length=r.m.grps.length:=by rw [←n.out.ge,qG]
       have HT:=q8 (aw▸D.g:l.ownsRow base 78 4 (vd b1 r.m.grps.length b2) r.m.grps.length (gs.flatMap q6U));have bz:=q8 aw;have a8:=q8 (show q6U ⟨gg,vd u k y⟩=[ve vp p,ve vp C,ve vp A,vd u k y] by rw [V.out];rfl);have am:=q8 (show RdL (FreeOf base ([vd a1 r.m.feats.length a2,vd b1 r.m.grps.length b2,vd c1 r.m.atts.length c2,vd d1 r.m.reqs.length d2,vd e1 r.m.lims.length e2]++ts.map Pa.v)) 1 RdI l (vd u k y) gg.members∧WfS (vd u k y)from by
        have⟨v,e,h1,h2⟩:=a9.out;simp only [qJ,and_true]at e;obtain⟨-,-,-,rfl⟩:=e;have cv:=N3.size;have cq:=n.hb;refine⟨h1.kept z1 (fun _ _ h=>h) (fun g hg=>⟨by omega,fun v hv e=> ?_⟩) (fun _ _ h=>h),h2⟩;have ax:g<w.heap.size:=by
         rcases qK.1 hv with hv|hv
         ·simp only [qI,zh,or_false]at hv
          rcases hv with rfl|rfl|rfl|rfl|rfl
          ·exact(n.f.lt _ e).2
          ·exact(n.g.lt _ e).2
          ·exact(n.t.lt _ e).2
          ·exact(n.q.lt _ e).2
          ·exact(n.l.lt _ e).2
         ·obtain⟨pa,ce,rfl⟩:=List.mem_map.1 hv
          exact((n.tv pa ce).lt _ e).2
        omega)
       clear cm hB aw ap;go_upto_region 23 with fail
       go_cut [] (fun wx=>xW base B G N wx ⟨⟨r.m.feats,r.m.grps++[gg],r.m.atts,r.m.reqs,r.m.lims⟩,r.given⟩∧Kept (fun g=>base≤g∨g=B∨g=G) l wx)
       case first=>
        have c0:(l.alloc (vk #[ve vp p,ve vp C,ve vp A,vd u k y] 78)).cell? (vw B 1)=some (vd b1 r.m.grps.length b2):=((Near.refl l).alloc _).cell q1;go_region_law (refine jd rfl (.tmp 101) (.tmp 103) 23 rfl base 78 i0 (vi #[ve vp 0,ve vp 0,ve vp 0,vd none 0 0]) 4 48 Tryz.underlying23 hi b8 bw cf rfl (by decide) _ _ _ rfl (owns_kept HT ((Near.refl l).drew.alloc _) (fun _ _ h=>h)) ⟨l.heap.size,0,none⟩ 1 1 [ve vp p,ve vp C,ve vp A,vd u k y] rfl rfl (by exact Km (by simp) _ _ _ _ _) (by simp [qX]) (by unfold maxLen;omega) (by omega) (by simp;omega) ?_;intro ao au w6 az a0 cc;have c9:=(X _ _ a0 ((Near.refl l).drew.alloc _)).1;have cz:=(X _ _ a0 ((Near.refl l).drew.alloc _)).2)
        all_goals
         go_wp2_with fail
         go_meet
         have⟨s1,s2,s3⟩:=gG D.box bt ((Near.refl l).drew.alloc (vk #[ve vp p,ve vp C,ve vp A,vd u k y] 78)) a0 1 (vd ao (r.m.grps.length+1) au);exact⟨⟨_,_,_,_,_,_,_,_,D.grp (p:=⟨gg,vd u k y⟩) s2 s1 (by rw [a8.out,bz.out];exact s3 az (by decide)) (Qr cc (by simp)) am.1 am.2⟩,Kept.mono s2 fun k _ hk=>hk.elim (fun e=>vv (vu e)) fun e=>vu (zY D.g e).1⟩
       case rest=>
        have⟨hr,hk⟩:=hcut;go_wp2_with fail
        exact qo (v:=ve vp 0) (by simp [qC,uj,go_sem]) rfl ⟨by rw [ab.out];rfl,by rw [ab.out];exact hr,N5.kept.trans hk⟩
     ·have bm:((q:Int) !=0)=true:=by rw [bne_iff_ne];omega
      have ag:=q8 (ad.trans (if_neg h0));clear h0;go_wp2_with fail
      exact qo (v:=ve vp q) (by simp [qC,uj,go_sem]) rfl (Q q _ N5 ag)
 ·have bm:((f.length:Int)<5):=by omega
  have E:=q8 (HQ.trans (if_neg h2));clear h2;go_enter Tryz.func129,Tryz.ntmps129;go_wp2_with fail
  exact qo (v:=ve vp 4) (by simp [qC,uj,go_sem]) rfl ⟨by rw [E.out];rfl,by rw [E.out];exact HR,Kept.refl _ _⟩
structure GramAt(text:ByteArray)(f:Nat):Prop where
 choice:PFn text 232 [] (pChoice f)
 same:PFn text 258 [] (pSame f)
 implies:PFn text 274 [] (pImplies f)
 row: ∀i,i<=3->PFn text 279 [.int .i64 (i:Nat)] (pRow f i)
 nots:PFn text 280 [] (pNot f)
 least:PFn text 281 [] (pLeast f)
theorem q1G(a:ByteArray):GramAt a 0:=by
 constructor
 case row=>intro i _ w B t x b _ _ h;rw [pRow]at h;cases h
 case choice=>intro w B t x b _ _ h;rw [pChoice]at h;cases h
 case same=>intro w B t x b _ _ h;rw [pSame]at h;cases h
 case implies=>intro w B t x b _ _ h;rw [pImplies]at h;cases h
 case nots=>intro w B t x b _ _ h;rw [pNot]at h;cases h
 case least=>intro w B t x b _ _ h;rw [pLeast]at h;cases h
theorem q1H{b:ByteArray}{f:Nat}(a:b.size<4611686018427387904)(e:f<1099511627776)(h: ∀g,g<=f->GramAt b g):GramAt b (f+1):=by
 have c:=h f (qt _);refine⟨Ua a c.same c.choice,q0C a c.implies,XK a (c.row 0 (by omega)) c.implies,fun i k=> ?_,q3F a (by omega) c.least,Gk a c.choice⟩;by_cases j:i=3
 .subst j
  exact q0I c.nots
 .exact row_step a e (by omega) fun g d=>(h g d).row (i+1) (by omega)
theorem q1I{a:ByteArray}(b:a.size<4611686018427387904): ∀f,f<1099511627776-> ∀g,g<=f->GramAt a g
 |0,_,g,d=>by
  obtain rfl:g=0:=by omega
  exact q1G a
 |f+1,e,g,d=>by
  have c:=q1I b f (by omega);by_cases h:g<=f
  .exact c g h
  .obtain rfl:g=f+1:=by omega
   exact q1H b (by omega) c
theorem Kl{f:Nat}(b:a.size<4611686018427387904)(c:f<1099511627776):PFn a 232 [] (pChoice f):=(q1I b f c f (qt _)).choice
theorem q6p(p q r:Addr)(w:World):
 CallsD qj 230 #[vg (some p),vg (some q),vg (some r)] .returning w fun e d c=>e=vm (.tuple #[])/\d= .returning/\c=w:=by
 refine callsD_of_wpS Tryz.func230 rfl fun a f b=> ?_;apply wpS_seq;apply wpS_region;simp [wpOpsS,go_sem,recoverD,b,Tryz.ntmps230,Exit.thenS];apply wpS_seq;apply wpS_region;simp [wpOpsS,go_sem,Exit.thenS];refine wpS_cond (t:=false) (by simp [Act.eval,Array.replicate]) ?_;simp only [Bool.false_eq_true,if_false];refine wpS_of_wp (wp_skip ?_)
 cases a;simp_all [bodyPostS,qC,Tryz.results230]
theorem PAt.empty{w:World}{t:St}(h:PAt w B a t)(e:t.word=[]):w.cell? (vw B 2)=some (vf ⟨#[]⟩):=by
 obtain⟨i,c,d,-,-,b⟩:=h.ex;obtain rfl:c=⟨#[]⟩:=xH (b.symm.trans e);exact cell1 d rfl
theorem XP{w:World}{b:ByteArray}{f:Nat}{x:Ex}(hf:f<1099511627776)(h:parseF f (bytesL b)=some x)(aa:x.size<4611686018427387904):
 Calls qj 191 #[vf b] w fun e u=> ∃vs,e=vm (.tuple #[vi vs.toArray,ve vp 0,ve vp 0])∧RdEx (fun g=>w.heap.size≤g) u vs x∧Near w u:=by
 unfold parseF at h;by_cases hl:65536<(bytesL b).length
 ·rw [if_pos hl]at h;cases h
 rw [if_neg hl]at h;rw [zX]at hl
 cases C:nextT ⟨bytesL b,[]⟩with
 |none=>rw [C]at h;cases h
 |some K=>
 rw [C]at h;replace h:((pChoice f K).bind fun x=>if x.2.word=[]then(if validB x.1 then some x.1 else none)else none)=some x:=h
 cases G:pChoice f K with
 |none=>rw [G]at h;cases h
 |some r=>
 have⟨a,t2⟩:=r;rw [G]at h;replace h:(if t2.word=[]then(if validB a then some a else none)else none)=some x:=h;by_cases M:t2.word=[]
 ·rw [if_pos M]at h
  by_cases hv:validB a=true
  ·rw [if_pos hv]at h
   cases h;have m:b.size<4611686018427387904:=by omega
   have af: ¬(65536:Int)<b.size:=by omega
   have ad: ∀(fn:Fn)(first c:Array Value)(w:World),(Instr.makeFunc fn first c).run qj w= .ok (.func fn first c) w:=fun _ _ _ _=>rfl;have L:=q8 (fun(B:Nat)(u:World)(hp:PAt u B b ⟨bytesL b,[]⟩)=>Ql hp m C);have HC:=q8 (fun(B:Nat)(u:World)(hp:PAt u B b K)(H:B<u.heap.size)=>Kl m hf hp H G);have hW: ∀W,W=((((w.alloc (vk #[ve vq 0,vf ⟨#[]⟩,vd none 0 0] 84)).alloc (vk #[ve vp 0] 3)).alloc (vk #[ve vp 0] 30)).alloc (vk #[vf b,ve vp 0,vf ⟨#[]⟩] 303))→Near w W∧W.heap[w.heap.size]? =some (vk #[ve vq 0,vf ⟨#[]⟩,vd none 0 0] 84 (0,0))∧W.heap[w.heap.size+1]? =some (vk #[ve vp 0] 3 (0,0))∧W.heap[w.heap.size+1+1]? =some (vk #[ve vp 0] 30 (0,0))∧PAt W (w.heap.size+1+1+1) b ⟨bytesL b,[]⟩∧W.heap.size=w.heap.size+4:=by
    rintro W rfl;exact⟨((((Near.refl w).alloc _).alloc _).alloc _).alloc _,by rw [qD (by simp;omega),qD (by simp;omega),qD (by simp),heap_new_at rfl],by rw [qD (by simp),qD (by simp),heap_new_at (by simp)],by rw [qD (by simp),heap_new_at (by simp)],⟨0,⟨#[]⟩,by rw [heap_new_at (by simp)];rfl,by show 0+0≤_;omega,rfl,rfl⟩,by simp⟩
   go_enter_defers Tryz.func191,Tryz.ntmps191
   go_upto_region 5 with fail
   have k:=hW _ rfl;generalize((((w.alloc (vk #[ve vq 0,vf ⟨#[]⟩,vd none 0 0] 84)).alloc (vk #[ve vp 0] 3)).alloc (vk #[ve vp 0] 30)).alloc (vk #[vf b,ve vp 0,vf ⟨#[]⟩] 303))=W at k⊢;have⟨hN,hR,hE,hF,hP,hs⟩:=k;have HN:=q8 hN;have O:=q8 hR;have HE:=q8 hE;have HF:=q8 hF;have HP:=q8 hP;go_upto_region 9 with(first
    |(go_at_call 231;refine(L _ _ HP).mono ?_;rintro e w1 ⟨rfl,p1,A⟩;have P1:=q8 p1;have K1:=q8 A;have ah:W.heap.size≤w1.heap.size:=A.size)
    |(go_at_call 232;refine(HC _ _ P1 (by omega)).mono ?_;rintro e P ⟨i,d,v,rfl,Y,p2,z,j,n,c,rfl⟩;have RD:=q8 (RdEx.here Y);have P2:=q8 p2;have J:=q8 (Kept.trans K1 z);have ae:w1.heap.size≤P.heap.size:=z.size;have s:=q8 (qQ J O (by omega));have N:=q8 (qQ J HE (by omega));have X:=q8 (qQ J HF (by omega));have⟨r0,r1,r2,f0,f1,f2⟩:=ZW s;have c2:=PAt.empty p2 M))
   have k: ∀V,V=(((P.setCell w.heap.size (ve vq i)).setCell (vw w.heap.size 1) (vf d)).setCell (vw w.heap.size 2) (vd j n c))→V.heap[w.heap.size]? =some (vk #[ve vq i,vf d,vd j n c] 84 (0,0))∧Kept (fun g=>g=w.heap.size+1+1+1∨g=w.heap.size) W V∧V.heap[w.heap.size+1]? =some (vk #[ve vp 0] 3 (0,0))∧V.heap[w.heap.size+1+1]? =some (vk #[ve vp 0] 30 (0,0))∧RdEx (fun g=>W.heap.size≤g∧g<V.heap.size) V [ve vq i,vf d,vd j n c] x:=by
    rintro V rfl;have E:=(Yt s (ve vq i) (vf d) (vd j n c)).2.2.2;exact⟨Zp s _ _ _,Kept.trans (Kept.mono J (fun g _ e=>vu e)) (Kept.mono E (fun g _ e=>vv e)),qQ E N (by omega),qQ E X (by omega),RD.kept E (fun g l e=>by omega) (fun g l=>⟨by omega,qu l.2 E.size⟩)⟩
   replace k:=k _ rfl;generalize(((P.setCell w.heap.size (ve vq i)).setCell (vw w.heap.size 1) (vf d)).setCell (vw w.heap.size 2) (vd j n c))=V at k⊢;have⟨H,hk,he,l,Z⟩:=k;have HB:=q8 H;have HK:=q8 hk;have R:=q8 he;have ab:=q8 l;have D:=q8 Z;obtain⟨s0,s1,s2,-,-,-⟩:=ZW H;go_wp2_with (first
    |(go_at_call 165;refine(kL D (fun g l=>l.2) aa).mono ?_;rintro e o ⟨rfl,I⟩;rw [hv];have N3:=q8 I;have t:=q8 (qQ I HB);have⟨r0,r1,r2,f0,f1,f2⟩:=ZW t;have y:=q8 (qQ I R);have q:=q8 (qQ I ab);have e0:=zQ y 0;have e1:=zQ q 0;have e2:o.cell? (vw (w.heap.size+1) 0)=_:=cell1 y rfl;have e3:o.cell? (vw (w.heap.size+1+1) 0)=_:=cell1 q rfl))
   have k: ∀U,U=((((o.setCell w.heap.size (ve vq i)).setCell (vw w.heap.size 1) (vf d)).setCell (vw w.heap.size 2) (vd j n c)).setCell (vw (w.heap.size+1) 0) (ve vp 0)).setCell (vw (w.heap.size+1+1) 0) (ve vp 0)→U.cell? w.heap.size=some (ve vq i)∧U.cell? (vw w.heap.size 1)=some (vf d)∧U.cell? (vw w.heap.size 2)=some (vd j n c)∧U.cell? (vw (w.heap.size+1) 0)=some (ve vp 0)∧U.cell? (vw (w.heap.size+1+1) 0)=some (ve vp 0)∧RdEx (fun g=>w.heap.size≤g) U [ve vq i,vf d,vd j n c] x∧Near w U:=by
    rintro U rfl;have A:=(Yt t (ve vq i) (vf d) (vd j n c)).2.2.2;have b1:=Zp t (ve vq i) (vf d) (vd j n c);have C:=qz (qQ A y (by omega)) 0 (ve vp 0);have z:=Kept.setCell (S:=fun g=>g=w.heap.size+1) (Kept.refl _ (((o.setCell w.heap.size (ve vq i)).setCell (vw w.heap.size 1) (vf d)).setCell (vw w.heap.size 2) (vd j n c))) (p:=vw (w.heap.size+1) 0) (fun _=>rfl) (ve vp 0);have G:=qz (qQ z (qQ A q (by omega)) (by omega)) 0 (ve vp 0);have k3:=Kept.setCell (S:=fun g=>g=w.heap.size+1+1) (Kept.refl _ ((((o.setCell w.heap.size (ve vq i)).setCell (vw w.heap.size 1) (vf d)).setCell (vw w.heap.size 2) (vd j n c)).setCell (vw (w.heap.size+1) 0) (ve vp 0))) (p:=vw (w.heap.size+1+1) 0) (fun _=>rfl) (ve vp 0);have Q:=qQ k3 (qQ z b1 (by omega)) (by omega);have kk:Kept (fun g=>w.heap.size≤g∧g<w.heap.size+3) o _:=Kept.trans (Kept.mono A (fun g _ e=>by omega)) (Kept.trans (Kept.mono z (fun g _ e=>by omega)) (Kept.mono k3 (fun g _ e=>by omega)));have kw:Kept (fun g=>w.heap.size≤g) w _:=Kept.trans (Kept.mono (Kept.trans (Kept.trans HN.kept HK) N3.kept) (fun g _ e=>by omega)) (Kept.mono kk (fun g _ e=>e.1));exact⟨cell1 Q rfl,cell1 Q rfl,cell1 Q rfl,cell1 (qQ k3 C (by omega)) rfl,cell1 G rfl,(D.kept N3 (fun _ _ h=>h) (fun _ h=>h)).kept kk (fun g l e=>by omega) (fun g l=>by omega),Kept.mono kw (fun g l e=>by omega)⟩
   replace k:=k _ rfl;generalize((((o.setCell w.heap.size (ve vq i)).setCell (vw w.heap.size 1) (vf d)).setCell (vw w.heap.size 2) (vd j n c)).setCell (vw (w.heap.size+1) 0) (ve vp 0)).setCell (vw (w.heap.size+1+1) 0) (ve vp 0)=U at k⊢;have⟨q0,q1,q2,q3,q4,q5,q6⟩:=k;refine leaves_cons (f:=230) (args:= #[vg w.heap.size,vg (vw (w.heap.size+1) 0),vg (vw (w.heap.size+1+1) 0)]) (by simp) (by simp [go_sem]) ?_;refine(q6p _ _ _ _).mono ?_;rintro e u' ag ⟨rfl,rfl,rfl⟩;have Q5:=q8 q5;have Q6:=q8 q6;simp [Leaves,settle,qC,Tryz.results191,go_sem,q0,q1,q2,q3,q4];exact⟨Q5,Q6⟩
  ·rw [if_neg hv]at h;cases h
 ·rw [if_neg M]at h;cases h
end Go.Proofs.YtjcbmcnbdegpmaaGreatDoor
namespace Go.Proofs.YtjcbmcnbdegpmaaGreatDoor
open Go Go.RowKit Go.Proofs.Gen Go.Proofs.Mod Go.Proofs.Bdd Go.Proofs.Bdd.T
variable{m:Mod}
theorem Jo(w:World):IsF w (vi #[vd none 0 0,ve vp 0]) (fun _=>false):=⟨.leaf false,⟨trivial,vd none 0 0,rfl,qW _ _ _ _⟩,fun _=>rfl⟩
theorem jQ(b:vC m):(rulesF m).length<=1000:=by
 have a:(rulesF m).length=(rulesOf m).length:=by simp [rulesF]
 rw [a,<-KW]
 have:=KV m m.lims.length
 have:=b.n24
 have:=b.g24
 have:=b.r64
 have:=b.l16
 omega
def modF(m:Mod):F:=if chk m=0 then allF (rulesF m)else fun _=>false
theorem Diagram_calls{S:Nat→Prop}{w:World}{v:Value}(h:RdMod S w v m)(hS: ∀g,S g→g<w.heap.size)(Q:Zd m):
 Calls qj 15 #[v] w fun e k=> ∃d,e=vm (.tuple #[d,ve vp (chk m:Nat)])∧IsF k d (modF m)∧Near w k:=by
 have n:=q8 (fun(k:World)(t:Near w k)=>jH (h.kept t (fun _ _ h=>h) (fun _ h=>h)) (fun g H=>qu (hS g H) t.size) Q);have q:=q8 (fun(l:chk m=0)(k:World)(t:Near w k)=>Qg (h.kept t (fun _ _ h=>h) (fun _ h=>h)) (fun g H=>qu (hS g H) t.size) (jm l) Q);have f:=q8 (fun(l:chk m=0)=>jQ (jm l));obtain⟨J,N,L,z,D,M,K,s,I,B,rfl,-⟩:=RdMod.form h;have c:Hid (modF m=if chk m=0 then allF (rulesF m)else fun _=>false):=rfl;generalize modF m=U at c⊢;generalize chk m=r at n q c f⊢;have hW: ∀W,W=(w.alloc (vk #[vd J m.feats.length N,vd L m.grps.length z,vd D m.atts.length M,vd K m.reqs.length s,vd I m.lims.length B] 28)).alloc (vk #[vd none 0 0,ve vp 0] 43)→Near w W∧W.heap[w.heap.size]? =some (vk #[vd J m.feats.length N,vd L m.grps.length z,vd D m.atts.length M,vd K m.reqs.length s,vd I m.lims.length B] 28 (0,0))∧W.heap[w.heap.size+1]? =some (vk #[vd none 0 0,ve vp 0] 43 (0,0)):=by
  rintro W rfl;exact⟨((Near.refl w).alloc _).alloc _,by rw [qD (by simp),heap_new_at rfl],heap_new_at (by simp)⟩
 go_enter Tryz.func15,Tryz.ntmps15;go_upto_region 1 with fail
 have h1:=hW _ rfl;generalize(w.alloc (vk #[vd J m.feats.length N,vd L m.grps.length z,vd D m.atts.length M,vd K m.reqs.length s,vd I m.lims.length B] 28)).alloc (vk #[vd none 0 0,ve vp 0] 43)=W at h1⊢;have⟨hN,j,y⟩:=h1;have q0:=cell1 (o:=0) j rfl;have q1:=cell1 (o:=1) j rfl;have q2:=cell1 (o:=2) j rfl;have q3:=cell1 (o:=3) j rfl;have q4:=cell1 (o:=4) j rfl;have x:=q8 hN;have HA:=q8 j;have C:=q8 y;go_upto_region 2 with(go_at_call 29;refine(n _ x).mono ?_;rintro e w1 ⟨rfl,E⟩;have i:=q8 E;have a:=qE E HA;have u:=qE E C)
 have s0:=cell1 (o:=0) a rfl;have s1:=cell1 (o:=1) a rfl;have s2:=cell1 (o:=2) a rfl;have s3:=cell1 (o:=3) a rfl;have s4:=cell1 (o:=4) a rfl;have⟨r0,r1,f0,f1⟩:=ym u;have p:=q8 u;by_cases l:r=0
 ·subst l
  have b:=q8 (show U=allF (rulesF m) by rw [c.out,if_pos rfl]);go_wp2_with (first
   |(go_at_call 71;refine(q (by first|rfl|trivial) _ (x.trans i)).mono ?_;rintro e w2 ⟨v2,rfl,s,n2⟩;have D2:=q8 s;have X:=q8 n2)
   |(go_at_call 70;refine(andall_f D2 (by have:=f (by first|rfl|trivial);omega)).mono ?_;rintro e w3 ⟨v3,rfl,Y,Z⟩;obtain⟨V,P,x3,R,rfl⟩:=Y.form;have D3:=q8 Y;have N3:=q8 (X.trans Z);have y:=qE (X.trans Z) p;have O:=q8 y;have⟨r0,r1,f0,f1⟩:=ym y))
  have⟨G,A⟩:=yE O (vd V P x3) (ve vp R);exact qo (v:= .tuple #[vi #[vd V P x3,ve vp R],ve vp 0]) (by simp [qC,Tryz.results15,go_sem,G,A]) rfl ⟨_,rfl,by rw [b.out];exact yJ D3 O,(((x.trans i).trans N3).set (by show w.heap.size≤w.heap.size+1;omega) _).set (by show w.heap.size≤w.heap.size+1;omega) _⟩
 ·have b:=q8 (show U=fun _=>false by rw [c.out,if_neg l])
  have aa:((r:Int) !=0)=true:=by rw [bne_iff_ne];omega
  go_wp2_with fail
  have⟨G,A⟩:=yE p (vd none 0 0) (ve vp 0);exact qo (v:= .tuple #[vi #[vd none 0 0,ve vp 0],ve vp r]) (by simp [qC,Tryz.results15,go_sem,G,A]) rfl ⟨_,rfl,by rw [b.out];exact Jo _,((x.trans i).set (by show w.heap.size≤w.heap.size+1;omega) _).set (by show w.heap.size≤w.heap.size+1;omega) _⟩
end Go.Proofs.YtjcbmcnbdegpmaaGreatDoor
namespace Go.Proofs.YtjcbmcnbdegpmaaGreatDoor
open Go Go.RowKit Go.Proofs.Gen Go.Proofs.Mod
variable{B c cap j k n:Nat}{S:Nat→Prop}{ao:Option Addr}{l:List Ex}{m:Mod}{u:World}{v:Value}{vs:List Value}{x:Ex}{α:Type}
def ZU(fs:List F)(c k:Nat):List Nat:=(qO k).filter fun i=> !((fs[i]?.map fun f=>f c.testBit).getD true)
theorem GX{fs:List F}{f:F}(h:fs[k]? =some f):ZU fs c (k+1)=ZU fs c k++if f c.testBit=true then []else [k]:=by
 unfold ZU;rw [List.range_succ,List.filter_append];congr 1
 cases a:f c.testBit<;>simp [List.filter,h,a]
theorem q2q(fs:List F)(c k:Nat):(ZU fs c k).length<=k:=by
 unfold ZU;exact qH (List.length_filter_le _ _) (by simp)
def brkL(m:Mod)(c:Nat):List Nat:=if chk m=0 then ZU (rulesF m) c (rulesF m).length else []
def natV(n:Nat):Value:= .int .i64 (n:Nat)
theorem Broken_calls{w:World}(h:RdMod S w v m)(hS: ∀g,S g→g<w.heap.size)(hb:Zd m)(hc32:c<4294967296):
 Calls qj 41 #[v,ve vr c] w fun e w'=> ∃s,e=vm (.tuple #[s,ve vp (chk m:Nat)])∧w'.ownsRow w.heap.size 3 1 s (brkL m c).length ((brkL m c).map natV)∧Near w w':=by
 have HCk:=q8 (fun(w':World)(hn:Near w w')=>jH (h.kept hn (fun _ _ h=>h) (fun _ h=>h)) (fun g hg=>qu (hS g hg) hn.size) hb);have HSe:=q8 (fun(h0:chk m=0)(w':World)(hn:Near w w')=>Qg (h.kept hn (fun _ _ h=>h) (fun _ h=>h)) (fun g hg=>qu (hS g hg) hn.size) (jm h0) hb);have HFew:=q8 (fun(h0:chk m=0)=>(show(rulesF m).length≤1000 by have:=jQ (jm h0);simpa [rulesF]using this));have⟨i3,hi3,hz0,hz1,hz2⟩:=zG wU;obtain⟨a1,a2,b1,b2,c1,c2,d1,d2,e1,e2,rfl,-⟩:=RdMod.form h;have HMd:Hid (brkL m c=if chk m=0 then ZU (rulesF m) c (rulesF m).length else []):=rfl;generalize brkL m c=out at HMd⊢;generalize rulesF m=fs at HMd HSe HFew;generalize chk m=r at HCk HSe HMd HFew⊢;have hW: ∀W,W=w.alloc (vk #[vd a1 m.feats.length a2,vd b1 m.grps.length b2,vd c1 m.atts.length c2,vd d1 m.reqs.length d2,vd e1 m.lims.length e2] 28)→Near w W∧W.heap[w.heap.size]? =some (vk #[vd a1 m.feats.length a2,vd b1 m.grps.length b2,vd c1 m.atts.length c2,vd d1 m.reqs.length d2,vd e1 m.lims.length e2] 28 (0,0)):=by
  rintro W rfl;exact⟨(Near.refl w).alloc _,heap_new_at rfl⟩
 clear h hS hb;go_enter Tryz.func41,Tryz.ntmps41;go_upto_region 1 with fail
 have h1:=hW _ rfl;generalize w.alloc (vk #[vd a1 m.feats.length a2,vd b1 m.grps.length b2,vd c1 m.atts.length c2,vd d1 m.reqs.length d2,vd e1 m.lims.length e2] 28)=W at h1⊢;have⟨hN,hA⟩:=h1;have q0:=cell1 (o:=0) hA rfl;have q1:=cell1 (o:=1) hA rfl;have q2:=cell1 (o:=2) hA rfl;have q3:=cell1 (o:=3) hA rfl;have q4:=cell1 (o:=4) hA rfl;have HN:=q8 hN;have HA:=q8 hA;clear hW hN hA;go_upto_region 2 with(go_at_call 29;refine(HCk _ HN).mono ?_;rintro e w1 ⟨rfl,n1⟩;have HN1:=q8 n1;have hA1:=qE n1 HA;clear n1)
 clear q0 q1 q2 q3 q4;have s0:=cell1 (o:=0) hA1 rfl;have s1:=cell1 (o:=1) hA1 rfl;have s2:=cell1 (o:=2) hA1 rfl;have s3:=cell1 (o:=3) hA1 rfl;have s4:=cell1 (o:=4) hA1 rfl;clear hA1;by_cases h0:r=0
 ·subst h0
  have HMd2:=q8 (show out=ZU fs c fs.length by rw [HMd.out,if_pos rfl]);have HFw:=q8 (HFew rfl);clear HMd HFew;go_wp2_with (go_at_call 71;refine(HSe (by first|rfl|trivial) _ (HN.trans HN1)).mono ?_;rintro e w2 ⟨v2,rfl,d2,n2⟩;obtain⟨so,sc,rfl⟩:=d2.form;have D2:=q8 d2;have N2:=q8 (HN1.trans n2);clear d2 n2)
  clear s0 s1 s2 s3 s4;go_loopw [7,18] (fun v ix wr=> ∃k:Nat,k≤fs.length∧ix=ve vp k∧wr.ownsRow w2.heap.size 3 1 v (ZU fs c k).length ((ZU fs c k).map natV)∧Near w2 wr) (fun _ ix _=>fs.length - (intOf ix).toNat)
  case atStart=>exact⟨0,qv _,rfl,qW _ _ _ _,Near.refl _⟩
  case round=>
   obtain⟨k,hk,rfl,hown,hnr⟩:=hrel;have hbl:=q2q fs c k;obtain⟨L,hL⟩: ∃L,L=ZU fs c k:=⟨_,rfl⟩;rw [←hL]at hown hbl;obtain⟨vo,vc,rfl⟩:=qR hown;have HO:=q8 hown;have HNr:=q8 hnr;have HL:=q8 hL;have hf1000:=HFw.out;clear hown hnr hL;by_cases hlt:k<fs.length
   ·have hlt':(k:Int)<fs.length:=by omega
    have hfk:fs[k]? =some fs[k]:=qi hlt;obtain⟨g,xc,p,q,hx,-,hgl,z0,z1,hi⟩:=D2.get hfk;simp only [qq,true_and]at hx;obtain⟨rfl,rfl⟩:=hx;have⟨p1,p2,p3,p4,hpe⟩:=hi.form;simp only [Value.agg.injEq,Array.mk.injEq,qJ,and_true]at hpe;obtain⟨rfl,rfl⟩:=hpe;have y0:=HNr.cell z0;have y1:=HNr.cell z1;have HSu:=q8 (GX (c:=c) hfk)
    cases hq:fs[k] c.testBit with
    |true=>
     have HI:=q8 (q1D (w:=wr.alloc (vk #[vd p1 p2 p3,ve vp p4] 43)) (hi.near (HNr.alloc _)) hq hc32);rw [hq,if_pos rfl,List.append_nil,←HL.out]at HSu;clear hi z0 z1 hfk hq;go_wp2_with (go_at_call 42;refine HI.mono ?_;rintro e w3 ⟨rfl,n3⟩)
     exact⟨⟨k+1,hlt,by go_num,by rw [HSu.out];exact owns_kept HO (((Near.refl wr).alloc _).trans n3) (fun _ _ h=>h),(HNr.alloc _).trans n3⟩,by simp [intOf];omega⟩
    |false=>
     have HI:=q8 (q1D (w:=wr.alloc (vk #[vd p1 p2 p3,ve vp p4] 43)) (hi.near (HNr.alloc _)) hq hc32);rw [hq,if_neg (by decide),←HL.out]at HSu;clear hi z0 z1 hfk hq;go_wp2_with (first
      |(go_at_call 42;refine HI.mono ?_;rintro e w3 ⟨rfl,n3⟩;have HN3:=q8 (((Near.refl wr).alloc (vk #[vd p1 p2 p3,ve vp p4] 43)).trans n3);clear n3)
      |(at_builtin;go_must (refine wpList_append_more rfl (.tmp 27) (.tmp 29) 47 rfl w2.heap.size 3 i3 (ve vp 0) 1 8 yF hi3 hz0 hz1 hz2 rfl (by decide) (vd vo L.length vc) L.length (L.map natV) rfl (owns_kept HO (HN3.alloc _) (fun _ _ h=>h)) _ 1 [ve vp k] rfl ⟨rfl,vv ⟨_,1,rfl,cell_one_at (by simp) _ _⟩⟩ (by simp [qX]) (by unfold maxLen;omega) (by omega) (by have:=HNr.size;have:=HN3.size;simp;omega) ?_);go_must (intro b4 c4 w4 hown4 hg4;have HO4:=q8 hown4;have HN4:=q8 (Kept.grown ((HNr.trans HN3).alloc _) hg4 (fun j e hlt=>by have:=(HO.lt _ e).1;omega):Near w2 w4);clear hown4 hg4)))
     exact⟨⟨k+1,hlt,by go_num,by rw [HSu.out,ze,qn];exact HO4,HN4⟩,by simp [intOf];omega⟩
   ·obtain rfl:k=fs.length:=by omega
    go_wp2_with fail
    refine qo (v:= .tuple #[vd vo L.length vc,ve vp 0]) (by simp [qC,Tryz.results41,go_sem]) rfl ⟨_,rfl,by rw [HMd2.out,←HL.out];exact yZ HO (by have:=HN.size;have:=N2.size;omega),(HN.trans N2).trans HNr⟩
 ·have HMd2:=q8 (show out=[] by rw [HMd.out,if_neg h0])
  have hne:((r:Int) !=0)=true:=by rw [bne_iff_ne];omega
  clear h0;go_wp2_with fail
  refine qo (v:= .tuple #[vd none 0 0,ve vp r]) (by simp [qC,Tryz.results41,go_sem]) rfl ⟨_,rfl,by rw [HMd2.out];exact qW _ _ _ _,HN.trans HN1⟩
def phoneM:Mod:=⟨[⟨"Phone".toUTF8,-1,1⟩,⟨"Screen".toUTF8,0,2⟩,⟨"Gps".toUTF8,0,3⟩,⟨"Basic".toUTF8,1,4⟩,⟨"Colour".toUTF8,1,4⟩],[⟨1,1,1,[3,4]⟩],[⟨"price".toUTF8,[0,0,7,0,20]⟩],[.mk 8 ⟨#[]⟩ [.mk 3 "Gps".toUTF8 [],.mk 3 "Colour".toUTF8 []]],[⟨0,1,30⟩]⟩
theorem gK:chk phoneM=0:=by decide+kernel
def q17:F:=allF (rulesF phoneM)
theorem Vb:rulesOf phoneM=[(1,0),(2,1),(3,1),(2,2),(2,3),(2,4),(4,0),(5,0),(6,0),(7,0)]:=by decide+kernel
theorem Vf:cF 5 0 (fun _=>false) q17=3:=by decide+kernel
theorem UI:q17 (Qy 23)=true:=by decide+kernel
theorem q13:q17 (Qy 15)=false:=by decide+kernel
theorem Xn:(qO 10).filter (fun i=> !((rulesF phoneM)[i]?.map fun f=>f (Qy 15)).getD true)=[8]:=by decide+kernel
theorem WZ:((qO 5).filter fun(i:Nat)=>(qO (2^5)).all fun k=> !q17 (updI k.testBit i false))=[0,1]:=by decide+kernel
structure q2M(b P K:Nat)(w:World):Prop where
 put:w.heap[P]? =some (.cells #[.func (.func 181) #[] #[.pointer (some ⟨b,0,none⟩),.pointer (some ⟨K,0,none⟩)]] 236 (0,0))
 kid:w.heap[K]? =some (.cells #[.func (.func 179) #[] #[.pointer (some ⟨P,0,none⟩),.pointer (some ⟨b,0,none⟩)]] 238 (0,0))
 hP:P≠b
 hK:K≠b
theorem q2M.wr{b P K:Nat}{v:World}(h:q2M b P K u)(a:Wr B b u v):q2M b P K v:=
 ⟨a.cells h.put (by decide) h.hP,a.cells h.kid (by decide) h.hK,h.hP,h.hK⟩
def JL(B b:Nat)(w:World)(l:List UInt8)(e:Ending)(w':World):Prop:=e= .returned (.tuple #[])/\Bld B b w' l/\Wr B b w w'
def q8b(B b P K:Nat)(e:Ex):Prop:= ∀(w:World)(l:List UInt8)(vs:List Value),RdEx (fun g=>g<B) w vs e->q2M b P K w->Bld B b w l->l.length+(putE e).length<=1099511627776->
 Calls qj 181 (#[.agg vs.toArray]++ #[.pointer (some ⟨b,0,none⟩),.pointer (some ⟨K,0,none⟩)]) w (JL B b w (l++putE e))
theorem q4b(o i:Nat):(bareL o i).length<=10:=by
 unfold bareL
 repeat' split
 all_goals decide
theorem q7V(h:k<n):n - (intOf (ve vp ((k:Int)+1))).toNat<n - (intOf (ve vp (k:Int))).toNat:=by
 simp [intOf];omega
theorem Bld.lt{b:Nat}{w:World}{l:List UInt8}(h:Bld B b w l):b<w.heap.size:=h.1.elim (fun h=>h.lt) fun h=>h.lt
theorem XY{b:Nat}{v:World}(h:RdEx (fun g=>g<B) u vs x)(c:Wr B b u v):RdEx (fun g=>g<B) v vs x:=
 h.kept c.kept (fun g d a=>by have a:B<=g:=a;omega) (fun _ h=>h)
theorem kid_calls{b P K:Nat}{e:Ex}(hp:q8b B b P K e){w:World}{l:List UInt8}{bv:Value}{bl:List Nat}(hr:RdEx (fun g=>g<B) w vs e)(ha:q2M b P K w)(hb:Bld B b w l)(r:RdL S 1 RdU w bv bl)(aa:bl.length≤10)
 (hl:l.length+(wrapT (bareB bl e.op) (putE e)).length≤1099511627776):
 Calls qj 179 (#[vi vs.toArray,bv]++ #[vg P,vg b]) w (JL B b w (l++wrapT (bareB bl e.op) (putE e))):=by
 have⟨a,j,k⟩:=e;obtain⟨sv,rfl,hs⟩:=hr.inv;obtain⟨y,s,rfl⟩:=hs.form;have A:=q8 (fun w' (hn:Near w w')=>ZP (r.kept hn (fun _ _ h=>h) (fun _ h=>h) (fun _ _ h=>h)) (by omega) a);obtain⟨bo,bc,rfl⟩:=r.form;have hW: ∀W,W=w.alloc (vk #[ve vq a,vf j,vd y k.length s] 84)→Near w W∧W.heap[w.heap.size]? =some (vk #[ve vq a,vf j,vd y k.length s] 84 (0,0)):=by
  rintro W rfl;exact⟨(Near.refl w).alloc _,heap_new_at rfl⟩
 have E:=q8 hr;have HA:=q8 ha;have D:=q8 hb;have O:=q8 hp;have x:Hid (bareB bl a=(bl.contains a||decide (a≤4))):=rfl;have t:Hid (l.length+(wrapT (bareB bl a) (putE (.mk a j k))).length≤1099511627776):=hl;show Calls _ _ _ _ (JL B b w (l++wrapT (bareB bl a) (putE (.mk a j k))));generalize bl.contains a=cb at A x;generalize bareB bl a=J at x t⊢;generalize N:putE (.mk a j k)=pe at t⊢;have c:=q8 N;go_enter Tryz.func179,Tryz.ntmps179;go_upto_region 1 with fail
 have h0:=hW _ rfl;generalize w.alloc (vk #[ve vq a,vf j,vd y k.length s] 84)=W at h0⊢;have⟨Z,C⟩:=h0;have d:=q8 Z;have HE:=q8 C;have I:=q8 (show w.heap.size≠b by have:=D.lt;omega);have i:=q8 (HA.wr (B:=B) Z.wr);have c0:W.cell? w.heap.size=some (ve vq a):=cell1 C rfl;have c1:W.cell? (vw w.heap.size 1)=some (vf j):=cell1 C rfl;have c2:W.cell? (vw w.heap.size 2)=some (vd y k.length s):=cell1 C rfl;have p0:W.cell? P=some (.func (.func 181) #[] #[vg b,vg K]):=cell1 i.put rfl
 cases cb with
 |true=>
  have f:J=true:=x.trans (by simp);subst f;go_wp2_with (first
   |(go_at_call 180;refine(A _ d).mono ?_;rintro e Y ⟨rfl,rfl⟩)
   |(go_at_call 181;refine(O _ l _ (XY (b:=b) E d.wr) i (D.near d) (by rw [c.out];exact t)).mono ?_;rintro e q ⟨rfl,m,o⟩;rw [c.out]at m))
  exact qo (v:= .tuple #[]) (by simp [qC,Tryz.results179,go_sem]) rfl ⟨rfl,m,d.wr.trans o⟩
 |false=>
  by_cases X:a≤4
  ·have Q:(a:Int)≤4:=by omega
   have f:J=true:=x.trans (by simp [X]);subst f;go_wp2_with (first
    |(go_at_call 180;refine(A _ d).mono ?_;rintro e Y ⟨rfl,rfl⟩)
    |(go_at_call 181;refine(O _ l _ (XY (b:=b) E d.wr) i (D.near d) (by rw [c.out];exact t)).mono ?_;rintro e q ⟨rfl,m,o⟩;rw [c.out]at m))
   exact qo (v:= .tuple #[]) (by simp [qC,Tryz.results179,go_sem]) rfl ⟨rfl,m,d.wr.trans o⟩
  ·have Q: ¬(a:Int)≤4:=by omega
   have f:J=false:=x.trans (by simp [X]);subst f;have n:=q8 (show l.length+(pe.length+2)≤1099511627776 by have:=t.out;simp [wrapT]at this;omega);go_wp2_with (first
    |(go_at_call 180;refine(A _ d).mono ?_;rintro e Y ⟨rfl,rfl⟩)
    |(go_at_call_of 44 (yb ⟨#[40]⟩);refine(write_calls (D.near d) (by have:=n.out;show _+1≤_;omega)).mono ?_;rintro e q ⟨rfl,m,o⟩;have H:=q8 m;have z:=q8 (d.wr.trans o);have p:=o.cells HE (by decide) I;have e0:q.cell? w.heap.size=some (ve vq a):=cell1 p rfl;have e1:q.cell? (vw w.heap.size 1)=some (vf j):=cell1 p rfl;have e2:q.cell? (vw w.heap.size 2)=some (vd y k.length s):=cell1 p rfl;have u:=i.wr o;have p2:q.cell? P=some (.func (.func 181) #[] #[vg b,vg K]):=cell1 u.put rfl;have G:=q8 u)
    |(go_at_call 181;refine(O _ _ _ (XY E z) G H (by rw [c.out];have:=n.out;simp;omega)).mono ?_;rintro e w3 ⟨rfl,V,k3⟩;rw [c.out]at V;have R:=q8 V;have L:=q8 (z.trans k3))
    |(go_at_call_of 44 (yb ⟨#[41]⟩);refine(write_calls R (by have:=n.out;show(l++[40]++pe).length+1≤_;simp only [qn,List.length_singleton];omega)).mono ?_;rintro e w4 ⟨rfl,b4,k4⟩;have M:=q8 b4;have U:=q8 (L.trans k4)))
   go_end0
   refine⟨rfl,?_,U⟩
   have:=M.out
   simpa [wrapT]using this
theorem q0U(B b P K:Nat): ∀e:Ex,e.row.all rightB=true→q8b B b P K e:=by
 refine Ex.ind fun a H m ih=> ?_;intro r w l vs hr ha hb hl;rw [Ex.row,YR,qy]at r;have⟨A,r⟩:=r;replace A:jr a H m.length=true:=A;have ai:=q8 (fun k (hk:k∈m)=>ih k hk (by
  rw [qL]at r⊢;exact fun y hy=>r y (Ex.rows_mem.2 ⟨k,hk,hy⟩)))
 obtain⟨sv,rfl,hs⟩:=hr.inv;obtain⟨so,sc,rfl⟩:=hs.form;have hW: ∀W,W=w.alloc (vk #[ve vq a,vf H,vd so m.length sc] 84)→Near w W∧W.heap[w.heap.size]? =some (vk #[ve vq a,vf H,vd so m.length sc] 84 (0,0)):=by
  rintro W rfl;exact⟨(Near.refl w).alloc _,heap_new_at rfl⟩
 have HB:=q8 hb;have HA:=q8 ha;have HV:=q8 hr;have J:=q8 hl;have C:=q8 (show putE (.mk a H m)=if a=1 then [48]else if a=2 then [49]else if a=3 then H.data.toList else if a=4 then 33::putKids 4 0 m else putKids a 0 m by rw [putE]);generalize putE (.mk a H m)=pe at J C⊢;go_enter Tryz.func181,Tryz.ntmps181;go_upto_region 1 with fail
 have h0:=hW _ rfl;generalize w.alloc (vk #[ve vq a,vf H,vd so m.length sc] 84)=W at h0⊢;have⟨hN,hE⟩:=h0;have HN:=q8 hN;have HE:=q8 hE;have c0:W.cell? w.heap.size=some (ve vq a):=cell1 hE rfl;have c1:W.cell? (vw w.heap.size 1)=some (vf H):=cell1 hE rfl;have c2:W.cell? (vw w.heap.size 2)=some (vd so m.length sc):=cell1 hE rfl;have G:=q8 (HB.near hN);have au:=q8 (HA.wr (B:=B) hN.wr);have bw:=q8 (XY (b:=b) HV hN.wr);have ae:a=1∨a=2∨a=3∨a=4∨(5≤a∧a≤10):=by
  unfold jr at A;split at A<;>first|omega|cases A
 have bi:=q8 A;have ad:=q8 (show w.heap.size≠b by have:=HB.lt;omega);have a9: ∀(k:Nat) x,m[k]? =some x→ ∃g o vs,so=some ⟨g,o,none⟩∧g<B∧(∀j u,vs[j]? =some u→w.cell? (vw g (o+k*3+j))=some u)∧RdEx (fun g=>g<B) w vs x:=fun k x I=>by
  have⟨v,e,bt,bs,e2,hc⟩:=HV.inv;simp only [qJ,and_true,true_and]at e;subst e;simp only [qq,true_and]at e2;obtain⟨rfl,rfl⟩:=e2;exact hc k x I
 have a0:=q8 a9;rcases ae with rfl|rfl|rfl|rfl|ae
 ·have p:pe=[48]:=C.trans (if_pos rfl)
  subst p;go_wp2_with (go_at_call 44;refine(write_calls G (by have:=J.out;show _+1≤_;simp at this;omega)).mono ?_;rintro e D ⟨rfl,b2,U⟩)
  go_end0
  exact⟨rfl,b2,HN.wr.trans U⟩
 ·have p:pe=[49]:=C.out
  subst p;go_wp2_with (go_at_call 44;refine(write_calls G (by have:=J.out;show _+1≤_;simp at this;omega)).mono ?_;rintro e D ⟨rfl,b2,U⟩)
  go_end0
  exact⟨rfl,b2,HN.wr.trans U⟩
 ·have p:pe=H.data.toList:=C.out
  subst p;go_wp2_with (go_at_call 44;refine(write_calls G (by have:=J.out;have e:H.data.toList.length=H.size:=Array.length_toList;omega)).mono ?_;rintro e D ⟨rfl,b2,U⟩)
  go_end0
  exact⟨rfl,b2,HN.wr.trans U⟩
 ·have p:pe=33::putKids 4 0 m:=C.out
  subst p;have bq:m.length=1:=by
   have:=bi.out
   simp only [jr,qy,decide_eq_true_eq]at this;exact this.1
  obtain⟨x,rfl⟩: ∃x,m=[x]:=by
   match m,bq with
   |[x],_=>exact⟨x,rfl⟩
  obtain⟨g,o,vs,rfl,hg,n,I⟩:=a0 0 x rfl;have⟨c,d,f⟩:=x;obtain⟨ba,rfl,Z⟩:=I.inv;obtain⟨s,q,rfl⟩:=Z.form;have a5:putKids 4 0 [Ex.mk c d f]=wrapT (bareB [] c) (putE (.mk c d f)):=by
   rw [jA];simp [wB,q0B,q2v,putKids,Ex.op]
  have aw:=q8 a5;have HX:=q8 I;have t:=q8 n;have af:=q8 (ai (.mk c d f) (by simp));go_upto_region 17 with(go_at_call 44;refine(write_calls G (by have:=J.out;show _+1≤_;simp at this;omega)).mono ?_;rintro e D ⟨rfl,b2,U⟩;have B2:=q8 b2;have K2:=q8 U)
  have al:=au.wr K2;have k0:D.cell? K=some (.func (.func 179) #[] #[vg P,vg b]):=cell1 al.kid rfl;have bm:=K2.cells HE (by decide) ad;have e2:D.cell? (vw w.heap.size 2)=some (vd (some ⟨g,o,none⟩) 1 sc):=cell1 bm rfl;have M:=(HN.wr (B:=B) (b:=b)).trans K2;have x0:D.cell? (vw g o)=some (ve vq c):=M.kept.cell (by simpa using t.out 0 _ rfl) (by omega);have x1:D.cell? (vw g (o+1))=some (vf d):=M.kept.cell (by simpa using t.out 1 _ rfl) (by omega);have x2:D.cell? (vw g (o+2))=some (vd s f.length q):=M.kept.cell (by simpa using t.out 2 _ rfl) (by omega);have bf:=q8 al;have av:=q8 M;go_wp2_with fail
  go_still_tail 5,(by kernel_rfl)
  change wpList _ _ _ _ _ D.drew;go_wp2_with (go_at_call 179;refine(kid_calls (S:=fun _=>True) (bl:=[]) af (XY (b:=b) HX av.drew) (bf.wr (B:=B) ((Near.refl D).drew.wr)) (B2.near (Near.refl D).drew) ⟨none,0,rfl,fun j x I=>nomatch I⟩ (by simp) (by have:=J.out;rw [aw.out]at this;show(l++[33]).length+(wrapT (bareB [] c) (putE (.mk c d f))).length≤_;simp only [qn,qT,List.length_nil]at this⊢;omega)).mono ?_;rintro e w3 ⟨rfl,b3,k3⟩;have B3:=q8 b3;have K3:=q8 k3)
  go_end0
  refine⟨rfl,?_,av.drew.trans K3⟩
  have:=B3.out
  rw [aw.out];rw [qS]at this;exact this
 ·have p:pe=putKids a 0 m:=C.trans (by rw [if_neg (by omega),if_neg (by omega),if_neg (by omega),if_neg (by omega)])
  subst p;have n1:((a:Int)==1)=false:=beq_eq_false_iff_ne.2 (by omega);have n2:((a:Int)==2)=false:=beq_eq_false_iff_ne.2 (by omega);have n3:((a:Int)==3)=false:=beq_eq_false_iff_ne.2 (by omega);have n4:((a:Int)==4)=false:=beq_eq_false_iff_ne.2 (by omega);have ag:=q8 ae;have a8:=q8 (show m.length≤1099511627777 by have h1:=J.out;have h2:=q8z a m;omega);go_upto_region 3 with fail
  go_loopw [11] (fun i wx=> ∃k:Nat,k≤m.length∧i=ve vp k∧Bld B b wx (l++putKids a 0 (m.take k))∧Wr B b W wx) (fun i _=>m.length - (intOf i).toNat)
  case atStart=>exact⟨0,qv _,rfl,by simpa [putKids]using G.out,Wr.refl _ _ _⟩
  case round=>
   obtain⟨k,hk,rfl,hb,hw⟩:=hrel;have X:=q8 hb;have O:=q8 hw;by_cases aa:k<m.length
   ·have br:(k:Int)<m.length:=by omega
    obtain⟨x,I⟩: ∃x,m[k]? =some x:=⟨_,qi aa⟩;have ay:=qp I;obtain⟨g,o,vs,rfl,hg,n,ax⟩:=a0 k x I;have⟨c,d,f⟩:=x;obtain⟨ba,rfl,Z⟩:=ax.inv;obtain⟨s,q,rfl⟩:=Z.form;have R:=(HN.wr (B:=B) (b:=b)).trans O;have x0:wr.cell? (vw g (o+k*3))=some (ve vq c):=R.kept.cell (n 0 _ rfl) (by omega);have x1:wr.cell? (vw g (o+k*3+1))=some (vf d):=R.kept.cell (n 1 _ rfl) (by omega);have x2:wr.cell? (vw g (o+k*3+2))=some (vd s f.length q):=R.kept.cell (n 2 _ rfl) (by omega);have HX:=q8 ax;have af:=q8 (ai (.mk c d f) ay);have bg:=q8 (QD (o:=a) I);have a2:=q8 (q3v (o:=a) I);have hV: ∀V,V=wr.alloc (vk #[ve vq c,vf d,vd s f.length q] 84)→Near wr V∧V.heap[wr.heap.size]? =some (vk #[ve vq c,vf d,vd s f.length q] 84 (0,0)):=by
     rintro V rfl;exact⟨(Near.refl wr).alloc _,heap_new_at rfl⟩
    go_upto_region 5 with fail
    have h5:=hV _ rfl;generalize wr.alloc (vk #[ve vq c,vf d,vd s f.length q] 84)=V at h5⊢;have⟨nV,bk⟩:=h5;have bp:=q8 bk;have an:=q8 (X.near nV);have L:=q8 (O.trans (nV.wr (B:=B) (b:=b)));have bd:wr.heap.size≠b:=by have:=X.lt;omega
    have az:=(L).cells HE (by decide) ad;have a1:=q8 az;have a3:=q8 (au.wr L);have bh:=q8 (XY (b:=b) HX ((HN.wr (B:=B) (b:=b)).trans L));have v0:V.cell? w.heap.size=some (ve vq a):=cell1 az rfl;go_upto_if 17 with fail
    go_cut [] (fun wz=>Bld B b wz (l++putKids a 0 (m.take k)++q0B a k)∧Wr B b V wz)
    case first=>
     by_cases h0:k=0
     ·subst h0
      go_wp2_with fail
      go_meet
      exact⟨by simpa [q0B]using an.out,Wr.refl _ _ _⟩
     ·have bu:(0:Int)<k:=by omega
      have aj:=q8 (show q0B a k=32::(signT a k++[32]) by unfold q0B;rw [if_neg h0]);have am:=q8 (fun z=>WO ag k z);have ao:(toB (signT a k)).size≤3:=by
       have:=KR a k
       simpa [toB,ByteArray.size]using this
      have ap:(toB (signT a k)).data.toList=signT a k:=rfl;generalize toB (signT a k)=E at am ao ap;have N:(⟨#[32]⟩++E:ByteArray).size=E.size+1:=by rw [ByteArray.size_append];show 1+_=_;omega
      have ah:(⟨#[32]⟩++E++⟨#[32]⟩:ByteArray).size=E.size+2:=by rw [ByteArray.size_append,N];rfl
      have ar:=q8 ah;have bb:=q8 ao;have bn:=q8 ap;have q1: ∀w,(Op.stringOp .add ⟨#[32]⟩ E).run qj w= .ok (vf (⟨#[32]⟩++E)) w:=fun w=>run_string_add_sum (w:=w) ⟨#[32]⟩ E (by show 1+_≤_;omega);have q2: ∀w,(Op.stringOp .add (⟨#[32]⟩++E) ⟨#[32]⟩).run qj w= .ok (vf (⟨#[32]⟩++E++⟨#[32]⟩)) w:=fun w=>run_string_add_sum (w:=w) (⟨#[32]⟩++E) ⟨#[32]⟩ (by rw [N];show _+1≤_;omega);go_wp2_with (first
       |(go_at_call 182;refine(am _).mono ?_;rintro e D ⟨rfl,n2⟩;have N2:=q8 n2)
       |(go_at_call 44;refine(write_calls (an.near N2) (by rw [ar.out];have h1:=bb.out;have h2:=J.out;have h3:=Ys a m k;simp only [qn];omega)).mono ?_;rintro e w3 ⟨rfl,b3,k3⟩;have B3:=q8 b3;have K3:=q8 k3))
      go_meet
      refine⟨?_,N2.wr.trans K3⟩
      have:=B3.out
      rw [aj.out];have e:(⟨#[32]⟩++E++⟨#[32]⟩:ByteArray).data.toList=32::(signT a k++[32]):=by
       rw [ByteArray.data_append,ByteArray.data_append,Array.toList_append,Array.toList_append,bn.out];rfl
      rw [e]at this;exact this
    case rest=>
     have⟨a6,ab⟩:=hcut;have a7:=q8 a6;have Y:=q8 ab;have aq:=q8 (a3.wr ab);have a4: ∀z,Wr B b wc z→z.cell? K=some (.func (.func 179) #[] #[vg P,vg b])∧z.cell? wr.heap.size=some (ve vq c)∧z.cell? (vw wr.heap.size 1)=some (vf d)∧z.cell? (vw wr.heap.size 2)=some (vd s f.length q)∧z.cell? w.heap.size=some (ve vq a):=fun z h=>by
      have e1:=(Y.trans h).cells bp (by decide) bd;have e2:=(Y.trans h).cells a1 (by decide) ad;exact⟨cell1 (aq.wr h).kid rfl,cell1 e1 rfl,cell1 e1 rfl,cell1 e1 rfl,cell1 e2 rfl⟩
     have bj:=q8 (XY (b:=b) bh ab);have be:wB a k (.mk c d f)=q0B a k++wrapT (bareB (bareL a k) c) (putE (.mk c d f)):=by
      unfold wB q2v;rw [if_neg (by have:=ag.out;omega)];rfl
     have ak:=q8 be;have Q:wrap64 ((k:Int)+1)=(k:Int)+1:=IntWalk.wrap64_in _ (by have:=a8.out;omega);go_upto_region 7 with fail
     go_region_held3 (fun z=>z.cell? K=some (.func (.func 179) #[] #[vg P,vg b])∧z.cell? wr.heap.size=some (ve vq c)∧z.cell? (vw wr.heap.size 1)=some (vf d)∧z.cell? (vw wr.heap.size 2)=some (vd s f.length q)∧z.cell? w.heap.size=some (ve vq a))
      ((refine a4 _ ?_;first|exact z2|exact z1|exact(Wr.refl B b wc).drew))
      (first
        |(go_at_call 183;refine(GZ ag k _).mono ?_;rintro e w5 ⟨bv,rfl,rb,n5⟩;have RB:=q8 rb;obtain⟨bo,bc,rfl⟩:=rb.form;have z1:Wr B b wc w5:=(Wr.refl B b wc).drew.trans n5.wr;have N5:=q8 n5)
        |(go_at_call 179;refine(kid_calls af (XY (b:=b) bj z1) (aq.wr z1) (a7.near ((Near.refl wc).drew.trans N5)) RB (q4b a k) (by have h1:=a2.out;have h2:=J.out;rw [ak.out]at h1;show _+(wrapT (bareB (bareL a k) c) (putE (.mk c d f))).length≤_;simp only [qn]at h1⊢;omega)).mono ?_;rintro e w6 ⟨rfl,b6,k6⟩;have z2:Wr B b wc w6:=z1.trans k6;have B6:=q8 b6))
     go_wp2_with fail
     go_roundw
     case rel=>
      refine⟨k+1,aa,by go_num,?_,(L.trans Y).trans z2⟩
      have:=B6.out
      rw [bg.out,ak.out,←qS,←qS];exact this
     case measure=>rw [Q];exact q7V aa
   ·obtain rfl:k=m.length:=by omega
    go_wp2_with fail
    go_end0
    refine⟨rfl,?_,(HN.wr (B:=B) (b:=b)).trans O⟩
    have:=X.out
    rwa [qF]at this
theorem q1x(f:xM):kindB 0 f=(decide (f.kind=1)&&decide (f.parent= -1)):=rfl
theorem Gm{i:Nat}(h:0<i)(f:xM):kindB i f=(decide (2<=f.kind)&&decide (f.kind<=4)&&decide (0<=f.parent)&&decide (f.parent<i)):=by
 unfold kindB;rw [if_neg (by omega)]
theorem q1W{S:Nat->Prop}{w:World}{i:Nat}{l:List xM}{x:xM}(h:RdL S 3 RdFeat w (vd ao n cap) l)(j:l[i]? =some x):
 ∃g o,ao=some ⟨g,o,none⟩/\w.cell? (vw g (o+i*3))=some (vf x.name)/\w.cell? (vw g (o+i*3+1))=some (ve vp x.parent)/\w.cell? (vw g (o+i*3+2))=some (ve vq x.kind):=by
 have⟨f,c,e,d⟩:=h;obtain⟨g,o,k,b,-,a,m⟩:=d i x j;obtain rfl:k=[vf x.name,ve vp x.parent,ve vq x.kind]:=m
 cases e;exact⟨g,o,b,a 0 _ rfl,a 1 _ rfl,a 2 _ rfl⟩
theorem kind_ways(i:Nat)(f:xM):
 (kindB i f=true/\((i=0/\f.kind=1/\f.parent= -1)\/(0<i/\2<=f.kind/\f.kind<=4/\0<=f.parent/\f.parent<i)))\/
 (kindB i f=false/\((i=0/\f.kind≠1)\/(i=0/\f.kind=1/\f.parent≠ -1)\/(0<i/\f.kind<2)\/(0<i/\ ¬f.kind<2/\4<f.kind)\/(0<i/\ ¬f.kind<2/\ ¬4<f.kind/\f.parent<0)\/(0<i/\ ¬f.kind<2/\ ¬4<f.kind/\ ¬f.parent<0/\(i:Int)<=f.parent))):=by
 by_cases g:i=0
 .subst g
  rw [q1x];by_cases a:f.kind=1
  .by_cases b:f.parent= -1
   .exact vu ⟨by simp [a,b],vu ⟨rfl,a,b⟩⟩
   .exact vv ⟨by simp [b],vv (vu ⟨rfl,a,b⟩)⟩
  .exact vv ⟨by simp [a],vu ⟨rfl,a⟩⟩
 .have c:0<i:=by omega
  rw [Gm c];by_cases a:f.kind<2
  .exact vv ⟨by rw [decide_eq_false (by omega)];rfl,vv (vv (vu ⟨c,a⟩))⟩
  by_cases b:4<f.kind
  .exact vv ⟨by rw [decide_eq_false (by omega: ¬f.kind<=4)];simp,vv (vv (vv (vu ⟨c,a,b⟩)))⟩
  by_cases d:f.parent<0
  .exact vv ⟨by rw [decide_eq_false (by omega: ¬0<=f.parent)];simp,vv (vv (vv (vv (vu ⟨c,a,b,d⟩))))⟩
  by_cases e:(i:Int)<=f.parent
  .exact vv ⟨by rw [decide_eq_false (by omega: ¬f.parent<i)];simp,vv (vv (vv (vv (vv ⟨c,a,b,d,e⟩))))⟩
  .refine vu ⟨?_,vv ⟨c,by omega,by omega,by omega,by omega⟩⟩
   rw [decide_eq_true (by omega:2<=f.kind),decide_eq_true (by omega:f.kind<=4),decide_eq_true (by omega:0<=f.parent),decide_eq_true (by omega:f.parent<i)];rfl
theorem xT{g:Nat->α->Nat}{l:List α}{x:α}(h: ∀(j:Nat) y,j<k->l[j]? =some y->g j y=0)(b:l[k]? =some x)(c:g k x=0): ∀(j:Nat) y,j<k+1->l[j]? =some y->g j y=0:=by
 intro j y d a;by_cases e:j=k
 .subst e
  rw [b]at a
  cases a;exact c
 .exact h j y (by omega) a
theorem Zn{w:World}(h:RdMod S w v m)(az:m.feats.length<549755813888):
 Calls qj 36 #[v] w fun e w'=>e=vm (ve vp (rFeatE m:Nat))∧Near w w':=by
 have ae:=q8 (fun(w':World)(hn:Near w w')=>QB (h.kept hn (fun _ _ h=>h) (fun _ h=>h)) (by omega:m.feats.length<1099511627776));obtain⟨a1,a2,b1,b2,c1,c2,d1,d2,C,P,rfl,hF,-⟩:=RdMod.form h;have HR:Hid (rFeatE m=if m.feats.length=0 then 2 else(if 24<m.feats.length then 5 else eachFrom (featE m.names) 0 m.feats)):=rfl;generalize rFeatE m=r at HR⊢;have O:=q8 (show m.names.length=m.feats.length by simp [Mod.names]);have an:=q8 (fun(i:Nat)(f:xM)(Z:m.feats[i]? =some f)=>(show m.names[i]? =some f.name by unfold Mod.names;rw [List.getElem?_map,Z];rfl));have hW: ∀W,W=w.alloc (vk #[vd a1 m.feats.length a2,vd b1 m.grps.length b2,vd c1 m.atts.length c2,vd d1 m.reqs.length d2,vd C m.lims.length P] 28)→Near w W∧W.heap[w.heap.size]? =some (vk #[vd a1 m.feats.length a2,vd b1 m.grps.length b2,vd c1 m.atts.length c2,vd d1 m.reqs.length d2,vd C m.lims.length P] 28 (0,0)):=by
  rintro W rfl;exact⟨(Near.refl w).alloc _,heap_new_at rfl⟩
 have HF:=q8 hF;clear h hF;go_enter Tryz.func36,Tryz.ntmps36;go_upto_region 1 with fail
 have J:=hW _ rfl;generalize w.alloc (vk #[vd a1 m.feats.length a2,vd b1 m.grps.length b2,vd c1 m.atts.length c2,vd d1 m.reqs.length d2,vd C m.lims.length P] 28)=W at J⊢;have⟨hN,U⟩:=J;have q0:W.cell? w.heap.size=some (vd a1 m.feats.length a2):=cell1 U rfl;have q1:W.cell? (vw w.heap.size 1)=some (vd b1 m.grps.length b2):=cell1 U rfl;have q2:W.cell? (vw w.heap.size 2)=some (vd c1 m.atts.length c2):=cell1 U rfl;have q3:W.cell? (vw w.heap.size 3)=some (vd d1 m.reqs.length d2):=cell1 U rfl;have q4:W.cell? (vw w.heap.size 4)=some (vd C m.lims.length P):=cell1 U rfl;have q:=q8 hN;have HA:=q8 U;clear hW hN U;by_cases J:m.feats.length=0
 ·have d:=q8 (show r=2 by rw [HR.out,if_pos J])
  have ag:((m.feats.length:Int)==0)=true:=beq_iff_eq.2 (by omega);clear J;go_wp2_with fail
  go_ret;exact⟨by rw [d.out];rfl,q⟩
 have ag:((m.feats.length:Int)==0)=false:=beq_eq_false_iff_ne.2 (by omega);by_cases D:24<m.feats.length
 ·have d:=q8 (show r=5 by rw [HR.out,if_neg J,if_pos D])
  have L:(24:Int)<m.feats.length:=by omega
  clear J D;go_wp2_with fail
  go_ret;exact⟨by rw [d.out];rfl,q⟩
 have d:=q8 (show r=eachFrom (featE m.names) 0 m.feats by rw [HR.out,if_neg J,if_neg D]);have L: ¬(24:Int)<m.feats.length:=by omega
 have ar:m.feats.length≤24:=by omega
 clear J D HR;go_upto_region 7 with(go_at_call 27;refine(ae _ q).mono ?_;rintro e w1 ⟨nv,rfl,o1,n1⟩;obtain⟨no,nc,rfl⟩:=qR o1;have O1:=q8 o1;have B:=q8 n1;clear o1 n1)
 clear q0 q1 q2 q3 q4 ae ag L;have am:m.names.length≤nc:=Z4 O1;rw [O.out]at am O1⊢;go_wp2_with fail
 go_loopw [5] (fun ix wr=> ∃i:Nat,i≤m.feats.length∧ix=ve vp i∧(∀j y,j<i→m.feats[j]? =some y→featE m.names j y=0)∧Near w1 wr) (fun ix _=>m.feats.length - (intOf ix).toNat)
 case atStart=>exact⟨0,qv _,rfl,fun j y hj=>by omega,Near.refl _⟩
 case round=>
  obtain⟨i,hi,rfl,M,Q⟩:=hrel;have t:=q8 M;have k:=q8 Q;have q0:wr.cell? w.heap.size=some (vd a1 m.feats.length a2):=cell1 (qE (B.trans Q) HA) rfl;clear M Q;by_cases K:i<m.feats.length
  ·have au:(i:Int)<m.feats.length:=by omega
   have ay:(i:Int)≤nc:=by omega
   obtain⟨f,Z⟩: ∃f,m.feats[i]? =some f:=⟨_,qi K⟩;obtain⟨g,o,rfl,k0,k1,k2⟩:=q1W (RdL.kept HF (q.trans (B.trans k)) (fun _ _ h=>h) (fun _ h=>h) (fun _ _ h=>h)) Z;have E:=q8 Z;have af:=RdL.strings (l:=m.names) (w:=w1) (base:=W.heap.size) (e:=9) (v:=vd no m.feats.length nc) (by rw [O.out];exact O1);have ad:=q8 (fun(w':World)(hn:Near w1 w')=>RdL.take (R:=RdS) (af.kept hn (fun _ _ h=>h) (fun _ h=>h) (fun _ _ h=>h)) i nc (Nat.le_of_lt K));have⟨ax,av,e,hc⟩:=af;obtain⟨ng,ah,vs,ap,-,u,hv⟩:=hc i _ (an i f Z);obtain rfl:vs=[vf f.name]:=hv;rw [O.out]at e;simp only [qq,true_and]at e;obtain⟨rfl,rfl⟩:=e;subst ap;have s0:wr.cell? (vw ng (ah+i))=some (vf f.name):=by
    have:=k.cell (u 0 _ rfl)
    simpa using this
   have I:=q8 (fun n=>QC (w:=wr.drewN n) (ad _ (k.drewN n)) (by rw [zd];omega) f.name);obtain⟨fe,G⟩: ∃z,z=freshE (m.names.take i) f.name:=⟨_,rfl⟩;rw [←G]at I;have aw:=q8 G;have H:=q8 (show featE m.names i f=if fe=0 then(if kindB i f=true then 0 else 2)else fe by rw [G];rfl);clear hc u Z G;by_cases s:fe=0
   ·subst s
    have x:Hid (featE m.names i f=if kindB i f=true then 0 else 2):=H;go_upto_region 10 with fail
    go_quiet ((go_at_call 38;exact vP (I _)))
    have b:Near wr (wr.drewN nq):=(Near.refl wr).drewN nq;generalize wr.drewN nq=X at b⊢;have aq:=b.cell q0;have ai:=b.cell k0;have ak:=b.cell k1;have ao:=b.cell k2;have aj:=q8 (k.trans b);clear b q0 k0 k1 k2 s0 I ad H;go_upto_region 14 with fail
    clear aq ai ak ao;have⟨V,fb,ab,aa,nV,hX⟩:=zZ X #[vf f.name,ve vp f.parent,ve vq f.kind] 76;rw [ab,aa];have x1:V.cell? (vw fb 1)=some (ve vp f.parent):=cell1 hX rfl;have x2:V.cell? (vw fb 2)=some (ve vq f.kind):=cell1 hX rfl;have N:=q8 (aj.trans nV);clear ab aa nV hX;rcases kind_ways i f with⟨hk,hw⟩|⟨hk,hw⟩
    ·have A:=q8 (show featE m.names i f=0 by rw [x.out,hk];rfl)
     clear hk;rcases hw with⟨c,a,p⟩|⟨c,a,p,h4,h5⟩
     ·have C:((i:Int)==0)=true:=beq_iff_eq.2 (by omega)
      have P:((f.kind:Int) !=1)=false:=by rw [a];rfl
      have e3:(f.parent != -1)=false:=by rw [p];rfl
      have e4: ¬(0:Int)<i:=by omega
      clear c a p;go_wp2_with fail
      exact⟨⟨i+1,K,by go_num,fun j y hj Y=>xT t E A j y hj Y,N⟩,by simp [intOf];omega⟩
     ·have C:((i:Int)==0)=false:=beq_eq_false_iff_ne.2 (by omega)
      have e4:(0:Int)<i:=by omega
      have e5: ¬(f.kind:Int)<2:=by omega
      have e6: ¬(4:Int)<f.kind:=by omega
      have e7: ¬f.parent<0:=by omega
      have e8: ¬(i:Int)≤f.parent:=by omega
      clear c a p h4 h5;go_wp2_with fail
      exact⟨⟨i+1,K,by go_num,fun j y hj Y=>xT t E A j y hj Y,N⟩,by simp [intOf];omega⟩
    ·have A:=q8 (show r=2 by rw [d.out,j0 t E (by rw [x.out,hk];decide),x.out,hk];rfl)
     clear hk;rcases hw with⟨c,a⟩|⟨c,a,p⟩|⟨c,a⟩|⟨c,a,p⟩|⟨c,a,p,h4⟩|⟨c,a,p,h4,h5⟩
     ·have C:((i:Int)==0)=true:=beq_iff_eq.2 (by omega)
      have P:((f.kind:Int) !=1)=true:=by rw [bne_iff_ne];omega
      clear c a;go_wp2_with fail
      go_ret;exact⟨by obtain rfl:=A.out;rfl,q.trans (B.trans N)⟩
     ·have C:((i:Int)==0)=true:=beq_iff_eq.2 (by omega)
      have P:((f.kind:Int) !=1)=false:=by rw [a];rfl
      have e3:(f.parent != -1)=true:=by rw [bne_iff_ne];exact p
      clear c a p;go_wp2_with fail
      go_ret;exact⟨by obtain rfl:=A.out;rfl,q.trans (B.trans N)⟩
     all_goals
      have C:((i:Int)==0)=false:=beq_eq_false_iff_ne.2 (by omega);have e4:(0:Int)<i:=by omega
     ·have e5:(f.kind:Int)<2:=by omega
      clear c a;go_wp2_with fail
      go_ret;exact⟨by obtain rfl:=A.out;rfl,q.trans (B.trans N)⟩
     ·have e5: ¬(f.kind:Int)<2:=by omega
      have e6:(4:Int)<f.kind:=by omega
      clear c a p;go_wp2_with fail
      go_ret;exact⟨by obtain rfl:=A.out;rfl,q.trans (B.trans N)⟩
     ·have e5: ¬(f.kind:Int)<2:=by omega
      have e6: ¬(4:Int)<f.kind:=by omega
      clear c a p;go_wp2_with fail
      go_ret;exact⟨by obtain rfl:=A.out;rfl,q.trans (B.trans N)⟩
     ·have e5: ¬(f.kind:Int)<2:=by omega
      have e6: ¬(4:Int)<f.kind:=by omega
      clear c a p;go_wp2_with fail
      go_ret;exact⟨by obtain rfl:=A.out;rfl,q.trans (B.trans N)⟩
   ·have A:=q8 (show r=fe by rw [d.out,j0 t E (by rw [H.out,if_neg s];exact s),H.out,if_neg s])
    have C:((fe:Int) !=0)=true:=by rw [bne_iff_ne];omega
    clear s;go_upto_region 10 with fail
    go_quiet ((go_at_call 38;exact vP (I _)))
    go_wp2_with fail
    go_ret;exact⟨by obtain rfl:=A.out;rfl,q.trans (B.trans (k.drewN _))⟩
  ·obtain rfl:i=m.feats.length:=by omega
   have al:=q8 (show r=0 by rw [d.out];exact jh fun j y Y=>t j y (qm.1 Y).1 Y);go_wp2_with fail
   go_ret;exact⟨by rw [al.out];rfl,q.trans (B.trans k)⟩
theorem XS{l:List Grp}(k:Nat):((l.take k).flatMap yq).length<=(l.flatMap yq).length:=YV l k
theorem J6{w:World}(h:RdMod S w v m)(am:m.feats.length<549755813888)(ak:m.grps.length<549755813888)(C:(m.grps.flatMap yq).length<549755813888):
 Calls qj 37 #[v] w fun e a=>e=vm (ve vp (rGrpsE m:Nat))∧Near w a:=by
 have ab:=q8 h;obtain⟨U,V,P,t,c1,c2,d1,d2,E,J,rfl,hF,hG,-,-,-,-,ae⟩:=RdMod.form h;have HR:Hid (rGrpsE m=if(if 24<m.grps.length then 5 else eachFrom (grpE m) 0 m.grps)=0 then eachFrom (loneE m.grps) 0 m.feats else(if 24<m.grps.length then 5 else eachFrom (grpE m) 0 m.grps)):=rfl;generalize rGrpsE m=r at HR⊢;have hW: ∀W,W=w.alloc (vk #[vd U m.feats.length V,vd P m.grps.length t,vd c1 m.atts.length c2,vd d1 m.reqs.length d2,vd E m.lims.length J] 28)→Near w W∧W.heap[w.heap.size]? =some (vk #[vd U m.feats.length V,vd P m.grps.length t,vd c1 m.atts.length c2,vd d1 m.reqs.length d2,vd E m.lims.length J] 28 (0,0)):=by
  rintro W rfl;exact⟨(Near.refl w).alloc _,heap_new_at rfl⟩
 have HF:=q8 hF;have HG:=q8 hG;have G:=q8 C;have ah:=q8 ae;clear h hF hG C ae;go_enter Tryz.func37,Tryz.ntmps37;go_upto_region 1 with fail
 have h0:=hW _ rfl;generalize w.alloc (vk #[vd U m.feats.length V,vd P m.grps.length t,vd c1 m.atts.length c2,vd d1 m.reqs.length d2,vd E m.lims.length J] 28)=W at h0⊢;have⟨hN,hA⟩:=h0;have q1:W.cell? (vw w.heap.size 1)=some (vd P m.grps.length t):=cell1 hA rfl;have s:=q8 hN;have HA:=q8 hA;clear hW hN hA;by_cases A:24<m.grps.length
 ·have q:=q8 (show r=5 by rw [HR.out,if_pos A];rfl)
  have D:(24:Int)<m.grps.length:=by omega
  clear A;go_wp2_with fail
  go_ret;exact⟨by obtain rfl:=q.out;rfl,s⟩
 have q:=q8 (show r=if eachFrom (grpE m) 0 m.grps=0 then eachFrom (loneE m.grps) 0 m.feats else eachFrom (grpE m) 0 m.grps by rw [HR.out,if_neg A]);have D: ¬(24:Int)<m.grps.length:=by omega
 clear A HR;go_wp2_with fail
 clear q1 D;go_loopw [3] (fun O wr=> ∃i:Nat,i≤m.grps.length∧O=ve vp i∧(∀j y,j<i→m.grps[j]? =some y→grpE m j y=0)∧Near W wr) (fun O _=>m.grps.length - (intOf O).toNat)
 case atStart=>exact⟨0,qv _,rfl,fun j y hj=>by omega,Near.refl _⟩
 case round=>
  obtain⟨i,hi,rfl,d,L⟩:=hrel;have b:=q8 d;have p:=q8 L;have c:=qE L HA;clear d L;obtain⟨H,ag⟩: ∃x,x=wr:=⟨_,rfl⟩;subst ag;by_cases n:i<m.grps.length
  ·have Y:(i:Int)<m.grps.length:=by omega
   obtain⟨g,hg⟩: ∃g,m.grps[i]? =some g:=⟨_,qi n⟩;have al:i+1≤t:=by have:=ah.out;omega
   have aj:(i:Int)+1≤t:=by omega
   have ad:=q8 (fun(a:World)(Q:Near W a)=>Xh (N:=i) (g:=g) (ab.kept (s.trans Q) (fun _ _ h=>h) (fun _ h=>h)) (RdL.take (R:=RdGrp S) (HG.kept (s.trans Q) (fun _ _ h=>h) (fun _ h=>h) (fun _ _ h=>h.kept (s.trans Q) (fun _ _ h=>h) (fun _ h=>h))) (i+1) t n) (by rw [zd];omega) (by rw [List.getElem?_take,if_pos (by omega)];exact hg) (by omega) (zR (XS (i+1)) G));obtain⟨z,hz⟩: ∃z,z=grpE m i g:=⟨_,rfl⟩;rw [q3t hg,←hz]at ad;have u:=q8 hz;have af:=q8 hg;clear hz hg;have K: ∀a,Near H a→a.cell? w.heap.size=some (vd U m.feats.length V)∧a.cell? (vw w.heap.size 1)=some (vd P m.grps.length t)∧a.cell? (vw w.heap.size 2)=some (vd c1 m.atts.length c2)∧a.cell? (vw w.heap.size 3)=some (vd d1 m.reqs.length d2)∧a.cell? (vw w.heap.size 4)=some (vd E m.lims.length J):=fun a h=>⟨cell1 (qE h c) rfl,cell1 (qE h c) rfl,cell1 (qE h c) rfl,cell1 (qE h c) rfl,cell1 (qE h c) rfl⟩;have q1:=(K H (Near.refl _)).2.1;go_upto_region 6 with fail
   clear q1;have s1:IntKind.i64.wrap ((i:Int)+1)=(i:Int)+1:=IntWalk.i64_in _ (by omega);have s2:(0:Int)≤(i:Int)+1:=by omega
   have s3:((i:Int)+1).toNat=i+1:=by omega
   go_region_held3 (fun a=>a.cell? w.heap.size=some (vd U m.feats.length V)∧a.cell? (vw w.heap.size 1)=some (vd P m.grps.length t)∧a.cell? (vw w.heap.size 2)=some (vd c1 m.atts.length c2)∧a.cell? (vw w.heap.size 3)=some (vd d1 m.reqs.length d2)∧a.cell? (vw w.heap.size 4)=some (vd E m.lims.length J))
    ((refine K _ ?_;first|exact z1|exact(Near.refl _).drew))
    ((go_at_call 115;refine(ad _ (p.trans (Near.refl H).drew)).mono ?_;rintro e w2 ⟨rfl,n2⟩;have z1:Near H w2:=(Near.refl H).drew.trans n2;have N2:=q8 z1;clear n2))
   clear s1 s2 s3 c K;by_cases B:z=0
   ·subst B
    go_wp2_with fail
    exact⟨⟨i+1,n,by go_num,xT b af u.symm,p.trans N2⟩,by simp [intOf];omega⟩
   ·have HE:=q8 (show r=z by rw [q.out,j0 b af (by rw [←u.out];exact B),←u.out,if_neg B])
    have E:((z:Int) !=0)=true:=by rw [bne_iff_ne];omega
    clear B;go_wp2_with fail
    go_ret;exact⟨by obtain rfl:=HE.out;rfl,s.trans (p.trans N2)⟩
  ·obtain rfl:i=m.grps.length:=by omega
   have aa:=q8 (show r=eachFrom (loneE m.grps) 0 m.feats by rw [q.out,if_pos (jh fun j y X=>b j y (qm.1 X).1 X)]);have ai:=q8 (fun(a:World)(Q:Near W a)(k:Int)=>Zi (l:=m.grps) (HG.kept (s.trans Q) (fun _ _ h=>h) (fun _ h=>h) (fun _ _ h=>h.kept (s.trans Q) (fun _ _ h=>h) (fun _ h=>h))) (by omega) (by have:=G.out;omega) k);have q1:H.cell? (vw w.heap.size 1)=some (vd P m.grps.length t):=cell1 c rfl;have q0:H.cell? w.heap.size=some (vd U m.feats.length V):=cell1 c rfl;clear n hi c q b ab HA;go_wp2_with fail
   go_loop [5] (fun O=> ∃i:Nat,i≤m.feats.length∧O=ve vp i∧(∀j y,j<i→m.feats[j]? =some y→loneE m.grps j y=0)) (fun O=>m.feats.length - (intOf O).toNat)
   case atStart=>exact⟨0,qv _,rfl,fun j y hj=>by omega⟩
   case round=>
    obtain⟨i,hi,rfl,d⟩:=hrel;have b:=q8 d;clear d;by_cases n:i<m.feats.length
    ·have Y:(i:Int)<m.feats.length:=by omega
     obtain⟨f,hf⟩: ∃f,m.feats[i]? =some f:=⟨_,qi n⟩;obtain⟨g,o,rfl,k0,k1,k2⟩:=we (RdL.kept HF (s.trans p) (fun _ _ h=>h) (fun _ h=>h) (fun _ _ h=>h)) hf;have M:=q8 hf;have I:=q8 (ai H p (i:Int));have HL:=q8 (show loneE m.grps i f=if(decide (f.kind=4)&& !decide (0<timesN m.grps i))=true then 2 else 0 by unfold loneE;rw [q3Q]);generalize timesN m.grps (i:Int)=tn at I HL;clear hf;by_cases Z:f.kind=4
     ·have E:((f.kind:Int)==4)=true:=beq_iff_eq.2 (by omega)
      by_cases ht:0<tn
      ·have u:=q8 (show loneE m.grps i f=0 by rw [HL.out,decide_eq_true ht];simp)
       have J:((tn:Int)==0)=false:=beq_eq_false_iff_ne.2 (by omega);clear Z ht;go_wp2_with (go_at_call 116;refine I.mono ?_;rintro e a ⟨rfl,rfl⟩)
       go_round
       case rel=>exact⟨i+1,n,by go_num,xT b M u⟩
       case measure=>simp [intOf];omega
      ·have u:=q8 (show loneE m.grps i f=2 by rw [HL.out,decide_eq_false ht,Z];rfl)
       have HE:=q8 (show r=2 by rw [aa.out,j0 b M (by rw [u.out];decide),u.out]);have J:((tn:Int)==0)=true:=beq_iff_eq.2 (by omega);clear Z ht;go_wp2_with (go_at_call 116;refine I.mono ?_;rintro e a ⟨rfl,rfl⟩)
       go_ret;exact⟨by obtain rfl:=HE.out;rfl,s.trans p⟩
     ·have u:=q8 (show loneE m.grps i f=0 by rw [HL.out,decide_eq_false Z];rfl)
      have E:((f.kind:Int)==4)=false:=beq_eq_false_iff_ne.2 (by omega);clear Z;go_wp2_with fail
      go_round
      case rel=>exact⟨i+1,n,by go_num,xT b M u⟩
      case measure=>simp [intOf];omega
    ·obtain rfl:i=m.feats.length:=by omega
     have HE:=q8 (show r=0 by rw [aa.out];exact jh fun j y X=>b j y (qm.1 X).1 X);go_wp2_with fail
     go_ret;exact⟨by obtain rfl:=HE.out;rfl,s.trans p⟩
theorem q0H(l:List Ex)(x:Ex):Ex.rows (l++[x])=Ex.rows l++x.row:=by
 induction l with
 |nil=>simp [Ex.rows]
 |cons y l a=>simp only [zl,Ex.rows,a,qS]
theorem rows_take(h:l[k]? =some x):Ex.rows (l.take (k+1))=Ex.rows (l.take k)++x.row:=by
 rw [qU,h];exact q0H _ _
theorem sizes_take(l:List Ex)(k:Nat):Ex.sizes (l.take k)<=Ex.sizes l:=by
 induction l generalizing k with
 |nil=>simp
 |cons y l a=>
  cases k with
  |zero=>simp [Ex.sizes]
  |succ k=>
   have:=a k
   simp only [List.take_succ_cons,Ex.sizes];omega
theorem q8y(l:List Ex):l.length<=Ex.sizes l:=by
 induction l with
 |nil=>simp
 |cons k l a=>
  have:=Ex.size_pos k
  simp only [qT,Ex.sizes];omega
def q6I(S:Nat->Prop)(w:World)(x:Ex)(e:Ending)(w':World):Prop:=
 ∃(v:Value)(ps:List Pe),e= .returned v/\w'.ownsRow w.heap.size 84 3 v ps.length (ps.flatMap encP)/\ps.map Pe.ex=x.row/\(∀p∈ps,RdEx S w' (encP p) p.ex)/\Near w w'
theorem encP_one(b:List Pe): ∀u∈b.flatMap encP,u.oneCell'=true\/ ∃p∈b,u=p.v:=by
 intro u a;have⟨p,c,a⟩:=List.mem_flatMap.1 a;simp only [encP,qI,zh,or_false]at a;rcases a with rfl|rfl|rfl
 .exact vu rfl
 .exact vu rfl
 .exact vv ⟨p,c,rfl⟩
theorem GA{S:Nat->Prop}{w:World}{d:List Pe}(h: ∀p∈d,RdEx S w (encP p) p.ex): ∀u∈d.flatMap encP,u.oneCell'=true:=by
 intro u g;rcases encP_one d u g with i|⟨p,l,rfl⟩
 .exact i
 .have f:=h p l
  generalize p.ex=x at f;have⟨a,b,c⟩:=x;have⟨v,e,j⟩:=f.inv;obtain⟨m,k,rfl⟩:=j.form;simp only [encP,qJ,and_true]at e;rw [e.2.2];rfl
theorem q5v{w':World}{base:Nat}{c:List Pe}(h:w'.ownsRow base 84 3 (vd ao n cap) n (c.flatMap encP))(o:0<n):SrcOf w' 3 n (vd ao n cap) (c.flatMap encP):=by
 refine⟨h.1,vv ?_⟩;rcases h.2 with⟨_,q⟩|⟨g,b,l,e,m,p,d,k,a,f⟩
 .omega
 .simp only [qq,true_and]at e
  obtain⟨rfl,rfl⟩:=e;exact⟨_,_,rfl,fun j u i=>h.cells rfl j u i⟩
theorem WR: ∀{x:Ex}{S:Nat→Prop}{w:World}{vs:List Value},RdEx S w vs x→(∀g,S g→g<w.heap.size)→x.size<1099511627776→Calls qj 170 #[vi vs.toArray] w (q6I S w x):=by
 intro x;induction x using Ex.ind with
 |h op nm kids ih=>
 intro S w vs hx hS hsz;have hx0:=hx;obtain⟨sv,rfl,hs⟩:=hx.inv;obtain⟨so,sc,rfl⟩:=hs.form;have hsl:Ex.sizes kids+1<1099511627776:=by simp only [Ex.size]at hsz;omega
 have hkn:=q8y kids;have⟨i157,hif,hz0,hz1,hz2⟩:=zG VG;have HS:=q8 hs;have HX:=q8 hx0;have HIh:=q8 (fun(k:Ex)(hk:k∈kids)(w':World)(vs:List Value)(hn:Near w w')(h:RdEx S w vs k)=>ih k hk (h.kept hn (fun _ _ h=>h) (fun _ h=>h)) (fun g hg=>qu (hS g hg) hn.size) (by have:=Ex.sizes_mem hk;omega));have HL:=q8 (show(Ex.mk op nm kids).row=Ex.mk op nm kids::Ex.rows kids by rw [Ex.row]);have HSt:=q8 (fun k=>sizes_take kids k);have hW: ∀W,W=w.alloc (vk #[ve vq op,vf nm,vd so kids.length sc] 84)→Near w W∧W.heap[w.heap.size]? =some (vk #[ve vq op,vf nm,vd so kids.length sc] 84 (0,0)):=by
  rintro W rfl;exact⟨(Near.refl w).alloc _,heap_new_at rfl⟩
 have HSb:=q8 hS;clear hx hx0 hs hsz ih hS;go_enter Tryz.func170,Tryz.ntmps170;go_upto_region 1 with fail
 have h0:=hW _ rfl;generalize w.alloc (vk #[ve vq op,vf nm,vd so kids.length sc] 84)=W at h0⊢;have⟨hN,hE⟩:=h0;have c0:W.cell? w.heap.size=some (ve vq op):=cell1 hE rfl;have c1:W.cell? (vw w.heap.size 1)=some (vf nm):=cell1 hE rfl;have c2:W.cell? (vw w.heap.size 2)=some (vd so kids.length sc):=cell1 hE rfl;have HN:=q8 hN;have HE:=q8 hE;clear hW hN hE;go_upto_region 2 with fail
 have hV: ∀V,V=W.alloc (vk #[ve vq op,vf nm,vd so kids.length sc] 84)→Near W V∧V.ownsRow W.heap.size 84 3 (vd W.heap.size 1 1) 1 [ve vq op,vf nm,vd so kids.length sc]:=by
  rintro V rfl;exact⟨(Near.refl W).alloc _,rfl,vv ⟨W.heap.size,1,_,rfl,qt _,heap_new_at rfl,qt _,by decide,rfl,rfl⟩⟩
 have h1:=hV _ rfl;generalize W.alloc (vk #[ve vq op,vf nm,vd so kids.length sc] 84)=V at h1⊢;have HV:=q8 h1;clear h1 hV c0 c1 c2;go_wp2_with fail
 go_loopw [3,4] (fun v ix wr=> ∃(k:Nat)(ps:List Pe),k≤kids.length∧ix=ve vp k∧wr.ownsRow W.heap.size 84 3 v ps.length (ps.flatMap encP)∧ps.map Pe.ex=Ex.mk op nm kids::Ex.rows (kids.take k)∧(∀p∈ps,RdEx S wr (encP p) p.ex)∧Near W wr) (fun _ ix _=>kids.length - (intOf ix).toNat)
 case atStart=>exact⟨0,[⟨op,nm,vd so kids.length sc,.mk op nm kids⟩],qv _,rfl,HV.2,by simp [Ex.rows],fun p hp=>by rw [List.mem_singleton.1 hp];exact HX.kept (HN.trans HV.1) (fun _ _ h=>h) (fun _ h=>h),HV.1⟩
 case round=>
  obtain⟨k,ps,hk,rfl,ho,hps,hrd,hnr⟩:=hrel;obtain⟨vo,vc,rfl⟩:=qR ho;have HO:=q8 ho;have HP:=q8 hps;have HR:=q8 hrd;have HNr:=q8 hnr;have hpl:ps.length=1+Ex.sizes (kids.take k):=by
   have:=congrArg uq hps
   rw [qG,qT,Ex.rows_length]at this;omega
  have c2:wr.cell? (vw w.heap.size 2)=some (vd so kids.length sc):=cell1 (qE hnr HE) rfl;clear ho hps hrd hnr;by_cases hlt:k<kids.length
  ·have hlt':(k:Int)<kids.length:=by omega
   obtain⟨y,hy⟩: ∃y,kids[k]? =some y:=⟨_,qi hlt⟩;have hrs:=rows_take hy;have hsz3:ps.length+y.size<1099511627776:=by
    have h1:=HSt (k+1);have h2:=congrArg uq hrs;rw [qn,Ex.rows_length,Ex.rows_length,Ex.row_length]at h2;omega
   have HSz:=q8 hsz3;have HRs:=q8 hrs;have⟨ao',cap',e,hc⟩:=HS.out;obtain⟨b,o,vs,hao,-,hcell,hyr⟩:=hc k y hy;simp only [qq,true_and]at e;obtain⟨rfl,rfl⟩:=e;subst hao;have HC:=q8 (HIh y (qp hy) wr vs (HN.trans HNr) hyr);have HRl:=q8 (y.row_length);have⟨yo,yn,yk⟩:=y;obtain⟨ys,rfl,hys⟩:=hyr.inv;obtain⟨yso,ysc,rfl⟩:=hys.form;have y0:wr.cell? (vw b (o+k*3))=some (ve vq yo):=(HN.trans HNr).cell (hcell 0 _ rfl);have y1:wr.cell? (vw b (o+k*3+1))=some (vf yn):=(HN.trans HNr).cell (hcell 1 _ rfl);have y2:wr.cell? (vw b (o+k*3+2))=some (vd yso yk.length ysc):=(HN.trans HNr).cell (hcell 2 _ rfl);clear hc hcell hyr hys hy hrs hsz3 hpl;go_wp2_with (first
    |(go_at_call 170;refine HC.mono ?_;rintro e w1 ⟨v1,ps1,rfl,o1,m1,r1,n1⟩;obtain⟨v1o,v1c,rfl⟩:=qR o1;have O1:=q8 o1;have M1:=q8 m1;have R1:=q8 r1;have N1:=q8 n1;have HL1:=q8 (show ps.length+ps1.length<1099511627776 by have h:=congrArg uq m1;rw [qG,HRl.out]at h;have:=HSz.out;omega);have HSrc:=q8 (q5v (w':=w1) o1 (by have h:=congrArg uq m1;rw [qG,HRl.out]at h;have:=Ex.size_pos (Ex.mk yo yn yk);omega));clear o1 m1 r1 n1)
    |(at_builtin;go_must (refine wpList_append_more rfl (.tmp 14) (.tmp 20) 25 rfl W.heap.size 84 i157 (vi #[ve vq 0,vf ⟨#[]⟩,vd none 0 0]) 3 48 Tryz.underlying25 hif hz0 hz1 hz2 rfl (by decide) (vd vo ps.length vc) ps.length (ps.flatMap encP) rfl (owns_kept HO N1 (fun _ _ h=>h)) _ ps1.length (ps1.flatMap encP) rfl HSrc (GA R1) (by have:=HL1.out;unfold maxLen;omega) (by have:=HL1.out;omega) (by have:=HNr.size;have:=N1.size;omega) ?_);intro b3 c3 w3 hown3 hg3;have HO3:=q8 hown3;have HN3:=q8 (Kept.grown (HNr.trans N1) hg3 (fun k e hlt=>by have:=(zY HO e).1;omega):Near W w3);have HG3:=q8 hg3;clear hown3 hg3))
   have kp1:Kept (fun g=>(qw vo ps.length vc).ownBlock=some g) wr w3:=Kept.grown N1.kept HG3 (fun k hk _=>hk);have kp2:Kept (fun g=>(qw vo ps.length vc).ownBlock=some g) w1 w3:=Kept.grown (Near.refl w1).kept HG3 (fun k hk _=>hk);have hne: ∀g,S g→ ¬(qw vo ps.length vc).ownBlock=some g:=fun g hg e=>by
    have h1:=(zY HO e).1;have h2:=HSb g hg;have h3:=HN.size;omega
   refine⟨⟨k+1,ps++ps1,hlt,by go_num,by rw [qn,List.flatMap_append];exact HO3,by rw [ze,HP.out,M1.out,HRs.out,zl],fun p hp=> ?_,HN3⟩,by simp [intOf];omega⟩;rcases qK.1 hp with hp|hp
   ·exact(HR p hp).kept kp1 hne (fun _ h=>h)
   ·exact(R1 p hp).kept kp2 hne (fun _ h=>h)
  ·obtain rfl:k=kids.length:=by omega
   go_wp2_with fail
   go_ret;refine⟨_,ps,rfl,yZ HO HN.size,?_,HR,HN.trans HNr⟩;rw [HP.out,qF,HL.out]
theorem q0G{S:Nat->Prop}{w:World}(h:RdEx S w vs x)(f: ∀g,S g->g<w.heap.size)(b:x.size<1099511627776):
 Calls qj 170 #[vi vs.toArray] w fun e a=> ∃v,e=vm v/\RdL (fun g=>w.heap.size<=g) 3 (RdEx S) a v x.row/\Near w a:=by
 refine(WR h f b).mono ?_;rintro e a ⟨v,k,rfl,c,j,d,i⟩;refine⟨v,rfl,?_,i⟩;rw [<-j];exact RdL.map (RdL.own (enc:=encP) (R:=fun w vs p=>RdEx S w vs p.ex) (fun _=>rfl) c d)
theorem UG{S T:Nat->Prop}{w:World}{i:Nat}(h:RdL T 3 (RdEx S) w (vd ao n cap) l)(s:l[i]? =some x):
 ∃g o p k,ao=some ⟨g,o,none⟩/\w.cell? (vw g (o+i*3))=some (ve vq x.op)/\w.cell? (vw g (o+i*3+1))=some (vf x.name)/\w.cell? (vw g (o+i*3+2))=some (vd p x.kids.length k)/\RdEx S w [ve vq x.op,vf x.name,vd p x.kids.length k] x:=by
 have⟨r,m,e,q⟩:=h;obtain⟨g,o,v,f,-,a,b⟩:=q i x s;have⟨y,u,z⟩:=x;obtain⟨t,rfl,j⟩:=b.inv;obtain⟨d,c,rfl⟩:=j.form
 cases e;exact⟨g,o,d,c,f,a 0 _ rfl,a 1 _ rfl,a 2 _ rfl,b⟩
theorem Wt{l:List α}{z:α}(h:l[j]? =some z)(P:α->Bool):(l.take (j+1)).all P=((l.take j).all P&&P z):=by
 rw [qU,h,QS];simp
theorem q2E{l:List α}{z:α}(h:l[j]? =some z){P:α->Bool}(a:P z=false):l.all P=false:=by
 refine Bool.eq_false_iff.2 fun b=> ?_;rw [qL.1 b z (qp h)]at a
 cases a
theorem Xa{w:World}(h:RdEx S w vs x)(hS: ∀g,S g→g<w.heap.size)(j:x.size<1099511627776):
 Calls qj 119 #[vi vs.toArray] w fun e p=>e=vm (vj (validB x))∧Near w p:=by
 have f:=q8 (fun(p:World)(I:Near w p)=>q0G (h.kept I (fun _ _ h=>h) (fun _ h=>h)) (fun g hg=>qu (hS g hg) I.size) j);have m:=q8 (fun(p:World)(I:Near w p)=>J3 (h.kept I (fun _ _ h=>h) (fun _ h=>h)) j);have s:=q8 (show validB x=(x.row.all rightB&&decide (x.row.length≤1000)&&decide (x.levels≤64)) by unfold validB;rw [Ex.row_length]);generalize validB x=r at s⊢;have G:x.row.length<1099511627776:=by rw [Ex.row_length];exact j
 generalize x.row=a at f s G;generalize x.levels=U at m s;have⟨D,C,d⟩:=x;obtain⟨sv,rfl,t⟩:=h.inv;obtain⟨E,v,rfl⟩:=t.form;have hW: ∀W,W=w.alloc (vk #[ve vq D,vf C,vd E d.length v] 84)→Near w W∧W.heap[w.heap.size]? =some (vk #[ve vq D,vf C,vd E d.length v] 84 (0,0)):=by
  rintro W rfl;exact⟨(Near.refl w).alloc _,heap_new_at rfl⟩
 clear h t hS j;go_enter Tryz.func119,Tryz.ntmps119;go_upto_region 1 with fail
 have h0:=hW _ rfl;generalize w.alloc (vk #[ve vq D,vf C,vd E d.length v] 84)=W at h0⊢;have⟨hN,i⟩:=h0;have c0:W.cell? w.heap.size=some (ve vq D):=cell1 i rfl;have c1:W.cell? (vw w.heap.size 1)=some (vf C):=cell1 i rfl;have c2:W.cell? (vw w.heap.size 2)=some (vd E d.length v):=cell1 i rfl;have u:=q8 hN;have HE:=q8 i;clear hW hN i;go_upto_region 2 with(go_at_call 170;refine(f _ u).mono ?_;rintro e w1 ⟨v1,rfl,M,n1⟩;obtain⟨vo,vc,rfl⟩:=M.form;have R1:=q8 M;have A:=q8 n1;clear M n1)
 clear c0 c1 c2 f;go_wp2_with fail
 go_loopw [4] (fun Q wr=> ∃k:Nat,k≤a.length∧Q=ve vp k∧(a.take k).all rightB=true∧Near w1 wr) (fun Q _=>a.length - (intOf Q).toNat)
 case atStart=>exact⟨0,qv _,rfl,rfl,Near.refl _⟩
 case round=>
  obtain⟨k,hk,rfl,n,B⟩:=hrel;have R:=q8 n;have c:=q8 B;clear n B;by_cases q:k<a.length
  ·have X:(k:Int)<a.length:=by omega
   obtain⟨y,J⟩: ∃y,a[k]? =some y:=⟨_,qi q⟩;obtain⟨g,o,O,K,rfl,y0,y1,y2,-⟩:=UG (RdL.kept R1 c (fun _ _ h=>h) (fun _ h=>h) (fun _ _ h=>h.kept c (fun _ _ h=>h) (fun _ h=>h))) J;have Z:=q8 J;obtain⟨b,L⟩: ∃b,b=rightB y:=⟨_,rfl⟩;have HB:=q8 L;have HC:=q8 (fun p=>(show b=jr y.op y.name y.kids.length from L)▸WT y.op y.name O y.kids.length K p);clear J L
   cases b with
   |false=>
    have HR:=q8 (show r=false by rw [s.out,q2E Z HB.symm];rfl);go_wp2_with (go_at_call 171;refine(HC _).mono ?_;rintro e Y ⟨rfl,l⟩;have z:=q8 l;clear l)
    go_ret;exact⟨by obtain rfl:=HR.out;rfl,u.trans (A.trans (c.trans z))⟩
   |true=>
    go_wp2_with (go_at_call 171;refine(HC _).mono ?_;rintro e Y ⟨rfl,l⟩;have z:=q8 l;clear l)
    exact⟨⟨k+1,q,by go_num,by rw [Wt Z,R.out,←HB.out];rfl,c.trans z⟩,by simp [intOf];omega⟩
  ·obtain rfl:k=a.length:=by omega
   have H:=q8 (show r=(decide (a.length≤1000)&&decide (U≤64)) by
    have:=R.out
    rw [qF]at this;rw [s.out,this,YS])
   clear q hk s R;by_cases t:a.length≤1000
   ·have V:(a.length:Int)≤1000:=by omega
    have i:=qE (A.trans c) HE;have c0:wr.cell? w.heap.size=some (ve vq D):=cell1 i rfl;have c1:wr.cell? (vw w.heap.size 1)=some (vf C):=cell1 i rfl;have c2:wr.cell? (vw w.heap.size 2)=some (vd E d.length v):=cell1 i rfl;have P:=q8 (show r=decide (U≤64) by rw [H.out,decide_eq_true t,YS]);have N:=q8 (m wr (u.trans (A.trans c)));clear i t;go_wp2_with (go_at_call 172;refine N.mono ?_;rintro e Y ⟨rfl,l⟩;have z:=q8 l;clear l)
    go_ret;refine⟨?_,u.trans (A.trans (c.trans z))⟩;rw [P.out];show jM (vj (decide ((U:Int)≤64)))=_;exact congrArg (fun b=>jM (vj b)) (decide_eq_decide.2 (by omega))
   ·have V: ¬(a.length:Int)≤1000:=by omega
    go_wp2_with fail
    go_ret;exact⟨by rw [H.out,decide_eq_false t];rfl,u.trans (A.trans c)⟩
theorem q1O{y:Ex}(h:l[k]? =some y)(a:List ByteArray):(l.take (k+1)).foldl addName a=addName ((l.take k).foldl addName a) y:=by
 rw [qU,h,List.foldl_append];rfl
theorem KT{w:World}(h:RdEx S w vs x)(hS: ∀g,S g→g<w.heap.size)(C:x.size<1099511627776):
 Calls qj 120 #[vi vs.toArray] w fun e B=> ∃v,e=vm v∧B.ownsRow w.heap.size 9 1 v (usedL x).length ((usedL x).map vf)∧Near w B:=by
 have p:=q8 (fun(B:World)(hn:Near w B)=>q0G (h.kept hn (fun _ _ h=>h) (fun _ h=>h)) (fun g hg=>qu (hS g hg) hn.size) C);have G:Hid (usedL x=x.row.foldl addName []):=rfl;generalize usedL x=r at G⊢;have E:x.row.length<1099511627776:=by rw [Ex.row_length];exact C
 generalize x.row=a at p G E;have⟨i9,Z,af,Q,X⟩:=zG XD;have⟨M,K,f⟩:=x;obtain⟨sv,rfl,hs⟩:=h.inv;obtain⟨N,H,rfl⟩:=hs.form;have hW: ∀W,W=w.alloc (vk #[ve vq M,vf K,vd N f.length H] 84)→Near w W∧W.heap[w.heap.size]? =some (vk #[ve vq M,vf K,vd N f.length H] 84 (0,0)):=by
  rintro W rfl;exact⟨(Near.refl w).alloc _,heap_new_at rfl⟩
 have R:=q8 (fun k=>qH (gC (a.take k)) (List.length_take_le _ _));go_enter Tryz.func120,Tryz.ntmps120;go_upto_region 1 with fail
 have h0:=hW _ rfl;generalize w.alloc (vk #[ve vq M,vf K,vd N f.length H] 84)=W at h0⊢;have⟨hN,V⟩:=h0;have c0:W.cell? w.heap.size=some (ve vq M):=cell1 V rfl;have c1:W.cell? (vw w.heap.size 1)=some (vf K):=cell1 V rfl;have c2:W.cell? (vw w.heap.size 2)=some (vd N f.length H):=cell1 V rfl;have O:=q8 hN;go_upto_region 2 with(go_at_call 170;refine(p _ O).mono ?_;rintro e J ⟨v1,rfl,r1,n1⟩;obtain⟨vo,vc,rfl⟩:=r1.form;have R1:=q8 r1;have N1:=q8 n1)
 go_wp2_with fail
 go_loopw [4,5] (fun v ix wr=> ∃k:Nat,k≤a.length∧ix=ve vp k∧wr.ownsRow J.heap.size 9 1 v ((a.take k).foldl addName []).length (((a.take k).foldl addName []).map vf)∧Near J wr) (fun _ ix _=>a.length - (intOf ix).toNat)
 case atStart=>exact⟨0,qv _,rfl,qW _ _ _ _,Near.refl _⟩
 case round=>
  obtain⟨k,hk,rfl,q,P⟩:=hrel;obtain⟨uo,uc,rfl⟩:=qR q;have ad:=R k;have u:=q8 q;have d:=q8 P;by_cases j:k<a.length
  ·have ag:(k:Int)<a.length:=by omega
   obtain⟨y,hy⟩: ∃y,a[k]? =some y:=⟨_,qi j⟩;obtain⟨g,o,ai,ah,rfl,y0,y1,y2,-⟩:=UG (RdL.kept R1 d (fun _ _ h=>h) (fun _ h=>h) (fun _ _ h=>h.kept d (fun _ _ h=>h) (fun _ h=>h))) hy;have L:=q8 (q1O hy []);generalize(a.take k).foldl addName []=c at u L ad;have⟨n,b,Y⟩:=y;dsimp only [Ex.op,Ex.name,Ex.kids]at y0 y1 y2;have A:Hid (addName c (.mk n b Y)=if(decide (n=3)&& !hasN c b)=true then c++[b]else c):=rfl;have m:=q8 (uG (w:=wr) (RdL.strings u) (by omega) b);have D:=q8 (Z7 (l:=c) (s:=b));by_cases h3:n=3
   ·subst h3
    cases I:hasN c b with
    |true=>
     have U: ¬idxN c b<0:=by have:=of_decide_eq_true (D.trans I);omega
     have i:=q8 (show(a.take (k+1)).foldl addName []=c by rw [L.out,A.out,I];rfl);generalize idxN c b=z at m U;go_wp2_with (go_at_call 118;refine m.mono ?_;rintro e B ⟨rfl,rfl⟩)
     exact⟨⟨k+1,j,by go_num,by rw [i.out];exact u,d⟩,by simp [intOf];omega⟩
    |false=>
     have U:idxN c b<0:=by have:=of_decide_eq_false (D.trans I);omega
     have i:=q8 (show(a.take (k+1)).foldl addName []=c++[b] by rw [L.out,A.out,I];rfl);generalize idxN c b=z at m U;go_wp2_with (first
      |(go_at_call 118;refine m.mono ?_;rintro e B ⟨rfl,rfl⟩)
      |(at_builtin;go_must (refine wpList_append_more rfl (.tmp 30) (.tmp 36) 68 rfl J.heap.size 9 i9 (vf yi) 1 16 yS Z af Q X rfl (by decide) (vd uo c.length uc) c.length (c.map vf) rfl (u.alloc _) _ 1 [vf b] rfl ⟨rfl,vv ⟨_,1,rfl,cell_one_at (by simp) _ _⟩⟩ (by simp [qX]) (by unfold maxLen;omega) (by omega) (by have:=d.size;simp;omega) ?_);intro b3 c3 w3 t ab;have aa:=q8 t;have ae:=q8 (Kept.grown (d.alloc _) ab (fun k e j=>by have:=(zY u e).1;omega):Near J w3)))
     exact⟨⟨k+1,j,by go_num,by rw [i.out,ze,qn];exact aa,ae⟩,by simp [intOf];omega⟩
   ·have aj:((n:Int)==3)=false:=beq_eq_false_iff_ne.2 (by omega)
    have i:=q8 (show(a.take (k+1)).foldl addName []=c by rw [L.out,A.out,decide_eq_false h3];rfl);go_wp2_with fail
    exact⟨⟨k+1,j,by go_num,by rw [i.out];exact u,d⟩,by simp [intOf];omega⟩
  ·obtain rfl:k=a.length:=by omega
   go_wp2_with fail
   go_ret;refine⟨_,rfl,?_,O.trans (N1.trans d)⟩
   have:=u.out
   rw [qF,←G.out]at this;rw [qF,←G.out];exact yZ this (qH O.size N1.size)
theorem Yb{T:Nat→Prop}{w:World}{nv:Value}{a:List ByteArray}(h:RdEx S w vs x)(hS: ∀g,S g→g<w.heap.size)(u:x.size<1099511627776)(j:RdL T 1 RdS w nv a)(hl:a.length<4611686018427387904):
 Calls qj 40 #[nv,vi vs.toArray] w fun e d=>e=vm (ve vp (reqE a x:Nat))∧Near w d:=by
 have n:=q8 (fun(d:World)(j:Near w d)=>Xa (h.kept j (fun _ _ h=>h) (fun _ h=>h)) (fun g U=>qu (hS g U) j.size) u);have D:=q8 (fun(d:World)(j:Near w d)=>KT (h.kept j (fun _ _ h=>h) (fun _ h=>h)) (fun g U=>qu (hS g U) j.size) u);have P:=q8 (fun(d:World)(hk:Near w d)(s:ByteArray)=>uG (j.kept hk (fun _ _ h=>h) (fun _ h=>h) (fun _ _ h=>h)) hl s);have y:Hid (reqE a x=if validB x=true then(if(usedL x).all (hasN a)=true then 0 else 6)else 2):=rfl;generalize reqE a x=r at y⊢;have Y:(usedL x).length<1099511627776:=by
  have:=gC x.row
  rw [Ex.row_length]at this;exact zR this u
 generalize usedL x=i at D y Y;generalize validB x=vb at n y;have⟨E,B,c⟩:=x;obtain⟨sv,rfl,hs⟩:=h.inv;obtain⟨G,A,rfl⟩:=hs.form;obtain⟨no,nc,rfl⟩:=j.form;have hW: ∀W,W=w.alloc (vk #[ve vq E,vf B,vd G c.length A] 84)→Near w W∧W.heap[w.heap.size]? =some (vk #[ve vq E,vf B,vd G c.length A] 84 (0,0)):=by
  rintro W rfl;exact⟨(Near.refl w).alloc _,heap_new_at rfl⟩
 go_enter Tryz.func40,Tryz.ntmps40;go_upto_region 1 with fail
 have h0:=hW _ rfl;generalize w.alloc (vk #[ve vq E,vf B,vd G c.length A] 84)=W at h0⊢;have⟨hN,M⟩:=h0;have c0:W.cell? w.heap.size=some (ve vq E):=cell1 M rfl;have c1:W.cell? (vw w.heap.size 1)=some (vf B):=cell1 M rfl;have c2:W.cell? (vw w.heap.size 2)=some (vd G c.length A):=cell1 M rfl;have m:=q8 hN;have HE:=q8 M
 cases vb with
 |false=>
  have J:Hid (r=2):=y;go_wp2_with (go_at_call 119;refine(n _ m).mono ?_;rintro e L ⟨rfl,Q⟩;have p:=q8 Q)
  go_ret;exact⟨by rw [J.out];rfl,m.trans p⟩
 |true=>
  have J:Hid (r=if i.all (hasN a)=true then 0 else 6):=y;go_upto_region 3 with(go_at_call 119;refine(n _ m).mono ?_;rintro e L ⟨rfl,Q⟩;have p:=q8 Q)
  have q:=qE p HE;have c0:L.cell? w.heap.size=some (ve vq E):=cell1 q rfl;have c1:L.cell? (vw w.heap.size 1)=some (vf B):=cell1 q rfl;have c2:L.cell? (vw w.heap.size 2)=some (vd G c.length A):=cell1 q rfl;go_upto_region 4 with(go_at_call 120;refine(D _ (m.trans p)).mono ?_;rintro e w2 ⟨v2,rfl,o2,n2⟩;obtain⟨uo,uc,rfl⟩:=qR o2;have R2:=q8 (RdL.strings o2);have O:=q8 n2)
  go_wp2_with fail
  go_loop [6] (fun X=> ∃k:Nat,k≤i.length∧X=ve vp k∧(i.take k).all (hasN a)=true) (fun X=>i.length - (intOf X).toNat)
  case atStart=>exact⟨0,qv _,rfl,rfl⟩
  case round=>
   obtain⟨k,hk,rfl,C⟩:=hrel;have HA:=q8 C;by_cases I:k<i.length
   ·have aa:(k:Int)<i.length:=by omega
    obtain⟨s,hx⟩: ∃s,i[k]? =some s:=⟨_,qi I⟩;have⟨ad,ab,e,hc⟩:=R2.out;obtain⟨b,o,vs,V,-,v,hv⟩:=hc k s hx;obtain rfl:vs=[vf s]:=hv;simp only [qq,true_and]at e;obtain⟨rfl,rfl⟩:=e;subst V;have d0:w2.cell? (vw b (o+k))=some (vf s):=by simpa using v 0 _ rfl
    have Z:=q8 hx;have H:=q8 (Z7 (l:=a) (s:=s));have f:=q8 (P w2 (m.trans (p.trans O)) s)
    cases K:hasN a s with
    |true=>
     have R: ¬idxN a s<0:=by have:=of_decide_eq_true (H.trans K);omega
     have N:=q8 (show(i.take (k+1)).all (hasN a)=true by rw [Wt Z,HA.out,K];rfl);generalize idxN a s=z at f R;go_wp2_with (go_at_call 118;refine f.mono ?_;rintro e d ⟨rfl,rfl⟩)
     go_round
     case rel=>exact⟨k+1,I,by go_num,N⟩
     case measure=>simp [intOf];omega
    |false=>
     have R:idxN a s<0:=by have:=of_decide_eq_false (H.trans K);omega
     have t:=q8 (show r=6 by rw [J.out,q2E Z K];rfl);generalize idxN a s=z at f R;go_wp2_with (go_at_call 118;refine f.mono ?_;rintro e d ⟨rfl,rfl⟩)
     go_ret;exact⟨by rw [t.out];rfl,m.trans (p.trans O)⟩
   ·obtain rfl:k=i.length:=by omega
    have t:=q8 (show r=0 by have:=HA.out;rw [qF]at this;rw [J.out,this];rfl);go_wp2_with fail
    go_ret;exact⟨by rw [t.out];rfl,m.trans (p.trans O)⟩
theorem q2f{l:List Int}(h:l.length<=24):decide (je l)=l.all costB:=by
 rw [Bool.eq_iff_iff,decide_eq_true_eq,qL];unfold je costB;simp only [qy,decide_eq_true_eq];exact⟨fun a=>a.2,fun a=>⟨h,a⟩⟩
theorem q6i{S:Nat->Prop}{w:World}{l:List Int}(h:RdL S 1 RdI w v l):vO w v l:=by
 have⟨f,c,e,d⟩:=h;refine⟨f,c,e,fun k x i=> ?_⟩;obtain⟨g,o,j,b,-,a,rfl⟩:=d k x i;exact⟨g,o,b,by simpa using a 0 _ rfl⟩
theorem q2y{l:List Att}{x:Att}(h:l[k]? =some x):(l.map Att.name).take (k+1)=(l.map Att.name).take k++[x.name]:=by
 rw [qU];simp [h]
theorem q7s:rFeatE m=0->m.feats.length<=24:=by
 unfold rFeatE eachE;split
 .intro h;cases h
 .split
  .intro h;cases h
  .intro _;omega
theorem uH{w:World}(h:RdMod S w v m)(hS: ∀g,S g→g<w.heap.size)(G:Zd m)(a8: ∀x∈m.reqs,x.size<1099511627776):
 Calls qj 9 #[v] w fun e d=>e=vm (ve vp (chk m:Nat))∧Near w d:=by
 have bz:=q8 h;have af:=q8 (fun(d:World)(hn:Near w d)=>Zn (h.kept hn (fun _ _ h=>h) (fun _ h=>h)) G.feats);have aj:=q8 (fun(d:World)(hn:Near w d)=>J6 (h.kept hn (fun _ _ h=>h) (fun _ h=>h)) G.feats G.grps G.mems);have bl:=q8 (fun(d:World)(hn:Near w d)=>QB (h.kept hn (fun _ _ h=>h) (fun _ h=>h)) (by have:=G.feats;omega));have HR:=q8 (q6z m);have ab:Hid (rRestE m=firstE [eachE 8 (attE m) m.atts,eachE 64 (fun _=>reqE m.names) m.reqs,eachE 16 (fun _ l=>if Qq m.atts.length l=true then 0 else 2) m.lims]):=rfl;obtain⟨a1,a2,b1,b2,c1,O,d1,d2,B,Y,rfl,hF,hG,hA,hE,hL,-⟩:=RdMod.form h;have⟨i9,bp,bk,bg,bo⟩:=zG XD;have M:=q8 (q7s (m:=m));generalize chk m=r at HR⊢;generalize rFeatE m=fe at af HR M;generalize rGrpsE m=ge at aj HR;generalize rRestE m=re at ab HR;have hW: ∀W,W=w.alloc (vk #[vd a1 m.feats.length a2,vd b1 m.grps.length b2,vd c1 m.atts.length O,vd d1 m.reqs.length d2,vd B m.lims.length Y] 28)→Near w W∧W.heap[w.heap.size]? =some (vk #[vd a1 m.feats.length a2,vd b1 m.grps.length b2,vd c1 m.atts.length O,vd d1 m.reqs.length d2,vd B m.lims.length Y] 28 (0,0)):=by
  rintro W rfl;exact⟨(Near.refl w).alloc _,heap_new_at rfl⟩
 have a3:=q8 hA;have ay:=q8 hE;have bd:=q8 hL;have HS:=q8 hS;have bi:=q8 a8;have bu:=q8 G;clear h hS G a8 hF hG hA hE hL;go_enter Tryz.func9,Tryz.ntmps9;go_upto_region 1 with fail
 have h0:=hW _ rfl;generalize w.alloc (vk #[vd a1 m.feats.length a2,vd b1 m.grps.length b2,vd c1 m.atts.length O,vd d1 m.reqs.length d2,vd B m.lims.length Y] 28)=W at h0⊢;have⟨hN,hA⟩:=h0;have q0:W.cell? w.heap.size=some (vd a1 m.feats.length a2):=cell1 hA rfl;have q1:W.cell? (vw w.heap.size 1)=some (vd b1 m.grps.length b2):=cell1 hA rfl;have Z:W.cell? (vw w.heap.size 2)=some (vd c1 m.atts.length O):=cell1 hA rfl;have q3:W.cell? (vw w.heap.size 3)=some (vd d1 m.reqs.length d2):=cell1 hA rfl;have q4:W.cell? (vw w.heap.size 4)=some (vd B m.lims.length Y):=cell1 hA rfl;have q:=q8 hN;have HA:=q8 hA;clear hW hN hA;by_cases ag:fe=0
 case neg=>
  have HE:=q8 (show r=fe by rw [HR.out,if_neg ag]);have B:((fe:Int) !=0)=true:=by rw [bne_iff_ne];omega
  clear ag;go_wp2_with (go_at_call 36;refine(af _ q).mono ?_;rintro e w1 ⟨rfl,n1⟩;have N1:=q8 n1;clear n1)
  go_ret;exact⟨by obtain rfl:=HE.out;rfl,q.trans N1⟩
 have br:m.feats.length≤24:=M ag;clear M;subst ag;go_upto_region 4 with(go_at_call 36;refine(af _ q).mono ?_;rintro e w1 ⟨rfl,n1⟩;have N1:=q8 n1;clear n1)
 have c:=qE N1 HA;clear q0 q1 Z q3 q4 af;have q0:w1.cell? w.heap.size=some (vd a1 m.feats.length a2):=cell1 c rfl;have q1:w1.cell? (vw w.heap.size 1)=some (vd b1 m.grps.length b2):=cell1 c rfl;have Z:w1.cell? (vw w.heap.size 2)=some (vd c1 m.atts.length O):=cell1 c rfl;have q3:w1.cell? (vw w.heap.size 3)=some (vd d1 m.reqs.length d2):=cell1 c rfl;have q4:w1.cell? (vw w.heap.size 4)=some (vd B m.lims.length Y):=cell1 c rfl;clear c;by_cases ar:ge=0
 case neg=>
  have HE:=q8 (show r=ge by rw [HR.out];simp [ar]);have B:((ge:Int) !=0)=true:=by rw [bne_iff_ne];omega
  clear ar;go_wp2_with (go_at_call 37;refine(aj _ (q.trans N1)).mono ?_;rintro e w2 ⟨rfl,n2⟩;have N2:=q8 n2;clear n2)
  go_ret;exact⟨by obtain rfl:=HE.out;rfl,q.trans (N1.trans N2)⟩
 subst ar;go_upto_region 7 with(go_at_call 37;refine(aj _ (q.trans N1)).mono ?_;rintro e w2 ⟨rfl,n2⟩;have N2:=q8 n2;clear n2)
 have t:=q8 (N1.trans N2);have HE:=q8 (show r=re by rw [HR.out];simp);clear q0 q1 Z q3 q4 aj HR N1 N2;have Z:w2.cell? (vw w.heap.size 2)=some (vd c1 m.atts.length O):=cell1 (qE t HA) rfl;by_cases h8:8<m.atts.length
 ·have E:=q8 (show r=5 by rw [HE.out,ab.out];unfold firstE eachE;rw [if_pos h8];rfl)
  have a7:(8:Int)<m.atts.length:=by omega
  clear h8;go_wp2
  go_ret;exact⟨by obtain rfl:=E.out;rfl,q.trans t⟩
 have a7: ¬(8:Int)<m.atts.length:=by omega
 have bs:m.atts.length≤8:=by omega
 have E:=q8 (show r=firstE [eachFrom (attE m) 0 m.atts,eachE 64 (fun _=>reqE m.names) m.reqs,eachE 16 (fun _ l=>if Qq m.atts.length l=true then 0 else 2) m.lims] by rw [HE.out,ab.out,show eachE 8 (attE m) m.atts=eachFrom (attE m) 0 m.atts by unfold eachE;rw [if_neg h8]]);clear h8 ab HE;go_wp2
 clear Z a7;go_loopw [4,5] (fun v U wr=> ∃i:Nat,i≤m.atts.length∧U=ve vp i∧(∀j y,j<i→m.atts[j]? =some y→attE m j y=0)∧wr.ownsRow w2.heap.size 9 1 v ((m.atts.map Att.name).take i).length (((m.atts.map Att.name).take i).map vf)∧Near w2 wr) (fun _ U _=>m.atts.length - (intOf U).toNat)
 case atStart=>exact⟨0,qv _,rfl,fun j y hj=>by omega,qW _ _ _ _,Near.refl _⟩
 case round=>
  obtain⟨i,hi,rfl,s,Q,A⟩:=hrel;obtain⟨uo,uc,rfl⟩:=qR Q;have p:=q8 s;have HO:=q8 Q;have n:=q8 A;have c:=qE (t.trans A) HA;have a9:((m.atts.map Att.name).take i).length≤8:=by rw [zd,qG];omega
  clear s Q A;obtain⟨wo,bc⟩: ∃x,x=wr:=⟨_,rfl⟩;subst bc;by_cases u:i<m.atts.length
  ·
    have al:(i:Int)<m.atts.length:=by omega
    obtain⟨a,ha⟩: ∃a,m.atts[i]? =some a:=⟨_,qi u⟩;obtain⟨g,o,so,sc,rfl,k0,k1,az⟩:=Q7 (a3.kept (q.trans (t.trans n)) (fun _ _ h=>h) (fun _ h=>h) (fun _ _ h=>h.kept (q.trans (t.trans n)) (fun _ _ h=>h) (fun _ h=>h))) ha;have Z:wo.cell? (vw w.heap.size 2)=some (vd (some ⟨g,o,none⟩) m.atts.length O):=cell1 c rfl;have ak:=q8 ha;have bf:=q8 (show RdL S 1 RdI wo (vd so a.values.length sc) a.values by have⟨v',e,h⟩:=az;simp only [qJ,and_true,true_and]at e;rw [e];exact h);have X:=q8 (fun(d:World)(hn:Near wo d)=>QC (w:=d) (RdL.strings (owns_kept HO hn (fun _ _ h=>h))) (by omega) a.name);have a4:=q8 (q2y ha);have N:Hid (attE m i a=if freshE ((m.atts.map Att.name).take i) a.name=0 then(if(decide (a.values.length=m.feats.length)&&a.values.all costB)=true then 0 else 2)else freshE ((m.atts.map Att.name).take i) a.name):=rfl;generalize freshE ((m.atts.map Att.name).take i) a.name=fe at X N;generalize(m.atts.map Att.name).take i=us at HO a4 a9 X⊢;clear ha az;go_upto_region 14 with fail
    clear Z k0 k1;have⟨V,fb,L,H,nV,hX⟩:=zZ wo #[vf a.name,vd so a.values.length sc] 81;rw [L,H];have x0:V.cell? fb=some (vf a.name):=cell1 hX rfl;have x1:V.cell? (vw fb 1)=some (vd so a.values.length sc):=cell1 hX rfl;have q0:V.cell? w.heap.size=some (vd a1 m.feats.length a2):=cell1 (qE nV c) rfl;have K:=q8 nV;have bx:wo.heap.size≤fb:=Nat.le_of_eq H;have HX:=q8 hX;clear L H c hX nV;by_cases I:fe=0
    ·rw [I]at X N
     have P:=q8 (show attE m i a=if(decide (a.values.length=m.feats.length)&&a.values.all costB)=true then 0 else 2 by rw [N.out];simp only [if_true]);go_upto_region 18 with(first
      |(go_at_call 38;refine(X _ K).mono ?_;rintro e d ⟨rfl,hw⟩;obtain rfl:V=d:=hw.symm;clear hw)
      |(at_builtin;go_must (refine wpList_append_more rfl (.tmp 43) (.tmp 46) 68 rfl w2.heap.size 9 i9 (vf yi) 1 16 yS bp bk bg bo rfl (by decide) (vd uo us.length uc) us.length (us.map vf) rfl ((owns_kept HO K (fun _ _ h=>h)).alloc _) _ 1 [vf a.name] rfl ⟨rfl,vv ⟨_,1,rfl,cell_one_at (by simp) _ _⟩⟩ (by simp [qX]) (by unfold maxLen;omega) (by omega) (by have:=n.size;have:=K.size;simp;omega) ?_);intro b3 c3 w3 R aq;have bq:=q8 R;have D:=q8 (Kept.grown ((n.trans K).alloc _) aq (fun k e u=>by have:=(zY HO e).1;omega):Near w2 w3);have be:=q8 aq;clear R aq))
     have an:=HO.lt;have kp:Kept (fun g=>(qw uo us.length uc).ownBlock=some g) V w3:=Kept.grown ((Near.refl V).alloc _).kept be (fun k hk _=>hk);have b5:w3.cell? (vw fb 1)=some (vd so a.values.length sc):=kp.cell x1 (fun e=>by have:=an _ e;omega);have bt:w3.cell? w.heap.size=some (vd a1 m.feats.length a2):=cell1 (qE (t.trans D) HA) rfl;have a5:Hid (RdL (fun g=>S g) 1 RdI w3 (vd so a.values.length sc) a.values):=RdL.kept bf (Kept.trans K.kept kp) (fun g hg e=>by have h1:=(zY HO e).1;have h2:=HS g hg;have h3:=q.size;have h4:=t.size;omega) (fun _ h=>h) (fun _ _ h=>h);clear x0 x1 q0 kp an;by_cases hl:a.values.length=m.feats.length
     ·have B:((a.values.length:Int) !=m.feats.length)=false:=by rw [hl];simp
      have ah:=q8 (q2f (l:=a.values) (by omega)▸U3 (w:=w3) (q6i a5) (by omega))
      cases hc:a.values.all costB with
      |true=>
       have J:=q8 (show attE m i a=0 by rw [P.out,hc,decide_eq_true hl];rfl);rw [hc]at ah;clear hc hl;go_wp2_with (go_at_call 39;refine ah.mono ?_;rintro e w4 ⟨rfl,n4⟩;have N4:=q8 n4;clear n4)
       exact⟨⟨i+1,u,by go_num,xT p ak J,by rw [a4.out,ze,qn];exact owns_kept bq N4 (fun _ _ h=>h),D.trans N4⟩,by simp [intOf];omega⟩
      |false=>
       have J:=q8 (show attE m i a=2 by rw [P.out,hc];simp);have f:=q8 (show r=2 by rw [E.out];unfold firstE;rw [j0 p ak (by rw [J.out];decide),J.out,if_neg (by decide)]);rw [hc]at ah;clear hc hl;go_wp2_with (go_at_call 39;refine ah.mono ?_;rintro e w4 ⟨rfl,n4⟩;have N4:=q8 n4;clear n4)
       go_ret;exact⟨by obtain rfl:=f.out;rfl,q.trans (t.trans (D.trans N4))⟩
     ·have B:((a.values.length:Int) !=m.feats.length)=true:=by rw [bne_iff_ne];omega
      have J:=q8 (show attE m i a=2 by rw [P.out,decide_eq_false hl];rfl);have f:=q8 (show r=2 by rw [E.out];unfold firstE;rw [j0 p ak (by rw [J.out];decide),J.out,if_neg (by decide)]);clear hl;go_wp2
      go_ret;exact⟨by obtain rfl:=f.out;rfl,q.trans (t.trans D)⟩
    ·have f:=q8 (show r=fe by rw [E.out];unfold firstE;rw [j0 p ak (by rw [N.out,if_neg I];exact I),N.out,if_neg I,if_neg I])
     have B:((fe:Int) !=0)=true:=by rw [bne_iff_ne];omega
     clear I;go_wp2_with (go_at_call 38;refine(X _ K).mono ?_;rintro e d ⟨rfl,hw⟩;obtain rfl:V=d:=hw.symm;clear hw)
     go_ret;exact⟨by obtain rfl:=f.out;rfl,q.trans (t.trans (n.trans K))⟩
  ·obtain rfl:i=m.atts.length:=by omega
   have ax:=q8 (show r=firstE [eachE 64 (fun _=>reqE m.names) m.reqs,eachE 16 (fun _ l=>if Qq m.atts.length l=true then 0 else 2) m.lims] by rw [E.out,firstE,if_pos (jh fun j y hy=>p j y (qm.1 hy).1 hy)]);have D:=q8 (t.trans n);clear u hi E p HO a9 t n a3;have q3:wo.cell? (vw w.heap.size 3)=some (vd d1 m.reqs.length d2):=cell1 c rfl;have Z:wo.cell? (vw w.heap.size 2)=some (vd c1 m.atts.length O):=cell1 c rfl;clear c;by_cases ad:64<m.reqs.length
   ·have f:=q8 (show r=5 by rw [ax.out];unfold firstE eachE;rw [if_pos ad];rfl)
    have ao:(64:Int)<m.reqs.length:=by omega
    clear ad;go_wp2
    go_ret;exact⟨by obtain rfl:=f.out;rfl,q.trans D⟩
   have ao: ¬(64:Int)<m.reqs.length:=by omega
   have b4:m.reqs.length≤64:=by omega
   have au:=q8 (show r=firstE [eachFrom (fun _=>reqE m.names) 0 m.reqs,eachE 16 (fun _ l=>if Qq m.atts.length l=true then 0 else 2) m.lims] by rw [ax.out,show eachE 64 (fun _=>reqE m.names) m.reqs=eachFrom (fun _=>reqE m.names) 0 m.reqs by unfold eachE;rw [if_neg ad]]);clear ad ax;go_wp2
   clear q3 Z ao;go_loopw [7] (fun U wr=> ∃i:Nat,i≤m.reqs.length∧U=ve vp i∧(∀j y,j<i→m.reqs[j]? =some y→(fun(_:Nat)=>reqE m.names) j y=0)∧Near wo wr) (fun U _=>m.reqs.length - (intOf U).toNat)
   case atStart=>exact⟨0,qv _,rfl,fun j y hj=>by omega,Near.refl _⟩
   case round=>
    obtain⟨i,hi,rfl,s,A⟩:=hrel;have p:=q8 s;have n:=q8 (D.trans A);have aa:=q8 A;have c:=qE n HA;clear s A;obtain⟨wp,ba⟩: ∃x,x=wr:=⟨_,rfl⟩;subst ba;by_cases u:i<m.reqs.length
    ·have al:(i:Int)<m.reqs.length:=by omega
     obtain⟨x,hx⟩: ∃x,m.reqs[i]? =some x:=⟨_,qi u⟩;obtain⟨g,o,so,sc,rfl,k0,k1,k2,a0⟩:=gZ (ay.kept (q.trans n) (fun _ _ h=>h) (fun _ h=>h) (fun _ _ h=>h.kept (q.trans n) (fun _ _ h=>h) (fun _ h=>h))) hx;have HX:=q8 hx;have bj:=q8 a0;have bh:=q8 (bi x (qp hx));have bb:=q8 (show m.names.length<4611686018427387904 by have:m.names.length=m.feats.length:=(by simp [Mod.names]);omega);obtain⟨z,hz⟩: ∃z,z=reqE m.names x:=⟨_,rfl⟩;have J:=q8 hz;have bm:=q8 (fun(d:World)(nv:Value)(b:Nat)(hn:Near wp d)(ho:d.ownsRow b 9 1 nv m.names.length (m.names.map vf))=>hz▸Yb (w:=d) (x:=x) (vs:=[ve vq x.op,vf x.name,vd so x.kids.length sc]) (bj.kept hn (fun _ _ h=>h) (fun _ h=>h)) (fun g hg=>qu (HS g hg) (qH (q.trans n).size hn.size)) bh (RdL.strings ho) bb);have ap: ∀d,Near wp d→d.cell? w.heap.size=some (vd a1 m.feats.length a2)∧d.cell? (vw w.heap.size 1)=some (vd b1 m.grps.length b2)∧d.cell? (vw w.heap.size 2)=some (vd c1 m.atts.length O)∧d.cell? (vw w.heap.size 3)=some (vd (some ⟨g,o,none⟩) m.reqs.length d2)∧d.cell? (vw w.heap.size 4)=some (vd B m.lims.length Y)∧d.cell? (vw g (o+i*3))=some (ve vq x.op)∧d.cell? (vw g (o+i*3+1))=some (vf x.name)∧d.cell? (vw g (o+i*3+2))=some (vd so x.kids.length sc):=fun d h=>⟨cell1 (qE h c) rfl,cell1 (qE h c) rfl,cell1 (qE h c) rfl,cell1 (qE h c) rfl,cell1 (qE h c) rfl,h.cell k0,h.cell k1,h.cell k2⟩;have q3:=(ap wp (Near.refl _)).2.2.2.1;clear hx a0 hz;go_upto_region 25 with fail
     clear q3;go_region_held3 (fun d=>d.cell? w.heap.size=some (vd a1 m.feats.length a2)∧d.cell? (vw w.heap.size 1)=some (vd b1 m.grps.length b2)∧d.cell? (vw w.heap.size 2)=some (vd c1 m.atts.length O)∧d.cell? (vw w.heap.size 3)=some (vd (some ⟨g,o,none⟩) m.reqs.length d2)∧d.cell? (vw w.heap.size 4)=some (vd B m.lims.length Y)∧d.cell? (vw g (o+i*3))=some (ve vq x.op)∧d.cell? (vw g (o+i*3+1))=some (vf x.name)∧d.cell? (vw g (o+i*3+2))=some (vd so x.kids.length sc))
      ((refine ap _ ?_;first|exact z2|exact z1|exact(Near.refl _).drew))
      (first
        |(go_at_call 27;refine(bl _ (q.trans (n.trans (Near.refl wp).drew))).mono ?_;rintro e w3 ⟨nv,rfl,o3,n3⟩;obtain⟨no,nc,rfl⟩:=qR o3;have O3:=q8 o3;have z1:Near wp w3:=(Near.refl wp).drew.trans n3;clear o3 n3)
        |(go_at_call 40;refine(bm _ _ _ z1 O3).mono ?_;rintro e w4 ⟨rfl,n4⟩;have z2:Near wp w4:=z1.trans n4;have N2:=q8 z2;clear n4))
     clear c ap k0 k1 k2;by_cases ae:z=0
     ·subst ae
      go_wp2
      exact⟨⟨i+1,u,by go_num,xT p HX J.symm,aa.trans N2⟩,by simp [intOf];omega⟩
     ·have f:=q8 (show r=z by rw [au.out,firstE,j0 p HX (by show reqE m.names x≠0;rw [←J.out];exact ae)];show(if reqE m.names x=0 then _ else reqE m.names x)=z;rw [←J.out,if_neg ae])
      have B:((z:Int) !=0)=true:=by rw [bne_iff_ne];omega
      clear ae;go_wp2
      go_ret;exact⟨by obtain rfl:=f.out;rfl,q.trans (n.trans N2)⟩
    ·obtain rfl:i=m.reqs.length:=by omega
     have aw:=q8 (show r=eachE 16 (fun _ l=>if Qq m.atts.length l=true then 0 else 2) m.lims by
      rw [au.out,firstE,if_pos (jh fun j y hy=>p j y (qm.1 hy).1 hy),firstE,firstE];split
      ·rename_i h;exact h.symm
      ·rfl)
     clear u hi au p aa ay;have q4:wp.cell? (vw w.heap.size 4)=some (vd B m.lims.length Y):=cell1 c rfl;have q3:wp.cell? (vw w.heap.size 3)=some (vd d1 m.reqs.length d2):=cell1 c rfl;clear c;by_cases ai:16<m.lims.length
     ·have f:=q8 (show r=5 by rw [aw.out];unfold eachE;rw [if_pos ai])
      have am:(16:Int)<m.lims.length:=by omega
      clear ai;go_wp2
      go_ret;exact⟨by obtain rfl:=f.out;rfl,q.trans n⟩
     have am: ¬(16:Int)<m.lims.length:=by omega
     have bw:m.lims.length≤16:=by omega
     have a6:=q8 (show r=eachFrom (fun _ l=>if Qq m.atts.length l=true then 0 else 2) 0 m.lims by rw [aw.out];unfold eachE;rw [if_neg ai]);clear ai aw;go_wp2
     clear q4 q3 am;go_loopw [8] (fun U wr=> ∃i:Nat,i≤m.lims.length∧U=ve vp i∧(∀j y,j<i→m.lims[j]? =some y→(fun(_:Nat) l=>if Qq m.atts.length l=true then 0 else 2) j y=0)∧Near wp wr) (fun U _=>m.lims.length - (intOf U).toNat)
     case atStart=>exact⟨0,qv _,rfl,fun j y hj=>by omega,Near.refl _⟩
     case round=>
      obtain⟨i,hi,rfl,s,A⟩:=hrel;have p:=q8 s;have aa:=q8 A;have C:=q8 (n.trans A);have c:=qE C HA;clear s A;by_cases u:i<m.lims.length
      ·have al:(i:Int)<m.lims.length:=by omega
       obtain⟨x,hx⟩: ∃x,m.lims[i]? =some x:=⟨_,qi u⟩;obtain⟨g,o,rfl,k0,k1,k2⟩:=ZA (bd.kept (q.trans C) (fun _ _ h=>h) (fun _ h=>h) (fun _ _ h=>h)) hx;have HX:=q8 hx;have q4:wr.cell? (vw w.heap.size 4)=some (vd (some ⟨g,o,none⟩) m.lims.length Y):=cell1 c rfl;clear hx;go_upto_region 34 with fail
       clear q4 k0 k1 k2;have⟨V,fb,L,H,nV,hX⟩:=zZ wr #[ve vp x.att,ve vq x.rel,ve vp x.bound] 89;rw [L,H];have x0:V.cell? fb=some (ve vp x.att):=cell1 hX rfl;have x1:V.cell? (vw fb 1)=some (ve vq x.rel):=cell1 hX rfl;have Z:V.cell? (vw w.heap.size 2)=some (vd c1 m.atts.length O):=cell1 (qE nV c) rfl;have K:=q8 nV;clear L H nV hX c;have av:(Qq m.atts.length x=true∧0≤x.att∧x.att<m.atts.length∧1≤x.rel∧x.rel≤3)∨(Qq m.atts.length x=false∧(x.att<0∨(¬x.att<0∧(m.atts.length:Int)≤x.att)∨(¬x.att<0∧ ¬(m.atts.length:Int)≤x.att∧x.rel<1)∨(¬x.att<0∧ ¬(m.atts.length:Int)≤x.att∧ ¬x.rel<1∧3<x.rel))):=by
        unfold Qq
        cases h:(decide (0≤x.att)&&decide (x.att<m.atts.length)&&decide (1≤x.rel)&&decide (x.rel≤3))with
        |true=>
         simp only [qy,decide_eq_true_eq]at h;exact vu ⟨rfl,h.1.1.1,h.1.1.2,h.1.2,h.2⟩
        |false=>
         simp only [Bool.and_eq_false_iff,decide_eq_false_iff_not]at h;exact vv ⟨rfl,by omega⟩
       rcases av with⟨G,h1,h2,h3,h4⟩|⟨G,h⟩
       ·have J:=q8 (show(fun(_:Nat) l=>if Qq m.atts.length l=true then 0 else 2) i x=0 by show(if Qq m.atts.length x=true then 0 else 2)=0;rw [G];rfl)
        have B: ¬x.att<0:=by omega
        have b0: ¬(m.atts.length:Int)≤x.att:=by omega
        have e3: ¬(x.rel:Int)<1:=by omega
        have e4: ¬(3:Int)<x.rel:=by omega
        clear G h1 h2 h3 h4;go_wp2
        exact⟨⟨i+1,u,by go_num,xT p HX J,aa.trans K⟩,by simp [intOf];omega⟩
       ·have f:=q8 (show r=2 by
         rw [a6.out,j0 p HX (by rw [G];decide),G];rfl)
        clear G;rcases h with h1|⟨h1,h2⟩|⟨h1,h2,h3⟩|⟨h1,h2,h3,h4⟩
        ·go_wp2
         go_ret;exact⟨by obtain rfl:=f.out;rfl,q.trans (C.trans K)⟩
        ·go_wp2
         go_ret;exact⟨by obtain rfl:=f.out;rfl,q.trans (C.trans K)⟩
        ·have bn:(x.rel:Int)<1:=by omega
         clear h3;go_wp2
         go_ret;exact⟨by obtain rfl:=f.out;rfl,q.trans (C.trans K)⟩
        ·have bn: ¬(x.rel:Int)<1:=by omega
         have bv:(3:Int)<x.rel:=by omega
         clear h3 h4;go_wp2
         go_ret;exact⟨by obtain rfl:=f.out;rfl,q.trans (C.trans K)⟩
      ·obtain rfl:i=m.lims.length:=by omega
       have f:=q8 (show r=0 by rw [a6.out];exact jh fun j y hy=>p j y (qm.1 hy).1 hy);have q4:wr.cell? (vw w.heap.size 4)=some (vd B m.lims.length Y):=cell1 c rfl;go_wp2
       go_ret;exact⟨by obtain rfl:=f.out;rfl,q.trans C⟩
end Go.Proofs.YtjcbmcnbdegpmaaGreatDoor
