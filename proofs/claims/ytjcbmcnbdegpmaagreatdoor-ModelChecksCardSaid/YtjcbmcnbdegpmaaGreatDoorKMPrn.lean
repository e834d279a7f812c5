/- MPrn. -/
import Derived.Sort.CutIn
import Derived.Test.YtjcbmcnbdegpmaaGreatDoorKMPrW
set_option maxRecDepth 100000
set_option maxHeartbeats 12800000
set_option linter.unusedVariables false
set_option linter.unusedSimpArgs false
open Go.Instr renaming lookup->yu,mapUpdate->zA
open Go.Lib renaming hid->q8
open Go.Proofs.Tryz renaming prog->qj
open Go.Sem renaming run->yx
open Go.Value renaming int->qs,string->yb
open Int renaming toNat_natCast->jF
open List renaming append_assoc->qS,getElem?_eq_getElem->qi,length_append->qn,mem_of_getElem?->qp,take_length->qF,take_of_length_le->zE
open Nat renaming zero_le->qv
open Go.Value renaming slice->vd,int->ve,string->vf,pointer->vg,agg->vi,bool->vj
open Go.Obj renaming cells->vk
open Go.Ending renaming returned->vm
open Go.IntKind renaming i64->vp,u8->vq,u32->vr,u64->vt
open Or renaming inl->vu,inr->vv
namespace Go.Proofs.YtjcbmcnbdegpmaaGreatDoor
open Go Go.RowKit Go.Proofs.Gen Go.Proofs.Mod
theorem print_calls{S:Nat→Prop}{w:World}{v:Value}{m:Mod}(h:RdMod S w v m)(hS: ∀g,S g→g<w.heap.size)(hb:Zd m)(h0:chk m=0)(hv:ji w)(hnm: ∀a∈m.atts,a.name.size≤32)
 (hlb: ∀l∈m.lims,-9223372036854775808≤l.bound∧l.bound≤9223372036854775807) (hlen:(printM m).length≤1099511627776):
 Calls qj 11 #[v] w fun e w'=>e=vm (.tuple #[vf (toB (printM m)),ve vp 0])∧Near w w':=by
 have ok:=jm h0
 have HCk:=q8 (fun(w':World)(hn:Near w w')=>h0▸jH (h.kept hn (fun _ _ h=>h) (fun _ h=>h)) (fun g hg=>Nat.lt_of_lt_of_le (hS g hg) hn.size) hb)
 have HNm:=q8 (fun(w':World)(hn:Near w w')=>kI (h.kept hn (fun _ _ h=>h) (fun _ h=>h)) (by have:=ok.n24;omega))
 have HRd:=q8 h
 obtain⟨a1,a2,b1,b2,c1,c2,d1,d2,e1,e2,rfl,-⟩:=RdMod.form h
 have HOk:=q8 ok
 have HSub:=q8 hS
 have HV:=q8 hv
 have HAn:=q8 hnm
 have HLb:=q8 hlb
 have HMl:=q8 hb.mems
 have HLen:=q8 hlen
 have hn24:=ok.n24
 have hg24:=ok.g24
 have ha8:=ok.a8
 have hr64:=ok.r64
 have hl16:=ok.l16
 have hW: ∀W,W=w.alloc (vk #[vd a1 m.feats.length a2,vd b1 m.grps.length b2,vd c1 m.atts.length c2,vd d1 m.reqs.length d2,vd e1 m.lims.length e2] 28)→Near w W∧W.heap[w.heap.size]? =some (vk #[vd a1 m.feats.length a2,vd b1 m.grps.length b2,vd c1 m.atts.length c2,vd d1 m.reqs.length d2,vd e1 m.lims.length e2] 28 (0,0))∧W.heap.size=w.heap.size+1:=by
  rintro W rfl
  exact⟨(Near.refl w).alloc _,heap_new_at rfl,by simp⟩
 clear h hS hb h0 ok hv hnm hlb hlen
 go_enter Tryz.func11,Tryz.ntmps11
 go_upto_region 1 with fail
 have h1:=hW _ rfl
 generalize w.alloc (vk #[vd a1 m.feats.length a2,vd b1 m.grps.length b2,vd c1 m.atts.length c2,vd d1 m.reqs.length d2,vd e1 m.lims.length e2] 28)=W at h1⊢
 obtain⟨hN,hM,hs⟩:=h1
 have q0:W.cell? ⟨w.heap.size,0,none⟩=some (vd a1 m.feats.length a2):=cell1 hM rfl
 have q1:W.cell? ⟨w.heap.size,1,none⟩=some (vd b1 m.grps.length b2):=cell1 hM rfl
 have q2:W.cell? ⟨w.heap.size,2,none⟩=some (vd c1 m.atts.length c2):=cell1 hM rfl
 have q3:W.cell? ⟨w.heap.size,3,none⟩=some (vd d1 m.reqs.length d2):=cell1 hM rfl
 have q4:W.cell? ⟨w.heap.size,4,none⟩=some (vd e1 m.lims.length e2):=cell1 hM rfl
 have HN:=q8 hN
 have HM:=q8 hM
 have HWs:=q8 hs
 clear hW hN hM hs
 go_upto_region 6 with(go_at_call 29;refine(HCk.out _ HN.out).mono ?_;rintro e w1 ⟨rfl,n1⟩;have N1:=q8 n1;clear n1)
 clear q0 q1 q2 q3 q4 HCk
 have hX: ∀X,X=w1.alloc (vk #[vg none,vd none 0 0] 95)→Near w1 X∧X.heap[w1.heap.size]? =some (vk #[vg none,vd none 0 0] 95 (0,0))∧X.heap.size=w1.heap.size+1:=by
  rintro X rfl
  exact⟨(Near.refl w1).alloc _,heap_new_at rfl,by simp⟩
 have h1:=hX _ rfl
 generalize w1.alloc (vk #[vg none,vd none 0 0] 95)=X at h1⊢
 obtain⟨nX,bX,sX⟩:=h1
 clear hX
 obtain⟨W1,W2,W3,r1,r2,r3,n3,hm3⟩:=q7i X (k1:=2) (k2:=3) (k3:=4) (by decide) (by decide) (by decide) gB Uq Ur
 have hmm:= @run_makeMap qj
 replace r1:yx qj (zA 102 (.map (some X.heap.size)) (ve vq 2) (vf ⟨#[109,97,110,100,97,116,111,114,121]⟩)) (X.alloc (.map #[] 0))= .ok () W1:=r1
 replace r2:yx qj (zA 102 (.map (some X.heap.size)) (ve vq 3) (vf ⟨#[111,112,116,105,111,110,97,108]⟩)) W1= .ok () W2:=r2
 replace r3:yx qj (zA 102 (.map (some X.heap.size)) (ve vq 4) (vf ⟨#[109,101,109,98,101,114]⟩)) W2= .ok () W3:=r3
 have HM3:=q8 (qE (N1.out.trans (nX.trans n3)) HM.out)
 have HB3:=q8 (qE n3 bX)
 have HN3:=q8 ((HN.out.trans N1.out).trans (nX.trans n3))
 have HK3:=q8 hm3
 have hbw:w.heap.size<w1.heap.size:=by have:=HWs.out;have:=N1.out.size;omega
 have hXs:=n3.size
 have q0:W3.cell? ⟨w.heap.size,0,none⟩=some (vd a1 m.feats.length a2):=cell1 HM3.out rfl
 have q1:W3.cell? ⟨w.heap.size,1,none⟩=some (vd b1 m.grps.length b2):=cell1 HM3.out rfl
 have q2:W3.cell? ⟨w.heap.size,2,none⟩=some (vd c1 m.atts.length c2):=cell1 HM3.out rfl
 have q3:W3.cell? ⟨w.heap.size,3,none⟩=some (vd d1 m.reqs.length d2):=cell1 HM3.out rfl
 have q4:W3.cell? ⟨w.heap.size,4,none⟩=some (vd e1 m.lims.length e2):=cell1 HM3.out rfl
 have SX:=q8 sX
 clear nX bX n3 hm3 sX
 go_upto_region 8 with(go_at_call 26;refine(HNm.out _ HN3.out).mono ?_;rintro e w4 ⟨nv,rfl,o4,n4⟩)
 clear r1 r2 r3 hmm q0 q1 q2 q3 q4 HNm
 have hP:q2N S w1.heap.size w.heap.size X.heap.size nv #[vd a1 m.feats.length a2,vd b1 m.grps.length b2,vd c1 m.atts.length c2,vd d1 m.reqs.length d2,vd e1 m.lims.length e2] m w4:=
  ⟨qE n4 HM3.out,hbw,by have:=HV.out.seven;omega,fun g hg=>by have:=HSub.out g hg;omega,HRd.out.kept (HN3.out.trans n4) (fun _ _ h=>h) (fun _ h=>h),HK3.out.kept n4 (fun h=>h),by have:=SX.out;omega,yZ o4 (by have:=SX.out;omega),HV.out.near (HN3.out.trans n4)⟩
 have hB:Bld w1.heap.size w1.heap.size w4 []:=Bld.fresh (Nat.le_refl _) (by have:=SX.out;have:=n4.size;omega) (qE n4 HB3.out)
 obtain⟨b,hbe⟩: ∃b,w1.heap.size=b:=⟨_,rfl⟩
 obtain⟨mp,hmp⟩: ∃b,X.heap.size=b:=⟨_,rfl⟩
 obtain⟨ng,ncap,rfl⟩: ∃ng ncap,nv=vd (some ⟨ng,0,none⟩) m.feats.length ncap:=by
  have hl:m.names.length=m.feats.length:=by simp [Mod.names]
  rw [hl]at o4
  rcases o4.2 with⟨-,e⟩|⟨g,cap,cur,e,-⟩
  ·have:=HOk.out.n0;omega
  ·exact⟨g,cap,e⟩
 rw [hbe,hmp]at hP
 rw [hbe]at hB hbw⊢
 rw [hmp]
 have HP:=q8 hP
 have HB:=q8 hB
 have HN4:=q8 (HN3.out.trans n4)
 clear hP hB hbe hmp HRd HSub HV HM HM3 HB3 HK3 HN3 SX hXs o4 n4 HN HWs N1
 obtain⟨T1,hT1⟩: ∃T,T=m.feats.zipIdx.flatMap fun p=>ZK m p.2 p.1:=⟨_,rfl⟩
 obtain⟨T2,hT2⟩: ∃T,T=m.grps.flatMap (groupT m):=⟨_,rfl⟩
 obtain⟨T3,hT3⟩: ∃T,T=m.atts.flatMap (attT m):=⟨_,rfl⟩
 obtain⟨T4,hT4⟩: ∃T,T=m.reqs.flatMap fun x=>lineT [reqT x]:=⟨_,rfl⟩
 obtain⟨T5,hT5⟩: ∃T,T=m.lims.flatMap fun l=>lineT [limT m l]:=⟨_,rfl⟩
 have HPr:=q8 (show printM m=T1++(T2++(T3++(T4++T5))) by rw [hT1,hT2,hT3,hT4,hT5];rfl)
 have hsum:T1.length+T2.length+T3.length+T4.length+T5.length≤1099511627776:=by
  have:=HLen.out
  rw [HPr.out]at this
  simp only [qn]at this
  omega
 have HT1:=q8 hT1
 have HT2:=q8 hT2
 have HT3:=q8 hT3
 have HT4:=q8 hT4
 have HT5:=q8 hT5
 clear hT1 hT2 hT3 hT4 hT5 HLen
 have q0:w4.cell? ⟨w.heap.size,0,none⟩=some (vd a1 m.feats.length a2):=cell1 HP.out.box rfl
 go_wp2_with fail
 clear q0
 go_loopw [37] (fun ix wr=> ∃i:Nat,i≤m.feats.length∧ix=ve vp i∧Bld b b wr ((m.feats.zipIdx.take i).flatMap fun p=>ZK m p.2 p.1)∧Wr b b w4 wr) (fun ix _=>m.feats.length - (intOf ix).toNat)
 case atStart=>exact⟨0,qv _,rfl,HB.out,Wr.refl _ _ _⟩
 case round=>
  obtain⟨i,hi,rfl,hB,hW⟩:=hrel
  have HBr:=q8 hB
  have HWr:=q8 hW
  have hle:((m.feats.zipIdx.take (i+1)).flatMap fun p=>ZK m p.2 p.1).length≤T1.length:=by rw [HT1.out];exact q8s _ _ _
  clear hB hW
  by_cases hlt:i<m.feats.length
  ·as_aux_lemma=>
    have hlt':(i:Int)<m.feats.length:=by omega
    obtain⟨f,hf⟩: ∃f,m.feats[i]? =some f:=⟨_,qi hlt⟩
    obtain⟨g,o,rfl,k0,k1,k2⟩:=(HP.out.wr HWr.out).feat hf
    have hst:=vN (fun p:xM×Nat=>ZK m p.2 p.1) (q4j hf)
    rw [hst]at hle
    have HSt:=q8 hst
    have HKi:=q8 (HOk.out.feat i f hf).2.2
    clear hst
    generalize(m.feats.zipIdx.take i).flatMap (fun p=>ZK m p.2 p.1)=tx at HBr HSt hle
    dsimp only at hle HSt
    rw [qn]at hle
    go_upto_region 11 with fail
    clear k0 k1 k2
    obtain⟨V,fb,hVe,hbe,nV,hX⟩:=Qm wr #[vf f.name,ve vp f.parent,ve vq f.kind] 76
    rw [hVe,hbe]
    have HX:=q8 hX
    have NV:=q8 nV
    have x0:V.cell? ⟨fb,0,none⟩=some (vf f.name):=cell1 hX rfl
    have x1:V.cell? ⟨fb,1,none⟩=some (ve vp f.parent):=cell1 hX rfl
    have x2:V.cell? ⟨fb,2,none⟩=some (ve vq f.kind):=cell1 hX rfl
    have HFb:=q8 (show fb≠b by have:=HBr.out.lt;omega)
    clear hVe hbe nV hX
    by_cases hi0:i=0
    ·have hft:ZK m i f=lineT [wRoot.data.toList,f.name.data.toList]:=by rw [hi0];rfl
     have hi0':(i:Int)=0:=by omega
     rw [hft]at hle HSt
     clear HKi hft x1 x2
     go_wp2_with (go_at_call 43;refine(line_new (HBr.out.near NV.out) [wRoot,f.name] (by simp) (by show _+(lineT [wRoot.data.toList,f.name.data.toList]).length≤_;omega)).mono ?_;rintro e w5 ⟨rfl,h5,k5⟩;have B5:=q8 h5;have K5:=q8 k5;clear h5 k5)
     exact⟨⟨i+1,hlt,by go_num,by rw [HSt.out];exact B5.out,HWr.out.trans (NV.out.wr.trans K5.out)⟩,by simp [intOf];omega⟩
    ·have hft:ZK m i f=lineT [QU f.kind,nameT m f.parent.toNat,f.name.data.toList]:=by simp [ZK,hi0]
     have hi0': ¬(i:Int)=0:=by omega
     rw [hft]at hle HSt
     have hpar:=HOk.out.par (by omega) hf
     obtain⟨pn,hpn⟩: ∃n:Nat,f.parent=n:=⟨f.parent.toNat,by omega⟩
     have hkn:2≤f.kind∧f.kind≤4:=by
      have:=HKi.out
      simp only [kindB,hi0,if_false,Bool.and_eq_true,decide_eq_true_eq]at this
      omega
     have PV:=(HP.out.wr HWr.out).near NV.out
     have hlk:=q1t PV.kinds (by decide) (by decide) (by decide) (s:=f.kind) (by omega)
     have hrt:(if f.kind=2 then gB else if f.kind=3 then Uq else if f.kind=4 then Ur else(⟨#[]⟩:ByteArray))=toB (QU f.kind):=by
      unfold QU
      repeat' split
      all_goals rfl
     rw [hrt]at hlk
     rw [hpn]at x1 hle HSt hpar
     rw [jF]at hle HSt
     have hpl:pn<m.feats.length:=by omega
     have hpl':(pn:Int)<m.feats.length:=by omega
     have HPV:=q8 PV
     have sOf: ∀w',Wr b b V w'→w'.cell? ⟨fb,0,none⟩=some (vf f.name)∧w'.cell? ⟨fb,1,none⟩=some (ve vp (pn:Nat))∧w'.cell? ⟨fb,2,none⟩=some (ve vq f.kind)∧w'.cell? ⟨ng,pn,none⟩=some (vf (toB (nameT m pn)))∧yx qj (yu 102 (.map (some mp)) (ve vq (f.kind:Nat)) false) w'= .ok (vf (toB (QU f.kind))) w':=fun w' hw=>by
      have hx:=hw.cells HX.out (by decide) HFb.out
      have h3:=q1t (HPV.out.wr hw).kinds (by decide) (by decide) (by decide) (s:=f.kind) (by omega)
      rw [hrt]at h3
      exact⟨cell1 hx rfl,by rw [←hpn];exact cell1 hx rfl,cell1 hx rfl,(HPV.out.wr hw).name hpl,h3⟩
     clear hft hpar PV hlk x0 x1 x2
     have HHi:=q8 hi0
     clear hi0
     go_wp2_with fail
     go_region_held3 (fun w'=>w'.cell? ⟨fb,0,none⟩=some (vf f.name)∧w'.cell? ⟨fb,1,none⟩=some (ve vp (pn:Nat))∧w'.cell? ⟨fb,2,none⟩=some (ve vq f.kind)∧w'.cell? ⟨ng,pn,none⟩=some (vf (toB (nameT m pn)))∧yx qj (yu 102 (.map (some mp)) (ve vq (f.kind:Nat)) false) w'= .ok (vf (toB (QU f.kind))) w')
      ((refine sOf _ ?_;first|exact K5.out|exact(Near.refl _).drew.wr|exact((Near.refl _).drew.alloc _).wr|exact((Near.refl _).alloc _).drew.wr))
      ((go_at_call 43;refine(line_new (HBr.out.near NV.out.drew) [toB (QU f.kind),toB (nameT m pn),f.name] (by simp) (by show _+(lineT [QU f.kind,nameT m pn,f.name.data.toList]).length≤_;omega)).mono ?_;rintro e w5 ⟨rfl,h5,k5⟩;have B5:=q8 h5;have K5:=q8 ((Near.refl V).drew.wr.trans k5);clear h5 k5))
     go_wp2_with fail
     exact⟨⟨i+1,hlt,by go_num,by rw [HSt.out];exact B5.out,HWr.out.trans (NV.out.wr.trans K5.out)⟩,by simp [intOf];omega⟩
  ·obtain rfl:i=m.feats.length:=by omega
   rw [zE (by simp),←HT1.out]at HBr
   clear hle hlt hi
   have q1:wr.cell? ⟨w.heap.size,1,none⟩=some (vd b1 m.grps.length b2):=cell1 (HP.out.wr HWr.out).box rfl
   obtain⟨w5,hw5⟩: ∃x,x=wr:=⟨_,rfl⟩
   subst hw5
   go_wp2_with fail
   clear q1 HB HT1
   have HB1:=q8 HBr.out
   have HW1:=q8 HWr.out
   clear HBr HWr
   go_loopw [67] (fun ix wr=> ∃i:Nat,i≤m.grps.length∧ix=ve vp i∧Bld b b wr (T1++(m.grps.take i).flatMap (groupT m))∧Wr b b w4 wr) (fun ix _=>m.grps.length - (intOf ix).toNat)
   case atStart=>exact⟨0,qv _,rfl,by simpa using HB1.out,HW1.out⟩
   case round=>
    obtain⟨i,hi,rfl,hB,hW⟩:=hrel
    have HBr:=q8 hB
    have HWr:=q8 hW
    have hle:((m.grps.take (i+1)).flatMap (groupT m)).length≤T2.length:=by rw [HT2.out];exact q8s _ _ _
    clear hB hW HB1 HW1
    obtain⟨wo,hwo⟩: ∃x,x=wr:=⟨_,rfl⟩
    subst hwo
    by_cases hlt:i<m.grps.length
    ·as_aux_lemma=>
      have hlt':(i:Int)<m.grps.length:=by omega
      obtain⟨x,hx⟩: ∃x,m.grps[i]? =some x:=⟨_,qi hlt⟩
      obtain⟨g,o,vo,vc,rfl,k0,k1,k2,k3,hr⟩:=(HP.out.wr HWr.out).grp hx
      have hst:=vN (groupT m) hx
      rw [hst]at hle
      have HSt:=q8 hst
      have hhd:=HOk.out.head hx
      have HMem:=q8 (fun k (hk:k∈x.members)=>HOk.out.mem hx hk)
      have hml:x.members.length<549755813888:=Nat.lt_of_le_of_lt (Xq Grp.members (qp hx)) HMl.out
      have HR:=q8 hr
      clear hst hr hx
      generalize(m.grps.take i).flatMap (groupT m)=tx at HBr HSt hle
      rw [qn]at hle
      obtain⟨pn,hpn⟩: ∃n:Nat,x.parent=n:=⟨x.parent.toNat,by omega⟩
      have hgt:groupT m x=lineT ([wGroup.data.toList,nameT m pn,yY x.low,yY x.high]++x.members.map fun k=>nameT m k.toNat):=by unfold groupT;rw [hpn,jF]
      rw [hgt]at hle HSt
      rw [hpn]at k0 hhd
      have hpl:pn<m.feats.length:=by omega
      have hpl':(pn:Int)<m.feats.length:=by omega
      go_upto_region 18 with fail
      clear k0 k1 k2 k3
      obtain⟨V,fb,hVe,hbe,nV,hX⟩:=Qm wo #[ve vp (pn:Nat),ve vp x.low,ve vp x.high,vd vo x.members.length vc] 78
      rw [hVe,hbe]
      have HX:=q8 hX
      have NV:=q8 nV
      have HPV:=q8 ((HP.out.wr HWr.out).near nV)
      clear hVe hbe nV hX
      have sOf: ∀w',Near V w'→w'.cell? ⟨fb,0,none⟩=some (ve vp (pn:Nat))∧w'.cell? ⟨fb,1,none⟩=some (ve vp x.low)∧w'.cell? ⟨fb,2,none⟩=some (ve vp x.high)∧w'.cell? ⟨ng,pn,none⟩=some (vf (toB (nameT m pn))):=fun w' hw=>⟨cell1 (qE hw HX.out) rfl,cell1 (qE hw HX.out) rfl,cell1 (qE hw HX.out) rfl,(HPV.out.near hw).name hpl⟩
      go_region_held3 (fun w'=>w'.cell? ⟨fb,0,none⟩=some (ve vp (pn:Nat))∧w'.cell? ⟨fb,1,none⟩=some (ve vp x.low)∧w'.cell? ⟨fb,2,none⟩=some (ve vp x.high)∧w'.cell? ⟨ng,pn,none⟩=some (vf (toB (nameT m pn))))
       ((refine sOf _ ?_;first|exact z2.alloc _|exact z2|exact z1|exact(Near.refl _).drew))
       (first
         |(go_at_call_of 46 (qs vp x.low);refine(YC ((HPV.out.near (Near.refl _).drew).vars) (by omega) (by omega)).mono ?_;rintro e w6 ⟨rfl,n6⟩;have z1:Near V w6:=(Near.refl V).drew.trans n6)
         |(go_at_call_of 46 (qs vp x.high);refine(YC ((HPV.out.near z1).vars) (by omega) (by omega)).mono ?_;rintro e w7 ⟨rfl,n7⟩;have z2:Near V w7:=z1.trans n7))
      obtain⟨W8,rb,hVe,hbe,n8,hX8⟩:=Qm w7 #[vf ⟨#[103,114,111,117,112]⟩,vf (toB (nameT m pn)),vf (toB (yY x.low)),vf (toB (yY x.high))] 9
      rw [hVe,hbe]
      have ho8:W8.ownsRow rb 9 1 (vd (some ⟨rb,0,none⟩) 4 4) 4 ([wGroup,toB (nameT m pn),toB (yY x.low),toB (yY x.high)].map yb):=by
       rw [←hVe,←hbe]
       exact UJ [wGroup,toB (nameT m pn),toB (yY x.low),toB (yY x.high)] (by unfold maxLen;simp)
      have HO8:=q8 ho8
      have N8:=q8 n8
      have Z2:=q8 z2
      have HRb:=q8 hbe
      have l3:W8.cell? ⟨fb,3,none⟩=some (vd vo x.members.length vc):=cell1 (qE (z2.trans n8) HX.out) rfl
      obtain⟨i9,hi9,hz0,hz1,hz2⟩:=info_parts XD
      clear sOf hVe hbe n8 hX8 ho8 z1 z2 n6 n7
      go_wp2_with fail
      clear l3
      go_loopw [13,86] (fun v ix w9=> ∃k:Nat,k≤x.members.length∧ix=ve vp k∧w9.ownsRow rb 9 1 v (4+k) (([wGroup,toB (nameT m pn),toB (yY x.low),toB (yY x.high)]++(x.members.take k).map fun z=>toB (nameT m z.toNat)).map yb)∧Near w7 w9) (fun _ ix _=>x.members.length - (intOf ix).toNat)
      case atStart=>exact⟨0,qv _,rfl,by simpa using HO8.out,N8.out⟩
      case round=>
       obtain⟨k,hk,rfl,hown,hnr⟩:=hrel
       obtain⟨ro,rc,rfl⟩:=qR hown
       have HO:=q8 hown
       have HNr:=q8 hnr
       have P9:=q8 (HPV.out.near (Z2.out.trans hnr))
       clear hown hnr
       by_cases hlk:k<x.members.length
       ·have hlk':(k:Int)<x.members.length:=by omega
        obtain⟨z,hz⟩: ∃z,x.members[k]? =some z:=⟨_,qi hlk⟩
        obtain⟨mg,mo,rfl,d0⟩:=q4H (HR.out.kept (NV.out.trans (Z2.out.trans HNr.out)) (fun _ _ h=>h) (fun _ h=>h) (fun _ _ h=>h)) hz
        have hzm:=HMem.out z (qp hz)
        obtain⟨zn,rfl⟩: ∃n:Nat,z=n:=⟨z.toNat,by omega⟩
        rw [jF]at hzm
        have hzl:=hzm.2
        have hzl':(zn:Int)<m.feats.length:=by omega
        have y0:=P9.out.name hzl
        have hsn:([wGroup,toB (nameT m pn),toB (yY x.low),toB (yY x.high)]++(x.members.take (k+1)).map fun z=>toB (nameT m z.toNat)).map yb=([wGroup,toB (nameT m pn),toB (yY x.low),toB (yY x.high)]++(x.members.take k).map fun z=>toB (nameT m z.toNat)).map yb++[vf (toB (nameT m zn))]:=by
         rw [List.take_add_one,hz]
         simp
        have HSn:=q8 hsn
        clear hsn hz hzm
        go_wp2_with (at_builtin;go_must (refine wpList_append_more rfl (.tmp 90) (.tmp 95) 68 rfl rb 9 i9 (vf ByteArray.empty) 1 16 Tryz.underlying68 hi9 hz0 hz1 hz2 rfl (by decide) (vd ro (4+k) rc) (4+k) _ rfl (HO.out.alloc _) _ 1 [vf (toB (nameT m zn))] rfl ⟨rfl,vv ⟨_,1,rfl,cell_one_at (by simp) _ _⟩⟩ (by simp [Value.oneCell']) (by unfold maxLen;omega) (by omega) (by have:=HNr.out.size;have:=HRb.out;simp;omega) ?_);intro b3 c3 w3 hown3 hg3;have HO3:=q8 hown3;have HN3:=q8 (Kept.grown (HNr.out.alloc _) hg3 (fun k e hlt=>by have:=(zY HO.out e).1;have:=HRb.out;omega):Near w7 w3);clear hown3 hg3)
        exact⟨⟨k+1,hlk,by go_num,by rw [HSn.out];exact HO3.out,HN3.out⟩,by simp [intOf];omega⟩
       ·obtain rfl:k=x.members.length:=by omega
        have ho:=HO.out
        rw [qF]at ho
        obtain⟨ws,hws⟩: ∃ws,ws=[wGroup,toB (nameT m pn),toB (yY x.low),toB (yY x.high)]++x.members.map fun z=>toB (nameT m z.toNat):=⟨_,rfl⟩
        rw [←hws]at ho
        have hwl:4+x.members.length=ws.length:=by rw [hws];simp;omega
        have hwt:ws.map (·.data.toList)=[wGroup.data.toList,nameT m pn,yY x.low,yY x.high]++x.members.map fun k=>nameT m k.toNat:=by rw [hws];simp [toB]
        have hrow:RdL (fun g=>rb≤g) 1 RdS wr (vd ro (4+x.members.length) rc) ws:=by
         rw [hwl]at ho⊢
         exact RdL.strings ho
        have HRow:=q8 hrow
        have HWf:=q8 (Zu ho)
        have HWt:=q8 hwt
        have hw4:ws.length≤1099511627776:=by omega
        have HLe:=q8 (show(T1++tx).length+(lineT (ws.map (·.data.toList))).length≤1099511627776 by rw [hwt,qn];omega)
        have HN9:=q8 (NV.out.trans (Z2.out.trans HNr.out))
        clear ho hws hwl hwt hrow hi9 hz0 hz1 hz2
        go_wp2_with (go_at_call 43;refine(line_calls (HBr.out.near HN9.out) HRow.out HWf.out hw4 HLe.out).mono ?_;rintro e w10 ⟨rfl,h5,k5⟩;have B5:=q8 h5;have K5:=q8 k5;clear h5 k5)
        exact⟨⟨i+1,hlt,by go_num,by rw [HSt.out,←qS,←HWt.out];exact B5.out,HWr.out.trans (HN9.out.wr.trans K5.out)⟩,by simp [intOf];omega⟩
    ·obtain rfl:i=m.grps.length:=by omega
     rw [qF,←HT2.out]at HBr
     clear hle hlt hi
     have q2:wo.cell? ⟨w.heap.size,2,none⟩=some (vd c1 m.atts.length c2):=cell1 (HP.out.wr HWr.out).box rfl
     go_wp2_with fail
     clear q2 HT2
     have HB1:=q8 HBr.out
     have HW1:=q8 HWr.out
     clear HBr HWr
     obtain⟨T12,hT12⟩: ∃T,T=T1++T2:=⟨_,rfl⟩
     have hs12:T12.length=T1.length+T2.length:=by rw [hT12,qn]
     rw [←hT12]at HB1
     have HT12:=q8 hT12
     clear hT12
     go_loopw [105] (fun ix wr=> ∃i:Nat,i≤m.atts.length∧ix=ve vp i∧Bld b b wr (T12++(m.atts.take i).flatMap (attT m))∧Wr b b w4 wr) (fun ix _=>m.atts.length - (intOf ix).toNat)
     case atStart=>exact⟨0,qv _,rfl,by simpa using HB1.out,HW1.out⟩
     case round=>
      obtain⟨i,hi,rfl,hB,hW⟩:=hrel
      have HBr:=q8 hB
      have HWr:=q8 hW
      have hle:((m.atts.take (i+1)).flatMap (attT m)).length≤T3.length:=by rw [HT3.out];exact q8s _ _ _
      clear hB hW HB1 HW1
      obtain⟨wo,hwo⟩: ∃x,x=wr:=⟨_,rfl⟩
      subst hwo
      by_cases hlt:i<m.atts.length
      ·as_aux_lemma=>
        have hlt':(i:Int)<m.atts.length:=by omega
        obtain⟨x,hx⟩: ∃x,m.atts[i]? =some x:=⟨_,qi hlt⟩
        obtain⟨g,o,vo,vc,rfl,k0,k1,hr⟩:=(HP.out.wr HWr.out).att hx
        have hst:=vN (attT m) hx
        rw [hst]at hle
        have HSt:=q8 hst
        obtain⟨hvl,hcs⟩:=HOk.out.att i x hx
        have HCs:=q8 hcs
        have HVl:=q8 hvl
        have hv24:x.values.length≤24:=by rw [hvl];exact hn24
        have HR:=q8 hr
        clear hst hr hx hcs hvl
        generalize(m.atts.take i).flatMap (attT m)=tx at HBr HSt hle
        obtain⟨VT,hVT⟩: ∃T,T=x.values.zipIdx.flatMap fun p=>ww m x p.2 p.1:=⟨_,rfl⟩
        have hat:attT m x=lineT [wAttr.data.toList,x.name.data.toList]++VT:=by rw [hVT];rfl
        rw [hat]at hle HSt
        have HVT:=q8 hVT
        rw [qn,qn]at hle
        clear hVT hat
        go_upto_region 29 with fail
        clear k0 k1
        obtain⟨V,fb,hVe,hbe,nV,hX⟩:=Qm wo #[vf x.name,vd vo x.values.length vc] 81
        rw [hVe,hbe]
        have HX:=q8 hX
        have NV:=q8 nV
        have HFb:=q8 (show fb≠b by have:=HBr.out.lt;omega)
        have x0:V.cell? ⟨fb,0,none⟩=some (vf x.name):=cell1 hX rfl
        clear hVe hbe nV hX
        go_upto_region 30 with(go_at_call 43;refine(line_new (HBr.out.near NV.out) [wAttr,x.name] (by simp) (by show(T12++tx).length+(lineT [wAttr.data.toList,x.name.data.toList]).length≤_;rw [qn];omega)).mono ?_;rintro e w5 ⟨rfl,h5,k5⟩;have B5:=q8 h5;have K5:=q8 k5;clear h5 k5)
        clear x0
        have HX5:=q8 (K5.out.cells HX.out (by decide) HFb.out)
        have l1:w5.cell? ⟨fb,1,none⟩=some (vd vo x.values.length vc):=cell1 HX5.out rfl
        have HP5:=q8 ((HP.out.wr HWr.out).wr (NV.out.wr.trans K5.out))
        have HR5:=q8 (show RdL S 1 RdI w5 (vd vo x.values.length vc) x.values from HR.out.kept (NV.out.wr.trans K5.out).kept (fun g hg hk=>by have:=HP.out.sub g hg;omega) (fun _ h=>h) (fun _ _ h=>h))
        have HW5:=q8 (HWr.out.trans (NV.out.wr.trans K5.out))
        clear HX NV K5 HR
        go_wp2_with fail
        clear l1
        go_loopw [117] (fun ix wr=> ∃k:Nat,k≤x.values.length∧ix=ve vp k∧Bld b b wr ((T12++tx)++lineT [wAttr.data.toList,x.name.data.toList]++(x.values.zipIdx.take k).flatMap fun p=>ww m x p.2 p.1)∧Wr b b w5 wr) (fun ix _=>x.values.length - (intOf ix).toNat)
        case atStart=>exact⟨0,qv _,rfl,by simpa using B5.out,Wr.refl _ _ _⟩
        case round=>
         obtain⟨k,hk,rfl,hB,hW⟩:=hrel
         have HB6:=q8 hB
         have HW6:=q8 hW
         have hle6:((x.values.zipIdx.take (k+1)).flatMap fun p=>ww m x p.2 p.1).length≤VT.length:=by rw [HVT.out];exact q8s _ _ _
         clear hB hW
         by_cases hlk:k<x.values.length
         ·have hlk':(k:Int)<x.values.length:=by omega
          obtain⟨z,hz⟩: ∃z,x.values[k]? =some z:=⟨_,qi hlk⟩
          obtain⟨mg,mo,rfl,d0⟩:=q4H (show RdL S 1 RdI wr (vd vo x.values.length vc) x.values from HR5.out.kept HW6.out.kept (fun g hg hk=>by have:=HP.out.sub g hg;omega) (fun _ h=>h) (fun _ _ h=>h)) hz
          have hst6:=vN (fun p:Int×Nat=>ww m x p.2 p.1) (q4j hz)
          rw [hst6]at hle6
          have HS6:=q8 hst6
          have hzr: -2147483648≤z∧z≤2147483648:=by
           have:=List.all_eq_true.1 HCs.out z (qp hz)
           simpa [costB]using this
          clear hst6 hz
          generalize(x.values.zipIdx.take k).flatMap (fun p=>ww m x p.2 p.1)=ty at HB6 HS6 hle6
          dsimp only at HS6 hle6
          rw [qn]at hle6
          by_cases hz0:z=0
          ·have hv0:ww m x k z=[]:=by rw [hz0];rfl
           rw [hv0,List.append_nil]at HS6
           clear hle6 hv0 hzr
           go_wp2_with fail
           exact⟨⟨k+1,hlk,by go_num,by rw [HS6.out];exact HB6.out,HW6.out⟩,by simp [intOf];omega⟩
          ·have hv0:ww m x k z=lineT [vF.data.toList,x.name.data.toList,nameT m k,yY z]:=by unfold ww;rw [if_neg hz0]
           rw [hv0]at HS6 hle6
           have HP6:=q8 (HP5.out.wr HW6.out)
           have HX6:=q8 (HW6.out.cells HX5.out (by decide) HFb.out)
           have hkn:k<m.feats.length:=by have:=HVl.out;omega
           have hkn':(k:Int)<m.feats.length:=by omega
           have sOf: ∀w',Wr b b wr w'→w'.cell? ⟨fb,0,none⟩=some (vf x.name)∧w'.cell? ⟨ng,k,none⟩=some (vf (toB (nameT m k))):=fun w' hw=>⟨cell1 (hw.cells HX6.out (by decide) HFb.out) rfl,(HP6.out.wr hw).name hkn⟩
           have HLe:=q8 (show(((T12++tx)++lineT [wAttr.data.toList,x.name.data.toList])++ty).length+(lineT [vF.data.toList,x.name.data.toList,nameT m k,yY z]).length≤1099511627776 by rw [qn,qn,qn];omega)
           clear hv0 hle6
           go_wp2_with fail
           go_region_held3 (fun w'=>w'.cell? ⟨fb,0,none⟩=some (vf x.name)∧w'.cell? ⟨ng,k,none⟩=some (vf (toB (nameT m k))))
            ((refine sOf _ ?_;first|exact K8.out|exact(z1.alloc _).wr|exact z1.wr|exact(Near.refl _).drew.wr))
            (first
              |(go_at_call 47;refine(XR ((HP6.out.near (Near.refl _).drew).vars) (by omega) (by omega)).mono ?_;rintro e w7 ⟨rfl,n7⟩;have z1:Near wr w7:=(Near.refl wr).drew.trans n7)
              |(go_at_call 43;refine(line_new (HB6.out.near z1) [vF,x.name,toB (nameT m k),toB (yY z)] (by simp) HLe.out).mono ?_;rintro e w8 ⟨rfl,h8,k8⟩;have B8:=q8 h8;have K8:=q8 (z1.wr.trans k8);clear h8 k8))
           go_wp2_with fail
           exact⟨⟨k+1,hlk,by go_num,by rw [HS6.out,←qS];exact B8.out,HW6.out.trans K8.out⟩,by simp [intOf];omega⟩
         ·obtain rfl:k=x.values.length:=by omega
          rw [zE (by simp),←HVT.out]at HB6
          go_wp2_with fail
          exact⟨⟨i+1,hlt,by go_num,by rw [HSt.out,←qS,←qS];exact HB6.out,HW5.out.trans HW6.out⟩,by simp [intOf];omega⟩
      ·obtain rfl:i=m.atts.length:=by omega
       rw [qF,←HT3.out]at HBr
       clear hle hlt hi
       have q3:wo.cell? ⟨w.heap.size,3,none⟩=some (vd d1 m.reqs.length d2):=cell1 (HP.out.wr HWr.out).box rfl
       go_wp2_with fail
       clear q3 HT3
       have HB1:=q8 HBr.out
       have HW1:=q8 HWr.out
       clear HBr HWr
       obtain⟨T123,hT123⟩: ∃T,T=T12++T3:=⟨_,rfl⟩
       have hs123:T123.length=T12.length+T3.length:=by rw [hT123,qn]
       rw [←hT123]at HB1
       have HT123:=q8 hT123
       clear hT123
       go_loopw [140] (fun ix wr=> ∃i:Nat,i≤m.reqs.length∧ix=ve vp i∧Bld b b wr (T123++(m.reqs.take i).flatMap fun x=>lineT [reqT x])∧Wr b b w4 wr) (fun ix _=>m.reqs.length - (intOf ix).toNat)
       case atStart=>exact⟨0,qv _,rfl,by simpa using HB1.out,HW1.out⟩
       case round=>
        obtain⟨i,hi,rfl,hB,hW⟩:=hrel
        have HBr:=q8 hB
        have HWr:=q8 hW
        have hle:((m.reqs.take (i+1)).flatMap fun x=>lineT [reqT x]).length≤T4.length:=by rw [HT4.out];exact q8s _ _ _
        clear hB hW HB1 HW1
        obtain⟨wo,hwo⟩: ∃x,x=wr:=⟨_,rfl⟩
        subst hwo
        by_cases hlt:i<m.reqs.length
        ·as_aux_lemma=>
          have hlt':(i:Int)<m.reqs.length:=by omega
          obtain⟨x,hx⟩: ∃x,m.reqs[i]? =some x:=⟨_,qi hlt⟩
          obtain⟨g,o,op,nm,vo,kk,vc,rfl,k0,k1,k2,hr⟩:=(HP.out.wr HWr.out).req hx
          have hst:=vN (fun x=>lineT [reqT x]) hx
          rw [hst]at hle
          have HSt:=q8 hst
          have HVd:=q8 (HOk.out.req i x hx).1
          have HR:=q8 hr
          clear hst hr hx
          generalize(m.reqs.take i).flatMap (fun x=>lineT [reqT x])=tx at HBr HSt hle
          try dsimp only at hle HSt
          rw [qn]at hle
          go_upto_region 40 with fail
          clear k0 k1 k2
          obtain⟨V,fb,hVe,hbe,nV,hX⟩:=Qm wo #[ve vq op,vf nm,vd vo kk vc] 84
          rw [hVe,hbe]
          have NV:=q8 nV
          have x0:V.cell? ⟨fb,0,none⟩=some (ve vq op):=cell1 hX rfl
          have x1:V.cell? ⟨fb,1,none⟩=some (vf nm):=cell1 hX rfl
          have x2:V.cell? ⟨fb,2,none⟩=some (vd vo kk vc):=cell1 hX rfl
          have HSub:=q8 (fun g hg=>Nat.lt_trans (HP.out.sub g hg) (HBr.out.near nV).lt)
          clear hVe hbe nV hX
          go_wp2_with (first
           |(go_at_call 48;refine(J5 (S:=S) (vs:=[ve vq op,vf nm,vd vo kk vc]) (HR.out.kept NV.out (fun _ _ h=>h) (fun _ h=>h)) HSub.out HVd.out).mono ?_;rintro e w7 ⟨rfl,n7⟩;have N7:=q8 (NV.out.trans n7);clear n7)
           |(go_at_call 43;refine(line_new (HBr.out.near N7.out) [toB (reqT x)] (by simp) (by show(T123++tx).length+(lineT [reqT x]).length≤_;rw [qn];omega)).mono ?_;rintro e w5 ⟨rfl,h5,k5⟩;have B5:=q8 h5;have K5:=q8 k5;clear h5 k5))
          exact⟨⟨i+1,hlt,by go_num,by rw [HSt.out,←qS];exact B5.out,HWr.out.trans (N7.out.wr.trans K5.out)⟩,by simp [intOf];omega⟩
        ·obtain rfl:i=m.reqs.length:=by omega
         rw [qF,←HT4.out]at HBr
         clear hle hlt hi
         have q4:wo.cell? ⟨w.heap.size,4,none⟩=some (vd e1 m.lims.length e2):=cell1 (HP.out.wr HWr.out).box rfl
         go_wp2_with fail
         clear q4 HT4
         have HB1:=q8 HBr.out
         have HW1:=q8 HWr.out
         clear HBr HWr
         obtain⟨TA,hTA⟩: ∃T,T=T123++T4:=⟨_,rfl⟩
         have hsA:TA.length=T123.length+T4.length:=by rw [hTA,qn]
         rw [←hTA]at HB1
         have HTA:=q8 hTA
         clear hTA
         go_loopw [153] (fun ix wr=> ∃i:Nat,i≤m.lims.length∧ix=ve vp i∧Bld b b wr (TA++(m.lims.take i).flatMap fun l=>lineT [limT m l])∧Wr b b w4 wr) (fun ix _=>m.lims.length - (intOf ix).toNat)
         case atStart=>exact⟨0,qv _,rfl,by simpa using HB1.out,HW1.out⟩
         case round=>
          obtain⟨i,hi,rfl,hB,hW⟩:=hrel
          have HBr:=q8 hB
          have HWr:=q8 hW
          have hle:((m.lims.take (i+1)).flatMap fun l=>lineT [limT m l]).length≤T5.length:=by rw [HT5.out];exact q8s _ _ _
          clear hB hW HB1 HW1
          obtain⟨wo,hwo⟩: ∃x,x=wr:=⟨_,rfl⟩
          subst hwo
          by_cases hlt:i<m.lims.length
          ·as_aux_lemma=>
            have hlt':(i:Int)<m.lims.length:=by omega
            obtain⟨x,hx⟩: ∃x,m.lims[i]? =some x:=⟨_,qi hlt⟩
            obtain⟨g,o,rfl,k0,k1,k2⟩:=(HP.out.wr HWr.out).lim hx
            have hst:=vN (fun l=>lineT [limT m l]) hx
            rw [hst]at hle
            have HSt:=q8 hst
            obtain⟨hla,hr1,hr2,at',hat,-,-⟩:=HOk.out.limat hx
            have hal:=(List.getElem?_eq_some_iff.1 hat).1
            have HLm:=q8 (fun(w':World)(hn:Wr b b w4 w')=>Jh (HP.out.wr hn).mod (HP.out.wr hn).vars (l:=x) ⟨hla,by omega⟩ ⟨hr1,hr2⟩ (HLb.out x (qp hx)) HAn.out)
            clear hst hx hla hr1 hr2 hat hal
            generalize(m.lims.take i).flatMap (fun l=>lineT [limT m l])=tx at HBr HSt hle
            try dsimp only at hle HSt
            rw [qn]at hle
            go_upto_region 45 with fail
            clear k0 k1 k2
            obtain⟨V,fb,hVe,hbe,nV,hX⟩:=Qm wo #[ve vp x.att,ve vq x.rel,ve vp x.bound] 89
            rw [hVe,hbe]
            have NV:=q8 nV
            have x0:V.cell? ⟨fb,0,none⟩=some (ve vp x.att):=cell1 hX rfl
            have x1:V.cell? ⟨fb,1,none⟩=some (ve vq x.rel):=cell1 hX rfl
            have x2:V.cell? ⟨fb,2,none⟩=some (ve vp x.bound):=cell1 hX rfl
            have HBx:=q8 ((HP.out.wr HWr.out).near nV).box
            have q0:V.cell? ⟨w.heap.size,0,none⟩=some (vd a1 m.feats.length a2):=cell1 HBx.out rfl
            have q1:V.cell? ⟨w.heap.size,1,none⟩=some (vd b1 m.grps.length b2):=cell1 HBx.out rfl
            have q2:V.cell? ⟨w.heap.size,2,none⟩=some (vd c1 m.atts.length c2):=cell1 HBx.out rfl
            have q3:V.cell? ⟨w.heap.size,3,none⟩=some (vd d1 m.reqs.length d2):=cell1 HBx.out rfl
            have q4:V.cell? ⟨w.heap.size,4,none⟩=some (vd (some ⟨g,o,none⟩) m.lims.length e2):=cell1 HBx.out rfl
            clear hVe hbe nV hX
            go_wp2_with (first
             |(go_at_call 49;refine(HLm.out V (HWr.out.trans NV.out.wr)).mono ?_;rintro e w7 ⟨rfl,n7⟩;have N7:=q8 (NV.out.trans n7);clear n7)
             |(go_at_call 43;refine(line_new (HBr.out.near N7.out) [toB (limT m x)] (by simp) (by show(TA++tx).length+(lineT [limT m x]).length≤_;rw [qn];omega)).mono ?_;rintro e w5 ⟨rfl,h5,k5⟩;have B5:=q8 h5;have K5:=q8 k5;clear h5 k5))
            exact⟨⟨i+1,hlt,by go_num,by rw [HSt.out,←qS];exact B5.out,HWr.out.trans (N7.out.wr.trans K5.out)⟩,by simp [intOf];omega⟩
          ·obtain rfl:i=m.lims.length:=by omega
           rw [qF,←HT5.out]at HBr
           clear hle hlt hi
           have HAll:=q8 (show TA++T5=printM m by rw [HTA.out,HT123.out,HT12.out,HPr.out];simp only [qS])
           rw [HAll.out]at HBr
           go_wp2_with (go_at_call 50;refine(text_calls HBr.out).mono ?_;rintro e w5 ⟨rfl,-,k5⟩;have K5:=q8 k5;clear k5)
           have hw5:=(HWr.out.trans K5.out)
           exact bodyPost_ret (v:= .tuple #[vf (toB (printM m)),ve vp 0]) (by simp [results,Tryz.results11,go_sem]) rfl ⟨rfl,q5Z HN4.out hw5 (Nat.le_of_lt hbw)⟩
end Go.Proofs.YtjcbmcnbdegpmaaGreatDoor
