/- What ModelBack alone needs of LawBack. -/
import Derived.Test.YtjcbmcnbdegpmaaGreatDoorKLawBack
import Derived.Test.YtjcbmcnbdegpmaaGreatDoorKMSameM
set_option maxRecDepth 100000
set_option maxHeartbeats 12800000
set_option linter.unusedVariables false
set_option linter.unusedSimpArgs false
open Bool renaming and_eq_true->qy,eq_iff_iff->zq
open Go.Lib renaming hid->q8
open Go.Proofs.Tryz renaming prog->qj
open Go.Value renaming int->qs
open Int renaming toNat_natCast->jF
open List renaming all_eq_true->qL,contains_iff_mem->QR,mem_filter->yy,mem_range->yd,range->qO
open Nat renaming lt_of_lt_of_le->qu,testBit->Qy
open Go.Value renaming slice->vd,int->ve,string->vf,pointer->vg,agg->vi,bool->vj
open Go.Obj renaming cells->vk
open Go.Ending renaming returned->vm
open Go.IntKind renaming i64->vp,u8->vq,u32->vr,u64->vt
open Or renaming inl->vu,inr->vv
namespace Go.Proofs.YtjcbmcnbdegpmaaGreatDoor
open Go Go.RowKit Go.Proofs.Gen Go.Proofs.Mod
theorem q2z{m:Mod}(h:chk m=0): ∀a∈m.atts,a.name.size<=32:=fun a ha=>by
 obtain⟨k,hk⟩:=List.getElem?_of_mem ha;exact(xE (att_fresh h k a hk).1).2
theorem Jk{S:Nat->Prop}{w:World}{v:Value}{m:Mod}(h:RdMod S w v m)(hS: ∀g,S g->g<w.heap.size)(hr:Q8 m)(hv:ji w):
 Calls qj 3 #[v] w fun e w'=>e= .returned (.bool true)/\Near w w':=by
 have HRd:=q8 (fun(w':World)(hn:Near w w')=>h.kept hn (fun _ _ h=>h) (fun _ h=>h));have HSx:=q8 (fun(w':World)(hn:Near w w')=>(fun g hg=>qu (hS g hg) hn.size: ∀g,S g->g<w'.heap.size));have HV:=q8 hv;have HRg:=q8 hr;obtain⟨a1,a2,b1,b2,c1,c2,d1,d2,e1,e2,rfl,-⟩:=RdMod.form h;have HSm:=q8 ((uC (m:=m)).1);have HGr:=q8 (fun(w':World)(hn:Near w w')=>wW (HRd.out w' hn));generalize greatM m=gr at HSm HGr;clear h hS hv hr;go_enter Tryz.func3,Tryz.ntmps3;go_upto_region 1 with fail
 obtain⟨W,bM,hWe,hbe,nW,hM⟩:=zZ w #[.slice a1 m.feats.length a2,.slice b1 m.grps.length b2,.slice c1 m.atts.length c2,.slice d1 m.reqs.length d2,.slice e1 m.lims.length e2] 28;rw [hWe,hbe];have q0:W.cell? ⟨bM,0,none⟩=some (.slice a1 m.feats.length a2):=cell1 hM rfl;have q1:W.cell? ⟨bM,1,none⟩=some (.slice b1 m.grps.length b2):=cell1 hM rfl;have q2:W.cell? ⟨bM,2,none⟩=some (.slice c1 m.atts.length c2):=cell1 hM rfl;have q3:W.cell? ⟨bM,3,none⟩=some (.slice d1 m.reqs.length d2):=cell1 hM rfl;have q4:W.cell? ⟨bM,4,none⟩=some (.slice e1 m.lims.length e2):=cell1 hM rfl;have HM:=q8 (fun(w':World)(h:Near W w')=>(show w'.cell? ⟨bM,0,none⟩=some (.slice a1 m.feats.length a2)/\w'.cell? ⟨bM,1,none⟩=some (.slice b1 m.grps.length b2)/\w'.cell? ⟨bM,2,none⟩=some (.slice c1 m.atts.length c2)/\w'.cell? ⟨bM,3,none⟩=some (.slice d1 m.reqs.length d2)/\w'.cell? ⟨bM,4,none⟩=some (.slice e1 m.lims.length e2)from⟨cell1 (qE h hM) rfl,cell1 (qE h hM) rfl,cell1 (qE h hM) rfl,cell1 (qE h hM) rfl,cell1 (qE h hM) rfl⟩));have NW:=q8 nW;clear hWe hbe nW hM
 cases gr with
 |true=>
  go_wp2_with (first
   |(go_at_call 8;refine(HGr.out _ NW.out).mono ?_;rintro e w1 ⟨rfl,n1⟩;have N1:=q8 n1;clear n1)
   |(go_at_call 10;refine(wakes3_calls (HV.out.near (NW.out.trans N1.out))).mono ?_;rintro e w2 ⟨rfl,n2⟩;have N2:=q8 n2;clear n2))
  go_ret;exact⟨rfl,NW.out.trans (N1.out.trans N2.out)⟩
 |false=>
 have HSml:=q8 (HSm.out rfl);have HBk:=q8 (Qf HSml.out HRg.out);have HCk:=q8 (fun(w':World)(hn:Near w w')=>uH (HRd.out w' hn) (HSx.out w' hn) HBk.out (fun x hx=>by have:=vY (HSml.out.exs x hx);omega));by_cases h0:chk m=0
 case neg=>
  have e1:((chk m:Int) !=0)=true:=by rw [bne_iff_ne];omega
  generalize chk m=ck at HCk e1;clear h0;go_wp2_with (first
   |(go_at_call 8;refine(HGr.out _ NW.out).mono ?_;rintro e w1 ⟨rfl,n1⟩;obtain⟨r0,r1,r2,r3,r4⟩:=HM.out _ n1;have N1:=q8 n1;clear n1)
   |(go_at_call 9;refine(HCk.out _ (NW.out.trans N1.out)).mono ?_;rintro e w3 ⟨rfl,n3⟩;have N3:=q8 (N1.out.trans n3);clear n3)
   |(go_at_call 10;refine(wakes3_calls (HV.out.near (NW.out.trans N3.out))).mono ?_;rintro e w2 ⟨rfl,n2⟩;have N2:=q8 n2;clear n2))
  go_ret;exact⟨rfl,NW.out.trans (N3.out.trans N2.out)⟩
 have HC0:=q8 h0;rw [h0]at HCk;have HLb:=q8 (fun l (hl:l∈m.lims)=>(HRg.out.lims l hl).2.2);have HLn:=q8 (Xj h0);have HPr:=q8 (fun(T:Nat->Prop)(w':World)(v:Value)(hrd:RdMod T w' v m)(hT: ∀g,T g->g<w'.heap.size)(hv':ji w')=>print_calls hrd hT HBk.out h0 hv' (q2z h0) HLb.out (by have:=HLn.out;omega));have HPa:=q8 (fun(w':World)(hv':ji w')=>(show Calls qj 12 #[.string (toB (printM m))] w' (ZZ w' (0,0,m)) by
  have hb:bytesL (toB (printM m))=printM m:=by simp [bytesL,toB]
  have h:=Zt hv' (s:=toB (printM m)) (by rw [<-zX,hb];exact HLn.out) (by rw [hb,Yc h0];exact q0Y h0);rw [hb,q01 h0 HLb.out]at h;exact h))
 clear h0;go_upto_region 3 with(first
  |(go_at_call 8;refine(HGr.out _ NW.out).mono ?_;rintro e w1 ⟨rfl,n1⟩;obtain⟨r0,r1,r2,r3,r4⟩:=HM.out _ n1;have N1:=q8 n1;clear n1)
  |(go_at_call 9;refine(HCk.out _ (NW.out.trans N1.out)).mono ?_;rintro e w3 ⟨rfl,n3⟩;have N3:=q8 (N1.out.trans n3);clear n3))
 clear q0 q1 q2 q3 q4 r0 r1 r2 r3 r4;obtain⟨r0,r1,r2,r3,r4⟩:=HM.out _ N3.out;generalize toB (printM m)=ps at HPr HPa;go_upto_region 4 with(go_at_call 11;refine(HPr.out _ _ _ (HRd.out _ (NW.out.trans N3.out)) (HSx.out _ (NW.out.trans N3.out)) (HV.out.near (NW.out.trans N3.out))).mono ?_;rintro e w4 ⟨rfl,n4⟩;have N4:=q8 (N3.out.trans n4);clear n4)
 clear r0 r1 r2 r3 r4;go_upto_region 5 with(go_at_call 12;refine(HPa.out _ (HV.out.near (NW.out.trans N4.out))).mono ?_;rintro e w5 ⟨v5,rfl,rd5,n5⟩;have rd5:=RdMod.here rd5;obtain⟨f1,f2,g1,g2,h1,h2,i1,i2,j1,j2,rfl,-⟩:=RdMod.form rd5;have RD5:=q8 rd5;have N5:=q8 (N4.out.trans n5);clear rd5 n5)
 obtain⟨U,bN,hUe,hbe,nU,hB⟩:=zZ w5 #[.slice f1 m.feats.length f2,.slice g1 m.grps.length g2,.slice h1 m.atts.length h2,.slice i1 m.reqs.length i2,.slice j1 m.lims.length j2] 28;rw [hUe,hbe];have HNb:=q8 (fun(w':World)(h:Near U w')=>(show w'.cell? ⟨bN,0,none⟩=some (.slice f1 m.feats.length f2)/\w'.cell? ⟨bN,1,none⟩=some (.slice g1 m.grps.length g2)/\w'.cell? ⟨bN,2,none⟩=some (.slice h1 m.atts.length h2)/\w'.cell? ⟨bN,3,none⟩=some (.slice i1 m.reqs.length i2)/\w'.cell? ⟨bN,4,none⟩=some (.slice j1 m.lims.length j2)from⟨cell1 (qE h hB) rfl,cell1 (qE h hB) rfl,cell1 (qE h hB) rfl,cell1 (qE h hB) rfl,cell1 (qE h hB) rfl⟩));have NU:=q8 (N5.out.trans nU);have HR5:=q8 (fun(w':World)(hn:Near U w')=>RD5.out.kept (nU.trans hn) (fun _ _ h=>h) (fun _ h=>h));have HS5:=q8 (fun(w':World)(hn:Near U w')=>(fun g (hg:w4.heap.size<=g/\g<w5.heap.size)=>qu hg.2 (nU.trans hn).size));clear hUe hbe nU hB;obtain⟨s0,s1,s2,s3,s4⟩:=HNb.out _ (Near.refl _);go_upto_region 6 with(go_at_call 11;refine(HPr.out _ _ _ (HR5.out _ (Near.refl _)) (HS5.out _ (Near.refl _)) (HV.out.near (NW.out.trans NU.out))).mono ?_;rintro e w6 ⟨rfl,n6⟩;have N6:=q8 n6;clear n6)
 clear s0 s1 s2 s3 s4;obtain⟨s0,s1,s2,s3,s4⟩:=HNb.out _ N6.out;obtain⟨r0,r1,r2,r3,r4⟩:=HM.out _ (NU.out.trans N6.out);go_wp2_with (first
  |(go_at_call 13;refine(Vp (HRd.out _ (NW.out.trans (NU.out.trans N6.out))) (HR5.out _ N6.out) HBk.out).mono ?_;rintro e w7 ⟨rfl,n7⟩;rw [sameM_refl];have N7:=q8 (NU.out.trans (N6.out.trans n7));clear n7)
  |(go_at_call 10;refine(wakes3_calls (HV.out.near (NW.out.trans N7.out))).mono ?_;rintro e w8 ⟨rfl,n8⟩;have N8:=q8 n8;clear n8))
 go_ret;exact⟨rfl,NW.out.trans (N7.out.trans N8.out)⟩
end Go.Proofs.YtjcbmcnbdegpmaaGreatDoor
