/- MWakeP, MWakes, LawBack. -/
import Derived.Test.YtjcbmcnbdegpmaaGreatDoorKMParseW
import Derived.Test.YtjcbmcnbdegpmaaGreatDoorKMPhoneT
import Derived.Test.YtjcbmcnbdegpmaaGreatDoorKMPrn
set_option maxRecDepth 100000
set_option maxHeartbeats 12800000
set_option linter.unusedVariables false
set_option linter.unusedSimpArgs false
open Bool renaming and_eq_true->qy,eq_iff_iff->zq
open Go.Lib renaming hid->q8
open Go.Proofs.Tryz renaming prog->qj
open Go.Value renaming int->qs
open Int renaming toNat_natCast->jF
open List renaming all_eq_true->qL,contains_iff_mem->QR,mem_filter->yy,mem_range->yd,range->qO
open Nat renaming lt_of_lt_of_le->qu,testBit->Qy
open Go.Value renaming slice->vd,int->ve,string->vf,pointer->vg,agg->vi,bool->vj
open Go.Obj renaming cells->vk
open Go.Ending renaming returned->vm
open Go.IntKind renaming i64->vp,u8->vq,u32->vr,u64->vt
open Or renaming inl->vu,inr->vv
namespace Go.Proofs.YtjcbmcnbdegpmaaGreatDoor
open Go Go.RowKit Go.Proofs.Gen Go.Proofs.Mod Go.Proofs.Bdd Go.Proofs.Bdd.T
variable{f:F}{n:Nat}{v:Value}{w:World}
theorem q3J{sb:Nat}(h:LowF n f)(hsb: ∀i,sb.testBit i=dep f i):sb<2^n:=
 Nat.lt_pow_two_of_testBit sb fun i hi=>by rw [hsb];exact h.dep hi
theorem q46{sb:Nat}(h:LowF n f)(hn:n<=24)(hsb: ∀i,sb.testBit i=dep f i):cntN sb f n=cF n 0 (fun _=>false) f:=by
 have hlt:=q3J h hsb;have hE:cntE sb n=0:=by
  unfold cntE;rw [if_neg (by omega),jF,if_neg (by omega)]
 unfold cntN;rw [if_pos hE,jF]
theorem Xm:LowF 5 (allF (rulesF phoneM)):=LowF.all (Xb (jm gK))
theorem Qj:nowhere (allF (rulesF phoneM))=false:=by
 refine Bool.eq_false_iff.2 fun h=> ?_;have h1:=kG.1 h (Qy 23);have h2:allF (rulesF phoneM) (Qy 23)=true:=UI;rw [h2]at h1
 cases h1
theorem q15{sb:Nat}(hsb: ∀i,sb.testBit i=dep (allF (rulesF phoneM)) i):cntN sb (allF (rulesF phoneM)) phoneM.feats.length=3:=by
 have h:=q46 Xm (by decide) hsb;rw [show cF 5 0 (fun _=>false) (allF (rulesF phoneM))=3 from Vf]at h;exact h
theorem q14:fixM phoneM false=3:=by
 unfold fixM;rw [if_neg (by rw [Qj];decide)];unfold fixN;rw [if_neg (by rw [Qj];decide)];apply Nat.eq_of_testBit_eq;intro i;rw [Nat.testBit_and];unfold xg;rw [J9];by_cases hi:i<5
 .have hm:(maskN phoneM).testBit i=true:=by
   show(2^5 - 1).testBit i=true;rw [Nat.testBit_two_pow_sub_one];exact decide_eq_true hi
  have hg:q3V (allF (rulesF phoneM)) false i=[0,1].contains i:=by
   rw [<-WZ];have e:q3V (allF (rulesF phoneM)) false i=(qO (2^5)).all fun k=> !q17 (updI k.testBit i false):=(Xm.updI i false).nowhere;rw [zq,QR,yy,e];simp only [yd,hi,true_and]
  rw [hm,Bool.and_true];have hc:(List.filter (q3V (allF (rulesF phoneM)) false) (qO 24)).contains i=[0,1].contains i:=by
   rw [zq,QR,yy,hg];simp only [yd,show i<24 by omega,true_and]
  rw [hc]
  have:=(by decide: ∀j:Fin 5,[0,1].contains (j:Nat)=Qy 3 j) ⟨i,hi⟩
  exact this
 .have hm:(maskN phoneM).testBit i=false:=by
   show(2^5 - 1).testBit i=false;rw [Nat.testBit_two_pow_sub_one];exact decide_eq_false hi
  rw [hm,Bool.and_false,Nat.testBit_lt_two_pow]
  have:2^5<=2^i:=Nat.pow_le_pow_right (by decide) (by omega)
  omega
theorem q16:brkL phoneM 15=[8]:=by
 unfold brkL;rw [if_pos gK];have hl:(rulesF phoneM).length=10:=by
  unfold rulesF;rw [List.length_map,Vb];rfl
 rw [hl];exact Xn
theorem Xl:modF phoneM=allF (rulesF phoneM):=by
 unfold modF;rw [if_pos gK]
theorem Ve:(linesOf phoneT).all (fun l=>decide (firstOf l≠wReq)||(parseF (12*(bytesL (restOf l)).length+24) (bytesL (restOf l))).isSome)=true:=by kernel_rfl
theorem Va:(linesOf phoneT).all (fun l=>decide ((restOf l).size<=4194304))=true:=by kernel_rfl
theorem q12: ∀l∈linesOf phoneT,firstOf l=wReq-> ∀w',FPar (restOf l) w':=by
 intro l hl hf w';have h:=qL.1 Ve l hl;have h2:=of_decide_eq_true (qL.1 Va l hl);rw [Bool.or_eq_true,decide_eq_true_eq]at h;rcases h with h|h
 .exact absurd hf h
 .obtain⟨x,hx⟩:=Option.isSome_iff_exists.1 h
  have hv:=wR hx;unfold validB at hv;simp only [qy,decide_eq_true_eq]at hv;exact q1N hx h2 (by omega)
theorem Vc:0<(printM phoneM).length/\(printM phoneM).length<=1099511627776:=by
 have h:(decide (0<(printM phoneM).length)&&decide ((printM phoneM).length<=1000))=true:=by kernel_rfl
 rw [qy,decide_eq_true_eq,decide_eq_true_eq]at h;omega
theorem G3: ∀a∈phoneM.atts,a.name.size<=32:=by decide+kernel
theorem WY: ∀l∈phoneM.lims,-9223372036854775808<=l.bound/\l.bound<=9223372036854775807:=by decide+kernel
theorem G2:Zd phoneM:=⟨by decide+kernel,by decide+kernel,by decide+kernel,by decide+kernel,by decide+kernel,by decide+kernel,by decide+kernel,by decide+kernel,by decide+kernel⟩
structure Wk(m:Mod):Prop where
 chk0:chk m=0
 some:nowhere (allF (rulesF m))=false
 low:LowF m.feats.length (allF (rulesF m))
 cnt: ∀sb:Nat,(∀i,sb.testBit i=dep (allF (rulesF m)) i)->cntN sb (allF (rulesF m)) m.feats.length=3
 fix:fixM m false=3
 brk:brkL m 15=[8]
 in23:modF m (Qy 23)=true
 out15:modF m (Qy 15)=false
 prt:0<(printM m).length/\(printM m).length<=1099511627776
 atts: ∀a∈m.atts,a.name.size<=32
 lims: ∀l∈m.lims,-9223372036854775808<=l.bound/\l.bound<=9223372036854775807
 bulk:Zd m
theorem q3w:Wk phoneM:=
 ⟨gK,Qj,Xm,fun _ h=>q15 h,q14,q16,by rw [Xl];exact UI,by rw [Xl];exact q13,Vc,G3,WY,G2⟩
theorem G0(hv:ji w){s:ByteArray}(hs:bytesL s=phoneT):
 Calls qj 12 #[.string s] w fun e w'=> ∃v,e= .returned (.tuple #[v,.int .i64 0,.int .i64 0])/\RdMod (fun g=>w.heap.size<=g) w' v phoneM/\Near w w':=by
 have hsz:s.size<=4194303:=by
  rw [<-zX,hs];exact of_decide_eq_true (by kernel_rfl:decide (phoneT.length<=4194303)=true)
 have h:=Zt hv hsz (by rw [hs];exact q12);rw [hs,Vd]at h;exact h
theorem q24(h:LowF n f): ∃sb:Nat,∀i,sb.testBit i=dep f i:=by
 refine⟨q4N ((qO n).filter (dep f)),fun i=> ?_⟩;rw [J9,zq,QR,yy,yd];exact⟨fun hh=>hh.2,fun hd=>⟨Nat.lt_of_not_le (fun hn=>by rw [h.dep hn]at hd;cases hd),hd⟩⟩
theorem q1C{b:Bool}(c:Nat)(x:Int)(hx:x=c)(h:IsF w v f)(hb:f c.testBit=b)(hc:c<4294967296):Calls qj 42 #[v,.int .u32 x] w fun e w'=>e= .returned (.bool b)/\Near w w':=by
 subst hx;exact q1D h hb hc
theorem q5P{base:Nat}(h:w.ownsRow base 3 1 v [n].length ([n].map natV)): ∃g c,v= .slice (some ⟨g,0,none⟩) 1 c/\w.cell? ⟨g,0,none⟩=some (.int .i64 (n:Nat)):=by
 rcases h.2 with⟨_,e⟩|⟨g,cap,cur,e,-⟩
 .cases e
 .subst e
  exact⟨g,cap,rfl,(yh h (u:=natV n) rfl).1⟩
theorem wakes3_calls(hv:ji w):Calls qj 10 #[] w fun e w'=>e= .returned (.bool true)∧Near w w':=by
 obtain⟨m,hm⟩: ∃m,m=phoneM:=⟨_,rfl⟩;have HP:=q8 (fun(s:ByteArray)(hs:bytesL s=phoneT)=>hm▸G0 hv hs);have HK:=q8 (show Wk m by rw [hm];exact q3w);obtain⟨sb,hsb⟩:=q24 HK.out.low;have HSb:=q8 hsb;have HV:=q8 hv;clear hm hv hsb;go_enter Tryz.func10,Tryz.ntmps10;go_upto_region 2 with(go_at_call 12;refine(HP.out _ (by kernel_rfl)).mono ?_;rintro e w1 ⟨v1,rfl,rd1,n1⟩;have rd1:=RdMod.here rd1;obtain⟨a1,a2,b1,b2,c1,c2,d1,d2,e1,e2,rfl,-⟩:=RdMod.form rd1;have RD1:=q8 rd1;have N1:=q8 n1;clear rd1 n1)
 obtain⟨W,bM,hWe,hbe,nW,hM⟩:=zZ w1 #[.slice a1 m.feats.length a2,.slice b1 m.grps.length b2,.slice c1 m.atts.length c2,.slice d1 m.reqs.length d2,.slice e1 m.lims.length e2] 28;rw [hWe,hbe];have q0:W.cell? ⟨bM,0,none⟩=some (.slice a1 m.feats.length a2):=cell1 hM rfl;have q1:W.cell? ⟨bM,1,none⟩=some (.slice b1 m.grps.length b2):=cell1 hM rfl;have q2:W.cell? ⟨bM,2,none⟩=some (.slice c1 m.atts.length c2):=cell1 hM rfl;have q3:W.cell? ⟨bM,3,none⟩=some (.slice d1 m.reqs.length d2):=cell1 hM rfl;have q4:W.cell? ⟨bM,4,none⟩=some (.slice e1 m.lims.length e2):=cell1 hM rfl;have HM:=q8 hM;have NW:=q8 nW;have HRd:=q8 (fun(w':World)(hn:Near W w')=>RD1.out.kept (nW.trans hn) (fun _ _ h=>h) (fun _ h=>h));have HSx:=q8 (fun(w':World)(hn:Near W w')=>(fun g (hg:w.heap.size≤g∧g<w1.heap.size)=>qu hg.2 (nW.trans hn).size));clear hWe hbe nW hM;go_upto_region 3 with(go_at_call 11;refine(print_calls (HRd.out _ (Near.refl _)) (HSx.out _ (Near.refl _)) HK.out.bulk HK.out.chk0 (HV.out.near (N1.out.trans NW.out)) HK.out.atts HK.out.lims HK.out.prt.2).mono ?_;rintro e w2 ⟨rfl,n2⟩;have N2:=q8 n2;clear n2)
 have hps: ¬toB (printM m)=ByteArray.empty:=fun e=>by
  have h1:=HK.out.prt.1;have h2:(toB (printM m)).size=0:=by rw [e];rfl
  have h3:(toB (printM m)).size=(printM m).length:=by simp [toB,ByteArray.size]
  omega
 generalize toB (printM m)=ps at hps⊢;have hp1: ¬ps.toList=[]:=fun e=>hps (ZT.1 e);have hp2:(!ps.toList.isEmpty)=true:=by simpa using hp1
 clear hps;have hM2:=qE N2.out HM.out;clear q0 q1 q2 q3 q4;have q0:w2.cell? ⟨bM,0,none⟩=some (.slice a1 m.feats.length a2):=cell1 hM2 rfl;have q1:w2.cell? ⟨bM,1,none⟩=some (.slice b1 m.grps.length b2):=cell1 hM2 rfl;have q2:w2.cell? ⟨bM,2,none⟩=some (.slice c1 m.atts.length c2):=cell1 hM2 rfl;have q3:w2.cell? ⟨bM,3,none⟩=some (.slice d1 m.reqs.length d2):=cell1 hM2 rfl;have q4:w2.cell? ⟨bM,4,none⟩=some (.slice e1 m.lims.length e2):=cell1 hM2 rfl;clear hM2;go_upto_region 4 with(go_at_call 24;refine(analyse_good (HRd.out _ N2.out) (HSx.out _ N2.out) HK.out.bulk HK.out.chk0 HK.out.some HSb.out).mono ?_;rintro e w3 ⟨s1,s2,rfl,o1,o2,n3⟩;rw [HK.out.cnt sb HSb.out,HK.out.fix];obtain⟨x1,y1,rfl⟩:=qR o1;obtain⟨x2,y2,rfl⟩:=qR o2;have N3:=q8 (N2.out.trans n3);clear o1 o2 n3)
 clear q0 q1 q2 q3 q4;generalize fixM m true=fx1;generalize foB m m.feats.length=fx2;generalize(redTo m (rulesF m).length).length=fx3;generalize(atS m m.feats.length).snd.length=fx4;obtain⟨V,bA,hVe,hbe,nV,hA⟩:=zZ w3 #[.bool false,.int .u64 3,.int .u32 3,.int .u32 (fx1:Nat),.int .u32 (fx2:Nat),.slice x1 fx3 y1,.slice x2 fx4 y2] 59;rw [hVe,hbe];have HA:=q8 hA;have NV:=q8 (N3.out.trans nV);have hM2:=qE NV.out HM.out;have q0:V.cell? ⟨bM,0,none⟩=some (.slice a1 m.feats.length a2):=cell1 hM2 rfl;have q1:V.cell? ⟨bM,1,none⟩=some (.slice b1 m.grps.length b2):=cell1 hM2 rfl;have q2:V.cell? ⟨bM,2,none⟩=some (.slice c1 m.atts.length c2):=cell1 hM2 rfl;have q3:V.cell? ⟨bM,3,none⟩=some (.slice d1 m.reqs.length d2):=cell1 hM2 rfl;have q4:V.cell? ⟨bM,4,none⟩=some (.slice e1 m.lims.length e2):=cell1 hM2 rfl;clear hVe hbe nV hA hM2;go_upto_region 5 with(go_at_call 15;refine(Diagram_calls (HRd.out _ NV.out) (HSx.out _ NV.out) HK.out.bulk).mono ?_;rintro e w4 ⟨d,rfl,df,n4⟩;rw [HK.out.chk0];obtain⟨p1,p2,p3,p4,rfl⟩:=df.form;have DF:=q8 df;have N4:=q8 n4;clear df n4)
 clear q0 q1 q2 q3 q4;obtain⟨U,bD,hUe,hbe,nU,hD⟩:=zZ w4 #[.slice p1 p2 p3,.int .i64 p4] 43;rw [hUe,hbe];have HD:=q8 hD;have NU:=q8 (N4.out.trans nU);have DU:=q8 (DF.out.near nU);have hM2:=qE (NV.out.trans NU.out) HM.out;have q0:U.cell? ⟨bM,0,none⟩=some (.slice a1 m.feats.length a2):=cell1 hM2 rfl;have q1:U.cell? ⟨bM,1,none⟩=some (.slice b1 m.grps.length b2):=cell1 hM2 rfl;have q2:U.cell? ⟨bM,2,none⟩=some (.slice c1 m.atts.length c2):=cell1 hM2 rfl;have q3:U.cell? ⟨bM,3,none⟩=some (.slice d1 m.reqs.length d2):=cell1 hM2 rfl;have q4:U.cell? ⟨bM,4,none⟩=some (.slice e1 m.lims.length e2):=cell1 hM2 rfl;clear hUe hbe nU hD hM2 DF N4;go_upto_region 6 with(go_at_call 41;refine(Broken_calls (HRd.out _ (NV.out.trans NU.out)) (HSx.out _ (NV.out.trans NU.out)) HK.out.bulk (c:=15) (by decide)).mono ?_;rintro e w5 ⟨s,rfl,o5,n5⟩;rw [HK.out.chk0];rw [HK.out.brk]at o5;obtain⟨sg,sc,rfl,hs8⟩:=q5P o5;have N5:=q8 n5;clear o5 n5)
 clear q0 q1 q2 q3 q4;have sOf: ∀w',Near w5 w'→w'.cell? ⟨bA,1,none⟩=some (.int .u64 3)∧w'.cell? ⟨bA,2,none⟩=some (.int .u32 3)∧w'.cell? ⟨bD,0,none⟩=some (.slice p1 p2 p3)∧w'.cell? ⟨bD,1,none⟩=some (.int .i64 p4)∧w'.cell? ⟨sg,0,none⟩=some (.int .i64 8):=fun w' hn=>
  ⟨cell1 (qE (NU.out.trans (N5.out.trans hn)) HA.out) rfl,cell1 (qE (NU.out.trans (N5.out.trans hn)) HA.out) rfl,cell1 (qE (N5.out.trans hn) HD.out) rfl,cell1 (qE (N5.out.trans hn) HD.out) rfl,hn.cell hs8⟩
 obtain⟨r1,r2,r3,r4,r5⟩:=sOf _ (Near.refl _);clear hs8;go_wp2_with (first
  |(go_at_call_of 42 (qs .u32 23);refine(q1C 23 _ rfl (DU.out.near N5.out) HK.out.in23 (by decide)).mono ?_;rintro e w6 ⟨rfl,n6⟩;obtain⟨-,-,r6,r7,r8⟩:=sOf _ n6;have N6:=q8 n6;clear n6)
  |(go_at_call_of 42 (qs .u32 15);refine(q1C 15 _ rfl (DU.out.near (N5.out.trans N6.out)) HK.out.out15 (by decide)).mono ?_;rintro e w7 ⟨rfl,n7⟩;obtain⟨-,-,-,-,r9⟩:=sOf _ (N6.out.trans n7);have N7:=q8 (N6.out.trans n7);clear n7))
 go_ret;exact⟨rfl,N1.out.trans (NW.out.trans (NV.out.trans (NU.out.trans (N5.out.trans N7.out))))⟩
end Go.Proofs.YtjcbmcnbdegpmaaGreatDoor
namespace Go.Proofs.YtjcbmcnbdegpmaaGreatDoor
open Go Go.RowKit Go.Proofs.Gen Go.Proofs.Mod
theorem Qf{m:Mod}(hs:q2J m)(hr:Q8 m):Zd m:=by
 have h1:=hs.feats;have h2:=hs.grps;have h3:=hs.atts;have h4:=hs.reqs;have h5:=hs.lims;have h6:=ZH hs.mems;have h7:m.grps.length*60<=40*60:=Nat.mul_le_mul_right 60 h2;exact⟨by omega,by omega,by omega,by omega,by omega,by omega,fun x hx=>by have:=hs.vals x hx;omega,fun x hx=>by have:=vY (hs.exs x hx);omega,fun f hf=>(hr.feats f hf).2.2⟩
end Go.Proofs.YtjcbmcnbdegpmaaGreatDoor
