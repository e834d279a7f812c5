/- MWhyR, MLawR, LawSpare. -/
import Derived.Test.YtjcbmcnbdegpmaaGreatDoorKLawBack
import Derived.Test.YtjcbmcnbdegpmaaGreatDoorKMLawQ
set_option maxRecDepth 100000
set_option maxHeartbeats 12800000
set_option linter.unusedVariables false
set_option linter.unusedSimpArgs false
open Bool renaming eq_iff_iff->zq,or_eq_true->yM
open Go renaming bodyPost_ret->qo,results->qC
open Go.Lib renaming hid->q8
open Go.Proofs.Tryz renaming prog->qj
open Go.Value.slice renaming injEq->qq
open List renaming all_eq_true->qL,getElem?_drop->uR,getElem?_eq_getElem->qi,getElem?_eq_some_iff->qm,getElem?_of_mem->qZ,getElem?_take->zH,mem_filter->yy,mem_of_getElem?->qp,mem_range->yd,setIfInBounds_toArray->qb,set_cons_succ->qd,set_cons_zero->qh
open Nat renaming lt_of_lt_of_le->qu,zero_le->qv
open Or renaming inl->qB,inr->j4
open Go.Value renaming slice->vd,int->ve,string->vf,pointer->vg,agg->vi,bool->vj
open Go.Obj renaming cells->vk
open Go.Ending renaming returned->vm
open Go.IntKind renaming i64->vp,u8->vq,u32->vr,u64->vt
open Or renaming inl->vu,inr->vv
namespace Go.Proofs.YtjcbmcnbdegpmaaGreatDoor
open Go Go.RowKit Go.Proofs.Gen Go.Proofs.Mod
variable{S:Nat->Prop}{f:F}{k:Nat}{m:Mod}{r:Int}{v:Value}{w:World}
theorem Wz(h:RdMod S w v m)(hS: ∀g,S g->g<w.heap.size)(hb:Zd m)(h0:chk m=0)(hr: ¬(0<=r/\r<(rulesF m).length)):
 Calls qj 21 #[v,.int .i64 r] w fun e w'=>e= .returned (.tuple #[.slice none 0 0,.int .i64 3])/\Near w w':=by
 have HSt:=q8 (fun(w':World)(hn:Near w w')=>xO (h.kept hn (fun _ _ h=>h) (fun _ h=>h)) (fun g hg=>qu (hS g hg) hn.size) hb h0);have HC0:=q8 h0;obtain⟨a1,a2,b1,b2,c1,c2,d1,d2,e1,e2,rfl,-⟩:=RdMod.form h;obtain⟨W,B,hWe,hBe,nW,hA⟩:=zZ w #[.slice a1 m.feats.length a2,.slice b1 m.grps.length b2,.slice c1 m.atts.length c2,.slice d1 m.reqs.length d2,.slice e1 m.lims.length e2] 28;have HWe:=q8 hWe;have HBe:=q8 hBe;have NW:=q8 nW;obtain⟨q0,q1,q2,q3,q4⟩:=vW hA W (Near.refl W);clear h hS hb h0 hWe hBe nW hA;go_enter Tryz.func21,Tryz.ntmps21;go_upto_region 1 with fail
 rw [HWe.out,HBe.out];go_upto_region 2 with(go_at_call 72;refine(HSt.out _ NW.out).mono ?_;rintro e w1 ⟨p,rfl,hg,-,n1⟩;obtain⟨X,rfl,hst⟩:=hg HC0.out;rw [HC0.out];have ST:=q8 hst;have N1:=q8 n1;clear hg hst n1)
 obtain⟨x0,x1,x2,x3,x4,sv,s1,s2,base,hX,-,hSets,-⟩:=ST.out;obtain⟨so,sc,rfl⟩:=hSets.form;have p5:w1.cell? ⟨X,5,none⟩=some (.slice so (rulesF m).length sc):=cell1 hX rfl;generalize(rulesF m).length=n at hr p5;clear q0 q1 q2 q3 q4 hX hSets;by_cases h1:r<0
 .clear hr
  go_wp2_with fail
  exact qo (v:= .tuple #[.slice none 0 0,.int .i64 3]) (by simp [qC,Tryz.results21,go_sem]) rfl ⟨rfl,NW.out.trans N1.out⟩
 .have h2:(n:Int)<=r:=by omega
  clear hr;go_wp2_with fail
  exact qo (v:= .tuple #[.slice none 0 0,.int .i64 3]) (by simp [qC,Tryz.results21,go_sem]) rfl ⟨rfl,NW.out.trans N1.out⟩
theorem q0d{S:Nat→Prop}(h:RdMod S w v m)(hS: ∀g,S g→g<w.heap.size)(hb:Zd m)(h0:chk m=0)(hk:(rulesF m)[k]? =some f):
 Calls qj 21 #[v,.int .i64 (k:Nat)] w fun e w'=> ∃v',e= .returned (.tuple #[v',.int .i64 (explE (rulesF m) (fun c=> !f c) (k:Nat):Nat)])∧RdN w' v' (explL (rulesF m) (fun c=> !f c) (k:Nat))∧Near w w':=by
 have HSt:=q8 (fun(w':World)(hn:Near w w')=>xO (h.kept hn (fun _ _ h=>h) (fun _ h=>h)) (fun g hg=>qu (hS g hg) hn.size) hb h0);have HC0:=q8 h0;have HFew:=q8 (jQ (jm h0));have HX:=q8 (fun(B:Nat)(w':World)(vd:Value)(hA:ka S w' B m)(hd:IsF w' vd (fun c=> !f c))=>wD (but:=(k:Nat)) hA hd HFew.out);have hlt:=(qm.1 hk).1;have HK:=q8 hk;obtain⟨a1,a2,b1,b2,c1,c2,d1,d2,e1,e2,rfl,-⟩:=RdMod.form h;generalize explE (rulesF m) (fun c=> !f c) (k:Nat)=er at HX⊢;generalize explL (rulesF m) (fun c=> !f c) (k:Nat)=el at HX⊢;obtain⟨W,B,hWe,hBe,nW,hA⟩:=zZ w #[.slice a1 m.feats.length a2,.slice b1 m.grps.length b2,.slice c1 m.atts.length c2,.slice d1 m.reqs.length d2,.slice e1 m.lims.length e2] 28;have HWe:=q8 hWe;have HBe:=q8 hBe;have NW:=q8 nW;obtain⟨q0,q1,q2,q3,q4⟩:=vW hA W (Near.refl W);clear h hS hb h0 hWe hBe nW hA hk;go_enter Tryz.func21,Tryz.ntmps21;go_upto_region 1 with fail
 rw [HWe.out,HBe.out];go_upto_region 2 with(go_at_call 72;refine(HSt.out _ NW.out).mono ?_;rintro e w1 ⟨p,rfl,hg,-,n1⟩;obtain⟨X,rfl,hst⟩:=hg HC0.out;rw [HC0.out];have ST:=q8 hst;have N1:=q8 n1;clear hg hst n1)
 obtain⟨x0,x1,x2,x3,x4,sv,s1,s2,base,hX,-,hSets,-⟩:=ST.out;obtain⟨g,cs,a,n,c,t,rfl,t0,t1,hF⟩:=q4G hSets HK.out;have p5:w1.cell? ⟨X,5,none⟩=some (.slice (some ⟨g,0,none⟩) (rulesF m).length cs):=cell1 hX rfl;have HNo:=q8 (not_f hF);have hk0: ¬(k:Int)<0:=by omega
 have hk1:(k:Int)<(rulesF m).length:=by omega
 clear q0 q1 q2 q3 q4 hX hSets hF;go_wp2_with (first
  |(go_at_call 77;refine HNo.out.mono ?_;rintro e w2 ⟨v2,rfl,d2,n2⟩;have D2:=q8 d2;have N2:=q8 n2;clear d2 n2)
  |(go_at_call 73;refine(HX.out _ _ _ (ST.out.near N2.out) D2.out).mono ?_;rintro e w3 ⟨v3,rfl,r3,n3⟩;have R3:=q8 r3;have N3:=q8 n3;clear r3 n3))
 exact qo (v:= .tuple #[v3,.int .i64 er]) (by simp [qC,Tryz.results21,go_sem]) rfl ⟨_,rfl,R3.out,NW.out.trans (N1.out.trans (N2.out.trans N3.out))⟩
theorem Uk{S:Nat→Prop}(h:RdMod S w v m)(hS: ∀g,S g→g<w.heap.size)(hb:Zd m)(h0:chk m=0):
 Calls qj 25 #[v] w fun e w'=> ∃v',e= .returned (.tuple #[v',.int .i64 0])∧OwnR w.heap.size w' v' (rulesOf m)∧Near w w':=by
 have ok:=jm h0;have HCk:=q8 (fun(w':World)(hn:Near w w')=>(h0▸jH (h.kept hn (fun _ _ h=>h) (fun _ h=>h)) (fun g hg=>qu (hS g hg) hn.size) hb:Calls qj 29 #[v] w' fun e w''=>e= .returned (.int .i64 ((0:Nat):Int))∧Near w' w''));have HRu:=q8 (fun(w':World)(hn:Near w w')=>vU (h.kept hn (fun _ _ h=>h) (fun _ h=>h)) ok.n0 (by have:=ok.n24;omega) (by have:=ok.g24;omega) (by have:=ok.r64;omega) (by have:=ok.l16;omega));obtain⟨a1,a2,b1,b2,c1,c2,d1,d2,e1,e2,rfl,-⟩:=RdMod.form h;generalize rulesOf m=rs at HRu⊢;obtain⟨W,B,hWe,hBe,nW,hA⟩:=zZ w #[.slice a1 m.feats.length a2,.slice b1 m.grps.length b2,.slice c1 m.atts.length c2,.slice d1 m.reqs.length d2,.slice e1 m.lims.length e2] 28;have HA:=q8 (vW hA);have HWe:=q8 hWe;have HBe:=q8 hBe;have NW:=q8 nW;obtain⟨q0,q1,q2,q3,q4⟩:=HA.out W (Near.refl W);clear h hS hb h0 hWe hBe nW hA ok;go_enter Tryz.func25,Tryz.ntmps25;go_upto_region 1 with fail
 rw [HWe.out,HBe.out];go_upto_region 2 with(go_at_call 29;refine(HCk.out _ NW.out).mono ?_;rintro e w1 ⟨rfl,n1⟩;have N1:=q8 n1;clear n1)
 clear q0 q1 q2 q3 q4;obtain⟨q0,q1,q2,q3,q4⟩:=HA.out _ N1.out;go_wp2_with (go_at_call 75;refine(HRu.out _ (NW.out.trans N1.out)).mono ?_;rintro e w2 ⟨v2,rfl,o2,n2⟩;have O2:=q8 o2;have N2:=q8 n2;clear o2 n2)
 exact qo (v:= .tuple #[v2,.int .i64 0]) (by simp [qC,Tryz.results25,go_sem]) rfl ⟨_,rfl,yZ O2.out (NW.out.trans N1.out).size,NW.out.trans (N1.out.trans N2.out)⟩
theorem Kt(h:RdMod S w v m)(hS: ∀g,S g->g<w.heap.size)(hb:Zd m)(h0:chk m=0)(hne:nowhere (allF (rulesF m))=true):
 Calls qj 24 #[v] w fun e w'=>e= .returned (.tuple #[.agg #[.bool true,.int .u64 0,.int .u32 0,.int .u32 0,.int .u32 0,.slice none 0 0,.slice none 0 0],.int .i64 0])/\Near w w':=by
 have HSd:=q8 (fun(w':World)(hn:Near w w')=>xO (h.kept hn (fun _ _ h=>h) (fun _ h=>h)) (fun g hg=>qu (hS g hg) hn.size) hb h0);obtain⟨a1,a2,b1,b2,c1,c2,d1,d2,e1,e2,rfl,-⟩:=RdMod.form h;have HC0:=q8 h0;obtain⟨W,hWe,nW,hM,hR⟩:=vH w #[.slice a1 m.feats.length a2,.slice b1 m.grps.length b2,.slice c1 m.atts.length c2,.slice d1 m.reqs.length d2,.slice e1 m.lims.length e2] #[.bool false,.int .u64 0,.int .u32 0,.int .u32 0,.int .u32 0,.slice none 0 0,.slice none 0 0] 28 59;have HR:=q8 hR;have HWe:=q8 hWe;have NW:=q8 nW;obtain⟨q0,q1,q2,q3,q4⟩:=vW hM W (Near.refl W);clear h hS hb h0 hWe nW hM hR;go_enter Tryz.func24,Tryz.ntmps24;go_upto_region 1 with fail
 rw [HWe.out];go_upto_region 2 with(go_at_call 72;refine(HSd.out _ NW.out).mono ?_;rintro e w1 ⟨p,rfl,hgood,-,n1⟩;obtain⟨Bs,rfl,hst⟩:=hgood HC0.out;have HSt:=q8 hst;have N1:=q8 n1;clear hgood hst n1)
 rw [HC0.out];clear q0 q1 q2 q3 q4;obtain⟨x0,x1,x2,x3,x4,xs,xx,xy,xb,hBs,-,-,hall⟩:=HSt.out;obtain⟨y1,y2,y3,y4,hye⟩:=hall.form;simp only [Value.agg.injEq,Array.mk.injEq,List.cons.injEq,and_true]at hye;obtain⟨rfl,rfl⟩:=hye;have s6:w1.cell? ⟨Bs,6,none⟩=some (.slice y1 y2 y3):=cell1 hBs rfl;have s7:w1.cell? ⟨Bs,7,none⟩=some (.int .i64 y4):=cell1 hBs rfl;have HEm:=q8 (show Calls qj 19 #[.agg #[.slice y1 y2 y3,.int .i64 y4]] w1 fun e w'=>e= .returned (.bool true)/\Near w1 w' from hne▸empty_f hall);clear hall hBs;go_upto_region 5 with(go_at_call 19;refine HEm.out.mono ?_;rintro e w2 ⟨rfl,n2⟩;have N2:=q8 n2;clear n2)
 clear s6 s7 HEm;have hR2:=qE (N1.out.trans N2.out) HR.out;have HR2:=q8 hR2;obtain⟨⟨r0,r1,r2,r3,r4,r5,r6⟩,g0,g1,g2,g3,g4,g5,g6⟩:=jP hR2;clear hR2;go_wp2_with fail
 obtain⟨hz1,hz2,-⟩:=uD (NW.out.trans (N1.out.trans N2.out)) (b:=w.heap.size+1) (by omega) HR2.out (.bool true) (.int .u64 0) (.int .u32 0) (.int .u32 0) (.int .u32 0) (.slice none 0 0) (.slice none 0 0) _ rfl;obtain⟨⟨t0,t1,t2,t3,t4,t5,t6⟩,-⟩:=jP hz2;exact qo (v:= .tuple #[.agg #[.bool true,.int .u64 0,.int .u32 0,.int .u32 0,.int .u32 0,.slice none 0 0,.slice none 0 0],.int .i64 0]) (by simp [qC,Tryz.results24,go_sem,t0,t1,t2,t3,t4,t5,t6]) rfl ⟨rfl,hz1⟩
theorem q6x(fs:List F)(f:F)(l:List Nat):(fun c=>cj fs (fun _=>true) l c&& !f c)=cj fs (fun c=> !f c) l:=by
 funext c;rw [GJ,GJ,Bool.true_and,Bool.and_comm]
theorem q6G(fs:List F)(k:Nat)(c:Nat->Bool):((butL fs.length (k:Nat)).all fun i=>(fs[i]?.getD fun _=>false) c)=(allF (fs.take k) c&&allF (fs.drop (k+1)) c):=by
 unfold allF;rw [zq,Bool.and_eq_true,qL,qL,qL];constructor
 .intro h
  refine⟨fun f hf=> ?_,fun f hf=> ?_⟩
  .obtain⟨i,hi⟩:=qZ hf
   rw [zH]at hi;split at hi
   .rename_i hlt
    have:=h i (yy.2 ⟨yd.2 (qm.1 hi).1,decide_eq_true (by omega)⟩)
    rwa [hi]at this
   .cases hi
  .obtain⟨i,hi⟩:=qZ hf
   rw [uR]at hi
   have:=h (k+1+i) (yy.2 ⟨yd.2 (qm.1 hi).1,decide_eq_true (by omega)⟩)
   rwa [hi]at this
 .rintro⟨h1,h2⟩ i hi
  obtain⟨hi,hne⟩:=yy.1 hi;have hlt:=yd.1 hi;have hne':(i:Int)≠k:=of_decide_eq_true hne;have hf:fs[i]? =some fs[i]:=qi hlt;rw [hf];rcases Nat.lt_or_ge i k with h|h
  .exact h1 _ (qp (by rw [zH,if_pos h];exact hf))
  .exact h2 _ (qp (i:=i - (k+1)) (by rw [uR,show k+1+(i - (k+1))=i by omega];exact hf))
theorem Gy(fs:List F)(f:F)(k:Nat):enoughB fs (fun c=> !f c) (butL fs.length (k:Nat))=nowhere (fun c=>(allF (fs.take k) c&&allF (fs.drop (k+1)) c)&& !f c):=by
 unfold enoughB;congr 1;funext c;rw [GJ,q6G,Bool.and_comm]
theorem q6e{r:Nat×Nat}(h:r∈rulesOf m):r.1<=7:=by
 rcases rulesOf_mem h with rfl|⟨i,f,rfl,-⟩|⟨i,f,rfl,-⟩|⟨i,g,rfl,-⟩|⟨i,g,rfl,-⟩|⟨i,x,rfl,-⟩|⟨i,l,rfl,-⟩<;>simp
theorem q0Q{r:Nat×Nat}(hr:(rulesOf m)[k]? =some r)(hf:(rulesF m)[k]? =some f)(he:enoughB (rulesF m) (fun c=> !f c) (butL (rulesF m).length (k:Nat))=true):
 (k∈redTo m (rulesF m).length)↔6<=r.1:=by
 have hk:=q6e (qp hr);have hlt:=(qm.1 hf).1;rw [Gy]at he;unfold redTo;rw [yy,yd];unfold q5F;rw [hr,hf];simp only [he,Bool.and_true,yM,decide_eq_true_eq,hlt,true_and];omega
theorem q6B{n:Nat}{but:Int}{i:Nat}(h:i∈butL n but):(i:Int)≠but:=of_decide_eq_true (yy.1 h).2
theorem Uf(h:RdMod S w v m)(hS: ∀g,S g->g<w.heap.size)(hb:Zd m)(h0:chk m=0):
 Calls qj 24 #[v] w fun e w'=> ∃(vb:Bool)(n1 n2 n3 n4:Nat)(o1:Option Addr)(t1:Nat)(o2:Option Addr)(m2 t2:Nat)(l:List Nat),e= .returned (.tuple #[.agg #[.bool vb,.int .u64 (n1:Nat),.int .u32 (n2:Nat),.int .u32 (n3:Nat),.int .u32 (n4:Nat),.slice o1 l.length t1,.slice o2 m2 t2],.int .i64 0])/\RdN w' (.slice o1 l.length t1) l/\l.length<=1000/\(vb=false->l=redTo m (rulesF m).length)/\Near w w':=by
 cases hne:nowhere (allF (rulesF m))with
 |true=>
  exact(Kt h hS hb h0 hne).mono fun e w' ⟨he,hn⟩=>⟨true,0,0,0,0,none,0,none,0,0,[],he,.inl ⟨rfl,rfl⟩,by simp,(fun h=>by cases h),hn⟩
 |false=>
  obtain⟨sb,hsb⟩:=q24 (LowF.all (Xb (jm h0)));refine(analyse_good h hS hb h0 hne hsb).mono fun e w' ⟨s1,s2,he,r1,r2,hn⟩=> ?_;obtain⟨o1,t1,rfl⟩:=qR r1;obtain⟨o2,t2,rfl⟩:=qR r2;exact⟨false,_,_,_,_,o1,t1,o2,_,t2,_,he,RdN.own r1,Nat.le_trans (Xg m _) (jQ (jm h0)),fun _=>rfl,hn⟩
theorem Yd{S:Nat→Prop}(h:RdMod S w v m)(hS: ∀g,S g→g<w.heap.size)(hr:Q8 m)(_:i64R r)(hv:ji w):
 Calls qj 5 #[v,.int .i64 r] w fun e w'=>e= .returned (.bool true)∧Near w w':=by
 have HRd:=q8 (fun(w':World)(hn:Near w w')=>h.kept hn (fun _ _ h=>h) (fun _ h=>h));have HSx:=q8 (fun(w':World)(hn:Near w w')=>(fun g hg=>qu (hS g hg) hn.size: ∀g,S g→g<w'.heap.size));have HV:=q8 hv;have HRg:=q8 hr;obtain⟨a1,a2,b1,b2,c1,c2,d1,d2,e1,e2,rfl,-⟩:=RdMod.form h;have HSm:=q8 ((uC (m:=m)).1);have HGr:=q8 (fun(w':World)(hn:Near w w')=>wW (HRd.out w' hn));generalize greatM m=gr at HSm HGr;clear h hS hv hr;obtain⟨W,B,hWe,hBe,nW,hM⟩:=zZ w #[.slice a1 m.feats.length a2,.slice b1 m.grps.length b2,.slice c1 m.atts.length c2,.slice d1 m.reqs.length d2,.slice e1 m.lims.length e2] 28;have HM:=q8 (vW hM);have NW:=q8 nW;obtain⟨q0,q1,q2,q3,q4⟩:=HM.out W (Near.refl W);have HWe:=q8 hWe;have HBe:=q8 hBe;clear hWe nW hM hBe;go_enter Tryz.func5,Tryz.ntmps5;go_upto_region 1 with fail
 rw [HWe.out,HBe.out]
 cases gr with
 |true=>
  go_wp2_with (first
   |(go_at_call 8;refine(HGr.out _ NW.out).mono ?_;rintro e w1 ⟨rfl,n1⟩;have N1:=q8 n1;clear n1)
   |(go_at_call 10;refine(wakes3_calls (HV.out.near (NW.out.trans N1.out))).mono ?_;rintro e w2 ⟨rfl,n2⟩;have N2:=q8 n2;clear n2))
  go_ret;exact⟨rfl,NW.out.trans (N1.out.trans N2.out)⟩
 |false=>
 have HSml:=q8 (HSm.out rfl);have HBk:=q8 (Qf HSml.out HRg.out);have HCk:=q8 (fun(w':World)(hn:Near w w')=>uH (HRd.out w' hn) (HSx.out w' hn) HBk.out (fun x hx=>by have:=vY (HSml.out.exs x hx);omega));by_cases h0:chk m=0
 case neg=>
  have e1:((chk m:Int) !=0)=true:=by rw [bne_iff_ne];omega
  generalize chk m=ck at HCk e1;clear h0;go_wp2_with (first
   |(go_at_call 8;refine(HGr.out _ NW.out).mono ?_;rintro e w1 ⟨rfl,n1⟩;obtain⟨r0,r1,r2,r3,r4⟩:=HM.out _ n1;have N1:=q8 n1;clear n1)
   |(go_at_call 9;refine(HCk.out _ (NW.out.trans N1.out)).mono ?_;rintro e w3 ⟨rfl,n3⟩;have N3:=q8 (N1.out.trans n3);clear n3)
   |(go_at_call 10;refine(wakes3_calls (HV.out.near (NW.out.trans N3.out))).mono ?_;rintro e w2 ⟨rfl,n2⟩;have N2:=q8 n2;clear n2))
  go_ret;exact⟨rfl,NW.out.trans (N3.out.trans N2.out)⟩
 have HC0:=q8 h0;rw [h0]at HCk;have HBd:=q8 (show∀w',Near w w'→RdMod S w' (.agg #[.slice a1 m.feats.length a2,.slice b1 m.grps.length b2,.slice c1 m.atts.length c2,.slice d1 m.reqs.length d2,.slice e1 m.lims.length e2]) m∧ ∀g,S g→g<w'.heap.size from fun w' hn=>⟨HRd.out w' hn,HSx.out w' hn⟩);have HAn:=q8 (fun(w':World)(hn:Near w w')=>Uf (HRd.out w' hn) (HSx.out w' hn) HBk.out h0);have HRu:=q8 (fun(w':World)(hn:Near w w')=>Uk (HRd.out w' hn) (HSx.out w' hn) HBk.out h0);have HRS:=q8 (fun(w':World)(hn:Near w w')=>gJ (HRd.out w' hn) (HSx.out w' hn) HBk.out h0 r);have HFew:=q8 (jQ (jm h0));have HLe:=q8 (show(rulesF m).length=(rulesOf m).length by simp [rulesF]);go_upto_region 3 with(first
  |(go_at_call 8;refine(HGr.out _ NW.out).mono ?_;rintro e w1 ⟨rfl,n1⟩;obtain⟨r0,r1,r2,r3,r4⟩:=HM.out _ n1;have N1:=q8 n1;clear n1)
  |(go_at_call 9;refine(HCk.out _ (NW.out.trans N1.out)).mono ?_;rintro e w3 ⟨rfl,n3⟩;have N3:=q8 (N1.out.trans n3);clear n3))
 clear q0 q1 q2 q3 q4 r0 r1 r2 r3 r4;obtain⟨r0,r1,r2,r3,r4⟩:=HM.out _ N3.out;by_cases hin:0≤r∧r<(rulesF m).length
 case neg=>
  have HWo:=q8 (fun(w':World)(hn:Near w w')=>Wz (HRd.out w' hn) (HSx.out w' hn) HBk.out h0 hin);rw [show errR (rulesF m).length r=3 from if_neg hin]at HRS;clear hin h0 HLe;go_upto_region 4 with(go_at_call 20;refine(HRS.out _ (NW.out.trans N3.out)).mono ?_;rintro e w4 ⟨v4,rfl,d4,n4⟩;obtain⟨x1,x2,x3,x4,rfl⟩:=d4.form;have N4:=q8 (N3.out.trans n4);clear d4 n4)
  obtain⟨X,D,hXe,hDe,nX,hD⟩:=zZ w4 #[.slice x1 x2 x3,.int .i64 x4] 43;rw [hXe,hDe];have NX:=q8 (N4.out.trans nX);clear hXe hDe nX hD r0 r1 r2 r3 r4;obtain⟨r0,r1,r2,r3,r4⟩:=HM.out _ NX.out;go_wp2_with (first
   |(go_at_call 21;refine(HWo.out _ (NW.out.trans NX.out)).mono ?_;rintro e w5 ⟨rfl,n5⟩;have N5:=q8 n5;clear n5)
   |(go_at_call 10;refine(wakes3_calls (HV.out.near (NW.out.trans (NX.out.trans N5.out)))).mono ?_;rintro e w8 ⟨rfl,n8⟩;have N8:=q8 n8;clear n8))
  go_ret;exact⟨rfl,NW.out.trans (NX.out.trans (N5.out.trans N8.out))⟩
 obtain⟨k,rfl⟩: ∃k:Nat,r=k:=⟨r.toNat,by omega⟩;have hkl:k<(rulesF m).length:=by omega
 obtain⟨f,hf⟩: ∃f,(rulesF m)[k]? =some f:=⟨_,qi hkl⟩;obtain⟨q,hq⟩: ∃q,(rulesOf m)[k]? =some q:=⟨_,qi (by rw [←HLe.out];exact hkl)⟩;rw [show errR (rulesF m).length (k:Int)=0 from if_pos hin,show q3f (rulesF m) (k:Int)=f by simp [q3f,hf]]at HRS;have HWi0:=q8 (fun(w':World)(hn:Near w w')=>q0d (HRd.out w' hn) (HSx.out w' hn) HBk.out h0 hf);have HCj:=q8 (fun(w':World)(vd vl:Value)(l:List Nat)(but:Int)(hn:Near w w')(hd:IsF w' vd (fun _=>true))(hl:RdN w' vl l)(hi: ∀i∈l,i<(rulesF m).length)(h2:l.length≤1000)=>YJ (but:=but) (HRd.out w' hn) (HSx.out w' hn) HBk.out h0 hd hl hi h2);have HEF:=q8 (fun h=> @YH (rulesF m) (fun c=> !f c) (k:Nat) h);have HEE:=q8 (show explE (rulesF m) (fun c=> !f c) (k:Nat)=if enoughB (rulesF m) (fun c=> !f c) (butL (rulesF m).length (k:Nat))=true then 0 else 8 from rfl);have HEL:=q8 (show¬enoughB (rulesF m) (fun c=> !f c) (butL (rulesF m).length (k:Nat))=true→explL (rulesF m) (fun c=> !f c) (k:Nat)=[]from fun h=>if_neg h);have HNm:=q8 (q0Q hq hf);have HCt:=q8 (fun l=>q6x (rulesF m) f l);generalize explE (rulesF m) (fun c=> !f c) (k:Nat)=er at HWi0 HEE;generalize explL (rulesF m) (fun c=> !f c) (k:Nat)=el at HWi0 HEF HEL;generalize enoughB (rulesF m) (fun c=> !f c) (butL (rulesF m).length (k:Nat))=eb at HEF HEE HEL HNm;generalize redTo m (rulesF m).length=rl at HNm HAn;have HQ:=q8 hq;clear h0 hin hf hq;go_upto_region 4 with(go_at_call 20;refine(HRS.out _ (NW.out.trans N3.out)).mono ?_;rintro e w4 ⟨v4,rfl,d4,n4⟩;obtain⟨x1,x2,x3,x4,rfl⟩:=d4.form;have D4:=q8 d4;have N4:=q8 (N3.out.trans n4);clear d4 n4)
 obtain⟨X,D,hXe,hDe,nX,hD⟩:=zZ w4 #[.slice x1 x2 x3,.int .i64 x4] 43;rw [hXe,hDe];have HD:=q8 hD;have NX:=q8 (N4.out.trans nX);have HDd:=q8 (D4.out.near nX);clear hXe hDe nX hD D4 r0 r1 r2 r3 r4;obtain⟨r0,r1,r2,r3,r4⟩:=HM.out _ NX.out;go_upto_region 5 with(go_at_call 21;refine(HWi0.out _ (NW.out.trans NX.out)).mono ?_;rintro e w5 ⟨v5,rfl,d5,n5⟩;obtain⟨lo,lc,rfl⟩:=d5.form;have L5:=q8 d5;have N5:=q8 n5;clear d5 n5)
 clear r0 r1 r2 r3 r4
 cases eb with
 |false=>
  obtain rfl:er=8:=HEE.out;obtain rfl:el=[]:=HEL.out (by decide);clear HEF HEE HEL HNm;go_wp2_with (go_at_call 10;refine(wakes3_calls (HV.out.near (NW.out.trans (NX.out.trans N5.out)))).mono ?_;rintro e w8 ⟨rfl,n8⟩;have N8:=q8 n8;clear n8)
  go_ret;exact⟨rfl,NW.out.trans (NX.out.trans (N5.out.trans N8.out))⟩
 |true=>
 obtain rfl:er=0:=HEE.out;obtain⟨hsub,hex,hnd⟩:=HEF.out rfl;have hlen:=hsub.length_le;have hbl:=Q3 (rulesF m).length (k:Nat);have HIn:=q8 (fun i hi=>Uc i (hsub.subset hi));have HNe:=q8 (fun i (hi:i∈el)=>q6B (hsub.subset hi));have hfw:=HFew.out;have hl1000:el.length≤1000:=by omega
 have HQa:=q8 (show nowhere (fun c=>cj (rulesF m) (fun _=>true) (exL el (-1)) c&& !f c)=true by rw [show exL el (-1)=el from if_neg (by decide),HCt.out];exact hex);have HNd:=q8 hnd;have HK:=q8 (HNm.out rfl);clear HEF HEE HEL hsub hex hnd hlen hbl hfw HNm;have HNX:=NX;have NX:=q8 (NX.out.trans N5.out);have HDx:=q8 (qE N5.out HD.out);have HDf:=q8 (HDd.out.near N5.out);clear HD HDd;have HSOf:=q8 (fun(w':World)(hn:Near w5 w')=>(show w'.cell? ⟨B,0,none⟩=some (.slice a1 m.feats.length a2)∧w'.cell? ⟨B,1,none⟩=some (.slice b1 m.grps.length b2)∧w'.cell? ⟨B,2,none⟩=some (.slice c1 m.atts.length c2)∧w'.cell? ⟨B,3,none⟩=some (.slice d1 m.reqs.length d2)∧w'.cell? ⟨B,4,none⟩=some (.slice e1 m.lims.length e2)∧w'.cell? ⟨D,0,none⟩=some (.slice x1 x2 x3)∧w'.cell? ⟨D,1,none⟩=some (.int .i64 x4)from by
  obtain⟨r0,r1,r2,r3,r4⟩:=HM.out w' (NX.out.trans hn);exact⟨r0,r1,r2,r3,r4,cell1 (qE hn HDx.out) rfl,cell1 (qE hn HDx.out) rfl⟩))
 have hmx:qj.follows .mixedOrders=true:=by kernel_rfl
 go_upto_region 9 with fail
 refine kn hmx (fun w'=>w'.cell? ⟨B,0,none⟩=some (.slice a1 m.feats.length a2)∧w'.cell? ⟨B,1,none⟩=some (.slice b1 m.grps.length b2)∧w'.cell? ⟨B,2,none⟩=some (.slice c1 m.atts.length c2)∧w'.cell? ⟨B,3,none⟩=some (.slice d1 m.reqs.length d2)∧w'.cell? ⟨B,4,none⟩=some (.slice e1 m.lims.length e2)∧w'.cell? ⟨D,0,none⟩=some (.slice x1 x2 x3)∧w'.cell? ⟨D,1,none⟩=some (.int .i64 x4)) 99 (HSOf.out _ (Near.refl w5).drew) (fun hS=> ?_);refine tD0 (v:= .int .i64 0) (by kernel_rfl) (by kernel_rfl) (by kernel_rfl) (by kernel_rfl) (fun _ _ _ h=>h) (qB ⟨by rfl,fun w' hS'=>by dsimp only at hS';obtain⟨g0,g1,g2,g3,g4,g5,g6⟩:=hS';go_simp⟩) hS ?_;try simp only [Act.put,qb,qh,qd]
 refine tD1 (v:= .bool false) (by kernel_rfl) (by kernel_rfl) (by kernel_rfl) (by kernel_rfl) (fun _ _ _ h=>h) (qB ⟨by rfl,fun w' hS'=>by dsimp only at hS';obtain⟨g0,g1,g2,g3,g4,g5,g6⟩:=hS';go_simp⟩) hS ?_;try simp only [Act.put,qb,qh,qd]
 refine tD2 (v:= .bool false) (by kernel_rfl) (by kernel_rfl) (by kernel_rfl) (by kernel_rfl) (fun _ _ _ h=>h) (qB ⟨by rfl,fun w' hS'=>by dsimp only at hS';obtain⟨g0,g1,g2,g3,g4,g5,g6⟩:=hS';go_simp⟩) hS ?_;try simp only [Act.put,qb,qh,qd]
 refine tD3 (v:= .int .i64 0) (by kernel_rfl) (by kernel_rfl) (by kernel_rfl) (by kernel_rfl) (fun _ _ _ h=>h) (qB ⟨by rfl,fun w' hS'=>by dsimp only at hS';obtain⟨g0,g1,g2,g3,g4,g5,g6⟩:=hS';go_simp⟩) hS ?_;try simp only [Act.put,qb,qh,qd]
 refine tD4 (v:= .bool false) (by kernel_rfl) (by kernel_rfl) (by kernel_rfl) (by kernel_rfl) (fun _ _ _ h=>h) (qB ⟨by rfl,fun w' hS'=>by dsimp only at hS';obtain⟨g0,g1,g2,g3,g4,g5,g6⟩:=hS';go_simp⟩) hS ?_;try simp only [Act.put,qb,qh,qd]
 refine tD5 (v:= .bool false) (by kernel_rfl) (by kernel_rfl) (by kernel_rfl) (by kernel_rfl) (fun _ _ _ h=>h) (qB ⟨by rfl,fun w' hS'=>by dsimp only at hS';obtain⟨g0,g1,g2,g3,g4,g5,g6⟩:=hS';go_simp⟩) hS ?_;try simp only [Act.put,qb,qh,qd]
 refine tD6 (v:= .bool false) (by kernel_rfl) (by kernel_rfl) (by kernel_rfl) (by kernel_rfl) (fun _ _ _ h=>h) (qB ⟨by rfl,fun w' hS'=>by dsimp only at hS';obtain⟨g0,g1,g2,g3,g4,g5,g6⟩:=hS';go_simp⟩) hS ?_;try simp only [Act.put,qb,qh,qd]
 refine tD7 (v:= .agg #[.slice a1 m.feats.length a2,.slice b1 m.grps.length b2,.slice c1 m.atts.length c2,.slice d1 m.reqs.length d2,.slice e1 m.lims.length e2]) (by kernel_rfl) (by kernel_rfl) (by kernel_rfl) (by kernel_rfl) (fun _ _ _ h=>h) (qB ⟨by rfl,fun w' hS'=>by dsimp only at hS';obtain⟨g0,g1,g2,g3,g4,g5,g6⟩:=hS';go_simp⟩) hS ?_;try simp only [Act.put,qb,qh,qd]
 refine tD9 (v:= .slice lo el.length lc) (by kernel_rfl) (by kernel_rfl) (by kernel_rfl) (by kernel_rfl) (fun _ _ _ h=>h) (qB ⟨by rfl,fun w' hS'=>by dsimp only at hS';obtain⟨g0,g1,g2,g3,g4,g5,g6⟩:=hS';go_simp⟩) hS ?_;try simp only [Act.put,qb,qh,qd]
 refine q6R (v:= .agg #[.slice x1 x2 x3,.int .i64 x4]) (by kernel_rfl) (by kernel_rfl) (by kernel_rfl) (by kernel_rfl) (fun _ _ _ h=>h) (qB ⟨by rfl,fun w' hS'=>by dsimp only at hS';obtain⟨g0,g1,g2,g3,g4,g5,g6⟩:=hS';go_simp⟩) hS ?_;try simp only [Act.put,qb,qh,qd]
 refine oZ8 (by kernel_rfl) (fun K hK=> ?_);go_simp;refine(true_f _).mono ?_;rintro e z1 ⟨u1,rfl,t1,k1⟩;have Z1:=q8 ((Near.refl w5).drew.trans k1);have T1:=q8 t1;clear t1 k1;have hS:=HSOf.out _ Z1.out;refine hK.out _ _ (j4 hS) ?_;clear hK K;try simp only [Act.put,qb,qh,qd]
 refine q88 (by kernel_rfl) (fun K hK=> ?_);go_simp;refine(HCj.out z1 _ _ el (-1) (NW.out.trans (NX.out.trans Z1.out)) T1.out (L5.out.near Z1.out) HIn.out hl1000).mono ?_;rintro e z2 ⟨u2,rfl,t2,k2⟩;have Z2:=q8 (Z1.out.trans k2);have HWi:=q8 (within_f t2 (HDf.out.near Z2.out));rw [HQa.out]at HWi;clear t2 k2;have hS:=HSOf.out _ Z2.out;refine hK.out _ _ (j4 hS) ?_;clear hK K;try simp only [Act.put,qb,qh,qd]
 refine q8k (by kernel_rfl) (fun K hK=> ?_);go_simp;refine HWi.out.mono ?_;rintro e z3 ⟨rfl,k3⟩;have Z3:=q8 (Z2.out.trans k3);clear k3;have hS:=HSOf.out _ Z3.out;refine hK.out _ _ (j4 hS) ?_;clear hK K;try simp only [Act.put,qb,qh,qd]
 refine q6P (v:= .bool false) (by kernel_rfl) (by kernel_rfl) (by kernel_rfl) (by kernel_rfl) (fun _ _ _ h=>h) (qB ⟨by rfl,fun w' hS'=>by dsimp only at hS';obtain⟨g0,g1,g2,g3,g4,g5,g6⟩:=hS';go_simp⟩) hS ?_;try simp only [Act.put,qb,qh,qd]
 refine q5s (v:= .bool false) (by kernel_rfl) (by kernel_rfl) (by kernel_rfl) (by kernel_rfl) (fun _ _ _ h=>h) (qB ⟨by rfl,fun w' hS'=>by dsimp only at hS';obtain⟨g0,g1,g2,g3,g4,g5,g6⟩:=hS';go_simp⟩) hS ?_;try simp only [Act.put,qb,qh,qd]
 refine yR (by kernel_rfl) ?_;go_wp2_with fail
 clear hS;go_loopw [9] (fun ix wr=> ∃i:Nat,i≤el.length∧ix= .int .i64 i∧Near w5 wr) (fun ix _=>el.length - (intOf ix).toNat)
 case atStart=>exact⟨0,qv _,rfl,Z3.out⟩
 case round=>
  obtain⟨i,hi,rfl,hnr⟩:=hrel;have HNr:=q8 hnr;have LR:=q8 (L5.out.near hnr);clear hnr;by_cases hlt:i<el.length
  ·have hlt':(i:Int)<el.length:=by omega
   obtain⟨x,hx⟩: ∃x,el[i]? =some x:=⟨_,qi hlt⟩;obtain⟨g,o,rfl,hcell⟩: ∃g o,lo=some ⟨g,o,none⟩∧ ∀(w':World),Near wr w'→w'.cell? ⟨g,o+i,none⟩=some (.int .i64 (x:Nat)):=by
    rcases LR.out with⟨-,e⟩|⟨g,o,c,e,hc⟩
    ·rw [e]at hlt;simp at hlt
    ·simp only [qq,true_and]at e
     exact⟨g,o,e.1,fun w' hn=>hn.cell (hc i x hx)⟩
   have hxk:((x:Int)==(k:Int))=false:=beq_eq_false_iff_ne.2 (HNe.out x (qp hx));have HSOf:=q8 (fun(w':World)(hn:Near wr w')=>(show w'.cell? ⟨B,0,none⟩=some (.slice a1 m.feats.length a2)∧w'.cell? ⟨B,1,none⟩=some (.slice b1 m.grps.length b2)∧w'.cell? ⟨B,2,none⟩=some (.slice c1 m.atts.length c2)∧w'.cell? ⟨B,3,none⟩=some (.slice d1 m.reqs.length d2)∧w'.cell? ⟨B,4,none⟩=some (.slice e1 m.lims.length e2)∧w'.cell? ⟨D,0,none⟩=some (.slice x1 x2 x3)∧w'.cell? ⟨D,1,none⟩=some (.int .i64 x4)∧w'.cell? ⟨g,o+i,none⟩=some (.int .i64 (x:Nat))from by
    obtain⟨r0,r1,r2,r3,r4,s0,s1⟩:=HSOf.out w' (HNr.out.trans hn);exact⟨r0,r1,r2,r3,r4,s0,s1,hcell w' hn⟩))
   have HQi:=q8 (show nowhere (fun c=>cj (rulesF m) (fun _=>true) (exL el (i:Int)) c&& !f c)=false by
    rw [show exL el (i:Int)=el.eraseIdx i by unfold exL;rw [if_pos (by omega)];rfl,HCt.out];exact HNd.out i hlt)
   clear hcell hx;go_upto_region 14 with fail
   refine kn hmx (fun w'=>w'.cell? ⟨B,0,none⟩=some (.slice a1 m.feats.length a2)∧w'.cell? ⟨B,1,none⟩=some (.slice b1 m.grps.length b2)∧w'.cell? ⟨B,2,none⟩=some (.slice c1 m.atts.length c2)∧w'.cell? ⟨B,3,none⟩=some (.slice d1 m.reqs.length d2)∧w'.cell? ⟨B,4,none⟩=some (.slice e1 m.lims.length e2)∧w'.cell? ⟨D,0,none⟩=some (.slice x1 x2 x3)∧w'.cell? ⟨D,1,none⟩=some (.int .i64 x4)∧w'.cell? ⟨g,o+i,none⟩=some (.int .i64 (x:Nat))) 99 (HSOf.out _ (Near.refl wr).drew) (fun hS=> ?_);refine tD0 (v:= .slice (some ⟨g,o,none⟩) el.length lc) (by kernel_rfl) (by kernel_rfl) (by kernel_rfl) (by kernel_rfl) (fun _ _ _ h=>h) (qB ⟨by rfl,fun w' hS'=>by dsimp only at hS';obtain⟨g0,g1,g2,g3,g4,g5,g6,g7⟩:=hS';go_simp⟩) hS ?_;try simp only [Act.put,qb,qh,qd]
   refine tD1 (v:= .int .i64 (i:Nat)) (by kernel_rfl) (by kernel_rfl) (by kernel_rfl) (by kernel_rfl) (fun _ _ _ h=>h) (qB ⟨by rfl,fun w' hS'=>by dsimp only at hS';obtain⟨g0,g1,g2,g3,g4,g5,g6,g7⟩:=hS';go_simp⟩) hS ?_;try simp only [Act.put,qb,qh,qd]
   refine tD2 (v:= .pointer (some ⟨g,o+i,none⟩)) (by kernel_rfl) (by kernel_rfl) (by kernel_rfl) (by kernel_rfl) (fun _ _ _ h=>h) (qB ⟨by rfl,fun w' hS'=>by dsimp only at hS';obtain⟨g0,g1,g2,g3,g4,g5,g6,g7⟩:=hS';go_simp⟩) hS ?_;try simp only [Act.put,qb,qh,qd]
   refine tD3 (v:= .int .i64 (x:Nat)) (by kernel_rfl) (by kernel_rfl) (by kernel_rfl) (by kernel_rfl) (fun _ _ _ h=>h) (qB ⟨by rfl,fun w' hS'=>by dsimp only at hS';obtain⟨g0,g1,g2,g3,g4,g5,g6,g7⟩:=hS';go_simp⟩) hS ?_;try simp only [Act.put,qb,qh,qd]
   refine tD4 (v:= .int .i64 (k:Nat)) (by kernel_rfl) (by kernel_rfl) (by kernel_rfl) (by kernel_rfl) (fun _ _ _ h=>h) (qB ⟨by rfl,fun w' hS'=>by dsimp only at hS';obtain⟨g0,g1,g2,g3,g4,g5,g6,g7⟩:=hS';go_simp⟩) hS ?_;try simp only [Act.put,qb,qh,qd]
   refine tD5 (v:= .bool false) (by kernel_rfl) (by kernel_rfl) (by kernel_rfl) (by kernel_rfl) (fun _ _ _ h=>h) (qB ⟨by rfl,fun w' hS'=>by dsimp only at hS';obtain⟨g0,g1,g2,g3,g4,g5,g6,g7⟩:=hS';go_simp⟩) hS ?_;try simp only [Act.put,qb,qh,qd]
   refine tD6 (v:= .bool false) (by kernel_rfl) (by kernel_rfl) (by kernel_rfl) (by kernel_rfl) (fun _ _ _ h=>h) (qB ⟨by rfl,fun w' hS'=>by dsimp only at hS';obtain⟨g0,g1,g2,g3,g4,g5,g6,g7⟩:=hS';go_simp⟩) hS ?_;try simp only [Act.put,qb,qh,qd]
   refine tD7 (v:= .agg #[.slice a1 m.feats.length a2,.slice b1 m.grps.length b2,.slice c1 m.atts.length c2,.slice d1 m.reqs.length d2,.slice e1 m.lims.length e2]) (by kernel_rfl) (by kernel_rfl) (by kernel_rfl) (by kernel_rfl) (fun _ _ _ h=>h) (qB ⟨by rfl,fun w' hS'=>by dsimp only at hS';obtain⟨g0,g1,g2,g3,g4,g5,g6,g7⟩:=hS';go_simp⟩) hS ?_;try simp only [Act.put,qb,qh,qd]
   refine tD9 (v:= .slice (some ⟨g,o,none⟩) el.length lc) (by kernel_rfl) (by kernel_rfl) (by kernel_rfl) (by kernel_rfl) (fun _ _ _ h=>h) (qB ⟨by rfl,fun w' hS'=>by dsimp only at hS';obtain⟨g0,g1,g2,g3,g4,g5,g6,g7⟩:=hS';go_simp⟩) hS ?_;try simp only [Act.put,qb,qh,qd]
   refine q6S (v:= .int .i64 (i:Nat)) (by kernel_rfl) (by kernel_rfl) (by kernel_rfl) (by kernel_rfl) (fun _ _ _ h=>h) (qB ⟨by rfl,fun w' hS'=>by dsimp only at hS';obtain⟨g0,g1,g2,g3,g4,g5,g6,g7⟩:=hS';go_simp⟩) hS ?_;try simp only [Act.put,qb,qh,qd]
   refine q6Q (v:= .agg #[.slice x1 x2 x3,.int .i64 x4]) (by kernel_rfl) (by kernel_rfl) (by kernel_rfl) (by kernel_rfl) (fun _ _ _ h=>h) (qB ⟨by rfl,fun w' hS'=>by dsimp only at hS';obtain⟨g0,g1,g2,g3,g4,g5,g6,g7⟩:=hS';go_simp⟩) hS ?_;try simp only [Act.put,qb,qh,qd]
   refine oZ8 (by kernel_rfl) (fun K hK=> ?_);go_simp;refine(true_f _).mono ?_;rintro e z1 ⟨u1,rfl,t1,k1⟩;have Z1:=q8 ((Near.refl wr).drew.trans k1);have T1:=q8 t1;clear t1 k1;have hS:=HSOf.out _ Z1.out;refine hK.out _ _ (j4 hS) ?_;clear hK K;try simp only [Act.put,qb,qh,qd]
   refine q87 (by kernel_rfl) (fun K hK=> ?_);go_simp;refine(HCj.out z1 _ _ el (i:Int) (NW.out.trans (NX.out.trans (HNr.out.trans Z1.out))) T1.out (LR.out.near Z1.out) HIn.out hl1000).mono ?_;rintro e z2 ⟨u2,rfl,t2,k2⟩;have Z2:=q8 (Z1.out.trans k2);have HWi:=q8 (within_f t2 (HDf.out.near (HNr.out.trans Z2.out)));rw [HQi.out]at HWi;clear t2 k2;have hS:=HSOf.out _ Z2.out;refine hK.out _ _ (j4 hS) ?_;clear hK K;try simp only [Act.put,qb,qh,qd]
   refine q8j (by kernel_rfl) (fun K hK=> ?_);go_simp;refine HWi.out.mono ?_;rintro e z3 ⟨rfl,k3⟩;have Z3:=q8 (Z2.out.trans k3);clear k3;have hS:=HSOf.out _ Z3.out;refine hK.out _ _ (j4 hS) ?_;clear hK K;try simp only [Act.put,qb,qh,qd]
   refine q5s (v:= .bool false) (by kernel_rfl) (by kernel_rfl) (by kernel_rfl) (by kernel_rfl) (fun _ _ _ h=>h) (qB ⟨by rfl,fun w' hS'=>by dsimp only at hS';obtain⟨g0,g1,g2,g3,g4,g5,g6,g7⟩:=hS';go_simp⟩) hS ?_;try simp only [Act.put,qb,qh,qd]
   refine yR (by kernel_rfl) ?_;go_wp2_with fail
   exact⟨⟨i+1,hlt,by go_num,HNr.out.trans Z3.out⟩,by simp [intOf];omega⟩
  ·obtain rfl:i=el.length:=by omega
   obtain⟨r0,r1,r2,r3,r4⟩:=HM.out wr (NX.out.trans HNr.out);go_upto_region 17 with(go_at_call 24;refine(HAn.out _ (NW.out.trans (NX.out.trans HNr.out))).mono ?_;rintro e w6 ⟨vb,n1,n2,n3,n4,o1,t1,o2,m2,t2,l,rfl,rl6,hb6,hl6,nn6⟩;have R6:=q8 rl6;have H6:=q8 hl6;have N6:=q8 (HNr.out.trans nn6);clear rl6 hl6 nn6)
   obtain⟨Y,A,hYe,hAe,nY,hA⟩:=zZ w6 #[.bool vb,.int .u64 (n1:Nat),.int .u32 (n2:Nat),.int .u32 (n3:Nat),.int .u32 (n4:Nat),.slice o1 l.length t1,.slice o2 m2 t2] 59;rw [hYe,hAe];have HA:=q8 hA;have NY:=q8 (NX.out.trans (N6.out.trans nY));have R6:=q8 (R6.out.near nY);clear hYe hAe nY hA r0 r1 r2 r3 r4;obtain⟨r0,r1,r2,r3,r4⟩:=HM.out Y NY.out;go_upto_region 18 with(go_at_call 25;refine(HRu.out _ (NW.out.trans NY.out)).mono ?_;rintro e w7 ⟨v7,rfl,o7,n7⟩;obtain⟨ro,rc,rfl⟩:=o7.form;have HRow:=q8 o7.row;have N7:=q8 n7;clear o7 n7)
   clear r0 r1 r2 r3 r4;go_wp2_with fail
   go_loopw [14,15] (fun nm ix wr=> ∃i:Nat,i≤l.length∧ix= .int .i64 i∧nm= .bool (decide (k∈l.take i))∧Near w7 wr) (fun _ ix _=>l.length - (intOf ix).toNat)
   case atStart=>exact⟨0,qv _,rfl,by simp,Near.refl _⟩
   case round=>
    obtain⟨i,hi,rfl,rfl,hnr⟩:=hrel;have HNs:=q8 (N7.out.trans hnr);have HNt:=q8 hnr;have c5:wr.cell? ⟨A,5,none⟩=some (.slice o1 l.length t1):=cell1 (qE HNs.out HA.out) rfl;clear hnr;by_cases hlt:i<l.length
    ·have hlt':(i:Int)<l.length:=by omega
     obtain⟨x,hx⟩: ∃x,l[i]? =some x:=⟨_,qi hlt⟩;obtain⟨g,o,rfl,hcell⟩: ∃g o,o1=some ⟨g,o,none⟩∧wr.cell? ⟨g,o+i,none⟩=some (.int .i64 (x:Nat)):=by
      rcases R6.out with⟨-,e⟩|⟨g,o,c,e,hc⟩
      ·rw [e]at hlt;simp at hlt
      ·simp only [qq,true_and]at e
       exact⟨g,o,e.1,HNs.out.cell (hc i x hx)⟩
     have HMm:=q8 (show decide (k∈l.take (i+1))=(decide (k∈l.take i)||((x:Int)==(k:Int))) by
      rw [show l.take (i+1)=l.take i++[x] by rw [List.take_add_one,hx];rfl,zq,decide_eq_true_eq,yM,decide_eq_true_eq,beq_iff_eq,List.mem_append,List.mem_singleton];exact or_congr Iff.rfl ⟨fun e=>by omega,fun e=>by omega⟩)
     generalize decide (k∈l.take i)=b1 at HMm⊢
     cases b1 with
     |true=>
      have HB:=q8 (show decide (k∈l.take (i+1))=true from HMm.out);clear HMm hx;go_wp2_with fail
      exact⟨⟨i+1,hlt,by go_num,by rw [HB.out],HNt.out⟩,by simp [intOf];omega⟩
     |false=>
      have HB:=q8 (show decide (k∈l.take (i+1))=((x:Int)==(k:Int))from HMm.out);clear HMm hx;go_wp2_with fail
      exact⟨⟨i+1,hlt,by go_num,by rw [HB.out],HNt.out⟩,by simp [intOf];omega⟩
    ·obtain rfl:i=l.length:=by omega
     rw [List.take_length];have c0:wr.cell? ⟨A,0,none⟩=some (.bool vb):=cell1 (qE HNs.out HA.out) rfl;have HWk:=q8 (wakes3_calls (HV.out.near (NW.out.trans (NY.out.trans HNs.out))))
     cases vb with
     |true=>
      go_wp2_with (go_at_call 10;refine HWk.out.mono ?_;rintro e w9 ⟨rfl,n9⟩;have N9:=q8 n9;clear n9)
      go_ret;exact⟨rfl,NW.out.trans (NY.out.trans (HNs.out.trans N9.out))⟩
     |false=>
      have HLk:=q8 (show k∈l↔6≤q.1 by rw [H6.out rfl];exact HK.out);obtain⟨ao',cap',e,hc⟩:=HRow.out;obtain⟨bb,oo,vs,hao,-,hcell,hv⟩:=hc k q HQ.out;obtain rfl:vs=[.int .u8 q.1,.int .i64 q.2]:=hv;simp only [qq,true_and]at e;obtain⟨rfl,rfl⟩:=e;subst hao;have g0:wr.cell? ⟨bb,oo+k*2,none⟩=some (.int .u8 q.1):=HNt.out.cell (hcell 0 _ rfl);have hkr:(k:Int)<(rulesOf m).length:=by have:=HLe.out;omega
      clear hc hcell;by_cases h6:6≤q.1
      ·have h6':(6:Int)≤q.1:=by omega
       have hd:decide (k∈l)=true:=decide_eq_true (HLk.out.2 h6);rw [hd];clear hd h6;go_wp2_with (go_at_call 10;refine HWk.out.mono ?_;rintro e w9 ⟨rfl,n9⟩;have N9:=q8 n9;clear n9)
       go_ret;exact⟨rfl,NW.out.trans (NY.out.trans (HNs.out.trans N9.out))⟩
      ·have h6': ¬(6:Int)≤q.1:=by omega
       have hd:decide (k∈l)=false:=decide_eq_false (fun h=>h6 (HLk.out.1 h));rw [hd];clear hd h6;go_wp2_with (go_at_call 10;refine HWk.out.mono ?_;rintro e w9 ⟨rfl,n9⟩;have N9:=q8 n9;clear n9)
       go_ret;exact⟨rfl,NW.out.trans (NY.out.trans (HNs.out.trans N9.out))⟩
end Go.Proofs.YtjcbmcnbdegpmaaGreatDoor
