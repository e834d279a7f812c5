/- LawMin, MOpenC. -/
import Derived.Test.YtjcbmcnbdegpmaaGreatDoorKLawBack
import Derived.Test.YtjcbmcnbdegpmaaGreatDoorKMLawQ
set_option maxRecDepth 100000
set_option maxHeartbeats 12800000
set_option linter.unusedVariables false
set_option linter.unusedSimpArgs false
open Go.DataW renaming trod->yK
open Go.Lib renaming hid->q8
open Go.Proofs.Tryz renaming prog->qj
open Go.Value.slice renaming injEq->qq
open List renaming getElem?_eq_getElem->qi,setIfInBounds_toArray->qb,set_cons_succ->qd,set_cons_zero->qh
open Or renaming inl->qB,inr->j4
open Go.Value renaming slice->vd,int->ve,string->vf,pointer->vg,agg->vi,bool->vj
open Go.Obj renaming cells->vk
open Go.Ending renaming returned->vm
open Go.IntKind renaming i64->vp,u8->vq,u32->vr,u64->vt
open Or renaming inl->vu,inr->vv
namespace Go.Proofs.YtjcbmcnbdegpmaaGreatDoor
open Go Go.RowKit Go.Proofs.Gen Go.Proofs.Mod
theorem Xy{S:Nat->Prop}{w:World}{v:Value}{m:Mod}{on off:Nat}(h:RdMod S w v m)(hS: ∀g,S g->g<w.heap.size)(hr:Q8 m)(h1:on<4294967296)(h2:off<4294967296)(hv:ji w):
 Calls qj 4 #[v,.agg #[.int .u32 on,.int .u32 off]] w fun e w'=>e= .returned (.bool true)/\Near w w':=by
 have HRd:=q8 (fun(w':World)(hn:Near w w')=>h.kept hn (fun _ _ h=>h) (fun _ h=>h));have HSx:=q8 (fun(w':World)(hn:Near w w')=>(fun g hg=>Nat.lt_of_lt_of_le (hS g hg) hn.size: ∀g,S g->g<w'.heap.size));have HV:=q8 hv;have HRg:=q8 hr;have HCu:=q8 (fun w'=>q7t h1 h2 w');generalize cubeF on off=d at HCu;obtain⟨a1,a2,b1,b2,c1,c2,d1,d2,e1,e2,rfl,-⟩:=RdMod.form h;have HSm:=q8 ((uC (m:=m)).1);have HGr:=q8 (fun(w':World)(hn:Near w w')=>wW (HRd.out w' hn));generalize greatM m=gr at HSm HGr;clear h hS hv hr;obtain⟨W,hWe,nW,hM,hC⟩:=vH w #[.slice a1 m.feats.length a2,.slice b1 m.grps.length b2,.slice c1 m.atts.length c2,.slice d1 m.reqs.length d2,.slice e1 m.lims.length e2] #[.int .u32 (on:Nat),.int .u32 (off:Nat)] 28 40;have HM:=q8 (vW hM);have HC:=q8 hC;have NW:=q8 nW;have HWe:=q8 hWe;obtain⟨q0,q1,q2,q3,q4⟩:=HM.out W (Near.refl W);clear hWe nW hM hC;go_enter Tryz.func4,Tryz.ntmps4;go_upto_region 1 with fail
 rw [HWe.out]
 cases gr with
 |true=>
  go_wp2_with (first
   |(go_at_call 8;refine(HGr.out _ NW.out).mono ?_;rintro e w1 ⟨rfl,n1⟩;have N1:=q8 n1;clear n1)
   |(go_at_call 10;refine(wakes3_calls (HV.out.near (NW.out.trans N1.out))).mono ?_;rintro e w2 ⟨rfl,n2⟩;have N2:=q8 n2;clear n2))
  go_ret;exact⟨rfl,NW.out.trans (N1.out.trans N2.out)⟩
 |false=>
 have HSml:=q8 (HSm.out rfl);have HBk:=q8 (Qf HSml.out HRg.out);have HCk:=q8 (fun(w':World)(hn:Near w w')=>uH (HRd.out w' hn) (HSx.out w' hn) HBk.out (fun x hx=>by have:=vY (HSml.out.exs x hx);omega));by_cases h0:chk m=0
 case neg=>
  have e1:((chk m:Int) !=0)=true:=by rw [bne_iff_ne];omega
  generalize chk m=ck at HCk e1;clear h0;go_wp2_with (first
   |(go_at_call 8;refine(HGr.out _ NW.out).mono ?_;rintro e w1 ⟨rfl,n1⟩;obtain⟨r0,r1,r2,r3,r4⟩:=HM.out _ n1;have N1:=q8 n1;clear n1)
   |(go_at_call 9;refine(HCk.out _ (NW.out.trans N1.out)).mono ?_;rintro e w3 ⟨rfl,n3⟩;have N3:=q8 (N1.out.trans n3);clear n3)
   |(go_at_call 10;refine(wakes3_calls (HV.out.near (NW.out.trans N3.out))).mono ?_;rintro e w2 ⟨rfl,n2⟩;have N2:=q8 n2;clear n2))
  go_ret;exact⟨rfl,NW.out.trans (N3.out.trans N2.out)⟩
 have HC0:=q8 h0;rw [h0]at HCk;have HDi:=q8 (fun(w':World)(hn:Near w w')=>(show Calls qj 15 #[.agg #[.slice a1 m.feats.length a2,.slice b1 m.grps.length b2,.slice c1 m.atts.length c2,.slice d1 m.reqs.length d2,.slice e1 m.lims.length e2]] w' fun e w''=> ∃d,e= .returned (.tuple #[d,.int .i64 0])/\IsF w'' d (allF (rulesF m))/\Near w' w'' by
  have h:=Diagram_calls (HRd.out w' hn) (HSx.out w' hn) HBk.out;rw [h0,show modF m=allF (rulesF m)from if_pos h0]at h;exact h))
 have HWy:=q8 (fun(w':World)(vd:Value)(hn:Near w w')(hd:IsF w' vd d)=>q2I (HRd.out w' hn) (HSx.out w' hn) HBk.out h0 hd);have HFew:=q8 (jQ (jm h0));have HCj:=q8 (fun(w':World)(vd vl:Value)(l:List Nat)(but:Int)(hn:Near w w')(hd:IsF w' vd d)(hl:RdN w' vl l)(hi: ∀i∈l,i<(rulesF m).length)(h2:l.length<=1000)=>YJ (but:=but) (HRd.out w' hn) (HSx.out w' hn) HBk.out h0 hd hl hi h2);have HEA:=q8 (Gz (rulesF m) d);have HEF:=q8 (fun h=> @YH (rulesF m) d (-1) h);have HEE:=q8 (show explE (rulesF m) d (-1)=if enoughB (rulesF m) d (butL (rulesF m).length (-1))=true then 0 else 8 from rfl);have HEL:=q8 (show¬enoughB (rulesF m) d (butL (rulesF m).length (-1))=true->explL (rulesF m) d (-1)=[]from fun h=>if_neg h);generalize explE (rulesF m) d (-1)=er at HWy HEE;generalize explL (rulesF m) d (-1)=el at HWy HEF HEL;generalize rulesF m=fs at HDi HWy HFew HCj HEA HEF HEE HEL;generalize enoughB fs d (butL fs.length (-1))=eb at HEA HEF HEE HEL;have c0:W.cell? ⟨w.heap.size+1,0,none⟩=some (.int .u32 (on:Nat)):=cell1 HC.out rfl;clear h0 c0;go_upto_region 3 with(first
  |(go_at_call 8;refine(HGr.out _ NW.out).mono ?_;rintro e w1 ⟨rfl,n1⟩;obtain⟨r0,r1,r2,r3,r4⟩:=HM.out _ n1;have N1:=q8 n1;clear n1)
  |(go_at_call 9;refine(HCk.out _ (NW.out.trans N1.out)).mono ?_;rintro e w3 ⟨rfl,n3⟩;have N3:=q8 (N1.out.trans n3);clear n3))
 clear q0 q1 q2 q3 q4 r0 r1 r2 r3 r4;have c0:w3.cell? ⟨w.heap.size+1,0,none⟩=some (.int .u32 (on:Nat)):=cell1 (qE N3.out HC.out) rfl;have c1:w3.cell? ⟨w.heap.size+1,1,none⟩=some (.int .u32 (off:Nat)):=cell1 (qE N3.out HC.out) rfl;go_upto_region 4 with(go_at_call 14;refine(HCu.out _).mono ?_;rintro e w4 ⟨v4,rfl,d4,n4⟩;obtain⟨x1,x2,x3,x4,rfl⟩:=d4.form;have D4:=q8 d4;have N4:=q8 (N3.out.trans n4);clear d4 n4)
 clear c0 c1;obtain⟨U,D,hUe,hDe,nU,hD⟩:=zZ w4 #[.slice x1 x2 x3,.int .i64 x4] 43;rw [hUe,hDe];have HD:=q8 hD;have NU:=q8 (N4.out.trans nU);have HDd:=q8 (D4.out.near nU);clear hUe hDe nU hD D4;obtain⟨r0,r1,r2,r3,r4⟩:=HM.out _ NU.out;go_upto_region 5 with(go_at_call 15;refine(HDi.out _ (NW.out.trans NU.out)).mono ?_;rintro e w5 ⟨v5,rfl,d5,n5⟩;obtain⟨y1,y2,y3,y4,rfl⟩:=d5.form;have D5:=q8 d5;have N5:=q8 n5;clear d5 n5)
 obtain⟨X,A,hXe,hAe,nX,hA⟩:=zZ w5 #[.slice y1 y2 y3,.int .i64 y4] 43;rw [hXe,hAe];have HA:=q8 hA;have NX:=q8 (NU.out.trans (N5.out.trans nX));have HDx:=q8 (qE (N5.out.trans nX) HD.out);have HAf:=q8 (D5.out.near nX);have HDf:=q8 (HDd.out.near (N5.out.trans nX));clear hXe hAe nX hA D5 r0 r1 r2 r3 r4 HD HDd;have HCl:=q8 (fun(w':World)(hn:Near X w')=>(show(w'.cell? ⟨w.heap.size,0,none⟩=some (.slice a1 m.feats.length a2)/\w'.cell? ⟨w.heap.size,1,none⟩=some (.slice b1 m.grps.length b2)/\w'.cell? ⟨w.heap.size,2,none⟩=some (.slice c1 m.atts.length c2)/\w'.cell? ⟨w.heap.size,3,none⟩=some (.slice d1 m.reqs.length d2)/\w'.cell? ⟨w.heap.size,4,none⟩=some (.slice e1 m.lims.length e2))/\(w'.cell? ⟨D,0,none⟩=some (.slice x1 x2 x3)/\w'.cell? ⟨D,1,none⟩=some (.int .i64 x4))/\w'.cell? ⟨A,0,none⟩=some (.slice y1 y2 y3)/\w'.cell? ⟨A,1,none⟩=some (.int .i64 y4)from
  ⟨HM.out _ (NX.out.trans hn),⟨cell1 (qE hn HDx.out) rfl,cell1 (qE hn HDx.out) rfl⟩,cell1 (qE hn HA.out) rfl,cell1 (qE hn HA.out) rfl⟩))
 obtain⟨⟨r0,r1,r2,r3,r4⟩,⟨s0,s1⟩,-⟩:=HCl.out X (Near.refl X);go_upto_region 8 with(go_at_call 16;refine(HWy.out _ _ (NW.out.trans NX.out) HDf.out).mono ?_;rintro e w6 ⟨v6,rfl,d6,n6⟩;obtain⟨lo,lc,rfl⟩:=d6.form;have D6:=q8 d6;have N6:=q8 n6;clear d6 n6)
 clear r0 r1 r2 r3 r4 s0 s1;obtain⟨⟨r0,r1,r2,r3,r4⟩,⟨s0,s1⟩,t0,t1⟩:=HCl.out w6 N6.out;have HMt:=q8 (q60 (HAf.out.near N6.out) (HDf.out.near N6.out));rw [<-HEA.out]at HMt
 cases eb with
 |false=>
  obtain rfl:er=8:=HEE.out;obtain rfl:el=[]:=HEL.out (by decide);clear HEF HEA HEE HEL;go_wp2_with (first
   |(go_at_call 17;refine HMt.out.mono ?_;rintro e w7 ⟨rfl,n7⟩;have N7:=q8 (N6.out.trans n7);clear n7)
   |(go_at_call 10;refine(wakes3_calls (HV.out.near (NW.out.trans (NX.out.trans N7.out)))).mono ?_;rintro e w8 ⟨rfl,n8⟩;have N8:=q8 n8;clear n8))
  go_ret;exact⟨rfl,NW.out.trans (NX.out.trans (N7.out.trans N8.out))⟩
 |true=>
 obtain rfl:er=0:=HEE.out;obtain⟨hsub,hex,hnd⟩:=HEF.out rfl;have hlen:=hsub.length_le;have hbl:=Q3 fs.length (-1);have HIn:=q8 (fun i hi=>Uc i (hsub.subset hi));have HRi:=q8 ((GW fs.length (-1)).sublist hsub);have HNd:=q8 hnd;have hfw:=HFew.out;have hl1000:el.length<=1000:=by omega
 have HCa:=q8 (fun(w':World)(hn:Near X w')(h6:RdN w' (.slice lo el.length lc) el)(but:Int)=>HCj.out w' _ _ el but (NW.out.trans (NX.out.trans hn)) (HDf.out.near hn) h6 HIn.out hl1000);have HEx:=q8 (show nowhere (cj fs d (exL el (-1)))=true by rw [show exL el (-1)=el from if_neg (by decide)];exact hex);clear HEF HEE HEL hsub hex hnd hlen hbl hfw;go_upto_region 12 with(first
  |(go_at_call 17;refine HMt.out.mono ?_;rintro e w7 ⟨rfl,n7⟩;obtain⟨⟨r0,r1,r2,r3,r4⟩,⟨s0,s1⟩,t0,t1⟩:=HCl.out w7 (N6.out.trans n7);have L7:=q8 (D6.out.near n7);have N7:=q8 (N6.out.trans n7);clear n7)
  |(go_at_call 18;refine(HCa.out w7 N7.out L7.out (-1)).mono ?_;rintro e w8 ⟨v8,rfl,d8,n8⟩;have HE8:=q8 (empty_f d8);rw [HEx.out]at HE8;have L8:=q8 (L7.out.near n8);have N8:=q8 (N7.out.trans n8);clear d8 n8)
  |(go_at_call 19;refine HE8.out.mono ?_;rintro e w9 ⟨rfl,n9⟩;have L9:=q8 (L8.out.near n9);have N9:=q8 (N8.out.trans n9);clear n9))
 clear r0 r1 r2 r3 r4 s0 s1 t0 t1 HE8 L8 L7 HMt;go_wp2_with fail
 go_loopw [10] (fun ix wr=> ∃i:Nat,i<=el.length/\ix= .int .i64 i/\Near w9 wr) (fun ix _=>el.length - (intOf ix).toNat)
 case atStart=>exact⟨0,Nat.zero_le _,rfl,Near.refl _⟩
 case round=>
  obtain⟨i,hi,rfl,hnr⟩:=hrel;have HNr:=q8 (N9.out.trans hnr);have HNq:=q8 hnr;have LR:=q8 (L9.out.near hnr);clear hnr;by_cases hlt:i<el.length
  .have hlt':(i:Int)<el.length:=by omega
   have HCi:=q8 (fun(w':World)(hn:Near wr w')=>(show Calls qj 18 _ w' fun e w''=> ∃v,e= .returned v/\(Calls qj 19 #[v] w'' fun e w3=>e= .returned (.bool false)/\Near w'' w3)/\Near w' w'' from
    (HCa.out w' (HNr.out.trans hn) (LR.out.near hn) (i:Int)).mono fun e w'' ⟨v,he,hd,hn2⟩=>⟨v,he,by
     have h:=empty_f hd;rw [show exL el (i:Int)=el.eraseIdx i by unfold exL;rw [if_pos (by omega)];rfl,HNd.out i hlt]at h;exact h,hn2⟩))
   obtain⟨x,hx⟩: ∃x,el[i]? =some x:=⟨_,qi hlt⟩;obtain⟨g,o,rfl,hcell⟩: ∃g o,lo=some ⟨g,o,none⟩/\ ∀(w':World),Near wr w'-> ∀j y,el[j]? =some y->w'.cell? ⟨g,o+j,none⟩=some (natV y):=by
    rcases LR.out with⟨-,e⟩|⟨g,o,c,e,hc⟩
    .rw [e]at hlt;simp at hlt
    .simp only [qq,true_and]at e
     exact⟨g,o,e.1,fun w' hn j y hy=>hn.cell (hc j y hy)⟩
   have hmx:qj.follows .mixedOrders=true:=by kernel_rfl
   by_cases hp:0<i
   .obtain⟨j,hj⟩: ∃j,i=j+1:=⟨i - 1,by omega⟩
    obtain⟨y,hy⟩: ∃y,el[j]? =some y:=⟨_,qi (by omega)⟩;have hyx:=q3m HRi.out hy (by rw [<-hj];exact hx);have HSOf:=q8 (fun(w':World)(hn:Near wr w')=>(show w'.cell? ⟨w.heap.size,0,none⟩=some (.slice a1 m.feats.length a2)/\w'.cell? ⟨w.heap.size,1,none⟩=some (.slice b1 m.grps.length b2)/\w'.cell? ⟨w.heap.size,2,none⟩=some (.slice c1 m.atts.length c2)/\w'.cell? ⟨w.heap.size,3,none⟩=some (.slice d1 m.reqs.length d2)/\w'.cell? ⟨w.heap.size,4,none⟩=some (.slice e1 m.lims.length e2)/\w'.cell? ⟨D,0,none⟩=some (.slice x1 x2 x3)/\w'.cell? ⟨D,1,none⟩=some (.int .i64 x4)/\w'.cell? ⟨g,o+i,none⟩=some (.int .i64 (x:Nat))/\w'.cell? ⟨g,o+j,none⟩=some (.int .i64 (y:Nat))from by
     obtain⟨⟨r0,r1,r2,r3,r4⟩,⟨s0,s1⟩,-⟩:=HCl.out w' (HNr.out.trans hn);exact⟨r0,r1,r2,r3,r4,s0,s1,hcell w' hn i x hx,hcell w' hn j y hy⟩))
    have hp':(0:Int)<i:=by omega
    have hi1:IntKind.i64.wrap ((i:Int) - 1)=(j:Int):=by rw [IntWalk.i64_in _ (by omega)];omega
    have hj':(j:Int)<el.length:=by omega
    have hle: ¬(x:Int)<=y:=by omega
    clear hcell hx hy hj hyx;go_upto_region 15 with fail
    refine kn hmx (fun w'=>w'.cell? ⟨w.heap.size,0,none⟩=some (.slice a1 m.feats.length a2)/\w'.cell? ⟨w.heap.size,1,none⟩=some (.slice b1 m.grps.length b2)/\w'.cell? ⟨w.heap.size,2,none⟩=some (.slice c1 m.atts.length c2)/\w'.cell? ⟨w.heap.size,3,none⟩=some (.slice d1 m.reqs.length d2)/\w'.cell? ⟨w.heap.size,4,none⟩=some (.slice e1 m.lims.length e2)/\w'.cell? ⟨D,0,none⟩=some (.slice x1 x2 x3)/\w'.cell? ⟨D,1,none⟩=some (.int .i64 x4)/\w'.cell? ⟨g,o+i,none⟩=some (.int .i64 (x:Nat))/\w'.cell? ⟨g,o+j,none⟩=some (.int .i64 (y:Nat))) 99 (HSOf.out _ (Near.refl wr).drew) (fun hS=> ?_);refine tD0 (v:= .agg #[.slice a1 m.feats.length a2,.slice b1 m.grps.length b2,.slice c1 m.atts.length c2,.slice d1 m.reqs.length d2,.slice e1 m.lims.length e2]) (by kernel_rfl) (by kernel_rfl) (by kernel_rfl) (by kernel_rfl) (fun _ _ _ h=>h) (qB ⟨by rfl,fun w' hS'=>by dsimp only at hS';obtain⟨g0,g1,g2,g3,g4,g5,g6,g7,g8⟩:=hS';go_simp⟩) hS ?_;try simp only [Act.put,qb,qh,qd]
    refine tD1 (v:= .agg #[.slice x1 x2 x3,.int .i64 x4]) (by kernel_rfl) (by kernel_rfl) (by kernel_rfl) (by kernel_rfl) (fun _ _ _ h=>h) (qB ⟨by rfl,fun w' hS'=>by dsimp only at hS';obtain⟨g0,g1,g2,g3,g4,g5,g6,g7,g8⟩:=hS';go_simp⟩) hS ?_;try simp only [Act.put,qb,qh,qd]
    refine tD2 (v:= .slice (some ⟨g,o,none⟩) el.length lc) (by kernel_rfl) (by kernel_rfl) (by kernel_rfl) (by kernel_rfl) (fun _ _ _ h=>h) (qB ⟨by rfl,fun w' hS'=>by dsimp only at hS';obtain⟨g0,g1,g2,g3,g4,g5,g6,g7,g8⟩:=hS';go_simp⟩) hS ?_;try simp only [Act.put,qb,qh,qd]
    refine tD3 (v:= .int .i64 (i:Nat)) (by kernel_rfl) (by kernel_rfl) (by kernel_rfl) (by kernel_rfl) (fun _ _ _ h=>h) (qB ⟨by rfl,fun w' hS'=>by dsimp only at hS';obtain⟨g0,g1,g2,g3,g4,g5,g6,g7,g8⟩:=hS';go_simp⟩) hS ?_;try simp only [Act.put,qb,qh,qd]
    refine oZ4 (by kernel_rfl) (fun K hK=> ?_);go_simp;refine(HCi.out _ (Near.refl wr).drew).mono ?_;rintro e w10 ⟨v10,rfl,hE10,n10⟩;have HE10:=q8 hE10;have Z1:=q8 ((Near.refl wr).drew.trans n10);refine hK.out _ _ (j4 (HSOf.out _ Z1.out)) ?_;clear hK K hE10 n10 hS;try simp only [Act.put,qb,qh,qd]
    refine oZ5 (by kernel_rfl) (fun K hK=> ?_);go_simp;refine HE10.out.mono ?_;rintro e w11 ⟨rfl,n11⟩;have Z2:=q8 (Z1.out.trans n11);have hS:=HSOf.out _ Z2.out;refine hK.out _ _ (j4 hS) ?_;clear hK K n11;try simp only [Act.put,qb,qh,qd]
    refine tD6 (v:= .bool false) (by kernel_rfl) (by kernel_rfl) (by kernel_rfl) (by kernel_rfl) (fun _ _ _ h=>h) (qB ⟨by rfl,fun w' hS'=>by dsimp only at hS';obtain⟨g0,g1,g2,g3,g4,g5,g6,g7,g8⟩:=hS';go_simp⟩) hS ?_;try simp only [Act.put,qb,qh,qd]
    refine tD7 (v:= .int .i64 (i:Nat)) (by kernel_rfl) (by kernel_rfl) (by kernel_rfl) (by kernel_rfl) (fun _ _ _ h=>h) (qB ⟨by rfl,fun w' hS'=>by dsimp only at hS';obtain⟨g0,g1,g2,g3,g4,g5,g6,g7,g8⟩:=hS';go_simp⟩) hS ?_;try simp only [Act.put,qb,qh,qd]
    refine tD8 (v:= .bool true) (by kernel_rfl) (by kernel_rfl) (by kernel_rfl) (by kernel_rfl) (fun _ _ _ h=>h) (qB ⟨by rfl,fun w' hS'=>by dsimp only at hS';obtain⟨g0,g1,g2,g3,g4,g5,g6,g7,g8⟩:=hS';go_simp⟩) hS ?_;try simp only [Act.put,qb,qh,qd]
    refine tD9 (v:= .bool true) (by kernel_rfl) (by kernel_rfl) (by kernel_rfl) (by kernel_rfl) (fun _ _ _ h=>h) (qB ⟨by rfl,fun w' hS'=>by dsimp only at hS';obtain⟨g0,g1,g2,g3,g4,g5,g6,g7,g8⟩:=hS';go_simp⟩) hS ?_;try simp only [Act.put,qb,qh,qd]
    refine q6S (v:= .slice (some ⟨g,o,none⟩) el.length lc) (by kernel_rfl) (by kernel_rfl) (by kernel_rfl) (by kernel_rfl) (fun _ _ _ h=>h) (qB ⟨by rfl,fun w' hS'=>by dsimp only at hS';obtain⟨g0,g1,g2,g3,g4,g5,g6,g7,g8⟩:=hS';go_simp⟩) hS ?_;try simp only [Act.put,qb,qh,qd]
    refine q6R (v:= .int .i64 (i:Nat)) (by kernel_rfl) (by kernel_rfl) (by kernel_rfl) (by kernel_rfl) (fun _ _ _ h=>h) (qB ⟨by rfl,fun w' hS'=>by dsimp only at hS';obtain⟨g0,g1,g2,g3,g4,g5,g6,g7,g8⟩:=hS';go_simp⟩) hS ?_;try simp only [Act.put,qb,qh,qd]
    refine q6Q (v:= .pointer (some ⟨g,o+i,none⟩)) (by kernel_rfl) (by kernel_rfl) (by kernel_rfl) (by kernel_rfl) (fun _ _ _ h=>h) (qB ⟨by rfl,fun w' hS'=>by dsimp only at hS';obtain⟨g0,g1,g2,g3,g4,g5,g6,g7,g8⟩:=hS';go_simp⟩) hS ?_;try simp only [Act.put,qb,qh,qd]
    refine q6P (v:= .int .i64 (x:Nat)) (by kernel_rfl) (by kernel_rfl) (by kernel_rfl) (by kernel_rfl) (fun _ _ _ h=>h) (qB ⟨by rfl,fun w' hS'=>by dsimp only at hS';obtain⟨g0,g1,g2,g3,g4,g5,g6,g7,g8⟩:=hS';go_simp⟩) hS ?_;try simp only [Act.put,qb,qh,qd]
    refine q5s (v:= .slice (some ⟨g,o,none⟩) el.length lc) (by kernel_rfl) (by kernel_rfl) (by kernel_rfl) (by kernel_rfl) (fun _ _ _ h=>h) (qB ⟨by rfl,fun w' hS'=>by dsimp only at hS';obtain⟨g0,g1,g2,g3,g4,g5,g6,g7,g8⟩:=hS';go_simp⟩) hS ?_;try simp only [Act.put,qb,qh,qd]
    refine q7M (v:= .int .i64 (i:Nat)) (by kernel_rfl) (by kernel_rfl) (by kernel_rfl) (by kernel_rfl) (fun _ _ _ h=>h) (qB ⟨by rfl,fun w' hS'=>by dsimp only at hS';obtain⟨g0,g1,g2,g3,g4,g5,g6,g7,g8⟩:=hS';go_simp⟩) hS ?_;try simp only [Act.put,qb,qh,qd]
    refine q71 (v:= .int .i64 (j:Nat)) (by kernel_rfl) (by kernel_rfl) (by kernel_rfl) (by kernel_rfl) (fun _ _ _ h=>h) (qB ⟨by rfl,fun w' hS'=>by dsimp only at hS';obtain⟨g0,g1,g2,g3,g4,g5,g6,g7,g8⟩:=hS';go_simp⟩) hS ?_;try simp only [Act.put,qb,qh,qd]
    refine q7J (v:= .pointer (some ⟨g,o+j,none⟩)) (by kernel_rfl) (by kernel_rfl) (by kernel_rfl) (by kernel_rfl) (fun _ _ _ h=>h) (qB ⟨by rfl,fun w' hS'=>by dsimp only at hS';obtain⟨g0,g1,g2,g3,g4,g5,g6,g7,g8⟩:=hS';go_simp⟩) hS ?_;try simp only [Act.put,qb,qh,qd]
    refine q7I (v:= .int .i64 (y:Nat)) (by kernel_rfl) (by kernel_rfl) (by kernel_rfl) (by kernel_rfl) (fun _ _ _ h=>h) (qB ⟨by rfl,fun w' hS'=>by dsimp only at hS';obtain⟨g0,g1,g2,g3,g4,g5,g6,g7,g8⟩:=hS';go_simp⟩) hS ?_;try simp only [Act.put,qb,qh,qd]
    refine q7H (v:= .bool false) (by kernel_rfl) (by kernel_rfl) (by kernel_rfl) (by kernel_rfl) (fun _ _ _ h=>h) (qB ⟨by rfl,fun w' hS'=>by dsimp only at hS';obtain⟨g0,g1,g2,g3,g4,g5,g6,g7,g8⟩:=hS';go_simp⟩) hS ?_;try simp only [Act.put,qb,qh,qd]
    refine q7G (v:= .bool false) (by kernel_rfl) (by kernel_rfl) (by kernel_rfl) (by kernel_rfl) (fun _ _ _ h=>h) (qB ⟨by rfl,fun w' hS'=>by dsimp only at hS';obtain⟨g0,g1,g2,g3,g4,g5,g6,g7,g8⟩:=hS';go_simp⟩) hS ?_;try simp only [Act.put,qb,qh,qd]
    refine q7F (v:= .bool false) (by kernel_rfl) (by kernel_rfl) (by kernel_rfl) (by kernel_rfl) (fun _ _ _ h=>h) (qB ⟨by rfl,fun w' hS'=>by dsimp only at hS';obtain⟨g0,g1,g2,g3,g4,g5,g6,g7,g8⟩:=hS';go_simp⟩) hS ?_;try simp only [Act.put,qb,qh,qd]
    refine yR (by kernel_rfl) ?_;go_wp2_with fail
    exact⟨⟨i+1,hlt,by go_num,HNq.out.trans Z2.out⟩,by simp [intOf];omega⟩
   .obtain rfl:i=0:=by omega
    have HSOf:=q8 (fun(w':World)(hn:Near wr w')=>(show w'.cell? ⟨w.heap.size,0,none⟩=some (.slice a1 m.feats.length a2)/\w'.cell? ⟨w.heap.size,1,none⟩=some (.slice b1 m.grps.length b2)/\w'.cell? ⟨w.heap.size,2,none⟩=some (.slice c1 m.atts.length c2)/\w'.cell? ⟨w.heap.size,3,none⟩=some (.slice d1 m.reqs.length d2)/\w'.cell? ⟨w.heap.size,4,none⟩=some (.slice e1 m.lims.length e2)/\w'.cell? ⟨D,0,none⟩=some (.slice x1 x2 x3)/\w'.cell? ⟨D,1,none⟩=some (.int .i64 x4)from by
     obtain⟨⟨r0,r1,r2,r3,r4⟩,⟨s0,s1⟩,-⟩:=HCl.out w' (HNr.out.trans hn);exact⟨r0,r1,r2,r3,r4,s0,s1⟩))
    clear hcell hx;go_upto_region 15 with fail
    refine kn hmx (fun w'=>w'.cell? ⟨w.heap.size,0,none⟩=some (.slice a1 m.feats.length a2)/\w'.cell? ⟨w.heap.size,1,none⟩=some (.slice b1 m.grps.length b2)/\w'.cell? ⟨w.heap.size,2,none⟩=some (.slice c1 m.atts.length c2)/\w'.cell? ⟨w.heap.size,3,none⟩=some (.slice d1 m.reqs.length d2)/\w'.cell? ⟨w.heap.size,4,none⟩=some (.slice e1 m.lims.length e2)/\w'.cell? ⟨D,0,none⟩=some (.slice x1 x2 x3)/\w'.cell? ⟨D,1,none⟩=some (.int .i64 x4)) 99 (HSOf.out _ (Near.refl wr).drew) (fun hS=> ?_);refine tD0 (v:= .agg #[.slice a1 m.feats.length a2,.slice b1 m.grps.length b2,.slice c1 m.atts.length c2,.slice d1 m.reqs.length d2,.slice e1 m.lims.length e2]) (by kernel_rfl) (by kernel_rfl) (by kernel_rfl) (by kernel_rfl) (fun _ _ _ h=>h) (qB ⟨by rfl,fun w' hS'=>by dsimp only at hS';obtain⟨g0,g1,g2,g3,g4,g5,g6⟩:=hS';go_simp⟩) hS ?_;try simp only [Act.put,qb,qh,qd]
    refine tD1 (v:= .agg #[.slice x1 x2 x3,.int .i64 x4]) (by kernel_rfl) (by kernel_rfl) (by kernel_rfl) (by kernel_rfl) (fun _ _ _ h=>h) (qB ⟨by rfl,fun w' hS'=>by dsimp only at hS';obtain⟨g0,g1,g2,g3,g4,g5,g6⟩:=hS';go_simp⟩) hS ?_;try simp only [Act.put,qb,qh,qd]
    refine tD2 (v:= .slice (some ⟨g,o,none⟩) el.length lc) (by kernel_rfl) (by kernel_rfl) (by kernel_rfl) (by kernel_rfl) (fun _ _ _ h=>h) (qB ⟨by rfl,fun w' hS'=>by dsimp only at hS';obtain⟨g0,g1,g2,g3,g4,g5,g6⟩:=hS';go_simp⟩) hS ?_;try simp only [Act.put,qb,qh,qd]
    refine tD3 (v:= .int .i64 0) (by kernel_rfl) (by kernel_rfl) (by kernel_rfl) (by kernel_rfl) (fun _ _ _ h=>h) (qB ⟨by rfl,fun w' hS'=>by dsimp only at hS';obtain⟨g0,g1,g2,g3,g4,g5,g6⟩:=hS';go_simp⟩) hS ?_;try simp only [Act.put,qb,qh,qd]
    refine oZ4 (by kernel_rfl) (fun K hK=> ?_);go_simp;refine(HCi.out _ (Near.refl wr).drew).mono ?_;rintro e w10 ⟨v10,rfl,hE10,n10⟩;have HE10:=q8 hE10;have Z1:=q8 ((Near.refl wr).drew.trans n10);refine hK.out _ _ (j4 (HSOf.out _ Z1.out)) ?_;clear hK K hE10 n10 hS;try simp only [Act.put,qb,qh,qd]
    refine oZ5 (by kernel_rfl) (fun K hK=> ?_);go_simp;refine HE10.out.mono ?_;rintro e w11 ⟨rfl,n11⟩;have Z2:=q8 (Z1.out.trans n11);have hS:=HSOf.out _ Z2.out;refine hK.out _ _ (j4 hS) ?_;clear hK K n11;try simp only [Act.put,qb,qh,qd]
    refine tD6 (v:= .bool false) (by kernel_rfl) (by kernel_rfl) (by kernel_rfl) (by kernel_rfl) (fun _ _ _ h=>h) (qB ⟨by rfl,fun w' hS'=>by dsimp only at hS';obtain⟨g0,g1,g2,g3,g4,g5,g6⟩:=hS';go_simp⟩) hS ?_;try simp only [Act.put,qb,qh,qd]
    refine tD7 (v:= .int .i64 0) (by kernel_rfl) (by kernel_rfl) (by kernel_rfl) (by kernel_rfl) (fun _ _ _ h=>h) (qB ⟨by rfl,fun w' hS'=>by dsimp only at hS';obtain⟨g0,g1,g2,g3,g4,g5,g6⟩:=hS';go_simp⟩) hS ?_;try simp only [Act.put,qb,qh,qd]
    refine tD8 (v:= .bool false) (by kernel_rfl) (by kernel_rfl) (by kernel_rfl) (by kernel_rfl) (fun _ _ _ h=>h) (qB ⟨by rfl,fun w' hS'=>by dsimp only at hS';obtain⟨g0,g1,g2,g3,g4,g5,g6⟩:=hS';go_simp⟩) hS ?_;try simp only [Act.put,qb,qh,qd]
    refine tD9 (v:= .bool false) (by kernel_rfl) (by kernel_rfl) (by kernel_rfl) (by kernel_rfl) (fun _ _ _ h=>h) (qB ⟨by rfl,fun w' hS'=>by dsimp only at hS';obtain⟨g0,g1,g2,g3,g4,g5,g6⟩:=hS';go_simp⟩) hS ?_;try simp only [Act.put,qb,qh,qd]
    refine q6S (v:=undef) (by kernel_rfl) (by kernel_rfl) (by kernel_rfl) (by kernel_rfl) (fun _ _ _ h=>h) (j4 ⟨by rfl,rfl⟩) hS ?_;try simp only [Act.put,qb,qh,qd]
    refine q6R (v:=undef) (by kernel_rfl) (by kernel_rfl) (by kernel_rfl) (by kernel_rfl) (fun _ _ _ h=>h) (j4 ⟨by rfl,rfl⟩) hS ?_;try simp only [Act.put,qb,qh,qd]
    refine q6Q (v:=undef) (by kernel_rfl) (by kernel_rfl) (by kernel_rfl) (by kernel_rfl) (fun _ _ _ h=>h) (j4 ⟨by rfl,rfl⟩) hS ?_;try simp only [Act.put,qb,qh,qd]
    refine q6P (v:=undef) (by kernel_rfl) (by kernel_rfl) (by kernel_rfl) (by kernel_rfl) (fun _ _ _ h=>h) (j4 ⟨by rfl,rfl⟩) hS ?_;try simp only [Act.put,qb,qh,qd]
    refine q5s (v:=undef) (by kernel_rfl) (by kernel_rfl) (by kernel_rfl) (by kernel_rfl) (fun _ _ _ h=>h) (j4 ⟨by rfl,rfl⟩) hS ?_;try simp only [Act.put,qb,qh,qd]
    refine q7M (v:=undef) (by kernel_rfl) (by kernel_rfl) (by kernel_rfl) (by kernel_rfl) (fun _ _ _ h=>h) (j4 ⟨by rfl,rfl⟩) hS ?_;try simp only [Act.put,qb,qh,qd]
    refine q71 (v:=undef) (by kernel_rfl) (by kernel_rfl) (by kernel_rfl) (by kernel_rfl) (fun _ _ _ h=>h) (j4 ⟨by rfl,rfl⟩) hS ?_;try simp only [Act.put,qb,qh,qd]
    refine q7J (v:=undef) (by kernel_rfl) (by kernel_rfl) (by kernel_rfl) (by kernel_rfl) (fun _ _ _ h=>h) (j4 ⟨by rfl,rfl⟩) hS ?_;try simp only [Act.put,qb,qh,qd]
    refine q7I (v:=undef) (by kernel_rfl) (by kernel_rfl) (by kernel_rfl) (by kernel_rfl) (fun _ _ _ h=>h) (j4 ⟨by rfl,rfl⟩) hS ?_;try simp only [Act.put,qb,qh,qd]
    refine q7H (v:=undef) (by kernel_rfl) (by kernel_rfl) (by kernel_rfl) (by kernel_rfl) (fun _ _ _ h=>h) (j4 ⟨by rfl,rfl⟩) hS ?_;try simp only [Act.put,qb,qh,qd]
    refine q7G (v:= .bool false) (by kernel_rfl) (by kernel_rfl) (by kernel_rfl) (by kernel_rfl) (fun _ _ _ h=>h) (qB ⟨by rfl,fun w' hS'=>by dsimp only at hS';obtain⟨g0,g1,g2,g3,g4,g5,g6⟩:=hS';go_simp⟩) hS ?_;try simp only [Act.put,qb,qh,qd]
    refine q7F (v:= .bool false) (by kernel_rfl) (by kernel_rfl) (by kernel_rfl) (by kernel_rfl) (fun _ _ _ h=>h) (qB ⟨by rfl,fun w' hS'=>by dsimp only at hS';obtain⟨g0,g1,g2,g3,g4,g5,g6⟩:=hS';go_simp⟩) hS ?_;try simp only [Act.put,qb,qh,qd]
    refine yR (by kernel_rfl) ?_;go_wp2_with fail
    exact⟨⟨0+1,hlt,by go_num,HNq.out.trans Z2.out⟩,by simp [intOf];omega⟩
  .obtain rfl:i=el.length:=by omega
   go_wp2_with (go_at_call 10;refine(wakes3_calls (HV.out.near (NW.out.trans (NX.out.trans HNr.out)))).mono ?_;rintro e w11 ⟨rfl,n11⟩;have N11:=q8 n11;clear n11)
   go_ret;exact⟨rfl,NW.out.trans (NX.out.trans (HNr.out.trans N11.out))⟩
end Go.Proofs.YtjcbmcnbdegpmaaGreatDoor
namespace Go.Proofs.YtjcbmcnbdegpmaaGreatDoor
open Go.ChangeMaps Go.ChangeShapes Go.WideShapes Go.ChangeAt Go.RowKit Go.Deep Go.Proofs.Gen Go.Proofs.Mod
section
variable {H:Type}{enc:TypeId×Value->H}{w:World}{base:Nat}{spare:Nat->Bool}{held:Bool}
theorem Uv{fuel:Nat}{v:Value}{x:DataW H×List MemPlace}(h:yK enc qj w base spare held fuel 38 [v]=some x): ∃n:Nat,v= .int .u32 n/\n<4294967296:=by
 obtain⟨n,rfl,h0,h1⟩:=Z6 Tryz.underlying38 h;have h0':(0:Int)<=n:=h0;have h1':n<=(4294967295:Int):=h1;obtain⟨m,rfl⟩: ∃m:Nat,n=m:=⟨n.toNat,by omega⟩;exact⟨m,rfl,by omega⟩
theorem q2b{fuel:Nat}{cs:List Value}{x:DataW H×List MemPlace}(h:yK enc qj w base spare held fuel 40 cs=some x):
 ∃on off:Nat,Value.agg cs.toArray= .agg #[.int .u32 on,.int .u32 off]/\on<4294967296/\off<4294967296:=by
 obtain⟨hl,n,hn,hf⟩:=xd Tryz.underlying40 (by kernel_rfl) (by kernel_rfl) h;match cs,hl with
 |[c0,c1],_=>
  obtain⟨v0,y0,e0,h0⟩:=hf 0 _ rfl;obtain⟨v1,y1,e1,h1⟩:=hf 1 _ rfl
  cases e0;cases e1;obtain⟨a,rfl,ha⟩:=Uv h0;obtain⟨b,rfl,hb⟩:=Uv h1;exact⟨a,b,rfl,ha,hb⟩
end
end Go.Proofs.YtjcbmcnbdegpmaaGreatDoor
