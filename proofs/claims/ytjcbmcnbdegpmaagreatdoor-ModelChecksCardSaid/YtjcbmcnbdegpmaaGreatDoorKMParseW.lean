/- MParseW. -/
import Derived.Test.YtjcbmcnbdegpmaaGreatDoorKMRowA
set_option maxRecDepth 100000
set_option maxHeartbeats 12800000
set_option linter.unusedVariables false
set_option linter.unusedSimpArgs false
open Array renaming length_toList->zW
open Go renaming bodyPost_ret->qo,results->qC
open Go.ByteArray renaming toList_eq->zp
open Go.IntWalk renaming wrap64_in->xK
open Go.Lib renaming hid->q8,trimB->xX,trimPrefix->gq
open Go.Proofs.Tryz renaming prog->qj
open Go.Value.slice renaming injEq->qq
open Go.World renaming ownsRow_nil->qW
open List renaming getD_eq_getElem?_getD->zU,getElem?_eq_getElem->qi,getElem?_map->qA,length_map->qG,mem_of_getElem?->qp,setIfInBounds_toArray->qb,set_cons_succ->qd,set_cons_zero->qh
open Nat renaming le_refl->qt,le_trans->qH,zero_le->qv
open Or renaming inl->qB,inr->j4
open Go.Value renaming slice->vd,int->ve,string->vf,pointer->vg,agg->vi,bool->vj
open Go.Obj renaming cells->vk
open Go.Ending renaming returned->vm
open Go.IntKind renaming i64->vp,u8->vq,u32->vr,u64->vt
open Or renaming inl->vu,inr->vv
namespace Go.Proofs.YtjcbmcnbdegpmaaGreatDoor
open Go Go.RowKit Go.Proofs.Gen Go.Proofs.Mod
variable{b n:Nat}{w:World}{x0 x1 x2 x3 x4:Value}
def restOf(l:List UInt8):ByteArray:=toB (gq (xX l 32) (wd (wordsOf (xX l 32)) 0).data.toList)
def firstOf(l:List UInt8):ByteArray:=wd (wordsOf (xX l 32)) 0
theorem WX{S:Nat->Prop}{ao:Option Addr}{n' cap cap':Nat}{L L':List ByteArray}(h:RdL S 1 RdS w (.slice ao n cap) L)(hn:n'=L'.length)(hp: ∀(i:Nat)(x:ByteArray),L'[i]? =some x->L[i]? =some x):RdL S 1 RdS w (.slice ao n' cap') L':=by
 obtain⟨ao',c,e,hc⟩:=h;simp only [qq]at e;obtain⟨rfl,rfl,rfl⟩:=e;exact⟨_,cap',by rw [hn],fun i x hx=>hc i x (hp i x hx)⟩
theorem q1L: ∀k v,givenM [] k v↔False:=fun k v=>⟨fun h=>by
 obtain⟨_,x,y,h,_⟩:=h;exact List.not_mem_nil h,False.elim⟩
theorem q31(l:List UInt8)(c:UInt8):(xX l c).length<=l.length:=by
 unfold xX Lib.trimLeftB Lib.trimRightB;refine qH (List.dropWhile_sublist _).length_le ?_;rw [List.length_reverse];refine qH (List.dropWhile_sublist _).length_le ?_;rw [List.length_reverse];exact qt _
theorem Ke{p:UInt8->Bool}: ∀{l:List UInt8}{b:UInt8}{q:List UInt8},l.dropWhile p=b::q->p b=false
 |[],_,_,h=>by cases h
 |x::l,b,q,h=>by
  rw [List.dropWhile_cons]at h;split at h
  .exact Ke h
  .rename_i hx
   cases h;simpa using hx
theorem q0m{l:List UInt8}{c b:UInt8}{q:List UInt8}(h:xX l c=b::q):b≠c:=by
 have:=Ke h
 simpa using this
theorem q2X{b:UInt8}{q:List UInt8}(h:b≠32):wordsOf (b::q)≠[]:=by
 unfold wordsOf cutAt;rw [if_neg h]
 cases hc:cutAt 32 q with
 |nil=>exact absurd hc (Z9 32 q)
 |cons x l=>simp [consHead]
theorem WW(r:RS)(k:Nat)(l:List UInt8)(ls:List (List UInt8)):readL r k (l::ls)=if(lineL r l).1=0 then readL (lineL r l).2 (k+1) ls else((lineL r l).1,k+1,r):=rfl
theorem q54{L:List (List UInt8)}(h:L.length=n+1):((wd (L.map toB) n).toList==([]:List UInt8))=decide (L.getLast? =some []):=by
 have hn:n<L.length:=by omega
 have h1:wd (L.map toB) n=toB L[n]:=by
  rw [wd,zU,qA,qi hn];rfl
 rw [h1,List.getLast?_eq_getElem?,h,Nat.add_sub_cancel,qi hn,zp];by_cases e:L[n]=[]
 .rw [e];rfl
 .rw [decide_eq_false (by simpa using e),beq_eq_false_iff_ne]
  simpa [toB]using e
theorem down{k:Nat}(h:k<n):n - (intOf (.int .i64 ((k:Int)+1))).toNat<n - (intOf (.int .i64 (k:Int))).toNat:=by
 simp [intOf];omega
theorem q7r(w:World):(binOp .eql 118 .nilFunc .nilFunc).run qj w= .ok (.bool true) w:=by kernel_rfl
theorem q6r(n:Nat)(w:World):(binOp .eql 118 (.func (.func n) #[] #[]) .nilFunc).run qj w= .ok (.bool false) w:=by kernel_rfl
theorem q79(S:Nat->Prop)(w:World):RdMod S w (.agg #[.slice none 0 0,.slice none 0 0,.slice none 0 0,.slice none 0 0,.slice none 0 0]) noM:=
 have h: ∀{α:Type}{k:Nat}{R:World->List Value->α->Prop},RdL S k R w (.slice none 0 0) []:=⟨none,0,rfl,fun i x hx=>by simp at hx⟩
 have hw:WfS (.slice none 0 0):=fun ao n c e=>by
  simp only [qq]at e
  obtain⟨rfl,rfl,rfl⟩:=e
  exact⟨qt _,fun _=>rfl⟩
 ⟨_,_,_,_,_,rfl,h,h,h,h,h,hw,hw⟩
theorem q83(h:w.heap[b]? =some (.cells #[x0,x1,x2,x3,x4] 28 (0,0)))(y0 y1 y2 y3 y4:Value):
 ∀W,W=((((w.setCell ⟨b,0,none⟩ y0).setCell ⟨b,1,none⟩ y1).setCell ⟨b,2,none⟩ y2).setCell ⟨b,3,none⟩ y3).setCell ⟨b,4,none⟩ y4->(W.cell? ⟨b,0,none⟩=some y0/\W.cell? ⟨b,1,none⟩=some y1/\W.cell? ⟨b,2,none⟩=some y2/\W.cell? ⟨b,3,none⟩=some y3/\W.cell? ⟨b,4,none⟩=some y4)/\Kept (fun k=>k=b) w W:=by
 rintro W rfl;have hw:=qz (qz (qz (qz (qz h 0 y0) 1 y1) 2 y2) 3 y3) 4 y4;simp only [qb,qh,qd]at hw;refine⟨⟨cell1 hw rfl,cell1 hw rfl,cell1 hw rfl,cell1 hw rfl,cell1 hw rfl⟩,?_⟩;exact Kept.setCell (Kept.setCell (Kept.setCell (Kept.setCell (Kept.setCell (S:=fun k=>k=b) (Kept.refl _ w) (p:=⟨b,0,none⟩) (fun _=>rfl) _) (p:=⟨b,1,none⟩) (fun _=>rfl) _) (p:=⟨b,2,none⟩) (fun _=>rfl) _) (p:=⟨b,3,none⟩) (fun _=>rfl) _) (p:=⟨b,4,none⟩) (fun _=>rfl) _
theorem q7X(h:w.heap[b]? =some (.cells #[x0,x1,x2,x3,x4] 28 (0,0))):(w.cell? ⟨b,0,none⟩=some x0/\w.cell? ⟨b,1,none⟩=some x1/\w.cell? ⟨b,2,none⟩=some x2/\w.cell? ⟨b,3,none⟩=some x3/\w.cell? ⟨b,4,none⟩=some x4)/\w.frozen? ⟨b,0,none⟩=false/\w.frozen? ⟨b,1,none⟩=false/\w.frozen? ⟨b,2,none⟩=false/\w.frozen? ⟨b,3,none⟩=false/\w.frozen? ⟨b,4,none⟩=false:=
 ⟨⟨cell1 h rfl,cell1 h rfl,cell1 h rfl,cell1 h rfl,cell1 h rfl⟩,zQ h 0,zQ h 1,zQ h 2,zQ h 3,zQ h 4⟩
def ZZ(w:World)(out:Nat×Nat×Mod)(e:Ending)(w':World):Prop:= ∃v,e= .returned (.tuple #[v,.int .i64 (out.2.1:Nat),.int .i64 (out.1:Nat)])/\RdMod (fun g=>w.heap.size<=g) w' v out.2.2/\Near w w'
def q5Y:Value:= .agg #[.slice none 0 0,.slice none 0 0,.slice none 0 0,.slice none 0 0,.slice none 0 0]
theorem VS{w':World}{out:Nat×Nat×Mod}{e l:Nat}(ho:out=(e,l,noM))(hn:Near w w')(hbw:w.heap.size<=b)(hb:w'.heap[b]? =some (.cells #[x0,x1,x2,x3,x4] 28 (0,0)))(l':Int)(hl:l'=(l:Nat)):
 ∀W,W=((((w'.setCell ⟨b,0,none⟩ (.slice none 0 0)).setCell ⟨b,1,none⟩ (.slice none 0 0)).setCell ⟨b,2,none⟩ (.slice none 0 0)).setCell ⟨b,3,none⟩ (.slice none 0 0)).setCell ⟨b,4,none⟩ (.slice none 0 0)->
  ZZ w out (.returned (.tuple #[q5Y,.int .i64 l',.int .i64 (e:Nat)])) W/\(W.cell? ⟨b,0,none⟩=some (.slice none 0 0)/\W.cell? ⟨b,1,none⟩=some (.slice none 0 0)/\W.cell? ⟨b,2,none⟩=some (.slice none 0 0)/\W.cell? ⟨b,3,none⟩=some (.slice none 0 0)/\W.cell? ⟨b,4,none⟩=some (.slice none 0 0)):=by
 subst hl ho;intro W hW;obtain⟨h1,h2⟩:=q83 hb _ _ _ _ _ W hW;exact⟨⟨_,rfl,q79 _ _,Kept.mono (hn.kept.trans h2) fun k hk e=>by omega⟩,h1⟩
theorem Zt(hv:ji w){s:ByteArray}(hs:s.size≤4194303)(hF: ∀l∈linesOf (bytesL s),firstOf l=wReq→ ∀w',FPar (restOf l) w'):
 Calls qj 12 #[.string s] w (ZZ w (parseM (bytesL s))):=by
 have HQ:=q8 (show parseM (bytesL s)=if(readL ⟨noM,[]⟩ 0 (linesOf (bytesL s))).1=0 then
  (if chk (padM (readL ⟨noM,[]⟩ 0 (linesOf (bytesL s))).2.2.m)=0 then(0,0,padM (readL ⟨noM,[]⟩ 0 (linesOf (bytesL s))).2.2.m)else(2,(linesOf (bytesL s)).length+1,noM))
 else((readL ⟨noM,[]⟩ 0 (linesOf (bytesL s))).1,(readL ⟨noM,[]⟩ 0 (linesOf (bytesL s))).2.1,noM) by
  unfold parseM;rw [if_neg (by rw [zX];omega)])
 generalize parseM (bytesL s)=out at HQ⊢;have hlen: ¬((4194304:Int)<s.size):=by omega
 have hlen':((s.size:Int)>4194304)↔False:=by simp;omega
 have HSp:=q8 (fun w' (hn:Near w w')=>KP (s:=s) (hv.near hn) (by omega));have HV:=q8 hv;obtain⟨n,hn⟩: ∃n,(cutAt 10 s.data.toList).length=n+1:=⟨(cutAt 10 s.data.toList).length - 1,by
  have:(cutAt 10 s.data.toList).length≠0:=fun e=>Z9 10 _ (List.eq_nil_of_length_eq_zero e)
  omega⟩
 have HLn:=q8 (show n≤4194303 by have:=VW 10 s.data.toList;rw [hn,zW]at this;have e:s.data.size=s.size:=rfl;omega);have HLs:=q8 (show linesOf (bytesL s)=if(cutAt 10 s.data.toList).getLast? =some []then(cutAt 10 s.data.toList).dropLast else cutAt 10 s.data.toList from rfl);have HSz:=q8 (show∀l∈cutAt 10 s.data.toList,l.length≤4194303 from fun l hl=>by have:=JG 10 _ l hl;have e:s.data.toList.length=s.size:=zW;omega);have HF:=q8 hF;generalize cutAt 10 s.data.toList=L at HSp hn HLs HSz;generalize linesOf (bytesL s)=ls at HQ HF HLs;rw [hn]at HSp;have HN0:=q8 hn;clear hv hF hn;go_enter Tryz.func12,Tryz.ntmps12;go_upto_region 4 with(go_at_call 51;refine(HSp.out _ (by exact(Near.refl w).alloc _)).mono ?_;rintro e w1 ⟨rfl,rd1,n1⟩;have HR1:=q8 rd1;have HN1:=q8 (((Near.refl w).alloc _).trans n1);have HB1:=q8 (qE n1 (heap_new_at rfl));clear rd1 n1)
 have hc:w1.cell? ⟨w.heap.size+1,n,none⟩=some (.string (wd (L.map toB) n)):=by
  have:=jz HR1.out (i:=n) (by rw [qG,HN0.out];omega)
  simpa using this
 have hw64:wrap64 (n:Int)=n:=xK _ (by have:=HLn.out;omega);have hnn:(n:Int)<(n:Int)+1:=by omega
 have hlast:=q54 HN0.out;obtain⟨b,hb⟩: ∃b,decide (L.getLast? =some [])=b:=⟨_,rfl⟩;have HB:=q8 hb;rw [hb]at hlast;clear hb;go_upto_if 28 with fail
 go_cut [5] (fun s5 wx=> ∃cap,wx=w1∧s5= .slice (some ⟨w.heap.size+1,0,none⟩) ls.length cap∧RdL (fun g=>w.heap.size≤g) 1 RdS w1 (.slice (some ⟨w.heap.size+1,0,none⟩) ls.length cap) (ls.map toB)∧(∀l∈ls,l.length≤4194303)∧ls.length≤4194304)
 case first=>
  have hNm:RdL (fun g=>w.heap.size≤g) 1 RdS w1 (.slice (some ⟨w.heap.size+1,0,none⟩) (n+1) (n+1)) (L.map toB):=by
   have:=HR1.out.kept (Kept.refl (fun _=>False) w1) (T:=fun g=>w.heap.size≤g) (fun _ _ h=>h) (fun g hg=>by simp at hg;omega) (fun _ _ h=>h)
   simpa using this
  have HNm:=q8 hNm;clear hNm
  cases b with
  |true=>
   have HL2:=q8 (show ls=L.dropLast from HLs.out.trans (if_pos (of_decide_eq_true HB.out)));have hl:(ls.length:Nat)=n:=by rw [HL2.out,List.length_dropLast,HN0.out];rfl
   go_wp2_with fail
   go_meet
   refine⟨n+1,rfl,by rw [hl],WX HNm.out (by rw [qG]) fun i x hx=> ?_,fun l hl=>HSz.out l ?_,by have:=HLn.out;omega⟩
   ·rw [qA]at hx⊢
    rw [HL2.out,List.getElem?_dropLast]at hx;split at hx
    ·exact hx
    ·cases hx
   ·rw [HL2.out]at hl
    exact List.dropLast_subset _ hl
  |false=>
   have HL2:=q8 (show ls=L from HLs.out.trans (if_neg (of_decide_eq_false HB.out)));go_wp2_with fail
   go_meet
   refine⟨n+1,rfl,by rw [HL2.out,HN0.out],by rw [HL2.out,HN0.out];exact HNm.out,fun l hl=>HSz.out l (by rw [←HL2.out];exact hl),by rw [HL2.out,HN0.out];have:=HLn.out;omega⟩
 case rest=>
  obtain⟨cap,rfl,rfl,hrd,hsz,hll⟩:=hcut;have HRw:=q8 hrd;have HSz2:=q8 hsz;have HLl:=q8 hll;have hmm:= @run_makeMap qj;clear hc hlast hrd hsz hll hw64 hnn HB HSz HLs HSp HN0 HR1;clear HLn;go_upto_region 7 with fail
  have hW: ∀W,W=(wc.alloc (.map #[] 0)).alloc (.cells #[.slice none 0 0,.slice none 0 0,.slice none 0 0,.slice none 0 0,.slice none 0 0,.map (some wc.heap.size)] 112)→Near wc W∧W.heap[wc.heap.size]? =some (.map #[] 0)∧W.heap[wc.heap.size+1]? =some (.cells #[.slice none 0 0,.slice none 0 0,.slice none 0 0,.slice none 0 0,.slice none 0 0,.map (some wc.heap.size)] 112 (0,0))∧W.heap.size=wc.heap.size+2:=by
   rintro W rfl;exact⟨((Near.refl wc).alloc _).alloc _,by rw [qD (by simp),heap_new_at rfl],heap_new_at (by simp),by simp⟩
  have h6:=hW _ rfl;generalize(wc.alloc (.map #[] 0)).alloc (.cells #[.slice none 0 0,.slice none 0 0,.slice none 0 0,.slice none 0 0,.slice none 0 0,.map (some wc.heap.size)] 112)=W6 at h6⊢;obtain⟨hN6,hG6,hB6,hS6⟩:=h6;have HLc:=q8 (Vr W6);have HN6:=q8 hN6;have HG6:=q8 hG6;have HB6:=q8 hB6;have HS6:=q8 hS6;clear hW hN6 hG6 hB6 hS6 hmm;go_upto_region 8 with(go_at_call 52;refine HLc.out.mono ?_;rintro e w7 ⟨rfl,n7,m7⟩;have HN7:=q8 n7;have HM7:=q8 m7;clear n7 m7)
  have hb7:wc.heap.size+1<w7.heap.size:=by have:=HN7.out.size;have:=HS6.out;omega
  have HRd:=q8 (show xW w7.heap.size (wc.heap.size+1) wc.heap.size 0 w7 ⟨noM,[]⟩from
   ⟨.slice none 0 0,.slice none 0 0,.slice none 0 0,.slice none 0 0,.slice none 0 0,[],[],[],hb7,by omega,qt _,qE HN7.out HB6.out,qW _ _ _ _,qW _ _ _ _,rfl,(fun _ h=>nomatch h),qW _ _ _ _,rfl,(fun _ h=>nomatch h),(fun i j p q k h=>by simp at h),qW _ _ _ _,rfl,(fun _ h=>nomatch h),qW _ _ _ _,
     (mapV.empty (qE HN7.out HG6.out)).congr q1L⟩)
  have HRows:=q8 (show RdL (fun g=>g<wc.heap.size) 1 RdS w7 (.slice (some ⟨w.heap.size+1,0,none⟩) ls.length cap) (ls.map toB)from
   (RdL.here HRw.out (fun vs x h e=>by rw [h]at e;cases e)).kept (HN6.out.trans HN7.out) (fun _ _ h=>h) (fun g hg=>hg.2) (fun _ _ h=>h))
  have HBox:=q8 (qE (HN6.out.trans HN7.out) HB1.out);have HNw:=q8 (HN1.out.trans (HN6.out.trans HN7.out));have hKlt:=HM7.out.lt;have hwc:=HN1.out.size;have hlt0:w.heap.size<wc.heap.size:=(Array.getElem?_eq_some_iff.1 HB1.out).1;have hK6:=HS6.out;obtain⟨K,hK⟩: ∃K,W6.heap.size=K:=⟨_,rfl⟩;rw [hK]at HM7 hK6 hKlt⊢;obtain⟨G,hG⟩: ∃G,wc.heap.size=G:=⟨_,rfl⟩;rw [hG]at HRd HRows hwc hlt0 hK6 hb7⊢;subst hK6;obtain⟨base,hb⟩: ∃base,w7.heap.size=base:=⟨_,rfl⟩;rw [hb]at HRd hb7 hKlt;clear HLc HN6 HG6 HB6 HS6 HN7 HRw HB1 HN1 hK hG hb;go_wp2_with fail
  go_loopw [40] (fun i wr=> ∃k:Nat,k≤ls.length∧i= .int .i64 k∧ ∃N r,N≤k∧xW base (G+1) G N wr r∧ZX r.m∧readL ⟨noM,[]⟩ 0 ls=readL r k (ls.drop k)∧Kept (fun g=>base≤g∨g=G+1∨g=G) w7 wr) (fun i _=>ls.length - (intOf i).toNat)
  case atStart=>exact⟨0,qv _,rfl,0,_,qt _,HRd.out,q0o,rfl,Kept.refl _ _⟩
  case round=>
   obtain⟨k,hk,rfl,N,r,hN,hR,hT,hrl,hkp⟩:=hrel;by_cases hlt:k<ls.length
   ·have hlt':(k:Int)<ls.length:=by omega
    obtain⟨l,hl⟩: ∃l,ls[k]? =some l:=⟨_,qi hlt⟩;have hdr:ls.drop k=l::ls.drop (k+1):=by
     obtain⟨h1,h2⟩:=List.getElem?_eq_some_iff.1 hl;rw [←h2];exact List.drop_eq_getElem_cons h1
    have HRL:=q8 (show readL ⟨noM,[]⟩ 0 ls=if(lineL r l).1=0 then readL (lineL r l).2 (k+1) (ls.drop (k+1))else((lineL r l).1,k+1,r) by rw [hrl,hdr,WW]);have hlz:=HSz2.out l (qp hl);have hcell:wr.cell? ⟨w.heap.size+1,k,none⟩=some (.string (toB l)):=by
     have h1:=HRows.out.kept (R':=RdS) hkp (T:=fun _=>True) (fun g hg e=>by omega) (fun _ _=>trivial) (fun _ _ h=>h);have h2:=jz h1 (i:=k) (by rw [qG];exact hlt);rw [Nat.zero_add]at h2;rw [h2,wd,zU,qA,hl];rfl
    have HFl:=q8 (HF.out l (qp hl));have HTr:=q8 (fun w'=>(show Calls qj 53 #[.string (toB l),.string ⟨#[32]⟩] w' fun e w''=>e= .returned (.string (toB (xX l 32)))∧Near w' w'' from WJ (s:=toB l) (by show l.toArray.size≤_;simp;omega)));have HRr:=q8 hR;have HTm:=q8 hT;have HKp:=q8 hkp;have HLine:=q8 (show lineL r l=if xX l 32=[]∨(xX l 32).head? =some 35 then(0,r)else actL r (wordsOf (xX l 32)) (gq (xX l 32) (wd (wordsOf (xX l 32)) 0).data.toList)from rfl);have HTl:=q8 (q31 l 32);have HTh:=q8 (fun b q=> @q0m l 32 b q);clear hl hdr hrl hR hT hkp;unfold firstOf restOf at HFl;generalize lineL r l=lr at HRL HLine;generalize xX l 32=t at HTr HLine HTl HFl HTh;go_upto_region 12 with(go_at_call 53;refine(HTr.out _).mono ?_;rintro e w11 ⟨rfl,n11⟩;have N11:=q8 n11;clear n11)
    have HNr:=q8 (show Near w w11 from Kept.mono (HNw.out.kept.trans (HKp.out.trans N11.out.kept)) fun g hg e=>by omega);have HR11:=q8 (show xW base (G+1) G N w11 r by obtain⟨a,b,c,d,e,gs,ts,ps,h⟩:=HRr.out;exact⟨a,b,c,d,e,gs,ts,ps,h.near N11.out⟩);have hw64k:wrap64 ((k:Int)+1)=(k:Int)+1:=xK _ (by have:=HLl.out;omega);obtain⟨tx,htx⟩: ∃tx,toB t=tx:=⟨_,rfl⟩;have HTx:=q8 htx;rw [htx]
    cases t with
    |nil=>
     have he:(tx.toList==([]:List UInt8))=true:=by rw [←htx,zp];rfl
     clear htx;have hlr:lr=(0,r):=HLine.out.trans (if_pos (.inl rfl));have HRL2:=q8 (show readL ⟨noM,[]⟩ 0 ls=readL r (k+1) (ls.drop (k+1)) by rw [HRL.out,hlr];rfl);clear hlr;go_wp2_with fail
     go_roundw
     case rel=>exact⟨k+1,hlt,by go_num,N,r,by omega,HR11.out,HTm.out,HRL2.out,HKp.out.trans N11.out.kept⟩
     case measure=>rw [hw64k];exact down hlt
    |cons c q=>
     have he:(tx.toList==([]:List UInt8))=false:=by rw [←htx,zp];rfl
     have hp:(0:Int)<tx.size:=by rw [←htx];simp [toB,ByteArray.size]
     have h0:0<tx.size:=by omega
     have hx:tx[0].toNat=c.toNat:=by subst htx;rfl
     clear htx;by_cases h35:c=35
     ·have hc35:((tx[0].toNat:Int)==35)=true:=by rw [hx,h35];rfl
      clear hx;have hlr:lr=(0,r):=HLine.out.trans (if_pos (.inr (by rw [h35];rfl)));have HRL2:=q8 (show readL ⟨noM,[]⟩ 0 ls=readL r (k+1) (ls.drop (k+1)) by rw [HRL.out,hlr];rfl);clear h35 hlr;go_wp2_with fail
      go_roundw
      case rel=>exact⟨k+1,hlt,by go_num,N,r,by omega,HR11.out,HTm.out,HRL2.out,HKp.out.trans N11.out.kept⟩
      case measure=>rw [hw64k];exact down hlt
     ·have hc35:((tx[0].toNat:Int)==35)=false:=by
       rw [beq_eq_false_iff_ne,hx];intro e;exact h35 (UInt8.toNat_inj.1 (by have:(35:UInt8).toNat=35:=rfl;omega))
      have HC:=q8 h35;clear hx h35;have hd:tx.data.toList=c::q:=by rw [←HTx.out];rfl
      have hszt:(c::q).length≤4194303:=by have:=HTl.out;omega
      have hne:=q2X (q:=q) (HTh.out c q rfl);have HW:=q8 (fun(w':World)=>(show Calls qj 54 #[.string tx,.func (.func 55) #[] #[]] w' fun e w''=> ∃v,e= .returned v∧RdL (fun g=>w'.heap.size≤g) 1 RdS w'' v (wordsOf (c::q))∧WfS v∧Near w' w'' from hd▸KA (s:=tx) (by show tx.data.size≤_;rw [←zW,hd];omega)));have HTp:=q8 (fun(w':World)(p:ByteArray)=>(show Calls qj 56 #[.string tx,.string p] w' fun e w''=>e= .returned (.string (toB (gq (c::q) p.data.toList)))∧w''=w' from hd▸YT w' tx p));have HWl:=q8 (show(wordsOf (c::q)).length≤4194304 by have:=q08 (c::q);omega);have HWz:=q8 (fun i=>(show(wd (wordsOf (c::q)) i).size≤4194304 by have:=Wx (c::q) i;omega));have HLn:=q8 (show lr=actL r (wordsOf (c::q)) (gq (c::q) (wd (wordsOf (c::q)) 0).data.toList)from HLine.out.trans (if_neg (by simp;exact HC.out)));have HNe:=q8 hne;clear hd hszt hne;generalize wordsOf (c::q)=ws at HW HWl HWz HLn HFl HNe;go_upto_region 14 with(go_at_call 54;refine(HW.out _).mono ?_;rintro e w12 ⟨wv,rfl,rd12,wf12,n12⟩;have N12:=q8 n12;have RD12:=q8 rd12;have WF12:=q8 wf12;obtain⟨wao,wcap,rfl⟩:=rd12.form;clear rd12 wf12 n12)
      obtain⟨g,o,rfl,hcell0⟩: ∃g o,wao=some ⟨g,o,none⟩∧w12.cell? ⟨g,o,none⟩=some (.string (wd ws 0)):=by
       obtain⟨ao',cap',e,hc⟩:=RD12.out
       cases ws with
       |nil=>exact absurd rfl HNe.out
       |cons x xs=>
        obtain⟨g,o,vs,hao,-,h3,h4⟩:=hc 0 x rfl;simp only [qq,true_and]at e;obtain⟨rfl,rfl⟩:=e;have h5:=h3 0 (.string x) (by rw [h4];rfl);exact⟨g,o,hao,by simpa [wd]using h5⟩
      have hpos:(0:Int)<ws.length:=by have:=List.length_pos_iff.2 HNe.out;omega
      have HN12:=q8 (HNr.out.trans N12.out);have HR12:=q8 (show xW base (G+1) G N w12 r by obtain⟨a,b,c,d,e,gs,ts,ps,h⟩:=HR11.out;exact⟨a,b,c,d,e,gs,ts,ps,h.near N12.out⟩);have HK12:=q8 (HKp.out.trans (N11.out.trans N12.out).kept);have hM12:=HM7.out.kept HK12.out (by omega);have HB12:=q8 (qQ HK12.out HBox.out (by omega));have hlook:=Gh hM12 (s:=wd ws 0) (by have:=HWz.out 0;unfold maxLen;omega);have hk1:k+1≤ls.length:=hlt
      cases hfo:q6s (wd ws 0)with
      |none=>
       have hfv:fnV (wd ws 0)= .nilFunc:=by unfold fnV;rw [hfo]
       rw [hfv]at hlook;have hlr:lr=(4,r):=HLn.out.trans (q4f hfo _);have HO:=q8 (show out=(4,k+1,noM) by rw [HQ.out,HRL.out,hlr];rfl);obtain⟨⟨r0,r1,r2,r3,r4⟩,f0,f1,f2,f3,f4⟩:=q7X HB12.out;have hfn:=q7r w12;clear hfo hfv hlr hM12 HQ HRL;go_wp2_with fail
       obtain⟨hE,y0,y1,y2,y3,y4⟩:=VS HO.out HN12.out (by omega) HB12.out ((k:Int)+1) (by omega) _ rfl;exact qo (v:= .tuple #[q5Y,.int .i64 ((k:Int)+1),.int .i64 4]) (by simp [qC,Tryz.results12,go_sem,y0,y1,y2,y3,y4,q5Y,hw64k]) rfl hE
      |some Fn=>
       have hfv:fnV (wd ws 0)=fv Fn:=by unfold fnV;rw [hfo]
       rw [hfv]at hlook;unfold fv at hlook;have hnb:base≤w12.heap.size:=HK12.out.size|>fun h=>by have:=HR12.out;obtain⟨a,b,c,d,e,gs,ts,ps,h⟩:=this;exact h.hb
       obtain⟨hcf,hca⟩:=q2H (rest:=toB (gq (c::q) (wd ws 0).data.toList)) HR12.out HTm.out (HV.out.near HN12.out) (by have:=HLl.out;omega) RD12.out WF12.out HWl.out HWz.out (fun h=>HFl.out h w12) hfo;have HCa:=q8 (show Calls qj Fn #[.pointer (some ⟨G+1,0,none⟩),.slice (some ⟨g,o,none⟩) ws.length wcap,.string (toB (gq (c::q) (wd ws 0).data.toList))] w12 fun e w'=> ∃N',N'≤N+1∧LPost base (G+1) G N' w12 lr e w' from by
        rw [HLn.out];exact hca)
       have HTr2:=q8 (show ZX lr.2.m by rw [HLn.out];exact HTm.out.act HWl.out _);clear hca hfo hfv hM12;go_upto_region 15 with fail
       have hfne:=q6r Fn w12;go_upto_region 18 with(first
        |(go_at_call 56;refine(HTp.out _ _).mono ?_;rintro e w13 ⟨rfl,rfl⟩)
        |(refine HCa.out.mono ?_;rintro e w14 ⟨N',hN',rfl,hR14,hK14⟩;have HR14:=q8 hR14;have HK14:=q8 hK14;clear hR14 hK14))
       obtain⟨er,her⟩: ∃er,lr.1=er:=⟨_,rfl⟩;have HEr:=q8 her;rw [her];clear her hlook hcell0;by_cases h0:er=0
       ·subst h0
        have HRL2:=q8 (show readL ⟨noM,[]⟩ 0 ls=readL lr.2 (k+1) (ls.drop (k+1)) by rw [HRL.out,if_pos HEr.out]);go_wp2_with fail
        go_roundw
        case rel=>exact⟨k+1,hlt,by go_num,N',lr.2,by omega,HR14.out,HTr2.out,HRL2.out,HK12.out.trans HK14.out⟩
        case measure=>rw [hw64k];exact down hlt
       ·have hne0:((er:Int) !=0)=true:=by rw [bne_iff_ne];omega
        have HO:=q8 (show out=(er,k+1,noM) by rw [HQ.out,HRL.out,if_neg (show¬lr.1=0 by rw [HEr.out];exact h0)];show(if lr.1=0 then _ else _)=_;rw [if_neg (by rw [HEr.out];exact h0),HEr.out]);have HB14:=q8 (qQ HK14.out HB12.out (by omega));have HN14:=q8 (show Near w w14 from Kept.mono (HN12.out.kept.trans HK14.out) fun g hg e=>by omega);obtain⟨⟨r0,r1,r2,r3,r4⟩,f0,f1,f2,f3,f4⟩:=q7X HB14.out;clear h0;go_wp2_with fail
        obtain⟨hE,y0,y1,y2,y3,y4⟩:=VS HO.out HN14.out (by omega) HB14.out ((k:Int)+1) (by omega) _ rfl;exact qo (v:= .tuple #[q5Y,.int .i64 ((k:Int)+1),.int .i64 er]) (by simp [qC,Tryz.results12,go_sem,y0,y1,y2,y3,y4,q5Y,hw64k]) rfl hE
   ·obtain rfl:k=ls.length:=by omega
    have hdr:readL ⟨noM,[]⟩ 0 ls=(0,0,r):=by rw [hrl,List.drop_length];rfl
    have HO:=q8 (show out=if chk (padM r.m)=0 then(0,0,padM r.m)else(2,ls.length+1,noM) by rw [HQ.out,hdr];rfl);have HTm:=q8 hT;have HKp:=q8 hkp;obtain⟨a,b,c,d,e,gs,ts,ps,hR⟩:=hR;obtain⟨a1,a2,b1,b2,c1,c2,d1,d2,e1,e2,rfl,rfl,rfl,rfl,rfl⟩:=hR.forms;have HRr:=q8 hR;have q2:=cell1 (o:=2) hR.box rfl;have HNr:=q8 (show Near w wr from Kept.mono (HNw.out.kept.trans hkp) fun g hg e=>by omega);have HBr:=q8 (qQ hkp HBox.out (by omega));have hat:=hT.atts;clear HQ hdr hrl hT hkp hR HSz2 HF HM7 HRows HBox HNw HRd HKp;have HPd:=q8 (show∃ts',Rd base (G+1) G N wr (padR r 0) (.slice a1 r.m.feats.length a2) (.slice b1 r.m.grps.length b2) (.slice c1 r.m.atts.length c2) (.slice d1 r.m.reqs.length d2) (.slice e1 r.m.lims.length e2) gs ts' ps from⟨ts,by rw [padR_zero];exact HRr.out⟩);have hlf:=HTm.out.feats;have hbs:=HRr.out.hb;have HSh:=q8 HTm.out.short;clear HRr;go_upto_region 22 with fail
    clear q2;obtain⟨wo,hwo⟩: ∃x,x=wr:=⟨_,rfl⟩;subst hwo;go_loopw [88] (fun i wx=> ∃j:Nat,j≤r.m.atts.length∧i= .int .i64 j∧(∃ts',Rd base (G+1) G N wx (padR r j) (.slice a1 r.m.feats.length a2) (.slice b1 r.m.grps.length b2) (.slice c1 r.m.atts.length c2) (.slice d1 r.m.reqs.length d2) (.slice e1 r.m.lims.length e2) gs ts' ps)∧Kept (fun g=>base≤g) wo wx) (fun i _=>r.m.atts.length - (intOf i).toNat)
    case atStart=>exact⟨0,qv _,rfl,HPd.out,Kept.refl _ _⟩
    case round=>
     obtain⟨j,hj,rfl,⟨ts',hR'⟩,hkx⟩:=hrel;have HR':=q8 hR';have HKx:=q8 hkx;clear hR' hkx HPd;by_cases hlt2:j<r.m.atts.length
     ·have hlt2':(j:Int)<r.m.atts.length:=by omega
      obtain⟨t,ht⟩: ∃t,r.m.atts[j]? =some t:=⟨_,qi hlt2⟩;have hst:=HSh.out t (qp ht);obtain⟨gc,v,vo,vc,rfl,rfl,c0,c1',ho,hfin⟩:=q3z HR'.out ht hst;have q0:wr.cell? ⟨G+1,0,none⟩=some (.slice a1 r.m.feats.length a2):=cell1 HR'.out.box rfl;have q2:wr.cell? ⟨G+1,2,none⟩=some (.slice (some ⟨gc,0,none⟩) r.m.atts.length c2):=cell1 HR'.out.box rfl;have HOw:=q8 ho;have hbx:=HR'.out.hb;obtain⟨kk,hkk⟩: ∃kk,t.values.length+kk=r.m.feats.length:=⟨r.m.feats.length - t.values.length,by omega⟩;have HFin:=q8 (hfin kk hkk);have hsub:wrap64 ((r.m.feats.length:Int) - (t.values.length:Int))=((kk:Nat):Int):=by
       rw [show(r.m.feats.length:Int) - (t.values.length:Int)=(kk:Int) by omega];exact xK _ (by omega)
      have HSub:=q8 (show IntKind.i64.wrap ((r.m.feats.length:Int) - (t.values.length:Int))=((kk:Nat):Int) by
       rw [show(r.m.feats.length:Int) - (t.values.length:Int)=(kk:Int) by omega];exact IntWalk.i64_in _ (by omega))
      have HKk:=q8 hkk;have hw64j:wrap64 ((j:Int)+1)=(j:Int)+1:=xK _ (by omega);clear ho hfin hkk ht;go_upto_region 25 with fail
      go_wp2_with fail
      obtain⟨i0,hi,hz0,hz1,hz2⟩:=info_parts XC;have hmx:qj.follows .mixedOrders=true:=by kernel_rfl
      clear hk hN hlt hbs;refine kn hmx (fun w'=>w'.cell? ⟨gc,j*2+1,none⟩=some (.slice vo t.values.length vc)∧w'.cell? ⟨G+1,0,none⟩=some (.slice a1 r.m.feats.length a2)) 20 ⟨by simpa using c1',by simpa using q0⟩ (fun hS=> ?_);refine tD0 (v:= .pointer (some ⟨gc,j*2,none⟩)) (by kernel_rfl) (by kernel_rfl) (by kernel_rfl) (by kernel_rfl) (fun _ _ _ h=>h) (qB ⟨by rfl,fun w' hS'=>by dsimp only at hS';obtain⟨q0,q1⟩:=hS';go_simp⟩) hS ?_;try simp only [Act.put,qb,qh,qd]
      refine tD1 (v:= .pointer (some ⟨gc,j*2,none⟩)) (by kernel_rfl) (by kernel_rfl) (by kernel_rfl) (by kernel_rfl) (fun _ _ _ h=>h) (qB ⟨by rfl,fun w' hS'=>by dsimp only at hS';obtain⟨q0,q1⟩:=hS';go_simp⟩) hS ?_;try simp only [Act.put,qb,qh,qd]
      refine tD2 (v:= .pointer (some ⟨gc,j*2,none⟩)) (by kernel_rfl) (by kernel_rfl) (by kernel_rfl) (by kernel_rfl) (fun _ _ _ h=>h) (qB ⟨by rfl,fun w' hS'=>by dsimp only at hS';obtain⟨q0,q1⟩:=hS';go_simp⟩) hS ?_;try simp only [Act.put,qb,qh,qd]
      refine tD3 (v:= .pointer (some ⟨gc,j*2+1,none⟩)) (by kernel_rfl) (by kernel_rfl) (by kernel_rfl) (by kernel_rfl) (fun _ _ _ h=>h) (qB ⟨by rfl,fun w' hS'=>by dsimp only at hS';obtain⟨q0,q1⟩:=hS';go_simp⟩) hS ?_;try simp only [Act.put,qb,qh,qd]
      refine tD4 (v:= .slice vo t.values.length vc) (by kernel_rfl) (by kernel_rfl) (by kernel_rfl) (by kernel_rfl) (fun _ _ _ h=>h) (qB ⟨by rfl,fun w' hS'=>by dsimp only at hS';obtain⟨q0,q1⟩:=hS';go_simp⟩) hS ?_;try simp only [Act.put,qb,qh,qd]
      refine tD5 (v:= .pointer (some ⟨G+1,0,none⟩)) (by kernel_rfl) (by kernel_rfl) (by kernel_rfl) (by kernel_rfl) (fun _ _ _ h=>h) (qB ⟨by rfl,fun w' hS'=>by dsimp only at hS';obtain⟨q0,q1⟩:=hS';go_simp⟩) hS ?_;try simp only [Act.put,qb,qh,qd]
      refine tD6 (v:= .pointer (some ⟨G+1,0,none⟩)) (by kernel_rfl) (by kernel_rfl) (by kernel_rfl) (by kernel_rfl) (fun _ _ _ h=>h) (qB ⟨by rfl,fun w' hS'=>by dsimp only at hS';obtain⟨q0,q1⟩:=hS';go_simp⟩) hS ?_;try simp only [Act.put,qb,qh,qd]
      refine tD7 (v:= .pointer (some ⟨G+1,0,none⟩)) (by kernel_rfl) (by kernel_rfl) (by kernel_rfl) (by kernel_rfl) (fun _ _ _ h=>h) (qB ⟨by rfl,fun w' hS'=>by dsimp only at hS';obtain⟨q0,q1⟩:=hS';go_simp⟩) hS ?_;try simp only [Act.put,qb,qh,qd]
      refine tD8 (v:= .pointer (some ⟨G+1,0,none⟩)) (by kernel_rfl) (by kernel_rfl) (by kernel_rfl) (by kernel_rfl) (fun _ _ _ h=>h) (qB ⟨by rfl,fun w' hS'=>by dsimp only at hS';obtain⟨q0,q1⟩:=hS';go_simp⟩) hS ?_;try simp only [Act.put,qb,qh,qd]
      refine tD9 (v:= .slice a1 r.m.feats.length a2) (by kernel_rfl) (by kernel_rfl) (by kernel_rfl) (by kernel_rfl) (fun _ _ _ h=>h) (qB ⟨by rfl,fun w' hS'=>by dsimp only at hS';obtain⟨q0,q1⟩:=hS';go_simp⟩) hS ?_;try simp only [Act.put,qb,qh,qd]
      refine q6S (v:= .int .i64 (r.m.feats.length:Nat)) (by kernel_rfl) (by kernel_rfl) (by kernel_rfl) (by kernel_rfl) (fun _ _ _ h=>h) (qB ⟨by rfl,fun w' hS'=>by dsimp only at hS';obtain⟨q0,q1⟩:=hS';go_simp⟩) hS ?_;try simp only [Act.put,qb,qh,qd]
      refine q6R (v:= .pointer (some ⟨gc,j*2,none⟩)) (by kernel_rfl) (by kernel_rfl) (by kernel_rfl) (by kernel_rfl) (fun _ _ _ h=>h) (qB ⟨by rfl,fun w' hS'=>by dsimp only at hS';obtain⟨q0,q1⟩:=hS';go_simp⟩) hS ?_;try simp only [Act.put,qb,qh,qd]
      refine q6Q (v:= .pointer (some ⟨gc,j*2,none⟩)) (by kernel_rfl) (by kernel_rfl) (by kernel_rfl) (by kernel_rfl) (fun _ _ _ h=>h) (qB ⟨by rfl,fun w' hS'=>by dsimp only at hS';obtain⟨q0,q1⟩:=hS';go_simp⟩) hS ?_;try simp only [Act.put,qb,qh,qd]
      refine q6P (v:= .pointer (some ⟨gc,j*2+1,none⟩)) (by kernel_rfl) (by kernel_rfl) (by kernel_rfl) (by kernel_rfl) (fun _ _ _ h=>h) (qB ⟨by rfl,fun w' hS'=>by dsimp only at hS';obtain⟨q0,q1⟩:=hS';go_simp⟩) hS ?_;try simp only [Act.put,qb,qh,qd]
      refine q5s (v:= .slice vo t.values.length vc) (by kernel_rfl) (by kernel_rfl) (by kernel_rfl) (by kernel_rfl) (fun _ _ _ h=>h) (qB ⟨by rfl,fun w' hS'=>by dsimp only at hS';obtain⟨q0,q1⟩:=hS';go_simp⟩) hS ?_;try simp only [Act.put,qb,qh,qd]
      refine q7M (v:= .int .i64 (t.values.length:Nat)) (by kernel_rfl) (by kernel_rfl) (by kernel_rfl) (by kernel_rfl) (fun _ _ _ h=>h) (qB ⟨by rfl,fun w' hS'=>by dsimp only at hS';obtain⟨q0,q1⟩:=hS';go_simp⟩) hS ?_;try simp only [Act.put,qb,qh,qd]
      refine q71 (v:= .int .i64 (kk:Nat)) (by kernel_rfl) (by kernel_rfl) (by kernel_rfl) (by kernel_rfl) (fun _ _ _ h=>h) (qB ⟨by rfl,fun w' hS'=>by dsimp only at hS';obtain⟨q0,q1⟩:=hS';go_simp;exact HSub.out⟩) hS ?_;try simp only [Act.put,qb,qh,qd]
      refine q8i (by kernel_rfl) (fun K hK=> ?_);refine Qd rfl (.tmp 102) (.tmp 114) 79 3 rfl base 2 i0 (.int .i64 0) 8 Tryz.underlying79 Tryz.underlying3 hi hz0 hz1 hz2 rfl rfl _ _ _ rfl (owns_kept HOw.out ((Near.refl wr).drew) (fun _ _ h=>h)) kk rfl (by have:=HKk.out;omega) (by have:=HKk.out;unfold maxLen;omega) (by simp;omega) ?_;intro ao cap w6 ho6 hg6 hl6;have HF:=q8 (HFin.out _ _ _ _ ((Near.refl wr).drew) hg6 ho6 hl6);have hc6:=HF.out.1.1;have hf6:=HF.out.1.2;have hq6:w6.cell? ⟨G+1,0,none⟩=some (.slice a1 r.m.feats.length a2):=(Kept.grown (S:=fun k=>base≤k) (Near.refl wr).drew.kept hg6 (fun k e _=>(zY HOw.out e).1)).cell q0 (by omega);have HS6:=q8 (show w6.cell? ⟨gc,j*2+1,none⟩=some (.slice vo t.values.length vc)∧w6.cell? ⟨G+1,0,none⟩=some (.slice a1 r.m.feats.length a2)from⟨hc6,hq6⟩);refine hK.out _ _ (j4 HS6.out) ?_;clear hK K hS c0 c1' q0 q2 ho6 hg6 hl6 hi hz0 hz1 hz2;try simp only [Act.put,qb,qh,qd]
      refine q8h (by kernel_rfl) (fun K hK=> ?_);go_simp;refine hK.out _ _ (j4 HS6.out) ?_;clear hK K;try simp only [Act.put,qb,qh,qd]
      refine q8g (by kernel_rfl) (fun K hK=> ?_);go_simp;refine hK.out _ _ (j4 HS6.out) ?_;clear hK K;try simp only [Act.put,qb,qh,qd]
      refine q8f (by kernel_rfl) (fun K hK=> ?_);go_simp;refine hK.out _ _ (qB rfl) ?_;clear hK K;refine yR (by kernel_rfl) ?_;have HZ:=q8 HF.out.2;clear hc6 hf6 hq6 HF;obtain⟨W8,hW8⟩: ∃W8,w6.setCell ⟨gc,j*2+1,none⟩ (.slice ao (t.values.length+kk) cap)=W8:=⟨_,rfl⟩;rw [hW8]at HZ⊢;clear hW8 HS6;go_wp2_with fail
      exact⟨⟨j+1,hlt2,by go_num,HZ.out.1,HKx.out.trans HZ.out.2⟩,by rw [hw64j];exact down hlt2⟩
     ·obtain rfl:j=r.m.atts.length:=by omega
      have HR2:=q8 (show RdMod (fun g=>base≤g) wr (.agg #[.slice a1 r.m.feats.length a2,.slice b1 r.m.grps.length b2,.slice c1 r.m.atts.length c2,.slice d1 r.m.reqs.length d2,.slice e1 r.m.lims.length e2]) (padM r.m) by rw [←q3A];exact HR'.out.mod);have HCk:=q8 (jH (RdMod.here HR2.out) (fun g hg=>hg.2) HTm.out.bulk);have HBx:=q8 (qQ HKx.out HBr.out (by omega));have HNx:=q8 (show Near w wr from Kept.mono (HNr.out.kept.trans HKx.out) fun g hg e=>by omega);obtain⟨p0,p1,p2,p3,p4⟩:=(show wr.cell? ⟨G+1,0,none⟩=some (.slice a1 r.m.feats.length a2)∧wr.cell? ⟨G+1,1,none⟩=some (.slice b1 r.m.grps.length b2)∧wr.cell? ⟨G+1,2,none⟩=some (.slice c1 r.m.atts.length c2)∧wr.cell? ⟨G+1,3,none⟩=some (.slice d1 r.m.reqs.length d2)∧wr.cell? ⟨G+1,4,none⟩=some (.slice e1 r.m.lims.length e2)from
       ⟨cell1 HR'.out.box rfl,cell1 HR'.out.box rfl,cell1 HR'.out.box rfl,cell1 HR'.out.box rfl,cell1 HR'.out.box rfl⟩)
      have HBo:=q8 HR'.out.box;have hb0:=HR'.out.hb;generalize padM r.m=pm at HCk HR2 HO;generalize chk pm=q at HCk HO;clear HTm HR' HKx HNr HBr HSh;go_upto_region 28 with(go_at_call 29;refine HCk.out.mono ?_;rintro e w9 ⟨rfl,n9⟩;have N9:=q8 n9;clear n9)
      have HB9:=q8 (qE N9.out HBx.out);have HN9:=q8 (HNx.out.trans N9.out);obtain⟨⟨r0,r1,r2,r3,r4⟩,f0,f1,f2,f3,f4⟩:=q7X HB9.out;clear p0 p1 p2 p3 p4;by_cases h0:q=0
      ·subst h0
       have HO2:=q8 (HO.out.trans (if_pos rfl));obtain⟨s0,s1,s2,s3,s4⟩:=(show w9.cell? ⟨G+1,0,none⟩=some (.slice a1 r.m.feats.length a2)∧w9.cell? ⟨G+1,1,none⟩=some (.slice b1 r.m.grps.length b2)∧w9.cell? ⟨G+1,2,none⟩=some (.slice c1 r.m.atts.length c2)∧w9.cell? ⟨G+1,3,none⟩=some (.slice d1 r.m.reqs.length d2)∧w9.cell? ⟨G+1,4,none⟩=some (.slice e1 r.m.lims.length e2)from
        ⟨cell1 (qE N9.out HBo.out) rfl,cell1 (qE N9.out HBo.out) rfl,cell1 (qE N9.out HBo.out) rfl,cell1 (qE N9.out HBo.out) rfl,cell1 (qE N9.out HBo.out) rfl⟩)
       go_wp2_with fail
       obtain⟨⟨y0,y1,y2,y3,y4⟩,hk⟩:=q83 HB9.out (.slice a1 r.m.feats.length a2) (.slice b1 r.m.grps.length b2) (.slice c1 r.m.atts.length c2) (.slice d1 r.m.reqs.length d2) (.slice e1 r.m.lims.length e2) _ rfl;refine qo (v:= .tuple #[.agg #[.slice a1 r.m.feats.length a2,.slice b1 r.m.grps.length b2,.slice c1 r.m.atts.length c2,.slice d1 r.m.reqs.length d2,.slice e1 r.m.lims.length e2],.int .i64 0,.int .i64 0]) (by simp [qC,Tryz.results12,go_sem,y0,y1,y2,y3,y4]) rfl ?_;rw [HO2.out];exact⟨_,rfl,(HR2.out.kept (N9.out.kept.trans hk) (fun g hg e=>by have hg:base≤g:=hg;omega) (fun g hg=>by have hg:base≤g:=hg;show w.heap.size≤g;omega)),Kept.mono (HN9.out.kept.trans hk) fun k hk e=>by omega⟩
      ·have hne0:((q:Int) !=0)=true:=by rw [bne_iff_ne];omega
       have HO2:=q8 (HO.out.trans (if_neg h0));have hw64l:wrap64 ((ls.length:Int)+1)=(ls.length:Int)+1:=xK _ (by have:=HLl.out;omega);clear h0;go_wp2_with fail
       obtain⟨hE,y0,y1,y2,y3,y4⟩:=VS HO2.out HN9.out (qt _) HB9.out ((ls.length:Int)+1) (by omega) _ rfl;exact qo (v:= .tuple #[q5Y,.int .i64 ((ls.length:Int)+1),.int .i64 2]) (by simp [qC,Tryz.results12,go_sem,y0,y1,y2,y3,y4,q5Y,hw64l]) rfl hE
end Go.Proofs.YtjcbmcnbdegpmaaGreatDoor
