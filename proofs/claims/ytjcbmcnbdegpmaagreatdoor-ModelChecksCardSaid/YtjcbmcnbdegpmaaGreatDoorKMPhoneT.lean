/- MRed, MAnaW, MAna, MPhoneT. -/
import Derived.Sort.CutIn
import Derived.Test.YtjcbmcnbdegpmaaGreatDoorKMPrW
set_option maxRecDepth 100000
set_option maxHeartbeats 12800000
set_option linter.unusedVariables false
set_option linter.unusedSimpArgs false
open Array renaming getElem?_eq_some_iff->qk
open Array.mk renaming injEq->za
open Go renaming info_parts->zG,wpAnyH_ready->jq
open Go.AllReadyH renaming nil->yI
open Go.IntWalk renaming i64_in->j9
open Go.Lib renaming hid->q8
open Go.NoPanic renaming normal->vA
open Go.Proofs.Tryz renaming prog->qj
open Go.Value renaming oneCell'->qX
open Go.Value.agg renaming injEq->qY
open Go.Value.slice renaming injEq->qq
open Go.World renaming frozen?->jx
open List renaming getElem?_eq_getElem->qi,setIfInBounds_toArray->qb,set_cons_succ->qd,set_cons_zero->qh,toArray->qx
open List.cons renaming injEq->qJ
open Nat renaming le_refl->qt,lt_of_lt_of_le->qu,zero_le->qv
open Option.some renaming injEq->zo
open Or renaming inl->qB,inr->j4
open Go.Value renaming slice->vd,int->ve,string->vf,pointer->vg,agg->vi,bool->vj
open Go.Obj renaming cells->vk
open Go.Ending renaming returned->vm
open Go.IntKind renaming i64->vp,u8->vq,u32->vr,u64->vt
open Or renaming inl->vu,inr->vv
namespace Go.Proofs.YtjcbmcnbdegpmaaGreatDoor
open Go Go.RowKit Go.Shelf Go.Proofs.Gen Go.Proofs.Mod
attribute [local go_sem] Oper.semAt_some
theorem q7U{n k:Nat}(h:k<n):n - (intOf (.int .i64 ((k:Int)+1))).toNat<n - (intOf (.int .i64 (k:Int))).toNat:=by
 simp [intOf];omega
theorem Zm{S:Nat→Prop}{w:World}{B:Nat}{m:Mod}(h:ka S w B m)(ok:vC m):
 Calls qj 78 #[.pointer (some ⟨B,0,none⟩)] w fun e w'=> ∃s,e= .returned s∧w'.ownsRow w.heap.size 3 1 s (redTo m (rulesF m).length).length ((redTo m (rulesF m).length).map natV)∧Near w w':=by
 have HSt:=q8 h;obtain⟨a,b,c,d,e,sv,x,y,base,hB,hRd,hSets,-⟩:=h;have HSe:=q8 hSets;obtain⟨vs,hown,hvl,hvs⟩:=hSets;obtain⟨so,scap,rfl⟩:=qR hown;have HB:=q8 hB;have HRd:=q8 hRd;have HOw:=q8 hown;have hfew:vs.length≤1000:=by rw [hvl];exact jQ ok
 have HVs:=q8 hvs;have HVl:=q8 hvl;have HOk:=q8 ok;have q5:w.cell? ⟨B,5,none⟩=some (.slice so (rulesF m).length scap):=cell1 hB rfl;have hBl:B<w.heap.size:=(qk.1 hB).1;clear hRd hown hvs ok hB;refine(callsIn_wide (n:=6)).1 ?_;refine callsIn_of_wp_marks Tryz.func78 rfl trivial ?_ rfl;simp only [Tryz.ntmps78,List.size_toArray,List.length_cons,List.length_nil,Nat.reduceAdd,Nat.reduceSub,Array.replicate_succ,Array.replicate_zero,List.push_toArray,List.append_toArray,List.nil_append,List.cons_append];gi_upto_region 2 with(refine⟨trivial,?_⟩;gi_at_call 22;refine(callsIn_wide.2 (true_f _)).mono ?_;rintro e w1 ⟨v1,rfl,d1,n1⟩;obtain⟨x1,x2,x3,x4,rfl⟩:=d1.form;have D1:=q8 d1;have N1:=q8 n1;clear d1 n1)
 obtain⟨R,hR⟩: ∃R,w1.heap.size=R:=⟨_,rfl⟩;have hV: ∀V,V=(w1.alloc (.cells #[.slice x1 x2 x3,.int .i64 x4] 43)).alloc (.cells #[.slice (some ⟨R,0,none⟩) 1 1] 135)→Near w1 V∧V.heap.size=R+2∧V.heap[R+1]? =some (.cells #[.slice (some ⟨R,0,none⟩) 1 1] 135 (0,0))∧Sets 43 IsF R V (.slice (some ⟨R,0,none⟩) 1 1) (behP (rulesF m) []):=by
  rintro V rfl;subst hR;have hN:Near w1 ((w1.alloc (.cells #[.slice x1 x2 x3,.int .i64 x4] 43)).alloc (.cells #[.slice (some ⟨w1.heap.size,0,none⟩) 1 1] 135)):=((Near.refl w1).alloc _).alloc _;refine⟨hN,by simp,heap_new_at (by simp),[(.slice x1 x2 x3,.int .i64 x4)],?_,rfl,fun j f p h1 h2=> ?_⟩
  ·refine⟨rfl,.inr ⟨w1.heap.size,1,_,rfl,qt _,by rw [qD (by simp),heap_new_at rfl],qt 1,by unfold maxLen;omega,rfl,rfl⟩⟩
  ·rw [q4a]at h1
   cases j with
   |zero=>
    cases h1
    cases h2;exact D1.out.near hN
   |succ j=>cases h1
 rw [hR];have h1:=hV _ rfl;generalize(w1.alloc (.cells #[.slice x1 x2 x3,.int .i64 x4] 43)).alloc (.cells #[.slice (some ⟨R,0,none⟩) 1 1] 135)=V at h1⊢;obtain⟨nV,hVs,hVb,hVr⟩:=h1;have HNV:=q8 (N1.out.trans nV);have v5:V.cell? ⟨B,5,none⟩=some (.slice so (rulesF m).length scap):=HNV.out.cell q5;have hwR:w.heap.size≤R:=by have:=N1.out.size;omega
 clear hV hR q5 nV;gi_wp2_with (refine⟨trivial,?_⟩;gi_at_call 153;refine(callsIn_wide.2 (back_calls _ _ _ _)).mono ?_;rintro e w2 ⟨rfl,rfl⟩);have hV2: ∀V2,V2=V.alloc (.cells #[.slice so (rulesF m).length scap] 135)→Near V V2∧V2.heap.size=R+3∧V2.heap[R+2]? =some (.cells #[.slice so (rulesF m).length scap] 135 (0,0)):=by
  rintro V2 rfl;exact⟨(Near.refl V).alloc _,by simp [hVs],heap_new_at hVs.symm⟩
 have h2:=hV2 _ rfl;generalize V.alloc (.cells #[.slice so (rulesF m).length scap] 135)=W2 at h2⊢;obtain⟨n2,h2s,hbt⟩:=h2;have HN2:=q8 (HNV.out.trans n2);have HBt:=q8 hbt;have H2s:=q8 h2s;have h0:BehI R W2 (rulesF m) [] W2:=⟨_,_,qE n2 hVb,hVr.map n2 (fun _ _ h=>h.near n2),Kept.refl _ _⟩;have hsq:SeqStopsK Fence.wide (6 - 1) qj 208 #[.pointer (some ⟨R+2,0,none⟩)] (fun x:{j:Nat//j<vs.length}=> #[.int .i64 (x.1:Nat),.agg #[vs[x.1].1,vs[x.1].2]]) (KeepB R (R+2)) (fun xs=>xs.map Subtype.val=downL vs.length 0) (fun _=>True) vs.length W2:=by
  refine q00 (6 - 1) (by omega) (R+2) R so scap vs (by omega) W2 (by rw [hvl];exact cell1 hbt rfl) fun j hj=> ?_;obtain⟨h0,h1⟩:=gY (vs:=vs) (j:=j) (p:=vs[j]) (qi hj);rcases HOw.out.2 with⟨-,e⟩|⟨g,cap',cur,e,-,hg,-⟩
  ·omega
  ·simp only [qq]at e
   obtain⟨rfl,-,rfl⟩:=e;have hgl:=(qk.1 hg).1;exact⟨g,rfl,by omega,HN2.out.cell (yh HOw.out h0).1,HN2.out.cell (yh HOw.out h1).1⟩
 clear hV2 hVs hVb hVr n2 v5 hbt;have hfm: ∀x:{j:Nat//j<vs.length},∃t1 t2 t3 t4,vs[x.1].1= .slice t1 t2 t3∧vs[x.1].2= .int .i64 t4:=fun x=>by
  have hx:=x.2;obtain⟨t1,t2,t3,t4,e⟩:=(HVs.out x.1 _ vs[x.1] (qi (by omega)) (qi hx)).form;simp only [qY,za,qJ,and_true]at e;exact⟨t1,t2,t3,t4,e.1,e.2⟩
 have HFm:=q8 hfm;clear hfm;refine V7 (α:={j:Nat//j<vs.length}) rfl (by omega) (gf:=208) (lb:= #[.pointer (some ⟨R+2,0,none⟩)]) rfl trivial (enters_of Tryz.func208 (by kernel_rfl) rfl) hsq
  (fun h k=>Kept.trans h k) ?Kb (fun pre W=>BehI R W2 (rulesF m) (pre.map Subtype.val) W) (fun s W W' row h hg hr=>q2s H2s.out h hg hr) h0 5 (fun x bd W=>W.heap[bd]? =some (.cells #[vs[x.1].1,vs[x.1].2] 43 (0,0))∧R+1<W.heap.size∧ ∀n cap k,W.heap[R+1]? =some (.cells #[.slice (some ⟨k,0,none⟩) n cap] 135 (0,0))→k≠bd) ?X ?assign ?body ?done
 case Kb=>
  intro W l o o' hl _ _ _;exact⟨rfl,rfl,rfl,by simp [World.putObj],fun k hk hn=>World.putObj_heap_other (fun e=>hn ⟨by have:=H2s.out;omega,by have:=H2s.out;omega⟩)⟩
 case X=>
  rintro x bd s W W' row ⟨h1,hlt1,h2⟩ hg hr;have hne: ∀k (o:Obj),W.heap[k]? =some o→o.isCells=true→W'.heap[k]? =W.heap[k]? :=fun k o hk ho=>by
   refine hg.block k (qk.1 hk).1 fun e=> ?_;obtain⟨-,o',ho',hc⟩:=hr k e.symm;rw [hk]at ho'
   cases ho';rw [ho]at hc
   cases hc
  refine⟨(hne _ _ h1 rfl).trans h1,qu hlt1 hg.size,fun n cap k hk=>h2 n cap k ?_⟩;rw [←hk];exact(hg.block _ hlt1 fun e=>by have:=(hr _ e.symm).1;have:=H2s.out;omega).symm
 case assign=>
  intro l pre x W K hI hK;have hsz:R+3≤W.heap.size:=by
   obtain⟨_,_,_,_,hk⟩:=hI
   have:=hk.size
   have:=H2s.out
   omega
  have HNe:=q8 (show∀n cap k,(W.alloc (.cells #[vs[x.1].1,vs[x.1].2] 43)).heap[R+1]? =some (.cells #[.slice (some ⟨k,0,none⟩) n cap] 135 (0,0))→k≠W.heap.size from fun n cap k hk=>by
   obtain⟨ao,cap',hb',⟨us,hus,-⟩,-⟩:=hI;rw [qD (by omega),hb']at hk;simp only [zo,Obj.cells.injEq,za,qJ,qq,and_true]at hk
   have:=(hus.lt k (by rw [hk.1];rfl)).2
   omega)
  have HI2:=q8 (q2s (row:=none) H2s.out hI (World.grownBy_alloc W (.cells #[vs[x.1].1,vs[x.1].2] 43) none) (fun r e=>by cases e));have HKf:=q8 (show KeepsFrom W2.heap.size W (W.alloc (.cells #[vs[x.1].1,vs[x.1].2] 43))from⟨by simp,fun k o hB hb hc=>(qD (qk.1 hb).1).trans hb⟩);have HKb:=q8 (show KeepB R (R+2) W (W.alloc (.cells #[vs[x.1].1,vs[x.1].2] 43))from(Kept.refl _ W).alloc _);have HBx:=q8 (show(W.alloc (.cells #[vs[x.1].1,vs[x.1].2] 43)).heap[W.heap.size]? =some (.cells #[vs[x.1].1,vs[x.1].2] 43 (0,0))from heap_new_at rfl);have hK2:=hK _ (W.alloc (.cells #[vs[x.1].1,vs[x.1].2] 43)) HKf.out HKb.out HI2.out ⟨W.heap.size,rfl,by have:=H2s.out;omega,HBx.out,by simp;omega,HNe.out⟩;obtain⟨t1,t2,t3,t4,hu,hu2⟩:=HFm.out x;rw [hu,hu2]at hK2⊢;simp only [qb,qh,qd]at hK2⊢;clear hK hI;gi_wp2;exact hK2
 case body=>
  intro l pre x bd W hbd hb hI hpl;obtain⟨t1,t2,t3,t4,hu,hu2⟩:=HFm.out x;rw [hu,hu2]at hb;rw [hu,hu2];obtain⟨hb,-,hbne⟩:=hb;simp only [qb,qh,qd];have hpx:(pre++[x]).map Subtype.val=pre.map Subtype.val++[x.1]:=by simp
  have hjs:(pre.map Subtype.val).length=pre.length:=by simp
  have HPx:=q8 hpx;have hBeh:=hI;generalize hjj:pre.map Subtype.val=js at hI HPx hjs;obtain⟨ao,cap,hbx,⟨us,hus,hul,hui⟩,hk⟩:=hI;have hbl:=wh (rulesF m) js;rw [hbl]at hus hul;obtain⟨n,hn⟩: ∃n,js.length=n:=⟨_,rfl⟩;rw [hn]at hbx hus hul hbl hjs;obtain⟨g,rfl⟩: ∃g,ao=some ⟨g,0,none⟩:=by
   rcases hus.2 with⟨e,-⟩|⟨g,cap',cur,e,-⟩
   ·simp only [qq]at e
    omega
   ·simp only [qq]at e
    exact⟨g,e.1⟩
  obtain⟨p,hp⟩: ∃p,us[n]? =some p:=⟨_,qi (by omega)⟩;have hlast:IsF W (.agg #[p.1,p.2]) (prodF (rulesF m) js):=hui n _ p (by have:=q2u (rulesF m) js;rwa [hn]at this) hp;obtain⟨y1,y2,y3,y4,hpe⟩:=hlast.form;simp only [qY,za,qJ,and_true]at hpe;obtain⟨hp1,hp2⟩:=hpe;rw [hp1,hp2]at hlast;obtain⟨f0,f1⟩:=gY hp;have d0:W.cell? ⟨g,n*2,none⟩=some (.slice y1 y2 y3):=hp1▸(yh hus f0).1;have d1:W.cell? ⟨g,n*2+1,none⟩=some (.int .i64 y4):=hp2▸(yh hus f1).1;have hNW:Near w W:=Kept.mono (HN2.out.kept.trans hk) fun k hk e=>by omega
  have hxf:IsF W (.agg #[.slice t1 t2 t3,.int .i64 t4]) (atF (rulesF m) x.1):=by
   have hx:=x.2;have h1:=HVs.out x.1 _ vs[x.1] (qi (by omega)) (qi hx);rw [hu,hu2]at h1;refine(h1.near hNW).congr fun c=> ?_;unfold atF;rw [qi (by omega)]
  have hgb:g≠bd:=hbne _ _ _ hbx;have HF0:=q8 (show(uL us)[n*2]? =some (.slice y1 y2 y3)from hp1▸f0);have HF1:=q8 (show(uL us)[n*2+1]? =some (.int .i64 y4)from hp2▸f1);have HLa:=q8 hlast;have HXf:=q8 hxf;have HBx:=q8 hbx;have HUs:=q8 hus;have HUi:=q8 hui;have HKk:=q8 hk;have hn3:n≤1000:=by omega
  have hWs:=hk.size;have hgR:R≤g∧g<W.heap.size:=hus.lt g rfl;have HJs:=q8 hjs;have HHn:=q8 hn;have HUl:=q8 hul;clear hui hus hlast hxf hk hbl hp f0 f1 hp1 hp2 hpx hBeh hjs hn hul hjj;have hmx:qj.follows .mixedOrders=true:=by kernel_rfl
  gi_wp2;refine Qa hmx (by kernel_rfl) (fun⟨_,_,h⟩=>h) (fun W'=>W'.cell? ⟨R+1,0,none⟩=some (.slice (some ⟨g,0,none⟩) (n+1) cap)∧W'.cell? ⟨g,n*2,none⟩=some (.slice y1 y2 y3)∧W'.cell? ⟨g,n*2+1,none⟩=some (.int .i64 y4)∧W'.cell? ⟨bd,0,none⟩=some (.slice t1 t2 t3)∧W'.cell? ⟨bd,1,none⟩=some (.int .i64 t4)) 11
   ⟨by simpa using cell1 HBx.out rfl,by simpa using d0,by simpa using d1,by simpa using cell1 hb rfl,by simpa using cell1 hb rfl⟩ (fun hS=> ?_)
  refine tD0 (v:= .slice (some ⟨g,0,none⟩) (n+1) cap) (by kernel_rfl) (by kernel_rfl) (by kernel_rfl) (by kernel_rfl) (fun _ _ _ h=>h) (qB ⟨by rfl,fun w' hS'=>by dsimp only at hS';obtain⟨q0,q1,q2,q3,q4⟩:=hS';go_simp⟩) hS ?_;try simp only [Act.put,qb,qh,qd]
  refine tD1 (v:= .slice (some ⟨g,0,none⟩) (n+1) cap) (by kernel_rfl) (by kernel_rfl) (by kernel_rfl) (by kernel_rfl) (fun _ _ _ h=>h) (qB ⟨by rfl,fun w' hS'=>by dsimp only at hS';obtain⟨q0,q1,q2,q3,q4⟩:=hS';go_simp⟩) hS ?_;try simp only [Act.put,qb,qh,qd]
  refine tD2 (v:= .slice (some ⟨g,0,none⟩) (n+1) cap) (by kernel_rfl) (by kernel_rfl) (by kernel_rfl) (by kernel_rfl) (fun _ _ _ h=>h) (qB ⟨by rfl,fun w' hS'=>by dsimp only at hS';obtain⟨q0,q1,q2,q3,q4⟩:=hS';go_simp⟩) hS ?_;try simp only [Act.put,qb,qh,qd]
  refine tD3 (v:= .int .i64 ((n+1:Nat):Int)) (by kernel_rfl) (by kernel_rfl) (by kernel_rfl) (by kernel_rfl) (fun _ _ _ h=>h) (qB ⟨by rfl,fun w' hS'=>by dsimp only at hS';obtain⟨q0,q1,q2,q3,q4⟩:=hS';go_simp⟩) hS ?_;try simp only [Act.put,qb,qh,qd]
  refine tD4 (v:= .int .i64 (n:Nat)) (by kernel_rfl) (by kernel_rfl) (by kernel_rfl) (by kernel_rfl) (fun _ _ _ h=>h) (qB ⟨by rfl,fun w' hS'=>by dsimp only at hS';obtain⟨q0,q1,q2,q3,q4⟩:=hS';go_simp;exact j9 _ (by omega)⟩) hS ?_;try simp only [Act.put,qb,qh,qd]
  refine tD5 (v:= .pointer (some ⟨g,n*2,none⟩)) (by kernel_rfl) (by kernel_rfl) (by kernel_rfl) (by kernel_rfl) (fun _ _ _ h=>h) (qB ⟨by rfl,fun w' hS'=>by dsimp only at hS';obtain⟨q0,q1,q2,q3,q4⟩:=hS';go_simp;intro h;omega⟩) hS ?_;try simp only [Act.put,qb,qh,qd]
  refine tD6 (v:= .agg #[.slice y1 y2 y3,.int .i64 y4]) (by kernel_rfl) (by kernel_rfl) (by kernel_rfl) (by kernel_rfl) (fun _ _ _ h=>h) (qB ⟨by rfl,fun w' hS'=>by dsimp only at hS';obtain⟨q0,q1,q2,q3,q4⟩:=hS';go_simp⟩) hS ?_;try simp only [Act.put,qb,qh,qd]
  refine tD7 (v:= .agg #[.slice t1 t2 t3,.int .i64 t4]) (by kernel_rfl) (by kernel_rfl) (by kernel_rfl) (by kernel_rfl) (fun _ _ _ h=>h) (qB ⟨by rfl,fun w' hS'=>by dsimp only at hS';obtain⟨q0,q1,q2,q3,q4⟩:=hS';go_simp⟩) hS ?_;try simp only [Act.put,qb,qh,qd]
  obtain⟨i53,hi,hz0,hz1,hz2⟩:=zG UQ;refine oZ8 (by kernel_rfl) (fun K hK=> ?_);go_simp;go_wp2_with (go_at_call 74;refine(and_f (HLa.out.near (Near.refl W).drew) (HXf.out.near (Near.refl W).drew)).mono ?_;rintro e z1 ⟨v1,rfl,hv1,n1⟩)
  obtain⟨b1,b2,b3,b4,rfl⟩:=hv1.form;have HV1:=q8 hv1;have HN1:=q8 ((Near.refl W).drew.trans n1);refine hK.out _ _ (j4 ⟨n1.cell hS.1,n1.cell hS.2.1,n1.cell hS.2.2.1,n1.cell hS.2.2.2.1,n1.cell hS.2.2.2.2⟩) ?_;clear hK K;try simp only [Act.put,qb,qh,qd]
  refine oZ9 (by kernel_rfl) (fun K hK=> ?_);go_simp;refine hK.out _ _ (j4 ⟨(n1.alloc _).cell hS.1,(n1.alloc _).cell hS.2.1,(n1.alloc _).cell hS.2.2.1,(n1.alloc _).cell hS.2.2.2.1,(n1.alloc _).cell hS.2.2.2.2⟩) ?_;clear hK K;try simp only [Act.put,qb,qh,qd]
  have HRow:=q8 (show(z1.alloc (.cells #[.slice b1 b2 b3,.int .i64 b4] 43)).ownsRow R 43 2 (.slice (some ⟨g,0,none⟩) (n+1) cap) (n+1) (uL us)from owns_kept HUs.out (HN1.out.alloc _) (fun _ _ h=>h));have hzs:R≤z1.heap.size:=by have:=HN1.out.size;omega
  refine q88 (by kernel_rfl) (fun K hK=> ?_);refine jU rfl (.tmp 19) (.tmp 28) 135 rfl R 43 i53 (.agg #[.slice none 0 0,.int .i64 0]) 2 32 Tryz.underlying135 hi hz0 hz1 hz2 rfl (by decide) _ _ _ rfl HRow.out ⟨z1.heap.size,0,none⟩ 1 1 [.slice b1 b2 b3,.int .i64 b4] rfl rfl (kK (by simp) _ _ _) (by simp [qX]) (by unfold maxLen;omega) (by omega) (by simp;omega) ?_;intro ao3 cap3 w3 hown3 hg3 hl3 hkeep;have HG3:=q8 hg3;have hkz:Kept (fun k=>k=g) (z1.alloc (.cells #[.slice b1 b2 b3,.int .i64 b4] 43)) w3:=Kept.grown (Kept.refl _ _) hg3 fun k e _=>by
   have e2:some g=some k:=e
   cases e2;rfl
  have HSt2:=q8 (q49 (fs:=rulesF m) (js:=js) (x:=x.1) (u:= .slice b1 b2 b3) (v:= .int .i64 b4) H2s.out HBt.out (HHn.out▸HBx.out) (HHn.out▸HUs.out) (HHn.out▸HUl.out) HUi.out HKk.out (HN1.out.alloc (.cells #[.slice b1 b2 b3,.int .i64 b4] 43)) (HHn.out▸hg3) (HHn.out▸hown3) (HV1.out.near ((Near.refl z1).alloc _)));have hn1:=HHn.out;rw [hn1]at HSt2;have e0:w3.cell? ⟨R+1,0,none⟩=some (.slice (some ⟨g,0,none⟩) (n+1) cap):=cell1 HSt2.out.1 rfl;have ef:=zQ HSt2.out.1 0;have m3:w3.cell? ⟨bd,0,none⟩=some (.slice t1 t2 t3):=hkz.cell ((n1.alloc _).cell hS.2.2.2.1) (fun e=>hgb e.symm);have m4:w3.cell? ⟨bd,1,none⟩=some (.int .i64 t4):=hkz.cell ((n1.alloc _).cell hS.2.2.2.2) (fun e=>hgb e.symm);have m1:=(yh hkeep HF0.out).1;have m2:=(yh hkeep HF1.out).1;refine hK.out _ _ (j4 ⟨e0,m1,m2,m3,m4⟩) ?_;clear hK K hkeep hown3 hg3 hl3 hS d0 d1 m1 m2 m3 m4 hi hz0 hz1 hz2 hn1;try simp only [Act.put,qb,qh,qd]
  refine q87 (by kernel_rfl) (fun K hK=> ?_);go_simp;refine hK.out _ _ (qB rfl) ?_;refine yR (by kernel_rfl) ?_;show KeepsFrom _ _ _∧KeepB _ _ _ _∧BehI _ _ _ _ _;rw [HPx.out];exact HSt2.out.2 _ rfl
 case done=>
  rintro D xs W hD hxs hI hdef;rw [hxs,HVl.out]at hI;obtain⟨n,hn⟩: ∃n,(rulesF m).length=n:=⟨_,rfl⟩;rw [hn]at hI;obtain⟨ao,cap,hbx,hse,hk⟩:=hI;have hdl:(downL n 0).length=n:=by simp [downL]
  have hbl:=wh (rulesF m) (downL n 0);rw [hdl]at hbx hse hbl;obtain⟨g,rfl⟩: ∃g,ao=some ⟨g,0,none⟩:=by
   obtain⟨us,hus,hul,-⟩:=hse;rcases hus.2 with⟨e,-⟩|⟨g,cap',cur,e,-⟩
   ·simp only [qq]at e
    omega
   ·simp only [qq]at e
    exact⟨g,e.1⟩
  have hgR:R≤g∧g<W.heap.size∧ ∃cur fr,W.heap[g]? =some (.cells cur 43 fr):=by
   obtain⟨us,hus,-⟩:=hse;exact⟨(zY hus rfl).1,(hus.lt g rfl).2,(zY hus rfl).2⟩
  have hrv:=q0L (w:=W) (g:=g) (cap:=cap) (fs:=behP (rulesF m) (downL n 0)) (base:=R) (by rw [hbl];exact hse) (by omega);rw [hbl]at hrv;have hba:=q6C (rulesF m);rw [hn]at hba;rw [hba]at hrv;have HRv:=q8 hrv;have HNW:=q8 (show Near w W from Kept.mono (HN2.out.kept.trans hk) fun k hk e=>by omega);have c0:W.cell? ⟨R+1,0,none⟩=some (.slice (some ⟨g,0,none⟩) (n+1) cap):=cell1 hbx rfl;have HDf:=q8 hdef;have hDW:=(qk.1 hdef).1;have HGc:=q8 hgR.2.2;have hgW:=hgR.2.1;have hRg:=hgR.1;have hWs:=hk.size;have h2s':=H2s.out;clear hse hrv hba hk hbl hdl hgR hdef hxs;gi_upto_region 8 with(first
   |(refine⟨trivial,?_⟩;gi_at_call 154;refine(callsIn_wide.2 HRv.out).mono ?_;rintro e w5 ⟨rfl,rv5,k5⟩;have RV5:=q8 rv5;have K5:=q8 k5;clear rv5 k5)
   |(refine⟨trivial,?_⟩;gi_at_call 22;refine(callsIn_wide.2 (true_f _)).mono ?_;rintro e w6 ⟨v6,rfl,d6,n6⟩;obtain⟨u1,u2,u3,u4,rfl⟩:=d6.form;have D6:=q8 d6;have N6:=q8 n6;clear d6 n6))
  obtain⟨A,hA⟩: ∃A,w6.heap.size=A:=⟨_,rfl⟩;have h6: ∀V6,V6=w6.alloc (.cells #[.slice u1 u2 u3,.int .i64 u4] 43)→Near w6 V6∧V6.heap[A]? =some (.cells #[.slice u1 u2 u3,.int .i64 u4] 43 (0,0))∧V6.heap.size=A+1:=by
   rintro V6 rfl;subst hA;exact⟨(Near.refl w6).alloc _,heap_new_at rfl,by simp⟩
  have h6':=h6 _ rfl;rw [hA];generalize w6.alloc (.cells #[.slice u1 u2 u3,.int .i64 u4] 43)=V6 at h6'⊢;obtain⟨nV6,hA6,hs6⟩:=h6';have HN6:=q8 (show Near w V6 from((show Near w w5 from Kept.mono (HNW.out.kept.trans K5.out) fun k hk e=>by omega).trans N6.out).trans nV6);have HD6:=q8 (show IsF V6 (.agg #[.slice u1 u2 u3,.int .i64 u4]) (fun _=>true)from D6.out.near nV6);have HRv6:=q8 (RV5.out.near (N6.out.trans nV6));have HA6:=q8 hA6;have hDg:D≠g:=fun e=>by
   obtain⟨cur,fr,h1⟩:=HGc.out
   have:=HDf.out
   rw [e,h1]at this
   cases this
  have HDf6:=q8 (show V6.heap[D]? =some (.deferred (some []))from qE (N6.out.trans nV6) (qQ K5.out HDf.out hDg));have HBb6:=q8 (show V6.heap[R+1]? =some (.cells #[.slice (some ⟨g,0,none⟩) (n+1) cap] 135 (0,0))from qE (N6.out.trans nV6) (qQ K5.out hbx (fun e=>by
   obtain⟨cur,fr,h1⟩:=HGc.out;rw [←show R+1=g from e,hbx]at h1
   cases h1)))
  have hgA:g<A:=by have h1:=K5.out.size;have h2:=N6.out.size;omega
  have hDA:D<A:=by have h1:=K5.out.size;have h2:=N6.out.size;omega
  have HSt6:=q8 (HSt.out.near HN6.out);obtain⟨m1,m2,m3,m4,m5,m6,m7,m8,mb,hB6,hRd6,hSe6,-⟩:=HSt6.out;obtain⟨a1,a2,b1,b2,c1,c2,dd1,dd2,e1,e2,hme,-⟩:=RdMod.form hRd6;simp only [qY,za,qJ,and_true]at hme;obtain⟨rfl,rfl,rfl,rfl,rfl⟩:=hme;have s0:V6.cell? ⟨B,0,none⟩=some (.slice a1 m.feats.length a2):=cell1 hB6 rfl;have s1:V6.cell? ⟨B,1,none⟩=some (.slice b1 m.grps.length b2):=cell1 hB6 rfl;have s2:V6.cell? ⟨B,2,none⟩=some (.slice c1 m.atts.length c2):=cell1 hB6 rfl;have s3:V6.cell? ⟨B,3,none⟩=some (.slice dd1 m.reqs.length dd2):=cell1 hB6 rfl;have s4:V6.cell? ⟨B,4,none⟩=some (.slice e1 m.lims.length e2):=cell1 hB6 rfl;have okk:=HOk.out;have HRu:=q8 (vU hRd6 okk.n0 (by have:=okk.n24;omega) (by have:=okk.g24;omega) (by have:=okk.r64;omega) (by have:=okk.l16;omega));clear h6 nV6 hA6 hA okk hSe6 hRd6;refine wpIn_wide.2 ?_;go_upto_region 9 with(go_at_call 75;refine HRu.out.mono ?_;rintro e w7 ⟨rv,rfl,hor,n7⟩;have HOr:=q8 hor;have N7:=q8 n7;obtain⟨ro,rc,rfl⟩:=qR hor;clear hor n7)
  clear s0 s1 s2 s3 s4;have hro:(rulesOf m).length=n:=by rw [←hn];simp [rulesF]
  rw [hro];have HA7:=q8 (qE N7.out HA6.out);have HD7:=q8 (HD6.out.near N7.out);have HRv7:=q8 (HRv6.out.near N7.out);have HN7:=q8 (HN6.out.trans N7.out);have HDf7:=q8 (qE N7.out HDf6.out);have HBb7:=q8 (qE N7.out HBb6.out);have HSt7:=q8 (HSt.out.near HN7.out);have hA7:A<w7.heap.size:=(qk.1 HA7.out).1;have hwA:w.heap.size≤A:=by have h1:=K5.out.size;have h2:=N6.out.size;omega
  obtain⟨base7,hb7⟩: ∃b,w7.heap.size=b:=⟨_,rfl⟩;rw [hb7]at hA7;have HB7:=q8 hb7;have hn1000:n≤1000:=by omega
  have HHn:=q8 hn;have HRo:=q8 hro;clear hro hb7 hn HSt6 HA6 HD6 HRv6 HN6 HDf6 HRu D6 RV5 HRv hB6 c0 hbx;gi_wp2;refine wpIn_wide.2 ?_;go_loopw [6,39] (fun v ix wr=> ∃k:Nat,k≤n∧ix= .int .i64 k∧wr.ownsRow base7 3 1 v (redTo m k).length ((redTo m k).map natV)∧(∃q1 q2 q3 q4,wr.heap[A]? =some (.cells #[.slice q1 q2 q3,.int .i64 q4] 43 (0,0))∧IsF wr (.agg #[.slice q1 q2 q3,.int .i64 q4]) (allF ((rulesF m).take k)))∧Kept (fun b=>b=A) w7 wr) (fun _ ix _=>n - (intOf ix).toNat)
  case atStart=>exact⟨0,qv _,rfl,World.ownsRow_nil _ _ _ _,⟨_,_,_,_,HA7.out,HD7.out⟩,Kept.refl _ _⟩
  case round=>
   obtain⟨k,hk,rfl,hown,⟨q1,q2,q3,q4,hAr,hIr⟩,hkr⟩:=hrel;obtain⟨vo,vc,rfl⟩:=qR hown;have HOw7:=q8 hown;have HAr:=q8 hAr;have HIr:=q8 hIr;have HKr:=q8 hkr;clear hown hAr hIr hkr;by_cases hlt:k<n
   ·have hlt':(k:Int)<n:=by omega
    obtain⟨f,hf⟩: ∃f,(rulesF m)[k]? =some f:=⟨_,qi (by have:=HHn.out;omega)⟩;obtain⟨⟨kd,ix⟩,hr⟩: ∃r,(rulesOf m)[k]? =some r:=⟨_,qi (by have:=HRo.out;omega)⟩;have hrd:q5F m k=((decide (kd=6)||decide (kd=7))&&nowhere fun c=>(allF ((rulesF m).take k) c&&allF ((rulesF m).drop (k+1)) c)&& !f c):=by
     unfold q5F;rw [hr,hf]
    have HRd:=q8 hrd;have HTk:=q8 (q2F hf);have HSu:=q8 (WV m k);have hrl:=Xg m k;have horr:=owns_kept HOr.out HKr.out (fun j hj e=>by
     obtain⟨-,cur,fr,h3⟩:=zY HOr.out hj;rw [show j=A from e,HA7.out]at h3
     cases h3)
    obtain⟨fr0,fr1⟩:=Wg hr;obtain⟨gr,rfl⟩: ∃gr,ro=some ⟨gr,0,none⟩:=by
     rcases horr.2 with⟨e,h0⟩|⟨gr,cap',cur,e,-⟩
     ·have:=HRo.out
      omega
     ·simp only [qq]at e
      exact⟨gr,e.1⟩
    have r0:wr.cell? ⟨gr,k*2,none⟩=some (.int .u8 kd):=(yh horr fr0).1;have r1:wr.cell? ⟨gr,k*2+1,none⟩=some (.int .i64 ix):=(yh horr fr1).1;have HNr:=q8 (show Near w wr from Kept.mono (HN7.out.kept.trans HKr.out) fun j hj e=>by have e:j=A:=e;omega);obtain⟨gs,gcap,su,sv,hsl,-,-,hs0,hs1,hsf⟩:=(HSe.out.map HNr.out (fun _ _ h=>h.near HNr.out)).get hf;rw [HHn.out]at hsl;simp only [qq,true_and]at hsl;obtain⟨rfl,rfl⟩:=hsl;have hgsw:gs<base7:=by
     obtain⟨g',gcap',su',sv',e',-,hlt',-⟩:=HSe.out.get hf;simp only [qq,zo,Addr.mk.injEq,and_true]at e';have h1:=HN7.out.size;have h2:=HB7.out;omega
    obtain⟨su1,su2,su3,su4,hse⟩:=hsf.form;simp only [qY,za,qJ,and_true]at hse;obtain⟨rfl,rfl⟩:=hse;obtain⟨zu,zv,hz0,hz1,hzf⟩:=HRv7.out (k+1) (allF ((rulesF m).drop (k+1))) (by rw [List.getElem?_map,List.getElem?_range (by omega)];rfl);have hgA': ¬g=A:=by omega
    replace hz0:=HKr.out.cell hz0 hgA';replace hz1:=HKr.out.cell hz1 hgA';replace hzf:=IsF.at53 hzf HKr.out HA7.out;obtain⟨zu1,zu2,zu3,zu4,hze⟩:=hzf.form;simp only [qY,za,qJ,and_true]at hze;obtain⟨rfl,rfl⟩:=hze;have HSf:=q8 hsf;have HZf:=q8 hzf;have HBr:=q8 (qE HNr.out HB.out);have HS0:=q8 (show wr.cell? ⟨gs,k*2,none⟩=some (.slice su1 su2 su3)∧wr.cell? ⟨gs,k*2+1,none⟩=some (.int .i64 su4)from⟨hs0,hs1⟩);have HBb:=q8 (show wr.cell? ⟨R+1,0,none⟩=some (.slice (some ⟨g,0,none⟩) (n+1) cap)from cell1 (qQ HKr.out HBb7.out (by omega)) rfl);have hV: ∀V,V=wr.alloc (.cells #[.int .u8 kd,.int .i64 ix] 66)→Near wr V∧V.heap[wr.heap.size]? =some (.cells #[.int .u8 kd,.int .i64 ix] 66 (0,0)):=by
     rintro V rfl;exact⟨(Near.refl wr).alloc _,heap_new_at rfl⟩
    clear hf hr hrd hsf hzf horr fr0 fr1;go_upto_region 11 with fail
    have hv:=hV _ rfl;generalize wr.alloc (.cells #[.int .u8 kd,.int .i64 ix] 66)=V at hv⊢;obtain⟨nV,hVb⟩:=hv;have sOf: ∀W',Near V W'→(fun W'=>(W'.cell? ⟨wr.heap.size,0,none⟩=some (.int .u8 kd)∧W'.cell? ⟨A,0,none⟩=some (.slice q1 q2 q3)∧W'.cell? ⟨A,1,none⟩=some (.int .i64 q4)∧W'.cell? ⟨R+1,0,none⟩=some (.slice (some ⟨g,0,none⟩) (n+1) cap))∧(W'.cell? ⟨g,(k+1)*2,none⟩=some (.slice zu1 zu2 zu3)∧W'.cell? ⟨g,(k+1)*2+1,none⟩=some (.int .i64 zu4))∧W'.cell? ⟨B,5,none⟩=some (.slice (some ⟨gs,0,none⟩) n scap)∧W'.cell? ⟨gs,k*2,none⟩=some (.slice su1 su2 su3)∧W'.cell? ⟨gs,k*2+1,none⟩=some (.int .i64 su4)) W':=fun W' h=>⟨⟨cell1 (qE h hVb) rfl,cell1 (qE (nV.trans h) HAr.out) rfl,cell1 (qE (nV.trans h) HAr.out) rfl,(nV.trans h).cell HBb.out⟩,⟨(nV.trans h).cell hz0,(nV.trans h).cell hz1⟩,(nV.trans h).cell (HHn.out▸cell1 HBr.out rfl),(nV.trans h).cell hs0,(nV.trans h).cell hs1⟩;have HVb:=q8 hVb;have HNV':=q8 nV;have HSOf:=q8 sOf;have hAne:A≠wr.heap.size:=by have:=HKr.out.size;have:=HB7.out;omega
    have hk1:((k:Int)+1)<(n:Int)+1:=by omega
    clear hV nV hVb r0 r1 hz0 hz1 hs0 hs1 sOf;have hmx:qj.follows .mixedOrders=true:=by kernel_rfl
    have HW64:=q8 (show IntKind.i64.wrap ((k:Int)+1)=(k:Int)+1 from j9 _ (by omega));go_upto_region 11 with fail
    go_cut [68]from 40 to 82 (fun v wz=>v= .bool (q5F m k)∧Near V wz)
    case first=>
     by_cases h6:kd=6
     ·have h6':((kd:Int)==6)=true:=by rw [h6];rfl
      refine q1j ?_;refine kn hmx (fun W'=>(W'.cell? ⟨wr.heap.size,0,none⟩=some (.int .u8 kd)∧W'.cell? ⟨A,0,none⟩=some (.slice q1 q2 q3)∧W'.cell? ⟨A,1,none⟩=some (.int .i64 q4)∧W'.cell? ⟨R+1,0,none⟩=some (.slice (some ⟨g,0,none⟩) (n+1) cap))∧(W'.cell? ⟨g,(k+1)*2,none⟩=some (.slice zu1 zu2 zu3)∧W'.cell? ⟨g,(k+1)*2+1,none⟩=some (.int .i64 zu4))∧W'.cell? ⟨B,5,none⟩=some (.slice (some ⟨gs,0,none⟩) n scap)∧W'.cell? ⟨gs,k*2,none⟩=some (.slice su1 su2 su3)∧W'.cell? ⟨gs,k*2+1,none⟩=some (.int .i64 su4)) 99 (HSOf.out _ (Near.refl V).drew) (fun hS=> ?_);refine tD0 (v:= .pointer (some ⟨wr.heap.size,0,none⟩)) (by kernel_rfl) (by kernel_rfl) (by kernel_rfl) (by kernel_rfl) (fun _ _ _ h=>ya h) (qB ⟨by rfl,fun w' hS'=>by dsimp only at hS';obtain⟨⟨c0,c1,c2,c3⟩,⟨c4,c5⟩,c6,c7,c8⟩:=hS';go_simp⟩) hS ?_;try simp only [Act.put,qb,qh,qd]
      refine tD1 (v:= .int .u8 kd) (by kernel_rfl) (by kernel_rfl) (by kernel_rfl) (by kernel_rfl) (fun _ _ _ h=>ya h) (qB ⟨by rfl,fun w' hS'=>by dsimp only at hS';obtain⟨⟨c0,c1,c2,c3⟩,⟨c4,c5⟩,c6,c7,c8⟩:=hS';go_simp⟩) hS ?_;try simp only [Act.put,qb,qh,qd]
      refine tD2 (v:= .bool true) (by kernel_rfl) (by kernel_rfl) (by kernel_rfl) (by kernel_rfl) (fun _ _ _ h=>ya h) (qB ⟨by rfl,fun w' hS'=>by dsimp only at hS';obtain⟨⟨c0,c1,c2,c3⟩,⟨c4,c5⟩,c6,c7,c8⟩:=hS';go_simp⟩) hS ?_;try simp only [Act.put,qb,qh,qd]
      refine tD3 (v:= .bool true) (by kernel_rfl) (by kernel_rfl) (by kernel_rfl) (by kernel_rfl) (fun _ _ _ h=>ya h) (qB ⟨by rfl,fun w' hS'=>by dsimp only at hS';obtain⟨⟨c0,c1,c2,c3⟩,⟨c4,c5⟩,c6,c7,c8⟩:=hS';go_simp⟩) hS ?_;try simp only [Act.put,qb,qh,qd]
      refine tD4 (v:=undef) (by kernel_rfl) (by kernel_rfl) (by kernel_rfl) (by kernel_rfl) (fun _ _ _ h=>ya h) (j4 ⟨by rfl,rfl⟩) hS ?_;try simp only [Act.put,qb,qh,qd]
      refine tD5 (v:=undef) (by kernel_rfl) (by kernel_rfl) (by kernel_rfl) (by kernel_rfl) (fun _ _ _ h=>ya h) (j4 ⟨by rfl,rfl⟩) hS ?_;try simp only [Act.put,qb,qh,qd]
      refine tD6 (v:=undef) (by kernel_rfl) (by kernel_rfl) (by kernel_rfl) (by kernel_rfl) (fun _ _ _ h=>ya h) (j4 ⟨by rfl,rfl⟩) hS ?_;try simp only [Act.put,qb,qh,qd]
      refine tD7 (v:= .bool true) (by kernel_rfl) (by kernel_rfl) (by kernel_rfl) (by kernel_rfl) (fun _ _ _ h=>ya h) (qB ⟨by rfl,fun w' hS'=>by dsimp only at hS';obtain⟨⟨c0,c1,c2,c3⟩,⟨c4,c5⟩,c6,c7,c8⟩:=hS';go_simp⟩) hS ?_;try simp only [Act.put,qb,qh,qd]
      refine tD8 (v:= .bool true) (by kernel_rfl) (by kernel_rfl) (by kernel_rfl) (by kernel_rfl) (fun _ _ _ h=>ya h) (qB ⟨by rfl,fun w' hS'=>by dsimp only at hS';obtain⟨⟨c0,c1,c2,c3⟩,⟨c4,c5⟩,c6,c7,c8⟩:=hS';go_simp⟩) hS ?_;try simp only [Act.put,qb,qh,qd]
      refine tD9 (v:= .agg #[.slice q1 q2 q3,.int .i64 q4]) (by kernel_rfl) (by kernel_rfl) (by kernel_rfl) (by kernel_rfl) (fun _ _ _ h=>ya h) (qB ⟨by rfl,fun w' hS'=>by dsimp only at hS';obtain⟨⟨c0,c1,c2,c3⟩,⟨c4,c5⟩,c6,c7,c8⟩:=hS';go_simp⟩) hS ?_;try simp only [Act.put,qb,qh,qd]
      refine q6S (v:= .slice (some ⟨g,0,none⟩) (n+1) cap) (by kernel_rfl) (by kernel_rfl) (by kernel_rfl) (by kernel_rfl) (fun _ _ _ h=>ya h) (qB ⟨by rfl,fun w' hS'=>by dsimp only at hS';obtain⟨⟨c0,c1,c2,c3⟩,⟨c4,c5⟩,c6,c7,c8⟩:=hS';go_simp⟩) hS ?_;try simp only [Act.put,qb,qh,qd]
      refine q6R (v:= .int .i64 (k:Nat)) (by kernel_rfl) (by kernel_rfl) (by kernel_rfl) (by kernel_rfl) (fun _ _ _ h=>ya h) (qB ⟨by rfl,fun w' hS'=>by dsimp only at hS';obtain⟨⟨c0,c1,c2,c3⟩,⟨c4,c5⟩,c6,c7,c8⟩:=hS';go_simp⟩) hS ?_;try simp only [Act.put,qb,qh,qd]
      refine q6Q (v:= .int .i64 ((k:Int)+1)) (by kernel_rfl) (by kernel_rfl) (by kernel_rfl) (by kernel_rfl) (fun _ _ _ h=>ya h) (qB ⟨by rfl,fun w' hS'=>by dsimp only at hS';obtain⟨⟨c0,c1,c2,c3⟩,⟨c4,c5⟩,c6,c7,c8⟩:=hS';go_simp;exact HW64.out⟩) hS ?_;try simp only [Act.put,qb,qh,qd]
      refine q6P (v:= .pointer (some ⟨g,(k+1)*2,none⟩)) (by kernel_rfl) (by kernel_rfl) (by kernel_rfl) (by kernel_rfl) (fun _ _ _ h=>ya h) (qB ⟨by rfl,fun w' hS'=>by dsimp only at hS';obtain⟨⟨c0,c1,c2,c3⟩,⟨c4,c5⟩,c6,c7,c8⟩:=hS';go_simp;intro h;omega⟩) hS ?_;try simp only [Act.put,qb,qh,qd]
      refine q5s (v:= .agg #[.slice zu1 zu2 zu3,.int .i64 zu4]) (by kernel_rfl) (by kernel_rfl) (by kernel_rfl) (by kernel_rfl) (fun _ _ _ h=>ya h) (qB ⟨by rfl,fun w' hS'=>by dsimp only at hS';obtain⟨⟨c0,c1,c2,c3⟩,⟨c4,c5⟩,c6,c7,c8⟩:=hS';go_simp⟩) hS ?_;try simp only [Act.put,qb,qh,qd]
      refine q71 (v:= .pointer (some ⟨B,0,none⟩)) (by kernel_rfl) (by kernel_rfl) (by kernel_rfl) (by kernel_rfl) (fun _ _ _ h=>ya h) (qB ⟨by rfl,fun w' hS'=>by dsimp only at hS';obtain⟨⟨c0,c1,c2,c3⟩,⟨c4,c5⟩,c6,c7,c8⟩:=hS';go_simp⟩) hS ?_;try simp only [Act.put,qb,qh,qd]
      refine q7J (v:= .pointer (some ⟨B,0,none⟩)) (by kernel_rfl) (by kernel_rfl) (by kernel_rfl) (by kernel_rfl) (fun _ _ _ h=>ya h) (qB ⟨by rfl,fun w' hS'=>by dsimp only at hS';obtain⟨⟨c0,c1,c2,c3⟩,⟨c4,c5⟩,c6,c7,c8⟩:=hS';go_simp⟩) hS ?_;try simp only [Act.put,qb,qh,qd]
      refine q7I (v:= .pointer (some ⟨B,5,none⟩)) (by kernel_rfl) (by kernel_rfl) (by kernel_rfl) (by kernel_rfl) (fun _ _ _ h=>ya h) (qB ⟨by rfl,fun w' hS'=>by dsimp only at hS';obtain⟨⟨c0,c1,c2,c3⟩,⟨c4,c5⟩,c6,c7,c8⟩:=hS';go_simp⟩) hS ?_;try simp only [Act.put,qb,qh,qd]
      refine q7H (v:= .slice (some ⟨gs,0,none⟩) n scap) (by kernel_rfl) (by kernel_rfl) (by kernel_rfl) (by kernel_rfl) (fun _ _ _ h=>ya h) (qB ⟨by rfl,fun w' hS'=>by dsimp only at hS';obtain⟨⟨c0,c1,c2,c3⟩,⟨c4,c5⟩,c6,c7,c8⟩:=hS';go_simp⟩) hS ?_;try simp only [Act.put,qb,qh,qd]
      refine q7G (v:= .int .i64 (k:Nat)) (by kernel_rfl) (by kernel_rfl) (by kernel_rfl) (by kernel_rfl) (fun _ _ _ h=>ya h) (qB ⟨by rfl,fun w' hS'=>by dsimp only at hS';obtain⟨⟨c0,c1,c2,c3⟩,⟨c4,c5⟩,c6,c7,c8⟩:=hS';go_simp⟩) hS ?_;try simp only [Act.put,qb,qh,qd]
      refine q7F (v:= .pointer (some ⟨gs,k*2,none⟩)) (by kernel_rfl) (by kernel_rfl) (by kernel_rfl) (by kernel_rfl) (fun _ _ _ h=>ya h) (qB ⟨by rfl,fun w' hS'=>by dsimp only at hS';obtain⟨⟨c0,c1,c2,c3⟩,⟨c4,c5⟩,c6,c7,c8⟩:=hS';go_simp⟩) hS ?_;try simp only [Act.put,qb,qh,qd]
      refine q82 (v:= .agg #[.slice su1 su2 su3,.int .i64 su4]) (by kernel_rfl) (by kernel_rfl) (by kernel_rfl) (by kernel_rfl) (fun _ _ _ h=>ya h) (qB ⟨by rfl,fun w' hS'=>by dsimp only at hS';obtain⟨⟨c0,c1,c2,c3⟩,⟨c4,c5⟩,c6,c7,c8⟩:=hS';go_simp⟩) hS ?_;try simp only [Act.put,qb,qh,qd]
      refine q86 (by kernel_rfl) (fun K hK=> ?_);go_simp;go_wp2_with (go_at_call 74;refine(and_f (HIr.out.near (HNV'.out.trans (Near.refl V).drew)) (HZf.out.near (HNV'.out.trans (Near.refl V).drew))).mono ?_;rintro e z1 ⟨v1,rfl,hv1,n1⟩)
      obtain⟨b1,b2,b3,b4,rfl⟩:=hv1.form;have N1':=q8 ((Near.refl V).drew.trans n1);have hS1:=HSOf.out _ N1'.out;refine hK.out _ _ (j4 hS1) ?_;clear hK K;try simp only [Act.put,qb,qh,qd]
      refine q85 (by kernel_rfl) (fun K hK=> ?_);go_simp;go_wp2_with (go_at_call 23;refine(within_f hv1 (HSf.out.near (HNV'.out.trans N1'.out))).mono ?_;rintro e z2 ⟨rfl,n2⟩)
      have N2':=q8 (N1'.out.trans n2);refine hK.out _ _ (j4 (HSOf.out _ N2'.out)) ?_;clear hK K;try simp only [Act.put,qb,qh,qd]
      refine q84 (by kernel_rfl) (fun K hK=> ?_);go_simp;refine hK.out _ _ (j4 (HSOf.out _ N2'.out)) ?_;clear hK K;refine yR (by kernel_rfl) ?_;try simp only [Act.put,qb,qh,qd]
      refine⟨rfl,?_⟩;go_wp2_with fail
      go_meet
      exact⟨by rw [HRd.out];simp [h6],N2'.out⟩
     ·have h6':((kd:Int)==6)=false:=beq_eq_false_iff_ne.2 (by omega)
      by_cases h7:kd=7
      ·have h7':((kd:Int)==7)=true:=by rw [h7];rfl
       refine q1j ?_;refine kn hmx (fun W'=>(W'.cell? ⟨wr.heap.size,0,none⟩=some (.int .u8 kd)∧W'.cell? ⟨A,0,none⟩=some (.slice q1 q2 q3)∧W'.cell? ⟨A,1,none⟩=some (.int .i64 q4)∧W'.cell? ⟨R+1,0,none⟩=some (.slice (some ⟨g,0,none⟩) (n+1) cap))∧(W'.cell? ⟨g,(k+1)*2,none⟩=some (.slice zu1 zu2 zu3)∧W'.cell? ⟨g,(k+1)*2+1,none⟩=some (.int .i64 zu4))∧W'.cell? ⟨B,5,none⟩=some (.slice (some ⟨gs,0,none⟩) n scap)∧W'.cell? ⟨gs,k*2,none⟩=some (.slice su1 su2 su3)∧W'.cell? ⟨gs,k*2+1,none⟩=some (.int .i64 su4)) 99 (HSOf.out _ (Near.refl V).drew) (fun hS=> ?_);refine tD0 (v:= .pointer (some ⟨wr.heap.size,0,none⟩)) (by kernel_rfl) (by kernel_rfl) (by kernel_rfl) (by kernel_rfl) (fun _ _ _ h=>ya h) (qB ⟨by rfl,fun w' hS'=>by dsimp only at hS';obtain⟨⟨c0,c1,c2,c3⟩,⟨c4,c5⟩,c6,c7,c8⟩:=hS';go_simp⟩) hS ?_;try simp only [Act.put,qb,qh,qd]
       refine tD1 (v:= .int .u8 kd) (by kernel_rfl) (by kernel_rfl) (by kernel_rfl) (by kernel_rfl) (fun _ _ _ h=>ya h) (qB ⟨by rfl,fun w' hS'=>by dsimp only at hS';obtain⟨⟨c0,c1,c2,c3⟩,⟨c4,c5⟩,c6,c7,c8⟩:=hS';go_simp⟩) hS ?_;try simp only [Act.put,qb,qh,qd]
       refine tD2 (v:= .bool false) (by kernel_rfl) (by kernel_rfl) (by kernel_rfl) (by kernel_rfl) (fun _ _ _ h=>ya h) (qB ⟨by rfl,fun w' hS'=>by dsimp only at hS';obtain⟨⟨c0,c1,c2,c3⟩,⟨c4,c5⟩,c6,c7,c8⟩:=hS';go_simp⟩) hS ?_;try simp only [Act.put,qb,qh,qd]
       refine tD3 (v:= .bool false) (by kernel_rfl) (by kernel_rfl) (by kernel_rfl) (by kernel_rfl) (fun _ _ _ h=>ya h) (qB ⟨by rfl,fun w' hS'=>by dsimp only at hS';obtain⟨⟨c0,c1,c2,c3⟩,⟨c4,c5⟩,c6,c7,c8⟩:=hS';go_simp⟩) hS ?_;try simp only [Act.put,qb,qh,qd]
       refine tD4 (v:= .pointer (some ⟨wr.heap.size,0,none⟩)) (by kernel_rfl) (by kernel_rfl) (by kernel_rfl) (by kernel_rfl) (fun _ _ _ h=>ya h) (qB ⟨by rfl,fun w' hS'=>by dsimp only at hS';obtain⟨⟨c0,c1,c2,c3⟩,⟨c4,c5⟩,c6,c7,c8⟩:=hS';go_simp⟩) hS ?_;try simp only [Act.put,qb,qh,qd]
       refine tD5 (v:= .int .u8 kd) (by kernel_rfl) (by kernel_rfl) (by kernel_rfl) (by kernel_rfl) (fun _ _ _ h=>ya h) (qB ⟨by rfl,fun w' hS'=>by dsimp only at hS';obtain⟨⟨c0,c1,c2,c3⟩,⟨c4,c5⟩,c6,c7,c8⟩:=hS';go_simp⟩) hS ?_;try simp only [Act.put,qb,qh,qd]
       refine tD6 (v:= .bool true) (by kernel_rfl) (by kernel_rfl) (by kernel_rfl) (by kernel_rfl) (fun _ _ _ h=>ya h) (qB ⟨by rfl,fun w' hS'=>by dsimp only at hS';obtain⟨⟨c0,c1,c2,c3⟩,⟨c4,c5⟩,c6,c7,c8⟩:=hS';go_simp⟩) hS ?_;try simp only [Act.put,qb,qh,qd]
       refine tD7 (v:= .bool true) (by kernel_rfl) (by kernel_rfl) (by kernel_rfl) (by kernel_rfl) (fun _ _ _ h=>ya h) (qB ⟨by rfl,fun w' hS'=>by dsimp only at hS';obtain⟨⟨c0,c1,c2,c3⟩,⟨c4,c5⟩,c6,c7,c8⟩:=hS';go_simp⟩) hS ?_;try simp only [Act.put,qb,qh,qd]
       refine tD8 (v:= .bool true) (by kernel_rfl) (by kernel_rfl) (by kernel_rfl) (by kernel_rfl) (fun _ _ _ h=>ya h) (qB ⟨by rfl,fun w' hS'=>by dsimp only at hS';obtain⟨⟨c0,c1,c2,c3⟩,⟨c4,c5⟩,c6,c7,c8⟩:=hS';go_simp⟩) hS ?_;try simp only [Act.put,qb,qh,qd]
       refine tD9 (v:= .agg #[.slice q1 q2 q3,.int .i64 q4]) (by kernel_rfl) (by kernel_rfl) (by kernel_rfl) (by kernel_rfl) (fun _ _ _ h=>ya h) (qB ⟨by rfl,fun w' hS'=>by dsimp only at hS';obtain⟨⟨c0,c1,c2,c3⟩,⟨c4,c5⟩,c6,c7,c8⟩:=hS';go_simp⟩) hS ?_;try simp only [Act.put,qb,qh,qd]
       refine q6S (v:= .slice (some ⟨g,0,none⟩) (n+1) cap) (by kernel_rfl) (by kernel_rfl) (by kernel_rfl) (by kernel_rfl) (fun _ _ _ h=>ya h) (qB ⟨by rfl,fun w' hS'=>by dsimp only at hS';obtain⟨⟨c0,c1,c2,c3⟩,⟨c4,c5⟩,c6,c7,c8⟩:=hS';go_simp⟩) hS ?_;try simp only [Act.put,qb,qh,qd]
       refine q6R (v:= .int .i64 (k:Nat)) (by kernel_rfl) (by kernel_rfl) (by kernel_rfl) (by kernel_rfl) (fun _ _ _ h=>ya h) (qB ⟨by rfl,fun w' hS'=>by dsimp only at hS';obtain⟨⟨c0,c1,c2,c3⟩,⟨c4,c5⟩,c6,c7,c8⟩:=hS';go_simp⟩) hS ?_;try simp only [Act.put,qb,qh,qd]
       refine q6Q (v:= .int .i64 ((k:Int)+1)) (by kernel_rfl) (by kernel_rfl) (by kernel_rfl) (by kernel_rfl) (fun _ _ _ h=>ya h) (qB ⟨by rfl,fun w' hS'=>by dsimp only at hS';obtain⟨⟨c0,c1,c2,c3⟩,⟨c4,c5⟩,c6,c7,c8⟩:=hS';go_simp;exact HW64.out⟩) hS ?_;try simp only [Act.put,qb,qh,qd]
       refine q6P (v:= .pointer (some ⟨g,(k+1)*2,none⟩)) (by kernel_rfl) (by kernel_rfl) (by kernel_rfl) (by kernel_rfl) (fun _ _ _ h=>ya h) (qB ⟨by rfl,fun w' hS'=>by dsimp only at hS';obtain⟨⟨c0,c1,c2,c3⟩,⟨c4,c5⟩,c6,c7,c8⟩:=hS';go_simp;intro h;omega⟩) hS ?_;try simp only [Act.put,qb,qh,qd]
       refine q5s (v:= .agg #[.slice zu1 zu2 zu3,.int .i64 zu4]) (by kernel_rfl) (by kernel_rfl) (by kernel_rfl) (by kernel_rfl) (fun _ _ _ h=>ya h) (qB ⟨by rfl,fun w' hS'=>by dsimp only at hS';obtain⟨⟨c0,c1,c2,c3⟩,⟨c4,c5⟩,c6,c7,c8⟩:=hS';go_simp⟩) hS ?_;try simp only [Act.put,qb,qh,qd]
       refine q71 (v:= .pointer (some ⟨B,0,none⟩)) (by kernel_rfl) (by kernel_rfl) (by kernel_rfl) (by kernel_rfl) (fun _ _ _ h=>ya h) (qB ⟨by rfl,fun w' hS'=>by dsimp only at hS';obtain⟨⟨c0,c1,c2,c3⟩,⟨c4,c5⟩,c6,c7,c8⟩:=hS';go_simp⟩) hS ?_;try simp only [Act.put,qb,qh,qd]
       refine q7J (v:= .pointer (some ⟨B,0,none⟩)) (by kernel_rfl) (by kernel_rfl) (by kernel_rfl) (by kernel_rfl) (fun _ _ _ h=>ya h) (qB ⟨by rfl,fun w' hS'=>by dsimp only at hS';obtain⟨⟨c0,c1,c2,c3⟩,⟨c4,c5⟩,c6,c7,c8⟩:=hS';go_simp⟩) hS ?_;try simp only [Act.put,qb,qh,qd]
       refine q7I (v:= .pointer (some ⟨B,5,none⟩)) (by kernel_rfl) (by kernel_rfl) (by kernel_rfl) (by kernel_rfl) (fun _ _ _ h=>ya h) (qB ⟨by rfl,fun w' hS'=>by dsimp only at hS';obtain⟨⟨c0,c1,c2,c3⟩,⟨c4,c5⟩,c6,c7,c8⟩:=hS';go_simp⟩) hS ?_;try simp only [Act.put,qb,qh,qd]
       refine q7H (v:= .slice (some ⟨gs,0,none⟩) n scap) (by kernel_rfl) (by kernel_rfl) (by kernel_rfl) (by kernel_rfl) (fun _ _ _ h=>ya h) (qB ⟨by rfl,fun w' hS'=>by dsimp only at hS';obtain⟨⟨c0,c1,c2,c3⟩,⟨c4,c5⟩,c6,c7,c8⟩:=hS';go_simp⟩) hS ?_;try simp only [Act.put,qb,qh,qd]
       refine q7G (v:= .int .i64 (k:Nat)) (by kernel_rfl) (by kernel_rfl) (by kernel_rfl) (by kernel_rfl) (fun _ _ _ h=>ya h) (qB ⟨by rfl,fun w' hS'=>by dsimp only at hS';obtain⟨⟨c0,c1,c2,c3⟩,⟨c4,c5⟩,c6,c7,c8⟩:=hS';go_simp⟩) hS ?_;try simp only [Act.put,qb,qh,qd]
       refine q7F (v:= .pointer (some ⟨gs,k*2,none⟩)) (by kernel_rfl) (by kernel_rfl) (by kernel_rfl) (by kernel_rfl) (fun _ _ _ h=>ya h) (qB ⟨by rfl,fun w' hS'=>by dsimp only at hS';obtain⟨⟨c0,c1,c2,c3⟩,⟨c4,c5⟩,c6,c7,c8⟩:=hS';go_simp⟩) hS ?_;try simp only [Act.put,qb,qh,qd]
       refine q82 (v:= .agg #[.slice su1 su2 su3,.int .i64 su4]) (by kernel_rfl) (by kernel_rfl) (by kernel_rfl) (by kernel_rfl) (fun _ _ _ h=>ya h) (qB ⟨by rfl,fun w' hS'=>by dsimp only at hS';obtain⟨⟨c0,c1,c2,c3⟩,⟨c4,c5⟩,c6,c7,c8⟩:=hS';go_simp⟩) hS ?_;try simp only [Act.put,qb,qh,qd]
       refine q86 (by kernel_rfl) (fun K hK=> ?_);go_simp;go_wp2_with (go_at_call 74;refine(and_f (HIr.out.near (HNV'.out.trans (Near.refl V).drew)) (HZf.out.near (HNV'.out.trans (Near.refl V).drew))).mono ?_;rintro e z1 ⟨v1,rfl,hv1,n1⟩)
       obtain⟨b1,b2,b3,b4,rfl⟩:=hv1.form;have N1':=q8 ((Near.refl V).drew.trans n1);have hS1:=HSOf.out _ N1'.out;refine hK.out _ _ (j4 hS1) ?_;clear hK K;try simp only [Act.put,qb,qh,qd]
       refine q85 (by kernel_rfl) (fun K hK=> ?_);go_simp;go_wp2_with (go_at_call 23;refine(within_f hv1 (HSf.out.near (HNV'.out.trans N1'.out))).mono ?_;rintro e z2 ⟨rfl,n2⟩)
       have N2':=q8 (N1'.out.trans n2);refine hK.out _ _ (j4 (HSOf.out _ N2'.out)) ?_;clear hK K;try simp only [Act.put,qb,qh,qd]
       refine q84 (by kernel_rfl) (fun K hK=> ?_);go_simp;refine hK.out _ _ (j4 (HSOf.out _ N2'.out)) ?_;clear hK K;refine yR (by kernel_rfl) ?_;try simp only [Act.put,qb,qh,qd]
       refine⟨rfl,?_⟩;go_wp2_with fail
       go_meet
       exact⟨by rw [HRd.out];simp [h6,h7],N2'.out⟩
      ·have h7':((kd:Int)==7)=false:=beq_eq_false_iff_ne.2 (by omega)
       have c0:=(HSOf.out _ (Near.refl V)).1.1;go_wp2_with fail
       go_quiet (fail)
       go_wp2_with fail
       go_meet
       exact⟨by rw [HRd.out];simp [h6,h7],(Near.refl V).drewN _⟩
    case rest=>
     obtain⟨rfl,hnz⟩:=hcut;obtain⟨wz,hwz⟩: ∃x,x=wc:=⟨_,rfl⟩;subst hwz;have HNz:=q8 (HNV'.out.trans hnz);have hszz:=hnz.size;clear hnz;obtain⟨rb,hrb⟩: ∃rb,q5F m k=rb:=⟨_,rfl⟩;have HRb:=q8 hrb;rw [hrb];clear hrb;have hszr:=HNz.out.size;have hb7r:base7≤wr.heap.size:=by have:=HKr.out.size;have:=HB7.out;omega
     go_upto_if 68 with fail
     go_cut [6]from 40 to 82 (fun v wy=>wy.ownsRow base7 3 1 v (redTo m (k+1)).length ((redTo m (k+1)).map natV)∧Y3 3 wz wy∧Kept (fun b=>base7≤b) wz wy)
     case first=>
      have hoz:=owns_kept HOw7.out HNz.out (R:=fun _=>False) (fun _ _ h=>h);have HOz:=q8 hoz;clear hoz
      cases rb with
      |false=>
       have hsu:redTo m (k+1)=redTo m k:=by rw [HSu.out,if_neg (by rw [HRb.out];decide),List.append_nil]
       go_wp2_with fail
       go_meet
       rw [hsu];exact⟨HOz.out,(Near.refl wz).only,Kept.refl _ _⟩
      |true=>
       have HSu2:=q8 (show redTo m (k+1)=redTo m k++[k] by rw [HSu.out,if_pos HRb.out]);obtain⟨i3,hi,hz0,hz1,hz2⟩:=zG wU;go_wp2_with (at_builtin;go_must (refine wpList_append_more rfl (.tmp 69) (.tmp 71) 47 rfl base7 3 i3 (.int .i64 0) 1 8 Tryz.underlying47 hi hz0 hz1 hz2 rfl (by decide) (.slice vo (redTo m k).length vc) (redTo m k).length ((redTo m k).map natV) rfl (owns_kept HOz.out ((Near.refl wz).alloc _) (fun _ _ h=>h)) _ 1 [.int .i64 (k:Nat)] rfl ⟨rfl,.inr ⟨_,1,rfl,cell_one_at (by simp) _ _⟩⟩ (by simp [qX]) (by unfold maxLen;omega) (by omega) (by simp;omega) ?_);go_must (intro b4 c4 w4 hown4 hg4;have HO4:=q8 hown4;have HG4:=q8 hg4;clear hown4 hg4))
       go_meet
       refine⟨?_,Qk HOz.out HG4.out,Kept.grown ((Kept.refl _ wz).alloc _) HG4.out fun j e _=>(zY HOz.out e).1⟩;rw [HSu2.out,List.map_append,List.length_append];exact HO4.out
     case rest=>
      obtain⟨hoy,hony,hky⟩:=hcut;obtain⟨wy,hwy⟩: ∃x,x=wc:=⟨_,rfl⟩;subst hwy;obtain⟨yo,yc,hye⟩:=qR hoy;subst hye;have hzy: ∀{b o:Nat}{u:Value},wr.cell? ⟨b,o,none⟩=some u→b<base7→wy.drew.cell? ⟨b,o,none⟩=some u:=fun h hb=>hky.drew.cell (HNz.out.cell h) (by omega);have HS2:=q8 (show(fun W'=>(W'.cell? ⟨A,0,none⟩=some (.slice q1 q2 q3)∧W'.cell? ⟨A,1,none⟩=some (.int .i64 q4))∧W'.cell? ⟨B,5,none⟩=some (.slice (some ⟨gs,0,none⟩) n scap)∧W'.cell? ⟨gs,k*2,none⟩=some (.slice su1 su2 su3)∧W'.cell? ⟨gs,k*2+1,none⟩=some (.int .i64 su4)) wy.drew from⟨⟨hzy (cell1 HAr.out rfl) hA7,hzy (cell1 HAr.out rfl) hA7⟩,hzy (HHn.out▸cell1 HBr.out rfl) (by omega),hzy HS0.out.1 hgsw,hzy HS0.out.2 hgsw⟩);have HOy:=q8 hoy;have HKy:=q8 hky;have HIy:=q8 ((HIr.out.near HNz.out).only hony (by decide));have HSy:=q8 ((HSf.out.near HNz.out).only hony (by decide));have HAy:=q8 (show wy.heap[A]? =some (.cells #[.slice q1 q2 q3,.int .i64 q4] 43 (0,0))from qQ hky (qE HNz.out HAr.out) (by omega));clear hoy hony hky hzy;go_upto_region 13 with fail
      refine q1j ?_;refine kn hmx (fun W'=>(W'.cell? ⟨A,0,none⟩=some (.slice q1 q2 q3)∧W'.cell? ⟨A,1,none⟩=some (.int .i64 q4))∧W'.cell? ⟨B,5,none⟩=some (.slice (some ⟨gs,0,none⟩) n scap)∧W'.cell? ⟨gs,k*2,none⟩=some (.slice su1 su2 su3)∧W'.cell? ⟨gs,k*2+1,none⟩=some (.int .i64 su4)) 9 HS2.out (fun hS=> ?_);refine tD0 (v:= .agg #[.slice q1 q2 q3,.int .i64 q4]) (by kernel_rfl) (by kernel_rfl) (by kernel_rfl) (by kernel_rfl) (fun _ _ _ h=>ya h) (qB ⟨by rfl,fun w' hS'=>by dsimp only at hS';obtain⟨⟨c1,c2⟩,c6,c7,c8⟩:=hS';go_simp⟩) hS ?_;try simp only [Act.put,qb,qh,qd]
      refine tD1 (v:= .pointer (some ⟨B,0,none⟩)) (by kernel_rfl) (by kernel_rfl) (by kernel_rfl) (by kernel_rfl) (fun _ _ _ h=>ya h) (qB ⟨by rfl,fun w' hS'=>by dsimp only at hS';obtain⟨⟨c1,c2⟩,c6,c7,c8⟩:=hS';go_simp⟩) hS ?_;try simp only [Act.put,qb,qh,qd]
      refine tD2 (v:= .pointer (some ⟨B,0,none⟩)) (by kernel_rfl) (by kernel_rfl) (by kernel_rfl) (by kernel_rfl) (fun _ _ _ h=>ya h) (qB ⟨by rfl,fun w' hS'=>by dsimp only at hS';obtain⟨⟨c1,c2⟩,c6,c7,c8⟩:=hS';go_simp⟩) hS ?_;try simp only [Act.put,qb,qh,qd]
      refine tD3 (v:= .pointer (some ⟨B,5,none⟩)) (by kernel_rfl) (by kernel_rfl) (by kernel_rfl) (by kernel_rfl) (fun _ _ _ h=>ya h) (qB ⟨by rfl,fun w' hS'=>by dsimp only at hS';obtain⟨⟨c1,c2⟩,c6,c7,c8⟩:=hS';go_simp⟩) hS ?_;try simp only [Act.put,qb,qh,qd]
      refine tD4 (v:= .slice (some ⟨gs,0,none⟩) n scap) (by kernel_rfl) (by kernel_rfl) (by kernel_rfl) (by kernel_rfl) (fun _ _ _ h=>ya h) (qB ⟨by rfl,fun w' hS'=>by dsimp only at hS';obtain⟨⟨c1,c2⟩,c6,c7,c8⟩:=hS';go_simp⟩) hS ?_;try simp only [Act.put,qb,qh,qd]
      refine tD5 (v:= .int .i64 (k:Nat)) (by kernel_rfl) (by kernel_rfl) (by kernel_rfl) (by kernel_rfl) (fun _ _ _ h=>ya h) (qB ⟨by rfl,fun w' hS'=>by dsimp only at hS';obtain⟨⟨c1,c2⟩,c6,c7,c8⟩:=hS';go_simp⟩) hS ?_;try simp only [Act.put,qb,qh,qd]
      refine tD6 (v:= .pointer (some ⟨gs,k*2,none⟩)) (by kernel_rfl) (by kernel_rfl) (by kernel_rfl) (by kernel_rfl) (fun _ _ _ h=>ya h) (qB ⟨by rfl,fun w' hS'=>by dsimp only at hS';obtain⟨⟨c1,c2⟩,c6,c7,c8⟩:=hS';go_simp⟩) hS ?_;try simp only [Act.put,qb,qh,qd]
      refine tD7 (v:= .agg #[.slice su1 su2 su3,.int .i64 su4]) (by kernel_rfl) (by kernel_rfl) (by kernel_rfl) (by kernel_rfl) (fun _ _ _ h=>ya h) (qB ⟨by rfl,fun w' hS'=>by dsimp only at hS';obtain⟨⟨c1,c2⟩,c6,c7,c8⟩:=hS';go_simp⟩) hS ?_;try simp only [Act.put,qb,qh,qd]
      obtain⟨i53,hi,hz0,hz1,hz2⟩:=zG UQ;refine oZ8 (by kernel_rfl) (fun K hK=> ?_);go_simp;go_wp2_with (go_at_call 74;refine(and_f (HIy.out.near (Near.refl wy).drew) (HSy.out.near (Near.refl wy).drew)).mono ?_;rintro e z1 ⟨v1,rfl,hv1,n1⟩)
      obtain⟨b1,b2,b3,b4,rfl⟩:=hv1.form;have HV1:=q8 hv1;have HN1:=q8 ((Near.refl wy).drew.trans n1);refine hK.out _ _ (j4 ⟨⟨n1.cell hS.1.1,n1.cell hS.1.2⟩,n1.cell hS.2.1,n1.cell hS.2.2.1,n1.cell hS.2.2.2⟩) ?_;have HAz:=q8 (qE HN1.out HAy.out);have o0:=cell1 (o:=0) HAz.out rfl;have o1:=cell1 (o:=1) HAz.out rfl;have ff0:=zQ HAz.out 0;have ff1:=zQ HAz.out 1;clear hK K hS;try simp only [Act.put,qb,qh,qd]
      refine oZ9 (by kernel_rfl) (fun K hK=> ?_);go_simp;refine hK.out _ _ (qB rfl) ?_;clear hK K;refine yR (by kernel_rfl) ?_;try simp only [Act.put,qb,qh,qd]
      refine⟨rfl,?_⟩;have hW9: ∀W9,W9=(z1.setCell ⟨A,0,none⟩ (.slice b1 b2 b3)).setCell ⟨A,1,none⟩ (.int .i64 b4)→W9.heap[A]? =some (.cells #[.slice b1 b2 b3,.int .i64 b4] 43 (0,0))∧IsF W9 (.agg #[.slice b1 b2 b3,.int .i64 b4]) (allF ((rulesF m).take (k+1)))∧W9.ownsRow base7 3 1 (.slice yo (redTo m (k+1)).length yc) (redTo m (k+1)).length ((redTo m (k+1)).map natV)∧Kept (fun b=>b=A) w7 W9:=by
       rintro W9 rfl;have hh:=qz (qz HAz.out 0 (.slice b1 b2 b3)) 1 (.int .i64 b4);simp only [qb,qh,qd]at hh;have hka:Kept (fun b=>b=A) z1 ((z1.setCell ⟨A,0,none⟩ (.slice b1 b2 b3)).setCell ⟨A,1,none⟩ (.int .i64 b4)):=Kept.setCell (Kept.setCell (S:=fun b=>b=A) (Kept.refl _ z1) (p:=⟨A,0,none⟩) (fun _=>rfl) _) (p:=⟨A,1,none⟩) (fun _=>rfl) _;refine⟨hh,?_,?_,?_⟩
       ·rw [←HTk.out]
        exact IsF.at53 HV1.out hka HAz.out
       ·refine owns_kept (owns_kept HOy.out HN1.out (R:=fun _=>False) (fun _ _ h=>h)) hka (fun j hj e=> ?_)
        have h1:=owns_kept HOy.out HN1.out (R:=fun _=>False) (fun _ _ h=>h);obtain⟨-,cur,fr,h3⟩:=zY h1 hj;rw [show j=A from e,HAz.out]at h3
        cases h3
       ·have k1:Kept (fun b=>b=A∨base7≤b) w7 wz:=Kept.mono (HKr.out.trans HNz.out.kept) fun _ _ e=> .inl e
        have k2:Kept (fun b=>b=A∨base7≤b) wz z1:=Kept.mono (HKy.out.trans HN1.out.kept) fun _ _ e=> .inr e;have k3:Kept (fun b=>b=A∨base7≤b) z1 _:=Kept.mono hka fun _ _ e=> .inl e;exact Kept.mono ((k1.trans k2).trans k3) fun b hb e=>by have:=HB7.out;omega
      have h9:=hW9 _ rfl;generalize(z1.setCell ⟨A,0,none⟩ (.slice b1 b2 b3)).setCell ⟨A,1,none⟩ (.int .i64 b4)=W9 at h9⊢;have H9:=q8 h9;clear h9 hW9 o0 o1 ff0 ff1 HAz hi hz0 hz1 hz2;have hw64k:wrap64 ((k:Int)+1)=(k:Int)+1:=IntWalk.wrap64_in _ (by omega);go_wp2_with fail
      go_roundw
      case rel=>exact⟨k+1,hlt,by go_num,H9.out.2.2.1,⟨_,_,_,_,H9.out.1,H9.out.2.1⟩,H9.out.2.2.2⟩
      case measure=>rw [hw64k];exact q7U hlt
   ·obtain rfl:k=n:=by omega
    go_wp2_with fail
    have hAD:D≠A:=by omega
    have hDr:=qQ HKr.out HDf7.out hAD;have kD:Kept (fun b=>b=D) wr (wr.putObj D (Obj.deferred none)):=⟨rfl,rfl,rfl,by simp [World.putObj],fun k hk hn=>World.putObj_heap_other (fun e=>hn (by first|exact e|exact e.symm))⟩;have hrow:=owns_kept HOw7.out kD (fun k hk e=>by
     obtain⟨-,cur,fr,h3⟩:=zY HOw7.out hk;rw [show k=D from e,hDr]at h3
     cases h3)
    gi_wp2;refine⟨by simp,.inl ⟨_,_,rfl,run_takeDeferred hDr,?_⟩⟩;refine⟨.slice vo (redTo m k).length vc,by simp [results,Tryz.results78,go_sem],_,rfl,?_,?_⟩
    ·rw [HHn.out]
     exact yZ hrow (by have:=HN7.out.size;have:=HB7.out;omega)
    ·have k1:Kept (fun b=>b=A∨b=D) w wr:=Kept.mono (HN7.out.kept.trans HKr.out) fun _ _ e=> .inl e
     have k2:Kept (fun b=>b=A∨b=D) wr (wr.putObj D (Obj.deferred none)):=Kept.mono kD fun _ _ e=> .inr e;exact Kept.mono (k1.trans k2) fun k hk e=>by omega
end Go.Proofs.YtjcbmcnbdegpmaaGreatDoor
namespace Go.Proofs.YtjcbmcnbdegpmaaGreatDoor
open Go Go.RowKit Go.Proofs.Gen Go.Proofs.Mod Go.Proofs.Bdd Go.Proofs.Bdd.T
def AnaI(u:World)(b:Nat)(x y c f s1 s2:Value)(n1 n2:Nat)(l1 l2:List Value)(W:World):Prop:=
 Near u W/\u.heap.size<=b/\W.heap[b]? =some (.cells #[.bool false,c,x,y,f,s1,s2] 59 (0,0))/\W.ownsRow u.heap.size 3 1 s1 n1 l1/\W.ownsRow u.heap.size 38 1 s2 n2 l2
section
variable {u W:World}{b:Nat}{x y c f s1 s2:Value}{n1 n2:Nat}{l1 l2:List Value}
theorem AnaI.near(h:AnaI u b x y c f s1 s2 n1 n2 l1 l2 W){W':World}(hn:Near W W'):AnaI u b x y c f s1 s2 n1 n2 l1 l2 W':=
 ⟨h.1.trans hn,h.2.1,qE hn h.2.2.1,owns_kept h.2.2.2.1 hn fun _ _ h=>h,owns_kept h.2.2.2.2 hn fun _ _ h=>h⟩
theorem AnaI.set1(h:AnaI u b x y c f s1 s2 n1 n2 l1 l2 W)(v:Value):AnaI u b x y v f s1 s2 n1 n2 l1 l2 (W.setCell ⟨b,1,none⟩ v):=
 ⟨h.1.set (p:=⟨b,1,none⟩) h.2.1 v,h.2.1,qz h.2.2.1 1 v,zF h.2.2.2.1 h.2.2.1 (by decide) 1 v,zF h.2.2.2.2 h.2.2.1 (by decide) 1 v⟩
theorem AnaI.set4(h:AnaI u b x y c f s1 s2 n1 n2 l1 l2 W)(v:Value):AnaI u b x y c v s1 s2 n1 n2 l1 l2 (W.setCell ⟨b,4,none⟩ v):=
 ⟨h.1.set (p:=⟨b,4,none⟩) h.2.1 v,h.2.1,qz h.2.2.1 4 v,zF h.2.2.2.1 h.2.2.1 (by decide) 4 v,zF h.2.2.2.2 h.2.2.1 (by decide) 4 v⟩
end
theorem uD{u W:World}{b t:Nat}{a0 a1 a2 a3 a4 a5 a6:Value}(hn:Near u W)(hb:u.heap.size<=b)(h:W.heap[b]? =some (.cells #[a0,a1,a2,a3,a4,a5,a6] t (0,0)))(b0 b1 b2 b3 b4 b5 b6:Value):
 ∀V,V=(((((((W.setCell ⟨b,0,none⟩ b0).setCell ⟨b,1,none⟩ b1).setCell ⟨b,2,none⟩ b2).setCell ⟨b,3,none⟩ b3).setCell ⟨b,4,none⟩ b4).setCell ⟨b,5,none⟩ b5).setCell ⟨b,6,none⟩ b6)->Near u V/\V.heap[b]? =some (.cells #[b0,b1,b2,b3,b4,b5,b6] t (0,0))/\
  ∀(base e size n:Nat)(v:Value)(xs:List Value),e≠t->W.ownsRow base e size v n xs->V.ownsRow base e size v n xs:=by
 rintro V rfl;obtain⟨V0,hV0⟩: ∃V,V=W.setCell ⟨b,0,none⟩ b0:=⟨_,rfl⟩;rw [<-hV0];have h0:V0.heap[b]? =some (.cells #[b0,a1,a2,a3,a4,a5,a6] t (0,0)):=hV0▸qz h 0 b0;have n0:Near u V0:=hV0▸Near.set hn (p:=⟨b,0,none⟩) hb b0;have o0: ∀(base e size n:Nat)(v:Value)(xs:List Value),e≠t->W.ownsRow base e size v n xs->V0.ownsRow base e size v n xs:=fun base e size n v xs ht ho=>hV0▸zF ho h ht 0 b0;obtain⟨V1,hV1⟩: ∃V,V=V0.setCell ⟨b,1,none⟩ b1:=⟨_,rfl⟩;rw [<-hV1];have h1:V1.heap[b]? =some (.cells #[b0,b1,a2,a3,a4,a5,a6] t (0,0)):=hV1▸qz h0 1 b1;have n1:Near u V1:=hV1▸Near.set n0 (p:=⟨b,1,none⟩) hb b1;have o1: ∀(base e size n:Nat)(v:Value)(xs:List Value),e≠t->V0.ownsRow base e size v n xs->V1.ownsRow base e size v n xs:=fun base e size n v xs ht ho=>hV1▸zF ho h0 ht 1 b1;obtain⟨V2,hV2⟩: ∃V,V=V1.setCell ⟨b,2,none⟩ b2:=⟨_,rfl⟩;rw [<-hV2];have h2:V2.heap[b]? =some (.cells #[b0,b1,b2,a3,a4,a5,a6] t (0,0)):=hV2▸qz h1 2 b2;have n2:Near u V2:=hV2▸Near.set n1 (p:=⟨b,2,none⟩) hb b2;have o2: ∀(base e size n:Nat)(v:Value)(xs:List Value),e≠t->V1.ownsRow base e size v n xs->V2.ownsRow base e size v n xs:=fun base e size n v xs ht ho=>hV2▸zF ho h1 ht 2 b2;obtain⟨V3,hV3⟩: ∃V,V=V2.setCell ⟨b,3,none⟩ b3:=⟨_,rfl⟩;rw [<-hV3];have h3:V3.heap[b]? =some (.cells #[b0,b1,b2,b3,a4,a5,a6] t (0,0)):=hV3▸qz h2 3 b3;have n3:Near u V3:=hV3▸Near.set n2 (p:=⟨b,3,none⟩) hb b3;have o3: ∀(base e size n:Nat)(v:Value)(xs:List Value),e≠t->V2.ownsRow base e size v n xs->V3.ownsRow base e size v n xs:=fun base e size n v xs ht ho=>hV3▸zF ho h2 ht 3 b3;obtain⟨V4,hV4⟩: ∃V,V=V3.setCell ⟨b,4,none⟩ b4:=⟨_,rfl⟩;rw [<-hV4];have h4:V4.heap[b]? =some (.cells #[b0,b1,b2,b3,b4,a5,a6] t (0,0)):=hV4▸qz h3 4 b4;have n4:Near u V4:=hV4▸Near.set n3 (p:=⟨b,4,none⟩) hb b4;have o4: ∀(base e size n:Nat)(v:Value)(xs:List Value),e≠t->V3.ownsRow base e size v n xs->V4.ownsRow base e size v n xs:=fun base e size n v xs ht ho=>hV4▸zF ho h3 ht 4 b4;obtain⟨V5,hV5⟩: ∃V,V=V4.setCell ⟨b,5,none⟩ b5:=⟨_,rfl⟩;rw [<-hV5];have h5:V5.heap[b]? =some (.cells #[b0,b1,b2,b3,b4,b5,a6] t (0,0)):=hV5▸qz h4 5 b5;have n5:Near u V5:=hV5▸Near.set n4 (p:=⟨b,5,none⟩) hb b5;have o5: ∀(base e size n:Nat)(v:Value)(xs:List Value),e≠t->V4.ownsRow base e size v n xs->V5.ownsRow base e size v n xs:=fun base e size n v xs ht ho=>hV5▸zF ho h4 ht 5 b5;obtain⟨V6,hV6⟩: ∃V,V=V5.setCell ⟨b,6,none⟩ b6:=⟨_,rfl⟩;rw [<-hV6];have h6:V6.heap[b]? =some (.cells #[b0,b1,b2,b3,b4,b5,b6] t (0,0)):=hV6▸qz h5 6 b6;have n6:Near u V6:=hV6▸Near.set n5 (p:=⟨b,6,none⟩) hb b6;have o6: ∀(base e size n:Nat)(v:Value)(xs:List Value),e≠t->V5.ownsRow base e size v n xs->V6.ownsRow base e size v n xs:=fun base e size n v xs ht ho=>hV6▸zF ho h5 ht 6 b6;exact⟨n6,h6,fun base e size n v xs ht ho=>o6 _ _ _ _ _ _ ht (o5 _ _ _ _ _ _ ht (o4 _ _ _ _ _ _ ht (o3 _ _ _ _ _ _ ht (o2 _ _ _ _ _ _ ht (o1 _ _ _ _ _ _ ht (o0 _ _ _ _ _ _ ht ho))))))⟩
theorem jP{W:World}{b t:Nat}{a0 a1 a2 a3 a4 a5 a6:Value}(h:W.heap[b]? =some (.cells #[a0,a1,a2,a3,a4,a5,a6] t (0,0))):
 (W.cell? ⟨b,0,none⟩=some a0/\W.cell? ⟨b,1,none⟩=some a1/\W.cell? ⟨b,2,none⟩=some a2/\W.cell? ⟨b,3,none⟩=some a3/\W.cell? ⟨b,4,none⟩=some a4/\W.cell? ⟨b,5,none⟩=some a5/\W.cell? ⟨b,6,none⟩=some a6)/\
 (W.frozen? ⟨b,0,none⟩=false/\W.frozen? ⟨b,1,none⟩=false/\W.frozen? ⟨b,2,none⟩=false/\W.frozen? ⟨b,3,none⟩=false/\W.frozen? ⟨b,4,none⟩=false/\W.frozen? ⟨b,5,none⟩=false/\W.frozen? ⟨b,6,none⟩=false):=
 ⟨⟨cell1 h rfl,cell1 h rfl,cell1 h rfl,cell1 h rfl,cell1 h rfl,cell1 h rfl,cell1 h rfl⟩,by simp [jx,h],by simp [jx,h],by simp [jx,h],by simp [jx,h],by simp [jx,h],by simp [jx,h],by simp [jx,h]⟩
end Go.Proofs.YtjcbmcnbdegpmaaGreatDoor
namespace Go.Proofs.YtjcbmcnbdegpmaaGreatDoor
open Go Go.RowKit Go.Proofs.Gen Go.Proofs.Mod Go.Proofs.Bdd Go.Proofs.Bdd.T
section
variable {P:Program}{Q:Exit->Act->World->Prop}{md:Region.Mode}{S:World->Prop}{fuel:Nat}{listed:Array Bool}{a:Act}{w:World}{oi:Oper}{r:List Oper}{rs:List Nat}
theorem q4T{x0 x1 x2 x3 x4 x5 x6 x7 x8:Oper}:Kv P md Q S fuel listed a w oi rs 9 (qx (x0::x1::x2::x3::x4::x5::x6::x7::x8::oi::r)):=uf rfl
theorem U7{x0 x1 x2 x3 x4 x5 x6 x7 x8 x9 x10:Oper}:Kv P md Q S fuel listed a w oi rs 11 (qx (x0::x1::x2::x3::x4::x5::x6::x7::x8::x9::x10::oi::r)):=uf rfl
theorem U6{x0 x1 x2 x3 x4 x5 x6 x7 x8 x9 x10 x11 x12:Oper}:Kv P md Q S fuel listed a w oi rs 13 (qx (x0::x1::x2::x3::x4::x5::x6::x7::x8::x9::x10::x11::x12::oi::r)):=uf rfl
theorem U5{x0 x1 x2 x3 x4 x5 x6 x7 x8 x9 x10 x11 x12 x13:Oper}:Kv P md Q S fuel listed a w oi rs 14 (qx (x0::x1::x2::x3::x4::x5::x6::x7::x8::x9::x10::x11::x12::x13::oi::r)):=uf rfl
end
theorem q1l{u W:World}(h:Near u W)(cs:Array Value)(t:TypeId): ∃V b,W.alloc (.cells cs t)=V/\W.heap.size=b/\Near W V/\u.heap.size<=b/\V.heap[b]? =some (.cells cs t (0,0)):=
 ⟨_,_,rfl,rfl,(Near.refl W).alloc _,h.size,heap_new_at rfl⟩
noncomputable def foB (m:Mod):Nat->Nat
 |0=>0
 |k+1=>if falseB m k=true then foB m k|||2^k else foB m k
theorem q1P(m:Mod): ∀k,k<=24->foB m k<2^24
 |0,_=>by simp [foB]
 |k+1,h=>by
  rw [foB];split
  .exact Nat.or_lt_two_pow (q1P m k (by omega)) (Nat.pow_lt_pow_right (by decide) (by omega))
  .exact q1P m k (by omega)
theorem analyse_good{S:Nat→Prop}{w:World}{v:Value}{m:Mod}(h:RdMod S w v m)(hS: ∀g,S g→g<w.heap.size)(hb:Zd m)(h0:chk m=0)(hne:nowhere (allF (rulesF m))=false){sb:Nat}(hsb: ∀i,sb.testBit i=dep (allF (rulesF m)) i):
 Calls qj 24 #[v] w fun e w'=> ∃s1 s2,e= .returned (.tuple #[.agg #[.bool false,.int .u64 (cntN sb (allF (rulesF m)) m.feats.length:Nat),.int .u32 (fixM m false:Nat),.int .u32 (fixM m true:Nat),.int .u32 (foB m m.feats.length:Nat),s1,s2],.int .i64 0])∧
  w'.ownsRow w.heap.size 3 1 s1 (redTo m (rulesF m).length).length ((redTo m (rulesF m).length).map natV)∧w'.ownsRow w.heap.size 38 1 s2 (atS m m.feats.length).2.length ((atS m m.feats.length).2.map u32V)∧Near w w':=by
 have ok:=jm h0;have HSd:=q8 (fun(w':World)(hn:Near w w')=>xO (h.kept hn (fun _ _ h=>h) (fun _ h=>h)) (fun g hg=>qu (hS g hg) hn.size) hb h0);obtain⟨a1,a2,b1,b2,c1,c2,d1,d2,e1,e2,rfl,-⟩:=RdMod.form h;have hn24:=ok.n24;have HOk:=q8 ok;have HC0:=q8 h0;have HNe:=q8 hne;have HSb:=q8 hsb;have hW: ∀W,W=(w.alloc (.cells #[.slice a1 m.feats.length a2,.slice b1 m.grps.length b2,.slice c1 m.atts.length c2,.slice d1 m.reqs.length d2,.slice e1 m.lims.length e2] 28)).alloc (.cells #[.bool false,.int .u64 0,.int .u32 0,.int .u32 0,.int .u32 0,.slice none 0 0,.slice none 0 0] 59)→Near w W∧W.heap[w.heap.size]? =some (.cells #[.slice a1 m.feats.length a2,.slice b1 m.grps.length b2,.slice c1 m.atts.length c2,.slice d1 m.reqs.length d2,.slice e1 m.lims.length e2] 28 (0,0))∧W.heap[w.heap.size+1]? =some (.cells #[.bool false,.int .u64 0,.int .u32 0,.int .u32 0,.int .u32 0,.slice none 0 0,.slice none 0 0] 59 (0,0))∧W.heap.size=w.heap.size+2:=by
  rintro W rfl;exact⟨((Near.refl w).alloc _).alloc _,by rw [qD (by simp),heap_new_at rfl],heap_new_at (by simp),by simp⟩
 clear h hS hb h0 hne ok hsb;go_enter Tryz.func24,Tryz.ntmps24;go_upto_region 1 with fail
 have h1:=hW _ rfl;generalize(w.alloc (.cells #[.slice a1 m.feats.length a2,.slice b1 m.grps.length b2,.slice c1 m.atts.length c2,.slice d1 m.reqs.length d2,.slice e1 m.lims.length e2] 28)).alloc (.cells #[.bool false,.int .u64 0,.int .u32 0,.int .u32 0,.int .u32 0,.slice none 0 0,.slice none 0 0] 59)=W at h1⊢;obtain⟨hN,hM,hR,hs⟩:=h1;have q0:W.cell? ⟨w.heap.size,0,none⟩=some (.slice a1 m.feats.length a2):=cell1 hM rfl;have q1:W.cell? ⟨w.heap.size,1,none⟩=some (.slice b1 m.grps.length b2):=cell1 hM rfl;have q2:W.cell? ⟨w.heap.size,2,none⟩=some (.slice c1 m.atts.length c2):=cell1 hM rfl;have q3:W.cell? ⟨w.heap.size,3,none⟩=some (.slice d1 m.reqs.length d2):=cell1 hM rfl;have q4:W.cell? ⟨w.heap.size,4,none⟩=some (.slice e1 m.lims.length e2):=cell1 hM rfl;have HN:=q8 hN;have HM:=q8 hM;have HRs:=q8 hR;have HWs:=q8 hs;clear hW hN hM hR hs;go_upto_region 2 with(go_at_call 72;refine(HSd.out _ HN.out).mono ?_;rintro e w1 ⟨p,rfl,hgood,-,n1⟩;obtain⟨Bs,rfl,hst⟩:=hgood HC0.out;have HSt:=q8 hst;have N1:=q8 n1;clear hgood hst n1)
 rw [HC0.out];clear q0 q1 q2 q3 q4;obtain⟨x0,x1,x2,x3,x4,xs,xx,xy,xb,hBs,hrd,-,hall⟩:=HSt.out;obtain⟨y1,y2,y3,y4,hye⟩:=hall.form;simp only [qY,za,qJ,and_true]at hye;obtain⟨rfl,rfl⟩:=hye;have HAll:=q8 hall;have HBs:=q8 hBs;have s6:w1.cell? ⟨Bs,6,none⟩=some (.slice y1 y2 y3):=cell1 hBs rfl;have s7:w1.cell? ⟨Bs,7,none⟩=some (.int .i64 y4):=cell1 hBs rfl;have HEm:=q8 (show Calls qj 19 #[.agg #[.slice y1 y2 y3,.int .i64 y4]] w1 fun e w'=>e= .returned (.bool false)∧Near w1 w' from HNe.out▸empty_f hall);clear hrd hall hBs;go_upto_region 6 with(go_at_call 19;refine HEm.out.mono ?_;rintro e w2 ⟨rfl,n2⟩;have N2:=q8 n2;clear n2)
 clear s6 s7 HEm;have HRd:=q8 (fun(w':World)(hn:Near w2 w')=>Zm (HSt.out.near (N2.out.trans hn)) HOk.out);have HAt:=q8 (fun(w':World)(hn:Near w2 w')=>Kr (HSt.out.near (N2.out.trans hn)) HOk.out.n24);have sOf: ∀w',Near w2 w'→w'.cell? ⟨Bs,9,none⟩=some (.int .u32 (fixM m false:Nat))∧w'.cell? ⟨Bs,10,none⟩=some (.int .u32 (fixM m true:Nat)):=fun w' h=>⟨cell1 (qE (N2.out.trans h) HBs.out) rfl,cell1 (qE (N2.out.trans h) HBs.out) rfl⟩;generalize hlr:(redTo m (rulesF m).length).map natV=lr at HRd⊢;generalize hnr:(redTo m (rulesF m).length).length=nr at HRd⊢;generalize hla:(atS m m.feats.length).2.map u32V=la at HAt⊢;generalize hna:(atS m m.feats.length).2.length=na at HAt⊢;have HL:=q8 (And.intro hlr (And.intro hnr (And.intro hla hna)));clear hlr hnr hla hna;go_cut [6]from 25 to 37 (fun o wx=> ∃b s1 s2,o= .pointer (some ⟨b,0,none⟩)∧AnaI w2 b (.int .u32 (fixM m false:Nat)) (.int .u32 (fixM m true:Nat)) (.int .u64 0) (.int .u32 0) s1 s2 nr na lr la wx)
 case first=>
  refine wp_region_noPanic ?_;refine wp_region_held_drew (S:=fun w'=>Near w2 w') (by kernel_rfl) ((Near.refl _).drew) (fun hHeld=> ?_);refine q4x (v:= .pointer (some ⟨Bs,0,none⟩)) (by kernel_rfl) (by kernel_rfl) (by kernel_rfl) (fun _ _ _ h=>h) (qB ⟨by rfl,fun w' hS'=>by have hq:=sOf _ hS';obtain⟨q9,q10⟩:=hq;go_simp⟩) hHeld ?_;try simp only [Act.put,qb,qh,qd]
  refine q4w (v:= .pointer (some ⟨Bs,0,none⟩)) (by kernel_rfl) (by kernel_rfl) (by kernel_rfl) (fun _ _ _ h=>h) (qB ⟨by rfl,fun w' hS'=>by have hq:=sOf _ hS';obtain⟨q9,q10⟩:=hq;go_simp⟩) hHeld ?_;try simp only [Act.put,qb,qh,qd]
  refine q4v (v:= .pointer (some ⟨Bs,9,none⟩)) (by kernel_rfl) (by kernel_rfl) (by kernel_rfl) (fun _ _ _ h=>h) (qB ⟨by rfl,fun w' hS'=>by have hq:=sOf _ hS';obtain⟨q9,q10⟩:=hq;go_simp⟩) hHeld ?_;try simp only [Act.put,qb,qh,qd]
  refine q4u (v:= .int .u32 (fixM m false:Nat)) (by kernel_rfl) (by kernel_rfl) (by kernel_rfl) (fun _ _ _ h=>h) (qB ⟨by rfl,fun w' hS'=>by have hq:=sOf _ hS';obtain⟨q9,q10⟩:=hq;go_simp⟩) hHeld ?_;try simp only [Act.put,qb,qh,qd]
  refine q4t (v:= .pointer (some ⟨Bs,0,none⟩)) (by kernel_rfl) (by kernel_rfl) (by kernel_rfl) (fun _ _ _ h=>h) (qB ⟨by rfl,fun w' hS'=>by have hq:=sOf _ hS';obtain⟨q9,q10⟩:=hq;go_simp⟩) hHeld ?_;try simp only [Act.put,qb,qh,qd]
  refine q4s (v:= .pointer (some ⟨Bs,0,none⟩)) (by kernel_rfl) (by kernel_rfl) (by kernel_rfl) (fun _ _ _ h=>h) (qB ⟨by rfl,fun w' hS'=>by have hq:=sOf _ hS';obtain⟨q9,q10⟩:=hq;go_simp⟩) hHeld ?_;try simp only [Act.put,qb,qh,qd]
  refine q4r (v:= .pointer (some ⟨Bs,10,none⟩)) (by kernel_rfl) (by kernel_rfl) (by kernel_rfl) (fun _ _ _ h=>h) (qB ⟨by rfl,fun w' hS'=>by have hq:=sOf _ hS';obtain⟨q9,q10⟩:=hq;go_simp⟩) hHeld ?_;try simp only [Act.put,qb,qh,qd]
  refine q4q (v:= .int .u32 (fixM m true:Nat)) (by kernel_rfl) (by kernel_rfl) (by kernel_rfl) (fun _ _ _ h=>h) (qB ⟨by rfl,fun w' hS'=>by have hq:=sOf _ hS';obtain⟨q9,q10⟩:=hq;go_simp⟩) hHeld ?_;try simp only [Act.put,qb,qh,qd]
  refine q4p (v:= .pointer (some ⟨Bs,0,none⟩)) (by kernel_rfl) (by kernel_rfl) (by kernel_rfl) (fun _ _ _ h=>h) (qB ⟨by rfl,fun w' hS'=>by have hq:=sOf _ hS';obtain⟨q9,q10⟩:=hq;go_simp⟩) hHeld ?_;try simp only [Act.put,qb,qh,qd]
  refine q0r (v:= .pointer (some ⟨Bs,0,none⟩)) (by kernel_rfl) (by kernel_rfl) (by kernel_rfl) (fun _ _ _ h=>h) (qB ⟨by rfl,fun w' hS'=>by have hq:=sOf _ hS';obtain⟨q9,q10⟩:=hq;go_simp⟩) hHeld ?_;try simp only [Act.put,qb,qh,qd]
  refine jq (rs:=[9,13]) (by kernel_rfl) (by simp) ?_;refine q4T (fun K hK=> ?_) ?_
  ·go_simp
   go_at_call 78;refine(HRd.out _ hHeld).mono ?_;rintro e w3 ⟨s1,rfl,o3,n3⟩
   obtain⟨p1,p2,rfl⟩:=qR o3;have R1:=q8 (yZ o3 hHeld.size);refine hK.out _ _ (hHeld.trans n3) (fun hHeld=> ?_);clear hK K o3 n3;try simp only [Act.put,qb,qh,qd]
   refine jq (rs:=[11,13]) (by kernel_rfl) (by simp) ?_;refine U7 (fun K hK=> ?_) ?_
   ·go_simp
    go_at_call 79;refine(HAt.out _ hHeld).mono ?_;rintro e w4 ⟨s2,rfl,o4,n4⟩
    obtain⟨p3,p4,rfl⟩:=qR o4;have R2:=q8 (yZ o4 hHeld.size);replace R1:=q8 (owns_kept R1.out n4 (fun _ _ h=>h));refine hK.out _ _ (hHeld.trans n4) (fun hHeld=> ?_);clear hK K o4 n4;try simp only [Act.put,qb,qh,qd]
    refine YW (v:= .agg #[.bool false,.int .u64 0,.int .u32 (fixM m false:Nat),.int .u32 (fixM m true:Nat),.int .u32 0,.slice p1 nr p2,.slice p3 na p4]) (by kernel_rfl) (by kernel_rfl) (by kernel_rfl) (fun _ _ _ h=>h) (qB ⟨by rfl,fun w' hS'=>by have hq:=sOf _ hS';obtain⟨q9,q10⟩:=hq;go_simp⟩) hHeld ?_;try simp only [Act.put,qb,qh,qd]
    refine jq (rs:=[13]) (by kernel_rfl) (by simp) ?_;refine U6 (fun K hK=> ?_) ?_
    ·go_simp
     obtain⟨V,b,hVe,hbe,nV,hb,hX⟩:=q1l hHeld #[.bool false,.int .u64 0,.int .u32 0,.int .u32 0,.int .u32 0,.slice none 0 0,.slice none 0 0] 59;first|rw [hVe]|rw [show(w2.alloc (.cells #[.bool false,.int .u64 0,.int .u32 0,.int .u32 0,.int .u32 0,.slice none 0 0,.slice none 0 0] 59)).drew=V from hVe]
     first|rw [hbe]|rw [show w2.heap.size=b from hbe]
     clear hVe hbe;have HX:=q8 hX;replace R1:=q8 (owns_kept R1.out nV (fun _ _ h=>h));replace R2:=q8 (owns_kept R2.out nV (fun _ _ h=>h));refine hK.out _ _ (hHeld.trans nV) (fun hHeld=> ?_);clear hK K hX nV;try simp only [Act.put,qb,qh,qd]
     refine jq (rs:=[14]) (by kernel_rfl) (by simp) ?_;refine U5 (fun K hK=> ?_) ?_
     ·obtain⟨⟨c0,c1,c2,c3,c4,c5,c6⟩,f0,f1,f2,f3,f4,f5,f6⟩:=jP HX.out
      go_simp;obtain⟨z1,z2,z3⟩:=uD hHeld hb HX.out (.bool false) (.int .u64 0) (.int .u32 (fixM m false:Nat)) (.int .u32 (fixM m true:Nat)) (.int .u32 0) (.slice p1 nr p2) (.slice p3 na p4) _ rfl;refine hK.out _ _ z1 (fun hHeld=> ?_);clear hK K c0 c1 c2 c3 c4 c5 c6 f0 f1 f2 f3 f4 f5 f6;try simp only [Act.put,qb,qh,qd]
      refine wpAnyH_done (by kernel_rfl) ?_ _;refine vA ?_;go_wp2_with fail
      go_meet
      exact⟨b,_,_,rfl,z1,hb,z2,z3 _ _ _ _ _ _ (by decide) R1.out,z3 _ _ _ _ _ _ (by decide) R2.out⟩
     exact yI
    exact yI
   refine U6 (fun K hK=> ?_) ?_
   ·go_simp
    obtain⟨V,b,hVe,hbe,nV,hb,hX⟩:=q1l hHeld #[.bool false,.int .u64 0,.int .u32 0,.int .u32 0,.int .u32 0,.slice none 0 0,.slice none 0 0] 59;first|rw [hVe]|rw [show(w2.alloc (.cells #[.bool false,.int .u64 0,.int .u32 0,.int .u32 0,.int .u32 0,.slice none 0 0,.slice none 0 0] 59)).drew=V from hVe]
    first|rw [hbe]|rw [show w2.heap.size=b from hbe]
    clear hVe hbe;have HX:=q8 hX;replace R1:=q8 (owns_kept R1.out nV (fun _ _ h=>h));refine hK.out _ _ (hHeld.trans nV) (fun hHeld=> ?_);clear hK K hX nV;try simp only [Act.put,qb,qh,qd]
    refine jq (rs:=[11]) (by kernel_rfl) (by simp) ?_;refine U7 (fun K hK=> ?_) ?_
    ·go_simp
     go_at_call 79;refine(HAt.out _ hHeld).mono ?_;rintro e w4 ⟨s2,rfl,o4,n4⟩
     obtain⟨p3,p4,rfl⟩:=qR o4;have R2:=q8 (yZ o4 hHeld.size);replace R1:=q8 (owns_kept R1.out n4 (fun _ _ h=>h));replace HX:=q8 (qE n4 HX.out);refine hK.out _ _ (hHeld.trans n4) (fun hHeld=> ?_);clear hK K o4 n4;try simp only [Act.put,qb,qh,qd]
     refine YW (v:= .agg #[.bool false,.int .u64 0,.int .u32 (fixM m false:Nat),.int .u32 (fixM m true:Nat),.int .u32 0,.slice p1 nr p2,.slice p3 na p4]) (by kernel_rfl) (by kernel_rfl) (by kernel_rfl) (fun _ _ _ h=>h) (qB ⟨by rfl,fun w' hS'=>by have hq:=sOf _ hS';obtain⟨q9,q10⟩:=hq;go_simp⟩) hHeld ?_;try simp only [Act.put,qb,qh,qd]
     refine jq (rs:=[14]) (by kernel_rfl) (by simp) ?_;refine U5 (fun K hK=> ?_) ?_
     ·obtain⟨⟨c0,c1,c2,c3,c4,c5,c6⟩,f0,f1,f2,f3,f4,f5,f6⟩:=jP HX.out
      go_simp;obtain⟨z1,z2,z3⟩:=uD hHeld hb HX.out (.bool false) (.int .u64 0) (.int .u32 (fixM m false:Nat)) (.int .u32 (fixM m true:Nat)) (.int .u32 0) (.slice p1 nr p2) (.slice p3 na p4) _ rfl;refine hK.out _ _ z1 (fun hHeld=> ?_);clear hK K c0 c1 c2 c3 c4 c5 c6 f0 f1 f2 f3 f4 f5 f6;try simp only [Act.put,qb,qh,qd]
      refine wpAnyH_done (by kernel_rfl) ?_ _;refine vA ?_;go_wp2_with fail
      go_meet
      exact⟨b,_,_,rfl,z1,hb,z2,z3 _ _ _ _ _ _ (by decide) R1.out,z3 _ _ _ _ _ _ (by decide) R2.out⟩
     exact yI
    exact yI
   exact yI
  refine U6 (fun K hK=> ?_) ?_
  ·go_simp
   obtain⟨V,b,hVe,hbe,nV,hb,hX⟩:=q1l hHeld #[.bool false,.int .u64 0,.int .u32 0,.int .u32 0,.int .u32 0,.slice none 0 0,.slice none 0 0] 59;first|rw [hVe]|rw [show(w2.alloc (.cells #[.bool false,.int .u64 0,.int .u32 0,.int .u32 0,.int .u32 0,.slice none 0 0,.slice none 0 0] 59)).drew=V from hVe]
   first|rw [hbe]|rw [show w2.heap.size=b from hbe]
   clear hVe hbe;have HX:=q8 hX;refine hK.out _ _ (hHeld.trans nV) (fun hHeld=> ?_);clear hK K hX nV;try simp only [Act.put,qb,qh,qd]
   refine jq (rs:=[9]) (by kernel_rfl) (by simp) ?_;refine q4T (fun K hK=> ?_) ?_
   ·go_simp
    go_at_call 78;refine(HRd.out _ hHeld).mono ?_;rintro e w3 ⟨s1,rfl,o3,n3⟩
    obtain⟨p1,p2,rfl⟩:=qR o3;have R1:=q8 (yZ o3 hHeld.size);replace HX:=q8 (qE n3 HX.out);refine hK.out _ _ (hHeld.trans n3) (fun hHeld=> ?_);clear hK K o3 n3;try simp only [Act.put,qb,qh,qd]
    refine jq (rs:=[11]) (by kernel_rfl) (by simp) ?_;refine U7 (fun K hK=> ?_) ?_
    ·go_simp
     go_at_call 79;refine(HAt.out _ hHeld).mono ?_;rintro e w4 ⟨s2,rfl,o4,n4⟩
     obtain⟨p3,p4,rfl⟩:=qR o4;have R2:=q8 (yZ o4 hHeld.size);replace R1:=q8 (owns_kept R1.out n4 (fun _ _ h=>h));replace HX:=q8 (qE n4 HX.out);refine hK.out _ _ (hHeld.trans n4) (fun hHeld=> ?_);clear hK K o4 n4;try simp only [Act.put,qb,qh,qd]
     refine YW (v:= .agg #[.bool false,.int .u64 0,.int .u32 (fixM m false:Nat),.int .u32 (fixM m true:Nat),.int .u32 0,.slice p1 nr p2,.slice p3 na p4]) (by kernel_rfl) (by kernel_rfl) (by kernel_rfl) (fun _ _ _ h=>h) (qB ⟨by rfl,fun w' hS'=>by have hq:=sOf _ hS';obtain⟨q9,q10⟩:=hq;go_simp⟩) hHeld ?_;try simp only [Act.put,qb,qh,qd]
     refine jq (rs:=[14]) (by kernel_rfl) (by simp) ?_;refine U5 (fun K hK=> ?_) ?_
     ·obtain⟨⟨c0,c1,c2,c3,c4,c5,c6⟩,f0,f1,f2,f3,f4,f5,f6⟩:=jP HX.out
      go_simp;obtain⟨z1,z2,z3⟩:=uD hHeld hb HX.out (.bool false) (.int .u64 0) (.int .u32 (fixM m false:Nat)) (.int .u32 (fixM m true:Nat)) (.int .u32 0) (.slice p1 nr p2) (.slice p3 na p4) _ rfl;refine hK.out _ _ z1 (fun hHeld=> ?_);clear hK K c0 c1 c2 c3 c4 c5 c6 f0 f1 f2 f3 f4 f5 f6;try simp only [Act.put,qb,qh,qd]
      refine wpAnyH_done (by kernel_rfl) ?_ _;refine vA ?_;go_wp2_with fail
      go_meet
      exact⟨b,_,_,rfl,z1,hb,z2,z3 _ _ _ _ _ _ (by decide) R1.out,z3 _ _ _ _ _ _ (by decide) R2.out⟩
     exact yI
    exact yI
   exact yI
  exact yI
 case rest=>
  obtain⟨b,s1,s2,rfl,hA⟩:=hcut;obtain⟨p1,p2,rfl⟩:=qR hA.2.2.2.1;obtain⟨p3,p4,rfl⟩:=qR hA.2.2.2.2;have HA:=q8 hA;have hb:=hA.2.1;clear sOf HRd HAt hA;have HCt:=q8 (fun(w':World)(hn:Near w2 w')=>q2e (HAll.out.near (N2.out.trans hn)) HSb.out (m.feats.length:Nat));generalize hcn:cntN sb (allF (rulesF m)) (m.feats.length:Nat)=cn at HCt⊢;have HCn:=q8 hcn;clear hcn;generalize cntE sb (m.feats.length:Nat)=ce at HCt;have HM2:=q8 (qE (N1.out.trans N2.out) HM.out);have HBs2:=q8 (qE N2.out HBs.out);have sOf: ∀w',Near w2 w'→w'.cell? ⟨Bs,6,none⟩=some (.slice y1 y2 y3)∧w'.cell? ⟨Bs,7,none⟩=some (.int .i64 y4)∧w'.cell? ⟨w.heap.size,0,none⟩=some (.slice a1 m.feats.length a2):=fun w' h=>⟨cell1 (qE h HBs2.out) rfl,cell1 (qE h HBs2.out) rfl,cell1 (qE h HM2.out) rfl⟩;go_upto_region 7 with fail
  go_region_held3 (fun w'=>w'.cell? ⟨Bs,6,none⟩=some (.slice y1 y2 y3)∧w'.cell? ⟨Bs,7,none⟩=some (.int .i64 y4)∧w'.cell? ⟨w.heap.size,0,none⟩=some (.slice a1 m.feats.length a2))
   ((refine sOf _ ?_;first|exact z1.set (p:=⟨b,1,none⟩) hb _|exact z1|exact HA.out.1.drew))
   ((go_at_call 80;refine(HCt.out _ HA.out.1.drew).mono ?_;rintro e w3 ⟨rfl,n3⟩;have z1:=HA.out.1.drew.trans n3;have A3:=q8 (HA.out.near ((Near.refl _).drew.trans n3));obtain⟨⟨-,c1,-⟩,-,f1,-⟩:=jP A3.out.2.2.1))
  have A4:=q8 (A3.out.set1 (.int .u64 (cn:Nat)));clear c1 f1 n3;obtain⟨q6,q7,q0⟩:=sOf _ A4.out.1;generalize w3.setCell ⟨b,1,none⟩ (.int .u64 (cn:Nat))=w5 at A4 q6 q7 q0⊢;clear q6 q7 z1 A3;go_wp2_with fail
  clear q0;go_loopw [53] (fun ix wr=> ∃i:Nat,i≤m.feats.length∧ix= .int .i64 i∧AnaI w2 b (.int .u32 (fixM m false:Nat)) (.int .u32 (fixM m true:Nat)) (.int .u64 (cn:Nat)) (.int .u32 (foB m i:Nat)) (.slice p1 nr p2) (.slice p3 na p4) nr na lr la wr) (fun ix _=>m.feats.length - (intOf ix).toNat)
  case atStart=>exact⟨0,qv _,rfl,A4.out⟩
  case round=>
   obtain⟨i,hi,rfl,hI⟩:=hrel;have HI:=q8 hI;have hfo:=q1P m i (by omega);have hfs:foB m (i+1)=if falseB m i=true then foB m i|||2^i else foB m i:=by rw [foB]
   have HFs:=q8 hfs;clear hI hfs;by_cases hlt:i<m.feats.length
   ·have hlt':(i:Int)<m.feats.length:=by omega
    have HFm:=q8 (fun(w':World)(hn:Near w2 w')=>XX (HSt.out.near (N2.out.trans hn)) HOk.out hlt);generalize hfb:falseB m i=fb at HFm HFs;clear hfb;have HOr:=q8 (vG (foB m i) i (Nat.lt_trans hfo (by decide)) (by omega))
    cases fb with
    |false=>
     have HF2:=q8 (show foB m (i+1)=foB m i by rw [HFs.out];rfl);go_wp2_with (go_at_call 81;refine(HFm.out _ HI.out.1).mono ?_;rintro e w6 ⟨rfl,n6⟩;have A6:=q8 (HI.out.near n6))
     exact⟨⟨i+1,hlt,by go_num,by rw [HF2.out];exact A6.out⟩,by simp [intOf];omega⟩
    |true=>
     have HF2:=q8 (show foB m (i+1)=foB m i|||2^i by rw [HFs.out];rfl);go_upto_region 12 with(go_at_call 81;refine(HFm.out _ HI.out.1).mono ?_;rintro e w6 ⟨rfl,n6⟩;have A6:=q8 (HI.out.near n6);obtain⟨⟨-,-,-,-,c4,-⟩,-,-,-,-,f4,-⟩:=jP A6.out.2.2.1)
     have hor:=HOr.out;go_still_tail 6,(by kernel_rfl)
     change wpList _ _ _ _ _ w6.drew;go_wp2_with fail
     exact⟨⟨i+1,hlt,by go_num,by rw [HF2.out];exact(A6.out.near (Near.refl _).drew).set4 _⟩,by simp [intOf];omega⟩
   ·obtain rfl:i=m.feats.length:=by omega
    obtain⟨⟨c0,c1,c2,c3,c4,c5,c6⟩,-⟩:=jP HI.out.2.2.1;have hRx:=qE (N1.out.trans (N2.out.trans HI.out.1)) HRs.out;obtain⟨⟨r0,r1,r2,r3,r4,r5,r6⟩,g0,g1,g2,g3,g4,g5,g6⟩:=jP hRx;have HRx:=q8 hRx;clear hRx;go_wp2_with fail
    have hnw:=HN.out.trans (N1.out.trans (N2.out.trans HI.out.1));obtain⟨hz1,hz2,hz3⟩:=uD hnw (b:=w.heap.size+1) (by omega) HRx.out (.bool false) (.int .u64 (cn:Nat)) (.int .u32 (fixM m false:Nat)) (.int .u32 (fixM m true:Nat)) (.int .u32 (foB m m.feats.length:Nat)) (.slice p1 nr p2) (.slice p3 na p4) _ rfl;obtain⟨⟨t0,t1,t2,t3,t4,t5,t6⟩,-⟩:=jP hz2;have hbs:w.heap.size≤w2.heap.size:=(HN.out.trans (N1.out.trans N2.out)).size;refine bodyPost_ret (v:= .tuple #[.agg #[.bool false,.int .u64 (cn:Nat),.int .u32 (fixM m false:Nat),.int .u32 (fixM m true:Nat),.int .u32 (foB m m.feats.length:Nat),.slice p1 nr p2,.slice p3 na p4],.int .i64 0]) (by simp [results,Tryz.results24,go_sem,t0,t1,t2,t3,t4,t5,t6]) rfl ⟨_,_,by rw [HCn.out],?_,?_,hz1⟩
    ·obtain⟨l1,l2,-,-⟩:=HL.out
     rw [l1,l2];exact yZ (hz3 _ _ _ _ _ _ (by decide) HI.out.2.2.2.1) hbs
    ·obtain⟨-,-,l3,l4⟩:=HL.out
     rw [l3,l4];exact yZ (hz3 _ _ _ _ _ _ (by decide) HI.out.2.2.2.2) hbs
end Go.Proofs.YtjcbmcnbdegpmaaGreatDoor
namespace Go.Proofs.Mod
open Go Go.Proofs.YtjcbmcnbdegpmaaGreatDoor
def phoneT:List UInt8:= "root Phone\nmandatory Phone Screen\noptional Phone Gps\nmember Screen Basic\nmember Screen Colour\ngroup Screen 1 1 Basic Colour\nattribute price\nvalue price Colour 20\nvalue price Gps 7\nrequire Gps => Colour\nlimit price <= 30\n".toUTF8.data.toList
theorem Vd:parseM phoneT=(0,0,phoneM):=by kernel_rfl
end Go.Proofs.Mod
