/- OpA, MMoves, MRSet, MSameM, MCpP, MRSameE, MRSameM, MCopyE, MCopied, LawChecks. -/
import Derived.Maps.OwnSet
import Derived.WalkKit
import Derived.Deep.QuietTactic
import Derived.Test.YtjcbmcnbdegpmaaGreatDoorProg
import Derived.KernelRfl
import Derived.DeepKeys4
import Derived.Deep.RegionLaw
import Derived.StillTailTactics
import Derived.Maps.AppendAt
import Derived.WalkSpells
import Derived.WalkLawsBesides
import Derived.BigQuiet
import Derived.Lib.Hide
import Derived.Deep.DeepCutAuto
import Derived.Laws.EntriesVeiled
import Derived.Deep.RegionHeld3
import Derived.Laws.OwnMore
import Derived.Deep.Slices
import Derived.RangeFuncNested
import Derived.RangeFuncBound
import Derived.RangeFuncCalls
import Derived.RangeFuncLeaves
import Derived.Shelf.Abstract
import Derived.Shelf.RegionOpen
import Derived.OwnWalkIn
import Derived.TacticsInMore
import Derived.LoopNIn
import Derived.LoopIn
import Derived.Laws.CopyOwn
import Derived.Lib.BitFns
import Derived.IntWalk
import Derived.Laws.BitsAllLaws
import Derived.ProofKit
import Derived.OpenShut
import Derived.ShutString
import Derived.ChangeOld
import Derived.Below
import Derived.Deep.Fields
import Derived.Lib.TrimByte
import Derived.Lib.ParseIntB
import Derived.Lib.Strings
import Derived.Lib.ItoaNum
import Derived.Shelf.LaysC
import Derived.Shelf.Strconv.ParseIntPublic10
import Derived.Shelf.SlicesQ.Reverse
import Derived.Ground.SlgnProg
import Derived.Defers
import Derived.Recover
import Derived.Shelf.Strings.Builder1
import Derived.Shelf.Strings.Split
import Derived.Shelf.LaysM
import Derived.Shelf.Strconv.Itoa3
import Derived.Shelf.Strings.Trim
import Derived.Shelf.Strings.FieldsFuncAny
import Derived.Shelf.Strings.Prefix
import Derived.Shelf.Strconv.Itoa4
import Derived.Shelf.Strings.OnBuilder
import Derived.Lib.FieldsP
import Derived.Lib.Split
import Derived.Lib.MapLaws
import Derived.Lib.SpaceUEq
import Derived.Lib.AppendZeros
import Derived.Lib.AppendZerosOnto
import Derived.Lib.Join
import Derived.Sort.CutIn
import Derived.Shelf.Strings.BuilderK
import Derived.Test.YtjcbmcnbdegpmaaGreatDoorKLawBack
import Derived.Test.YtjcbmcnbdegpmaaGreatDoorKMFacts
set_option maxRecDepth 100000
set_option maxHeartbeats 12800000
set_option linter.unusedVariables false
set_option linter.unusedSimpArgs false
open Array renaming getElem?_eq_some_iff->qk
open Go.Act renaming put->q8F
open Go.Lib renaming hid->q8
open Go.Proofs.Gen renaming heap_new_at->q8G
open Go.Proofs.Gen.Kept renaming grown->q8J,mono->q8L,refl->q8B,trans->q8D
open Go.Proofs.Mod.RdL renaming kept->vt
open Go.Proofs.Tryz renaming prog->qj
open Go.Proofs.YtjcbmcnbdegpmaaGreatDoor.Near renaming refl->vr
open Go.Value renaming slice->qw
open Go.World renaming ownsRow_nil->qW
open List renaming getElem?_eq_getElem->qi,mem_of_getElem?->qp,setIfInBounds_toArray->qb,set_cons_succ->qd,set_cons_zero->qh
open Nat renaming zero_le->qv
open Or renaming inl->qB
open Go.Value renaming slice->vd,int->ve,string->vf,pointer->vg,agg->vi,bool->vj
open Go.Obj renaming cells->vk
open Go.Ending renaming returned->vm
open Go.IntKind renaming i64->vp,u8->vq,u32->vr,u64->vt
open Or renaming inl->vu,inr->vv
namespace Go.Proofs.Gen
open Go Go.RowKit
open Go.ChangeMaps Go.MapKept
section
variable {P:Program}{w:World}
theorem q8K{ops:Array Oper}{o:Oper}{a:Act}{K:Act->World->Prop}{Q:Exit->Act->World->Prop}{E:Prop}
 (hg:o.guard=none) (s x:Operand) (t:TypeId) (hop:o.op=Op.call {callee:=Callee.builtin Builtin.append,args:= #[s,x],argTypes:= #[t,t]})
 (base:Nat) (e:TypeId) (i:TypeInfo) (z:Value) (size bytes:Nat) (ht:P.underlying t=some (.slice e)) (hi:P.info? e=some i) (hz:i.zero=some z)
 (hsize:i.size=size) (hby:i.bytes=bytes) (hzs:z.cells.size=size) (hsz:0<size)
 (v:Value) (n:Nat) (xs:List Value) (hs:a.eval s=v) (hown:w.ownsRow base e size v n xs)
 (vx:Value) (m:Nat) (news:List Value) (hx:a.eval x=vx) (hy:SrcOf w size m vx news) (h1: ∀u∈news,u.oneCell'=true)
 (h63:n+m<=maxLen) (hbytes:(n+m)*bytes<=140737488355328) (hbase:base<=w.heap.size)
 (hK: ∀ao cap w',w'.ownsRow base e size (.slice ao (n+m) cap) (n+m) (xs++news)->w.grownBy w' v.ownBlock->K (a.put o.dst (.slice ao (n+m) cap)) w'):
 if Region.wanted o (yielded ops a.tmps)=true then Oper.wp P o a w K Q else E:=by
 have hw:Region.wanted o (yielded ops a.tmps)=true:=by simp [Region.wanted,hg]
 rw [if_pos hw];obtain⟨hl,⟨rfl,rfl⟩|⟨ad,c,rfl,hc⟩⟩:=hy
 .have hn:news=[]:=List.eq_nil_of_length_eq_zero (by simpa using hl)
  subst hn;have hr:=run_append_owned_none w base t o.type e i size ht hi v n xs hown;obtain⟨ao,cap,rfl⟩:=qR hown;unfold Oper.wp execOp;simp only [hop,resolve,invoke,builtin,Sem.run_bind,Sem.run_pure,Result.andThen_ok,List.map_toArray,List.map_cons,List.map_nil,hs,hx,hr];exact hK ao cap w (by simpa using hown) ⟨rfl,rfl,rfl,Nat.le_refl _,fun _ _ _=>rfl⟩
 .obtain⟨v',w',hr,h2,h3,_,_⟩:=run_append_own_at (P:=P) w base t o.type e i z size bytes ht hi hz hsize hby hzs hsz v n xs hown ad m c news hl hc h1 h63 hbytes hbase
  obtain⟨ao,cap,rfl⟩:=qR h2;unfold Oper.wp execOp;simp only [hop,resolve,invoke,builtin,Sem.run_bind,Sem.run_pure,Result.andThen_ok,List.map_toArray,List.map_cons,List.map_nil,hs,hx,hr];exact hK ao cap w' h2 h3
end
end Go.Proofs.Gen
namespace Go.Proofs.YtjcbmcnbdegpmaaGreatDoor
open Go Go.RowKit Go.Proofs.Gen Go.Proofs.Bdd Go.Proofs.Bdd.T
end Go.Proofs.YtjcbmcnbdegpmaaGreatDoor
namespace Go.Proofs.YtjcbmcnbdegpmaaGreatDoor
open Go Go.RowKit Go.Shelf Go.Proofs.Gen
section
variable {P:Program}{ops:Array Oper}{Q:Exit->Act->World->Prop}{md:Region.Mode}{S:World->Prop}{z:Nat}
end
section
variable {P:Program}{Q:Exit->Act->World->Prop}{md:Region.Mode}{S:World->Prop}{z fuel:Nat}{listed:Array Bool}{a:Act}{w:World}{v:Value}{oi:Oper}{r:List Oper}
theorem oZ7{b f c d g e h:Oper}:YQ P md Q S z fuel listed a w oi 7 (List.toArray (b::f::c::d::g::e::h::oi::r)):=jk rfl
end
end Go.Proofs.YtjcbmcnbdegpmaaGreatDoor
namespace Go.Proofs.YtjcbmcnbdegpmaaGreatDoor
open Go Go.RowKit Go.Proofs.Gen Go.Proofs.Mod
theorem vW{W:World}{b:Nat}{p q r s t:Value}(h:W.heap[b]? =some (.cells #[p,q,r,s,t] 28 (0,0))): ∀w',Near W w'->w'.cell? ⟨b,0,none⟩=some p/\w'.cell? ⟨b,1,none⟩=some q/\w'.cell? ⟨b,2,none⟩=some r/\w'.cell? ⟨b,3,none⟩=some s/\w'.cell? ⟨b,4,none⟩=some t:=
 fun _ hn=>⟨cell1 (qE hn h) rfl,cell1 (qE hn h) rfl,cell1 (qE hn h) rfl,cell1 (qE hn h) rfl,cell1 (qE hn h) rfl⟩
theorem vH(w:World)(cs ds:Array Value)(s t:TypeId): ∃V,(w.alloc (.cells cs s)).alloc (.cells ds t)=V/\Near w V/\V.heap[w.heap.size]? =some (.cells cs s (0,0))/\V.heap[w.heap.size+1]? =some (.cells ds t (0,0)):=
 ⟨_,rfl,((vr w).alloc _).alloc _,by rw [qD (by simp),q8G rfl],q8G (by simp)⟩
theorem Vp{S T:Nat→Prop}{w:World}{va vb:Value}{a b:Mod}(ha:RdMod S w va a)(hb:RdMod T w vb b)(s:Zd a):
 Calls qj 13 #[va,vb] w fun e c=>e=vm (vj (sameM a b))∧Near w c:=by
 obtain⟨a1,a2,V,Y,G,E,R,d2,K,L,rfl,hF,hG,t,hE,hL,-⟩:=RdMod.form ha;obtain⟨U,I,g1,O,n,o,M,H,j1,X,rfl,ab,aa,ae,ad,af,-⟩:=RdMod.form hb;have v:=q8 (fun(c:World)(d:Near w c)=>J2 (hF.kept d (fun _ _ h=>h) (fun _ h=>h) (fun _ _ h=>h)) (ab.kept d (fun _ _ h=>h) (fun _ h=>h) (fun _ _ h=>h)) (by have:=s.feats;omega));have z:=q8 (fun(c:World)(d:Near w c)=>Gw (hG.kept d (fun _ _ h=>h) (fun _ h=>h) (fun _ _ h=>h.kept d (fun _ _ h=>h) (fun _ h=>h))) (aa.kept d (fun _ _ h=>h) (fun _ h=>h) (fun _ _ h=>h.kept d (fun _ _ h=>h) (fun _ h=>h))) (by have:=s.grps;omega)
  (fun i x y vs C D _ A _ n o=>X8 n o (by have:=jZ (qp A);have:=s.mems;omega)))
 have Q:=q8 (fun(c:World)(d:Near w c)=>Gx (t.kept d (fun _ _ h=>h) (fun _ h=>h) (fun _ _ h=>h.kept d (fun _ _ h=>h) (fun _ h=>h))) (ae.kept d (fun _ _ h=>h) (fun _ h=>h) (fun _ _ h=>h.kept d (fun _ _ h=>h) (fun _ h=>h))) (by have:=s.atts;omega)
  (fun i x y vs C D _ A _ n o=>X9 n o (s.vals x (qp A))))
 have H4:=q8 (fun(c:World)(d:Near w c)=>YI (hE.kept d (fun _ _ h=>h) (fun _ h=>h) (fun _ _ h=>h.kept d (fun _ _ h=>h) (fun _ h=>h))) (ad.kept d (fun _ _ h=>h) (fun _ h=>h) (fun _ _ h=>h.kept d (fun _ _ h=>h) (fun _ h=>h))) (by have:=s.reqs;omega)
  (fun i x y vs C D _ A _ n o=>KS n o (s.exs x (qp A))))
 have H5:=q8 (fun(c:World)(d:Near w c)=>J1 (hL.kept d (fun _ _ h=>h) (fun _ h=>h) (fun _ _ h=>h)) (af.kept d (fun _ _ h=>h) (fun _ h=>h) (fun _ _ h=>h)) (by have:=s.lims;omega));have l:Hid (sameM a b=(eqv sameFt a.feats b.feats&&eqv sameG a.grps b.grps&&eqv sameA a.atts b.atts&&eqv sameE a.reqs b.reqs&&eqv sameLm a.lims b.lims)):=rfl;generalize sameM a b=r at l⊢;generalize eqv sameFt a.feats b.feats=z1 at v l;generalize eqv sameG a.grps b.grps=z2 at z l;generalize eqv sameA a.atts b.atts=z3 at Q l;generalize eqv sameE a.reqs b.reqs=z4 at H4 l;generalize eqv sameLm a.lims b.lims=z5 at H5 l;have hW: ∀W,W=(w.alloc (vk #[vd a1 a.feats.length a2,vd V a.grps.length Y,vd G a.atts.length E,vd R a.reqs.length d2,vd K a.lims.length L] 28)).alloc (vk #[vd U b.feats.length I,vd g1 b.grps.length O,vd n b.atts.length o,vd M b.reqs.length H,vd j1 b.lims.length X] 28)→
  Near w W∧W.heap[w.heap.size]? =some (vk #[vd a1 a.feats.length a2,vd V a.grps.length Y,vd G a.atts.length E,vd R a.reqs.length d2,vd K a.lims.length L] 28 (0,0))∧W.heap[w.heap.size+1]? =some (vk #[vd U b.feats.length I,vd g1 b.grps.length O,vd n b.atts.length o,vd M b.reqs.length H,vd j1 b.lims.length X] 28 (0,0)):=by
  rintro W rfl;exact⟨((vr w).alloc _).alloc _,by rw [qD (by simp),q8G rfl],q8G (by simp)⟩
 go_enter Tryz.func13,Tryz.ntmps13;go_upto_region 1 with fail
 have h0:=hW _ rfl;generalize(w.alloc (vk #[vd a1 a.feats.length a2,vd V a.grps.length Y,vd G a.atts.length E,vd R a.reqs.length d2,vd K a.lims.length L] 28)).alloc (vk #[vd U b.feats.length I,vd g1 b.grps.length O,vd n b.atts.length o,vd M b.reqs.length H,vd j1 b.lims.length X] 28)=W at h0⊢;have⟨hN,t,B⟩:=h0;have f:=q8 hN;have p0:W.cell? w.heap.size=some (vd a1 a.feats.length a2):=cell1 t rfl;have q0:W.cell? (vw (w.heap.size+1) 0)=some (vd U b.feats.length I):=cell1 B rfl;have N:=q8 (fun(c:World)(h:Near W c)=>(show c.cell? (vw w.heap.size 1)=some (vd V a.grps.length Y)∧c.cell? (vw (w.heap.size+1) 1)=some (vd g1 b.grps.length O)from⟨cell1 (qE h t) rfl,cell1 (qE h B) rfl⟩));have K2:=q8 (fun(c:World)(h:Near W c)=>(show c.cell? (vw w.heap.size 2)=some (vd G a.atts.length E)∧c.cell? (vw (w.heap.size+1) 2)=some (vd n b.atts.length o)from⟨cell1 (qE h t) rfl,cell1 (qE h B) rfl⟩));have K3:=q8 (fun(c:World)(h:Near W c)=>(show c.cell? (vw w.heap.size 3)=some (vd R a.reqs.length d2)∧c.cell? (vw (w.heap.size+1) 3)=some (vd M b.reqs.length H)from⟨cell1 (qE h t) rfl,cell1 (qE h B) rfl⟩));have K4:=q8 (fun(c:World)(h:Near W c)=>(show c.cell? (vw w.heap.size 4)=some (vd K a.lims.length L)∧c.cell? (vw (w.heap.size+1) 4)=some (vd j1 b.lims.length X)from⟨cell1 (qE h t) rfl,cell1 (qE h B) rfl⟩))
 cases z1 with
 |false=>
  have p:Hid (r=false):=l;go_wp2_with (go_at_call 57;refine(v _ f).mono ?_;rintro e J ⟨rfl,j⟩;have g:=q8 j)
  go_ret;exact⟨by obtain rfl:=p.out;rfl,f.trans g⟩
 |true=>
 cases z2 with
 |false=>
  have p:Hid (r=false):=l;go_wp2_with (first
   |(go_at_call 57;refine(v _ f).mono ?_;rintro e J ⟨rfl,j⟩;have⟨p1,q1⟩:=N _ j;have g:=q8 j)
   |(go_at_call 58;refine(z _ (f.trans g)).mono ?_;rintro e w2 ⟨rfl,m⟩;have k:=q8 (g.trans m)))
  go_ret;exact⟨by obtain rfl:=p.out;rfl,f.trans k⟩
 |true=>
 cases z3 with
 |false=>
  have p:Hid (r=false):=l;go_wp2_with (first
   |(go_at_call 57;refine(v _ f).mono ?_;rintro e J ⟨rfl,j⟩;have⟨p1,q1⟩:=N _ j;have g:=q8 j)
   |(go_at_call 58;refine(z _ (f.trans g)).mono ?_;rintro e w2 ⟨rfl,m⟩;have⟨p2,q2⟩:=K2 _ (g.trans m);have k:=q8 (g.trans m))
   |(go_at_call 61;refine(Q _ (f.trans k)).mono ?_;rintro e w3 ⟨rfl,u⟩;have q:=q8 (k.trans u)))
  go_ret;exact⟨by obtain rfl:=p.out;rfl,f.trans q⟩
 |true=>
 cases z4 with
 |false=>
  have p:Hid (r=false):=l;go_wp2_with (first
   |(go_at_call 57;refine(v _ f).mono ?_;rintro e J ⟨rfl,j⟩;have⟨p1,q1⟩:=N _ j;have g:=q8 j)
   |(go_at_call 58;refine(z _ (f.trans g)).mono ?_;rintro e w2 ⟨rfl,m⟩;have⟨p2,q2⟩:=K2 _ (g.trans m);have k:=q8 (g.trans m))
   |(go_at_call 61;refine(Q _ (f.trans k)).mono ?_;rintro e w3 ⟨rfl,u⟩;have⟨p3,q3⟩:=K3 _ (k.trans u);have q:=q8 (k.trans u))
   |(go_at_call 64;refine(H4 _ (f.trans q)).mono ?_;rintro e w4 ⟨rfl,P⟩;have Z:=q8 (q.trans P)))
  go_ret;exact⟨by obtain rfl:=p.out;rfl,f.trans Z⟩
 |true=>
  have p:Hid (r=z5):=l;go_wp2_with (first
   |(go_at_call 57;refine(v _ f).mono ?_;rintro e J ⟨rfl,j⟩;have⟨p1,q1⟩:=N _ j;have g:=q8 j)
   |(go_at_call 58;refine(z _ (f.trans g)).mono ?_;rintro e w2 ⟨rfl,m⟩;have⟨p2,q2⟩:=K2 _ (g.trans m);have k:=q8 (g.trans m))
   |(go_at_call 61;refine(Q _ (f.trans k)).mono ?_;rintro e w3 ⟨rfl,u⟩;have⟨p3,q3⟩:=K3 _ (k.trans u);have q:=q8 (k.trans u))
   |(go_at_call 64;refine(H4 _ (f.trans q)).mono ?_;rintro e w4 ⟨rfl,P⟩;have⟨p4,q4⟩:=K4 _ (q.trans P);have Z:=q8 (q.trans P))
   |(go_at_call 66;refine(H5 _ (f.trans Z)).mono ?_;rintro e w5 ⟨rfl,n5⟩;have N5:=q8 (Z.trans n5)))
  go_ret;exact⟨by obtain rfl:=p.out;rfl,f.trans N5⟩
end Go.Proofs.YtjcbmcnbdegpmaaGreatDoor
namespace Go.Proofs.YtjcbmcnbdegpmaaGreatDoor
open Go Go.RowKit Go.Proofs.Gen Go.Proofs.Mod
def q8Y{α:Type}(T k:Nat)(enc:α->List Value)(num:α->List Int)(sl:α->Value)(base:Nat)(w:World)(v:Value)(ps:List α):Prop:=
 w.ownsRow base T k v ps.length (ps.flatMap enc)/\ ∀p∈ps,RdL (fun g=>base<=g/\v.ownBlock≠some g) 1 RdI w (sl p) (num p)/\WfS (sl p)
section
variable {α:Type}{T k:Nat}{enc:α->List Value}{num:α->List Int}{sl:α->Value}{base:Nat}{w w1:World}{v:Value}{ps:List α}
theorem q90{vs:List Value}{x:Int}(h:RdI w vs x):vs≠[]:=fun e=>by rw [e]at h;cases h
theorem q8Y.kept{K:Nat->Prop}(h:q8Y T k enc num sl base w v ps)(c:Kept K w w1)(b: ∀g,base<=g-> ¬K g):q8Y T k enc num sl base w1 v ps:=
 ⟨q3j h.1 c b,fun p a=>⟨(h.2 p a).1.kept c (fun g d=>b g d.1) (fun _ h=>h) (fun _ _ h=>h),(h.2 p a).2⟩⟩
theorem q8Y.snoc{cap:Nat}{S:Nat->Prop}{ao:Option Addr}{p:α}{o:Obj}(h:q8Y T k enc num sl base w v ps)(j:RdL S 1 RdI w (sl p) (num p))(f:WfS (sl p))(l: ∀g,S g->base<=g/\v.ownBlock≠some g)
 (m:w1.ownsRow base T k (vd ao (ps.length+1) cap) (ps.length+1) (ps.flatMap enc++enc p)) (a:(w.alloc o).grownBy w1 v.ownBlock) (i:(qw ao (ps.length+1) cap).ownBlock=v.ownBlock\/(qw ao (ps.length+1) cap).ownBlock=some (w.alloc o).heap.size):
 q8Y T k enc num sl base w1 (vd ao (ps.length+1) cap) (ps++[p]):=by
 have c:Kept (fun g=>v.ownBlock=some g) w w1:=q8J (((vr w).alloc o).kept) a (fun k c _=>c);have b: ∀q,RdL (fun g=>base<=g/\v.ownBlock≠some g) 1 RdI w (sl q) (num q)->RdL (fun g=>base<=g/\(qw ao (ps.length+1) cap).ownBlock≠some g) 1 RdI w1 (sl q) (num q):=fun q d=>by
  refine(RdL.here d (fun _ _ h=>q90 h)).kept c (fun g a=>a.1.2) (fun g a=>⟨a.1.1,?_⟩) (fun _ _ h=>h);rcases i with e|e
  .rw [e];exact a.1.2
  .rw [e]
   have:(w.alloc o).heap.size=w.heap.size+1:=by simp
   simp only [ne_eq,Option.some.injEq];omega
 refine⟨?_,fun q d=> ?_⟩
 .rw [List.length_append,List.flatMap_append]
  simpa using m
 .rcases List.mem_append.1 d with e|e
  .exact⟨b q (h.2 q e).1,(h.2 q e).2⟩
  .rw [List.mem_singleton]at e
   subst e;exact⟨b q (j.kept (q8B (fun _=>False) w) (fun _ _ h=>h) l (fun _ _ h=>h)),f⟩
end
abbrev q9a:= @q8Y Pg 78 4 q6U (fun p=>p.g.members) Pg.v
abbrev q9b:= @q8Y Pa 81 2 Ka (fun p=>p.a.values) Pa.v
theorem q9a.rd{w:World}{base:Nat}{v:Value}{b:List Pg}(h:q9a base w v b):RdL (fun g=>base<=g) 4 (RdGrp (fun g=>base<=g)) w v (b.map Pg.g):=
 RdL.map (RdL.own (enc:=q6U) (R:=fun w c x=>RdGrp (fun g=>base<=g) w c x.g) (fun _=>rfl) h.1 fun p a=>⟨p.v,rfl,(h.2 p a).1.kept (q8B (fun _=>False) w) (fun _ _ h=>h) (fun _ h=>h.1) (fun _ _ h=>h),(h.2 p a).2⟩)
theorem q9b.rd{w:World}{base:Nat}{v:Value}{a:List Pa}(h:q9b base w v a):RdL (fun g=>base<=g) 2 (RdAtt (fun g=>base<=g)) w v (a.map Pa.a):=
 RdL.map (RdL.own (enc:=Ka) (R:=fun w c x=>RdAtt (fun g=>base<=g) w c x.a) (fun _=>rfl) h.1 fun p b=>⟨p.v,rfl,(h.2 p b).1.kept (q8B (fun _=>False) w) (fun _ _ h=>h) (fun _ h=>h.1) (fun _ _ h=>h)⟩)
theorem RdL.src{α:Type}{S:Nat->Prop}{k:Nat}{R:World->List Value->α->Prop}{enc:α->List Value}{w:World}{ao:Option Addr}{cap:Nat}{l:List α}(h:RdL S k R w (vd ao l.length cap) l)(hw:WfS (vd ao l.length cap))(hR: ∀vs x,R w vs x->vs=enc x)(hk: ∀x,(enc x).length=k)(hk0:0<k):SrcOf w k l.length (vd ao l.length cap) (l.flatMap enc):=by
 refine⟨by rw [q3Y hk,Nat.mul_comm,Nat.mul_comm],?_⟩;have⟨ao',cap',e,hc⟩:=h
 cases e
 cases ao with
 |none=>
  refine vu ?_;have hl:l.length=0:=by
   cases l with
   |nil=>rfl
   |cons x l=>obtain⟨g,o,vs,e,-⟩:=hc 0 x rfl;cases e
  have:=(hw _ _ _ rfl).2 rfl
  rw [hl,this];exact⟨rfl,rfl⟩
 |some ad=>
  refine vv ⟨ad,cap,rfl,fun j u hj=> ?_⟩;have hjl:j<l.length*k:=by rw [<-q3Y hk l];exact(List.getElem?_eq_some_iff.1 hj).1
  have hi:j/k<l.length:=Nat.div_lt_of_lt_mul (by rw [Nat.mul_comm];exact hjl);have ht:=Nat.mod_lt j hk0;have hx:=qi hi;obtain⟨g,o,vs,e,-,hcell,hv⟩:=hc _ _ hx;have hvs:=hR _ _ hv;subst hvs;have hu:(enc l[j/k])[j%k]? =some ((enc l[j/k])[j%k]'(by rw [hk];exact ht)):=qi _;have h1:=q1Q hk hx hu;rw [show j/k*k+j%k=j by rw [Nat.mul_comm];exact Nat.div_add_mod j k]at h1;rw [hj]at h1;rw [<-Option.some.inj h1]at hu;have h2:=hcell _ _ hu
  cases e;rw [Addr.add_lit];rw [show o+j/k*k+j%k=o+j by rw [Nat.add_assoc,Nat.mul_comm (j/k) k,Nat.div_add_mod]]at h2;exact h2
end Go.Proofs.YtjcbmcnbdegpmaaGreatDoor
namespace Go.Proofs.YtjcbmcnbdegpmaaGreatDoor
open Go Go.RowKit Go.Proofs.Gen Go.Proofs.Mod
variable{S T:Nat->Prop}{W c w w':World}{a b:Mod}{d:List Value}{l:List Int}{m n:Nat}{v va vb x y:Value}
theorem q8O{K J:Value}{l':List Int}(v:RdL S 1 RdI w K l)(z:RdL T 1 RdI w J l')(W:l.length<4611686018427387904):
 Calls qj 107 #[K,J] w fun e P=>e=vm (vj (eqv sameI l l'))/\Near w P:=by
 have O:=q8 v;have N:=q8 z;obtain⟨R,Q,rfl⟩:=v.form;obtain⟨bo,M,rfl⟩:=z.form;clear v z;obtain⟨r,D⟩: ∃r,r=eqv sameI l l':=⟨_,rfl⟩;rw [<-D];have B:=q8 D;clear D;by_cases d:l.length=l'.length
 .have q:=q8 d
  have C:((l.length:Int) !=l'.length)=false:=by rw [d];simp
  clear d;go_enter Tryz.func107,Tryz.ntmps107;go_wp2_with fail
  go_loopw [5] (fun i wr=> ∃k:Nat,k<=l.length/\i=ve vp k/\(∀(j:Nat) a b,j<k->l[j]? =some a->l'[j]? =some b->sameI a b=true)/\Near w wr) (fun i _=>l.length - (intOf i).toNat)
  case atStart=>exact⟨0,qv _,rfl,fun j x y V=>by omega,vr _⟩
  case round=>
   obtain⟨k,X,rfl,s,L⟩:=hrel;have p:=q8 s;have f:=q8 L;clear s L;by_cases m:k<l.length
   .have n:k<l'.length:=by rw [<-q.out];exact m
    have G:(k:Int)<l.length:=by omega
    have E:(k:Int)<l'.length:=by omega
    obtain⟨x,A⟩: ∃x,l[k]? =some x:=⟨_,qi m⟩;obtain⟨y,u⟩: ∃y,l'[k]? =some y:=⟨_,qi n⟩;obtain⟨g,o,rfl,U⟩:=uV (vt O f (fun _ _ h=>h) (fun _ h=>h) (fun _ _ h=>h)) A;obtain⟨Y,Z,rfl,y0⟩:=uV (vt N f (fun _ _ h=>h) (fun _ h=>h) (fun _ _ h=>h)) u;have I:=q8 A;have H:=q8 u;clear A u;by_cases t:x=y
    .obtain rfl:=t
     go_wp2_with fail
     go_quiet (fail)
     all_goals
      go_wp2_with fail
      exact⟨⟨k+1,m,by go_num,ub p I H (by simp [sameI]),f.drewN _⟩,by simp [intOf];omega⟩
    .have c:=q8 (show r=false by rw [B.out];exact QL k I H (by exact decide_eq_false t))
     have h1:(x==y)=false:=beq_eq_false_iff_ne.2 t;clear t
     all_goals
      go_wp2_with fail
      go_quiet (fail)
      all_goals
       go_wp2_with fail
       go_ret;exact⟨by obtain rfl:=c.out;rfl,f.drewN _⟩
   .obtain rfl:k=l.length:=by omega
    have c:=q8 (show r=true by rw [B.out];exact gi q p);go_wp2_with fail
    go_ret;exact⟨by obtain rfl:=c.out;rfl,f⟩
 .have c:=q8 (show r=false by rw [B.out];exact uM d)
  have C:((l.length:Int) !=l'.length)=true:=by rw [bne_iff_ne];omega
  clear d;go_enter Tryz.func107,Tryz.ntmps107;go_wp2_with fail
  go_ret;exact⟨by obtain rfl:=c.out;rfl,vr _⟩
theorem q8Q: ∀{x:Ex}{S T:Nat→Prop}{w:World}{vs q:List Value}{y:Ex},RdEx S w vs x→RdEx T w q y→x.size<4611686018427387904→
 Calls qj 108 #[vi vs.toArray,vi q.toArray] w fun e d=>e=vm (vj (sameE x y))∧Near w d:=by
 intro x;induction x using Ex.ind with
 |h p C f ih=>
 intro S T w vs q y I M O;have⟨D,l,c⟩:=y;obtain⟨v,rfl,hm⟩:=I.inv;obtain⟨v',rfl,G⟩:=M.inv;obtain⟨mo,L,rfl⟩:=hm.form;obtain⟨n,m,rfl⟩:=G.form;have aj:Ex.sizes f<4611686018427387904:=by simp only [Ex.size]at O;omega
 have ak:=q3N f;have ae:=q8 (fun(k:Ex)(hk:k∈f)(y:Ex)(d:World)(vs q:List Value)(h:RdEx S d vs k)(h':RdEx T d q y)=>ih k hk h h' (by have:=Ex.sizes_mem hk;omega));have HM:=q8 hm;have ag:=q8 G;have HQ:=q8 (q3g p D C l f c);generalize sameE (.mk p C f) (.mk D l c)=r at HQ⊢;have hW: ∀W,W=(w.alloc (vk #[ve vq p,vf C,vd mo f.length L] 84)).alloc (vk #[ve vq D,vf l,vd n c.length m] 84)→Near w W∧W.heap[w.heap.size]? =some (vk #[ve vq p,vf C,vd mo f.length L] 84 (0,0))∧W.heap[w.heap.size+1]? =some (vk #[ve vq D,vf l,vd n c.length m] 84 (0,0)):=by
  rintro W rfl;exact⟨((vr w).alloc _).alloc _,by rw [qD (by simp),q8G rfl],q8G (by simp)⟩
 clear hm G I M O ih;go_enter Tryz.func108,Tryz.ntmps108;go_upto_region 1 with fail
 have h0:=hW _ rfl;generalize(w.alloc (vk #[ve vq p,vf C,vd mo f.length L] 84)).alloc (vk #[ve vq D,vf l,vd n c.length m] 84)=W at h0⊢;have⟨hN,P,Z⟩:=h0;have p0:W.cell? w.heap.size=some (ve vq p):=cell1 P rfl;have p1:W.cell? (vw w.heap.size 1)=some (vf C):=cell1 P rfl;have p2:W.cell? (vw w.heap.size 2)=some (vd mo f.length L):=cell1 P rfl;have q0:W.cell? (vw (w.heap.size+1) 0)=some (ve vq D):=cell1 Z rfl;have q1:W.cell? (vw (w.heap.size+1) 1)=some (vf l):=cell1 Z rfl;have q2:W.cell? (vw (w.heap.size+1) 2)=some (vd n c.length m):=cell1 Z rfl;have N:=q8 hN;have HA:=q8 P;have HB:=q8 Z;clear hW hN P Z;have u:r=false→ ∀(ws:World),Near w ws→(Ending.returned (vj false)=vm (vj r)∧Near w ws):=fun e ws h=>⟨by rw [e],h⟩;by_cases U:p=D
 ·by_cases V:C=l
  ·by_cases h3:f.length=c.length
   ·subst U V
    have B:=q8 (show r=eqv sameE f c by rw [HQ.out,decide_eq_true rfl,decide_eq_true rfl];rfl);have X:=q8 h3;have ai:((f.length:Int) !=c.length)=false:=by rw [h3];simp
    clear h3 u;go_wp2_with fail
    go_loopw [5] (fun i wr=> ∃k:Nat,k≤f.length∧i=ve vp k∧(∀(j:Nat) a b,j<k→f[j]? =some a→c[j]? =some b→sameE a b=true)∧Near W wr) (fun i _=>f.length - (intOf i).toNat)
    case atStart=>exact⟨0,qv _,rfl,fun j x y hj=>by omega,vr _⟩
    case round=>
     obtain⟨k,hk,rfl,Y,K⟩:=hrel;have ab:=q8 Y;have t:=q8 K;have r2:wr.cell? (vw w.heap.size 2)=some (vd mo f.length L):=cell1 (qE K HA) rfl;have s2:wr.cell? (vw (w.heap.size+1) 2)=some (vd n c.length m):=cell1 (qE K HB) rfl;clear Y K p0 p1 p2 q0 q1 q2;by_cases J:k<f.length
     ·have aa:k<c.length:=by rw [←X.out];exact J
      have ah:(k:Int)<f.length:=by omega
      have af:(k:Int)<c.length:=by omega
      obtain⟨x,I⟩: ∃x,f[k]? =some x:=⟨_,qi J⟩;obtain⟨y,M⟩: ∃y,c[k]? =some y:=⟨_,qi aa⟩;have s:=N.trans t;obtain⟨g,o,xo,xc,rfl,x0,x1,x2,R⟩:=gZ (vt HM s (fun _ _ h=>h) (fun _ h=>h) (fun _ _ h=>h.kept s (fun _ _ h=>h) (fun _ h=>h))) I;obtain⟨z,A,yo,yc,rfl,z0,z1,z2,ad⟩:=gZ (vt ag s (fun _ _ h=>h) (fun _ h=>h) (fun _ _ h=>h.kept s (fun _ _ h=>h) (fun _ h=>h))) M;have HX:=q8 I;have HY:=q8 M;obtain⟨b,hb⟩: ∃b,b=sameE x y:=⟨_,rfl⟩;have Q:=q8 hb;have HC:=q8 (fun(d:World)(K:Near wr d)=>hb▸ae.out x (qp I) y d _ _ (R.kept K (fun _ _ h=>h) (fun _ h=>h)) (ad.kept K (fun _ _ h=>h) (fun _ h=>h)));have E: ∀d,Near wr d→d.cell? (vw w.heap.size 2)=some (vd (some ⟨g,o,none⟩) f.length L)∧d.cell? (vw (w.heap.size+1) 2)=some (vd (some ⟨z,A,none⟩) c.length m)∧d.cell? (vw g (o+k*3))=some (ve vq x.op)∧d.cell? (vw g (o+k*3+1))=some (vf x.name)∧d.cell? (vw g (o+k*3+2))=some (vd xo x.kids.length xc)∧d.cell? (vw z (A+k*3))=some (ve vq y.op)∧d.cell? (vw z (A+k*3+1))=some (vf y.name)∧d.cell? (vw z (A+k*3+2))=some (vd yo y.kids.length yc):=
       fun d h=>⟨h.cell r2,h.cell s2,h.cell x0,h.cell x1,h.cell x2,h.cell z0,h.cell z1,h.cell z2⟩
      clear I M R ad hb s r2 s2 x0 x1 x2 z0 z1 z2;have⟨r2,s2,x0,x1,x2,z0,z1,z2⟩:=E wr (vr _);go_wp2_with fail
      clear r2 s2 x0 x1 x2 z0 z1 z2;go_region_held3 (fun d=>d.cell? (vw w.heap.size 2)=some (vd (some ⟨g,o,none⟩) f.length L)∧d.cell? (vw (w.heap.size+1) 2)=some (vd (some ⟨z,A,none⟩) c.length m)∧d.cell? (vw g (o+k*3))=some (ve vq x.op)∧d.cell? (vw g (o+k*3+1))=some (vf x.name)∧d.cell? (vw g (o+k*3+2))=some (vd xo x.kids.length xc)∧d.cell? (vw z (A+k*3))=some (ve vq y.op)∧d.cell? (vw z (A+k*3+1))=some (vf y.name)∧d.cell? (vw z (A+k*3+2))=some (vd yo y.kids.length yc))
       ((refine E _ ?_;first|exact z5|exact(vr _).drew))
       ((go_at_call 108;refine(HC _ ((vr wr).drew)).mono ?_;rintro e w5 ⟨rfl,n5⟩;have z5:Near wr w5:=(vr wr).drew.trans n5))
      have HZ:=q8 z5;clear E z5 n5 HC
      cases b with
      |false=>
       have H:=q8 (show r=false by rw [B.out];exact QL k HX HY Q.symm);go_wp2_with fail
       go_ret;exact⟨by obtain rfl:=H.out;rfl,N.trans (t.trans HZ)⟩
      |true=>
       go_wp2_with fail
       exact⟨⟨k+1,J,by go_num,ub ab HX HY Q.symm,t.trans HZ⟩,by simp [intOf];omega⟩
     ·obtain rfl:k=f.length:=by omega
      have H:=q8 (show r=true by rw [B.out];exact gi X ab);go_wp2_with fail
      go_ret;exact⟨by obtain rfl:=H.out;rfl,N.trans t⟩
   ·have B:=q8 (show r=false by rw [HQ.out,uM h3];simp)
    have e3:((f.length:Int) !=c.length)=true:=by rw [bne_iff_ne];omega
    subst U V;clear h3;go_wp2_with fail
    go_ret;exact u B _ N
  ·have B:=q8 (show r=false by rw [HQ.out,decide_eq_false V];simp)
   have e3:(C.toList==l.toList)=false:=JI V;subst U;clear V;go_wp2_with fail
   go_ret;exact u B _ N
 ·have B:=q8 (show r=false by rw [HQ.out,decide_eq_false U];simp)
  have e3:((p:Int) !=(D:Int))=true:=by rw [bne_iff_ne];omega
  clear U;go_wp2_with fail
  go_ret;exact u B _ N
theorem q8H(h:m=n):((m:Int) !=n)=false:=by rw [h];simp
theorem q8E(w:World)(X Y:Array Value)(T:TypeId):((w.alloc (vk X T)).alloc (vk Y T)).drew.heap[w.heap.size]? =some (vk X T (0,0))/\((w.alloc (vk X T)).alloc (vk Y T)).drew.heap[w.heap.size+1]? =some (vk Y T (0,0))/\Near w ((w.alloc (vk X T)).alloc (vk Y T)).drew:=by
 have⟨V,c,n,a,b⟩:=vH w X Y T T;rw [c];exact⟨a,b,n.drew⟩
theorem q8P(h:m≠n):((m:Int) !=n)=true:=by rw [bne_iff_ne];omega
theorem q8M{S T:Nat→Prop}(ha:RdMod S w va a)(hb:RdMod T w vb b)(hk:Zd a):
 Calls qj 30 #[va,vb] w fun e l=>e=vm (vj (sameM a b))∧Near w l:=by
 obtain⟨a1,a2,b1,b2,c1,c2,d1,d2,Y,e2,rfl,hF,hG,hA,hE,hL,-⟩:=RdMod.form ha;obtain⟨f1,f2,g1,g2,Q,h2,i1,i2,j1,j2,rfl,ar,aw,a7,au,a8,-⟩:=RdMod.form hb;have HF:=q8 hF;have bd:=q8 ar;have HG:=q8 hG;have bq:=q8 aw;have HT:=q8 hA;have be:=q8 a7;have HE:=q8 hE;have bi:=q8 au;have HL:=q8 hL;have bl:=q8 a8;have HK:=q8 hk;have HQ:Hid (sameM a b=(eqv sameFt a.feats b.feats&&eqv sameG a.grps b.grps&&eqv sameA a.atts b.atts&&eqv sameE a.reqs b.reqs&&eqv sameLm a.lims b.lims)):=rfl;generalize sameM a b=r at HQ⊢;clear ha hb hk hF hG hA hE hL ar aw a7 au a8;go_enter Tryz.func30,Tryz.ntmps30;go_upto_region 1 with fail
 have⟨W,a6,nW,hA,hB⟩:=vH w #[vd a1 a.feats.length a2,vd b1 a.grps.length b2,vd c1 a.atts.length c2,vd d1 a.reqs.length d2,vd Y a.lims.length e2] #[vd f1 b.feats.length f2,vd g1 b.grps.length g2,vd Q b.atts.length h2,vd i1 b.reqs.length i2,vd j1 b.lims.length j2] 28 28;rw [a6];have HA:=q8 (vW hA);have HB:=q8 (vW hB);have HN:=q8 nW;have⟨J,p1,p2,p3,p4⟩:=HA W (vr W);have⟨G,q1,q2,q3,q4⟩:=HB W (vr W);clear a6 hA hB nW;have ax:(a.feats.length=b.feats.length∧a.grps.length=b.grps.length∧a.atts.length=b.atts.length∧a.reqs.length=b.reqs.length∧a.lims.length=b.lims.length)∨r=false∧(((a.feats.length:Int) !=b.feats.length)=true∨((a.feats.length:Int) !=b.feats.length)=false∧(((a.grps.length:Int) !=b.grps.length)=true∨((a.grps.length:Int) !=b.grps.length)=false∧(((a.atts.length:Int) !=b.atts.length)=true∨((a.atts.length:Int) !=b.atts.length)=false∧(((a.reqs.length:Int) !=b.reqs.length)=true∨((a.reqs.length:Int) !=b.reqs.length)=false∧((a.lims.length:Int) !=b.lims.length)=true)))):=by
  by_cases l0:a.feats.length=b.feats.length
  ·by_cases l1:a.grps.length=b.grps.length
   ·by_cases l2:a.atts.length=b.atts.length
    ·by_cases l3:a.reqs.length=b.reqs.length
     ·by_cases l4:a.lims.length=b.lims.length
      ·exact vu ⟨l0,l1,l2,l3,l4⟩
      ·exact vv ⟨by rw [HQ.out,uM (f:=sameLm) l4];simp,vv ⟨q8H l0,vv ⟨q8H l1,vv ⟨q8H l2,vv ⟨q8H l3,q8P l4⟩⟩⟩⟩⟩
     ·exact vv ⟨by rw [HQ.out,uM (f:=sameE) l3];simp,vv ⟨q8H l0,vv ⟨q8H l1,vv ⟨q8H l2,vu (q8P l3)⟩⟩⟩⟩
    ·exact vv ⟨by rw [HQ.out,uM (f:=sameA) l2];simp,vv ⟨q8H l0,vv ⟨q8H l1,vu (q8P l2)⟩⟩⟩
   ·exact vv ⟨by rw [HQ.out,uM (f:=sameG) l1];simp,vv ⟨q8H l0,vu (q8P l1)⟩⟩
  ·exact vv ⟨by rw [HQ.out,uM (f:=sameFt) l0];simp,vu (q8P l0)⟩
 rcases ax with⟨l0,l1,l2,l3,l4⟩|⟨hr,hw⟩
 case inr=>
  have HR:=q8 hr;clear hr;rcases hw with h5|⟨h5,h6|⟨h6,h7|⟨h7,h8|⟨h8,h9⟩⟩⟩⟩
  all_goals
   go_wp2_with fail
   go_ret;exact⟨by obtain rfl:=HR.out;rfl,HN⟩
 have H0:=q8 l0;have H1:=q8 l1;have H2:=q8 l2;have H3:=q8 l3;have H4:=q8 l4;have k0:=q8H l0;have k1:=q8H l1;have k2:=q8H l2;have k3:=q8H l3;have k4:=q8H l4;have A:=q8 (fun(hr:r=false)(l:World)(q:Near W l)=>(⟨by rw [hr],HN.trans q⟩:Ending.returned (vj false)=vm (vj r)∧Near w l));clear l0 l1 l2 l3 l4;go_wp2_with fail
 clear k0 k1 k2 k3 k4 J p1 p2 p3 p4 G q1 q2 q3 q4;go_loopw [5] (fun i wr=> ∃k:Nat,k≤a.feats.length∧i=ve vp k∧(∀(j:Nat) x y,j<k→a.feats[j]? =some x→b.feats[j]? =some y→sameFt x y=true)∧Near W wr) (fun i _=>a.feats.length - (intOf i).toNat)
 case atStart=>exact⟨0,qv _,rfl,fun j x y hj=>by omega,vr _⟩
 case round=>
  obtain⟨k,hk,rfl,z,q⟩:=hrel;have v:=q8 z;have d:=q8 q;have c:=HN.trans q;have N:=q8 c;obtain⟨J,-,-,-,-⟩:=HA wr q;obtain⟨G,-,-,-,-⟩:=HB wr q;clear z q;by_cases m:k<a.feats.length
  ·as_aux_lemma=>
   have ae:a.feats.length<549755813888:=HK.feats;have C:k<b.feats.length:=by rw [←H0.out];exact m
   have aa:(k:Int)<a.feats.length:=by omega
   have O:(k:Int)<b.feats.length:=by omega
   obtain⟨x,E⟩: ∃x,a.feats[k]? =some x:=⟨_,qi m⟩;obtain⟨y,K⟩: ∃y,b.feats[k]? =some y:=⟨_,qi C⟩;obtain⟨g,o,rfl,V,X,x2⟩:=we (vt HF c (fun _ _ h=>h) (fun _ h=>h) (fun _ _ h=>h)) E;obtain⟨L,M,rfl,y0,y1,y2⟩:=we (vt bd c (fun _ _ h=>h) (fun _ h=>h) (fun _ _ h=>h)) K;have HX:=q8 E;have HY:=q8 K;clear E K c;have⟨n,p,u⟩:=x;have⟨n',p',u'⟩:=y;dsimp only at V X x2 y0 y1 y2;by_cases he:n=n'∧p=p'∧u=u'
   ·obtain⟨rfl,rfl,rfl⟩:=he
    go_wp2_with fail
    go_quiet (fail)
    all_goals
     go_wp2_with fail
     exact⟨⟨k+1,m,by go_num,ub v HX HY (by simp [sameFt]),d.drewN _⟩,by simp [intOf];omega⟩
   ·have s:=q8 (show r=false by rw [HQ.out,QL (f:=sameFt) k HX HY (by simp only [sameFt,Bool.and_eq_false_iff,decide_eq_false_iff_not];exact Decidable.byContradiction fun h=>he (by simp only [not_or,Decidable.not_not]at h;exact⟨h.1.1,h.1.2,h.2⟩))];simp)
    have hw:(n.toList==n'.toList)=false∨n=n'∧((p==p')=false∨p=p'∧((u:Int)==(u':Int))=false):=by
     by_cases Q:n=n'
     ·by_cases h2:p=p'
      ·have h: ¬u=u':=fun h3=>he ⟨Q,h2,h3⟩
       exact vv ⟨Q,vv ⟨h2,beq_eq_false_iff_ne.2 (by omega)⟩⟩
      ·exact vv ⟨Q,vu (beq_eq_false_iff_ne.2 h2)⟩
     ·exact vu (JI Q)
    clear he;rcases hw with Q|⟨rfl,Q|⟨rfl,Q⟩⟩
    all_goals
     go_wp2_with fail
     go_quiet (fail)
     all_goals
      go_wp2_with fail
      go_ret;exact A s _ (d.drewN _)
  ·obtain rfl:k=a.feats.length:=by omega
   have bn:Hid (eqv sameFt a.feats b.feats=true):=gi H0 v;have aj:=d;clear v m hk d N c;obtain⟨w1,az⟩: ∃x,wr=x:=⟨_,rfl⟩;rw [az]at J G aj⊢;clear az;go_wp2_with fail
   clear J G;go_loopw [6] (fun i wr=> ∃k:Nat,k≤a.grps.length∧i=ve vp k∧(∀(j:Nat) x y,j<k→a.grps[j]? =some x→b.grps[j]? =some y→sameG x y=true)∧Near W wr) (fun i _=>a.grps.length - (intOf i).toNat)
   case atStart=>exact⟨0,qv _,rfl,fun j x y hj=>by omega,aj⟩
   case round=>
    obtain⟨k,hk,rfl,z,q⟩:=hrel;have v:=q8 z;have d:=q8 q;have c:=HN.trans q;have N:=q8 c;obtain⟨-,J,-,-,-⟩:=HA wr q;obtain⟨-,G,-,-,-⟩:=HB wr q;clear z q;by_cases m:k<a.grps.length
    ·as_aux_lemma=>
     have ae:a.grps.length<549755813888:=HK.grps;have C:k<b.grps.length:=by rw [←H1.out];exact m
     have aa:(k:Int)<a.grps.length:=by omega
     have O:(k:Int)<b.grps.length:=by omega
     obtain⟨x,E⟩: ∃x,a.grps[k]? =some x:=⟨_,qi m⟩;obtain⟨y,K⟩: ∃y,b.grps[k]? =some y:=⟨_,qi C⟩;obtain⟨g,o,xo,xc,rfl,V,X,x2,x3,H⟩:=ZD (vt HG c (fun _ _ h=>h) (fun _ h=>h) (fun _ _ h=>h.kept c (fun _ _ h=>h) (fun _ h=>h))) E;obtain⟨L,M,yo,yc,rfl,y0,y1,y2,y3,I⟩:=ZD (vt bq c (fun _ _ h=>h) (fun _ h=>h) (fun _ _ h=>h.kept c (fun _ _ h=>h) (fun _ h=>h))) K;have HX:=q8 E;have HY:=q8 K;obtain⟨_,Z,H,-⟩:=H
     cases Z;obtain⟨_,Z,I,-⟩:=I
     cases Z;have an:=jZ (qp E);have bm:=HK.mems;have HC:=q8 (fun(l:World)(q:Near wr l)=>q8O (H.kept q (fun _ _ h=>h) (fun _ h=>h) (fun _ _ h=>h)) (I.kept q (fun _ _ h=>h) (fun _ h=>h) (fun _ _ h=>h)) (by omega:x.members.length<4611686018427387904));have P:Hid (sameG x y=(decide (x.parent=y.parent)&&decide (x.low=y.low)&&decide (x.high=y.high)&&eqv sameI x.members y.members)):=rfl;clear E K H I c an bm;generalize eqv sameI x.members y.members=bb at HC P;have B: ∀l,Near wr l→l.cell? (vw w.heap.size 1)=some (vd (some ⟨g,o,none⟩) a.grps.length b2)∧l.cell? (vw (w.heap.size+1) 1)=some (vd (some ⟨L,M,none⟩) b.grps.length g2)∧l.cell? (vw g (o+k*4))=some (ve vp x.parent)∧l.cell? (vw g (o+k*4+1))=some (ve vp x.low)∧l.cell? (vw g (o+k*4+2))=some (ve vp x.high)∧l.cell? (vw g (o+k*4+3))=some (vd xo x.members.length xc)∧l.cell? (vw L (M+k*4))=some (ve vp y.parent)∧l.cell? (vw L (M+k*4+1))=some (ve vp y.low)∧l.cell? (vw L (M+k*4+2))=some (ve vp y.high)∧l.cell? (vw L (M+k*4+3))=some (vd yo y.members.length yc):=
      fun l h=>⟨h.cell J,h.cell G,h.cell V,h.cell X,h.cell x2,h.cell x3,h.cell y0,h.cell y1,h.cell y2,h.cell y3⟩
     go_wp2_with fail
     clear J G V X x2 x3 y0 y1 y2 y3;have⟨J,G,V,X,x2,x3,y0,y1,y2,y3⟩:=B wr (vr _);have m1:=fun o1:Obj=>B (wr.alloc o1) ((vr _).alloc _);have m2:=fun o1 o2:Obj=>B ((wr.alloc o1).alloc o2) (((vr _).alloc _).alloc _);have al:=q8 B;clear B;go_cut [7,8]from 76 to 119 (fun s7 s8 wx=> ∃kx ky:Nat,s7=vg kx∧s8=vg ky∧wx.heap[kx]? =some (vk #[ve vp x.parent,ve vp x.low,ve vp x.high,vd xo x.members.length xc] 78 (0,0))∧wx.heap[ky]? =some (vk #[ve vp y.parent,ve vp y.low,ve vp y.high,vd yo y.members.length yc] 78 (0,0))∧Near wr wx)
     case first=>
      go_region
      all_goals
       go_wp2_with fail
       go_meet
       first|exact⟨_,_,rfl,rfl,(q8E _ _ _ _).1,(q8E _ _ _ _).2.1,(q8E _ _ _ _).2.2⟩|exact⟨_,_,rfl,rfl,(q8E _ _ _ _).2.1,(q8E _ _ _ _).1,(q8E _ _ _ _).2.2⟩
     case rest=>
      obtain⟨kx,ky,rfl,rfl,hX,hY,q⟩:=hcut;have u0:wc.cell? kx=some (ve vp x.parent):=cell1 hX rfl;have u1:wc.cell? (vw kx 1)=some (ve vp x.low):=cell1 hX rfl;have u2:wc.cell? (vw kx 2)=some (ve vp x.high):=cell1 hX rfl;have u3:wc.cell? (vw kx 3)=some (vd xo x.members.length xc):=cell1 hX rfl;have v0:wc.cell? ky=some (ve vp y.parent):=cell1 hY rfl;have v1:wc.cell? (vw ky 1)=some (ve vp y.low):=cell1 hY rfl;have v2:wc.cell? (vw ky 2)=some (ve vp y.high):=cell1 hY rfl;have v3:wc.cell? (vw ky 3)=some (vd yo y.members.length yc):=cell1 hY rfl;have D:=q8 q;clear hX hY q J G V X x2 x3 y0 y1 y2 y3 m1 m2 al;have U:=q8 (fun(h:sameG x y=false)=>(show r=false by rw [HQ.out,QL (f:=sameG) k HX HY h];simp));by_cases R:x.parent=y.parent
      ·have f0:((x.parent:Int) !=y.parent)=false:=by rw [R];simp
       by_cases Y:x.low=y.low
       ·have f1:((x.low:Int) !=y.low)=false:=by rw [Y];simp
        by_cases e2:x.high=y.high
        ·have f2:((x.high:Int) !=y.high)=false:=by rw [e2];simp
         have ab:=q8 (show sameG x y=bb by rw [P.out,decide_eq_true R,decide_eq_true Y,decide_eq_true e2];rfl);clear R Y e2
         cases bb with
         |false=>
          go_wp2_with (go_at_call 107;refine(HC _ D).mono ?_;rintro e w5 ⟨rfl,n5⟩;have N5:=q8 n5;clear n5)
          go_ret;exact A (U ab) _ (d.trans (D.trans N5))
         |true=>
          go_wp2_with (go_at_call 107;refine(HC _ D).mono ?_;rintro e w5 ⟨rfl,n5⟩;have N5:=q8 n5;clear n5)
          exact⟨⟨k+1,m,by go_num,ub v HX HY ab,d.trans (D.trans N5)⟩,by simp [intOf];omega⟩
        ·have s:=q8 (U (by rw [P.out,decide_eq_false e2];simp))
         have f2:((x.high:Int) !=y.high)=true:=bne_iff_ne.2 e2;clear R Y e2;go_wp2_with fail
         go_ret;exact A s _ (d.trans D)
       ·have s:=q8 (U (by rw [P.out,decide_eq_false Y];simp))
        have f1:((x.low:Int) !=y.low)=true:=bne_iff_ne.2 Y;clear R Y;go_wp2_with fail
        go_ret;exact A s _ (d.trans D)
      ·have s:=q8 (U (by rw [P.out,decide_eq_false R];simp))
       have f0:((x.parent:Int) !=y.parent)=true:=bne_iff_ne.2 R;clear R;go_wp2_with fail
       go_ret;exact A s _ (d.trans D)
    ·obtain rfl:k=a.grps.length:=by omega
     have ba:Hid (eqv sameG a.grps b.grps=true):=gi H1 v;have ag:=d;clear v m hk d N c;obtain⟨w2,a4⟩: ∃x,wr=x:=⟨_,rfl⟩;rw [a4]at J G ag⊢;clear a4;go_wp2_with fail
     clear J G;go_loopw [9] (fun i wr=> ∃k:Nat,k≤a.atts.length∧i=ve vp k∧(∀(j:Nat) x y,j<k→a.atts[j]? =some x→b.atts[j]? =some y→sameA x y=true)∧Near W wr) (fun i _=>a.atts.length - (intOf i).toNat)
     case atStart=>exact⟨0,qv _,rfl,fun j x y hj=>by omega,ag⟩
     case round=>
      obtain⟨k,hk,rfl,z,q⟩:=hrel;have v:=q8 z;have d:=q8 q;have c:=HN.trans q;have N:=q8 c;obtain⟨-,-,J,-,-⟩:=HA wr q;obtain⟨-,-,G,-,-⟩:=HB wr q;clear z q;by_cases m:k<a.atts.length
      ·as_aux_lemma=>
       have ae:a.atts.length<549755813888:=HK.atts;have C:k<b.atts.length:=by rw [←H2.out];exact m
       have aa:(k:Int)<a.atts.length:=by omega
       have O:(k:Int)<b.atts.length:=by omega
       obtain⟨x,E⟩: ∃x,a.atts[k]? =some x:=⟨_,qi m⟩;obtain⟨y,K⟩: ∃y,b.atts[k]? =some y:=⟨_,qi C⟩;obtain⟨g,o,xo,xc,rfl,V,X,H⟩:=Q7 (vt HT c (fun _ _ h=>h) (fun _ h=>h) (fun _ _ h=>h.kept c (fun _ _ h=>h) (fun _ h=>h))) E;obtain⟨L,M,yo,yc,rfl,y0,y1,I⟩:=Q7 (vt be c (fun _ _ h=>h) (fun _ h=>h) (fun _ _ h=>h.kept c (fun _ _ h=>h) (fun _ h=>h))) K;have HX:=q8 E;have HY:=q8 K;have bs:=HK.vals x (qp E);have⟨_,Z,H⟩:=H
       cases Z;have⟨_,Z,I⟩:=I
       cases Z;have bc:=q8 H;have bh:=q8 I;have P:Hid (sameA x y=(decide (x.name=y.name)&&eqv sameI x.values y.values)):=rfl;have U:=q8 (fun(h:sameA x y=false)=>(show r=false by rw [HQ.out,QL (f:=sameA) k E K h];simp));have B: ∀l,Near wr l→l.cell? (vw w.heap.size 2)=some (vd (some ⟨g,o,none⟩) a.atts.length c2)∧l.cell? (vw (w.heap.size+1) 2)=some (vd (some ⟨L,M,none⟩) b.atts.length h2)∧l.cell? (vw g (o+k*2))=some (vf x.name)∧l.cell? (vw g (o+k*2+1))=some (vd xo x.values.length xc)∧l.cell? (vw L (M+k*2))=some (vf y.name)∧l.cell? (vw L (M+k*2+1))=some (vd yo y.values.length yc):=
        fun l h=>⟨h.cell J,h.cell G,h.cell V,h.cell X,h.cell y0,h.cell y1⟩
       clear E K H I c;go_wp2_with fail
       clear J G V X y0 y1;have⟨J,G,V,X,y0,y1⟩:=B wr (vr _);have m1:=fun o1:Obj=>B (wr.alloc o1) ((vr _).alloc _);have m2:=fun o1 o2:Obj=>B ((wr.alloc o1).alloc o2) (((vr _).alloc _).alloc _);have al:=q8 B;clear B;go_cut [10,11]from 120 to 168 (fun s7 s8 wx=> ∃kx ky:Nat,s7=vg kx∧s8=vg ky∧wx.heap[kx]? =some (vk #[vf x.name,vd xo x.values.length xc] 81 (0,0))∧wx.heap[ky]? =some (vk #[vf y.name,vd yo y.values.length yc] 81 (0,0))∧Near wr wx)
       case first=>
        go_region
        all_goals
         go_wp2_with fail
         go_meet
         first|exact⟨_,_,rfl,rfl,(q8E _ _ _ _).1,(q8E _ _ _ _).2.1,(q8E _ _ _ _).2.2⟩|exact⟨_,_,rfl,rfl,(q8E _ _ _ _).2.1,(q8E _ _ _ _).1,(q8E _ _ _ _).2.2⟩
       case rest=>
        obtain⟨kx,ky,rfl,rfl,hX,hY,q⟩:=hcut;have u0:wc.cell? kx=some (vf x.name):=cell1 hX rfl;have u1:wc.cell? (vw kx 1)=some (vd xo x.values.length xc):=cell1 hX rfl;have v0:wc.cell? ky=some (vf y.name):=cell1 hY rfl;have v1:wc.cell? (vw ky 1)=some (vd yo y.values.length yc):=cell1 hY rfl;have D:=q8 q;have bg:=q8 hX;have bp:=q8 hY;clear hX hY q J G V X y0 y1 m1 m2 al;by_cases R:x.name=y.name
        ·by_cases Y:x.values.length=y.values.length
         ·have ab:=q8 (show sameA x y=eqv sameI x.values y.values by rw [P.out,decide_eq_true R];rfl)
          have ap:=q8 Y;have f1:=q8H Y;have f0:(x.name.toList==y.name.toList)=true:=by rw [R];simp
          clear R Y;go_wp2_with fail
          clear u0 u1 v0 v1 f0 f1;go_loopw [12] (fun i wr=> ∃j:Nat,j≤x.values.length∧i=ve vp j∧(∀(t:Nat) a b,t<j→x.values[t]? =some a→y.values[t]? =some b→sameI a b=true)∧Near wc wr) (fun i _=>x.values.length - (intOf i).toNat)
          case atStart=>exact⟨0,qv _,rfl,fun j x y hj=>by omega,vr _⟩
          case round=>
           obtain⟨j,hj,rfl,z,q⟩:=hrel;have ai:=q8 z;have ad:=q8 q;have u1:wr.cell? (vw kx 1)=some (vd xo x.values.length xc):=cell1 (qE q bg) rfl;have v1:wr.cell? (vw ky 1)=some (vd yo y.values.length yc):=cell1 (qE q bp) rfl;clear z q;by_cases am:j<x.values.length
           ·have a0:j<y.values.length:=by rw [←ap.out];exact am
            have br:(j:Int)<x.values.length:=by omega
            have bk:(j:Int)<y.values.length:=by omega
            obtain⟨x',E⟩: ∃x',x.values[j]? =some x':=⟨_,qi am⟩;obtain⟨y',K⟩: ∃y',y.values[j]? =some y':=⟨_,qi a0⟩;obtain⟨gx,ox,rfl,V⟩:=uV (vt bc (D.trans ad) (fun _ _ h=>h) (fun _ h=>h) (fun _ _ h=>h)) E;obtain⟨gy,oy,rfl,y0⟩:=uV (vt bh (D.trans ad) (fun _ _ h=>h) (fun _ h=>h) (fun _ _ h=>h)) K;have ao:=q8 E;have av:=q8 K;clear E K;by_cases he:x'=y'
            ·obtain rfl:=he
             go_wp2_with fail
             go_quiet (fail)
             all_goals
              go_wp2_with fail
              exact⟨⟨j+1,am,by go_num,ub ai ao av (by simp [sameI]),ad.drewN _⟩,by simp [intOf];omega⟩
            ·have s:=q8 (U (ab.trans (QL j ao av (by exact decide_eq_false he))))
             have Q:(x'==y')=false:=beq_eq_false_iff_ne.2 he;clear he;go_wp2_with fail
             go_quiet (fail)
             all_goals
              go_wp2_with fail
              go_ret;exact A s _ (d.trans (D.trans (ad.drewN _)))
           ·obtain rfl:j=x.values.length:=by omega
            have bj:=q8 (ab.trans (gi ap ai));go_wp2_with fail
            exact⟨⟨k+1,m,by go_num,ub v HX HY bj,d.trans (D.trans ad)⟩,by simp [intOf];omega⟩
         ·have s:=q8 (U (by rw [P.out,uM Y];simp))
          have f1:=q8P Y;have f0:(x.name.toList==y.name.toList)=true:=by rw [R];simp
          clear R Y;go_wp2_with fail
          go_ret;exact A s _ (d.trans D)
        ·have s:=q8 (U (by rw [P.out,decide_eq_false R];simp))
         have f0:=JI R;clear R;go_wp2_with fail
         go_ret;exact A s _ (d.trans D)
      ·obtain rfl:k=a.atts.length:=by omega
       have bo:Hid (eqv sameA a.atts b.atts=true):=gi H2 v;have ak:=d;clear v m hk d N c;obtain⟨w3,aq⟩: ∃x,wr=x:=⟨_,rfl⟩;rw [aq]at J G ak⊢;clear aq;go_wp2_with fail
       clear J G;go_loopw [13] (fun i wr=> ∃k:Nat,k≤a.reqs.length∧i=ve vp k∧(∀(j:Nat) x y,j<k→a.reqs[j]? =some x→b.reqs[j]? =some y→sameE x y=true)∧Near W wr) (fun i _=>a.reqs.length - (intOf i).toNat)
       case atStart=>exact⟨0,qv _,rfl,fun j x y hj=>by omega,ak⟩
       case round=>
        obtain⟨k,hk,rfl,z,q⟩:=hrel;have v:=q8 z;have d:=q8 q;have c:=HN.trans q;have N:=q8 c;obtain⟨-,-,-,J,-⟩:=HA wr q;obtain⟨-,-,-,G,-⟩:=HB wr q;clear z q;by_cases m:k<a.reqs.length
        ·as_aux_lemma=>
         have ae:a.reqs.length<549755813888:=HK.reqs;have C:k<b.reqs.length:=by rw [←H3.out];exact m
         have aa:(k:Int)<a.reqs.length:=by omega
         have O:(k:Int)<b.reqs.length:=by omega
         obtain⟨x,E⟩: ∃x,a.reqs[k]? =some x:=⟨_,qi m⟩;obtain⟨y,K⟩: ∃y,b.reqs[k]? =some y:=⟨_,qi C⟩;obtain⟨g,o,xo,xc,rfl,V,X,x2,H⟩:=gZ (vt HE c (fun _ _ h=>h) (fun _ h=>h) (fun _ _ h=>h.kept c (fun _ _ h=>h) (fun _ h=>h))) E;obtain⟨L,M,yo,yc,rfl,z0,z1,z2,I⟩:=gZ (vt bi c (fun _ _ h=>h) (fun _ h=>h) (fun _ _ h=>h.kept c (fun _ _ h=>h) (fun _ h=>h))) K;have HX:=q8 E;have HY:=q8 K;obtain⟨bb,hb⟩: ∃bb,bb=sameE x y:=⟨_,rfl⟩;have a5:=q8 hb;have an:=HK.exs x (qp E);have HC:=q8 (fun(l:World)(q:Near wr l)=>hb▸q8Q (H.kept q (fun _ _ h=>h) (fun _ h=>h)) (I.kept q (fun _ _ h=>h) (fun _ h=>h)) (by omega));have B: ∀l,Near wr l→l.cell? (vw w.heap.size 3)=some (vd (some ⟨g,o,none⟩) a.reqs.length d2)∧l.cell? (vw (w.heap.size+1) 3)=some (vd (some ⟨L,M,none⟩) b.reqs.length i2)∧l.cell? (vw g (o+k*3))=some (ve vq x.op)∧l.cell? (vw g (o+k*3+1))=some (vf x.name)∧l.cell? (vw g (o+k*3+2))=some (vd xo x.kids.length xc)∧l.cell? (vw L (M+k*3))=some (ve vq y.op)∧l.cell? (vw L (M+k*3+1))=some (vf y.name)∧l.cell? (vw L (M+k*3+2))=some (vd yo y.kids.length yc):=
          fun l h=>⟨h.cell J,h.cell G,h.cell V,h.cell X,h.cell x2,h.cell z0,h.cell z1,h.cell z2⟩
         clear E K H I hb c V X x2 z0 z1 z2 an;go_upto_region 28 with fail
         go_region_held3 (fun l=>l.cell? (vw w.heap.size 3)=some (vd (some ⟨g,o,none⟩) a.reqs.length d2)∧l.cell? (vw (w.heap.size+1) 3)=some (vd (some ⟨L,M,none⟩) b.reqs.length i2)∧l.cell? (vw g (o+k*3))=some (ve vq x.op)∧l.cell? (vw g (o+k*3+1))=some (vf x.name)∧l.cell? (vw g (o+k*3+2))=some (vd xo x.kids.length xc)∧l.cell? (vw L (M+k*3))=some (ve vq y.op)∧l.cell? (vw L (M+k*3+1))=some (vf y.name)∧l.cell? (vw L (M+k*3+2))=some (vd yo y.kids.length yc))
          ((refine B _ ?_;first|exact z5|exact(vr _).drew))
          ((go_at_call 108;refine(HC _ ((vr wr).drew)).mono ?_;rintro e w5 ⟨rfl,n5⟩;have z5:Near wr w5:=(vr wr).drew.trans n5))
         have HZ:=q8 z5;clear B z5 n5 HC
         cases bb with
         |false=>
          have s:=q8 (show r=false by rw [HQ.out,QL (f:=sameE) k HX HY a5.symm];simp);go_wp2_with fail
          go_ret;exact A s _ (d.trans HZ)
         |true=>
          go_wp2_with fail
          exact⟨⟨k+1,m,by go_num,ub v HX HY a5.symm,d.trans HZ⟩,by simp [intOf];omega⟩
        ·obtain rfl:k=a.reqs.length:=by omega
         have a9:Hid (eqv sameE a.reqs b.reqs=true):=gi H3 v;have ah:=d;clear v m hk d N c;obtain⟨w4,ay⟩: ∃x,wr=x:=⟨_,rfl⟩;rw [ay]at J G ah⊢;clear ay;go_wp2_with fail
         clear J G;go_loopw [14] (fun i wr=> ∃k:Nat,k≤a.lims.length∧i=ve vp k∧(∀(j:Nat) x y,j<k→a.lims[j]? =some x→b.lims[j]? =some y→sameLm x y=true)∧Near W wr) (fun i _=>a.lims.length - (intOf i).toNat)
         case atStart=>exact⟨0,qv _,rfl,fun j x y hj=>by omega,ah⟩
         case round=>
          obtain⟨k,hk,rfl,z,q⟩:=hrel;have v:=q8 z;have d:=q8 q;have c:=HN.trans q;have N:=q8 c;obtain⟨-,-,-,-,J⟩:=HA wr q;obtain⟨-,-,-,-,G⟩:=HB wr q;clear z q;by_cases m:k<a.lims.length
          ·as_aux_lemma=>
           have ae:a.lims.length<549755813888:=HK.lims;have C:k<b.lims.length:=by rw [←H4.out];exact m
           have aa:(k:Int)<a.lims.length:=by omega
           have O:(k:Int)<b.lims.length:=by omega
           obtain⟨x,E⟩: ∃x,a.lims[k]? =some x:=⟨_,qi m⟩;obtain⟨y,K⟩: ∃y,b.lims[k]? =some y:=⟨_,qi C⟩;obtain⟨g,o,rfl,V,X,x2⟩:=ZA (vt HL c (fun _ _ h=>h) (fun _ h=>h) (fun _ _ h=>h)) E;obtain⟨L,M,rfl,y0,y1,y2⟩:=ZA (vt bl c (fun _ _ h=>h) (fun _ h=>h) (fun _ _ h=>h)) K;have HX:=q8 E;have HY:=q8 K;clear E K c;have⟨n,p,u⟩:=x;have⟨n',p',u'⟩:=y;dsimp only at V X x2 y0 y1 y2;by_cases he:n=n'∧p=p'∧u=u'
           ·obtain⟨rfl,rfl,rfl⟩:=he
            go_wp2_with fail
            go_quiet (fail)
            all_goals
             go_wp2_with fail
             exact⟨⟨k+1,m,by go_num,ub v HX HY (by simp [sameLm]),d.drewN _⟩,by simp [intOf];omega⟩
           ·have s:=q8 (show r=false by rw [HQ.out,QL (f:=sameLm) k HX HY (by simp only [sameLm,Bool.and_eq_false_iff,decide_eq_false_iff_not];exact Decidable.byContradiction fun h=>he (by simp only [not_or,Decidable.not_not]at h;exact⟨h.1.1,h.1.2,h.2⟩))];simp)
            have hw:(n==n')=false∨n=n'∧(((p:Int)==(p':Int))=false∨p=p'∧(u==u')=false):=by
             by_cases Q:n=n'
             ·by_cases h2:p=p'
              ·have h: ¬u=u':=fun h3=>he ⟨Q,h2,h3⟩
               exact vv ⟨Q,vv ⟨h2,beq_eq_false_iff_ne.2 h⟩⟩
              ·exact vv ⟨Q,vu (beq_eq_false_iff_ne.2 (by omega))⟩
             ·exact vu (beq_eq_false_iff_ne.2 Q)
            clear he;rcases hw with Q|⟨rfl,Q|⟨rfl,Q⟩⟩
            all_goals
             go_wp2_with fail
             go_quiet (fail)
             all_goals
              go_wp2_with fail
              go_ret;exact A s _ (d.drewN _)
          ·obtain rfl:k=a.lims.length:=by omega
           have bf:Hid (eqv sameLm a.lims b.lims=true):=gi H4 v;have af:=d;clear v m hk d N c;obtain⟨w5,a3⟩: ∃x,wr=x:=⟨_,rfl⟩;rw [a3]at J G af⊢;clear a3;go_wp2_with fail
           clear J G;have s:=q8 (show r=true by rw [HQ.out,bn.out,ba.out,bo.out,a9.out,bf.out];rfl);go_ret;exact⟨by obtain rfl:=s.out;rfl,HN.trans af⟩
theorem q8S: ∀{x:Ex}{S:Nat→Prop}{w:World}{vs:List Value},RdEx S w vs x→x.size<1099511627776→
 Calls qj 82 #[vi vs.toArray] w fun e w'=> ∃ao cap,e=vm (vi #[ve vq x.op,vf x.name,vd ao x.kids.length cap])∧RdEx (fun g=>w.heap.size≤g) w' [ve vq x.op,vf x.name,vd ao x.kids.length cap] x∧Near w w':=by
 intro x;induction x using Ex.ind with
 |h op nm kids ih=>
 intro S w vs hx hsz;obtain⟨sv,rfl,hs⟩:=hx.inv;obtain⟨so,sc,rfl⟩:=hs.form;dsimp only [Ex.op,Ex.name,Ex.kids];have hsl:Ex.sizes kids<1099511627776:=by simp only [Ex.size]at hsz;omega
 have hkn:=q3N kids;obtain⟨i157,hif,hz0,hz1,hz2⟩:=info_parts VG;have HS:=q8 hs;have HIh:=q8 (fun(k:Ex)(hk:k∈kids)(w':World)(vs:List Value)(hn:Near w w')(h:RdEx S w vs k)=>ih k hk (h.kept hn (fun _ _ h=>h) (fun _ h=>h)) (by have:=Ex.sizes_mem hk;omega));have hW: ∀W,W=((w.alloc (vk #[ve vq op,vf nm,vd so kids.length sc] 84)).alloc (vk #[ve vq 0,vf ⟨#[]⟩,vd none 0 0] 84))→Near w W∧W.heap[w.heap.size]? =some (vk #[ve vq op,vf nm,vd so kids.length sc] 84 (0,0))∧W.heap[w.heap.size+1]? =some (vk #[ve vq 0,vf ⟨#[]⟩,vd none 0 0] 84 (0,0))∧W.heap.size=w.heap.size+2:=by
  rintro W rfl;exact⟨((vr w).alloc _).alloc _,by rw [qD (by simp),q8G rfl],q8G (by simp),by simp⟩
 clear hx hs hsz ih;go_enter Tryz.func82,Tryz.ntmps82;go_upto_region 1 with fail
 have h0:=hW _ rfl;generalize((w.alloc (vk #[ve vq op,vf nm,vd so kids.length sc] 84)).alloc (vk #[ve vq 0,vf ⟨#[]⟩,vd none 0 0] 84))=W at h0⊢;obtain⟨hN,hE,hR,hsz⟩:=h0;have c0:W.cell? w.heap.size=some (ve vq op):=cell1 hE rfl;have c1:W.cell? (vw w.heap.size 1)=some (vf nm):=cell1 hE rfl;have HN:=q8 hN;have HE:=q8 hE;have HRs:=q8 hR;have HSz:=q8 hsz;clear hW hN hE hR hsz;go_upto_region 2 with fail
 obtain⟨V,B,hVe,hbe,nV,hB⟩:=zZ W #[ve vq op,vf nm,vd none 0 0] 84;rw [hVe,hbe];have HB:=q8 hB;have NV:=q8 nV;have hBl:W.heap.size≤B:=Nat.le_of_eq hbe;have hVs:B<V.heap.size:=(qk.1 hB).1;have hwB:w.heap.size+2≤B:=by have:=HSz.out;omega
 clear hVe hbe nV hB c0 c1;go_wp2_with fail
 go_loopw [4] (fun ix wr=> ∃(k:Nat)(ps:List Pe)(v:Value),k≤kids.length∧ix=ve vp k∧ps.map Pe.ex=kids.take k∧q4Y V.heap.size wr v ps∧wr.heap[B]? =some (vk #[ve vq op,vf nm,v] 84 (0,0))∧Kept (fun g=>g=B) V wr) (fun ix _=>kids.length - (intOf ix).toNat)
 case atStart=>exact⟨0,[],vd none 0 0,qv _,rfl,rfl,⟨qW _ _ _ _,fun p hp=>by cases hp⟩,HB,q8B _ _⟩
 case round=>
  obtain⟨k,ps,v,hk,rfl,hps,hown,hbx,hkp⟩:=hrel;obtain⟨vo,vc,rfl⟩:=qR hown.1;have HP:=q8 hps;have HO:=q8 hown;have HBx:=q8 hbx;have HK:=q8 hkp;have hpl:ps.length=k:=by
   have:=congrArg List.length hps
   rw [List.length_map,List.length_take]at this;omega
  have hpl1:ps.length≤k:=by omega
  have hpl2:k≤ps.length:=by omega
  have HPl:=q8 hpl;clear hpl;have hE1:=qQ hkp (qE NV HE) (by omega);have c2:wr.cell? (vw w.heap.size 2)=some (vd so kids.length sc):=cell1 hE1 rfl;clear hps hown hbx hkp;by_cases hlt:k<kids.length
  ·have hlt':(k:Int)<kids.length:=by omega
   obtain⟨y,hy⟩: ∃y,kids[k]? =some y:=⟨_,qi hlt⟩;obtain⟨g,o,yo,yc,rfl,d0,d1,d2,hry⟩:=gZ HS hy;have hgw:g<w.heap.size:=World.block_lt_of_cell? _ _ d0;have HY:=q8 hy;have HNw:=q8 (show Near w wr from q8L (q8D (HN.trans NV).kept HK) (fun g hg e=>by have e2:g=B:=e;omega));have e0:wr.cell? (vw g (o+k*3))=some (ve vq y.op):=HNw.cell d0;have e1:wr.cell? (vw g (o+k*3+1))=some (vf y.name):=HNw.cell d1;have e2:wr.cell? (vw g (o+k*3+2))=some (vd yo y.kids.length yc):=HNw.cell d2;have b2:wr.cell? (vw B 2)=some (vd vo ps.length vc):=cell1 HBx rfl;have HC:=q8 (HIh y (qp hy) wr.drew _ (HNw.trans (vr wr).drew) hry);clear hy hry d0 d1 d2;have hmx:qj.follows .mixedOrders=true:=by kernel_rfl
   go_upto_region 5 with fail
   refine kn hmx (fun w'=>w'.cell? (vw B 2)=some (vd vo ps.length vc)∧w'.cell? (vw w.heap.size 2)=some (vd (some ⟨g,o,none⟩) kids.length sc)∧w'.cell? (vw g (o+k*3))=some (ve vq y.op)∧w'.cell? (vw g (o+k*3+1))=some (vf y.name)∧w'.cell? (vw g (o+k*3+2))=some (vd yo y.kids.length yc)) 11 ⟨by simpa using b2,by simpa using c2,by simpa using e0,by simpa using e1,by simpa using e2⟩ (fun hS=> ?_);refine tD0 (v:=vg (vw B 2)) (by kernel_rfl) (by kernel_rfl) (by kernel_rfl) (by kernel_rfl) (fun _ _ _ h=>h) (qB ⟨by rfl,fun w' hS'=>by dsimp only at hS';obtain⟨g0,g1,g2,g3,g4⟩:=hS';go_simp⟩) hS ?_;try simp only [q8F,qb,qh,qd]
   refine tD1 (v:=vd vo ps.length vc) (by kernel_rfl) (by kernel_rfl) (by kernel_rfl) (by kernel_rfl) (fun _ _ _ h=>h) (qB ⟨by rfl,fun w' hS'=>by dsimp only at hS';obtain⟨g0,g1,g2,g3,g4⟩:=hS';go_simp⟩) hS ?_;try simp only [q8F,qb,qh,qd]
   refine tD2 (v:=vg (vw w.heap.size 2)) (by kernel_rfl) (by kernel_rfl) (by kernel_rfl) (by kernel_rfl) (fun _ _ _ h=>h) (qB ⟨by rfl,fun w' hS'=>by dsimp only at hS';obtain⟨g0,g1,g2,g3,g4⟩:=hS';go_simp⟩) hS ?_;try simp only [q8F,qb,qh,qd]
   refine tD3 (v:=vd (some ⟨g,o,none⟩) kids.length sc) (by kernel_rfl) (by kernel_rfl) (by kernel_rfl) (by kernel_rfl) (fun _ _ _ h=>h) (qB ⟨by rfl,fun w' hS'=>by dsimp only at hS';obtain⟨g0,g1,g2,g3,g4⟩:=hS';go_simp⟩) hS ?_;try simp only [q8F,qb,qh,qd]
   refine tD4 (v:=ve vp (k:Nat)) (by kernel_rfl) (by kernel_rfl) (by kernel_rfl) (by kernel_rfl) (fun _ _ _ h=>h) (qB ⟨by rfl,fun w' hS'=>by dsimp only at hS';obtain⟨g0,g1,g2,g3,g4⟩:=hS';go_simp⟩) hS ?_;try simp only [q8F,qb,qh,qd]
   refine tD5 (v:=vg (vw g (o+k*3))) (by kernel_rfl) (by kernel_rfl) (by kernel_rfl) (by kernel_rfl) (fun _ _ _ h=>h) (qB ⟨by rfl,fun w' hS'=>by dsimp only at hS';obtain⟨g0,g1,g2,g3,g4⟩:=hS';go_simp⟩) hS ?_;try simp only [q8F,qb,qh,qd]
   refine tD6 (v:=vi #[ve vq y.op,vf y.name,vd yo y.kids.length yc]) (by kernel_rfl) (by kernel_rfl) (by kernel_rfl) (by kernel_rfl) (fun _ _ _ h=>h) (qB ⟨by rfl,fun w' hS'=>by dsimp only at hS';obtain⟨g0,g1,g2,g3,g4⟩:=hS';go_simp⟩) hS ?_;try simp only [q8F,qb,qh,qd]
   refine oZ7 (by kernel_rfl) (fun K hK=> ?_);go_simp;go_wp2_with (go_at_call 82;refine HC.mono ?_;rintro e z1 ⟨co,cc,rfl,rc,n1⟩)
   have RC:=q8 rc;have HN1:=q8 ((vr wr).drew.trans n1);refine hK.out _ _ (Or.inr ⟨n1.cell hS.1,n1.cell hS.2.1,n1.cell hS.2.2.1,n1.cell hS.2.2.2.1,n1.cell hS.2.2.2.2⟩) ?_;clear hK K;try simp only [q8F,qb,qh,qd]
   refine oZ8 (by kernel_rfl) (fun K hK=> ?_);go_simp;refine hK.out _ _ (Or.inr ⟨(n1.alloc _).cell hS.1,(n1.alloc _).cell hS.2.1,(n1.alloc _).cell hS.2.2.1,(n1.alloc _).cell hS.2.2.2.1,(n1.alloc _).cell hS.2.2.2.2⟩) ?_;clear hK K;try simp only [q8F,qb,qh,qd]
   have hown1:(z1.alloc (vk #[ve vq y.op,vf y.name,vd co y.kids.length cc] 84)).ownsRow V.heap.size 84 3 (vd vo ps.length vc) ps.length (ps.flatMap encP):=owns_kept HO.1 (HN1.alloc _) (fun _ _ h=>h);have hVw:V.heap.size≤wr.heap.size:=HK.size;have hwz:wr.heap.size≤z1.heap.size:=HN1.size;have hlt3:=HO.1.lt;refine oZ9 (by kernel_rfl) (fun K hK=> ?_);refine jU rfl (.tmp 18) (.tmp 25) 25 rfl V.heap.size 84 i157 (vi #[ve vq 0,vf ⟨#[]⟩,vd none 0 0]) 3 48 Tryz.underlying25 hif hz0 hz1 hz2 rfl (by decide) (vd vo ps.length vc) ps.length (ps.flatMap encP) rfl hown1 ⟨z1.heap.size,0,none⟩ 1 1 [ve vq y.op,vf y.name,vd co y.kids.length cc] rfl rfl (cells_at rfl _ _) (by simp [Value.oneCell']) (by unfold maxLen;omega) (by omega) (by simp;omega) ?_;intro ao3 cap3 w3 hown3 hg3 hl3 hkeep;have HOw:=q8 (q4Y.snoc (p:=⟨y.op,y.name,vd co y.kids.length cc,y⟩) (HO.kept HN1.kept (fun _ _ h=>h)) RC (fun g (hg:wr.drew.heap.size≤g)=>⟨Nat.le_trans hVw hg,fun e=>by have:=hlt3 g e;have h2:wr.heap.size≤g:=hg;omega⟩) hown3 hg3 hl3);have kx:Kept (fun g=>(qw vo ps.length vc).ownBlock=some g) z1 w3:=q8J ((vr z1).alloc _).kept hg3 (fun k hk _=>hk);have hne: ∀g,g<V.heap.size→ ¬(qw vo ps.length vc).ownBlock=some g:=fun g hg e=>by have:=(zY HO.1 e).1;omega
   have hB3:=qQ kx (qE HN1 HBx) (hne _ hVs);have f2:w3.frozen? (vw B 2)=false:=zQ hB3 2;have m2:w3.cell? (vw B 2)=some (vd vo ps.length vc):=cell1 hB3 rfl;have hV2:w.heap.size<V.heap.size:=by omega
   have hgV:g<V.heap.size:=by omega
   have hS3:w3.cell? (vw B 2)=some (vd vo ps.length vc)∧w3.cell? (vw w.heap.size 2)=some (vd (some ⟨g,o,none⟩) kids.length sc)∧w3.cell? (vw g (o+k*3))=some (ve vq y.op)∧w3.cell? (vw g (o+k*3+1))=some (vf y.name)∧w3.cell? (vw g (o+k*3+2))=some (vd yo y.kids.length yc):=⟨m2,kx.cell (HN1.cell c2) (hne _ hV2),kx.cell (HN1.cell e0) (hne _ hgV),kx.cell (HN1.cell e1) (hne _ hgV),kx.cell (HN1.cell e2) (hne _ hgV)⟩;have HKx:=q8 (show Kept (fun g=>g=B) V w3 from q8J (S:=fun g=>g=B) ((q8D HK HN1.kept).alloc _) hg3 (fun k e hlt=>by have:=(zY HO.1 e).1;omega));refine hK.out _ _ (Or.inr hS3) ?_;clear hK K hkeep hown3 hg3 hl3 hown1;try simp only [q8F,qb,qh,qd]
   refine q6S (v:=vg (vw B 2)) (by kernel_rfl) (by kernel_rfl) (by kernel_rfl) (by kernel_rfl) (fun _ _ _ h=>h) (qB ⟨by rfl,fun w' hS'=>by dsimp only at hS';obtain⟨g0,g1,g2,g3,g4⟩:=hS';go_simp⟩) hS3 ?_;try simp only [q8F,qb,qh,qd]
   refine q87 (by kernel_rfl) (fun K hK=> ?_);go_simp;refine hK.out _ _ (qB rfl) ?_;clear hK K;refine yR (by kernel_rfl) ?_;have hB4:=qz hB3 2 (vd ao3 (ps.length+1) cap3);simp only [qb,qh,qd]at hB4;have kV:Kept (fun g=>g=B) w3 (w3.setCell (vw B 2) (vd ao3 (ps.length+1) cap3)):=Kept.setCell (S:=fun g=>g=B) (q8B _ w3) (p:=vw B 2) (fun _=>rfl) _;have HZ:=q8 (show q4Y V.heap.size (w3.setCell (vw B 2) (vd ao3 (ps.length+1) cap3)) (vd ao3 (ps.length+1) cap3) (ps++[⟨y.op,y.name,vd co y.kids.length cc,y⟩])∧(w3.setCell (vw B 2) (vd ao3 (ps.length+1) cap3)).heap[B]? =some (vk #[ve vq op,vf nm,vd ao3 (ps.length+1) cap3] 84 (0,0))∧Kept (fun g=>g=B) V (w3.setCell (vw B 2) (vd ao3 (ps.length+1) cap3))from⟨HOw.kept kV (fun g hg e=>by have e2:g=B:=e;omega),hB4,q8D HKx kV⟩);generalize w3.setCell (vw B 2) (vd ao3 (ps.length+1) cap3)=w4 at HZ⊢;have HPs:=q8 (show(ps++[(⟨y.op,y.name,vd co y.kids.length cc,y⟩:Pe)]).map Pe.ex=kids.take (k+1) by rw [List.map_append,HP.out,List.take_add_one,HY.out];rfl);clear hB3 hB4 f2 m2 kV kx hS3 hne;go_wp2_with fail
   exact⟨⟨k+1,ps++[(⟨y.op,y.name,vd co y.kids.length cc,y⟩:Pe)],_,hlt,by go_num,HPs,HZ⟩,by simp [intOf];omega⟩
  ·obtain rfl:k=kids.length:=by omega
   have b0:wr.cell? B=some (ve vq op):=cell1 HBx rfl;have b1:wr.cell? (vw B 1)=some (vf nm):=cell1 HBx rfl;have b2:wr.cell? (vw B 2)=some (vd vo ps.length vc):=cell1 HBx rfl;have HR2:=q8 (qQ (q8D NV.kept HK) HRs (show¬w.heap.size+1=B by omega));obtain⟨r0,r1,r2,f0,f1,f2⟩:=ZW HR2;clear hE1;go_wp2_with fail
   obtain⟨t0,t1,t2,kV⟩:=Yt HR2 (ve vq op) (vf nm) (vd vo ps.length vc);have hrd:RdL (fun g=>V.heap.size≤g) 3 (RdEx (fun g=>V.heap.size≤g)) wr (vd vo ps.length vc) kids:=by
    have h:=q4Y.rd HO;rw [HP.out,List.take_length]at h;exact h
   rw [HPl.out]at t0 t1 t2 kV hrd⊢;exact bodyPost_ret (v:=vi #[ve vq op,vf nm,vd vo kids.length vc]) (by simp [results,Tryz.results82,go_sem,t0,t1,t2]) rfl ⟨vo,vc,rfl,(RdEx.of hrd).kept kV (fun g hg e=>by have e2:g=w.heap.size+1:=e;omega) (fun g hg=>by omega),
    q8L (q8D (q8L (q8D (HN.trans NV).kept HK) (fun g _ e=>qB e)) (q8L kV (fun g _ e=>Or.inr e)):Kept (fun g=>g=B∨g=w.heap.size+1) w _) (fun g hg e=>by rcases e with e|e<;>omega)⟩
theorem q93:(qj.info? 76).map (fun i=>(i.zero,i.size,i.bytes))=some (some (vi #[vf ⟨#[]⟩,ve vp 0,ve vq 0]),3,32):=by kernel_rfl
theorem q91:(qj.info? 89).map (fun i=>(i.zero,i.size,i.bytes))=some (some (vi #[ve vp 0,ve vq 0,ve vp 0]),3,24):=by kernel_rfl
theorem q92:(qj.info? 78).map (fun i=>(i.zero,i.size,i.bytes))=some (some (vi #[ve vp 0,ve vp 0,ve vp 0,vd none 0 0]),4,48):=by kernel_rfl
theorem q94:(qj.info? 81).map (fun i=>(i.zero,i.size,i.bytes))=some (some (vi #[vf ⟨#[]⟩,vd none 0 0]),2,40):=by kernel_rfl
theorem q95:(qj.info? 3).map (fun i=>(i.zero,i.size,i.bytes))=some (some (ve vp 0),1,8):=by kernel_rfl
theorem q96:(qj.info? 2).map (fun i=>(i.zero,i.size,i.bytes))=some (some (ve vp 0),1,8):=by kernel_rfl
theorem q8C(h:w.grownBy w' none):Near w w':=q8J (q8B _ w) h (fun k a _=>by cases a)
theorem q8I{base T c s B:Nat}{cs:Array Value}{i:Nat×Nat}(h:w.ownsRow base T s v n d)(j:w.heap[B]? =some (vk cs c i))(b:c≠T)(m:Kept (fun g=>g=B) w w'):w'.ownsRow base T s v n d:=
 owns_kept h m fun k e a=>by
  obtain rfl:=a;obtain⟨-,o,l,f⟩:=zY h e;rw [j]at f
  cases f;exact b rfl
theorem intV_one: ∀u∈l.map intV,u.oneCell'=true:=fun u a=>by
 obtain⟨z,-,rfl⟩:=List.mem_map.1 a;rfl
theorem q8W{b l h:Nat}{r m q u n:Value}{j k:List Value}(o:Near W c)(p:W.heap.size<=b)(a:c.heap[b]? =some (vk #[r,m,q,u,n] 28 (0,0)))(s:c.ownsRow W.heap.size 76 3 x l j)(t:c.ownsRow W.heap.size 89 3 y h k):
 ∀V,V=((((c.setCell b x).setCell (vw b 1) (vd none 0 0)).setCell (vw b 2) (vd none 0 0)).setCell (vw b 3) (vd none 0 0)).setCell (vw b 4) y->W.heap.size<=b/\V.heap[b]? =some (vk #[x,vd none 0 0,vd none 0 0,vd none 0 0,y] 28 (0,0))/\V.ownsRow W.heap.size 76 3 x l j/\V.ownsRow W.heap.size 89 3 y h k/\Near W V:=by
 intro V i;have d:=(q83 a x _ _ _ y V i).2;have f:=qz (qz (qz (qz (qz a 0 x) 1 (vd none 0 0)) 2 (vd none 0 0)) 3 (vd none 0 0)) 4 y;simp only [qb,qh,qd]at f;subst i;exact⟨p,f,q8I s a (by decide) d,q8I t a (by decide) d,q8L (q8D o.kept d) (fun g v e=>by have w:g=b:=e;omega)⟩
theorem cp_new{f b:Nat}{a:List Value}(e:Near W c)(g:c.ownsRow W.heap.size 76 3 x f a)(i:c.ownsRow W.heap.size 89 3 y b d):
 W.heap.size<=c.heap.size/\(c.alloc (vk #[x,vd none 0 0,vd none 0 0,vd none 0 0,y] 28)).heap[c.heap.size]? =some (vk #[x,vd none 0 0,vd none 0 0,vd none 0 0,y] 28 (0,0))/\(c.alloc (vk #[x,vd none 0 0,vd none 0 0,vd none 0 0,y] 28)).ownsRow W.heap.size 76 3 x f a/\(c.alloc (vk #[x,vd none 0 0,vd none 0 0,vd none 0 0,y] 28)).ownsRow W.heap.size 89 3 y b d/\Near W (c.alloc (vk #[x,vd none 0 0,vd none 0 0,vd none 0 0,y] 28)):=
 ⟨e.size,q8G rfl,owns_kept g ((vr c).alloc _) (fun _ _ h=>h),owns_kept i ((vr c).alloc _) (fun _ _ h=>h),e.alloc _⟩
theorem q8R{S:Nat→Prop}{m:Mod}(h:RdMod S w v m)(hw:WfM S w v m)(hS: ∀g,S g→g<w.heap.size)(hk:Zd m)(cl: ∀x∈m.reqs,x.size<1099511627776)(cg: ∀x∈m.atts,x.values.length<1099511627776):
 Calls qj 28 #[v] w fun e A=> ∃v',e=vm v'∧RdMod (fun g=>w.heap.size≤g) A v' m∧Near w A:=by
 obtain⟨a,b,c,d,e,rfl,hF,hG,-,hE,hL,wa,-⟩:=h;obtain⟨a1,a2,rfl⟩:=hF.form;obtain⟨b1,b2,rfl⟩:=hG.form;obtain⟨d1,d2,rfl⟩:=hE.form;obtain⟨e1,e2,rfl⟩:=hL.form;have⟨_,_,_,_,_,hq,hA,wl⟩:=hw
 cases hq;obtain⟨c1,c2,rfl⟩:=hA.form;have⟨iF,ds,en,dz,ej⟩:=info_parts q93;have⟨iL,du,em,ea,eo⟩:=info_parts q91;have⟨iG,d6,dm,c5,dq⟩:=info_parts q92;have⟨iA,dx,dg,eg,eb⟩:=info_parts q94;have⟨i3,el,cv,dn,dv⟩:=info_parts q95;have⟨i2,eh,ef,d8,ec⟩:=info_parts q96;have⟨dl,db,ei,ee,cz⟩:=info_parts VG;have ey:=q8 hS;have cr:=q8 cl;have de:=q8 cg;have dh:=q8 (fun(x:Grp)(hx:x∈m.grps)=>(show x.members.length<549755813888 by have:=jZ hx;have:=hk.mems;omega));have lF:m.feats.length<549755813888:=hk.feats;have lG:m.grps.length<549755813888:=hk.grps;have lA:m.atts.length<549755813888:=hk.atts;have lE:m.reqs.length<549755813888:=hk.reqs;have lL:m.lims.length<549755813888:=hk.lims;have HF:=q8 hF;have HG:=q8 hG;have HA:=q8 hA;have HE:=q8 hE;have HL:=q8 hL;have d9:=q8 wa;have dp:=q8 wl;have bg: ∀u∈m.feats.flatMap q41,u.oneCell'=true:=fun u hu=>by
  obtain⟨x,-,hx⟩:=List.mem_flatMap.1 hu;simp only [q41,List.mem_cons,List.not_mem_nil,or_false]at hx;rcases hx with rfl|rfl|rfl<;>rfl
 have bh: ∀u∈m.lims.flatMap encLm,u.oneCell'=true:=fun u hu=>by
  obtain⟨x,-,hx⟩:=List.mem_flatMap.1 hu;simp only [encLm,List.mem_cons,List.not_mem_nil,or_false]at hx;rcases hx with rfl|rfl|rfl<;>rfl
 have dt:=q8 bg;have dk:=q8 bh;clear hF hG hA hE hL wa wl hS hk cl cg bg bh;go_enter Tryz.func28,Tryz.ntmps28;go_upto_region 1 with fail
 have⟨W,br,nW,hM,hR⟩:=vH w #[vd a1 m.feats.length a2,vd b1 m.grps.length b2,vd c1 m.atts.length c2,vd d1 m.reqs.length d2,vd e1 m.lims.length e2] #[vd none 0 0,vd none 0 0,vd none 0 0,vd none 0 0,vd none 0 0] 28 28;have bp:W.heap.size=w.heap.size+2:=by rw [←br];simp
 rw [br];have HM:=q8 (vW hM);have HR:=q8 hR;have NW:=q8 nW;have dd:=q8 bp;obtain⟨q0,-,-,-,q4⟩:=HM W (vr W);have cb:=q8 (fun(A:World)(hn:Near W A)=>(RdL.src (enc:=q41) (vt (R':=RdFeat) HF (NW.trans hn) (fun _ _ h=>h) (fun _ h=>h) (fun _ _ h=>h)) d9 (fun _ _ h=>h) (fun _=>rfl) (by decide):SrcOf A 3 m.feats.length (vd a1 m.feats.length a2) (m.feats.flatMap q41)));have ci:=q8 (fun(A:World)(hn:Near W A)=>(RdL.src (enc:=encLm) (vt (R':=RdLim) HL (NW.trans hn) (fun _ _ h=>h) (fun _ h=>h) (fun _ _ h=>h)) dp (fun _ _ h=>h) (fun _=>rfl) (by decide):SrcOf A 3 m.lims.length (vd e1 m.lims.length e2) (m.lims.flatMap encLm)));have ax:=q8 (fun(A:World)(hn:Near W A)=>(⟨(HM A hn).1,(HM A hn).2.2.2.2⟩:A.cell? w.heap.size=some (vd a1 m.feats.length a2)∧A.cell? (vw w.heap.size 4)=some (vd e1 m.lims.length e2)));clear br hM hR nW bp;go_cut [3]from 9 to 16 (fun s3 wx=> ∃(B:Nat)(x y:Value),s3=vg B∧W.heap.size≤B∧wx.heap[B]? =some (vk #[x,vd none 0 0,vd none 0 0,vd none 0 0,y] 28 (0,0))∧wx.ownsRow W.heap.size 76 3 x m.feats.length (m.feats.flatMap q41)∧wx.ownsRow W.heap.size 89 3 y m.lims.length (m.lims.flatMap encLm)∧Near W wx)
 case first=>
  have m0:=fun o:Obj=>ax (W.alloc o) ((vr _).alloc _);go_region_law (first
   |(refine q8K rfl (.const (vd none 0 0)) (.tmp 10) 22 rfl W.heap.size 76 iF (vi #[vf ⟨#[]⟩,ve vp 0,ve vq 0]) 3 32 Tryz.underlying22 ds en dz ej rfl (by decide) (vd none 0 0) 0 [] rfl (qW _ _ _ _) _ m.feats.length (m.feats.flatMap q41) rfl (cb _ (by first|exact nL.alloc _|exact nL|exact(vr _).drew.alloc _|exact(vr _).drew)) dt (by unfold maxLen;omega) (by omega) (by first|exact(nL.alloc _).size|exact nL.size|exact((vr _).drew.alloc _).size|exact(vr _).drew.size) ?_;intro aF cF wF oF gF;have nF:Near W wF:=Near.trans (by first|exact nL.alloc _|exact nL|exact(vr _).drew.alloc _|exact(vr _).drew) (q8C gF);have⟨e6,eu⟩:=ax _ nF;have et:=fun o:Obj=>ax (wF.alloc o) (nF.alloc _);first|(have aq:=qE (q8C gF) (q8G (b:=W.heap.size) rfl);have⟨⟨t0,t1,t2,t3,t4⟩,u0,u1,u2,u3,u4⟩:=q7X aq)|(have aq:=qE (q8C gF) (q8G rfl);have⟨⟨t0,t1,t2,t3,t4⟩,u0,u1,u2,u3,u4⟩:=q7X aq)|(have aq:=qE (q8C gF) ao;have⟨⟨t0,t1,t2,t3,t4⟩,u0,u1,u2,u3,u4⟩:=q7X aq)|skip)
   |(refine q8K rfl (.const (vd none 0 0)) (.tmp 13) 26 rfl W.heap.size 89 iL (vi #[ve vp 0,ve vq 0,ve vp 0]) 3 24 Tryz.underlying26 du em ea eo rfl (by decide) (vd none 0 0) 0 [] rfl (qW _ _ _ _) _ m.lims.length (m.lims.flatMap encLm) rfl (ci _ (by first|exact nF.alloc _|exact nF|exact(vr _).drew.alloc _|exact(vr _).drew)) dk (by unfold maxLen;omega) (by omega) (by first|exact(nF.alloc _).size|exact nF.size|exact((vr _).drew.alloc _).size|exact(vr _).drew.size) ?_;intro aL cL wL oL gL;have nL:Near W wL:=Near.trans (by first|exact nF.alloc _|exact nF|exact(vr _).drew.alloc _|exact(vr _).drew) (q8C gL);have⟨e4,ex⟩:=ax _ nL;have e5:=fun o:Obj=>ax (wL.alloc o) (nL.alloc _);first|(have ao:=qE (q8C gL) (q8G (b:=W.heap.size) rfl);have⟨⟨t0,t1,t2,t3,t4⟩,u0,u1,u2,u3,u4⟩:=q7X ao)|(have ao:=qE (q8C gL) (q8G rfl);have⟨⟨t0,t1,t2,t3,t4⟩,u0,u1,u2,u3,u4⟩:=q7X ao)|(have ao:=qE (q8C gL) aq;have⟨⟨t0,t1,t2,t3,t4⟩,u0,u1,u2,u3,u4⟩:=q7X ao)|skip))
  all_goals
   go_wp2_with fail
   go_meet
   have rF: ∀c,Near wF c→c.ownsRow W.heap.size 76 3 (vd aF m.feats.length cF) m.feats.length (m.feats.flatMap q41):=fun c h=>owns_kept (by simpa using oF) h (fun _ _ h=>h);have rL: ∀c,Near wL c→c.ownsRow W.heap.size 89 3 (vd aL m.lims.length cL) m.lims.length (m.lims.flatMap encLm):=fun c h=>owns_kept (by simpa using oL) h (fun _ _ h=>h)
   first
    |(have nX:Near wF wL:=(by first|exact q8C gL|exact((vr wF).alloc _).trans (q8C gL))
      first|exact⟨_,_,_,rfl,q8W nL (by first|exact Nat.le_refl _|exact nF.size) ao (rF _ nX) (rL _ (vr _)) _ rfl⟩|exact⟨_,_,_,rfl,cp_new nL (rF _ nX) (rL _ (vr _))⟩)
    |(have nX:Near wL wF:=(by first|exact q8C gF|exact((vr wL).alloc _).trans (q8C gF))
      first|exact⟨_,_,_,rfl,q8W nF (by first|exact Nat.le_refl _|exact nL.size) aq (rF _ (vr _)) (rL _ nX) _ rfl⟩|exact⟨_,_,_,rfl,cp_new nF (rF _ (vr _)) (rL _ nX)⟩)
 case rest=>
 obtain⟨B,x,y,rfl,hB,Q,ox,oy,hn⟩:=hcut;obtain⟨x0,x1,rfl⟩:=qR ox;obtain⟨y0,y1,rfl⟩:=qR oy;have ev:B<wc.heap.size:=(qk.1 Q).1;have HB:=q8 hB;have bm:=q8 Q;have cu:=q8 ox;have di:=q8 oy;have ed:=q8 hn;obtain⟨-,q1,-,-,-⟩:=HM wc hn;have ep:W.heap.size≤wc.heap.size:=hn.size;clear q0 q4 hB Q ox oy hn cb ci ax;go_wp2_with fail
 go_loopw [4] (fun ix wr=> ∃(k:Nat)(r:List Pg)(v:Value),k≤m.grps.length∧ix=ve vp k∧r.map Pg.g=m.grps.take k∧q9a wc.heap.size wr v r∧wr.heap[B]? =some (vk #[vd x0 m.feats.length x1,v,vd none 0 0,vd none 0 0,vd y0 m.lims.length y1] 28 (0,0))∧Kept (fun g=>g=B) wc wr) (fun ix _=>m.grps.length - (intOf ix).toNat)
 case atStart=>exact⟨0,[],vd none 0 0,qv _,rfl,rfl,⟨qW _ _ _ _,fun p hp=>by cases hp⟩,bm,q8B _ _⟩
 case round=>
  obtain⟨k,r,v,hk,rfl,an,n,Q,M⟩:=hrel;obtain⟨I,J,rfl⟩:=qR n.1;have HP:=q8 an;have HO:=q8 n;have aa:=q8 Q;have HK:=q8 M;have ba:r.length=k:=by
   have:=congrArg List.length an
   rw [List.length_map,List.length_take]at this;omega
  have a9:r.length≤k:=by omega
  have a0:k≤r.length:=by omega
  have X:=q8 ba;have ah:wc.heap.size≤wr.heap.size:=M.size;have E:Near W wr:=q8L (q8D ed.kept M) (fun g t e=>by have:=HB.out;omega);have j:=NW.trans E;have ay:=q8 E;obtain⟨-,r1,-,-,-⟩:=HM wr E;clear ba an n Q M q1;by_cases H:k<m.grps.length
  ·have bf:(k:Int)<m.grps.length:=by omega
   obtain⟨x,hx⟩: ∃x,m.grps[k]? =some x:=⟨_,qi H⟩;have⟨c9,cd,e,hc⟩:=vt (R':=RdGrp S) HG j (fun _ _ h=>h) (fun _ h=>h) (fun _ _ h=>h.kept j (fun _ _ h=>h) (fun _ h=>h));have⟨g,o,vs,bk,bw,i,sv,hv,hs,O⟩:=hc k x hx;obtain⟨so,sc,rfl⟩:=hs.form;subst hv bk
   cases e;have HX:=q8 hx;have bv:=q8 (fun(A:World)(hn:Near wr A)=>q3b (hs.kept hn (fun _ _ h=>h) (fun _ h=>h) (fun _ _ h=>h)) (O _ _ _ rfl).2);have d5:=dh x (qp hx);have c0:wr.cell? (vw g (o+k*4))=some (ve vp x.parent):=i 0 _ rfl;have bl:wr.cell? (vw g (o+k*4+1))=some (ve vp x.low):=i 1 _ rfl;have cw:wr.cell? (vw g (o+k*4+2))=some (ve vp x.high):=i 2 _ rfl;have c3:wr.cell? (vw g (o+k*4+3))=some (vd so x.members.length sc):=i 3 _ rfl;clear hx hs O hc i j E bw;go_upto_region 6 with fail
   clear c0 bl cw c3 r1;have⟨V,bG,bc,a6,nV,hb⟩:=zZ wr #[ve vp x.parent,ve vp x.low,ve vp x.high,vd so x.members.length sc] 78;rw [bc,a6];have am:=q8 nV;have bo:=q8 hb;have dr:bG<V.heap.size:=(qk.1 hb).1;have cy:wr.heap.size≤bG:=by omega
   have d3:V.cell? (vw bG 3)=some (vd so x.members.length sc):=cell1 hb rfl;clear bc a6 nV hb;go_upto_region 7 with(at_builtin;go_must (refine wpList_append_more rfl (.const (vd none 0 0)) (.tmp 29) 47 rfl V.heap.size 3 i3 (ve vp 0) 1 8 Tryz.underlying47 el cv dn dv rfl (by decide) (vd none 0 0) 0 [] rfl (qW _ _ _ _) _ x.members.length (x.members.map intV) rfl (bv _ am) intV_one (by unfold maxLen;omega) (by omega) (Nat.le_refl _) ?_);go_must (intro mo mc G s ad;have n3:=q8C ad;have b5:=q8 n3;have a8:=q8 s;have h3:=qE n3 bo;have H3:=q8 h3;have e3:=cell1 (o:=3) h3 rfl;have f3:=zQ h3 3;rw [Nat.zero_add]at a8⊢;clear s ad n3 h3))
   have h4:=qz H3 3 (vd mo x.members.length mc);simp only [qb,qh,qd]at h4;have k4:Kept (fun g=>g=bG) G (G.setCell (vw bG 3) (vd mo x.members.length mc)):=Kept.setCell (S:=fun g=>g=bG) (q8B _ G) (p:=vw bG 3) (fun _=>rfl) _;have o4:=q8I a8 H3 (by decide) k4;have n4:Near wr (G.setCell (vw bG 3) (vd mo x.members.length mc)):=q8L (q8D (am.trans b5).kept k4) (fun g t e=>by have e2:g=bG:=e;omega);have ag:=q8 h4;have ak:=q8 o4;have U:=q8 n4;clear h4 k4 o4 n4 e3 f3 d3;generalize G.setCell (vw bG 3) (vd mo x.members.length mc)=w4 at ag ak U⊢;have a3:=q8 (qE U aa);have au:=q8 (q8Y.kept HO U.kept (fun _ _ h=>h));have l4:=U.size;have lV:=am.size;have a5:=HO.1.lt;have P:(qw I r.length J).ownBlock≠some B:=fun e=>by have:=(zY HO.1 e).1;omega
   have bj:=q8 P;have bn:=q8 a5;have i1:w4.cell? (vw B 1)=some (vd I r.length J):=cell1 a3 rfl;have df:(w4.alloc (vk #[ve vp x.parent,ve vp x.low,ve vp x.high,vd mo x.members.length mc] 78)).cell? (vw B 1)=some (vd I r.length J):=((vr w4).alloc _).cell i1;have j0:=cell1 (o:=0) ag rfl;have j1:=cell1 (o:=1) ag rfl;have j2:=cell1 (o:=2) ag rfl;have j3:=cell1 (o:=3) ag rfl;clear P a5;go_wp2_with (at_builtin;go_must (refine wpList_append_own_at _ rfl (.tmp 33) (.tmp 35) 23 rfl wc.heap.size 78 iG (vi #[ve vp 0,ve vp 0,ve vp 0,vd none 0 0]) 4 48 Tryz.underlying23 d6 dm c5 dq rfl (by decide) _ r.length (r.flatMap q6U) rfl (owns_kept au.1 ((vr w4).alloc _) (fun _ _ h=>h)) ⟨w4.heap.size,0,none⟩ 1 1 [ve vp x.parent,ve vp x.low,ve vp x.high,vd mo x.members.length mc] rfl rfl (cells_at rfl _ _) (by simp [Value.oneCell']) (by unfold maxLen;omega) (by omega) (by simp;omega) ?_);go_must (intro v5 w5 D ar _ az;have h5:=qQ (q8J (S:=fun k'=>(qw I r.length J).ownBlock=some k') ((vr w4).alloc _).kept ar (fun k hk _=>hk)) a3 bj;have H5:=q8 h5;have t1:=cell1 (o:=1) h5 rfl;have u1:=zQ h5 1;have b7:=q8 D;have a7:=q8 ar;have bu:=q8 az;obtain⟨av,Y,rfl⟩:=qR D;clear h5 D ar az))
   have h6:=qz H5 1 (vd av (r.length+1) Y);simp only [qb,qh,qd]at h6;have bz:RdL (fun g=>V.heap.size≤g) 1 RdI w4 (vd mo x.members.length mc) x.members:=RdL.own (enc:=fun z=>[intV z]) (fun _=>rfl) (by rw [gW];exact(by simpa using ak.out)) (fun _ _=>rfl);have sn:=q8Y.snoc (p:=(⟨x,vd mo x.members.length mc⟩:Pg)) au bz (Zu ak) (fun g (t:V.heap.size≤g)=>⟨by omega,fun e=>by have:=bn g e;omega⟩) b7 a7 bu;have k6:Kept (fun g=>g=B) w5 (w5.setCell (vw B 1) (vd av (r.length+1) Y)):=Kept.setCell (S:=fun g=>g=B) (q8B _ w5) (p:=vw B 1) (fun _=>rfl) _;have kB:Kept (fun g=>g=B) wc w5:=q8J (S:=fun g=>g=B) ((q8D HK U.kept).alloc _) a7 (fun k' e H=>by have:=(zY HO.1 e).1;omega);exact⟨⟨k+1,r++[⟨x,vd mo x.members.length mc⟩],vd av (r.length+1) Y,H,by go_num,by rw [List.map_append,HP.out,List.take_add_one,HX.out];rfl,q8Y.kept sn k6 (fun g t e=>by have e2:g=B:=e;omega),h6,q8D kB k6⟩,by simp [intOf];omega⟩
  ·obtain rfl:k=m.grps.length:=by omega
   have Z:RdL (fun g=>W.heap.size≤g∧g≠B) 4 (RdGrp (fun g=>W.heap.size≤g∧g≠B)) wr (vd I r.length J) m.grps:=by
    have h:=q9a.rd HO;rw [HP.out,List.take_length]at h;exact vt h (q8B (fun _=>False) wr) (fun _ _ h=>h) (fun g t=>⟨by omega,by omega⟩) (fun _ _ h=>h.kept (q8B (fun _=>False) wr) (fun _ _ h=>h) (fun g t=>⟨by omega,by omega⟩))
   have O:=Zu HO.1;rw [X.out]at Z O;have L:=aa.out;rw [X.out]at L;have ab:=q8I cu bm (by decide) HK;have ae:=q8I di bm (by decide) HK;have aj:B<wr.heap.size:=by omega
   obtain⟨b3,rfl⟩: ∃u,u=I:=⟨_,rfl⟩;obtain⟨b4,rfl⟩: ∃u,u=J:=⟨_,rfl⟩;have al:=ay;go_wp2_with fail
   clear HO HP aa HK r1 ay X a9 a0 H hk j;obtain⟨w1,j⟩: ∃u,wr=u:=⟨_,rfl⟩;rw [j]at Z L ab ae aj al ah⊢;clear j;have eq:=aj;have ch:=q8 Z;have dc:=q8 O;have aw:=q8 L;have b9:=q8 ab;have cj:=q8 ae;have b8:=al;have cs:W.heap.size≤w1.heap.size:=by omega
   clear Z O L ab ae aj al ah;go_loopw [6] (fun ix wr=> ∃(k:Nat)(r:List Pa)(v:Value),k≤m.atts.length∧ix=ve vp k∧r.map Pa.a=m.atts.take k∧q9b w1.heap.size wr v r∧wr.heap[B]? =some (vk #[vd x0 m.feats.length x1,vd b3 m.grps.length b4,v,vd none 0 0,vd y0 m.lims.length y1] 28 (0,0))∧Kept (fun g=>g=B) w1 wr) (fun ix _=>m.atts.length - (intOf ix).toNat)
   case atStart=>exact⟨0,[],vd none 0 0,qv _,rfl,rfl,⟨qW _ _ _ _,fun p hp=>by cases hp⟩,aw,q8B _ _⟩
   case round=>
    obtain⟨k,r,v,hk,rfl,an,n,Q,M⟩:=hrel;obtain⟨I,J,rfl⟩:=qR n.1;have HP:=q8 an;have HO:=q8 n;have aa:=q8 Q;have HK:=q8 M;have ba:r.length=k:=by
     have:=congrArg List.length an
     rw [List.length_map,List.length_take]at this;omega
    have a9:r.length≤k:=by omega
    have a0:k≤r.length:=by omega
    have X:=q8 ba;have ah:w1.heap.size≤wr.heap.size:=M.size;have E:Near W wr:=q8L (q8D b8.kept M) (fun g t e=>by have:=HB.out;omega);have j:=NW.trans E;have ay:=q8 E;obtain⟨-,-,r1,-,-⟩:=HM wr E;clear ba an n Q M;by_cases H:k<m.atts.length
    ·have bf:(k:Int)<m.atts.length:=by omega
     obtain⟨x,hx⟩: ∃x,m.atts[k]? =some x:=⟨_,qi H⟩;have⟨c9,cd,e,hc⟩:=vt (R':=RdAttW S) HA j (fun _ _ h=>h) (fun _ h=>h) (fun _ _ h=>let⟨v,e,h,q⟩:=h;⟨v,e,h.kept j (fun _ _ h=>h) (fun _ h=>h) (fun _ _ h=>h),q⟩);have⟨g,o,vs,bk,bw,i,sv,hv,hs,O⟩:=hc k x hx;obtain⟨so,sc,rfl⟩:=hs.form;subst hv bk
     cases e;have HX:=q8 hx;have bv:=q8 (fun(A:World)(hn:Near wr A)=>q3b (hs.kept hn (fun _ _ h=>h) (fun _ h=>h) (fun _ _ h=>h)) (O _ _ _ rfl).2);have d5:=de x (qp hx);have c0:wr.cell? (vw g (o+k*2))=some (vf x.name):=i 0 _ rfl;have bl:wr.cell? (vw g (o+k*2+1))=some (vd so x.values.length sc):=i 1 _ rfl;clear hx hs O hc i j E bw;go_upto_region 12 with fail
     clear c0 bl r1;have⟨V,bG,bc,a6,nV,hb⟩:=zZ wr #[vf x.name,vd so x.values.length sc] 81;rw [bc,a6];have am:=q8 nV;have bo:=q8 hb;have dr:bG<V.heap.size:=(qk.1 hb).1;have cy:wr.heap.size≤bG:=by omega
     have d1:V.cell? (vw bG 1)=some (vd so x.values.length sc):=cell1 hb rfl;clear bc a6 nV hb;go_upto_region 13 with(at_builtin;go_must (refine wpList_append_more rfl (.const (vd none 0 0)) (.tmp 51) 79 rfl V.heap.size 2 i2 (ve vp 0) 1 8 Tryz.underlying79 eh ef d8 ec rfl (by decide) (vd none 0 0) 0 [] rfl (qW _ _ _ _) _ x.values.length (x.values.map intV) rfl (bv _ am) intV_one (by unfold maxLen;omega) (by omega) (Nat.le_refl _) ?_);go_must (intro mo mc G s ad;have n3:=q8C ad;have b5:=q8 n3;have a8:=q8 s;have h3:=qE n3 bo;have H3:=q8 h3;have e1:=cell1 (o:=1) h3 rfl;have f1:=zQ h3 1;rw [Nat.zero_add]at a8⊢;clear s ad n3 h3))
     have h4:=qz H3 1 (vd mo x.values.length mc);simp only [qb,qh,qd]at h4;have k4:Kept (fun g=>g=bG) G (G.setCell (vw bG 1) (vd mo x.values.length mc)):=Kept.setCell (S:=fun g=>g=bG) (q8B _ G) (p:=vw bG 1) (fun _=>rfl) _;have o4:=q8I a8 H3 (by decide) k4;have n4:Near wr (G.setCell (vw bG 1) (vd mo x.values.length mc)):=q8L (q8D (am.trans b5).kept k4) (fun g t e=>by have e2:g=bG:=e;omega);have ag:=q8 h4;have ak:=q8 o4;have U:=q8 n4;clear h4 k4 o4 n4 e1 f1 d1;generalize G.setCell (vw bG 1) (vd mo x.values.length mc)=w4 at ag ak U⊢;have a3:=q8 (qE U aa);have au:=q8 (q8Y.kept HO U.kept (fun _ _ h=>h));have l4:=U.size;have lV:=am.size;have a5:=HO.1.lt;have P:(qw I r.length J).ownBlock≠some B:=fun e=>by have:=(zY HO.1 e).1;omega
     have bj:=q8 P;have bn:=q8 a5;have i1:w4.cell? (vw B 2)=some (vd I r.length J):=cell1 a3 rfl;have df:(w4.alloc (vk #[vf x.name,vd mo x.values.length mc] 81)).cell? (vw B 2)=some (vd I r.length J):=((vr w4).alloc _).cell i1;have j0:=cell1 (o:=0) ag rfl;have j1:=cell1 (o:=1) ag rfl;clear P a5;go_wp2_with (at_builtin;go_must (refine wpList_append_own_at _ rfl (.tmp 55) (.tmp 57) 24 rfl w1.heap.size 81 iA (vi #[vf ⟨#[]⟩,vd none 0 0]) 2 40 Tryz.underlying24 dx dg eg eb rfl (by decide) _ r.length (r.flatMap Ka) rfl (owns_kept au.1 ((vr w4).alloc _) (fun _ _ h=>h)) ⟨w4.heap.size,0,none⟩ 1 1 [vf x.name,vd mo x.values.length mc] rfl rfl (cells_at rfl _ _) (by simp [Value.oneCell']) (by unfold maxLen;omega) (by omega) (by simp;omega) ?_);go_must (intro v5 w5 D ar _ az;have h5:=qQ (q8J (S:=fun k'=>(qw I r.length J).ownBlock=some k') ((vr w4).alloc _).kept ar (fun k hk _=>hk)) a3 bj;have H5:=q8 h5;have t1:=cell1 (o:=2) h5 rfl;have u1:=zQ h5 2;have b7:=q8 D;have a7:=q8 ar;have bu:=q8 az;obtain⟨av,Y,rfl⟩:=qR D;clear h5 D ar az))
     have h6:=qz H5 2 (vd av (r.length+1) Y);simp only [qb,qh,qd]at h6;have bz:RdL (fun g=>V.heap.size≤g) 1 RdI w4 (vd mo x.values.length mc) x.values:=RdL.own (enc:=fun z=>[intV z]) (fun _=>rfl) (by rw [gW];exact(by simpa using ak.out)) (fun _ _=>rfl);have sn:=q8Y.snoc (p:=(⟨x,vd mo x.values.length mc⟩:Pa)) au bz (Zu ak) (fun g (t:V.heap.size≤g)=>⟨by omega,fun e=>by have:=bn g e;omega⟩) b7 a7 bu;have k6:Kept (fun g=>g=B) w5 (w5.setCell (vw B 2) (vd av (r.length+1) Y)):=Kept.setCell (S:=fun g=>g=B) (q8B _ w5) (p:=vw B 2) (fun _=>rfl) _;have kB:Kept (fun g=>g=B) w1 w5:=q8J (S:=fun g=>g=B) ((q8D HK U.kept).alloc _) a7 (fun k' e H=>by have:=(zY HO.1 e).1;omega);exact⟨⟨k+1,r++[⟨x,vd mo x.values.length mc⟩],vd av (r.length+1) Y,H,by go_num,by rw [List.map_append,HP.out,List.take_add_one,HX.out];rfl,q8Y.kept sn k6 (fun g t e=>by have e2:g=B:=e;omega),h6,q8D kB k6⟩,by simp [intOf];omega⟩
    ·obtain rfl:k=m.atts.length:=by omega
     have ap:RdL (fun g=>W.heap.size≤g∧g≠B) 2 (RdAtt (fun g=>W.heap.size≤g∧g≠B)) wr (vd I r.length J) m.atts:=by
      have h:=q9b.rd HO;rw [HP.out,List.take_length]at h;exact vt h (q8B (fun _=>False) wr) (fun _ _ h=>h) (fun g t=>⟨by omega,by omega⟩) (fun _ _ h=>h.kept (q8B (fun _=>False) wr) (fun _ _ h=>h) (fun g t=>⟨by omega,by omega⟩))
     have O:=Zu HO.1;have Z:=vt ch HK (fun g t e=>t.2 e) (fun _ h=>h) (fun _ _ h=>h.kept HK (fun g t e=>t.2 e) (fun _ h=>h));rw [X.out]at ap O;have L:=aa.out;rw [X.out]at L;have ab:=q8I b9 aw (by decide) HK;have ae:=q8I cj aw (by decide) HK;have aj:B<wr.heap.size:=by omega
     obtain⟨c3,rfl⟩: ∃u,u=I:=⟨_,rfl⟩;obtain⟨c4,rfl⟩: ∃u,u=J:=⟨_,rfl⟩;have al:=ay;go_wp2_with fail
     clear HO HP aa HK r1 ay X a9 a0 H hk j;obtain⟨w2,j⟩: ∃u,wr=u:=⟨_,rfl⟩;rw [j]at ap Z L ab ae aj al ah⊢;clear j;have cf:=q8 Z;have c7:=q8 ap;have a4:=q8 L;have ct:=q8 ab;have dy:=q8 ae;have cm:=al;have cn:=aj;have da:W.heap.size≤w2.heap.size:=by omega
     clear Z ap O L ab ae aj al ah ch aw b9 cj;go_loopw [8] (fun ix wr=> ∃(k:Nat)(C:List Pe)(v:Value),k≤m.reqs.length∧ix=ve vp k∧C.map Pe.ex=m.reqs.take k∧q4Y w2.heap.size wr v C∧wr.heap[B]? =some (vk #[vd x0 m.feats.length x1,vd b3 m.grps.length b4,vd c3 m.atts.length c4,v,vd y0 m.lims.length y1] 28 (0,0))∧Kept (fun g=>g=B) w2 wr) (fun ix _=>m.reqs.length - (intOf ix).toNat)
     case atStart=>exact⟨0,[],vd none 0 0,qv _,rfl,rfl,⟨qW _ _ _ _,fun p hp=>by cases hp⟩,a4,q8B _ _⟩
     case round=>
      obtain⟨k,C,v,hk,rfl,bs,n,Q,M⟩:=hrel;obtain⟨I,J,rfl⟩:=qR n.1;have HP:=q8 bs;have HO:=q8 n;have aa:=q8 Q;have HK:=q8 M;have ca:C.length=k:=by
       have:=congrArg List.length bs
       rw [List.length_map,List.length_take]at this;omega
      have er:C.length≤k:=by omega
      have es:k≤C.length:=by omega
      have dj:=q8 ca;have E:Near W wr:=q8L (q8D cm.kept M) (fun g t e=>by have:=HB.out;omega);have j:=NW.trans E;have ay:=q8 E;have bp:=dd.out;obtain⟨-,-,-,r1,-⟩:=HM wr E;clear ca bs n Q M;by_cases H:k<m.reqs.length
      ·have bf:(k:Int)<m.reqs.length:=by omega
       obtain⟨y,hy⟩: ∃y,m.reqs[k]? =some y:=⟨_,qi H⟩;obtain⟨g,o,yo,yc,rfl,d0,d1,d2,ck⟩:=gZ HE hy;have ew:g<w.heap.size:=World.block_lt_of_cell? _ _ d0;have HY:=q8 hy;have bd:=q8 j;have e0:wr.cell? (vw g (o+k*3))=some (ve vq y.op):=bd.cell d0;have e1:wr.cell? (vw g (o+k*3+1))=some (vf y.name):=bd.cell d1;have e2:wr.cell? (vw g (o+k*3+2))=some (vd yo y.kids.length yc):=bd.cell d2;have b2:wr.cell? (vw B 3)=some (vd I C.length J):=cell1 aa rfl;have HC:=q8 (q8S (ck.kept (bd.trans (vr wr).drew) (fun _ _ h=>h) (fun _ h=>h)) (cr y (qp hy)));clear hy ck d0 d1 d2;have cx:qj.follows .mixedOrders=true:=by kernel_rfl
       go_upto_region 17 with fail
       refine kn cx (fun A=>A.cell? (vw B 3)=some (vd I C.length J)∧A.cell? (vw w.heap.size 3)=some (vd (some ⟨g,o,none⟩) m.reqs.length d2)∧A.cell? (vw g (o+k*3))=some (ve vq y.op)∧A.cell? (vw g (o+k*3+1))=some (vf y.name)∧A.cell? (vw g (o+k*3+2))=some (vd yo y.kids.length yc)) 11 ⟨by simpa using b2,by simpa using r1,by simpa using e0,by simpa using e1,by simpa using e2⟩ (fun hS=> ?_);refine tD0 (v:=vg (vw B 3)) (by kernel_rfl) (by kernel_rfl) (by kernel_rfl) (by kernel_rfl) (fun _ _ _ h=>h) (qB ⟨by rfl,fun A f=>by dsimp only at f;have⟨g0,g1,g2,g3,g4⟩:=f;go_simp⟩) hS ?_;try simp only [q8F,qb,qh,qd]
       refine tD1 (v:=vd I C.length J) (by kernel_rfl) (by kernel_rfl) (by kernel_rfl) (by kernel_rfl) (fun _ _ _ h=>h) (qB ⟨by rfl,fun A f=>by dsimp only at f;have⟨g0,g1,g2,g3,g4⟩:=f;go_simp⟩) hS ?_;try simp only [q8F,qb,qh,qd]
       refine tD2 (v:=vg (vw w.heap.size 3)) (by kernel_rfl) (by kernel_rfl) (by kernel_rfl) (by kernel_rfl) (fun _ _ _ h=>h) (qB ⟨by rfl,fun A f=>by dsimp only at f;have⟨g0,g1,g2,g3,g4⟩:=f;go_simp⟩) hS ?_;try simp only [q8F,qb,qh,qd]
       refine tD3 (v:=vd (some ⟨g,o,none⟩) m.reqs.length d2) (by kernel_rfl) (by kernel_rfl) (by kernel_rfl) (by kernel_rfl) (fun _ _ _ h=>h) (qB ⟨by rfl,fun A f=>by dsimp only at f;have⟨g0,g1,g2,g3,g4⟩:=f;go_simp⟩) hS ?_;try simp only [q8F,qb,qh,qd]
       refine tD4 (v:=ve vp (k:Nat)) (by kernel_rfl) (by kernel_rfl) (by kernel_rfl) (by kernel_rfl) (fun _ _ _ h=>h) (qB ⟨by rfl,fun A f=>by dsimp only at f;have⟨g0,g1,g2,g3,g4⟩:=f;go_simp⟩) hS ?_;try simp only [q8F,qb,qh,qd]
       refine tD5 (v:=vg (vw g (o+k*3))) (by kernel_rfl) (by kernel_rfl) (by kernel_rfl) (by kernel_rfl) (fun _ _ _ h=>h) (qB ⟨by rfl,fun A f=>by dsimp only at f;have⟨g0,g1,g2,g3,g4⟩:=f;go_simp⟩) hS ?_;try simp only [q8F,qb,qh,qd]
       refine tD6 (v:=vi #[ve vq y.op,vf y.name,vd yo y.kids.length yc]) (by kernel_rfl) (by kernel_rfl) (by kernel_rfl) (by kernel_rfl) (fun _ _ _ h=>h) (qB ⟨by rfl,fun A f=>by dsimp only at f;have⟨g0,g1,g2,g3,g4⟩:=f;go_simp⟩) hS ?_;try simp only [q8F,qb,qh,qd]
       refine oZ7 (by kernel_rfl) (fun K hK=> ?_);go_simp;go_wp2_with (go_at_call 82;refine HC.mono ?_;rintro e z1 ⟨co,cc,rfl,rc,n1⟩)
       have RC:=q8 rc;have af:=q8 ((vr wr).drew.trans n1);refine hK.out _ _ (Or.inr ⟨n1.cell hS.1,n1.cell hS.2.1,n1.cell hS.2.2.1,n1.cell hS.2.2.2.1,n1.cell hS.2.2.2.2⟩) ?_;clear hK K;try simp only [q8F,qb,qh,qd]
       refine oZ8 (by kernel_rfl) (fun K hK=> ?_);go_simp;refine hK.out _ _ (Or.inr ⟨(n1.alloc _).cell hS.1,(n1.alloc _).cell hS.2.1,(n1.alloc _).cell hS.2.2.1,(n1.alloc _).cell hS.2.2.2.1,(n1.alloc _).cell hS.2.2.2.2⟩) ?_;clear hK K;try simp only [q8F,qb,qh,qd]
       have bb:(z1.alloc (vk #[ve vq y.op,vf y.name,vd co y.kids.length cc] 84)).ownsRow w2.heap.size 84 3 (vd I C.length J) C.length (C.flatMap encP):=owns_kept HO.1 (af.alloc _) (fun _ _ h=>h);have c8:w2.heap.size≤wr.heap.size:=HK.size;have ez:wr.heap.size≤z1.heap.size:=af.size;have cq:=HO.1.lt;refine oZ9 (by kernel_rfl) (fun K hK=> ?_);refine jU rfl (.tmp 68) (.tmp 75) 25 rfl w2.heap.size 84 dl (vi #[ve vq 0,vf ⟨#[]⟩,vd none 0 0]) 3 48 Tryz.underlying25 db ei ee cz rfl (by decide) (vd I C.length J) C.length (C.flatMap encP) rfl bb ⟨z1.heap.size,0,none⟩ 1 1 [ve vq y.op,vf y.name,vd co y.kids.length cc] rfl rfl (cells_at rfl _ _) (by simp [Value.oneCell']) (by unfold maxLen;omega) (by omega) (by simp;omega) ?_;intro ai N G s ad cp bx;have au:=q8 (q4Y.snoc (p:=⟨y.op,y.name,vd co y.kids.length cc,y⟩) (HO.kept af.kept (fun _ _ h=>h)) RC (fun g (t:wr.drew.heap.size≤g)=>⟨Nat.le_trans c8 t,fun e=>by have:=cq g e;have h2:wr.heap.size≤g:=t;omega⟩) s ad cp);have kx:Kept (fun g=>(qw I C.length J).ownBlock=some g) z1 G:=q8J ((vr z1).alloc _).kept ad (fun k hk _=>hk);have P: ∀g,g<w2.heap.size→ ¬(qw I C.length J).ownBlock=some g:=fun g t e=>by have:=(zY HO.1 e).1;omega
       have be:=qQ kx (qE af aa) (P _ cn);have f2:G.frozen? (vw B 3)=false:=zQ be 3;have m2:G.cell? (vw B 3)=some (vd I C.length J):=cell1 be rfl;have ek:w.heap.size<w2.heap.size:=by omega
       have b6:g<w2.heap.size:=by omega
       have bi:G.cell? (vw B 3)=some (vd I C.length J)∧G.cell? (vw w.heap.size 3)=some (vd (some ⟨g,o,none⟩) m.reqs.length d2)∧G.cell? (vw g (o+k*3))=some (ve vq y.op)∧G.cell? (vw g (o+k*3+1))=some (vf y.name)∧G.cell? (vw g (o+k*3+2))=some (vd yo y.kids.length yc):=⟨m2,kx.cell (af.cell r1) (P _ ek),kx.cell (af.cell e0) (P _ b6),kx.cell (af.cell e1) (P _ b6),kx.cell (af.cell e2) (P _ b6)⟩;have d4:Hid (Kept (fun g=>g=B) w2 G):=q8J (S:=fun g=>g=B) ((q8D HK af.kept).alloc _) ad (fun k e H=>by have:=(zY HO.1 e).1;omega);refine hK.out _ _ (Or.inr bi) ?_;clear hK K bx s ad cp bb;try simp only [q8F,qb,qh,qd]
       refine q6S (v:=vg (vw B 3)) (by kernel_rfl) (by kernel_rfl) (by kernel_rfl) (by kernel_rfl) (fun _ _ _ h=>h) (qB ⟨by rfl,fun A f=>by dsimp only at f;have⟨g0,g1,g2,g3,g4⟩:=f;go_simp⟩) bi ?_;try simp only [q8F,qb,qh,qd]
       refine q87 (by kernel_rfl) (fun K hK=> ?_);go_simp;refine hK.out _ _ (qB rfl) ?_;clear hK K;refine yR (by kernel_rfl) ?_;have bt:=qz be 3 (vd ai (C.length+1) N);simp only [qb,qh,qd]at bt;have kV:Kept (fun g=>g=B) G (G.setCell (vw B 3) (vd ai (C.length+1) N)):=Kept.setCell (S:=fun g=>g=B) (q8B _ G) (p:=vw B 3) (fun _=>rfl) _;have HZ:=q8 (show q4Y w2.heap.size (G.setCell (vw B 3) (vd ai (C.length+1) N)) (vd ai (C.length+1) N) (C++[⟨y.op,y.name,vd co y.kids.length cc,y⟩])∧(G.setCell (vw B 3) (vd ai (C.length+1) N)).heap[B]? =some (vk #[vd x0 m.feats.length x1,vd b3 m.grps.length b4,vd c3 m.atts.length c4,vd ai (C.length+1) N,vd y0 m.lims.length y1] 28 (0,0))∧Kept (fun g=>g=B) w2 (G.setCell (vw B 3) (vd ai (C.length+1) N))from⟨au.kept kV (fun g t e=>by have e2:g=B:=e;omega),bt,q8D d4 kV⟩);generalize G.setCell (vw B 3) (vd ai (C.length+1) N)=w4 at HZ⊢;have dw:=q8 (show(C++[(⟨y.op,y.name,vd co y.kids.length cc,y⟩:Pe)]).map Pe.ex=m.reqs.take (k+1) by rw [List.map_append,HP.out,List.take_add_one,HY.out];rfl);clear be bt f2 m2 kV kx bi P;go_wp2_with fail
       exact⟨⟨k+1,C++[(⟨y.op,y.name,vd co y.kids.length cc,y⟩:Pe)],_,H,by go_num,dw,HZ⟩,by simp [intOf];omega⟩
      ·obtain rfl:k=m.reqs.length:=by omega
       have b0:RdL (fun g=>W.heap.size≤g∧g≠B) 3 (RdEx (fun g=>W.heap.size≤g∧g≠B)) wr (vd I C.length J) m.reqs:=by
        have h:=q4Y.rd HO;rw [HP.out,List.take_length]at h;exact vt h (q8B (fun _=>False) wr) (fun _ _ h=>h) (fun g t=>⟨by omega,by omega⟩) (fun _ _ h=>h.kept (q8B (fun _=>False) wr) (fun _ _ h=>h) (fun g t=>⟨by omega,by omega⟩))
       have Z:=vt cf HK (fun g t e=>t.2 e) (fun _ h=>h) (fun _ _ h=>h.kept HK (fun g t e=>t.2 e) (fun _ h=>h));have ap:=vt c7 HK (fun g t e=>t.2 e) (fun _ h=>h) (fun _ _ h=>h.kept HK (fun g t e=>t.2 e) (fun _ h=>h));have L:=aa.out;rw [dj.out]at b0 L;have ab:=q8I ct a4 (by decide) HK;have ae:=q8I dy a4 (by decide) HK;have wk: ∀{k:Nat}{α:Type}{R R':World→List Value→α→Prop}{v:Value}{l:List α},RdL (fun g=>W.heap.size≤g∧g≠B) k R wr v l→(∀vs x,R wr vs x→R' wr vs x)→RdL (fun g=>W.heap.size≤g) k R' wr v l:=fun h hR=>h.kept (q8B (fun _=>False) wr) (fun _ _ h=>h) (fun _ h=>h.1) hR;have ce:RdMod (fun g=>W.heap.size≤g) wr (vi #[vd x0 m.feats.length x1,vd b3 m.grps.length b4,vd c3 m.atts.length c4,vd I m.reqs.length J,vd y0 m.lims.length y1]) m:=⟨_,_,_,_,_,rfl,RdL.own (enc:=q41) (fun _=>rfl) ab (fun _ _=>rfl),wk Z (fun _ _ h=>h.kept (q8B (fun _=>False) wr) (fun _ _ h=>h) (fun _ h=>h.1)),wk ap (fun _ _ h=>h.kept (q8B (fun _=>False) wr) (fun _ _ h=>h) (fun _ h=>h.1)),wk b0 (fun _ _ h=>h.kept (q8B (fun _=>False) wr) (fun _ _ h=>h) (fun _ h=>h.1)),RdL.own (enc:=encLm) (fun _=>rfl) ae (fun _ _=>rfl),Zu ab,dc⟩;have bq:=qE E HR;have⟨⟨s0,s1,s2,s3,s4⟩,v0,v1,v2,v3,v4⟩:=q7X bq;obtain⟨⟨m0,m1,m2,m3,m4⟩,-⟩:=q7X L;have d7:=q8 ce;have c6:=q8 bq;clear b0 Z ap L ab ae ce bq wk;go_wp2_with fail
       have⟨⟨t0,t1,t2,t3,t4⟩,kV⟩:=q83 c6 (vd x0 m.feats.length x1) (vd b3 m.grps.length b4) (vd c3 m.atts.length c4) (vd I m.reqs.length J) (vd y0 m.lims.length y1) _ rfl;exact bodyPost_ret (v:=vi #[vd x0 m.feats.length x1,vd b3 m.grps.length b4,vd c3 m.atts.length c4,vd I m.reqs.length J,vd y0 m.lims.length y1]) (by simp [results,Tryz.results28,go_sem,t0,t1,t2,t3,t4]) rfl ⟨_,rfl,d7.kept kV (fun g t e=>by have e2:g=w.heap.size+1:=e;omega) (fun g t=>by omega),q8L (q8D j.kept kV) (fun g t e=>by have e2:g=w.heap.size+1:=e;omega)⟩
theorem WfM.near{m:Mod}(h:WfM S w v m)(f:Near w w'):WfM S w' v m:=
 let⟨a,b,c,d,e,j,g,i⟩:=h;⟨a,b,c,d,e,j,vt (R':=RdAttW S) g f (fun _ _ h=>h) (fun _ h=>h) (fun _ _ h=>let⟨v,e,h,q⟩:=h;⟨v,e,h.kept f (fun _ _ h=>h) (fun _ h=>h) (fun _ _ h=>h),q⟩),i⟩
theorem q8T{ao:Option Addr}{cap i:Nat}{l:List ByteArray}{x:ByteArray}(h:RdL S 1 RdS w (vd ao n cap) l)(k:l[i]? =some x): ∃g o,ao=some ⟨g,o,none⟩/\w.cell? (vw g (o+i))=some (vf x):=by
 have⟨d,c,e,f⟩:=h;obtain⟨g,o,j,b,-,a,m⟩:=f i x k;obtain rfl:j=[vf x]:=m
 cases e
 have:=a 0 _ rfl
 exact⟨g,o,b,by simpa using this⟩
theorem q8N(ha:RdMod S w va a)(ae: ∀g,S g->g<w.heap.size)(Z:Q8 a)(af:WfM S w va a)(hb:RdMod T w vb b)(ar: ∀g,T g->g<w.heap.size)(ax:Q8 b)(am:WfM T w vb b)(hv:ji w):
 Calls qj 6 #[va,vb] w fun e c=>e=vm (vj true)/\Near w c:=by
 have f:=q8 (fun(c:World)(d:Near w c)=>ha.kept d (fun _ _ h=>h) (fun _ h=>h));have B:=q8 (fun(c:World)(d:Near w c)=>hb.kept d (fun _ _ h=>h) (fun _ h=>h));have Y:=q8 (fun(c:World)(d:Near w c)=>(fun g hg=>Nat.lt_of_lt_of_le (ae g hg) d.size: ∀g,S g->g<c.heap.size));have aw:=q8 (fun(c:World)(d:Near w c)=>af.near d);have HV:=q8 hv;have ay:=q8 Z;obtain⟨a1,a2,b1,b2,O,N,d1,d2,e1,e2,rfl,-⟩:=RdMod.form ha;obtain⟨f1,f2,g1,g2,h1,h2,i1,i2,j1,j2,rfl,-⟩:=RdMod.form hb;have U:=q8 ((uC (m:=a)).1);have t:=q8 (fun(c:World)(d:Near w c)=>wW (f.out c d));have C:=q8 (fun(c:World)(d:Near w c)=>wW (B.out c d));generalize greatM a=ga at U t;generalize greatM b=gb at C;clear ha ae Z af hb ar ax am hv;go_enter Tryz.func6,Tryz.ntmps6;go_upto_region 1 with fail
 have⟨W,ai,nW,hA,hB⟩:=vH w #[vd a1 a.feats.length a2,vd b1 a.grps.length b2,vd O a.atts.length N,vd d1 a.reqs.length d2,vd e1 a.lims.length e2] #[vd f1 b.feats.length f2,vd g1 b.grps.length g2,vd h1 b.atts.length h2,vd i1 b.reqs.length i2,vd j1 b.lims.length j2] 28 28;rw [ai];have HA:=q8 (vW hA);have HB:=q8 (vW hB);have p:=q8 nW;have⟨p0,p1,p2,p3,p4⟩:=HA.out W (vr W);have⟨q0,q1,q2,q3,q4⟩:=HB.out W (vr W);clear ai nW hA hB
 cases ga with
 |true=>
  go_wp2_with (first
   |(go_at_call 8;with_reducible refine(t.out _ p.out).mono ?_;rintro e w1 ⟨rfl,j⟩;have A:=q8 j;clear j)
   |(go_at_call 10;refine(wakes3_calls (HV.out.near (p.out.trans A.out))).mono ?_;rintro e w2 ⟨rfl,q⟩;have N2:=q8 q;clear q))
  go_ret;exact⟨rfl,p.out.trans (A.out.trans N2.out)⟩
 |false=>
 cases gb with
 |true=>
  go_wp2_with (first
   |(go_at_call 8;with_reducible refine(t.out _ p.out).mono ?_;rintro e w1 ⟨rfl,j⟩;have⟨r0,r1,r2,r3,r4⟩:=HB.out _ j;have A:=q8 j;clear j)
   |(go_at_call 8;with_reducible refine(C.out _ (p.out.trans A.out)).mono ?_;rintro e M ⟨rfl,E⟩;have K:=q8 (A.out.trans E);clear E)
   |(go_at_call 10;refine(wakes3_calls (HV.out.near (p.out.trans K.out))).mono ?_;rintro e w2 ⟨rfl,q⟩;have N2:=q8 q;clear q))
  go_ret;exact⟨rfl,p.out.trans (K.out.trans N2.out)⟩
 |false=>
 have i:=q8 (U.out rfl);have l:=q8 (Qf i.out ay.out);have a0:=i.out.feats;have X:=q8 (fun(c:World)(d:Near w c)=>kI (f.out c d) (by omega));have ab:=q8 (fun(c:World)(d:Near w c)=>QB (f.out c d) (by omega));have al:=q8 (fun(c:World)(d:Near w c)=>q8R (f.out c d) (aw.out c d) (Y.out c d) l.out (fun x y=>by have:=vY (i.out.exs x y);omega) (fun x y=>by have:=i.out.vals x y;omega));have aq:a.names.length=a.feats.length:=by simp [Mod.names]
 have ad:a.names.length<=40:=by omega
 generalize av:a.names=L at X ab ad;clear aq av;go_upto_region 3 with(first
  |(go_at_call 8;with_reducible refine(t.out _ p.out).mono ?_;rintro e w1 ⟨rfl,j⟩;have⟨r0,r1,r2,r3,r4⟩:=HB.out _ j;have A:=q8 j;clear j)
  |(go_at_call 8;with_reducible refine(C.out _ (p.out.trans A.out)).mono ?_;rintro e M ⟨rfl,E⟩;have K:=q8 (A.out.trans E);clear E))
 clear p0 p1 p2 p3 p4 q0 q1 q2 q3 q4 r0 r1 r2 r3 r4;have u: ∀c,Near M c->c.cell? w.heap.size=some (vd a1 a.feats.length a2)/\c.cell? (vw w.heap.size 1)=some (vd b1 a.grps.length b2)/\c.cell? (vw w.heap.size 2)=some (vd O a.atts.length N)/\c.cell? (vw w.heap.size 3)=some (vd d1 a.reqs.length d2)/\c.cell? (vw w.heap.size 4)=some (vd e1 a.lims.length e2):=fun c h=>HA.out _ (K.out.trans h);go_region_held3 (fun c=>c.cell? w.heap.size=some (vd a1 a.feats.length a2)/\c.cell? (vw w.heap.size 1)=some (vd b1 a.grps.length b2)/\c.cell? (vw w.heap.size 2)=some (vd O a.atts.length N)/\c.cell? (vw w.heap.size 3)=some (vd d1 a.reqs.length d2)/\c.cell? (vw w.heap.size 4)=some (vd e1 a.lims.length e2))
  ((refine u _ ?_;first|exact G|exact z|exact(vr _).drew))
  (first
    |(go_at_call 26;refine(X.out _ (p.out.trans (K.out.trans (vr M).drew))).mono ?_;rintro e w4 ⟨v4,rfl,o4,n4⟩;obtain⟨xo,xc,rfl⟩:=qR o4;have O4:=q8 o4;have z:Near M w4:=(vr M).drew.trans n4;clear o4)
    |(go_at_call 27;refine(ab.out _ (p.out.trans (K.out.trans z))).mono ?_;rintro e w5 ⟨v5,rfl,o5,n5⟩;obtain⟨yo,yc,rfl⟩:=qR o5;have O5:=q8 o5;have G:Near M w5:=z.trans n5;clear o5))
 have HX:=q8 (fun(c:World)(d:Near w5 c)=>vt (R':=RdS) (RdL.strings O4.out) (n5.trans d) (fun _ _ h=>h) (fun _ h=>h) (fun _ _ h=>h));have HY:=q8 (fun(c:World)(d:Near w5 c)=>vt (R':=RdS) (RdL.strings O5.out) d (fun _ _ h=>h) (fun _ h=>h) (fun _ _ h=>h));have N5:=q8 (K.out.trans G);clear u z G n4 n5 O4 O5;go_wp2_with fail
 go_loopw [7] (fun ix wr=> ∃k:Nat,k<=L.length/\ix=ve vp k/\Near w5 wr) (fun ix _=>L.length - (intOf ix).toNat)
 case atStart=>exact⟨0,qv _,rfl,vr _⟩
 case round=>
  obtain⟨k,hk,rfl,ag⟩:=hrel;have v:=q8 ag;clear ag;by_cases H:k<L.length
  .have az:(k:Int)<L.length:=by omega
   obtain⟨x,y⟩: ∃x,L[k]? =some x:=⟨_,qi H⟩;obtain⟨g,o,rfl,x0⟩:=q8T (HX.out _ v.out) y;obtain⟨g',o',rfl,y0⟩:=q8T (HY.out _ v.out) y;clear y;go_wp2_with fail
   go_quiet (fail)
   all_goals
    go_wp2_with fail
    exact⟨⟨k+1,H,by go_num,v.out.drewN _⟩,by simp [intOf];omega⟩
  .obtain rfl:k=L.length:=by omega
   have J:=q8 (N5.out.trans v.out);have⟨p0,p1,p2,p3,p4⟩:=HA.out _ J.out;clear H hk HX HY;go_upto_region 12 with(go_at_call 28;refine(al.out _ (p.out.trans J.out)).mono ?_;rintro e w6 ⟨v6,rfl,r,n6⟩;have r:=RdMod.here r;obtain⟨k1,k2,l1,l2,m1,m2,j,q,o1,o2,rfl,-⟩:=RdMod.form r;have P:=q8 r;have N6:=q8 (J.out.trans n6);clear r n6)
   clear p0 p1 p2 p3 p4;have⟨V,s,ak,ah,nV,hO⟩:=zZ w6 #[vd k1 a.feats.length k2,vd l1 a.grps.length l2,vd m1 a.atts.length m2,vd j a.reqs.length q,vd o1 a.lims.length o2] 28;rw [ak,ah];have an:=q8 (vW hO);have NV:=q8 (N6.out.trans nV);have I:=q8 (fun(c:World)(d:Near V c)=>P.out.kept (nV.trans d) (fun _ _ h=>h) (fun _ h=>h));have ao:=q8 (fun(c:World)(d:Near V c)=>(fun g (hg:wr.heap.size<=g/\g<w6.heap.size)=>Nat.lt_of_lt_of_le hg.2 (nV.trans d).size));clear ak ah nV hO P;have aj:=q8 (fun(c:World)(d:Near V c)=>jH (I.out c d) (ao.out c d) l.out);have R:=q8 (fun(c:World)(d:Near w c)=>uH (f.out c d) (Y.out c d) l.out (fun x y=>by have:=vY (i.out.exs x y);omega));have Q:=q8 (fun(c:World)(d:Near w c)=>Vp (f.out c d) (B.out c d) l.out);have aa:=q8 (fun(c:World)(d:Near w c)=>q8M (f.out c d) (B.out c d) l.out);have au:=q8 (fun(c:World)(d:Near w c)(D:Near V c)=>sameM_refl a▸Vp (f.out c d) (I.out c D) l.out);have ap:=q8 (fun(c:World)(d:Near w c)(D:Near V c)=>sameM_refl a▸q8M (f.out c d) (I.out c D) l.out);generalize chk a=ck at aj R;generalize sameM a b=sb at Q aa;have n:=q8 (p.out.trans NV.out);have u: ∀c,Near V c->(c.cell? w.heap.size=some (vd a1 a.feats.length a2)/\c.cell? (vw w.heap.size 1)=some (vd b1 a.grps.length b2)/\c.cell? (vw w.heap.size 2)=some (vd O a.atts.length N)/\c.cell? (vw w.heap.size 3)=some (vd d1 a.reqs.length d2)/\c.cell? (vw w.heap.size 4)=some (vd e1 a.lims.length e2))/\(c.cell? (vw (w.heap.size+1) 0)=some (vd f1 b.feats.length f2)/\c.cell? (vw (w.heap.size+1) 1)=some (vd g1 b.grps.length g2)/\c.cell? (vw (w.heap.size+1) 2)=some (vd h1 b.atts.length h2)/\c.cell? (vw (w.heap.size+1) 3)=some (vd i1 b.reqs.length i2)/\c.cell? (vw (w.heap.size+1) 4)=some (vd j1 b.lims.length j2))/\(c.cell? s=some (vd k1 a.feats.length k2)/\c.cell? (vw s 1)=some (vd l1 a.grps.length l2)/\c.cell? (vw s 2)=some (vd m1 a.atts.length m2)/\c.cell? (vw s 3)=some (vd j a.reqs.length q)/\c.cell? (vw s 4)=some (vd o1 a.lims.length o2)):=fun c h=>⟨HA.out _ (NV.out.trans h),HB.out _ (NV.out.trans h),an.out _ h⟩;go_region_held3 (fun c=>(c.cell? w.heap.size=some (vd a1 a.feats.length a2)/\c.cell? (vw w.heap.size 1)=some (vd b1 a.grps.length b2)/\c.cell? (vw w.heap.size 2)=some (vd O a.atts.length N)/\c.cell? (vw w.heap.size 3)=some (vd d1 a.reqs.length d2)/\c.cell? (vw w.heap.size 4)=some (vd e1 a.lims.length e2))/\(c.cell? (vw (w.heap.size+1) 0)=some (vd f1 b.feats.length f2)/\c.cell? (vw (w.heap.size+1) 1)=some (vd g1 b.grps.length g2)/\c.cell? (vw (w.heap.size+1) 2)=some (vd h1 b.atts.length h2)/\c.cell? (vw (w.heap.size+1) 3)=some (vd i1 b.reqs.length i2)/\c.cell? (vw (w.heap.size+1) 4)=some (vd j1 b.lims.length j2))/\(c.cell? s=some (vd k1 a.feats.length k2)/\c.cell? (vw s 1)=some (vd l1 a.grps.length l2)/\c.cell? (vw s 2)=some (vd m1 a.atts.length m2)/\c.cell? (vw s 3)=some (vd j a.reqs.length q)/\c.cell? (vw s 4)=some (vd o1 a.lims.length o2)))
    ((refine u _ ?_;first|exact z7|exact z6|exact z5|exact z4|exact z3|exact G|exact z|exact(vr _).drew))
    (first
      |(go_at_call 29;refine(aj.out _ (vr V).drew).mono ?_;rintro e y1 ⟨rfl,j⟩;have z:Near V y1:=(vr V).drew.trans j)
      |(go_at_call 9;refine(R.out _ (n.out.trans z)).mono ?_;rintro e y2 ⟨rfl,q⟩;have G:Near V y2:=z.trans q)
      |(go_at_call 13;with_reducible refine(Q.out _ (n.out.trans G)).mono ?_;rintro e y3 ⟨rfl,E⟩;have z3:Near V y3:=G.trans E)
      |(go_at_call 30;with_reducible refine(aa.out _ (n.out.trans z3)).mono ?_;rintro e y4 ⟨rfl,n4⟩;have z4:Near V y4:=z3.trans n4)
      |(go_at_call 13;with_reducible refine(au.out _ (n.out.trans z4) z4).mono ?_;rintro e y5 ⟨rfl,n5⟩;have z5:Near V y5:=z4.trans n5)
      |(go_at_call 30;with_reducible refine(ap.out _ (n.out.trans z5) z5).mono ?_;rintro e y6 ⟨rfl,n6⟩;have z6:Near V y6:=z5.trans n6)
      |(go_at_call 10;refine(wakes3_calls (HV.out.near (n.out.trans z6))).mono ?_;rintro e y7 ⟨rfl,n7⟩;have z7:Near V y7:=z6.trans n7))
   go_wp2_with fail
   go_ret;exact⟨rfl,n.out.trans z7⟩
end Go.Proofs.YtjcbmcnbdegpmaaGreatDoor
