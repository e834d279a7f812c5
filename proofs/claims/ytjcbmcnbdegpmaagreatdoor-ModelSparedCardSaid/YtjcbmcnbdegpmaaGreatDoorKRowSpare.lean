/- RowSpare. -/
import Derived.Test.YtjcbmcnbdegpmaaGreatDoorKLawSpare
import Derived.Test.YtjcbmcnbdegpmaaGreatDoorKMFacts
set_option maxRecDepth 100000
set_option maxHeartbeats 12800000
set_option linter.unusedVariables false
set_option linter.unusedSimpArgs false
open Go.MakeChecks renaming laidMetH_plain->gw
open Go.OpenSpec renaming ofChange->jy
open Go.Proofs.Tryz renaming checked->kV,prog->qj,underlying3->qP
open Option.some renaming inj->zm
open Go.Value renaming slice->vd,int->ve,string->vf,pointer->vg,agg->vi,bool->vj
open Go.Obj renaming cells->vk
open Go.Ending renaming returned->vm
open Go.IntKind renaming i64->vp,u8->vq,u32->vr,u64->vt
open Or renaming inl->vu,inr->vv
namespace Go.Proofs.YtjcbmcnbdegpmaaGreatDoor
open Go.ChangeShapes Go.WideShapes Go.ChangeAt Go.RowKit Go.Deep Go.Proofs.Gen Go.Proofs.Mod
theorem Vu(os:Os)(started:os.Started)(H:Type)(enc:TypeId×Value->H):
 ReturnsInHanded {} kV os 5 .any (fun w args=>(Rows.modelSparedSpec.pre enc qj Tryz.f5 [] false w args/\laidMetH qj jJ w)/\sizedMet enc qj Tryz.f5 (jy Rows.modelSparedSpec) false w args)
  (Rows.modelSparedSpec.post enc qj Tryz.f5 false true false false):=by
 refine vX (C:=kV) (X:=fun w _=>laidMetH qj jJ w) (fun _ _ _ hh h=>h.of_heap hh) q5L started (by kernel_rfl) Tryz.func5
  (ChangeSpec.witness_shaped (enc:=enc) (C:=kV) (os:=os) (X:=fun w _=>laidMetH qj jJ w) false (World.laidAll qj os jJ) #[.agg #[.slice none 0 0,.slice none 0 0,.slice none 0 0,.slice none 0 0,.slice none 0 0],.int .i64 0] 12 (World.laidAll_os _ _ _)
    (World.shaped_of_ZipB (by kernel_rfl) (by kernel_rfl)) (by kernel_rfl) (by kernel_rfl) (by kernel_rfl)
    (by rw [gw _ _ _ (by kernel_rfl)];exact laidMet_laidAll _ (by kernel_rfl) (by kernel_rfl))) ?_
 intro W base args ds gs before hval0 hW hL hsh;have hvars:=KF hsh hL;have hval: ∀(j:Nat) t v,Tryz.f5.params[j]? =some t->args[j]? =some v->Value.okWide qj W .any base t v:=hval0;have hW':=hW;obtain⟨p,q,hA0,hV,rfl,hfz,hnd⟩:=hW;have hA:DataW.TrodAll enc qj W 0 (fun _=>true) true Tryz.f5.params.toList args.toList ds p:=hA0;rw [Tryz.params5]at hA hval;obtain⟨v0,vs0,d0,ds0,p0,q0,hargs,rfl,rfl,h0,r0⟩:=trodAll_cons hA;obtain⟨v1,vs1,d1,ds1,p1,q1,rfl,rfl,rfl,h1,r1⟩:=trodAll_cons r0;obtain⟨rfl,rfl,rfl⟩:=trodAll_nil r1;obtain rfl:args= #[v0,v1]:=by cases args;simp_all
 obtain⟨rfl,rfl⟩:=trodVars_none hV;have k0:=h0;have lt0: ∀x∈p0,x.block<W.heap.size:=by obtain⟨m,hm⟩:=k0;exact DataW.trod_lt m _ _ _ hm
 obtain⟨m0,rd0,rg0⟩: ∃m:Mod,RdMod (fun g=>g<W.heap.size) W v0 m/\Q8 m:=by
  obtain⟨cs,rfl,-⟩:=okWide_struct Tryz.underlying28 (hval 0 28 v0 rfl rfl);obtain⟨fuel,hf⟩:=h0;exact Jf (by simpa [Value.cells]using hf)
 obtain⟨a1,rfl,rfl,rfl,w1⟩:=open_int qP (hval 1 3 v1 rfl rfl) h1;have z1:=Uo w1;have b1:i64R a1:=⟨z1.1,z1.2⟩;clear hA0 hval0;refine(Yd rd0 (fun _ hg=>hg) rg0 b1 hvars).mono fun e W' ⟨he,bel⟩=> ?_;subst he;exact⟨_,rfl,_,_,_,[],_,[],hW',trodAll_mk1 (shut_bool Tryz.underlying4 _),trodAll_cons_mk (Below.trod laidOut (by kernel_rfl) (of_decide_eq_true (by kernel_rfl)) k0 bel.below lt0) (trodAll_cons_mk (shut_int qP w1) trodAll_mk0),rfl,bel.below.frame _,fun h=>by cases h⟩
theorem q6h:(Rows.modelSparedRow.inPlace==qj.inPlace 5)=true:=by unfold Program.inPlace;rw [Q2];kernel_rfl
theorem q0j:(Rows.modelSparedRow.unfollowed==qj.unfollowed 5)=true:=by unfold Program.unfollowed;rw [Q2];kernel_rfl
theorem q5X:(Rows.modelSparedRow.named==qj.varsNamed 5)=true:=by unfold Program.varsNamed;rw [Q2];kernel_rfl
theorem q5G:(Rows.modelSparedRow.recurses==qj.recurses 5)=true:=by
 have h:qj.unfollowed 5=true:=(beq_iff_eq.1 q0j).symm;unfold Program.recurses;rw [h,Bool.true_or];rfl
theorem U8:joinedFacts qj 5 Tryz.f5 Rows.modelSparedSpec Rows.modelSparedRow=true:=by
 unfold joinedFacts;refine j7 (j7 (j7 (j7 (j7 (j7 (j7 (j7 (j7 (j7 (j7 (j7 (j7 (j7 (j7 (j7 (j7 (j7 (j7 (j7 (j7 (j7 (j7 (j7 (j7 (j7 (j7 (j7 (j7 (j7 (j7 ?_ Jl) Qo) ?_) ?_) ?_) q0v) ?_) q1w) q6h) q0j) q5G) q5X) ?_) ?_) ?_) ?_) ?_) ?_) ?_) ?_) ?_) Qh) ?_) q1B) q20) VP) q62) ?_) ?_) ?_) ?_;all_goals as_aux_lemma=>kernel_rfl
theorem q19:Rows.modelSparedRow.holds Tryz.pinned (jy Rows.modelSparedSpec):=
 OpenClaim.holds_of_wide 5 Tryz.f5 rfl rfl rfl rfl rfl rfl rfl ⟨rfl,rfl,rfl,rfl,rfl⟩ rfl rfl rfl rfl rfl (by as_aux_lemma=>kernel_rfl) Tryz.func5 U8
  (of_decide_eq_true (by as_aux_lemma=>kernel_rfl)) (by unfold Func.isWrapper;first|(rw [if_pos (by decide+kernel)];kernel_rfl)|(rw [if_neg (by decide+kernel)];exact⟨rfl,rfl⟩))
  (fun os started H enc _=>Vu os started H enc)
theorem modelSpared_holds:Rows.ModelSparedCardSaid:=
 Claim7.holds_tied_plain_at .later [] _ _ _ _ q19 (fun _ h=>by cases h) (by as_aux_lemma=>kernel_rfl) (fun _ h=>by cases h) modelSpared_row_tie rfl ⟨rfl,rfl⟩ (by as_aux_lemma=>kernel_rfl) rfl
  (fun f fn hf hfn=>by
    obtain rfl:f=5:=zm ((show qj.funcNamed "motley/motleylaw03.ModelSpared"=some 5 by as_aux_lemma=>kernel_rfl).symm.trans hf)|>.symm
    obtain rfl:fn=Tryz.f5:=(zm (Tryz.func5.symm.trans hfn)).symm;exact⟨by as_aux_lemma=>kernel_rfl,fun j t ht=>by
     rw [Tryz.params5]at ht;have hm:t∈[28,3]:=by simpa using Array.mem_of_getElem? ht
     have hall:([28,3].all fun u=> !Tryz.prog.wantsStandIn u)=true:=by as_aux_lemma=>kernel_rfl
     exact(show qj.wantsStandIn t=false by simpa using List.all_eq_true.1 hall t hm)⟩)
  (by as_aux_lemma=>kernel_rfl)
end Go.Proofs.YtjcbmcnbdegpmaaGreatDoor
