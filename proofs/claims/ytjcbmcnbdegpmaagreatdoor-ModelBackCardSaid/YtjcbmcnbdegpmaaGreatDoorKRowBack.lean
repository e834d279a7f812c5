/- RowBack. -/
import Derived.Test.YtjcbmcnbdegpmaaGreatDoorKLawBk
import Derived.Test.YtjcbmcnbdegpmaaGreatDoorKMFacts
set_option maxRecDepth 100000
set_option maxHeartbeats 12800000
set_option linter.unusedVariables false
set_option linter.unusedSimpArgs false
open Go.MakeChecks renaming laidMetH_plain->gw
open Go.OpenSpec renaming ofChange->jy
open Go.Proofs.Tryz renaming checked->kV,prog->qj
open Option.some renaming inj->zm
open Go.Value renaming slice->vd,int->ve,string->vf,pointer->vg,agg->vi,bool->vj
open Go.Obj renaming cells->vk
open Go.Ending renaming returned->vm
open Go.IntKind renaming i64->vp,u8->vq,u32->vr,u64->vt
open Or renaming inl->vu,inr->vv
namespace Go.Proofs.YtjcbmcnbdegpmaaGreatDoor
open Go.ChangeShapes Go.WideShapes Go.ChangeAt Go.RowKit Go.Deep Go.Proofs.Gen Go.Proofs.Mod
theorem Gj(os:Os)(started:os.Started)(H:Type)(enc:TypeId×Value->H):
 ReturnsInHanded {} kV os 3 .any (fun w args=>(Rows.modelBackSpec.pre enc qj Tryz.f3 [] false w args/\laidMetH qj jJ w)/\sizedMet enc qj Tryz.f3 (jy Rows.modelBackSpec) false w args)
  (Rows.modelBackSpec.post enc qj Tryz.f3 false true false false):=by
 refine vX (C:=kV) (X:=fun w _=>laidMetH qj jJ w) (fun _ _ _ hh h=>h.of_heap hh) q5L started (by kernel_rfl) Tryz.func3
  (ChangeSpec.witness_shaped (enc:=enc) (C:=kV) (os:=os) (X:=fun w _=>laidMetH qj jJ w) false (World.laidAll qj os jJ) #[.agg #[.slice none 0 0,.slice none 0 0,.slice none 0 0,.slice none 0 0,.slice none 0 0]] 12 (World.laidAll_os _ _ _)
    (World.shaped_of_ZipB (by kernel_rfl) (by kernel_rfl)) (by kernel_rfl) (by kernel_rfl) (by kernel_rfl)
    (by rw [gw _ _ _ (by kernel_rfl)];exact laidMet_laidAll _ (by kernel_rfl) (by kernel_rfl))) ?_
 intro W base args ds gs before hval0 hW hL hsh;have hvars:=KF hsh hL;have hval: ∀(j:Nat) t v,Tryz.f3.params[j]? =some t->args[j]? =some v->Value.okWide qj W .any base t v:=hval0;have hW':=hW;obtain⟨p,q,hA0,hV,rfl,hfz,hnd⟩:=hW;have hA:DataW.TrodAll enc qj W 0 (fun _=>true) true Tryz.f3.params.toList args.toList ds p:=hA0;rw [Tryz.params3]at hA hval;obtain⟨v0,vs0,d0,ds0,p0,q0,hargs,rfl,rfl,h0,r0⟩:=trodAll_cons hA;obtain⟨rfl,rfl,rfl⟩:=trodAll_nil r0;obtain rfl:args= #[v0]:=by cases args;simp_all
 obtain⟨rfl,rfl⟩:=trodVars_none hV;have k0:=h0;have lt0: ∀x∈p0,x.block<W.heap.size:=by obtain⟨m,hm⟩:=k0;exact DataW.trod_lt m _ _ _ hm
 obtain⟨m0,rd0,rg0⟩: ∃m:Mod,RdMod (fun g=>g<W.heap.size) W v0 m/\Q8 m:=by
  obtain⟨cs,rfl,-⟩:=okWide_struct Tryz.underlying28 (hval 0 28 v0 rfl rfl);obtain⟨fuel,hf⟩:=h0;exact Jf (by simpa [Value.cells]using hf)
 clear hA0 hval0;refine(Jk rd0 (fun _ hg=>hg) rg0 hvars).mono fun e W' ⟨he,bel⟩=> ?_;subst he;exact⟨_,rfl,_,_,_,[],_,[],hW',trodAll_mk1 (shut_bool Tryz.underlying4 _),trodAll_cons_mk (Below.trod laidOut (by kernel_rfl) (of_decide_eq_true (by kernel_rfl)) k0 bel.below lt0) trodAll_mk0,rfl,bel.below.frame _,fun h=>by cases h⟩
theorem q7m:(Rows.modelBackRow.inPlace==qj.inPlace 3)=true:=by unfold Program.inPlace;rw [Q2];kernel_rfl
theorem q4l:(Rows.modelBackRow.unfollowed==qj.unfollowed 3)=true:=by unfold Program.unfollowed;rw [Q2];kernel_rfl
theorem q7g:(Rows.modelBackRow.named==qj.varsNamed 3)=true:=by unfold Program.varsNamed;rw [Q2];kernel_rfl
theorem q7a:(Rows.modelBackRow.recurses==qj.recurses 3)=true:=by
 have h:qj.unfollowed 3=true:=(beq_iff_eq.1 q4l).symm;unfold Program.recurses;rw [h,Bool.true_or];rfl
theorem GG:joinedFacts qj 3 Tryz.f3 Rows.modelBackSpec Rows.modelBackRow=true:=by
 unfold joinedFacts;refine j7 (j7 (j7 (j7 (j7 (j7 (j7 (j7 (j7 (j7 (j7 (j7 (j7 (j7 (j7 (j7 (j7 (j7 (j7 (j7 (j7 (j7 (j7 (j7 (j7 (j7 (j7 (j7 (j7 (j7 (j7 ?_ Jl) Qo) ?_) ?_) ?_) q0v) ?_) q1w) q7m) q4l) q7a) q7g) ?_) ?_) ?_) ?_) ?_) ?_) ?_) ?_) ?_) Qh) ?_) q1B) q20) VP) q62) ?_) ?_) ?_) ?_;all_goals as_aux_lemma=>kernel_rfl
theorem q3C:Rows.modelBackRow.holds Tryz.pinned (jy Rows.modelBackSpec):=
 OpenClaim.holds_of_wide 3 Tryz.f3 rfl rfl rfl rfl rfl rfl rfl ⟨rfl,rfl,rfl,rfl,rfl⟩ rfl rfl rfl rfl rfl (by as_aux_lemma=>kernel_rfl) Tryz.func3 GG
  (of_decide_eq_true (by as_aux_lemma=>kernel_rfl)) (by unfold Func.isWrapper;first|(rw [if_pos (by decide+kernel)];kernel_rfl)|(rw [if_neg (by decide+kernel)];exact⟨rfl,rfl⟩))
  (fun os started H enc _=>Gj os started H enc)
theorem modelBack_holds:Rows.ModelBackCardSaid:=
 Claim7.holds_tied_plain_at .later [] _ _ _ _ q3C (fun _ h=>by cases h) (by as_aux_lemma=>kernel_rfl) (fun _ h=>by cases h) modelBack_row_tie rfl ⟨rfl,rfl⟩ (by as_aux_lemma=>kernel_rfl) rfl
  (fun f fn hf hfn=>by
    obtain rfl:f=3:=zm ((show qj.funcNamed "motley/motleylaw03.ModelBack"=some 3 by as_aux_lemma=>kernel_rfl).symm.trans hf)|>.symm
    obtain rfl:fn=Tryz.f3:=(zm (Tryz.func3.symm.trans hfn)).symm;exact⟨by as_aux_lemma=>kernel_rfl,fun j t ht=>by
     rw [Tryz.params3]at ht;have hm:t∈[28]:=by simpa using Array.mem_of_getElem? ht
     have hall:([28].all fun u=> !Tryz.prog.wantsStandIn u)=true:=by as_aux_lemma=>kernel_rfl
     exact(show qj.wantsStandIn t=false by simpa using List.all_eq_true.1 hall t hm)⟩)
  (by as_aux_lemma=>kernel_rfl)
end Go.Proofs.YtjcbmcnbdegpmaaGreatDoor
