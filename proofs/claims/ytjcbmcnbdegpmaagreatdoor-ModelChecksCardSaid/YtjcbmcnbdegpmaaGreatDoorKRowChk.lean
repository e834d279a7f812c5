/- RowChk. -/
import Derived.Test.YtjcbmcnbdegpmaaGreatDoorCards
import Derived.Test.YtjcbmcnbdegpmaaGreatDoorTie
import Derived.HandedShaped
import Derived.Shelf.Vars
import Derived.Lib.LaidTab
import Derived.Lib.LaidU8
import Derived.Stop.LaidErr
import Derived.Lay
import Derived.SevenTiedAt
import Derived.Test.YtjcbmcnbdegpmaaGreatDoorKLawChecks
set_option maxRecDepth 100000
set_option maxHeartbeats 12800000
set_option linter.unusedVariables false
set_option linter.unusedSimpArgs false
open Go.Proofs.Tryz renaming prog->qj
open Go.Value renaming slice->vd,int->ve,string->vf,pointer->vg,agg->vi,bool->vj
open Go.Obj renaming cells->vk
open Go.Ending renaming returned->vm
open Go.IntKind renaming i64->vp,u8->vq,u32->vr,u64->vt
open Or renaming inl->vu,inr->vv
namespace Go.Proofs.YtjcbmcnbdegpmaaGreatDoor
open Go.ChangeShapes Go.WideShapes Go.ChangeAt Go.RowKit Go.Deep Go.Proofs.Gen Go.Proofs.Mod
theorem q8U(os:Os)(started:os.Started)(H:Type)(enc:TypeId×Value->H):
 ReturnsInHanded {} Tryz.checked os 6 .any (fun w args=>(Rows.modelChecksSpec.pre enc qj Tryz.f6 [] false w args/\laidMetH qj jJ w)/\sizedMet enc qj Tryz.f6 (OpenSpec.ofChange Rows.modelChecksSpec) false w args)
  (Rows.modelChecksSpec.post enc qj Tryz.f6 false true false false):=by
 refine vX (C:=Tryz.checked) (X:=fun w _=>laidMetH qj jJ w) (fun _ _ _ hh h=>h.of_heap hh) q5L started (by kernel_rfl) Tryz.func6
  (ChangeSpec.witness_shaped (enc:=enc) (C:=Tryz.checked) (os:=os) (X:=fun w _=>laidMetH qj jJ w) false (World.laidAll qj os jJ) #[.agg #[.slice none 0 0,.slice none 0 0,.slice none 0 0,.slice none 0 0,.slice none 0 0],.agg #[.slice none 0 0,.slice none 0 0,.slice none 0 0,.slice none 0 0,.slice none 0 0]] 12 (World.laidAll_os _ _ _)
    (World.shaped_of_ZipB (by kernel_rfl) (by kernel_rfl)) (by kernel_rfl) (by kernel_rfl) (by kernel_rfl)
    (by rw [MakeChecks.laidMetH_plain _ _ _ (by kernel_rfl)];exact laidMet_laidAll _ (by kernel_rfl) (by kernel_rfl))) ?_
 intro W base args ds gs before hval0 hW hL hsh;have hvars:=KF hsh hL;have hval: ∀(j:Nat) t v,Tryz.f6.params[j]? =some t->args[j]? =some v->Value.okWide qj W .any base t v:=hval0;have hW':=hW;obtain⟨p,q,hA0,hV,rfl,hfz,hnd⟩:=hW;have hA:DataW.TrodAll enc qj W 0 (fun _=>true) true Tryz.f6.params.toList args.toList ds p:=hA0;rw [Tryz.params6]at hA hval;obtain⟨v0,vs0,d0,ds0,p0,q0,hargs,rfl,rfl,h0,r0⟩:=trodAll_cons hA;obtain⟨v1,vs1,d1,ds1,p1,q1,rfl,rfl,rfl,h1,r1⟩:=trodAll_cons r0;obtain⟨rfl,rfl,rfl⟩:=trodAll_nil r1;obtain rfl:args= #[v0,v1]:=by cases args;simp_all
 obtain⟨rfl,rfl⟩:=trodVars_none hV;have k0:=h0;have lt0: ∀x∈p0,x.block<W.heap.size:=by obtain⟨m,hm⟩:=k0;exact DataW.trod_lt m _ _ _ hm
 obtain⟨m0,rd0,rg0,wf0⟩: ∃m:Mod,RdMod (fun g=>g<W.heap.size) W v0 m/\Q8 m/\WfM (fun g=>g<W.heap.size) W v0 m:=by
  obtain⟨cs,rfl,-⟩:=okWide_struct Tryz.underlying28 (hval 0 28 v0 rfl rfl);obtain⟨fuel,hf⟩:=h0;exact q1q (by simpa [Value.cells]using hf)
 have k1:=h1;have lt1: ∀x∈p1,x.block<W.heap.size:=by obtain⟨m,hm⟩:=k1;exact DataW.trod_lt m _ _ _ hm
 obtain⟨m1,rd1,rg1,wf1⟩: ∃m:Mod,RdMod (fun g=>g<W.heap.size) W v1 m/\Q8 m/\WfM (fun g=>g<W.heap.size) W v1 m:=by
  obtain⟨cs,rfl,-⟩:=okWide_struct Tryz.underlying28 (hval 1 28 v1 rfl rfl);obtain⟨fuel,hf⟩:=h1;exact q1q (by simpa [Value.cells]using hf)
 clear hA0 hval0;refine(q8N rd0 (fun _ hg=>hg) rg0 wf0 rd1 (fun _ hg=>hg) rg1 wf1 hvars).mono fun e W' ⟨he,bel⟩=> ?_;subst he;exact⟨_,rfl,_,_,_,[],_,[],hW',trodAll_mk1 (shut_bool Tryz.underlying4 _),trodAll_cons_mk (Below.trod laidOut (by kernel_rfl) (of_decide_eq_true (by kernel_rfl)) k0 bel.below lt0) (trodAll_cons_mk (Below.trod laidOut (by kernel_rfl) (of_decide_eq_true (by kernel_rfl)) k1 bel.below lt1) trodAll_mk0),rfl,bel.below.frame _,fun h=>by cases h⟩
theorem q99:(Rows.modelChecksRow.inPlace==qj.inPlace 6)=true:=by unfold Program.inPlace;rw [Q2];kernel_rfl
theorem q8Z:(Rows.modelChecksRow.unfollowed==qj.unfollowed 6)=true:=by unfold Program.unfollowed;rw [Q2];kernel_rfl
theorem q98:(Rows.modelChecksRow.named==qj.varsNamed 6)=true:=by unfold Program.varsNamed;rw [Q2];kernel_rfl
theorem q97:(Rows.modelChecksRow.recurses==qj.recurses 6)=true:=by
 have h:qj.unfollowed 6=true:=(beq_iff_eq.1 q8Z).symm;unfold Program.recurses;rw [h,Bool.true_or];rfl
theorem q8V:joinedFacts qj 6 Tryz.f6 Rows.modelChecksSpec Rows.modelChecksRow=true:=by
 unfold joinedFacts;refine j7 (j7 (j7 (j7 (j7 (j7 (j7 (j7 (j7 (j7 (j7 (j7 (j7 (j7 (j7 (j7 (j7 (j7 (j7 (j7 (j7 (j7 (j7 (j7 (j7 (j7 (j7 (j7 (j7 (j7 (j7 ?_ Jl) Qo) ?_) ?_) ?_) q0v) ?_) q1w) q99) q8Z) q97) q98) ?_) ?_) ?_) ?_) ?_) ?_) ?_) ?_) ?_) Qh) ?_) q1B) q20) VP) q62) ?_) ?_) ?_) ?_;all_goals as_aux_lemma=>kernel_rfl
theorem q8X:Rows.modelChecksRow.holds Tryz.pinned (OpenSpec.ofChange Rows.modelChecksSpec):=
 OpenClaim.holds_of_wide 6 Tryz.f6 rfl rfl rfl rfl rfl rfl rfl ⟨rfl,rfl,rfl,rfl,rfl⟩ rfl rfl rfl rfl rfl (by as_aux_lemma=>kernel_rfl) Tryz.func6 q8V
  (of_decide_eq_true (by as_aux_lemma=>kernel_rfl)) (by unfold Func.isWrapper;first|(rw [if_pos (by decide+kernel)];kernel_rfl)|(rw [if_neg (by decide+kernel)];exact⟨rfl,rfl⟩))
  (fun os started H enc _=>q8U os started H enc)
theorem modelChecks_holds:Rows.ModelChecksCardSaid:=
 Claim7.holds_tied_plain_at .later [] _ _ _ _ q8X (fun _ h=>by cases h) (by as_aux_lemma=>kernel_rfl) (fun _ h=>by cases h) modelChecks_row_tie rfl ⟨rfl,rfl⟩ (by as_aux_lemma=>kernel_rfl) rfl
  (fun f fn hf hfn=>by
    obtain rfl:f=6:=Option.some.inj ((show qj.funcNamed "motley/motleylaw03.ModelChecks"=some 6 by as_aux_lemma=>kernel_rfl).symm.trans hf)|>.symm
    obtain rfl:fn=Tryz.f6:=(Option.some.inj (Tryz.func6.symm.trans hfn)).symm;exact⟨by as_aux_lemma=>kernel_rfl,fun j t ht=>by
     rw [Tryz.params6]at ht;have hm:t∈[28,28]:=by simpa using Array.mem_of_getElem? ht
     have hall:([28,28].all fun u=> !qj.wantsStandIn u)=true:=by as_aux_lemma=>kernel_rfl
     exact(show qj.wantsStandIn t=false by simpa using List.all_eq_true.1 hall t hm)⟩)
  (by as_aux_lemma=>kernel_rfl)
end Go.Proofs.YtjcbmcnbdegpmaaGreatDoor
