/- MFacts. -/
import Derived.Test.YtjcbmcnbdegpmaaGreatDoorKMClo
set_option maxRecDepth 100000
set_option maxHeartbeats 12800000
set_option linter.unusedVariables false
open Go.Proofs.Tryz renaming prog->qj
open Go.Value renaming slice->vd,int->ve,string->vf,pointer->vg,agg->vi,bool->vj
open Go.Obj renaming cells->vk
open Go.Ending renaming returned->vm
open Go.IntKind renaming i64->vp,u8->vq,u32->vr,u64->vt
open Or renaming inl->vu,inr->vv
namespace Go.Proofs.YtjcbmcnbdegpmaaGreatDoor
theorem Jl:laidOutB qj=true:=by kernel_rfl
theorem Qo:mapsRowed qj=true:=by kernel_rfl
theorem q0v:(qj.stops==[])=true:=by kernel_rfl
theorem q1w:(qj.stopKnobs==[])=true:=by kernel_rfl
theorem Qh:(false==qj.plainKeys)=true:=by kernel_rfl
theorem q1B:qj.stopsHeard=true:=by kernel_rfl
theorem q20:qj.mayEnter=true:=by kernel_rfl
theorem VP:(Rows.modelBackRow.lifted==qj.liftsFinal)=true:=by kernel_rfl
theorem q62:(qj.make==some Rows.modelBackRow.make)=true:=by kernel_rfl
end Go.Proofs.YtjcbmcnbdegpmaaGreatDoor
