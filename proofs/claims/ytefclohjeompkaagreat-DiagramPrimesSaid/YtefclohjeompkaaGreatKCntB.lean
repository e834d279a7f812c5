/- CntB: what is needed of it. -/
import Derived.Maps.OwnSet
import Derived.WalkKit
import Derived.Deep.QuietTactic
import Derived.Test.YtefclohjeompkaaGreatProg
import Derived.KernelRfl
import Derived.DeepKeys4
import Derived.Deep.RegionLaw
import Derived.StillTailTactics
import Derived.Maps.AppendAt
import Derived.WalkSpells
import Derived.WalkLawsBesides
import Derived.BigQuiet
import Derived.Lib.Hide
import Derived.Deep.DeepCutAuto
import Derived.Laws.EntriesVeiled
import Derived.Deep.RegionHeld3
import Derived.Laws.OwnMore
import Derived.Deep.Slices
import Derived.Lib.BitFns
import Derived.IntWalk
import Derived.RangeFuncNested
import Derived.RangeFuncBound
import Derived.RangeFuncCalls
import Derived.RangeFuncLeaves
import Derived.Shelf.Abstract
import Derived.Shelf.RegionOpen
import Derived.OwnWalkIn
import Derived.TacticsInMore
import Derived.LoopNIn
import Derived.LoopIn
import Derived.Laws.CopyOwn
import Derived.Laws.BitsAllLaws
import Derived.Test.YtefclohjeompkaaGreatKTreeC
import Derived.Test.YtefclohjeompkaaGreatKRep
import Derived.Test.YtefclohjeompkaaGreatKJoinD
import Derived.Test.YtefclohjeompkaaGreatKCmpA
import Derived.Test.YtefclohjeompkaaGreatKRefH
import Derived.Test.YtefclohjeompkaaGreatKOfB
import Derived.Test.YtefclohjeompkaaGreatKAlike
import Derived.Test.YtefclohjeompkaaGreatKBetA
import Derived.Test.YtefclohjeompkaaGreatKBetB
import Derived.Test.YtefclohjeompkaaGreatKLinF
import Derived.Test.YtefclohjeompkaaGreatKLinH
import Derived.Test.YtefclohjeompkaaGreatKLinJ
import Derived.Test.YtefclohjeompkaaGreatKSteps3
import Derived.Test.YtefclohjeompkaaGreatKFAll
import Derived.Test.YtefclohjeompkaaGreatKOpenA
import Derived.Test.YtefclohjeompkaaGreatKColl
import Derived.Test.YtefclohjeompkaaGreatKRefW
import Derived.Test.YtefclohjeompkaaGreatKPrimB
namespace Go.Proofs.YtefclohjeompkaaGreat
open Go Go.RowKit Go.Proofs.Gen Go.Proofs.Bdd Go.Proofs.Bdd.T
theorem rsupp_says {w : World} {v : Value} {f : F} {s : Nat} (h : IsG w v f) (hs : ∀ i, s.testBit i = dep f i) : Calls Tryz.prog 11 #[v] w fun e w' => e = .returned (.int .u32 (s : Nat)) ∧ Near w w' := by
  obtain ⟨V, h⟩ := h
  have : numb (deps f V) = s := by
    apply Nat.eq_of_testBit_eq
    intro i
    rw [numb_bit, hs, Bool.eq_iff_iff]
    simp only [deps, List.contains_iff_mem, List.mem_filter]
    exact ⟨fun h' => h'.2, fun h' => ⟨dep_mem h h', h'⟩⟩
  rw [← this]
  exact rsupport_calls h

end Go.Proofs.YtefclohjeompkaaGreat
