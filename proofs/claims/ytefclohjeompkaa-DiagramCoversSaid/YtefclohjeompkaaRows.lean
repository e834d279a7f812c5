/-
  No cell of these rows narrows 'for every input' (looked for: loops, veiled, ifaces, maps, wideKeys, modest, calm, conditions, laid).
  DERIVED. THE GIVEN ROWS OF THIS SEAT. 14 by the template 'for every input the law returns true; each argument reads behind the call as it read before'; 0 by the template 'total and deterministic' (their statements: YtefclohjeompkaaTotals.lean).
  GIVEN WITH THE SEED: the statements are not yours to turn. If you find one false, say at which input.
  Laid BY PROGRAM, IN A SANDBOX (cutbox-rows.mjs): the forced cells as the released guide's own fill.sh prints them over the translation fce1baff3469f7d7… (all of the seat's roots in one cut). By AI agents, Wed Nov 11 2026. No macro, syntax, notation, axiom, sorry.
-/
import Derived.Test.YtefclohjeompkaaChecked
import GoSem.Claim
import GoSem.ClaimJoined
import GoSem.ClaimMapViews
import Derived.JoinedTies
import Derived.KernelRfl
namespace Go.Proofs.Ytefclohjeompkaa
/- THE CELL 'sum', in the pinned program and in every row, IS THE sha256 OF THE DUMP (.gsa) THAT YtefclohjeompkaaProg.lean LOADS. Nothing in Lean hashes anything: it is a label: what it is worth is what the hold of that sum in a sandbox is worth. -/
noncomputable def Try.pinned : Pinned := { name := "ytefclohjeompkaa", sum := "fce1baff3469f7d7c849208ab9c2e9ac9de6fc84927d7596a0190d807afed9c5", checked := Try.checked }
namespace Rows
def none {H : Type} : Left H := { results := [], args := [] }

/-- 'motleylaw01.DiagramOf': WHATEVER THE INPUT: true; the input reads as it did. -/
def diagramOfSpec : ChangeSpec := { name := "diagramOf", fn := fun _ => fun
  | [d1, d2] => { results := [.lit (.bool true)], args := [d1, d2] }
  | _ => none }
def diagramOfRow : OpenClaim := { program := "ytefclohjeompkaa", sum := "fce1baff3469f7d7c849208ab9c2e9ac9de6fc84927d7596a0190d807afed9c5", func := "motley/motleylaw01.DiagramOf", spec := "diagramOf", unfollowed := true, recurses := true, plainKeys := false, apart := false }
def DiagramOfSaid : Prop := diagramOfRow.holds Try.pinned (OpenSpec.ofChange diagramOfSpec)

/-- ITS FALSE NEIGHBOUR: 'it returns false'. Refute it at one input. -/
def diagramOfWrong : ChangeSpec := { name := "diagramOf", fn := fun _ => fun
  | [d1, d2] => { results := [.lit (.bool false)], args := [d1, d2] }
  | _ => none }
def DiagramOfWrongFalsely : Prop := diagramOfRow.holds Try.pinned (OpenSpec.ofChange diagramOfWrong)

/-- 'motleylaw01.DiagramBuilds': WHATEVER THE INPUT: true; the input reads as it did. -/
def diagramBuildsSpec : ChangeSpec := { name := "diagramBuilds", fn := fun _ => fun
  | [d] => { results := [.lit (.bool true)], args := [d] }
  | _ => none }
def diagramBuildsRow : OpenClaim := { program := "ytefclohjeompkaa", sum := "fce1baff3469f7d7c849208ab9c2e9ac9de6fc84927d7596a0190d807afed9c5", func := "motley/motleylaw01.DiagramBuilds", spec := "diagramBuilds", unfollowed := true, recurses := true, plainKeys := false, apart := false }
def DiagramBuildsSaid : Prop := diagramBuildsRow.holds Try.pinned (OpenSpec.ofChange diagramBuildsSpec)

/-- ITS FALSE NEIGHBOUR: 'it returns false'. Refute it at one input. -/
def diagramBuildsWrong : ChangeSpec := { name := "diagramBuilds", fn := fun _ => fun
  | [d] => { results := [.lit (.bool false)], args := [d] }
  | _ => none }
def DiagramBuildsWrongFalsely : Prop := diagramBuildsRow.holds Try.pinned (OpenSpec.ofChange diagramBuildsWrong)

/-- 'motleylaw01.DiagramFolds': WHATEVER THE INPUT: true; the input reads as it did. -/
def diagramFoldsSpec : ChangeSpec := { name := "diagramFolds", fn := fun _ => fun
  | [d] => { results := [.lit (.bool true)], args := [d] }
  | _ => none }
def diagramFoldsRow : OpenClaim := { program := "ytefclohjeompkaa", sum := "fce1baff3469f7d7c849208ab9c2e9ac9de6fc84927d7596a0190d807afed9c5", func := "motley/motleylaw01.DiagramFolds", spec := "diagramFolds", unfollowed := true, recurses := true, plainKeys := false, apart := false }
def DiagramFoldsSaid : Prop := diagramFoldsRow.holds Try.pinned (OpenSpec.ofChange diagramFoldsSpec)

/-- ITS FALSE NEIGHBOUR: 'it returns false'. Refute it at one input. -/
def diagramFoldsWrong : ChangeSpec := { name := "diagramFolds", fn := fun _ => fun
  | [d] => { results := [.lit (.bool false)], args := [d] }
  | _ => none }
def DiagramFoldsWrongFalsely : Prop := diagramFoldsRow.holds Try.pinned (OpenSpec.ofChange diagramFoldsWrong)

/-- 'motleylaw01.DiagramCounts': WHATEVER THE INPUT: true; the input reads as it did. -/
def diagramCountsSpec : ChangeSpec := { name := "diagramCounts", fn := fun _ => fun
  | [d1, d2] => { results := [.lit (.bool true)], args := [d1, d2] }
  | _ => none }
def diagramCountsRow : OpenClaim := { program := "ytefclohjeompkaa", sum := "fce1baff3469f7d7c849208ab9c2e9ac9de6fc84927d7596a0190d807afed9c5", func := "motley/motleylaw01.DiagramCounts", spec := "diagramCounts", unfollowed := true, recurses := true, plainKeys := false, apart := false }
def DiagramCountsSaid : Prop := diagramCountsRow.holds Try.pinned (OpenSpec.ofChange diagramCountsSpec)

/-- ITS FALSE NEIGHBOUR: 'it returns false'. Refute it at one input. -/
def diagramCountsWrong : ChangeSpec := { name := "diagramCounts", fn := fun _ => fun
  | [d1, d2] => { results := [.lit (.bool false)], args := [d1, d2] }
  | _ => none }
def DiagramCountsWrongFalsely : Prop := diagramCountsRow.holds Try.pinned (OpenSpec.ofChange diagramCountsWrong)

/-- 'motleylaw01.DiagramAdds': WHATEVER THE INPUT: true; the input reads as it did. -/
def diagramAddsSpec : ChangeSpec := { name := "diagramAdds", fn := fun _ => fun
  | [d] => { results := [.lit (.bool true)], args := [d] }
  | _ => none }
def diagramAddsRow : OpenClaim := { program := "ytefclohjeompkaa", sum := "fce1baff3469f7d7c849208ab9c2e9ac9de6fc84927d7596a0190d807afed9c5", func := "motley/motleylaw01.DiagramAdds", spec := "diagramAdds", unfollowed := true, recurses := true, plainKeys := false, apart := false }
def DiagramAddsSaid : Prop := diagramAddsRow.holds Try.pinned (OpenSpec.ofChange diagramAddsSpec)

/-- ITS FALSE NEIGHBOUR: 'it returns false'. Refute it at one input. -/
def diagramAddsWrong : ChangeSpec := { name := "diagramAdds", fn := fun _ => fun
  | [d] => { results := [.lit (.bool false)], args := [d] }
  | _ => none }
def DiagramAddsWrongFalsely : Prop := diagramAddsRow.holds Try.pinned (OpenSpec.ofChange diagramAddsWrong)

/-- 'motleylaw01.DiagramNodes': WHATEVER THE INPUT: true; the input reads as it did. -/
def diagramNodesSpec : ChangeSpec := { name := "diagramNodes", fn := fun _ => fun
  | [d] => { results := [.lit (.bool true)], args := [d] }
  | _ => none }
def diagramNodesRow : OpenClaim := { program := "ytefclohjeompkaa", sum := "fce1baff3469f7d7c849208ab9c2e9ac9de6fc84927d7596a0190d807afed9c5", func := "motley/motleylaw01.DiagramNodes", spec := "diagramNodes", unfollowed := true, recurses := true, plainKeys := false, apart := false }
def DiagramNodesSaid : Prop := diagramNodesRow.holds Try.pinned (OpenSpec.ofChange diagramNodesSpec)

/-- ITS FALSE NEIGHBOUR: 'it returns false'. Refute it at one input. -/
def diagramNodesWrong : ChangeSpec := { name := "diagramNodes", fn := fun _ => fun
  | [d] => { results := [.lit (.bool false)], args := [d] }
  | _ => none }
def DiagramNodesWrongFalsely : Prop := diagramNodesRow.holds Try.pinned (OpenSpec.ofChange diagramNodesWrong)

/-- 'motleylaw01.DiagramLists': WHATEVER THE INPUT: true; the input reads as it did. -/
def diagramListsSpec : ChangeSpec := { name := "diagramLists", fn := fun _ => fun
  | [d1, d2, d3] => { results := [.lit (.bool true)], args := [d1, d2, d3] }
  | _ => none }
def diagramListsRow : OpenClaim := { program := "ytefclohjeompkaa", sum := "fce1baff3469f7d7c849208ab9c2e9ac9de6fc84927d7596a0190d807afed9c5", func := "motley/motleylaw01.DiagramLists", spec := "diagramLists", unfollowed := true, recurses := true, plainKeys := false, apart := false }
def DiagramListsSaid : Prop := diagramListsRow.holds Try.pinned (OpenSpec.ofChange diagramListsSpec)

/-- ITS FALSE NEIGHBOUR: 'it returns false'. Refute it at one input. -/
def diagramListsWrong : ChangeSpec := { name := "diagramLists", fn := fun _ => fun
  | [d1, d2, d3] => { results := [.lit (.bool false)], args := [d1, d2, d3] }
  | _ => none }
def DiagramListsWrongFalsely : Prop := diagramListsRow.holds Try.pinned (OpenSpec.ofChange diagramListsWrong)

/-- 'motleylaw01.DiagramFixes': WHATEVER THE INPUT: true; the input reads as it did. -/
def diagramFixesSpec : ChangeSpec := { name := "diagramFixes", fn := fun _ => fun
  | [d1, d2, d3] => { results := [.lit (.bool true)], args := [d1, d2, d3] }
  | _ => none }
def diagramFixesRow : OpenClaim := { program := "ytefclohjeompkaa", sum := "fce1baff3469f7d7c849208ab9c2e9ac9de6fc84927d7596a0190d807afed9c5", func := "motley/motleylaw01.DiagramFixes", spec := "diagramFixes", unfollowed := true, recurses := true, plainKeys := false, apart := false }
def DiagramFixesSaid : Prop := diagramFixesRow.holds Try.pinned (OpenSpec.ofChange diagramFixesSpec)

/-- ITS FALSE NEIGHBOUR: 'it returns false'. Refute it at one input. -/
def diagramFixesWrong : ChangeSpec := { name := "diagramFixes", fn := fun _ => fun
  | [d1, d2, d3] => { results := [.lit (.bool false)], args := [d1, d2, d3] }
  | _ => none }
def DiagramFixesWrongFalsely : Prop := diagramFixesRow.holds Try.pinned (OpenSpec.ofChange diagramFixesWrong)

/-- 'motleylaw01.DiagramAlgebra': WHATEVER THE INPUT: true; the input reads as it did. -/
def diagramAlgebraSpec : ChangeSpec := { name := "diagramAlgebra", fn := fun _ => fun
  | [d] => { results := [.lit (.bool true)], args := [d] }
  | _ => none }
def diagramAlgebraRow : OpenClaim := { program := "ytefclohjeompkaa", sum := "fce1baff3469f7d7c849208ab9c2e9ac9de6fc84927d7596a0190d807afed9c5", func := "motley/motleylaw01.DiagramAlgebra", spec := "diagramAlgebra", unfollowed := true, recurses := true, plainKeys := false, apart := false }
def DiagramAlgebraSaid : Prop := diagramAlgebraRow.holds Try.pinned (OpenSpec.ofChange diagramAlgebraSpec)

/-- ITS FALSE NEIGHBOUR: 'it returns false'. Refute it at one input. -/
def diagramAlgebraWrong : ChangeSpec := { name := "diagramAlgebra", fn := fun _ => fun
  | [d] => { results := [.lit (.bool false)], args := [d] }
  | _ => none }
def DiagramAlgebraWrongFalsely : Prop := diagramAlgebraRow.holds Try.pinned (OpenSpec.ofChange diagramAlgebraWrong)

/-- 'motleylaw01.DiagramAsks': WHATEVER THE INPUT: true; the input reads as it did. -/
def diagramAsksSpec : ChangeSpec := { name := "diagramAsks", fn := fun _ => fun
  | [d1, d2, d3] => { results := [.lit (.bool true)], args := [d1, d2, d3] }
  | _ => none }
def diagramAsksRow : OpenClaim := { program := "ytefclohjeompkaa", sum := "fce1baff3469f7d7c849208ab9c2e9ac9de6fc84927d7596a0190d807afed9c5", func := "motley/motleylaw01.DiagramAsks", spec := "diagramAsks", unfollowed := true, recurses := true, plainKeys := false, apart := false }
def DiagramAsksSaid : Prop := diagramAsksRow.holds Try.pinned (OpenSpec.ofChange diagramAsksSpec)

/-- ITS FALSE NEIGHBOUR: 'it returns false'. Refute it at one input. -/
def diagramAsksWrong : ChangeSpec := { name := "diagramAsks", fn := fun _ => fun
  | [d1, d2, d3] => { results := [.lit (.bool false)], args := [d1, d2, d3] }
  | _ => none }
def DiagramAsksWrongFalsely : Prop := diagramAsksRow.holds Try.pinned (OpenSpec.ofChange diagramAsksWrong)

/-- 'motleylaw01.DiagramBest': WHATEVER THE INPUT: true; the input reads as it did. -/
def diagramBestSpec : ChangeSpec := { name := "diagramBest", fn := fun _ => fun
  | [d1, d2, d3] => { results := [.lit (.bool true)], args := [d1, d2, d3] }
  | _ => none }
def diagramBestRow : OpenClaim := { program := "ytefclohjeompkaa", sum := "fce1baff3469f7d7c849208ab9c2e9ac9de6fc84927d7596a0190d807afed9c5", func := "motley/motleylaw01.DiagramBest", spec := "diagramBest", unfollowed := true, recurses := true, plainKeys := false, apart := false }
def DiagramBestSaid : Prop := diagramBestRow.holds Try.pinned (OpenSpec.ofChange diagramBestSpec)

/-- ITS FALSE NEIGHBOUR: 'it returns false'. Refute it at one input. -/
def diagramBestWrong : ChangeSpec := { name := "diagramBest", fn := fun _ => fun
  | [d1, d2, d3] => { results := [.lit (.bool false)], args := [d1, d2, d3] }
  | _ => none }
def DiagramBestWrongFalsely : Prop := diagramBestRow.holds Try.pinned (OpenSpec.ofChange diagramBestWrong)

/-- 'motleylaw01.DiagramPicks': WHATEVER THE INPUT: true; the input reads as it did. -/
def diagramPicksSpec : ChangeSpec := { name := "diagramPicks", fn := fun _ => fun
  | [d1, d2, d3] => { results := [.lit (.bool true)], args := [d1, d2, d3] }
  | _ => none }
def diagramPicksRow : OpenClaim := { program := "ytefclohjeompkaa", sum := "fce1baff3469f7d7c849208ab9c2e9ac9de6fc84927d7596a0190d807afed9c5", func := "motley/motleylaw01.DiagramPicks", spec := "diagramPicks", unfollowed := true, recurses := true, plainKeys := false, apart := false }
def DiagramPicksSaid : Prop := diagramPicksRow.holds Try.pinned (OpenSpec.ofChange diagramPicksSpec)

/-- ITS FALSE NEIGHBOUR: 'it returns false'. Refute it at one input. -/
def diagramPicksWrong : ChangeSpec := { name := "diagramPicks", fn := fun _ => fun
  | [d1, d2, d3] => { results := [.lit (.bool false)], args := [d1, d2, d3] }
  | _ => none }
def DiagramPicksWrongFalsely : Prop := diagramPicksRow.holds Try.pinned (OpenSpec.ofChange diagramPicksWrong)

/-- 'motleylaw01.DiagramWide': WHATEVER THE INPUT: true; the input reads as it did. -/
def diagramWideSpec : ChangeSpec := { name := "diagramWide", fn := fun _ => fun
  | [d] => { results := [.lit (.bool true)], args := [d] }
  | _ => none }
def diagramWideRow : OpenClaim := { program := "ytefclohjeompkaa", sum := "fce1baff3469f7d7c849208ab9c2e9ac9de6fc84927d7596a0190d807afed9c5", func := "motley/motleylaw01.DiagramWide", spec := "diagramWide", unfollowed := true, recurses := true, plainKeys := false, apart := false }
def DiagramWideSaid : Prop := diagramWideRow.holds Try.pinned (OpenSpec.ofChange diagramWideSpec)

/-- ITS FALSE NEIGHBOUR: 'it returns false'. Refute it at one input. -/
def diagramWideWrong : ChangeSpec := { name := "diagramWide", fn := fun _ => fun
  | [d] => { results := [.lit (.bool false)], args := [d] }
  | _ => none }
def DiagramWideWrongFalsely : Prop := diagramWideRow.holds Try.pinned (OpenSpec.ofChange diagramWideWrong)

/-- 'motleylaw01.DiagramCovers': WHATEVER THE INPUT: true; the input reads as it did. -/
def diagramCoversSpec : ChangeSpec := { name := "diagramCovers", fn := fun _ => fun
  | [d] => { results := [.lit (.bool true)], args := [d] }
  | _ => none }
def diagramCoversRow : OpenClaim := { program := "ytefclohjeompkaa", sum := "fce1baff3469f7d7c849208ab9c2e9ac9de6fc84927d7596a0190d807afed9c5", func := "motley/motleylaw01.DiagramCovers", spec := "diagramCovers", unfollowed := true, recurses := true, plainKeys := false, apart := false }
def DiagramCoversSaid : Prop := diagramCoversRow.holds Try.pinned (OpenSpec.ofChange diagramCoversSpec)

/-- ITS FALSE NEIGHBOUR: 'it returns false'. Refute it at one input. -/
def diagramCoversWrong : ChangeSpec := { name := "diagramCovers", fn := fun _ => fun
  | [d] => { results := [.lit (.bool false)], args := [d] }
  | _ => none }
def DiagramCoversWrongFalsely : Prop := diagramCoversRow.holds Try.pinned (OpenSpec.ofChange diagramCoversWrong)

/- THE SECOND FORM. 'bulk': how many values and letters a reading holds, each counted each time it is reached (what is shared counts as often as it is met; a slice's spare places count too). A statement '..UptoSaid' is the law's where the arguments, and the package variables that the reading takes, are together of bulk at most 1048576: NARROWER than '..Said'. Prove '..Said' where nothing that the law and all that it calls make is longer than what came in: it says more and counts as full. Else prove '..UptoSaid'. A law counts once. -/
mutual
def uptoBulk {H : Type} : DataW H → Nat
  | .lit (.string bytes) => bytes.length + 1
  | .lit _ => 1
  | .nil => 1
  | .ptr d => uptoBulk d + 1
  | .slice elems spare => uptoBulkAll elems + uptoBulkAll spare + 1
  | .agg parts => uptoBulkAll parts + 1
  | .iface _ d => uptoBulk d + 1
  | .map entries => uptoBulkEntries entries + 1
  | .held _ => 1
def uptoBulkAll {H : Type} : List (DataW H) → Nat
  | [] => 0
  | d :: r => uptoBulk d + uptoBulkAll r
def uptoBulkEntries {H : Type} : List (Lit × DataW H) → Nat
  | [] => 0
  | x :: r => uptoBulkEntry x + uptoBulkEntries r
def uptoBulkEntry {H : Type} : Lit × DataW H → Nat
  | (.string bytes, d) => bytes.length + uptoBulk d + 1
  | (_, d) => uptoBulk d + 1
 end
def uptoSmall : (H : Type) → List (DataW H) → Bool := fun _ ds => decide (uptoBulkAll ds ≤ 1048576)
def OpenSpec.upto (s : _root_.Go.ChangeSpec) : _root_.Go.OpenSpec := { _root_.Go.OpenSpec.ofChange s with cond := some uptoSmall }

/-- 'motleylaw01.DiagramOf', WHERE WHAT IT READS IS OF BULK AT MOST 1048576: true; the input reads as it did. -/
def diagramOfUptoRow : OpenClaim := { program := "ytefclohjeompkaa", sum := "fce1baff3469f7d7c849208ab9c2e9ac9de6fc84927d7596a0190d807afed9c5", func := "motley/motleylaw01.DiagramOf", spec := "diagramOf", unfollowed := true, recurses := true, plainKeys := false, apart := false, narrowed := true }
def DiagramOfUptoSaid : Prop := diagramOfUptoRow.holds Try.pinned (OpenSpec.upto diagramOfSpec)

/-- 'motleylaw01.DiagramBuilds', WHERE WHAT IT READS IS OF BULK AT MOST 1048576: true; the input reads as it did. -/
def diagramBuildsUptoRow : OpenClaim := { program := "ytefclohjeompkaa", sum := "fce1baff3469f7d7c849208ab9c2e9ac9de6fc84927d7596a0190d807afed9c5", func := "motley/motleylaw01.DiagramBuilds", spec := "diagramBuilds", unfollowed := true, recurses := true, plainKeys := false, apart := false, narrowed := true }
def DiagramBuildsUptoSaid : Prop := diagramBuildsUptoRow.holds Try.pinned (OpenSpec.upto diagramBuildsSpec)

/-- 'motleylaw01.DiagramFolds', WHERE WHAT IT READS IS OF BULK AT MOST 1048576: true; the input reads as it did. -/
def diagramFoldsUptoRow : OpenClaim := { program := "ytefclohjeompkaa", sum := "fce1baff3469f7d7c849208ab9c2e9ac9de6fc84927d7596a0190d807afed9c5", func := "motley/motleylaw01.DiagramFolds", spec := "diagramFolds", unfollowed := true, recurses := true, plainKeys := false, apart := false, narrowed := true }
def DiagramFoldsUptoSaid : Prop := diagramFoldsUptoRow.holds Try.pinned (OpenSpec.upto diagramFoldsSpec)

/-- 'motleylaw01.DiagramCounts', WHERE WHAT IT READS IS OF BULK AT MOST 1048576: true; the input reads as it did. -/
def diagramCountsUptoRow : OpenClaim := { program := "ytefclohjeompkaa", sum := "fce1baff3469f7d7c849208ab9c2e9ac9de6fc84927d7596a0190d807afed9c5", func := "motley/motleylaw01.DiagramCounts", spec := "diagramCounts", unfollowed := true, recurses := true, plainKeys := false, apart := false, narrowed := true }
def DiagramCountsUptoSaid : Prop := diagramCountsUptoRow.holds Try.pinned (OpenSpec.upto diagramCountsSpec)

/-- 'motleylaw01.DiagramAdds', WHERE WHAT IT READS IS OF BULK AT MOST 1048576: true; the input reads as it did. -/
def diagramAddsUptoRow : OpenClaim := { program := "ytefclohjeompkaa", sum := "fce1baff3469f7d7c849208ab9c2e9ac9de6fc84927d7596a0190d807afed9c5", func := "motley/motleylaw01.DiagramAdds", spec := "diagramAdds", unfollowed := true, recurses := true, plainKeys := false, apart := false, narrowed := true }
def DiagramAddsUptoSaid : Prop := diagramAddsUptoRow.holds Try.pinned (OpenSpec.upto diagramAddsSpec)

/-- 'motleylaw01.DiagramNodes', WHERE WHAT IT READS IS OF BULK AT MOST 1048576: true; the input reads as it did. -/
def diagramNodesUptoRow : OpenClaim := { program := "ytefclohjeompkaa", sum := "fce1baff3469f7d7c849208ab9c2e9ac9de6fc84927d7596a0190d807afed9c5", func := "motley/motleylaw01.DiagramNodes", spec := "diagramNodes", unfollowed := true, recurses := true, plainKeys := false, apart := false, narrowed := true }
def DiagramNodesUptoSaid : Prop := diagramNodesUptoRow.holds Try.pinned (OpenSpec.upto diagramNodesSpec)

/-- 'motleylaw01.DiagramLists', WHERE WHAT IT READS IS OF BULK AT MOST 1048576: true; the input reads as it did. -/
def diagramListsUptoRow : OpenClaim := { program := "ytefclohjeompkaa", sum := "fce1baff3469f7d7c849208ab9c2e9ac9de6fc84927d7596a0190d807afed9c5", func := "motley/motleylaw01.DiagramLists", spec := "diagramLists", unfollowed := true, recurses := true, plainKeys := false, apart := false, narrowed := true }
def DiagramListsUptoSaid : Prop := diagramListsUptoRow.holds Try.pinned (OpenSpec.upto diagramListsSpec)

/-- 'motleylaw01.DiagramFixes', WHERE WHAT IT READS IS OF BULK AT MOST 1048576: true; the input reads as it did. -/
def diagramFixesUptoRow : OpenClaim := { program := "ytefclohjeompkaa", sum := "fce1baff3469f7d7c849208ab9c2e9ac9de6fc84927d7596a0190d807afed9c5", func := "motley/motleylaw01.DiagramFixes", spec := "diagramFixes", unfollowed := true, recurses := true, plainKeys := false, apart := false, narrowed := true }
def DiagramFixesUptoSaid : Prop := diagramFixesUptoRow.holds Try.pinned (OpenSpec.upto diagramFixesSpec)

/-- 'motleylaw01.DiagramAlgebra', WHERE WHAT IT READS IS OF BULK AT MOST 1048576: true; the input reads as it did. -/
def diagramAlgebraUptoRow : OpenClaim := { program := "ytefclohjeompkaa", sum := "fce1baff3469f7d7c849208ab9c2e9ac9de6fc84927d7596a0190d807afed9c5", func := "motley/motleylaw01.DiagramAlgebra", spec := "diagramAlgebra", unfollowed := true, recurses := true, plainKeys := false, apart := false, narrowed := true }
def DiagramAlgebraUptoSaid : Prop := diagramAlgebraUptoRow.holds Try.pinned (OpenSpec.upto diagramAlgebraSpec)

/-- 'motleylaw01.DiagramAsks', WHERE WHAT IT READS IS OF BULK AT MOST 1048576: true; the input reads as it did. -/
def diagramAsksUptoRow : OpenClaim := { program := "ytefclohjeompkaa", sum := "fce1baff3469f7d7c849208ab9c2e9ac9de6fc84927d7596a0190d807afed9c5", func := "motley/motleylaw01.DiagramAsks", spec := "diagramAsks", unfollowed := true, recurses := true, plainKeys := false, apart := false, narrowed := true }
def DiagramAsksUptoSaid : Prop := diagramAsksUptoRow.holds Try.pinned (OpenSpec.upto diagramAsksSpec)

/-- 'motleylaw01.DiagramBest', WHERE WHAT IT READS IS OF BULK AT MOST 1048576: true; the input reads as it did. -/
def diagramBestUptoRow : OpenClaim := { program := "ytefclohjeompkaa", sum := "fce1baff3469f7d7c849208ab9c2e9ac9de6fc84927d7596a0190d807afed9c5", func := "motley/motleylaw01.DiagramBest", spec := "diagramBest", unfollowed := true, recurses := true, plainKeys := false, apart := false, narrowed := true }
def DiagramBestUptoSaid : Prop := diagramBestUptoRow.holds Try.pinned (OpenSpec.upto diagramBestSpec)

/-- 'motleylaw01.DiagramPicks', WHERE WHAT IT READS IS OF BULK AT MOST 1048576: true; the input reads as it did. -/
def diagramPicksUptoRow : OpenClaim := { program := "ytefclohjeompkaa", sum := "fce1baff3469f7d7c849208ab9c2e9ac9de6fc84927d7596a0190d807afed9c5", func := "motley/motleylaw01.DiagramPicks", spec := "diagramPicks", unfollowed := true, recurses := true, plainKeys := false, apart := false, narrowed := true }
def DiagramPicksUptoSaid : Prop := diagramPicksUptoRow.holds Try.pinned (OpenSpec.upto diagramPicksSpec)

/-- 'motleylaw01.DiagramWide', WHERE WHAT IT READS IS OF BULK AT MOST 1048576: true; the input reads as it did. -/
def diagramWideUptoRow : OpenClaim := { program := "ytefclohjeompkaa", sum := "fce1baff3469f7d7c849208ab9c2e9ac9de6fc84927d7596a0190d807afed9c5", func := "motley/motleylaw01.DiagramWide", spec := "diagramWide", unfollowed := true, recurses := true, plainKeys := false, apart := false, narrowed := true }
def DiagramWideUptoSaid : Prop := diagramWideUptoRow.holds Try.pinned (OpenSpec.upto diagramWideSpec)

/-- 'motleylaw01.DiagramCovers', WHERE WHAT IT READS IS OF BULK AT MOST 1048576: true; the input reads as it did. -/
def diagramCoversUptoRow : OpenClaim := { program := "ytefclohjeompkaa", sum := "fce1baff3469f7d7c849208ab9c2e9ac9de6fc84927d7596a0190d807afed9c5", func := "motley/motleylaw01.DiagramCovers", spec := "diagramCovers", unfollowed := true, recurses := true, plainKeys := false, apart := false, narrowed := true }
def DiagramCoversUptoSaid : Prop := diagramCoversUptoRow.holds Try.pinned (OpenSpec.upto diagramCoversSpec)

end Rows
end Go.Proofs.Ytefclohjeompkaa
