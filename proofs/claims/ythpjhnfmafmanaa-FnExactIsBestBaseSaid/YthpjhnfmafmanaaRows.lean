/-
  No cell of these rows narrows 'for every input' (looked for: loops, veiled, ifaces, maps, wideKeys, modest, calm, conditions, laid).
  DERIVED. THE GIVEN ROWS OF THIS SEAT. 12 by the template 'for every input the law returns true; each argument reads behind the call as it read before'; 0 by the template 'total and deterministic' (their statements: YthpjhnfmafmanaaTotals.lean).
  GIVEN WITH THE SEED: the statements are not yours to turn. If you find one false, say at which input.
  Laid BY PROGRAM, IN A SANDBOX (cutbox-rows.mjs): the forced cells as the released guide's own fill.sh prints them over the translation 0ef6cdb0d6cb9dc2… (all of the seat's roots in one cut). By AI agents, Wed Nov 11 2026. No macro, syntax, notation, axiom, sorry.
-/
import Derived.Test.YthpjhnfmafmanaaChecked
import GoSem.Claim
import GoSem.ClaimJoined
import GoSem.ClaimMapViews
import Derived.JoinedTies
import Derived.KernelRfl
namespace Go.Proofs.Ythpjhnfmafmanaa
/- THE CELL 'sum', in the pinned program and in every row, IS THE sha256 OF THE DUMP (.gsa) THAT YthpjhnfmafmanaaProg.lean LOADS. Nothing in Lean hashes anything: it is a label: what it is worth is what the hold of that sum in a sandbox is worth. -/
noncomputable def Try.pinned : Pinned := { name := "ythpjhnfmafmanaa", sum := "0ef6cdb0d6cb9dc2af2c3960d592ebd60283e4f1d28760bbaf02aeb18bd9486d", checked := Try.checked }
namespace Rows
def none {H : Type} : Left H := { results := [], args := [] }

/-- 'laws.FnExactAreWeights': WHATEVER THE INPUT: true; the input reads as it did. -/
def fnExactAreWeightsSpec : ChangeSpec := { name := "fnExactAreWeights", fn := fun _ => fun
  | [d1, d2] => { results := [.lit (.bool true)], args := [d1, d2] }
  | _ => none }
def fnExactAreWeightsRow : OpenClaim := { program := "ythpjhnfmafmanaa", sum := "0ef6cdb0d6cb9dc2af2c3960d592ebd60283e4f1d28760bbaf02aeb18bd9486d", func := "loop.example/g00593/laws.FnExactAreWeights", spec := "fnExactAreWeights", apart := false }
def FnExactAreWeightsSaid : Prop := fnExactAreWeightsRow.holds Try.pinned (OpenSpec.ofChange fnExactAreWeightsSpec)

/-- ITS FALSE NEIGHBOUR: 'it returns false'. Refute it at one input. -/
def fnExactAreWeightsWrong : ChangeSpec := { name := "fnExactAreWeights", fn := fun _ => fun
  | [d1, d2] => { results := [.lit (.bool false)], args := [d1, d2] }
  | _ => none }
def FnExactAreWeightsWrongFalsely : Prop := fnExactAreWeightsRow.holds Try.pinned (OpenSpec.ofChange fnExactAreWeightsWrong)

/-- 'laws.FnExactAreLists': WHATEVER THE INPUT: true; the input reads as it did. -/
def fnExactAreListsSpec : ChangeSpec := { name := "fnExactAreLists", fn := fun _ => fun
  | [d1, d2] => { results := [.lit (.bool true)], args := [d1, d2] }
  | _ => none }
def fnExactAreListsRow : OpenClaim := { program := "ythpjhnfmafmanaa", sum := "0ef6cdb0d6cb9dc2af2c3960d592ebd60283e4f1d28760bbaf02aeb18bd9486d", func := "loop.example/g00593/laws.FnExactAreLists", spec := "fnExactAreLists", apart := false }
def FnExactAreListsSaid : Prop := fnExactAreListsRow.holds Try.pinned (OpenSpec.ofChange fnExactAreListsSpec)

/-- ITS FALSE NEIGHBOUR: 'it returns false'. Refute it at one input. -/
def fnExactAreListsWrong : ChangeSpec := { name := "fnExactAreLists", fn := fun _ => fun
  | [d1, d2] => { results := [.lit (.bool false)], args := [d1, d2] }
  | _ => none }
def FnExactAreListsWrongFalsely : Prop := fnExactAreListsRow.holds Try.pinned (OpenSpec.ofChange fnExactAreListsWrong)

/-- 'laws.FnExactIsRenaming': WHATEVER THE INPUT: true; the input reads as it did. -/
def fnExactIsRenamingSpec : ChangeSpec := { name := "fnExactIsRenaming", fn := fun _ => fun
  | [d1, d2] => { results := [.lit (.bool true)], args := [d1, d2] }
  | _ => none }
def fnExactIsRenamingRow : OpenClaim := { program := "ythpjhnfmafmanaa", sum := "0ef6cdb0d6cb9dc2af2c3960d592ebd60283e4f1d28760bbaf02aeb18bd9486d", func := "loop.example/g00593/laws.FnExactIsRenaming", spec := "fnExactIsRenaming", apart := false }
def FnExactIsRenamingSaid : Prop := fnExactIsRenamingRow.holds Try.pinned (OpenSpec.ofChange fnExactIsRenamingSpec)

/-- ITS FALSE NEIGHBOUR: 'it returns false'. Refute it at one input. -/
def fnExactIsRenamingWrong : ChangeSpec := { name := "fnExactIsRenaming", fn := fun _ => fun
  | [d1, d2] => { results := [.lit (.bool false)], args := [d1, d2] }
  | _ => none }
def FnExactIsRenamingWrongFalsely : Prop := fnExactIsRenamingRow.holds Try.pinned (OpenSpec.ofChange fnExactIsRenamingWrong)

/-- 'laws.FnExactAlongPath': WHATEVER THE INPUT: true; the input reads as it did. -/
def fnExactAlongPathSpec : ChangeSpec := { name := "fnExactAlongPath", fn := fun _ => fun
  | [d1, d2] => { results := [.lit (.bool true)], args := [d1, d2] }
  | _ => none }
def fnExactAlongPathRow : OpenClaim := { program := "ythpjhnfmafmanaa", sum := "0ef6cdb0d6cb9dc2af2c3960d592ebd60283e4f1d28760bbaf02aeb18bd9486d", func := "loop.example/g00593/laws.FnExactAlongPath", spec := "fnExactAlongPath", apart := false }
def FnExactAlongPathSaid : Prop := fnExactAlongPathRow.holds Try.pinned (OpenSpec.ofChange fnExactAlongPathSpec)

/-- ITS FALSE NEIGHBOUR: 'it returns false'. Refute it at one input. -/
def fnExactAlongPathWrong : ChangeSpec := { name := "fnExactAlongPath", fn := fun _ => fun
  | [d1, d2] => { results := [.lit (.bool false)], args := [d1, d2] }
  | _ => none }
def FnExactAlongPathWrongFalsely : Prop := fnExactAlongPathRow.holds Try.pinned (OpenSpec.ofChange fnExactAlongPathWrong)

/-- 'laws.FnExactWeightOf': WHATEVER THE INPUT: true; the input reads as it did. -/
def fnExactWeightOfSpec : ChangeSpec := { name := "fnExactWeightOf", fn := fun _ => fun
  | [d1, d2] => { results := [.lit (.bool true)], args := [d1, d2] }
  | _ => none }
def fnExactWeightOfRow : OpenClaim := { program := "ythpjhnfmafmanaa", sum := "0ef6cdb0d6cb9dc2af2c3960d592ebd60283e4f1d28760bbaf02aeb18bd9486d", func := "loop.example/g00593/laws.FnExactWeightOf", spec := "fnExactWeightOf", apart := false }
def FnExactWeightOfSaid : Prop := fnExactWeightOfRow.holds Try.pinned (OpenSpec.ofChange fnExactWeightOfSpec)

/-- ITS FALSE NEIGHBOUR: 'it returns false'. Refute it at one input. -/
def fnExactWeightOfWrong : ChangeSpec := { name := "fnExactWeightOf", fn := fun _ => fun
  | [d1, d2] => { results := [.lit (.bool false)], args := [d1, d2] }
  | _ => none }
def FnExactWeightOfWrongFalsely : Prop := fnExactWeightOfRow.holds Try.pinned (OpenSpec.ofChange fnExactWeightOfWrong)

/-- 'laws.FnExactAddWeights': WHATEVER THE INPUT: true; the input reads as it did. -/
def fnExactAddWeightsSpec : ChangeSpec := { name := "fnExactAddWeights", fn := fun _ => fun
  | [d1, d2] => { results := [.lit (.bool true)], args := [d1, d2] }
  | _ => none }
def fnExactAddWeightsRow : OpenClaim := { program := "ythpjhnfmafmanaa", sum := "0ef6cdb0d6cb9dc2af2c3960d592ebd60283e4f1d28760bbaf02aeb18bd9486d", func := "loop.example/g00593/laws.FnExactAddWeights", spec := "fnExactAddWeights", apart := false }
def FnExactAddWeightsSaid : Prop := fnExactAddWeightsRow.holds Try.pinned (OpenSpec.ofChange fnExactAddWeightsSpec)

/-- ITS FALSE NEIGHBOUR: 'it returns false'. Refute it at one input. -/
def fnExactAddWeightsWrong : ChangeSpec := { name := "fnExactAddWeights", fn := fun _ => fun
  | [d1, d2] => { results := [.lit (.bool false)], args := [d1, d2] }
  | _ => none }
def FnExactAddWeightsWrongFalsely : Prop := fnExactAddWeightsRow.holds Try.pinned (OpenSpec.ofChange fnExactAddWeightsWrong)

/-- 'laws.FnExactRenameSet': WHATEVER THE INPUT: true; the input reads as it did. -/
def fnExactRenameSetSpec : ChangeSpec := { name := "fnExactRenameSet", fn := fun _ => fun
  | [d1, d2] => { results := [.lit (.bool true)], args := [d1, d2] }
  | _ => none }
def fnExactRenameSetRow : OpenClaim := { program := "ythpjhnfmafmanaa", sum := "0ef6cdb0d6cb9dc2af2c3960d592ebd60283e4f1d28760bbaf02aeb18bd9486d", func := "loop.example/g00593/laws.FnExactRenameSet", spec := "fnExactRenameSet", apart := false }
def FnExactRenameSetSaid : Prop := fnExactRenameSetRow.holds Try.pinned (OpenSpec.ofChange fnExactRenameSetSpec)

/-- ITS FALSE NEIGHBOUR: 'it returns false'. Refute it at one input. -/
def fnExactRenameSetWrong : ChangeSpec := { name := "fnExactRenameSet", fn := fun _ => fun
  | [d1, d2] => { results := [.lit (.bool false)], args := [d1, d2] }
  | _ => none }
def FnExactRenameSetWrongFalsely : Prop := fnExactRenameSetRow.holds Try.pinned (OpenSpec.ofChange fnExactRenameSetWrong)

/-- 'laws.FnExactCrowdOf': WHATEVER THE INPUT: true; the input reads as it did. -/
def fnExactCrowdOfSpec : ChangeSpec := { name := "fnExactCrowdOf", fn := fun _ => fun
  | [d1, d2, d3] => { results := [.lit (.bool true)], args := [d1, d2, d3] }
  | _ => none }
def fnExactCrowdOfRow : OpenClaim := { program := "ythpjhnfmafmanaa", sum := "0ef6cdb0d6cb9dc2af2c3960d592ebd60283e4f1d28760bbaf02aeb18bd9486d", func := "loop.example/g00593/laws.FnExactCrowdOf", spec := "fnExactCrowdOf", apart := false }
def FnExactCrowdOfSaid : Prop := fnExactCrowdOfRow.holds Try.pinned (OpenSpec.ofChange fnExactCrowdOfSpec)

/-- ITS FALSE NEIGHBOUR: 'it returns false'. Refute it at one input. -/
def fnExactCrowdOfWrong : ChangeSpec := { name := "fnExactCrowdOf", fn := fun _ => fun
  | [d1, d2, d3] => { results := [.lit (.bool false)], args := [d1, d2, d3] }
  | _ => none }
def FnExactCrowdOfWrongFalsely : Prop := fnExactCrowdOfRow.holds Try.pinned (OpenSpec.ofChange fnExactCrowdOfWrong)

/-- 'laws.FnExactAssignmentOf': WHATEVER THE INPUT: true; the input reads as it did. -/
def fnExactAssignmentOfSpec : ChangeSpec := { name := "fnExactAssignmentOf", fn := fun _ => fun
  | [d1, d2, d3] => { results := [.lit (.bool true)], args := [d1, d2, d3] }
  | _ => none }
def fnExactAssignmentOfRow : OpenClaim := { program := "ythpjhnfmafmanaa", sum := "0ef6cdb0d6cb9dc2af2c3960d592ebd60283e4f1d28760bbaf02aeb18bd9486d", func := "loop.example/g00593/laws.FnExactAssignmentOf", spec := "fnExactAssignmentOf", recurses := true, apart := false }
def FnExactAssignmentOfSaid : Prop := fnExactAssignmentOfRow.holds Try.pinned (OpenSpec.ofChange fnExactAssignmentOfSpec)

/-- ITS FALSE NEIGHBOUR: 'it returns false'. Refute it at one input. -/
def fnExactAssignmentOfWrong : ChangeSpec := { name := "fnExactAssignmentOf", fn := fun _ => fun
  | [d1, d2, d3] => { results := [.lit (.bool false)], args := [d1, d2, d3] }
  | _ => none }
def FnExactAssignmentOfWrongFalsely : Prop := fnExactAssignmentOfRow.holds Try.pinned (OpenSpec.ofChange fnExactAssignmentOfWrong)

/-- 'laws.FnExactIsCommon': WHATEVER THE INPUT: true; the input reads as it did. -/
def fnExactIsCommonSpec : ChangeSpec := { name := "fnExactIsCommon", fn := fun _ => fun
  | [d1, d2, d3] => { results := [.lit (.bool true)], args := [d1, d2, d3] }
  | _ => none }
def fnExactIsCommonRow : OpenClaim := { program := "ythpjhnfmafmanaa", sum := "0ef6cdb0d6cb9dc2af2c3960d592ebd60283e4f1d28760bbaf02aeb18bd9486d", func := "loop.example/g00593/laws.FnExactIsCommon", spec := "fnExactIsCommon", unfollowed := true, recurses := true, apart := false }
def FnExactIsCommonSaid : Prop := fnExactIsCommonRow.holds Try.pinned (OpenSpec.ofChange fnExactIsCommonSpec)

/-- ITS FALSE NEIGHBOUR: 'it returns false'. Refute it at one input. -/
def fnExactIsCommonWrong : ChangeSpec := { name := "fnExactIsCommon", fn := fun _ => fun
  | [d1, d2, d3] => { results := [.lit (.bool false)], args := [d1, d2, d3] }
  | _ => none }
def FnExactIsCommonWrongFalsely : Prop := fnExactIsCommonRow.holds Try.pinned (OpenSpec.ofChange fnExactIsCommonWrong)

/-- 'laws.FnExactBoundBy': WHATEVER THE INPUT: true; the input reads as it did. -/
def fnExactBoundBySpec : ChangeSpec := { name := "fnExactBoundBy", fn := fun _ => fun
  | [d1, d2, d3] => { results := [.lit (.bool true)], args := [d1, d2, d3] }
  | _ => none }
def fnExactBoundByRow : OpenClaim := { program := "ythpjhnfmafmanaa", sum := "0ef6cdb0d6cb9dc2af2c3960d592ebd60283e4f1d28760bbaf02aeb18bd9486d", func := "loop.example/g00593/laws.FnExactBoundBy", spec := "fnExactBoundBy", unfollowed := true, recurses := true, apart := false }
def FnExactBoundBySaid : Prop := fnExactBoundByRow.holds Try.pinned (OpenSpec.ofChange fnExactBoundBySpec)

/-- ITS FALSE NEIGHBOUR: 'it returns false'. Refute it at one input. -/
def fnExactBoundByWrong : ChangeSpec := { name := "fnExactBoundBy", fn := fun _ => fun
  | [d1, d2, d3] => { results := [.lit (.bool false)], args := [d1, d2, d3] }
  | _ => none }
def FnExactBoundByWrongFalsely : Prop := fnExactBoundByRow.holds Try.pinned (OpenSpec.ofChange fnExactBoundByWrong)

/-- 'laws.FnExactIsBestBase': WHATEVER THE INPUT: true; the input reads as it did. -/
def fnExactIsBestBaseSpec : ChangeSpec := { name := "fnExactIsBestBase", fn := fun _ => fun
  | [d1, d2, d3] => { results := [.lit (.bool true)], args := [d1, d2, d3] }
  | _ => none }
def fnExactIsBestBaseRow : OpenClaim := { program := "ythpjhnfmafmanaa", sum := "0ef6cdb0d6cb9dc2af2c3960d592ebd60283e4f1d28760bbaf02aeb18bd9486d", func := "loop.example/g00593/laws.FnExactIsBestBase", spec := "fnExactIsBestBase", unfollowed := true, recurses := true, apart := false }
def FnExactIsBestBaseSaid : Prop := fnExactIsBestBaseRow.holds Try.pinned (OpenSpec.ofChange fnExactIsBestBaseSpec)

/-- ITS FALSE NEIGHBOUR: 'it returns false'. Refute it at one input. -/
def fnExactIsBestBaseWrong : ChangeSpec := { name := "fnExactIsBestBase", fn := fun _ => fun
  | [d1, d2, d3] => { results := [.lit (.bool false)], args := [d1, d2, d3] }
  | _ => none }
def FnExactIsBestBaseWrongFalsely : Prop := fnExactIsBestBaseRow.holds Try.pinned (OpenSpec.ofChange fnExactIsBestBaseWrong)

/- THE SECOND FORM. 'bulk': how many values and letters a reading holds, each counted each time it is reached (what is shared counts as often as it is met; a slice's spare places count too). A statement '..UptoSaid' is the law's where the arguments, and the package variables that the reading takes, are together of bulk at most 1048576: NARROWER than '..Said'. Prove '..Said' where nothing that the law and all that it calls make is longer than what came in: it says more and counts as full. Else prove '..UptoSaid'. A law counts once. -/
mutual
def uptoBulk {H : Type} : DataW H → Nat
  | .lit (.string bytes) => bytes.length + 1
  | .lit _ => 1
  | .nil => 1
  | .ptr d => uptoBulk d + 1
  | .slice elems spare => uptoBulkAll elems + uptoBulkAll spare + 1
  | .agg parts => uptoBulkAll parts + 1
  | .iface _ d => uptoBulk d + 1
  | .map entries => uptoBulkEntries entries + 1
  | .held _ => 1
def uptoBulkAll {H : Type} : List (DataW H) → Nat
  | [] => 0
  | d :: r => uptoBulk d + uptoBulkAll r
def uptoBulkEntries {H : Type} : List (Lit × DataW H) → Nat
  | [] => 0
  | x :: r => uptoBulkEntry x + uptoBulkEntries r
def uptoBulkEntry {H : Type} : Lit × DataW H → Nat
  | (.string bytes, d) => bytes.length + uptoBulk d + 1
  | (_, d) => uptoBulk d + 1
 end
def uptoSmall : (H : Type) → List (DataW H) → Bool := fun _ ds => decide (uptoBulkAll ds ≤ 1048576)
def OpenSpec.upto (s : _root_.Go.ChangeSpec) : _root_.Go.OpenSpec := { _root_.Go.OpenSpec.ofChange s with cond := some uptoSmall }

/-- 'laws.FnExactAreWeights', WHERE WHAT IT READS IS OF BULK AT MOST 1048576: true; the input reads as it did. -/
def fnExactAreWeightsUptoRow : OpenClaim := { program := "ythpjhnfmafmanaa", sum := "0ef6cdb0d6cb9dc2af2c3960d592ebd60283e4f1d28760bbaf02aeb18bd9486d", func := "loop.example/g00593/laws.FnExactAreWeights", spec := "fnExactAreWeights", apart := false, narrowed := true }
def FnExactAreWeightsUptoSaid : Prop := fnExactAreWeightsUptoRow.holds Try.pinned (OpenSpec.upto fnExactAreWeightsSpec)

/-- 'laws.FnExactAreLists', WHERE WHAT IT READS IS OF BULK AT MOST 1048576: true; the input reads as it did. -/
def fnExactAreListsUptoRow : OpenClaim := { program := "ythpjhnfmafmanaa", sum := "0ef6cdb0d6cb9dc2af2c3960d592ebd60283e4f1d28760bbaf02aeb18bd9486d", func := "loop.example/g00593/laws.FnExactAreLists", spec := "fnExactAreLists", apart := false, narrowed := true }
def FnExactAreListsUptoSaid : Prop := fnExactAreListsUptoRow.holds Try.pinned (OpenSpec.upto fnExactAreListsSpec)

/-- 'laws.FnExactIsRenaming', WHERE WHAT IT READS IS OF BULK AT MOST 1048576: true; the input reads as it did. -/
def fnExactIsRenamingUptoRow : OpenClaim := { program := "ythpjhnfmafmanaa", sum := "0ef6cdb0d6cb9dc2af2c3960d592ebd60283e4f1d28760bbaf02aeb18bd9486d", func := "loop.example/g00593/laws.FnExactIsRenaming", spec := "fnExactIsRenaming", apart := false, narrowed := true }
def FnExactIsRenamingUptoSaid : Prop := fnExactIsRenamingUptoRow.holds Try.pinned (OpenSpec.upto fnExactIsRenamingSpec)

/-- 'laws.FnExactAlongPath', WHERE WHAT IT READS IS OF BULK AT MOST 1048576: true; the input reads as it did. -/
def fnExactAlongPathUptoRow : OpenClaim := { program := "ythpjhnfmafmanaa", sum := "0ef6cdb0d6cb9dc2af2c3960d592ebd60283e4f1d28760bbaf02aeb18bd9486d", func := "loop.example/g00593/laws.FnExactAlongPath", spec := "fnExactAlongPath", apart := false, narrowed := true }
def FnExactAlongPathUptoSaid : Prop := fnExactAlongPathUptoRow.holds Try.pinned (OpenSpec.upto fnExactAlongPathSpec)

/-- 'laws.FnExactWeightOf', WHERE WHAT IT READS IS OF BULK AT MOST 1048576: true; the input reads as it did. -/
def fnExactWeightOfUptoRow : OpenClaim := { program := "ythpjhnfmafmanaa", sum := "0ef6cdb0d6cb9dc2af2c3960d592ebd60283e4f1d28760bbaf02aeb18bd9486d", func := "loop.example/g00593/laws.FnExactWeightOf", spec := "fnExactWeightOf", apart := false, narrowed := true }
def FnExactWeightOfUptoSaid : Prop := fnExactWeightOfUptoRow.holds Try.pinned (OpenSpec.upto fnExactWeightOfSpec)

/-- 'laws.FnExactAddWeights', WHERE WHAT IT READS IS OF BULK AT MOST 1048576: true; the input reads as it did. -/
def fnExactAddWeightsUptoRow : OpenClaim := { program := "ythpjhnfmafmanaa", sum := "0ef6cdb0d6cb9dc2af2c3960d592ebd60283e4f1d28760bbaf02aeb18bd9486d", func := "loop.example/g00593/laws.FnExactAddWeights", spec := "fnExactAddWeights", apart := false, narrowed := true }
def FnExactAddWeightsUptoSaid : Prop := fnExactAddWeightsUptoRow.holds Try.pinned (OpenSpec.upto fnExactAddWeightsSpec)

/-- 'laws.FnExactRenameSet', WHERE WHAT IT READS IS OF BULK AT MOST 1048576: true; the input reads as it did. -/
def fnExactRenameSetUptoRow : OpenClaim := { program := "ythpjhnfmafmanaa", sum := "0ef6cdb0d6cb9dc2af2c3960d592ebd60283e4f1d28760bbaf02aeb18bd9486d", func := "loop.example/g00593/laws.FnExactRenameSet", spec := "fnExactRenameSet", apart := false, narrowed := true }
def FnExactRenameSetUptoSaid : Prop := fnExactRenameSetUptoRow.holds Try.pinned (OpenSpec.upto fnExactRenameSetSpec)

/-- 'laws.FnExactCrowdOf', WHERE WHAT IT READS IS OF BULK AT MOST 1048576: true; the input reads as it did. -/
def fnExactCrowdOfUptoRow : OpenClaim := { program := "ythpjhnfmafmanaa", sum := "0ef6cdb0d6cb9dc2af2c3960d592ebd60283e4f1d28760bbaf02aeb18bd9486d", func := "loop.example/g00593/laws.FnExactCrowdOf", spec := "fnExactCrowdOf", apart := false, narrowed := true }
def FnExactCrowdOfUptoSaid : Prop := fnExactCrowdOfUptoRow.holds Try.pinned (OpenSpec.upto fnExactCrowdOfSpec)

/-- 'laws.FnExactAssignmentOf', WHERE WHAT IT READS IS OF BULK AT MOST 1048576: true; the input reads as it did. -/
def fnExactAssignmentOfUptoRow : OpenClaim := { program := "ythpjhnfmafmanaa", sum := "0ef6cdb0d6cb9dc2af2c3960d592ebd60283e4f1d28760bbaf02aeb18bd9486d", func := "loop.example/g00593/laws.FnExactAssignmentOf", spec := "fnExactAssignmentOf", recurses := true, apart := false, narrowed := true }
def FnExactAssignmentOfUptoSaid : Prop := fnExactAssignmentOfUptoRow.holds Try.pinned (OpenSpec.upto fnExactAssignmentOfSpec)

/-- 'laws.FnExactIsCommon', WHERE WHAT IT READS IS OF BULK AT MOST 1048576: true; the input reads as it did. -/
def fnExactIsCommonUptoRow : OpenClaim := { program := "ythpjhnfmafmanaa", sum := "0ef6cdb0d6cb9dc2af2c3960d592ebd60283e4f1d28760bbaf02aeb18bd9486d", func := "loop.example/g00593/laws.FnExactIsCommon", spec := "fnExactIsCommon", unfollowed := true, recurses := true, apart := false, narrowed := true }
def FnExactIsCommonUptoSaid : Prop := fnExactIsCommonUptoRow.holds Try.pinned (OpenSpec.upto fnExactIsCommonSpec)

/-- 'laws.FnExactBoundBy', WHERE WHAT IT READS IS OF BULK AT MOST 1048576: true; the input reads as it did. -/
def fnExactBoundByUptoRow : OpenClaim := { program := "ythpjhnfmafmanaa", sum := "0ef6cdb0d6cb9dc2af2c3960d592ebd60283e4f1d28760bbaf02aeb18bd9486d", func := "loop.example/g00593/laws.FnExactBoundBy", spec := "fnExactBoundBy", unfollowed := true, recurses := true, apart := false, narrowed := true }
def FnExactBoundByUptoSaid : Prop := fnExactBoundByUptoRow.holds Try.pinned (OpenSpec.upto fnExactBoundBySpec)

/-- 'laws.FnExactIsBestBase', WHERE WHAT IT READS IS OF BULK AT MOST 1048576: true; the input reads as it did. -/
def fnExactIsBestBaseUptoRow : OpenClaim := { program := "ythpjhnfmafmanaa", sum := "0ef6cdb0d6cb9dc2af2c3960d592ebd60283e4f1d28760bbaf02aeb18bd9486d", func := "loop.example/g00593/laws.FnExactIsBestBase", spec := "fnExactIsBestBase", unfollowed := true, recurses := true, apart := false, narrowed := true }
def FnExactIsBestBaseUptoSaid : Prop := fnExactIsBestBaseUptoRow.holds Try.pinned (OpenSpec.upto fnExactIsBestBaseSpec)

end Rows
end Go.Proofs.Ythpjhnfmafmanaa
