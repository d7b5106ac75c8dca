/-
  No cell of these rows narrows 'for every input' (looked for: loops, veiled, ifaces, maps, wideKeys, modest, calm, conditions, laid).
  DERIVED. THE GIVEN ROWS OF THIS SEAT. 13 by the template 'for every input the law returns true; each argument reads behind the call as it read before'; 0 by the template 'total and deterministic' (their statements: YtagncnjllpebjaaTotals.lean).
  GIVEN WITH THE SEED: the statements are not yours to turn. If you find one false, say at which input.
  Laid BY PROGRAM, IN A SANDBOX (cutbox-rows.mjs): the forced cells as the released guide's own fill.sh prints them over the translation 089c4bdf3ef35d44… (all of the seat's roots in one cut). By AI agents, Wed Nov 11 2026. No macro, syntax, notation, axiom, sorry.
-/
import Derived.Test.YtagncnjllpebjaaChecked
import GoSem.Claim
import GoSem.ClaimJoined
import GoSem.ClaimMapViews
import Derived.JoinedTies
import Derived.KernelRfl
namespace Go.Proofs.Ytagncnjllpebjaa
/- THE CELL 'sum', in the pinned program and in every row, IS THE sha256 OF THE DUMP (.gsa) THAT YtagncnjllpebjaaProg.lean LOADS. Nothing in Lean hashes anything: it is a label: what it is worth is what the hold of that sum in a sandbox is worth. -/
noncomputable def Try.pinned : Pinned := { name := "ytagncnjllpebjaa", sum := "089c4bdf3ef35d4487b3dbe1ed749b66d75fce46c11612ebec68daacca40e154", checked := Try.checked }
namespace Rows
def none {H : Type} : Left H := { results := [], args := [] }

/-- 'laws.FnExactTruncate': WHATEVER THE INPUT: true; the input reads as it did. -/
def fnExactTruncateSpec : ChangeSpec := { name := "fnExactTruncate", fn := fun _ => fun
  | [d1, d2] => { results := [.lit (.bool true)], args := [d1, d2] }
  | _ => none }
def fnExactTruncateRow : OpenClaim := { program := "ytagncnjllpebjaa", sum := "089c4bdf3ef35d4487b3dbe1ed749b66d75fce46c11612ebec68daacca40e154", func := "loop.example/g00593/laws.FnExactTruncate", spec := "fnExactTruncate", unfollowed := true, recurses := true, apart := false }
def FnExactTruncateSaid : Prop := fnExactTruncateRow.holds Try.pinned (OpenSpec.ofChange fnExactTruncateSpec)

/-- ITS FALSE NEIGHBOUR: 'it returns false'. Refute it at one input. -/
def fnExactTruncateWrong : ChangeSpec := { name := "fnExactTruncate", fn := fun _ => fun
  | [d1, d2] => { results := [.lit (.bool false)], args := [d1, d2] }
  | _ => none }
def FnExactTruncateWrongFalsely : Prop := fnExactTruncateRow.holds Try.pinned (OpenSpec.ofChange fnExactTruncateWrong)

/-- 'laws.FnExactAugmentingPath': WHATEVER THE INPUT: true; the input reads as it did. -/
def fnExactAugmentingPathSpec : ChangeSpec := { name := "fnExactAugmentingPath", fn := fun _ => fun
  | [d1, d2, d3] => { results := [.lit (.bool true)], args := [d1, d2, d3] }
  | _ => none }
def fnExactAugmentingPathRow : OpenClaim := { program := "ytagncnjllpebjaa", sum := "089c4bdf3ef35d4487b3dbe1ed749b66d75fce46c11612ebec68daacca40e154", func := "loop.example/g00593/laws.FnExactAugmentingPath", spec := "fnExactAugmentingPath", unfollowed := true, recurses := true, apart := false }
def FnExactAugmentingPathSaid : Prop := fnExactAugmentingPathRow.holds Try.pinned (OpenSpec.ofChange fnExactAugmentingPathSpec)

/-- ITS FALSE NEIGHBOUR: 'it returns false'. Refute it at one input. -/
def fnExactAugmentingPathWrong : ChangeSpec := { name := "fnExactAugmentingPath", fn := fun _ => fun
  | [d1, d2, d3] => { results := [.lit (.bool false)], args := [d1, d2, d3] }
  | _ => none }
def FnExactAugmentingPathWrongFalsely : Prop := fnExactAugmentingPathRow.holds Try.pinned (OpenSpec.ofChange fnExactAugmentingPathWrong)

/-- 'laws.FnExactUnionRank': WHATEVER THE INPUT: true; the input reads as it did. -/
def fnExactUnionRankSpec : ChangeSpec := { name := "fnExactUnionRank", fn := fun _ => fun
  | [d1, d2] => { results := [.lit (.bool true)], args := [d1, d2] }
  | _ => none }
def fnExactUnionRankRow : OpenClaim := { program := "ytagncnjllpebjaa", sum := "089c4bdf3ef35d4487b3dbe1ed749b66d75fce46c11612ebec68daacca40e154", func := "loop.example/g00593/laws.FnExactUnionRank", spec := "fnExactUnionRank", unfollowed := true, recurses := true, apart := false }
def FnExactUnionRankSaid : Prop := fnExactUnionRankRow.holds Try.pinned (OpenSpec.ofChange fnExactUnionRankSpec)

/-- ITS FALSE NEIGHBOUR: 'it returns false'. Refute it at one input. -/
def fnExactUnionRankWrong : ChangeSpec := { name := "fnExactUnionRank", fn := fun _ => fun
  | [d1, d2] => { results := [.lit (.bool false)], args := [d1, d2] }
  | _ => none }
def FnExactUnionRankWrongFalsely : Prop := fnExactUnionRankRow.holds Try.pinned (OpenSpec.ofChange fnExactUnionRankWrong)

/-- 'laws.FnExactBestWeights': WHATEVER THE INPUT: true; the input reads as it did. -/
def fnExactBestWeightsSpec : ChangeSpec := { name := "fnExactBestWeights", fn := fun _ => fun
  | [d1, d2, d3] => { results := [.lit (.bool true)], args := [d1, d2, d3] }
  | _ => none }
def fnExactBestWeightsRow : OpenClaim := { program := "ytagncnjllpebjaa", sum := "089c4bdf3ef35d4487b3dbe1ed749b66d75fce46c11612ebec68daacca40e154", func := "loop.example/g00593/laws.FnExactBestWeights", spec := "fnExactBestWeights", unfollowed := true, recurses := true, apart := false }
def FnExactBestWeightsSaid : Prop := fnExactBestWeightsRow.holds Try.pinned (OpenSpec.ofChange fnExactBestWeightsSpec)

/-- ITS FALSE NEIGHBOUR: 'it returns false'. Refute it at one input. -/
def fnExactBestWeightsWrong : ChangeSpec := { name := "fnExactBestWeights", fn := fun _ => fun
  | [d1, d2, d3] => { results := [.lit (.bool false)], args := [d1, d2, d3] }
  | _ => none }
def FnExactBestWeightsWrongFalsely : Prop := fnExactBestWeightsRow.holds Try.pinned (OpenSpec.ofChange fnExactBestWeightsWrong)

/-- 'laws.FnExactCoverNumber': WHATEVER THE INPUT: true; the input reads as it did. -/
def fnExactCoverNumberSpec : ChangeSpec := { name := "fnExactCoverNumber", fn := fun _ => fun
  | [d] => { results := [.lit (.bool true)], args := [d] }
  | _ => none }
def fnExactCoverNumberRow : OpenClaim := { program := "ytagncnjllpebjaa", sum := "089c4bdf3ef35d4487b3dbe1ed749b66d75fce46c11612ebec68daacca40e154", func := "loop.example/g00593/laws.FnExactCoverNumber", spec := "fnExactCoverNumber", unfollowed := true, recurses := true, apart := false }
def FnExactCoverNumberSaid : Prop := fnExactCoverNumberRow.holds Try.pinned (OpenSpec.ofChange fnExactCoverNumberSpec)

/-- ITS FALSE NEIGHBOUR: 'it returns false'. Refute it at one input. -/
def fnExactCoverNumberWrong : ChangeSpec := { name := "fnExactCoverNumber", fn := fun _ => fun
  | [d] => { results := [.lit (.bool false)], args := [d] }
  | _ => none }
def FnExactCoverNumberWrongFalsely : Prop := fnExactCoverNumberRow.holds Try.pinned (OpenSpec.ofChange fnExactCoverNumberWrong)

/-- 'laws.FnExactBestOfSize': WHATEVER THE INPUT: true; the input reads as it did. -/
def fnExactBestOfSizeSpec : ChangeSpec := { name := "fnExactBestOfSize", fn := fun _ => fun
  | [d1, d2, d3] => { results := [.lit (.bool true)], args := [d1, d2, d3] }
  | _ => none }
def fnExactBestOfSizeRow : OpenClaim := { program := "ytagncnjllpebjaa", sum := "089c4bdf3ef35d4487b3dbe1ed749b66d75fce46c11612ebec68daacca40e154", func := "loop.example/g00593/laws.FnExactBestOfSize", spec := "fnExactBestOfSize", unfollowed := true, recurses := true, apart := false }
def FnExactBestOfSizeSaid : Prop := fnExactBestOfSizeRow.holds Try.pinned (OpenSpec.ofChange fnExactBestOfSizeSpec)

/-- ITS FALSE NEIGHBOUR: 'it returns false'. Refute it at one input. -/
def fnExactBestOfSizeWrong : ChangeSpec := { name := "fnExactBestOfSize", fn := fun _ => fun
  | [d1, d2, d3] => { results := [.lit (.bool false)], args := [d1, d2, d3] }
  | _ => none }
def FnExactBestOfSizeWrongFalsely : Prop := fnExactBestOfSizeRow.holds Try.pinned (OpenSpec.ofChange fnExactBestOfSizeWrong)

/-- 'laws.FnExactGreedyBase': WHATEVER THE INPUT: true; the input reads as it did. -/
def fnExactGreedyBaseSpec : ChangeSpec := { name := "fnExactGreedyBase", fn := fun _ => fun
  | [d1, d2] => { results := [.lit (.bool true)], args := [d1, d2] }
  | _ => none }
def fnExactGreedyBaseRow : OpenClaim := { program := "ytagncnjllpebjaa", sum := "089c4bdf3ef35d4487b3dbe1ed749b66d75fce46c11612ebec68daacca40e154", func := "loop.example/g00593/laws.FnExactGreedyBase", spec := "fnExactGreedyBase", unfollowed := true, recurses := true, apart := false }
def FnExactGreedyBaseSaid : Prop := fnExactGreedyBaseRow.holds Try.pinned (OpenSpec.ofChange fnExactGreedyBaseSpec)

/-- ITS FALSE NEIGHBOUR: 'it returns false'. Refute it at one input. -/
def fnExactGreedyBaseWrong : ChangeSpec := { name := "fnExactGreedyBase", fn := fun _ => fun
  | [d1, d2] => { results := [.lit (.bool false)], args := [d1, d2] }
  | _ => none }
def FnExactGreedyBaseWrongFalsely : Prop := fnExactGreedyBaseRow.holds Try.pinned (OpenSpec.ofChange fnExactGreedyBaseWrong)

/-- 'laws.FnExactExtend': WHATEVER THE INPUT: true; the input reads as it did. -/
def fnExactExtendSpec : ChangeSpec := { name := "fnExactExtend", fn := fun _ => fun
  | [d1, d2] => { results := [.lit (.bool true)], args := [d1, d2] }
  | _ => none }
def fnExactExtendRow : OpenClaim := { program := "ytagncnjllpebjaa", sum := "089c4bdf3ef35d4487b3dbe1ed749b66d75fce46c11612ebec68daacca40e154", func := "loop.example/g00593/laws.FnExactExtend", spec := "fnExactExtend", unfollowed := true, recurses := true, apart := false }
def FnExactExtendSaid : Prop := fnExactExtendRow.holds Try.pinned (OpenSpec.ofChange fnExactExtendSpec)

/-- ITS FALSE NEIGHBOUR: 'it returns false'. Refute it at one input. -/
def fnExactExtendWrong : ChangeSpec := { name := "fnExactExtend", fn := fun _ => fun
  | [d1, d2] => { results := [.lit (.bool false)], args := [d1, d2] }
  | _ => none }
def FnExactExtendWrongFalsely : Prop := fnExactExtendRow.holds Try.pinned (OpenSpec.ofChange fnExactExtendWrong)

/-- 'laws.FnExactFromSets': WHATEVER THE INPUT: true; the input reads as it did. -/
def fnExactFromSetsSpec : ChangeSpec := { name := "fnExactFromSets", fn := fun _ => fun
  | [d1, d2] => { results := [.lit (.bool true)], args := [d1, d2] }
  | _ => none }
def fnExactFromSetsRow : OpenClaim := { program := "ytagncnjllpebjaa", sum := "089c4bdf3ef35d4487b3dbe1ed749b66d75fce46c11612ebec68daacca40e154", func := "loop.example/g00593/laws.FnExactFromSets", spec := "fnExactFromSets", unfollowed := true, recurses := true, apart := false }
def FnExactFromSetsSaid : Prop := fnExactFromSetsRow.holds Try.pinned (OpenSpec.ofChange fnExactFromSetsSpec)

/-- ITS FALSE NEIGHBOUR: 'it returns false'. Refute it at one input. -/
def fnExactFromSetsWrong : ChangeSpec := { name := "fnExactFromSets", fn := fun _ => fun
  | [d1, d2] => { results := [.lit (.bool false)], args := [d1, d2] }
  | _ => none }
def FnExactFromSetsWrongFalsely : Prop := fnExactFromSetsRow.holds Try.pinned (OpenSpec.ofChange fnExactFromSetsWrong)

/-- 'laws.FnExactCanonOf': WHATEVER THE INPUT: true; the input reads as it did. -/
def fnExactCanonOfSpec : ChangeSpec := { name := "fnExactCanonOf", fn := fun _ => fun
  | [d] => { results := [.lit (.bool true)], args := [d] }
  | _ => none }
def fnExactCanonOfRow : OpenClaim := { program := "ytagncnjllpebjaa", sum := "089c4bdf3ef35d4487b3dbe1ed749b66d75fce46c11612ebec68daacca40e154", func := "loop.example/g00593/laws.FnExactCanonOf", spec := "fnExactCanonOf", unfollowed := true, recurses := true, apart := false }
def FnExactCanonOfSaid : Prop := fnExactCanonOfRow.holds Try.pinned (OpenSpec.ofChange fnExactCanonOfSpec)

/-- ITS FALSE NEIGHBOUR: 'it returns false'. Refute it at one input. -/
def fnExactCanonOfWrong : ChangeSpec := { name := "fnExactCanonOf", fn := fun _ => fun
  | [d] => { results := [.lit (.bool false)], args := [d] }
  | _ => none }
def FnExactCanonOfWrongFalsely : Prop := fnExactCanonOfRow.holds Try.pinned (OpenSpec.ofChange fnExactCanonOfWrong)

/-- 'laws.FnExactPartitionMatroid': WHATEVER THE INPUT: true; the input reads as it did. -/
def fnExactPartitionMatroidSpec : ChangeSpec := { name := "fnExactPartitionMatroid", fn := fun _ => fun
  | [d1, d2, d3] => { results := [.lit (.bool true)], args := [d1, d2, d3] }
  | _ => none }
def fnExactPartitionMatroidRow : OpenClaim := { program := "ytagncnjllpebjaa", sum := "089c4bdf3ef35d4487b3dbe1ed749b66d75fce46c11612ebec68daacca40e154", func := "loop.example/g00593/laws.FnExactPartitionMatroid", spec := "fnExactPartitionMatroid", unfollowed := true, recurses := true, apart := false }
def FnExactPartitionMatroidSaid : Prop := fnExactPartitionMatroidRow.holds Try.pinned (OpenSpec.ofChange fnExactPartitionMatroidSpec)

/-- ITS FALSE NEIGHBOUR: 'it returns false'. Refute it at one input. -/
def fnExactPartitionMatroidWrong : ChangeSpec := { name := "fnExactPartitionMatroid", fn := fun _ => fun
  | [d1, d2, d3] => { results := [.lit (.bool false)], args := [d1, d2, d3] }
  | _ => none }
def FnExactPartitionMatroidWrongFalsely : Prop := fnExactPartitionMatroidRow.holds Try.pinned (OpenSpec.ofChange fnExactPartitionMatroidWrong)

/-- 'laws.FnExactFindRenaming': WHATEVER THE INPUT: true; the input reads as it did. -/
def fnExactFindRenamingSpec : ChangeSpec := { name := "fnExactFindRenaming", fn := fun _ => fun
  | [d1, d2] => { results := [.lit (.bool true)], args := [d1, d2] }
  | _ => none }
def fnExactFindRenamingRow : OpenClaim := { program := "ytagncnjllpebjaa", sum := "089c4bdf3ef35d4487b3dbe1ed749b66d75fce46c11612ebec68daacca40e154", func := "loop.example/g00593/laws.FnExactFindRenaming", spec := "fnExactFindRenaming", unfollowed := true, recurses := true, apart := false }
def FnExactFindRenamingSaid : Prop := fnExactFindRenamingRow.holds Try.pinned (OpenSpec.ofChange fnExactFindRenamingSpec)

/-- ITS FALSE NEIGHBOUR: 'it returns false'. Refute it at one input. -/
def fnExactFindRenamingWrong : ChangeSpec := { name := "fnExactFindRenaming", fn := fun _ => fun
  | [d1, d2] => { results := [.lit (.bool false)], args := [d1, d2] }
  | _ => none }
def FnExactFindRenamingWrongFalsely : Prop := fnExactFindRenamingRow.holds Try.pinned (OpenSpec.ofChange fnExactFindRenamingWrong)

/-- 'laws.FnExactAllCuts': WHATEVER THE INPUT: true; the input reads as it did. -/
def fnExactAllCutsSpec : ChangeSpec := { name := "fnExactAllCuts", fn := fun _ => fun
  | [d] => { results := [.lit (.bool true)], args := [d] }
  | _ => none }
def fnExactAllCutsRow : OpenClaim := { program := "ytagncnjllpebjaa", sum := "089c4bdf3ef35d4487b3dbe1ed749b66d75fce46c11612ebec68daacca40e154", func := "loop.example/g00593/laws.FnExactAllCuts", spec := "fnExactAllCuts", unfollowed := true, recurses := true, apart := false }
def FnExactAllCutsSaid : Prop := fnExactAllCutsRow.holds Try.pinned (OpenSpec.ofChange fnExactAllCutsSpec)

/-- ITS FALSE NEIGHBOUR: 'it returns false'. Refute it at one input. -/
def fnExactAllCutsWrong : ChangeSpec := { name := "fnExactAllCuts", fn := fun _ => fun
  | [d] => { results := [.lit (.bool false)], args := [d] }
  | _ => none }
def FnExactAllCutsWrongFalsely : Prop := fnExactAllCutsRow.holds Try.pinned (OpenSpec.ofChange fnExactAllCutsWrong)

/- THE SECOND FORM. 'bulk': how many values and letters a reading holds, each counted each time it is reached (what is shared counts as often as it is met; a slice's spare places count too). A statement '..UptoSaid' is the law's where the arguments, and the package variables that the reading takes, are together of bulk at most 1048576: NARROWER than '..Said'. Prove '..Said' where nothing that the law and all that it calls make is longer than what came in: it says more and counts as full. Else prove '..UptoSaid'. A law counts once. -/
mutual
def uptoBulk {H : Type} : DataW H → Nat
  | .lit (.string bytes) => bytes.length + 1
  | .lit _ => 1
  | .nil => 1
  | .ptr d => uptoBulk d + 1
  | .slice elems spare => uptoBulkAll elems + uptoBulkAll spare + 1
  | .agg parts => uptoBulkAll parts + 1
  | .iface _ d => uptoBulk d + 1
  | .map entries => uptoBulkEntries entries + 1
  | .held _ => 1
def uptoBulkAll {H : Type} : List (DataW H) → Nat
  | [] => 0
  | d :: r => uptoBulk d + uptoBulkAll r
def uptoBulkEntries {H : Type} : List (Lit × DataW H) → Nat
  | [] => 0
  | x :: r => uptoBulkEntry x + uptoBulkEntries r
def uptoBulkEntry {H : Type} : Lit × DataW H → Nat
  | (.string bytes, d) => bytes.length + uptoBulk d + 1
  | (_, d) => uptoBulk d + 1
 end
def uptoSmall : (H : Type) → List (DataW H) → Bool := fun _ ds => decide (uptoBulkAll ds ≤ 1048576)
def OpenSpec.upto (s : _root_.Go.ChangeSpec) : _root_.Go.OpenSpec := { _root_.Go.OpenSpec.ofChange s with cond := some uptoSmall }

/-- 'laws.FnExactTruncate', WHERE WHAT IT READS IS OF BULK AT MOST 1048576: true; the input reads as it did. -/
def fnExactTruncateUptoRow : OpenClaim := { program := "ytagncnjllpebjaa", sum := "089c4bdf3ef35d4487b3dbe1ed749b66d75fce46c11612ebec68daacca40e154", func := "loop.example/g00593/laws.FnExactTruncate", spec := "fnExactTruncate", unfollowed := true, recurses := true, apart := false, narrowed := true }
def FnExactTruncateUptoSaid : Prop := fnExactTruncateUptoRow.holds Try.pinned (OpenSpec.upto fnExactTruncateSpec)

/-- 'laws.FnExactAugmentingPath', WHERE WHAT IT READS IS OF BULK AT MOST 1048576: true; the input reads as it did. -/
def fnExactAugmentingPathUptoRow : OpenClaim := { program := "ytagncnjllpebjaa", sum := "089c4bdf3ef35d4487b3dbe1ed749b66d75fce46c11612ebec68daacca40e154", func := "loop.example/g00593/laws.FnExactAugmentingPath", spec := "fnExactAugmentingPath", unfollowed := true, recurses := true, apart := false, narrowed := true }
def FnExactAugmentingPathUptoSaid : Prop := fnExactAugmentingPathUptoRow.holds Try.pinned (OpenSpec.upto fnExactAugmentingPathSpec)

/-- 'laws.FnExactUnionRank', WHERE WHAT IT READS IS OF BULK AT MOST 1048576: true; the input reads as it did. -/
def fnExactUnionRankUptoRow : OpenClaim := { program := "ytagncnjllpebjaa", sum := "089c4bdf3ef35d4487b3dbe1ed749b66d75fce46c11612ebec68daacca40e154", func := "loop.example/g00593/laws.FnExactUnionRank", spec := "fnExactUnionRank", unfollowed := true, recurses := true, apart := false, narrowed := true }
def FnExactUnionRankUptoSaid : Prop := fnExactUnionRankUptoRow.holds Try.pinned (OpenSpec.upto fnExactUnionRankSpec)

/-- 'laws.FnExactBestWeights', WHERE WHAT IT READS IS OF BULK AT MOST 1048576: true; the input reads as it did. -/
def fnExactBestWeightsUptoRow : OpenClaim := { program := "ytagncnjllpebjaa", sum := "089c4bdf3ef35d4487b3dbe1ed749b66d75fce46c11612ebec68daacca40e154", func := "loop.example/g00593/laws.FnExactBestWeights", spec := "fnExactBestWeights", unfollowed := true, recurses := true, apart := false, narrowed := true }
def FnExactBestWeightsUptoSaid : Prop := fnExactBestWeightsUptoRow.holds Try.pinned (OpenSpec.upto fnExactBestWeightsSpec)

/-- 'laws.FnExactCoverNumber', WHERE WHAT IT READS IS OF BULK AT MOST 1048576: true; the input reads as it did. -/
def fnExactCoverNumberUptoRow : OpenClaim := { program := "ytagncnjllpebjaa", sum := "089c4bdf3ef35d4487b3dbe1ed749b66d75fce46c11612ebec68daacca40e154", func := "loop.example/g00593/laws.FnExactCoverNumber", spec := "fnExactCoverNumber", unfollowed := true, recurses := true, apart := false, narrowed := true }
def FnExactCoverNumberUptoSaid : Prop := fnExactCoverNumberUptoRow.holds Try.pinned (OpenSpec.upto fnExactCoverNumberSpec)

/-- 'laws.FnExactBestOfSize', WHERE WHAT IT READS IS OF BULK AT MOST 1048576: true; the input reads as it did. -/
def fnExactBestOfSizeUptoRow : OpenClaim := { program := "ytagncnjllpebjaa", sum := "089c4bdf3ef35d4487b3dbe1ed749b66d75fce46c11612ebec68daacca40e154", func := "loop.example/g00593/laws.FnExactBestOfSize", spec := "fnExactBestOfSize", unfollowed := true, recurses := true, apart := false, narrowed := true }
def FnExactBestOfSizeUptoSaid : Prop := fnExactBestOfSizeUptoRow.holds Try.pinned (OpenSpec.upto fnExactBestOfSizeSpec)

/-- 'laws.FnExactGreedyBase', WHERE WHAT IT READS IS OF BULK AT MOST 1048576: true; the input reads as it did. -/
def fnExactGreedyBaseUptoRow : OpenClaim := { program := "ytagncnjllpebjaa", sum := "089c4bdf3ef35d4487b3dbe1ed749b66d75fce46c11612ebec68daacca40e154", func := "loop.example/g00593/laws.FnExactGreedyBase", spec := "fnExactGreedyBase", unfollowed := true, recurses := true, apart := false, narrowed := true }
def FnExactGreedyBaseUptoSaid : Prop := fnExactGreedyBaseUptoRow.holds Try.pinned (OpenSpec.upto fnExactGreedyBaseSpec)

/-- 'laws.FnExactExtend', WHERE WHAT IT READS IS OF BULK AT MOST 1048576: true; the input reads as it did. -/
def fnExactExtendUptoRow : OpenClaim := { program := "ytagncnjllpebjaa", sum := "089c4bdf3ef35d4487b3dbe1ed749b66d75fce46c11612ebec68daacca40e154", func := "loop.example/g00593/laws.FnExactExtend", spec := "fnExactExtend", unfollowed := true, recurses := true, apart := false, narrowed := true }
def FnExactExtendUptoSaid : Prop := fnExactExtendUptoRow.holds Try.pinned (OpenSpec.upto fnExactExtendSpec)

/-- 'laws.FnExactFromSets', WHERE WHAT IT READS IS OF BULK AT MOST 1048576: true; the input reads as it did. -/
def fnExactFromSetsUptoRow : OpenClaim := { program := "ytagncnjllpebjaa", sum := "089c4bdf3ef35d4487b3dbe1ed749b66d75fce46c11612ebec68daacca40e154", func := "loop.example/g00593/laws.FnExactFromSets", spec := "fnExactFromSets", unfollowed := true, recurses := true, apart := false, narrowed := true }
def FnExactFromSetsUptoSaid : Prop := fnExactFromSetsUptoRow.holds Try.pinned (OpenSpec.upto fnExactFromSetsSpec)

/-- 'laws.FnExactCanonOf', WHERE WHAT IT READS IS OF BULK AT MOST 1048576: true; the input reads as it did. -/
def fnExactCanonOfUptoRow : OpenClaim := { program := "ytagncnjllpebjaa", sum := "089c4bdf3ef35d4487b3dbe1ed749b66d75fce46c11612ebec68daacca40e154", func := "loop.example/g00593/laws.FnExactCanonOf", spec := "fnExactCanonOf", unfollowed := true, recurses := true, apart := false, narrowed := true }
def FnExactCanonOfUptoSaid : Prop := fnExactCanonOfUptoRow.holds Try.pinned (OpenSpec.upto fnExactCanonOfSpec)

/-- 'laws.FnExactPartitionMatroid', WHERE WHAT IT READS IS OF BULK AT MOST 1048576: true; the input reads as it did. -/
def fnExactPartitionMatroidUptoRow : OpenClaim := { program := "ytagncnjllpebjaa", sum := "089c4bdf3ef35d4487b3dbe1ed749b66d75fce46c11612ebec68daacca40e154", func := "loop.example/g00593/laws.FnExactPartitionMatroid", spec := "fnExactPartitionMatroid", unfollowed := true, recurses := true, apart := false, narrowed := true }
def FnExactPartitionMatroidUptoSaid : Prop := fnExactPartitionMatroidUptoRow.holds Try.pinned (OpenSpec.upto fnExactPartitionMatroidSpec)

/-- 'laws.FnExactFindRenaming', WHERE WHAT IT READS IS OF BULK AT MOST 1048576: true; the input reads as it did. -/
def fnExactFindRenamingUptoRow : OpenClaim := { program := "ytagncnjllpebjaa", sum := "089c4bdf3ef35d4487b3dbe1ed749b66d75fce46c11612ebec68daacca40e154", func := "loop.example/g00593/laws.FnExactFindRenaming", spec := "fnExactFindRenaming", unfollowed := true, recurses := true, apart := false, narrowed := true }
def FnExactFindRenamingUptoSaid : Prop := fnExactFindRenamingUptoRow.holds Try.pinned (OpenSpec.upto fnExactFindRenamingSpec)

/-- 'laws.FnExactAllCuts', WHERE WHAT IT READS IS OF BULK AT MOST 1048576: true; the input reads as it did. -/
def fnExactAllCutsUptoRow : OpenClaim := { program := "ytagncnjllpebjaa", sum := "089c4bdf3ef35d4487b3dbe1ed749b66d75fce46c11612ebec68daacca40e154", func := "loop.example/g00593/laws.FnExactAllCuts", spec := "fnExactAllCuts", unfollowed := true, recurses := true, apart := false, narrowed := true }
def FnExactAllCutsUptoSaid : Prop := fnExactAllCutsUptoRow.holds Try.pinned (OpenSpec.upto fnExactAllCutsSpec)

end Rows
end Go.Proofs.Ytagncnjllpebjaa
