/-
  No cell of these rows narrows 'for every input' (looked for: loops, veiled, ifaces, maps, wideKeys, modest, calm, conditions, laid).
  DERIVED. THE GIVEN ROWS OF THIS SEAT. 30 by the template 'for every input the law returns true; each argument reads behind the call as it read before'; 0 by the template 'total and deterministic' (their statements: YtinoamehdhgpgaaTotals.lean).
  GIVEN WITH THE SEED: the statements are not yours to turn. If you find one false, say at which input.
  Laid BY PROGRAM, IN A SANDBOX (cutbox-rows.mjs): the forced cells as the released guide's own fill.sh prints them over the translation 18debe20cfe43433… (all of the seat's roots in one cut). By AI agents, Wed Nov 11 2026. No macro, syntax, notation, axiom, sorry.
-/
import Derived.Test.YtinoamehdhgpgaaChecked
import GoSem.Claim
import GoSem.ClaimJoined
import GoSem.ClaimMapViews
import Derived.JoinedTies
import Derived.KernelRfl
namespace Go.Proofs.Ytinoamehdhgpgaa
/- THE CELL 'sum', in the pinned program and in every row, IS THE sha256 OF THE DUMP (.gsa) THAT YtinoamehdhgpgaaProg.lean LOADS. Nothing in Lean hashes anything: it is a label: what it is worth is what the hold of that sum in a sandbox is worth. -/
noncomputable def Try.pinned : Pinned := { name := "ytinoamehdhgpgaa", sum := "18debe20cfe4343382d64996bfd54d97120812b4fd10f8c0f9ca5316bd43c585", checked := Try.checked }
namespace Rows
def none {H : Type} : Left H := { results := [], args := [] }

/-- 'laws.FnExactDisjointBases': WHATEVER THE INPUT: true; the input reads as it did. -/
def fnExactDisjointBasesSpec : ChangeSpec := { name := "fnExactDisjointBases", fn := fun _ => fun
  | [d] => { results := [.lit (.bool true)], args := [d] }
  | _ => none }
def fnExactDisjointBasesRow : OpenClaim := { program := "ytinoamehdhgpgaa", sum := "18debe20cfe4343382d64996bfd54d97120812b4fd10f8c0f9ca5316bd43c585", func := "loop.example/g00593/laws.FnExactDisjointBases", spec := "fnExactDisjointBases", unfollowed := true, recurses := true, apart := false }
def FnExactDisjointBasesSaid : Prop := fnExactDisjointBasesRow.holds Try.pinned (OpenSpec.ofChange fnExactDisjointBasesSpec)

/-- ITS FALSE NEIGHBOUR: 'it returns false'. Refute it at one input. -/
def fnExactDisjointBasesWrong : ChangeSpec := { name := "fnExactDisjointBases", fn := fun _ => fun
  | [d] => { results := [.lit (.bool false)], args := [d] }
  | _ => none }
def FnExactDisjointBasesWrongFalsely : Prop := fnExactDisjointBasesRow.holds Try.pinned (OpenSpec.ofChange fnExactDisjointBasesWrong)

/-- 'laws.FnExactLargestCommon': WHATEVER THE INPUT: true; the input reads as it did. -/
def fnExactLargestCommonSpec : ChangeSpec := { name := "fnExactLargestCommon", fn := fun _ => fun
  | [d1, d2] => { results := [.lit (.bool true)], args := [d1, d2] }
  | _ => none }
def fnExactLargestCommonRow : OpenClaim := { program := "ytinoamehdhgpgaa", sum := "18debe20cfe4343382d64996bfd54d97120812b4fd10f8c0f9ca5316bd43c585", func := "loop.example/g00593/laws.FnExactLargestCommon", spec := "fnExactLargestCommon", unfollowed := true, recurses := true, apart := false }
def FnExactLargestCommonSaid : Prop := fnExactLargestCommonRow.holds Try.pinned (OpenSpec.ofChange fnExactLargestCommonSpec)

/-- ITS FALSE NEIGHBOUR: 'it returns false'. Refute it at one input. -/
def fnExactLargestCommonWrong : ChangeSpec := { name := "fnExactLargestCommon", fn := fun _ => fun
  | [d1, d2] => { results := [.lit (.bool false)], args := [d1, d2] }
  | _ => none }
def FnExactLargestCommonWrongFalsely : Prop := fnExactLargestCommonRow.holds Try.pinned (OpenSpec.ofChange fnExactLargestCommonWrong)

/-- 'laws.FnExactPackingBound': WHATEVER THE INPUT: true; the input reads as it did. -/
def fnExactPackingBoundSpec : ChangeSpec := { name := "fnExactPackingBound", fn := fun _ => fun
  | [d] => { results := [.lit (.bool true)], args := [d] }
  | _ => none }
def fnExactPackingBoundRow : OpenClaim := { program := "ytinoamehdhgpgaa", sum := "18debe20cfe4343382d64996bfd54d97120812b4fd10f8c0f9ca5316bd43c585", func := "loop.example/g00593/laws.FnExactPackingBound", spec := "fnExactPackingBound", unfollowed := true, recurses := true, apart := false }
def FnExactPackingBoundSaid : Prop := fnExactPackingBoundRow.holds Try.pinned (OpenSpec.ofChange fnExactPackingBoundSpec)

/-- ITS FALSE NEIGHBOUR: 'it returns false'. Refute it at one input. -/
def fnExactPackingBoundWrong : ChangeSpec := { name := "fnExactPackingBound", fn := fun _ => fun
  | [d] => { results := [.lit (.bool false)], args := [d] }
  | _ => none }
def FnExactPackingBoundWrongFalsely : Prop := fnExactPackingBoundRow.holds Try.pinned (OpenSpec.ofChange fnExactPackingBoundWrong)

/-- 'laws.FnExactThresholdOf': WHATEVER THE INPUT: true; the input reads as it did. -/
def fnExactThresholdOfSpec : ChangeSpec := { name := "fnExactThresholdOf", fn := fun _ => fun
  | [d1, d2, d3] => { results := [.lit (.bool true)], args := [d1, d2, d3] }
  | _ => none }
def fnExactThresholdOfRow : OpenClaim := { program := "ytinoamehdhgpgaa", sum := "18debe20cfe4343382d64996bfd54d97120812b4fd10f8c0f9ca5316bd43c585", func := "loop.example/g00593/laws.FnExactThresholdOf", spec := "fnExactThresholdOf", unfollowed := true, recurses := true, apart := false }
def FnExactThresholdOfSaid : Prop := fnExactThresholdOfRow.holds Try.pinned (OpenSpec.ofChange fnExactThresholdOfSpec)

/-- ITS FALSE NEIGHBOUR: 'it returns false'. Refute it at one input. -/
def fnExactThresholdOfWrong : ChangeSpec := { name := "fnExactThresholdOf", fn := fun _ => fun
  | [d1, d2, d3] => { results := [.lit (.bool false)], args := [d1, d2, d3] }
  | _ => none }
def FnExactThresholdOfWrongFalsely : Prop := fnExactThresholdOfRow.holds Try.pinned (OpenSpec.ofChange fnExactThresholdOfWrong)

/-- 'laws.FnExactCoverBound': WHATEVER THE INPUT: true; the input reads as it did. -/
def fnExactCoverBoundSpec : ChangeSpec := { name := "fnExactCoverBound", fn := fun _ => fun
  | [d] => { results := [.lit (.bool true)], args := [d] }
  | _ => none }
def fnExactCoverBoundRow : OpenClaim := { program := "ytinoamehdhgpgaa", sum := "18debe20cfe4343382d64996bfd54d97120812b4fd10f8c0f9ca5316bd43c585", func := "loop.example/g00593/laws.FnExactCoverBound", spec := "fnExactCoverBound", unfollowed := true, recurses := true, apart := false }
def FnExactCoverBoundSaid : Prop := fnExactCoverBoundRow.holds Try.pinned (OpenSpec.ofChange fnExactCoverBoundSpec)

/-- ITS FALSE NEIGHBOUR: 'it returns false'. Refute it at one input. -/
def fnExactCoverBoundWrong : ChangeSpec := { name := "fnExactCoverBound", fn := fun _ => fun
  | [d] => { results := [.lit (.bool false)], args := [d] }
  | _ => none }
def FnExactCoverBoundWrongFalsely : Prop := fnExactCoverBoundRow.holds Try.pinned (OpenSpec.ofChange fnExactCoverBoundWrong)

/-- 'laws.FnExactTruncate': WHATEVER THE INPUT: true; the input reads as it did. -/
def fnExactTruncateSpec : ChangeSpec := { name := "fnExactTruncate", fn := fun _ => fun
  | [d1, d2] => { results := [.lit (.bool true)], args := [d1, d2] }
  | _ => none }
def fnExactTruncateRow : OpenClaim := { program := "ytinoamehdhgpgaa", sum := "18debe20cfe4343382d64996bfd54d97120812b4fd10f8c0f9ca5316bd43c585", func := "loop.example/g00593/laws.FnExactTruncate", spec := "fnExactTruncate", unfollowed := true, recurses := true, apart := false }
def FnExactTruncateSaid : Prop := fnExactTruncateRow.holds Try.pinned (OpenSpec.ofChange fnExactTruncateSpec)

/-- ITS FALSE NEIGHBOUR: 'it returns false'. Refute it at one input. -/
def fnExactTruncateWrong : ChangeSpec := { name := "fnExactTruncate", fn := fun _ => fun
  | [d1, d2] => { results := [.lit (.bool false)], args := [d1, d2] }
  | _ => none }
def FnExactTruncateWrongFalsely : Prop := fnExactTruncateRow.holds Try.pinned (OpenSpec.ofChange fnExactTruncateWrong)

/-- 'laws.FnExactCertificateOf': WHATEVER THE INPUT: true; the input reads as it did. -/
def fnExactCertificateOfSpec : ChangeSpec := { name := "fnExactCertificateOf", fn := fun _ => fun
  | [d1, d2] => { results := [.lit (.bool true)], args := [d1, d2] }
  | _ => none }
def fnExactCertificateOfRow : OpenClaim := { program := "ytinoamehdhgpgaa", sum := "18debe20cfe4343382d64996bfd54d97120812b4fd10f8c0f9ca5316bd43c585", func := "loop.example/g00593/laws.FnExactCertificateOf", spec := "fnExactCertificateOf", unfollowed := true, recurses := true, apart := false }
def FnExactCertificateOfSaid : Prop := fnExactCertificateOfRow.holds Try.pinned (OpenSpec.ofChange fnExactCertificateOfSpec)

/-- ITS FALSE NEIGHBOUR: 'it returns false'. Refute it at one input. -/
def fnExactCertificateOfWrong : ChangeSpec := { name := "fnExactCertificateOf", fn := fun _ => fun
  | [d1, d2] => { results := [.lit (.bool false)], args := [d1, d2] }
  | _ => none }
def FnExactCertificateOfWrongFalsely : Prop := fnExactCertificateOfRow.holds Try.pinned (OpenSpec.ofChange fnExactCertificateOfWrong)

/-- 'laws.FnExactAugmentingPath': WHATEVER THE INPUT: true; the input reads as it did. -/
def fnExactAugmentingPathSpec : ChangeSpec := { name := "fnExactAugmentingPath", fn := fun _ => fun
  | [d1, d2, d3] => { results := [.lit (.bool true)], args := [d1, d2, d3] }
  | _ => none }
def fnExactAugmentingPathRow : OpenClaim := { program := "ytinoamehdhgpgaa", sum := "18debe20cfe4343382d64996bfd54d97120812b4fd10f8c0f9ca5316bd43c585", func := "loop.example/g00593/laws.FnExactAugmentingPath", spec := "fnExactAugmentingPath", unfollowed := true, recurses := true, apart := false }
def FnExactAugmentingPathSaid : Prop := fnExactAugmentingPathRow.holds Try.pinned (OpenSpec.ofChange fnExactAugmentingPathSpec)

/-- ITS FALSE NEIGHBOUR: 'it returns false'. Refute it at one input. -/
def fnExactAugmentingPathWrong : ChangeSpec := { name := "fnExactAugmentingPath", fn := fun _ => fun
  | [d1, d2, d3] => { results := [.lit (.bool false)], args := [d1, d2, d3] }
  | _ => none }
def FnExactAugmentingPathWrongFalsely : Prop := fnExactAugmentingPathRow.holds Try.pinned (OpenSpec.ofChange fnExactAugmentingPathWrong)

/-- 'laws.FnExactBestCommon': WHATEVER THE INPUT: true; the input reads as it did. -/
def fnExactBestCommonSpec : ChangeSpec := { name := "fnExactBestCommon", fn := fun _ => fun
  | [d1, d2, d3, d4] => { results := [.lit (.bool true)], args := [d1, d2, d3, d4] }
  | _ => none }
def fnExactBestCommonRow : OpenClaim := { program := "ytinoamehdhgpgaa", sum := "18debe20cfe4343382d64996bfd54d97120812b4fd10f8c0f9ca5316bd43c585", func := "loop.example/g00593/laws.FnExactBestCommon", spec := "fnExactBestCommon", unfollowed := true, recurses := true, apart := false }
def FnExactBestCommonSaid : Prop := fnExactBestCommonRow.holds Try.pinned (OpenSpec.ofChange fnExactBestCommonSpec)

/-- ITS FALSE NEIGHBOUR: 'it returns false'. Refute it at one input. -/
def fnExactBestCommonWrong : ChangeSpec := { name := "fnExactBestCommon", fn := fun _ => fun
  | [d1, d2, d3, d4] => { results := [.lit (.bool false)], args := [d1, d2, d3, d4] }
  | _ => none }
def FnExactBestCommonWrongFalsely : Prop := fnExactBestCommonRow.holds Try.pinned (OpenSpec.ofChange fnExactBestCommonWrong)

/-- 'laws.FnExactPrincipalCut': WHATEVER THE INPUT: true; the input reads as it did. -/
def fnExactPrincipalCutSpec : ChangeSpec := { name := "fnExactPrincipalCut", fn := fun _ => fun
  | [d1, d2] => { results := [.lit (.bool true)], args := [d1, d2] }
  | _ => none }
def fnExactPrincipalCutRow : OpenClaim := { program := "ytinoamehdhgpgaa", sum := "18debe20cfe4343382d64996bfd54d97120812b4fd10f8c0f9ca5316bd43c585", func := "loop.example/g00593/laws.FnExactPrincipalCut", spec := "fnExactPrincipalCut", unfollowed := true, recurses := true, apart := false }
def FnExactPrincipalCutSaid : Prop := fnExactPrincipalCutRow.holds Try.pinned (OpenSpec.ofChange fnExactPrincipalCutSpec)

/-- ITS FALSE NEIGHBOUR: 'it returns false'. Refute it at one input. -/
def fnExactPrincipalCutWrong : ChangeSpec := { name := "fnExactPrincipalCut", fn := fun _ => fun
  | [d1, d2] => { results := [.lit (.bool false)], args := [d1, d2] }
  | _ => none }
def FnExactPrincipalCutWrongFalsely : Prop := fnExactPrincipalCutRow.holds Try.pinned (OpenSpec.ofChange fnExactPrincipalCutWrong)

/-- 'laws.FnExactIsModularCut': WHATEVER THE INPUT: true; the input reads as it did. -/
def fnExactIsModularCutSpec : ChangeSpec := { name := "fnExactIsModularCut", fn := fun _ => fun
  | [d1, d2] => { results := [.lit (.bool true)], args := [d1, d2] }
  | _ => none }
def fnExactIsModularCutRow : OpenClaim := { program := "ytinoamehdhgpgaa", sum := "18debe20cfe4343382d64996bfd54d97120812b4fd10f8c0f9ca5316bd43c585", func := "loop.example/g00593/laws.FnExactIsModularCut", spec := "fnExactIsModularCut", unfollowed := true, recurses := true, apart := false }
def FnExactIsModularCutSaid : Prop := fnExactIsModularCutRow.holds Try.pinned (OpenSpec.ofChange fnExactIsModularCutSpec)

/-- ITS FALSE NEIGHBOUR: 'it returns false'. Refute it at one input. -/
def fnExactIsModularCutWrong : ChangeSpec := { name := "fnExactIsModularCut", fn := fun _ => fun
  | [d1, d2] => { results := [.lit (.bool false)], args := [d1, d2] }
  | _ => none }
def FnExactIsModularCutWrongFalsely : Prop := fnExactIsModularCutRow.holds Try.pinned (OpenSpec.ofChange fnExactIsModularCutWrong)

/-- 'laws.FnExactUnionRank': WHATEVER THE INPUT: true; the input reads as it did. -/
def fnExactUnionRankSpec : ChangeSpec := { name := "fnExactUnionRank", fn := fun _ => fun
  | [d1, d2] => { results := [.lit (.bool true)], args := [d1, d2] }
  | _ => none }
def fnExactUnionRankRow : OpenClaim := { program := "ytinoamehdhgpgaa", sum := "18debe20cfe4343382d64996bfd54d97120812b4fd10f8c0f9ca5316bd43c585", func := "loop.example/g00593/laws.FnExactUnionRank", spec := "fnExactUnionRank", unfollowed := true, recurses := true, apart := false }
def FnExactUnionRankSaid : Prop := fnExactUnionRankRow.holds Try.pinned (OpenSpec.ofChange fnExactUnionRankSpec)

/-- ITS FALSE NEIGHBOUR: 'it returns false'. Refute it at one input. -/
def fnExactUnionRankWrong : ChangeSpec := { name := "fnExactUnionRank", fn := fun _ => fun
  | [d1, d2] => { results := [.lit (.bool false)], args := [d1, d2] }
  | _ => none }
def FnExactUnionRankWrongFalsely : Prop := fnExactUnionRankRow.holds Try.pinned (OpenSpec.ofChange fnExactUnionRankWrong)

/-- 'laws.FnExactIsSplit': WHATEVER THE INPUT: true; the input reads as it did. -/
def fnExactIsSplitSpec : ChangeSpec := { name := "fnExactIsSplit", fn := fun _ => fun
  | [d1, d2, d3, d4, d5] => { results := [.lit (.bool true)], args := [d1, d2, d3, d4, d5] }
  | _ => none }
def fnExactIsSplitRow : OpenClaim := { program := "ytinoamehdhgpgaa", sum := "18debe20cfe4343382d64996bfd54d97120812b4fd10f8c0f9ca5316bd43c585", func := "loop.example/g00593/laws.FnExactIsSplit", spec := "fnExactIsSplit", unfollowed := true, recurses := true, apart := false }
def FnExactIsSplitSaid : Prop := fnExactIsSplitRow.holds Try.pinned (OpenSpec.ofChange fnExactIsSplitSpec)

/-- ITS FALSE NEIGHBOUR: 'it returns false'. Refute it at one input. -/
def fnExactIsSplitWrong : ChangeSpec := { name := "fnExactIsSplit", fn := fun _ => fun
  | [d1, d2, d3, d4, d5] => { results := [.lit (.bool false)], args := [d1, d2, d3, d4, d5] }
  | _ => none }
def FnExactIsSplitWrongFalsely : Prop := fnExactIsSplitRow.holds Try.pinned (OpenSpec.ofChange fnExactIsSplitWrong)

/-- 'laws.FnExactBestWeights': WHATEVER THE INPUT: true; the input reads as it did. -/
def fnExactBestWeightsSpec : ChangeSpec := { name := "fnExactBestWeights", fn := fun _ => fun
  | [d1, d2, d3] => { results := [.lit (.bool true)], args := [d1, d2, d3] }
  | _ => none }
def fnExactBestWeightsRow : OpenClaim := { program := "ytinoamehdhgpgaa", sum := "18debe20cfe4343382d64996bfd54d97120812b4fd10f8c0f9ca5316bd43c585", func := "loop.example/g00593/laws.FnExactBestWeights", spec := "fnExactBestWeights", unfollowed := true, recurses := true, apart := false }
def FnExactBestWeightsSaid : Prop := fnExactBestWeightsRow.holds Try.pinned (OpenSpec.ofChange fnExactBestWeightsSpec)

/-- ITS FALSE NEIGHBOUR: 'it returns false'. Refute it at one input. -/
def fnExactBestWeightsWrong : ChangeSpec := { name := "fnExactBestWeights", fn := fun _ => fun
  | [d1, d2, d3] => { results := [.lit (.bool false)], args := [d1, d2, d3] }
  | _ => none }
def FnExactBestWeightsWrongFalsely : Prop := fnExactBestWeightsRow.holds Try.pinned (OpenSpec.ofChange fnExactBestWeightsWrong)

/-- 'laws.FnExactCoverNumber': WHATEVER THE INPUT: true; the input reads as it did. -/
def fnExactCoverNumberSpec : ChangeSpec := { name := "fnExactCoverNumber", fn := fun _ => fun
  | [d] => { results := [.lit (.bool true)], args := [d] }
  | _ => none }
def fnExactCoverNumberRow : OpenClaim := { program := "ytinoamehdhgpgaa", sum := "18debe20cfe4343382d64996bfd54d97120812b4fd10f8c0f9ca5316bd43c585", func := "loop.example/g00593/laws.FnExactCoverNumber", spec := "fnExactCoverNumber", unfollowed := true, recurses := true, apart := false }
def FnExactCoverNumberSaid : Prop := fnExactCoverNumberRow.holds Try.pinned (OpenSpec.ofChange fnExactCoverNumberSpec)

/-- ITS FALSE NEIGHBOUR: 'it returns false'. Refute it at one input. -/
def fnExactCoverNumberWrong : ChangeSpec := { name := "fnExactCoverNumber", fn := fun _ => fun
  | [d] => { results := [.lit (.bool false)], args := [d] }
  | _ => none }
def FnExactCoverNumberWrongFalsely : Prop := fnExactCoverNumberRow.holds Try.pinned (OpenSpec.ofChange fnExactCoverNumberWrong)

/-- 'laws.FnExactBestOfSize': WHATEVER THE INPUT: true; the input reads as it did. -/
def fnExactBestOfSizeSpec : ChangeSpec := { name := "fnExactBestOfSize", fn := fun _ => fun
  | [d1, d2, d3] => { results := [.lit (.bool true)], args := [d1, d2, d3] }
  | _ => none }
def fnExactBestOfSizeRow : OpenClaim := { program := "ytinoamehdhgpgaa", sum := "18debe20cfe4343382d64996bfd54d97120812b4fd10f8c0f9ca5316bd43c585", func := "loop.example/g00593/laws.FnExactBestOfSize", spec := "fnExactBestOfSize", unfollowed := true, recurses := true, apart := false }
def FnExactBestOfSizeSaid : Prop := fnExactBestOfSizeRow.holds Try.pinned (OpenSpec.ofChange fnExactBestOfSizeSpec)

/-- ITS FALSE NEIGHBOUR: 'it returns false'. Refute it at one input. -/
def fnExactBestOfSizeWrong : ChangeSpec := { name := "fnExactBestOfSize", fn := fun _ => fun
  | [d1, d2, d3] => { results := [.lit (.bool false)], args := [d1, d2, d3] }
  | _ => none }
def FnExactBestOfSizeWrongFalsely : Prop := fnExactBestOfSizeRow.holds Try.pinned (OpenSpec.ofChange fnExactBestOfSizeWrong)

/-- 'laws.FnExactGreedyBase': WHATEVER THE INPUT: true; the input reads as it did. -/
def fnExactGreedyBaseSpec : ChangeSpec := { name := "fnExactGreedyBase", fn := fun _ => fun
  | [d1, d2] => { results := [.lit (.bool true)], args := [d1, d2] }
  | _ => none }
def fnExactGreedyBaseRow : OpenClaim := { program := "ytinoamehdhgpgaa", sum := "18debe20cfe4343382d64996bfd54d97120812b4fd10f8c0f9ca5316bd43c585", func := "loop.example/g00593/laws.FnExactGreedyBase", spec := "fnExactGreedyBase", unfollowed := true, recurses := true, apart := false }
def FnExactGreedyBaseSaid : Prop := fnExactGreedyBaseRow.holds Try.pinned (OpenSpec.ofChange fnExactGreedyBaseSpec)

/-- ITS FALSE NEIGHBOUR: 'it returns false'. Refute it at one input. -/
def fnExactGreedyBaseWrong : ChangeSpec := { name := "fnExactGreedyBase", fn := fun _ => fun
  | [d1, d2] => { results := [.lit (.bool false)], args := [d1, d2] }
  | _ => none }
def FnExactGreedyBaseWrongFalsely : Prop := fnExactGreedyBaseRow.holds Try.pinned (OpenSpec.ofChange fnExactGreedyBaseWrong)

/-- 'laws.FnExactExtend': WHATEVER THE INPUT: true; the input reads as it did. -/
def fnExactExtendSpec : ChangeSpec := { name := "fnExactExtend", fn := fun _ => fun
  | [d1, d2] => { results := [.lit (.bool true)], args := [d1, d2] }
  | _ => none }
def fnExactExtendRow : OpenClaim := { program := "ytinoamehdhgpgaa", sum := "18debe20cfe4343382d64996bfd54d97120812b4fd10f8c0f9ca5316bd43c585", func := "loop.example/g00593/laws.FnExactExtend", spec := "fnExactExtend", unfollowed := true, recurses := true, apart := false }
def FnExactExtendSaid : Prop := fnExactExtendRow.holds Try.pinned (OpenSpec.ofChange fnExactExtendSpec)

/-- ITS FALSE NEIGHBOUR: 'it returns false'. Refute it at one input. -/
def fnExactExtendWrong : ChangeSpec := { name := "fnExactExtend", fn := fun _ => fun
  | [d1, d2] => { results := [.lit (.bool false)], args := [d1, d2] }
  | _ => none }
def FnExactExtendWrongFalsely : Prop := fnExactExtendRow.holds Try.pinned (OpenSpec.ofChange fnExactExtendWrong)

/-- 'laws.FnExactCutOf': WHATEVER THE INPUT: true; the input reads as it did. -/
def fnExactCutOfSpec : ChangeSpec := { name := "fnExactCutOf", fn := fun _ => fun
  | [d] => { results := [.lit (.bool true)], args := [d] }
  | _ => none }
def fnExactCutOfRow : OpenClaim := { program := "ytinoamehdhgpgaa", sum := "18debe20cfe4343382d64996bfd54d97120812b4fd10f8c0f9ca5316bd43c585", func := "loop.example/g00593/laws.FnExactCutOf", spec := "fnExactCutOf", unfollowed := true, recurses := true, apart := false }
def FnExactCutOfSaid : Prop := fnExactCutOfRow.holds Try.pinned (OpenSpec.ofChange fnExactCutOfSpec)

/-- ITS FALSE NEIGHBOUR: 'it returns false'. Refute it at one input. -/
def fnExactCutOfWrong : ChangeSpec := { name := "fnExactCutOf", fn := fun _ => fun
  | [d] => { results := [.lit (.bool false)], args := [d] }
  | _ => none }
def FnExactCutOfWrongFalsely : Prop := fnExactCutOfRow.holds Try.pinned (OpenSpec.ofChange fnExactCutOfWrong)

/-- 'laws.FnExactSignatureOf': WHATEVER THE INPUT: true; the input reads as it did. -/
def fnExactSignatureOfSpec : ChangeSpec := { name := "fnExactSignatureOf", fn := fun _ => fun
  | [d] => { results := [.lit (.bool true)], args := [d] }
  | _ => none }
def fnExactSignatureOfRow : OpenClaim := { program := "ytinoamehdhgpgaa", sum := "18debe20cfe4343382d64996bfd54d97120812b4fd10f8c0f9ca5316bd43c585", func := "loop.example/g00593/laws.FnExactSignatureOf", spec := "fnExactSignatureOf", unfollowed := true, recurses := true, apart := false }
def FnExactSignatureOfSaid : Prop := fnExactSignatureOfRow.holds Try.pinned (OpenSpec.ofChange fnExactSignatureOfSpec)

/-- ITS FALSE NEIGHBOUR: 'it returns false'. Refute it at one input. -/
def fnExactSignatureOfWrong : ChangeSpec := { name := "fnExactSignatureOf", fn := fun _ => fun
  | [d] => { results := [.lit (.bool false)], args := [d] }
  | _ => none }
def FnExactSignatureOfWrongFalsely : Prop := fnExactSignatureOfRow.holds Try.pinned (OpenSpec.ofChange fnExactSignatureOfWrong)

/-- 'laws.FnExactRenameMatroid': WHATEVER THE INPUT: true; the input reads as it did. -/
def fnExactRenameMatroidSpec : ChangeSpec := { name := "fnExactRenameMatroid", fn := fun _ => fun
  | [d1, d2] => { results := [.lit (.bool true)], args := [d1, d2] }
  | _ => none }
def fnExactRenameMatroidRow : OpenClaim := { program := "ytinoamehdhgpgaa", sum := "18debe20cfe4343382d64996bfd54d97120812b4fd10f8c0f9ca5316bd43c585", func := "loop.example/g00593/laws.FnExactRenameMatroid", spec := "fnExactRenameMatroid", unfollowed := true, recurses := true, apart := false }
def FnExactRenameMatroidSaid : Prop := fnExactRenameMatroidRow.holds Try.pinned (OpenSpec.ofChange fnExactRenameMatroidSpec)

/-- ITS FALSE NEIGHBOUR: 'it returns false'. Refute it at one input. -/
def fnExactRenameMatroidWrong : ChangeSpec := { name := "fnExactRenameMatroid", fn := fun _ => fun
  | [d1, d2] => { results := [.lit (.bool false)], args := [d1, d2] }
  | _ => none }
def FnExactRenameMatroidWrongFalsely : Prop := fnExactRenameMatroidRow.holds Try.pinned (OpenSpec.ofChange fnExactRenameMatroidWrong)

/-- 'laws.FnExactFromSets': WHATEVER THE INPUT: true; the input reads as it did. -/
def fnExactFromSetsSpec : ChangeSpec := { name := "fnExactFromSets", fn := fun _ => fun
  | [d1, d2] => { results := [.lit (.bool true)], args := [d1, d2] }
  | _ => none }
def fnExactFromSetsRow : OpenClaim := { program := "ytinoamehdhgpgaa", sum := "18debe20cfe4343382d64996bfd54d97120812b4fd10f8c0f9ca5316bd43c585", func := "loop.example/g00593/laws.FnExactFromSets", spec := "fnExactFromSets", unfollowed := true, recurses := true, apart := false }
def FnExactFromSetsSaid : Prop := fnExactFromSetsRow.holds Try.pinned (OpenSpec.ofChange fnExactFromSetsSpec)

/-- ITS FALSE NEIGHBOUR: 'it returns false'. Refute it at one input. -/
def fnExactFromSetsWrong : ChangeSpec := { name := "fnExactFromSets", fn := fun _ => fun
  | [d1, d2] => { results := [.lit (.bool false)], args := [d1, d2] }
  | _ => none }
def FnExactFromSetsWrongFalsely : Prop := fnExactFromSetsRow.holds Try.pinned (OpenSpec.ofChange fnExactFromSetsWrong)

/-- 'laws.FnExactCanonOf': WHATEVER THE INPUT: true; the input reads as it did. -/
def fnExactCanonOfSpec : ChangeSpec := { name := "fnExactCanonOf", fn := fun _ => fun
  | [d] => { results := [.lit (.bool true)], args := [d] }
  | _ => none }
def fnExactCanonOfRow : OpenClaim := { program := "ytinoamehdhgpgaa", sum := "18debe20cfe4343382d64996bfd54d97120812b4fd10f8c0f9ca5316bd43c585", func := "loop.example/g00593/laws.FnExactCanonOf", spec := "fnExactCanonOf", unfollowed := true, recurses := true, apart := false }
def FnExactCanonOfSaid : Prop := fnExactCanonOfRow.holds Try.pinned (OpenSpec.ofChange fnExactCanonOfSpec)

/-- ITS FALSE NEIGHBOUR: 'it returns false'. Refute it at one input. -/
def fnExactCanonOfWrong : ChangeSpec := { name := "fnExactCanonOf", fn := fun _ => fun
  | [d] => { results := [.lit (.bool false)], args := [d] }
  | _ => none }
def FnExactCanonOfWrongFalsely : Prop := fnExactCanonOfRow.holds Try.pinned (OpenSpec.ofChange fnExactCanonOfWrong)

/-- 'laws.FnExactPartitionMatroid': WHATEVER THE INPUT: true; the input reads as it did. -/
def fnExactPartitionMatroidSpec : ChangeSpec := { name := "fnExactPartitionMatroid", fn := fun _ => fun
  | [d1, d2, d3] => { results := [.lit (.bool true)], args := [d1, d2, d3] }
  | _ => none }
def fnExactPartitionMatroidRow : OpenClaim := { program := "ytinoamehdhgpgaa", sum := "18debe20cfe4343382d64996bfd54d97120812b4fd10f8c0f9ca5316bd43c585", func := "loop.example/g00593/laws.FnExactPartitionMatroid", spec := "fnExactPartitionMatroid", unfollowed := true, recurses := true, apart := false }
def FnExactPartitionMatroidSaid : Prop := fnExactPartitionMatroidRow.holds Try.pinned (OpenSpec.ofChange fnExactPartitionMatroidSpec)

/-- ITS FALSE NEIGHBOUR: 'it returns false'. Refute it at one input. -/
def fnExactPartitionMatroidWrong : ChangeSpec := { name := "fnExactPartitionMatroid", fn := fun _ => fun
  | [d1, d2, d3] => { results := [.lit (.bool false)], args := [d1, d2, d3] }
  | _ => none }
def FnExactPartitionMatroidWrongFalsely : Prop := fnExactPartitionMatroidRow.holds Try.pinned (OpenSpec.ofChange fnExactPartitionMatroidWrong)

/-- 'laws.FnExactFindRenaming': WHATEVER THE INPUT: true; the input reads as it did. -/
def fnExactFindRenamingSpec : ChangeSpec := { name := "fnExactFindRenaming", fn := fun _ => fun
  | [d1, d2] => { results := [.lit (.bool true)], args := [d1, d2] }
  | _ => none }
def fnExactFindRenamingRow : OpenClaim := { program := "ytinoamehdhgpgaa", sum := "18debe20cfe4343382d64996bfd54d97120812b4fd10f8c0f9ca5316bd43c585", func := "loop.example/g00593/laws.FnExactFindRenaming", spec := "fnExactFindRenaming", unfollowed := true, recurses := true, apart := false }
def FnExactFindRenamingSaid : Prop := fnExactFindRenamingRow.holds Try.pinned (OpenSpec.ofChange fnExactFindRenamingSpec)

/-- ITS FALSE NEIGHBOUR: 'it returns false'. Refute it at one input. -/
def fnExactFindRenamingWrong : ChangeSpec := { name := "fnExactFindRenaming", fn := fun _ => fun
  | [d1, d2] => { results := [.lit (.bool false)], args := [d1, d2] }
  | _ => none }
def FnExactFindRenamingWrongFalsely : Prop := fnExactFindRenamingRow.holds Try.pinned (OpenSpec.ofChange fnExactFindRenamingWrong)

/-- 'laws.FnExactFromGraph': WHATEVER THE INPUT: true; the input reads as it did. -/
def fnExactFromGraphSpec : ChangeSpec := { name := "fnExactFromGraph", fn := fun _ => fun
  | [d] => { results := [.lit (.bool true)], args := [d] }
  | _ => none }
def fnExactFromGraphRow : OpenClaim := { program := "ytinoamehdhgpgaa", sum := "18debe20cfe4343382d64996bfd54d97120812b4fd10f8c0f9ca5316bd43c585", func := "loop.example/g00593/laws.FnExactFromGraph", spec := "fnExactFromGraph", unfollowed := true, recurses := true, apart := false }
def FnExactFromGraphSaid : Prop := fnExactFromGraphRow.holds Try.pinned (OpenSpec.ofChange fnExactFromGraphSpec)

/-- ITS FALSE NEIGHBOUR: 'it returns false'. Refute it at one input. -/
def fnExactFromGraphWrong : ChangeSpec := { name := "fnExactFromGraph", fn := fun _ => fun
  | [d] => { results := [.lit (.bool false)], args := [d] }
  | _ => none }
def FnExactFromGraphWrongFalsely : Prop := fnExactFromGraphRow.holds Try.pinned (OpenSpec.ofChange fnExactFromGraphWrong)

/-- 'laws.FnExactIsPaving': WHATEVER THE INPUT: true; the input reads as it did. -/
def fnExactIsPavingSpec : ChangeSpec := { name := "fnExactIsPaving", fn := fun _ => fun
  | [d] => { results := [.lit (.bool true)], args := [d] }
  | _ => none }
def fnExactIsPavingRow : OpenClaim := { program := "ytinoamehdhgpgaa", sum := "18debe20cfe4343382d64996bfd54d97120812b4fd10f8c0f9ca5316bd43c585", func := "loop.example/g00593/laws.FnExactIsPaving", spec := "fnExactIsPaving", unfollowed := true, recurses := true, apart := false }
def FnExactIsPavingSaid : Prop := fnExactIsPavingRow.holds Try.pinned (OpenSpec.ofChange fnExactIsPavingSpec)

/-- ITS FALSE NEIGHBOUR: 'it returns false'. Refute it at one input. -/
def fnExactIsPavingWrong : ChangeSpec := { name := "fnExactIsPaving", fn := fun _ => fun
  | [d] => { results := [.lit (.bool false)], args := [d] }
  | _ => none }
def FnExactIsPavingWrongFalsely : Prop := fnExactIsPavingRow.holds Try.pinned (OpenSpec.ofChange fnExactIsPavingWrong)

/-- 'laws.FnExactIsRelaxable': WHATEVER THE INPUT: true; the input reads as it did. -/
def fnExactIsRelaxableSpec : ChangeSpec := { name := "fnExactIsRelaxable", fn := fun _ => fun
  | [d1, d2] => { results := [.lit (.bool true)], args := [d1, d2] }
  | _ => none }
def fnExactIsRelaxableRow : OpenClaim := { program := "ytinoamehdhgpgaa", sum := "18debe20cfe4343382d64996bfd54d97120812b4fd10f8c0f9ca5316bd43c585", func := "loop.example/g00593/laws.FnExactIsRelaxable", spec := "fnExactIsRelaxable", unfollowed := true, recurses := true, apart := false }
def FnExactIsRelaxableSaid : Prop := fnExactIsRelaxableRow.holds Try.pinned (OpenSpec.ofChange fnExactIsRelaxableSpec)

/-- ITS FALSE NEIGHBOUR: 'it returns false'. Refute it at one input. -/
def fnExactIsRelaxableWrong : ChangeSpec := { name := "fnExactIsRelaxable", fn := fun _ => fun
  | [d1, d2] => { results := [.lit (.bool false)], args := [d1, d2] }
  | _ => none }
def FnExactIsRelaxableWrongFalsely : Prop := fnExactIsRelaxableRow.holds Try.pinned (OpenSpec.ofChange fnExactIsRelaxableWrong)

/-- 'laws.FnExactAllCuts': WHATEVER THE INPUT: true; the input reads as it did. -/
def fnExactAllCutsSpec : ChangeSpec := { name := "fnExactAllCuts", fn := fun _ => fun
  | [d] => { results := [.lit (.bool true)], args := [d] }
  | _ => none }
def fnExactAllCutsRow : OpenClaim := { program := "ytinoamehdhgpgaa", sum := "18debe20cfe4343382d64996bfd54d97120812b4fd10f8c0f9ca5316bd43c585", func := "loop.example/g00593/laws.FnExactAllCuts", spec := "fnExactAllCuts", unfollowed := true, recurses := true, apart := false }
def FnExactAllCutsSaid : Prop := fnExactAllCutsRow.holds Try.pinned (OpenSpec.ofChange fnExactAllCutsSpec)

/-- ITS FALSE NEIGHBOUR: 'it returns false'. Refute it at one input. -/
def fnExactAllCutsWrong : ChangeSpec := { name := "fnExactAllCuts", fn := fun _ => fun
  | [d] => { results := [.lit (.bool false)], args := [d] }
  | _ => none }
def FnExactAllCutsWrongFalsely : Prop := fnExactAllCutsRow.holds Try.pinned (OpenSpec.ofChange fnExactAllCutsWrong)

/-- 'laws.FnExactRelax': WHATEVER THE INPUT: true; the input reads as it did. -/
def fnExactRelaxSpec : ChangeSpec := { name := "fnExactRelax", fn := fun _ => fun
  | [d1, d2] => { results := [.lit (.bool true)], args := [d1, d2] }
  | _ => none }
def fnExactRelaxRow : OpenClaim := { program := "ytinoamehdhgpgaa", sum := "18debe20cfe4343382d64996bfd54d97120812b4fd10f8c0f9ca5316bd43c585", func := "loop.example/g00593/laws.FnExactRelax", spec := "fnExactRelax", unfollowed := true, recurses := true, apart := false }
def FnExactRelaxSaid : Prop := fnExactRelaxRow.holds Try.pinned (OpenSpec.ofChange fnExactRelaxSpec)

/-- ITS FALSE NEIGHBOUR: 'it returns false'. Refute it at one input. -/
def fnExactRelaxWrong : ChangeSpec := { name := "fnExactRelax", fn := fun _ => fun
  | [d1, d2] => { results := [.lit (.bool false)], args := [d1, d2] }
  | _ => none }
def FnExactRelaxWrongFalsely : Prop := fnExactRelaxRow.holds Try.pinned (OpenSpec.ofChange fnExactRelaxWrong)

/- THE SECOND FORM. 'bulk': how many values and letters a reading holds, each counted each time it is reached (what is shared counts as often as it is met; a slice's spare places count too). A statement '..UptoSaid' is the law's where the arguments, and the package variables that the reading takes, are together of bulk at most 1048576: NARROWER than '..Said'. Prove '..Said' where nothing that the law and all that it calls make is longer than what came in: it says more and counts as full. Else prove '..UptoSaid'. A law counts once. -/
mutual
def uptoBulk {H : Type} : DataW H → Nat
  | .lit (.string bytes) => bytes.length + 1
  | .lit _ => 1
  | .nil => 1
  | .ptr d => uptoBulk d + 1
  | .slice elems spare => uptoBulkAll elems + uptoBulkAll spare + 1
  | .agg parts => uptoBulkAll parts + 1
  | .iface _ d => uptoBulk d + 1
  | .map entries => uptoBulkEntries entries + 1
  | .held _ => 1
def uptoBulkAll {H : Type} : List (DataW H) → Nat
  | [] => 0
  | d :: r => uptoBulk d + uptoBulkAll r
def uptoBulkEntries {H : Type} : List (Lit × DataW H) → Nat
  | [] => 0
  | x :: r => uptoBulkEntry x + uptoBulkEntries r
def uptoBulkEntry {H : Type} : Lit × DataW H → Nat
  | (.string bytes, d) => bytes.length + uptoBulk d + 1
  | (_, d) => uptoBulk d + 1
 end
def uptoSmall : (H : Type) → List (DataW H) → Bool := fun _ ds => decide (uptoBulkAll ds ≤ 1048576)
def OpenSpec.upto (s : _root_.Go.ChangeSpec) : _root_.Go.OpenSpec := { _root_.Go.OpenSpec.ofChange s with cond := some uptoSmall }

/-- 'laws.FnExactDisjointBases', WHERE WHAT IT READS IS OF BULK AT MOST 1048576: true; the input reads as it did. -/
def fnExactDisjointBasesUptoRow : OpenClaim := { program := "ytinoamehdhgpgaa", sum := "18debe20cfe4343382d64996bfd54d97120812b4fd10f8c0f9ca5316bd43c585", func := "loop.example/g00593/laws.FnExactDisjointBases", spec := "fnExactDisjointBases", unfollowed := true, recurses := true, apart := false, narrowed := true }
def FnExactDisjointBasesUptoSaid : Prop := fnExactDisjointBasesUptoRow.holds Try.pinned (OpenSpec.upto fnExactDisjointBasesSpec)

/-- 'laws.FnExactLargestCommon', WHERE WHAT IT READS IS OF BULK AT MOST 1048576: true; the input reads as it did. -/
def fnExactLargestCommonUptoRow : OpenClaim := { program := "ytinoamehdhgpgaa", sum := "18debe20cfe4343382d64996bfd54d97120812b4fd10f8c0f9ca5316bd43c585", func := "loop.example/g00593/laws.FnExactLargestCommon", spec := "fnExactLargestCommon", unfollowed := true, recurses := true, apart := false, narrowed := true }
def FnExactLargestCommonUptoSaid : Prop := fnExactLargestCommonUptoRow.holds Try.pinned (OpenSpec.upto fnExactLargestCommonSpec)

/-- 'laws.FnExactPackingBound', WHERE WHAT IT READS IS OF BULK AT MOST 1048576: true; the input reads as it did. -/
def fnExactPackingBoundUptoRow : OpenClaim := { program := "ytinoamehdhgpgaa", sum := "18debe20cfe4343382d64996bfd54d97120812b4fd10f8c0f9ca5316bd43c585", func := "loop.example/g00593/laws.FnExactPackingBound", spec := "fnExactPackingBound", unfollowed := true, recurses := true, apart := false, narrowed := true }
def FnExactPackingBoundUptoSaid : Prop := fnExactPackingBoundUptoRow.holds Try.pinned (OpenSpec.upto fnExactPackingBoundSpec)

/-- 'laws.FnExactThresholdOf', WHERE WHAT IT READS IS OF BULK AT MOST 1048576: true; the input reads as it did. -/
def fnExactThresholdOfUptoRow : OpenClaim := { program := "ytinoamehdhgpgaa", sum := "18debe20cfe4343382d64996bfd54d97120812b4fd10f8c0f9ca5316bd43c585", func := "loop.example/g00593/laws.FnExactThresholdOf", spec := "fnExactThresholdOf", unfollowed := true, recurses := true, apart := false, narrowed := true }
def FnExactThresholdOfUptoSaid : Prop := fnExactThresholdOfUptoRow.holds Try.pinned (OpenSpec.upto fnExactThresholdOfSpec)

/-- 'laws.FnExactCoverBound', WHERE WHAT IT READS IS OF BULK AT MOST 1048576: true; the input reads as it did. -/
def fnExactCoverBoundUptoRow : OpenClaim := { program := "ytinoamehdhgpgaa", sum := "18debe20cfe4343382d64996bfd54d97120812b4fd10f8c0f9ca5316bd43c585", func := "loop.example/g00593/laws.FnExactCoverBound", spec := "fnExactCoverBound", unfollowed := true, recurses := true, apart := false, narrowed := true }
def FnExactCoverBoundUptoSaid : Prop := fnExactCoverBoundUptoRow.holds Try.pinned (OpenSpec.upto fnExactCoverBoundSpec)

/-- 'laws.FnExactTruncate', WHERE WHAT IT READS IS OF BULK AT MOST 1048576: true; the input reads as it did. -/
def fnExactTruncateUptoRow : OpenClaim := { program := "ytinoamehdhgpgaa", sum := "18debe20cfe4343382d64996bfd54d97120812b4fd10f8c0f9ca5316bd43c585", func := "loop.example/g00593/laws.FnExactTruncate", spec := "fnExactTruncate", unfollowed := true, recurses := true, apart := false, narrowed := true }
def FnExactTruncateUptoSaid : Prop := fnExactTruncateUptoRow.holds Try.pinned (OpenSpec.upto fnExactTruncateSpec)

/-- 'laws.FnExactCertificateOf', WHERE WHAT IT READS IS OF BULK AT MOST 1048576: true; the input reads as it did. -/
def fnExactCertificateOfUptoRow : OpenClaim := { program := "ytinoamehdhgpgaa", sum := "18debe20cfe4343382d64996bfd54d97120812b4fd10f8c0f9ca5316bd43c585", func := "loop.example/g00593/laws.FnExactCertificateOf", spec := "fnExactCertificateOf", unfollowed := true, recurses := true, apart := false, narrowed := true }
def FnExactCertificateOfUptoSaid : Prop := fnExactCertificateOfUptoRow.holds Try.pinned (OpenSpec.upto fnExactCertificateOfSpec)

/-- 'laws.FnExactAugmentingPath', WHERE WHAT IT READS IS OF BULK AT MOST 1048576: true; the input reads as it did. -/
def fnExactAugmentingPathUptoRow : OpenClaim := { program := "ytinoamehdhgpgaa", sum := "18debe20cfe4343382d64996bfd54d97120812b4fd10f8c0f9ca5316bd43c585", func := "loop.example/g00593/laws.FnExactAugmentingPath", spec := "fnExactAugmentingPath", unfollowed := true, recurses := true, apart := false, narrowed := true }
def FnExactAugmentingPathUptoSaid : Prop := fnExactAugmentingPathUptoRow.holds Try.pinned (OpenSpec.upto fnExactAugmentingPathSpec)

/-- 'laws.FnExactBestCommon', WHERE WHAT IT READS IS OF BULK AT MOST 1048576: true; the input reads as it did. -/
def fnExactBestCommonUptoRow : OpenClaim := { program := "ytinoamehdhgpgaa", sum := "18debe20cfe4343382d64996bfd54d97120812b4fd10f8c0f9ca5316bd43c585", func := "loop.example/g00593/laws.FnExactBestCommon", spec := "fnExactBestCommon", unfollowed := true, recurses := true, apart := false, narrowed := true }
def FnExactBestCommonUptoSaid : Prop := fnExactBestCommonUptoRow.holds Try.pinned (OpenSpec.upto fnExactBestCommonSpec)

/-- 'laws.FnExactPrincipalCut', WHERE WHAT IT READS IS OF BULK AT MOST 1048576: true; the input reads as it did. -/
def fnExactPrincipalCutUptoRow : OpenClaim := { program := "ytinoamehdhgpgaa", sum := "18debe20cfe4343382d64996bfd54d97120812b4fd10f8c0f9ca5316bd43c585", func := "loop.example/g00593/laws.FnExactPrincipalCut", spec := "fnExactPrincipalCut", unfollowed := true, recurses := true, apart := false, narrowed := true }
def FnExactPrincipalCutUptoSaid : Prop := fnExactPrincipalCutUptoRow.holds Try.pinned (OpenSpec.upto fnExactPrincipalCutSpec)

/-- 'laws.FnExactIsModularCut', WHERE WHAT IT READS IS OF BULK AT MOST 1048576: true; the input reads as it did. -/
def fnExactIsModularCutUptoRow : OpenClaim := { program := "ytinoamehdhgpgaa", sum := "18debe20cfe4343382d64996bfd54d97120812b4fd10f8c0f9ca5316bd43c585", func := "loop.example/g00593/laws.FnExactIsModularCut", spec := "fnExactIsModularCut", unfollowed := true, recurses := true, apart := false, narrowed := true }
def FnExactIsModularCutUptoSaid : Prop := fnExactIsModularCutUptoRow.holds Try.pinned (OpenSpec.upto fnExactIsModularCutSpec)

/-- 'laws.FnExactUnionRank', WHERE WHAT IT READS IS OF BULK AT MOST 1048576: true; the input reads as it did. -/
def fnExactUnionRankUptoRow : OpenClaim := { program := "ytinoamehdhgpgaa", sum := "18debe20cfe4343382d64996bfd54d97120812b4fd10f8c0f9ca5316bd43c585", func := "loop.example/g00593/laws.FnExactUnionRank", spec := "fnExactUnionRank", unfollowed := true, recurses := true, apart := false, narrowed := true }
def FnExactUnionRankUptoSaid : Prop := fnExactUnionRankUptoRow.holds Try.pinned (OpenSpec.upto fnExactUnionRankSpec)

/-- 'laws.FnExactIsSplit', WHERE WHAT IT READS IS OF BULK AT MOST 1048576: true; the input reads as it did. -/
def fnExactIsSplitUptoRow : OpenClaim := { program := "ytinoamehdhgpgaa", sum := "18debe20cfe4343382d64996bfd54d97120812b4fd10f8c0f9ca5316bd43c585", func := "loop.example/g00593/laws.FnExactIsSplit", spec := "fnExactIsSplit", unfollowed := true, recurses := true, apart := false, narrowed := true }
def FnExactIsSplitUptoSaid : Prop := fnExactIsSplitUptoRow.holds Try.pinned (OpenSpec.upto fnExactIsSplitSpec)

/-- 'laws.FnExactBestWeights', WHERE WHAT IT READS IS OF BULK AT MOST 1048576: true; the input reads as it did. -/
def fnExactBestWeightsUptoRow : OpenClaim := { program := "ytinoamehdhgpgaa", sum := "18debe20cfe4343382d64996bfd54d97120812b4fd10f8c0f9ca5316bd43c585", func := "loop.example/g00593/laws.FnExactBestWeights", spec := "fnExactBestWeights", unfollowed := true, recurses := true, apart := false, narrowed := true }
def FnExactBestWeightsUptoSaid : Prop := fnExactBestWeightsUptoRow.holds Try.pinned (OpenSpec.upto fnExactBestWeightsSpec)

/-- 'laws.FnExactCoverNumber', WHERE WHAT IT READS IS OF BULK AT MOST 1048576: true; the input reads as it did. -/
def fnExactCoverNumberUptoRow : OpenClaim := { program := "ytinoamehdhgpgaa", sum := "18debe20cfe4343382d64996bfd54d97120812b4fd10f8c0f9ca5316bd43c585", func := "loop.example/g00593/laws.FnExactCoverNumber", spec := "fnExactCoverNumber", unfollowed := true, recurses := true, apart := false, narrowed := true }
def FnExactCoverNumberUptoSaid : Prop := fnExactCoverNumberUptoRow.holds Try.pinned (OpenSpec.upto fnExactCoverNumberSpec)

/-- 'laws.FnExactBestOfSize', WHERE WHAT IT READS IS OF BULK AT MOST 1048576: true; the input reads as it did. -/
def fnExactBestOfSizeUptoRow : OpenClaim := { program := "ytinoamehdhgpgaa", sum := "18debe20cfe4343382d64996bfd54d97120812b4fd10f8c0f9ca5316bd43c585", func := "loop.example/g00593/laws.FnExactBestOfSize", spec := "fnExactBestOfSize", unfollowed := true, recurses := true, apart := false, narrowed := true }
def FnExactBestOfSizeUptoSaid : Prop := fnExactBestOfSizeUptoRow.holds Try.pinned (OpenSpec.upto fnExactBestOfSizeSpec)

/-- 'laws.FnExactGreedyBase', WHERE WHAT IT READS IS OF BULK AT MOST 1048576: true; the input reads as it did. -/
def fnExactGreedyBaseUptoRow : OpenClaim := { program := "ytinoamehdhgpgaa", sum := "18debe20cfe4343382d64996bfd54d97120812b4fd10f8c0f9ca5316bd43c585", func := "loop.example/g00593/laws.FnExactGreedyBase", spec := "fnExactGreedyBase", unfollowed := true, recurses := true, apart := false, narrowed := true }
def FnExactGreedyBaseUptoSaid : Prop := fnExactGreedyBaseUptoRow.holds Try.pinned (OpenSpec.upto fnExactGreedyBaseSpec)

/-- 'laws.FnExactExtend', WHERE WHAT IT READS IS OF BULK AT MOST 1048576: true; the input reads as it did. -/
def fnExactExtendUptoRow : OpenClaim := { program := "ytinoamehdhgpgaa", sum := "18debe20cfe4343382d64996bfd54d97120812b4fd10f8c0f9ca5316bd43c585", func := "loop.example/g00593/laws.FnExactExtend", spec := "fnExactExtend", unfollowed := true, recurses := true, apart := false, narrowed := true }
def FnExactExtendUptoSaid : Prop := fnExactExtendUptoRow.holds Try.pinned (OpenSpec.upto fnExactExtendSpec)

/-- 'laws.FnExactCutOf', WHERE WHAT IT READS IS OF BULK AT MOST 1048576: true; the input reads as it did. -/
def fnExactCutOfUptoRow : OpenClaim := { program := "ytinoamehdhgpgaa", sum := "18debe20cfe4343382d64996bfd54d97120812b4fd10f8c0f9ca5316bd43c585", func := "loop.example/g00593/laws.FnExactCutOf", spec := "fnExactCutOf", unfollowed := true, recurses := true, apart := false, narrowed := true }
def FnExactCutOfUptoSaid : Prop := fnExactCutOfUptoRow.holds Try.pinned (OpenSpec.upto fnExactCutOfSpec)

/-- 'laws.FnExactSignatureOf', WHERE WHAT IT READS IS OF BULK AT MOST 1048576: true; the input reads as it did. -/
def fnExactSignatureOfUptoRow : OpenClaim := { program := "ytinoamehdhgpgaa", sum := "18debe20cfe4343382d64996bfd54d97120812b4fd10f8c0f9ca5316bd43c585", func := "loop.example/g00593/laws.FnExactSignatureOf", spec := "fnExactSignatureOf", unfollowed := true, recurses := true, apart := false, narrowed := true }
def FnExactSignatureOfUptoSaid : Prop := fnExactSignatureOfUptoRow.holds Try.pinned (OpenSpec.upto fnExactSignatureOfSpec)

/-- 'laws.FnExactRenameMatroid', WHERE WHAT IT READS IS OF BULK AT MOST 1048576: true; the input reads as it did. -/
def fnExactRenameMatroidUptoRow : OpenClaim := { program := "ytinoamehdhgpgaa", sum := "18debe20cfe4343382d64996bfd54d97120812b4fd10f8c0f9ca5316bd43c585", func := "loop.example/g00593/laws.FnExactRenameMatroid", spec := "fnExactRenameMatroid", unfollowed := true, recurses := true, apart := false, narrowed := true }
def FnExactRenameMatroidUptoSaid : Prop := fnExactRenameMatroidUptoRow.holds Try.pinned (OpenSpec.upto fnExactRenameMatroidSpec)

/-- 'laws.FnExactFromSets', WHERE WHAT IT READS IS OF BULK AT MOST 1048576: true; the input reads as it did. -/
def fnExactFromSetsUptoRow : OpenClaim := { program := "ytinoamehdhgpgaa", sum := "18debe20cfe4343382d64996bfd54d97120812b4fd10f8c0f9ca5316bd43c585", func := "loop.example/g00593/laws.FnExactFromSets", spec := "fnExactFromSets", unfollowed := true, recurses := true, apart := false, narrowed := true }
def FnExactFromSetsUptoSaid : Prop := fnExactFromSetsUptoRow.holds Try.pinned (OpenSpec.upto fnExactFromSetsSpec)

/-- 'laws.FnExactCanonOf', WHERE WHAT IT READS IS OF BULK AT MOST 1048576: true; the input reads as it did. -/
def fnExactCanonOfUptoRow : OpenClaim := { program := "ytinoamehdhgpgaa", sum := "18debe20cfe4343382d64996bfd54d97120812b4fd10f8c0f9ca5316bd43c585", func := "loop.example/g00593/laws.FnExactCanonOf", spec := "fnExactCanonOf", unfollowed := true, recurses := true, apart := false, narrowed := true }
def FnExactCanonOfUptoSaid : Prop := fnExactCanonOfUptoRow.holds Try.pinned (OpenSpec.upto fnExactCanonOfSpec)

/-- 'laws.FnExactPartitionMatroid', WHERE WHAT IT READS IS OF BULK AT MOST 1048576: true; the input reads as it did. -/
def fnExactPartitionMatroidUptoRow : OpenClaim := { program := "ytinoamehdhgpgaa", sum := "18debe20cfe4343382d64996bfd54d97120812b4fd10f8c0f9ca5316bd43c585", func := "loop.example/g00593/laws.FnExactPartitionMatroid", spec := "fnExactPartitionMatroid", unfollowed := true, recurses := true, apart := false, narrowed := true }
def FnExactPartitionMatroidUptoSaid : Prop := fnExactPartitionMatroidUptoRow.holds Try.pinned (OpenSpec.upto fnExactPartitionMatroidSpec)

/-- 'laws.FnExactFindRenaming', WHERE WHAT IT READS IS OF BULK AT MOST 1048576: true; the input reads as it did. -/
def fnExactFindRenamingUptoRow : OpenClaim := { program := "ytinoamehdhgpgaa", sum := "18debe20cfe4343382d64996bfd54d97120812b4fd10f8c0f9ca5316bd43c585", func := "loop.example/g00593/laws.FnExactFindRenaming", spec := "fnExactFindRenaming", unfollowed := true, recurses := true, apart := false, narrowed := true }
def FnExactFindRenamingUptoSaid : Prop := fnExactFindRenamingUptoRow.holds Try.pinned (OpenSpec.upto fnExactFindRenamingSpec)

/-- 'laws.FnExactFromGraph', WHERE WHAT IT READS IS OF BULK AT MOST 1048576: true; the input reads as it did. -/
def fnExactFromGraphUptoRow : OpenClaim := { program := "ytinoamehdhgpgaa", sum := "18debe20cfe4343382d64996bfd54d97120812b4fd10f8c0f9ca5316bd43c585", func := "loop.example/g00593/laws.FnExactFromGraph", spec := "fnExactFromGraph", unfollowed := true, recurses := true, apart := false, narrowed := true }
def FnExactFromGraphUptoSaid : Prop := fnExactFromGraphUptoRow.holds Try.pinned (OpenSpec.upto fnExactFromGraphSpec)

/-- 'laws.FnExactIsPaving', WHERE WHAT IT READS IS OF BULK AT MOST 1048576: true; the input reads as it did. -/
def fnExactIsPavingUptoRow : OpenClaim := { program := "ytinoamehdhgpgaa", sum := "18debe20cfe4343382d64996bfd54d97120812b4fd10f8c0f9ca5316bd43c585", func := "loop.example/g00593/laws.FnExactIsPaving", spec := "fnExactIsPaving", unfollowed := true, recurses := true, apart := false, narrowed := true }
def FnExactIsPavingUptoSaid : Prop := fnExactIsPavingUptoRow.holds Try.pinned (OpenSpec.upto fnExactIsPavingSpec)

/-- 'laws.FnExactIsRelaxable', WHERE WHAT IT READS IS OF BULK AT MOST 1048576: true; the input reads as it did. -/
def fnExactIsRelaxableUptoRow : OpenClaim := { program := "ytinoamehdhgpgaa", sum := "18debe20cfe4343382d64996bfd54d97120812b4fd10f8c0f9ca5316bd43c585", func := "loop.example/g00593/laws.FnExactIsRelaxable", spec := "fnExactIsRelaxable", unfollowed := true, recurses := true, apart := false, narrowed := true }
def FnExactIsRelaxableUptoSaid : Prop := fnExactIsRelaxableUptoRow.holds Try.pinned (OpenSpec.upto fnExactIsRelaxableSpec)

/-- 'laws.FnExactAllCuts', WHERE WHAT IT READS IS OF BULK AT MOST 1048576: true; the input reads as it did. -/
def fnExactAllCutsUptoRow : OpenClaim := { program := "ytinoamehdhgpgaa", sum := "18debe20cfe4343382d64996bfd54d97120812b4fd10f8c0f9ca5316bd43c585", func := "loop.example/g00593/laws.FnExactAllCuts", spec := "fnExactAllCuts", unfollowed := true, recurses := true, apart := false, narrowed := true }
def FnExactAllCutsUptoSaid : Prop := fnExactAllCutsUptoRow.holds Try.pinned (OpenSpec.upto fnExactAllCutsSpec)

/-- 'laws.FnExactRelax', WHERE WHAT IT READS IS OF BULK AT MOST 1048576: true; the input reads as it did. -/
def fnExactRelaxUptoRow : OpenClaim := { program := "ytinoamehdhgpgaa", sum := "18debe20cfe4343382d64996bfd54d97120812b4fd10f8c0f9ca5316bd43c585", func := "loop.example/g00593/laws.FnExactRelax", spec := "fnExactRelax", unfollowed := true, recurses := true, apart := false, narrowed := true }
def FnExactRelaxUptoSaid : Prop := fnExactRelaxUptoRow.holds Try.pinned (OpenSpec.upto fnExactRelaxSpec)

end Rows
end Go.Proofs.Ytinoamehdhgpgaa
