/-
  No cell of these rows narrows 'for every input' (looked for: loops, veiled, ifaces, maps, wideKeys, modest, calm, conditions, laid).
  DERIVED. THE GIVEN ROWS OF THIS SEAT. 5 by the template 'for every input the law returns true; each argument reads behind the call as it read before'; 0 by the template 'total and deterministic' (their statements: YtimkekeaeojpkaaTotals.lean).
  GIVEN WITH THE SEED: the statements are not yours to turn. If you find one false, say at which input.
  Laid BY PROGRAM, IN A SANDBOX (cutbox-rows.mjs): the forced cells as the released guide's own fill.sh prints them over the translation 435f26d0569dc924… (all of the seat's roots in one cut). By AI agents, Wed Nov 11 2026. No macro, syntax, notation, axiom, sorry.
-/
import Derived.Test.YtimkekeaeojpkaaChecked
import GoSem.Claim
import GoSem.ClaimJoined
import GoSem.ClaimMapViews
import Derived.JoinedTies
import Derived.KernelRfl
namespace Go.Proofs.Ytimkekeaeojpkaa
/- THE CELL 'sum', in the pinned program and in every row, IS THE sha256 OF THE DUMP (.gsa) THAT YtimkekeaeojpkaaProg.lean LOADS. Nothing in Lean hashes anything: it is a label: what it is worth is what the hold of that sum in a sandbox is worth. -/
noncomputable def Try.pinned : Pinned := { name := "ytimkekeaeojpkaa", sum := "435f26d0569dc92470a73153c3a1b89abadf9c943e329543092a6511f05a798c", checked := Try.checked }
namespace Rows
def none {H : Type} : Left H := { results := [], args := [] }

/-- 'laws.FnExactFindRenaming': WHATEVER THE INPUT: true; the input reads as it did. -/
def fnExactFindRenamingSpec : ChangeSpec := { name := "fnExactFindRenaming", fn := fun _ => fun
  | [d1, d2] => { results := [.lit (.bool true)], args := [d1, d2] }
  | _ => none }
def fnExactFindRenamingRow : OpenClaim := { program := "ytimkekeaeojpkaa", sum := "435f26d0569dc92470a73153c3a1b89abadf9c943e329543092a6511f05a798c", func := "loop.example/g00593/laws.FnExactFindRenaming", spec := "fnExactFindRenaming", unfollowed := true, recurses := true, apart := false }
def FnExactFindRenamingSaid : Prop := fnExactFindRenamingRow.holds Try.pinned (OpenSpec.ofChange fnExactFindRenamingSpec)

/-- ITS FALSE NEIGHBOUR: 'it returns false'. Refute it at one input. -/
def fnExactFindRenamingWrong : ChangeSpec := { name := "fnExactFindRenaming", fn := fun _ => fun
  | [d1, d2] => { results := [.lit (.bool false)], args := [d1, d2] }
  | _ => none }
def FnExactFindRenamingWrongFalsely : Prop := fnExactFindRenamingRow.holds Try.pinned (OpenSpec.ofChange fnExactFindRenamingWrong)

/-- 'laws.FnExactAllCuts': WHATEVER THE INPUT: true; the input reads as it did. -/
def fnExactAllCutsSpec : ChangeSpec := { name := "fnExactAllCuts", fn := fun _ => fun
  | [d] => { results := [.lit (.bool true)], args := [d] }
  | _ => none }
def fnExactAllCutsRow : OpenClaim := { program := "ytimkekeaeojpkaa", sum := "435f26d0569dc92470a73153c3a1b89abadf9c943e329543092a6511f05a798c", func := "loop.example/g00593/laws.FnExactAllCuts", spec := "fnExactAllCuts", unfollowed := true, recurses := true, apart := false }
def FnExactAllCutsSaid : Prop := fnExactAllCutsRow.holds Try.pinned (OpenSpec.ofChange fnExactAllCutsSpec)

/-- ITS FALSE NEIGHBOUR: 'it returns false'. Refute it at one input. -/
def fnExactAllCutsWrong : ChangeSpec := { name := "fnExactAllCuts", fn := fun _ => fun
  | [d] => { results := [.lit (.bool false)], args := [d] }
  | _ => none }
def FnExactAllCutsWrongFalsely : Prop := fnExactAllCutsRow.holds Try.pinned (OpenSpec.ofChange fnExactAllCutsWrong)

/-- 'laws.FnCommon': WHATEVER THE INPUT: true; the input reads as it did. -/
def fnCommonSpec : ChangeSpec := { name := "fnCommon", fn := fun _ => fun
  | [d] => { results := [.lit (.bool true)], args := [d] }
  | _ => none }
def fnCommonRow : OpenClaim := { program := "ytimkekeaeojpkaa", sum := "435f26d0569dc92470a73153c3a1b89abadf9c943e329543092a6511f05a798c", func := "loop.example/g00593/laws.FnCommon", spec := "fnCommon", unfollowed := true, recurses := true, apart := false }
def FnCommonSaid : Prop := fnCommonRow.holds Try.pinned (OpenSpec.ofChange fnCommonSpec)

/-- ITS FALSE NEIGHBOUR: 'it returns false'. Refute it at one input. -/
def fnCommonWrong : ChangeSpec := { name := "fnCommon", fn := fun _ => fun
  | [d] => { results := [.lit (.bool false)], args := [d] }
  | _ => none }
def FnCommonWrongFalsely : Prop := fnCommonRow.holds Try.pinned (OpenSpec.ofChange fnCommonWrong)

/-- 'laws.FnAugmented': WHATEVER THE INPUT: true; the input reads as it did. -/
def fnAugmentedSpec : ChangeSpec := { name := "fnAugmented", fn := fun _ => fun
  | [d] => { results := [.lit (.bool true)], args := [d] }
  | _ => none }
def fnAugmentedRow : OpenClaim := { program := "ytimkekeaeojpkaa", sum := "435f26d0569dc92470a73153c3a1b89abadf9c943e329543092a6511f05a798c", func := "loop.example/g00593/laws.FnAugmented", spec := "fnAugmented", unfollowed := true, recurses := true, apart := false }
def FnAugmentedSaid : Prop := fnAugmentedRow.holds Try.pinned (OpenSpec.ofChange fnAugmentedSpec)

/-- ITS FALSE NEIGHBOUR: 'it returns false'. Refute it at one input. -/
def fnAugmentedWrong : ChangeSpec := { name := "fnAugmented", fn := fun _ => fun
  | [d] => { results := [.lit (.bool false)], args := [d] }
  | _ => none }
def FnAugmentedWrongFalsely : Prop := fnAugmentedRow.holds Try.pinned (OpenSpec.ofChange fnAugmentedWrong)

/-- 'laws.FnTransversals': WHATEVER THE INPUT: true; the input reads as it did. -/
def fnTransversalsSpec : ChangeSpec := { name := "fnTransversals", fn := fun _ => fun
  | [d] => { results := [.lit (.bool true)], args := [d] }
  | _ => none }
def fnTransversalsRow : OpenClaim := { program := "ytimkekeaeojpkaa", sum := "435f26d0569dc92470a73153c3a1b89abadf9c943e329543092a6511f05a798c", func := "loop.example/g00593/laws.FnTransversals", spec := "fnTransversals", unfollowed := true, recurses := true, apart := false }
def FnTransversalsSaid : Prop := fnTransversalsRow.holds Try.pinned (OpenSpec.ofChange fnTransversalsSpec)

/-- ITS FALSE NEIGHBOUR: 'it returns false'. Refute it at one input. -/
def fnTransversalsWrong : ChangeSpec := { name := "fnTransversals", fn := fun _ => fun
  | [d] => { results := [.lit (.bool false)], args := [d] }
  | _ => none }
def FnTransversalsWrongFalsely : Prop := fnTransversalsRow.holds Try.pinned (OpenSpec.ofChange fnTransversalsWrong)

/- THE SECOND FORM. 'bulk': how many values and letters a reading holds, each counted each time it is reached (what is shared counts as often as it is met; a slice's spare places count too). A statement '..UptoSaid' is the law's where the arguments, and the package variables that the reading takes, are together of bulk at most 1048576: NARROWER than '..Said'. Prove '..Said' where nothing that the law and all that it calls make is longer than what came in: it says more and counts as full. Else prove '..UptoSaid'. A law counts once. -/
mutual
def uptoBulk {H : Type} : DataW H → Nat
  | .lit (.string bytes) => bytes.length + 1
  | .lit _ => 1
  | .nil => 1
  | .ptr d => uptoBulk d + 1
  | .slice elems spare => uptoBulkAll elems + uptoBulkAll spare + 1
  | .agg parts => uptoBulkAll parts + 1
  | .iface _ d => uptoBulk d + 1
  | .map entries => uptoBulkEntries entries + 1
  | .held _ => 1
def uptoBulkAll {H : Type} : List (DataW H) → Nat
  | [] => 0
  | d :: r => uptoBulk d + uptoBulkAll r
def uptoBulkEntries {H : Type} : List (Lit × DataW H) → Nat
  | [] => 0
  | x :: r => uptoBulkEntry x + uptoBulkEntries r
def uptoBulkEntry {H : Type} : Lit × DataW H → Nat
  | (.string bytes, d) => bytes.length + uptoBulk d + 1
  | (_, d) => uptoBulk d + 1
 end
def uptoSmall : (H : Type) → List (DataW H) → Bool := fun _ ds => decide (uptoBulkAll ds ≤ 1048576)
def OpenSpec.upto (s : _root_.Go.ChangeSpec) : _root_.Go.OpenSpec := { _root_.Go.OpenSpec.ofChange s with cond := some uptoSmall }

/-- 'laws.FnExactFindRenaming', WHERE WHAT IT READS IS OF BULK AT MOST 1048576: true; the input reads as it did. -/
def fnExactFindRenamingUptoRow : OpenClaim := { program := "ytimkekeaeojpkaa", sum := "435f26d0569dc92470a73153c3a1b89abadf9c943e329543092a6511f05a798c", func := "loop.example/g00593/laws.FnExactFindRenaming", spec := "fnExactFindRenaming", unfollowed := true, recurses := true, apart := false, narrowed := true }
def FnExactFindRenamingUptoSaid : Prop := fnExactFindRenamingUptoRow.holds Try.pinned (OpenSpec.upto fnExactFindRenamingSpec)

/-- 'laws.FnExactAllCuts', WHERE WHAT IT READS IS OF BULK AT MOST 1048576: true; the input reads as it did. -/
def fnExactAllCutsUptoRow : OpenClaim := { program := "ytimkekeaeojpkaa", sum := "435f26d0569dc92470a73153c3a1b89abadf9c943e329543092a6511f05a798c", func := "loop.example/g00593/laws.FnExactAllCuts", spec := "fnExactAllCuts", unfollowed := true, recurses := true, apart := false, narrowed := true }
def FnExactAllCutsUptoSaid : Prop := fnExactAllCutsUptoRow.holds Try.pinned (OpenSpec.upto fnExactAllCutsSpec)

/-- 'laws.FnCommon', WHERE WHAT IT READS IS OF BULK AT MOST 1048576: true; the input reads as it did. -/
def fnCommonUptoRow : OpenClaim := { program := "ytimkekeaeojpkaa", sum := "435f26d0569dc92470a73153c3a1b89abadf9c943e329543092a6511f05a798c", func := "loop.example/g00593/laws.FnCommon", spec := "fnCommon", unfollowed := true, recurses := true, apart := false, narrowed := true }
def FnCommonUptoSaid : Prop := fnCommonUptoRow.holds Try.pinned (OpenSpec.upto fnCommonSpec)

/-- 'laws.FnAugmented', WHERE WHAT IT READS IS OF BULK AT MOST 1048576: true; the input reads as it did. -/
def fnAugmentedUptoRow : OpenClaim := { program := "ytimkekeaeojpkaa", sum := "435f26d0569dc92470a73153c3a1b89abadf9c943e329543092a6511f05a798c", func := "loop.example/g00593/laws.FnAugmented", spec := "fnAugmented", unfollowed := true, recurses := true, apart := false, narrowed := true }
def FnAugmentedUptoSaid : Prop := fnAugmentedUptoRow.holds Try.pinned (OpenSpec.upto fnAugmentedSpec)

/-- 'laws.FnTransversals', WHERE WHAT IT READS IS OF BULK AT MOST 1048576: true; the input reads as it did. -/
def fnTransversalsUptoRow : OpenClaim := { program := "ytimkekeaeojpkaa", sum := "435f26d0569dc92470a73153c3a1b89abadf9c943e329543092a6511f05a798c", func := "loop.example/g00593/laws.FnTransversals", spec := "fnTransversals", unfollowed := true, recurses := true, apart := false, narrowed := true }
def FnTransversalsUptoSaid : Prop := fnTransversalsUptoRow.holds Try.pinned (OpenSpec.upto fnTransversalsSpec)

end Rows
end Go.Proofs.Ytimkekeaeojpkaa
