/- Words that this claim names, cut out of the kit's print. Conditions: those in each lemma. -/
import Derived.Test.YtimkekeaeojpkaaMFnExactFindRenamingwN
namespace Go.Proofs.YtimkekeaeojpkaaW.PrintWords
open Go.RowKit
namespace Kd
end Kd
end Go.Proofs.YtimkekeaeojpkaaW.PrintWords
