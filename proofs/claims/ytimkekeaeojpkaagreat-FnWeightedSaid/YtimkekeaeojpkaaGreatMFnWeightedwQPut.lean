/- Words that this claim names, cut out of the kit's print. Conditions: those in each lemma. -/
import Derived.Test.YtimkekeaeojpkaaGreatMFnWeightedwWords
import Derived.Test.YtimkekeaeojpkaaGreatMFnWeightedwLast
namespace Go.Proofs.YtimkekeaeojpkaaGreatW.PrintWords
open Go.RowKit
namespace Kd
end Kd
end Go.Proofs.YtimkekeaeojpkaaGreatW.PrintWords
