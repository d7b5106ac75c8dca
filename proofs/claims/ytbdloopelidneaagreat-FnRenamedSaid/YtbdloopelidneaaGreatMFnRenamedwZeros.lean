/- Words that this claim names, cut out of the kit's print. Conditions: those in each lemma. -/
import Derived.Test.YtbdloopelidneaaGreatMFnRenamedwApart
import Derived.Test.YtbdloopelidneaaGreatMFnRenamedwArr
namespace Go.Proofs.YtbdloopelidneaaGreatW.PrintWords
open Go.RowKit
namespace Kd
end Kd
end Go.Proofs.YtbdloopelidneaaGreatW.PrintWords
