/- Words that this claim names, cut out of the kit's print. Conditions: those in each lemma. -/
import Derived.Test.YtagncnjllpebjaaMFnExactBestOfSizewLast
import Derived.Test.YtagncnjllpebjaaMFnExactBestOfSizewWords
/-! ### 50. A region's order in a table, made once a region: each step asks the table (numbers alone), not the operations -/
namespace Go.Proofs.YtagncnjllpebjaaW.PrintLast
open Go.Proofs.YtagncnjllpebjaaW.PrintWords (Aside0)
section
variable {md : Region.Mode} {ops : Array Oper} {T : Bool × List (List Nat × List Nat)} {l l' li lj lk : Array Bool} {ds : List Nat} {i j k : Nat}
end
end Go.Proofs.YtagncnjllpebjaaW.PrintLast
