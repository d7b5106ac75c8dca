/- Cut by a program of this work (wordtrim.py) out of the words that the kit's print laid for this seat: what this claim names, and nothing else. Conditions: those in each lemma. -/
import Derived.Test.YtagncnjllpebjaaMFnExactTruncatewLast
import Derived.Test.YtagncnjllpebjaaMFnExactTruncatewWords
/-! ### 50. A region's order in a table, made once a region: each step asks the table (numbers alone), not the operations -/
namespace Go.Proofs.YtagncnjllpebjaaW.PrintLast
open Go.Proofs.YtagncnjllpebjaaW.PrintWords (Aside0)
section
variable {md : Region.Mode} {ops : Array Oper} {T : Bool × List (List Nat × List Nat)} {l l' li lj lk : Array Bool} {ds : List Nat} {i j k : Nat}
end
end Go.Proofs.YtagncnjllpebjaaW.PrintLast
