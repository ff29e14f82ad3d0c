-- The print's words (print.sh), those alone that this seat's texts use: cut by wip/prune.py.
import Derived.Test.YthbnblmnamckmaaWTab
/-! ### 56. Four, five, six operations that may come up next, in any order -/
namespace Go.Proofs.YthbnblmnamckmaaW.PrintLast
section
variable {P : Program} {ops : Array Oper} {Q : Exit → Act → World → Prop} {md : Region.Mode} {S : World → Prop} {ds : List Nat} {T : Bool × List (List Nat × List Nat)}
end
end Go.Proofs.YthbnblmnamckmaaW.PrintLast
