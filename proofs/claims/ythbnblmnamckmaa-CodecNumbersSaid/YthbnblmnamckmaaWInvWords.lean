-- The print's words (print.sh), those alone that this seat's texts use: cut by wip/prune.py.
import Derived.Test.YthbnblmnamckmaaWInv
import Derived.Test.YthbnblmnamckmaaWFootNe
namespace Go.Proofs.YthbnblmnamckmaaW.PrintWords
open Go.RowKit
end Go.Proofs.YthbnblmnamckmaaW.PrintWords
namespace Go.Proofs.YthbnblmnamckmaaW.PrintLast
section
variable {ops : Array Oper} {a : Act} {o og : Oper} {g : Nat} {t : Tmp} {u : Bool}
end
end Go.Proofs.YthbnblmnamckmaaW.PrintLast
