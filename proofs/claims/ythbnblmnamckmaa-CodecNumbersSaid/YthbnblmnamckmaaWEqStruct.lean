-- The print's words (print.sh), those alone that this seat's texts use: cut by wip/prune.py.
import Derived.Test.YthbnblmnamckmaaWWords
import Derived.Laws.StructEq
/-! ### 53. '==' of structs as_ one Bool -/
namespace Go.Proofs.YthbnblmnamckmaaW.PrintWords
open Go.RowKit
section
variable {P : Program} {d : Nat} {xs ys : Array Value} {f : Field} {fs : List Field} {a b : Value} {r s : Bool} {w : World}
end
end Go.Proofs.YthbnblmnamckmaaW.PrintWords
