/-
  The laws' own first look (known) answers true. Conditions: none.
-/
import Derived.Test.YthbnblmnamckmaaPAllx7
import Derived.Test.YthbnblmnamckmaaQb
namespace Go.Proofs.Ythbnblmnamckmaa.Q
open Go.RowKit Go.Proofs.Ythbnblmnamckmaa.PAll Go.Proofs.YthbnblmnamckmaaW.PrintWords Go.Proofs.YthbnblmnamckmaaW.PrintLast Go.Proofs.YthbnblmnamckmaaW.PrintMore
theorem ev_known : Ev (fun k => windlasslaw2_known.f k) true := Ev.of (fun k => windlasslaw2_known.mono k) (k := 12) (by decide +kernel)
end Go.Proofs.Ythbnblmnamckmaa.Q
