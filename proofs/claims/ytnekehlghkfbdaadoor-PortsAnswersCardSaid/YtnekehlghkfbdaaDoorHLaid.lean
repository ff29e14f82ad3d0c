import Derived.Test.YtnekehlghkfbdaaDoorRows
import Derived.Test.YtnekehlghkfbdaaDoorTie
import Derived.Test.YtnekehlghkfbdaaDoorHFew
import Derived.Test.YtnekehlghkfbdaaDoorZOpen
import Derived.LaidMore
import Derived.Stop.LaidErr
import Derived.ProofKit
import Derived.SevenTiedAt
/- The table that strconv.Itoa reads, out of the row's list; how the arguments read. -/
namespace Go.Proofs.YtnekehlghkfbdaaDoor.PAll
open Go Go.Proofs Go.RowKit Go.Shelf Go.Proofs.YtnekehlghkfbdaaDoorW.PrintWords Go.Proofs.YtnekehlghkfbdaaDoorW.PrintLast Go.Proofs.YtnekehlghkfbdaaDoorW.PrintMore Go.Proofs.YtnekehlghkfbdaaDoor.Bx
set_option linter.unusedVariables false
set_option linter.unusedSimpArgs false
def laidL : List (String × DataW Unit) := [("math/bits.deBruijn32tab", Rows.laid_math_bits_deBruijn32tab), ("math/bits.deBruijn64tab", Rows.laid_math_bits_deBruijn64tab), ("internal/strconv.uint64pow10", Rows.laid_internal_strconv_uint64pow10)]
set_option maxRecDepth 100000 in
theorem door_met (os : Os) (args : Array Value) : laidMetH Tryd.prog laidL ((World.doorLaid Tryd.prog 400 os).forCall (fun _ _ => 0) ⟨#[], args, []⟩).memory :=
  laidMetH_of_parts3 (fuel := 8) (laidMet_of_run' 8 (by kernel_rfl) (by kernel_rfl)) (by kernel_rfl) (by kernel_rfl)
theorem tab_of {W : World} (h : laidMetH Tryd.prog laidL W) : TAB W := by
  rw [MakeChecks.laidMetH_plain _ _ _ (by kernel_rfl)] at h
  have h3 : laidMet Tryd.prog (("internal/strconv.uint64pow10", Lib.tabData .u64 Lib.pow10Tab) :: []) W := laidMet.tail (laidMet.tail h)
  exact Lib.tabIs_of_head (P := Tryd.prog) (g := 0) (t := 59) (e := 50) (n := 20) (by kernel_rfl) (by kernel_rfl) Tryd.underlying59 Tryd.underlying50 (by kernel_rfl) (by kernel_rfl) h3
def Wf33 (x : S33) : Prop := (Lit.int .i64 x.f0).wf = true ∧ (Lit.int .i64 x.f1).wf = true ∧ x.f2.size ≤ 140737488351232 ∧ x.f3.size ≤ 140737488351232
theorem op33 (fuel : Nat) : Opn.Op Tryd.prog 33 k33 Wf33 fuel := by
  refine Opn.op_imp (Opn.op_iso (P := Tryd.prog) _ (fun p => ⟨p.1, p.2.1, p.2.2.1, p.2.2.2⟩) (fun _ => rfl) (Opn.op_struct (P := Tryd.prog) (fuel := fuel) (N := 4) Tryd.underlying33 (by kernel_rfl) (fun n_ hn_ => Opn.opF_cons rfl (by kernel_rfl) (Opn.op_int Tryd.underlying3 n_) (Opn.opF_cons rfl (by kernel_rfl) (Opn.op_int Tryd.underlying3 n_) (Opn.opF_cons rfl (by kernel_rfl) (Opn.op_string Tryd.underlying9 n_) (Opn.opF_last rfl (by kernel_rfl) (Opn.op_string Tryd.underlying9 n_))))))) (fun x h => h)
theorem own : ownKnob Tryd.prog.godebug = none := by kernel_rfl
theorem laidOut : laidOutB Tryd.prog = true := by kernel_rfl
end Go.Proofs.YtnekehlghkfbdaaDoor.PAll
