-- Laid by a program of this seat (wip/xprint.py over the kit's print).
import Derived.Test.YthbnblmnamckmaaPAllx0
namespace Go.Proofs.Ythbnblmnamckmaa.PAll
open Go.RowKit Go.Proofs.YthbnblmnamckmaaW.PrintWords Go.Proofs.YthbnblmnamckmaaW.PrintLast Go.Proofs.YthbnblmnamckmaaW.PrintMore
attribute [local go_sem] max2_int min2_int max_two min_two max_three min_three max_four min_four   -- for this text's walks alone
set_option linter.unusedVariables false
set_option linter.unusedSimpArgs false

inductive Wf24 : S24 → Prop
  | mk (x : S24) : (Lit.int .i64 x.f0).wf = true → (Lit.int .i64 x.f1).wf = true → x.f2.size ≤ 140737488351232 → (Lit.int .i64 x.f3).wf = true → x.f4.length ≤ maxLen → x.f4.length * 64 ≤ 140737488351232 → (∀ y ∈ x.f4, Wf24 y) → Wf24 x
theorem Wf24.out {x : S24} (h : Wf24 x) : (Lit.int .i64 x.f0).wf = true ∧ (Lit.int .i64 x.f1).wf = true ∧ x.f2.size ≤ 140737488351232 ∧ (Lit.int .i64 x.f3).wf = true ∧ (x.f4.length ≤ maxLen ∧ x.f4.length * 64 ≤ 140737488351232 ∧ ∀ y ∈ x.f4, Wf24 y) := by
  cases h with
  | mk _ h0_0 h1_0 h2_0 h3_0 h4_0 h4_1 h4_2 => exact ⟨h0_0, h1_0, h2_0, h3_0, ⟨h4_0, h4_1, h4_2⟩⟩
theorem op24 (fuel : Nat) : Opn.Op Try.prog 24 k24 Wf24 fuel := by
  refine Opn.op_fix (F := F24) (hs := sz24) (hE := Kd.upto_E sub24) (fun d m hs ih n hn => ?_) fuel
  refine Opn.op_imp (Opn.op_iso (P := Try.prog) _ (fun p => ⟨p.1, p.2.1, p.2.2.1, p.2.2.2.1, p.2.2.2.2⟩) (fun _ => rfl) (Opn.op_struct (P := Try.prog) (fuel := n) (N := 5) Try.underlying24 (by kernel_rfl) (fun n_ hn_ => Opn.opF_cons rfl (by kernel_rfl) (Opn.op_int Try.underlying3 n_) (Opn.opF_cons rfl (by kernel_rfl) (Opn.op_int Try.underlying2 n_) (Opn.opF_cons rfl (by kernel_rfl) (Opn.op_string Try.underlying9 n_) (Opn.opF_cons rfl (by kernel_rfl) (Opn.op_int Try.underlying3 n_) (Opn.opF_last rfl (by kernel_rfl) (Opn.op_slice Try.underlying22 (Eq.trans (by kernel_rfl) hs.symm) (by kernel_rfl) (fun q_ hq_ => ih q_ (by omega)))))))))) (fun x h => Wf24.mk x h.1 h.2.1 h.2.2.1 h.2.2.2.1 h.2.2.2.2.1 h.2.2.2.2.2.1 h.2.2.2.2.2.2)

def Wf26 (x : S26) : Prop := x.f0.size ≤ 140737488351232 ∧ (x.f1.length ≤ maxLen ∧ x.f1.length * 64 ≤ 140737488351232 ∧ ∀ y ∈ x.f1, Wf24 y)
theorem op26 (fuel : Nat) : Opn.Op Try.prog 26 k26 Wf26 fuel := by
  refine Opn.op_imp (Opn.op_iso (P := Try.prog) _ (fun p => ⟨p.1, p.2⟩) (fun _ => rfl) (Opn.op_struct (P := Try.prog) (fuel := fuel) (N := 2) Try.underlying26 (by kernel_rfl) (fun n_ hn_ => Opn.opF_cons rfl (by kernel_rfl) (Opn.op_string Try.underlying9 n_) (Opn.opF_last rfl (by kernel_rfl) (Opn.op_slice (fuel := n_) Try.underlying22 (by kernel_rfl) (by kernel_rfl) (fun q_ _ => (op24 q_))))))) (fun x h => h)

end Go.Proofs.Ythbnblmnamckmaa.PAll
