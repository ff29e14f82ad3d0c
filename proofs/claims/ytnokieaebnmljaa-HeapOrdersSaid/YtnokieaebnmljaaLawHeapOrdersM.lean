import Derived.Test.YtnokieaebnmljaaRows
import Derived.Test.YtnokieaebnmljaaMHeapOrders2
import Derived.Test.YtnokieaebnmljaaMHeapOrders4
import Derived.Test.YtnokieaebnmljaaMHeapOrders0
import Derived.WalkKit
import Derived.ProofKit
import Derived.OpenShut
import Derived.ShutString
import Derived.ChangeOld
import Derived.Below
import Derived.SizedLaws
/-
  HeapOrders: the given statement holds: whatever the input, the law answers true and leaves its arguments as they were. Conditions: those of the row alone.
-/
namespace Go.Proofs.Ytnokieaebnmljaa.heapOrders
open Go.ChangeShapes Go.WideShapes Go.ChangeAt Go.RowKit Go.Proofs.YtnokieaebnmljaaW.PrintWords Go.Proofs.Ytnokieaebnmljaa.PAll
open Go.ChangeMaps (open_string shut_string)
set_option linter.unusedVariables false
theorem own : ownKnob Try.prog.godebug = none := by kernel_rfl
theorem laidOut : laidOutB Try.prog = true := by kernel_rfl
set_option maxRecDepth 100000 in
theorem lifted (os : Os) (started : os.Started) (H : Type) (enc : TypeId × Value → H) :
    ReturnsInHanded {} Try.checked os 3 .any (Rows.heapOrdersSpec.pre6 enc Try.prog Try.f3 Rows.heapOrdersRow.domain false) (Rows.heapOrdersSpec.post enc Try.prog Try.f3 false true false false) := by
  refine returnsInHanded_of_change_sized (C := Try.checked) own started (by kernel_rfl) Try.func3
    (ChangeSpec.witness6 (enc := enc) (C := Try.checked) false ⟨#[], #[.slice none 0 0, .slice none 0 0], []⟩ 8 (by kernel_rfl) (by kernel_rfl) (by kernel_rfl) (by kernel_rfl)) ?_
  intro W base args ds gs before hval0 hW hcnd hsz0 _
  have hsz : (DataW.weightsEach Try.prog (Try.f3.params.toList ++ Rows.heapOrdersSpec.plain.varTypes Try.prog) (ds ++ gs)).all (· ≤ reachBytes) = true := hsz0
  have hval : ∀ (j : Nat) t v, Try.f3.params[j]? = some t → args[j]? = some v → Value.okWide Try.prog W .any base t v := hval0
  have hW' := hW
  obtain ⟨p, q, hA0, hV, rfl, hfz, hnd⟩ := hW
  have hA : DataW.TrodAll enc Try.prog W 0 (fun _ => true) true Try.f3.params.toList args.toList ds p := hA0
  rw [Try.params3] at hA hval hsz
  obtain ⟨v0, vs0, d0, ds0, p0, q0, hargs, rfl, rfl, h0, tz0⟩ := trodAll_cons hA
  obtain ⟨v1, vs1, d1, ds1, p1, q1, rfl, rfl, rfl, h1, tz1⟩ := trodAll_cons tz0
  obtain ⟨rfl, rfl, rfl⟩ := trodAll_nil tz1
  obtain rfl : args = #[v0, v1] := by cases args; simp_all
  obtain ⟨rfl, rfl⟩ := trodVars_none hV
  have k0 := h0
  have lt0 := Go.Proofs.Ytnokieaebnmljaa.Opn.lt_of k0
  obtain ⟨x0, K0, w0⟩ := Go.Proofs.Ytnokieaebnmljaa.Opn.arg (d := (Kd.slice 29 (Kd.int .i16))) (wf := (fun x => (x.length ≤ maxLen ∧ x.length * 2 ≤ 140737488351232 ∧ ∀ y ∈ x, (Lit.int .i16 y).wf = true))) (T := 22) (fun fuel => (Go.Proofs.Ytnokieaebnmljaa.Opn.op_slice (fuel := fuel) Try.underlying22 (by kernel_rfl) (by kernel_rfl) (fun q_ _ => (Go.Proofs.Ytnokieaebnmljaa.Opn.op_int Try.underlying29 q_)))) hsz (j := 0) rfl rfl k0
  obtain ⟨a0, len0, cap0, rfl⟩ := okWide_slice Try.underlying22 (hval 0 22 v0 rfl rfl)
  obtain ⟨A0, c0, hcs0, m0, r0⟩ := K0
  simp only [Value.cells, List.cons.injEq, Value.slice.injEq, and_true] at hcs0
  obtain ⟨rfl, rfl, rfl⟩ := hcs0
  have k1 := h1
  have lt1 := Go.Proofs.Ytnokieaebnmljaa.Opn.lt_of k1
  obtain ⟨x1, K1, w1⟩ := Go.Proofs.Ytnokieaebnmljaa.Opn.arg (d := (Kd.slice 5 (Kd.int .u8))) (wf := (fun x => (x.length ≤ maxLen ∧ x.length * 1 ≤ 140737488351232 ∧ ∀ y ∈ x, (Lit.int .u8 y).wf = true))) (T := 23) (fun fuel => (Go.Proofs.Ytnokieaebnmljaa.Opn.op_slice (fuel := fuel) Try.underlying23 (by kernel_rfl) (by kernel_rfl) (fun q_ _ => (Go.Proofs.Ytnokieaebnmljaa.Opn.op_int Try.underlying5 q_)))) hsz (j := 1) rfl rfl k1
  obtain ⟨a1, len1, cap1, rfl⟩ := okWide_slice Try.underlying23 (hval 1 23 v1 rfl rfl)
  obtain ⟨A1, c1, hcs1, m1, r1⟩ := K1
  simp only [Value.cells, List.cons.injEq, Value.slice.injEq, and_true] at hcs1
  obtain ⟨rfl, rfl, rfl⟩ := hcs1
  clear hA0 hval0 hsz0 hsz
  refine (PAll.ho_walk PAll.known_h x0 x1 _ _ _ _ W w0.2.2 w1.2.2 r0 m0 r1 m1).mono fun e W' ⟨he, bel⟩ => ?_
  subst he
  exact ⟨_, rfl, _, _, _, [], _, [], hW', trodAll_mk1 (shut_bool Try.underlying4 _), (trodAll_cons_mk (Below.trod laidOut (by kernel_rfl) (of_decide_eq_true (by kernel_rfl)) k0 bel lt0) (trodAll_cons_mk (Below.trod laidOut (by kernel_rfl) (of_decide_eq_true (by kernel_rfl)) k1 bel lt1) trodAll_mk0)), rfl, bel.frame _, fun h => by cases h⟩
theorem over : Rows.heapOrdersRow.holds Try.pinned (OpenSpec.ofChange Rows.heapOrdersSpec) :=
  OpenClaim.holds_of_wide 3 Try.f3 rfl rfl rfl rfl rfl rfl rfl ⟨rfl, rfl, rfl, rfl, rfl⟩ rfl rfl rfl rfl rfl (by kernel_rfl) Try.func3 (by kernel_rfl)
    (of_decide_eq_true (by kernel_rfl)) (by unfold Func.isWrapper; first | (rw [if_pos (by decide +kernel)]; kernel_rfl) | (rw [if_neg (by decide +kernel)]; exact ⟨rfl, rfl⟩))
    (fun os started H enc _ => lifted os started H enc)
theorem proved : Rows.HeapOrdersSaid := over
#print axioms proved
end Go.Proofs.Ytnokieaebnmljaa.heapOrders
namespace Go.Proofs.Ytnokieaebnmljaa
/-- The row, under a short name, for the claim. -/
theorem heapOrders_holds : Rows.HeapOrdersSaid := heapOrders.proved
end Go.Proofs.Ytnokieaebnmljaa
