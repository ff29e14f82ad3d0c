/-
  CodecNumbers: the given statement holds: whatever the input, the law answers true and leaves its arguments as they were. Conditions: those of the row alone.
-/
import Derived.Test.YthbnblmnamckmaaRows
import Derived.Test.YthbnblmnamckmaaPAllx1
import Derived.Test.YthbnblmnamckmaaPAllx21
import Derived.Test.YthbnblmnamckmaaPureCodecNumbers
import Derived.Test.YthbnblmnamckmaaZOpen
import Derived.WalkKit
import Derived.ProofKit
import Derived.OpenShut
import Derived.ShutString
import Derived.ChangeOld
import Derived.Below
import Derived.SizedLaws
namespace Go.Proofs.Ythbnblmnamckmaa.codecNumbers
open Go.ChangeShapes Go.WideShapes Go.ChangeAt Go.RowKit Go.Proofs.YthbnblmnamckmaaW.PrintWords Go.Proofs.Ythbnblmnamckmaa.PAll
open Go.ChangeMaps (open_string shut_string)
set_option linter.unusedVariables false
theorem own : ownKnob Try.prog.godebug = none := by kernel_rfl
theorem laidOut : laidOutB Try.prog = true := by kernel_rfl
set_option maxRecDepth 100000 in
theorem lifted (os : Os) (started : os.Started) (H : Type) (enc : TypeId × Value → H) :
    ReturnsInHanded {} Try.checked os 5 .any (Rows.codecNumbersSpec.pre6 enc Try.prog Try.f5 Rows.codecNumbersRow.domain false) (Rows.codecNumbersSpec.post enc Try.prog Try.f5 false true false false) := by
  refine returnsInHanded_of_change_sized (C := Try.checked) own started (by kernel_rfl) Try.func5
    (ChangeSpec.witness6 (enc := enc) (C := Try.checked) false ⟨#[], #[.int .u64 0, .int .i64 0, .string ByteArray.empty, .slice none 0 0], []⟩ 8 (by kernel_rfl) (by kernel_rfl) (by kernel_rfl) (by kernel_rfl)) ?_
  intro W base args ds gs before hval0 hW hcnd hsz0 _
  have hsz : (DataW.weightsEach Try.prog (Try.f5.params.toList ++ Rows.codecNumbersSpec.plain.varTypes Try.prog) (ds ++ gs)).all (· ≤ reachBytes) = true := hsz0
  have hval : ∀ (j : Nat) t v, Try.f5.params[j]? = some t → args[j]? = some v → Value.okWide Try.prog W .any base t v := hval0
  have hW' := hW
  obtain ⟨p, q, hA0, hV, rfl, hfz, hnd⟩ := hW
  have hA : DataW.TrodAll enc Try.prog W 0 (fun _ => true) true Try.f5.params.toList args.toList ds p := hA0
  rw [Try.params5] at hA hval hsz
  obtain ⟨v0, vs0, d0, ds0, p0, q0, hargs, rfl, rfl, h0, r0⟩ := trodAll_cons hA
  obtain ⟨v1, vs1, d1, ds1, p1, q1, rfl, rfl, rfl, h1, r1⟩ := trodAll_cons r0
  obtain ⟨v2, vs2, d2, ds2, p2, q2, rfl, rfl, rfl, h2, r2⟩ := trodAll_cons r1
  obtain ⟨v3, vs3, d3, ds3, p3, q3, rfl, rfl, rfl, h3, r3⟩ := trodAll_cons r2
  obtain ⟨rfl, rfl, rfl⟩ := trodAll_nil r3
  obtain rfl : args = #[v0, v1, v2, v3] := by cases args; simp_all
  obtain ⟨rfl, rfl⟩ := trodVars_none hV
  have k0 := h0
  have lt0 := Go.Proofs.Ythbnblmnamckmaa.Opn.lt_of k0
  obtain ⟨x0, K0, w0⟩ := Go.Proofs.Ythbnblmnamckmaa.Opn.arg (d := (Kd.int .u64)) (wf := (fun x => (Lit.int .u64 x).wf = true)) (T := 40) (fun fuel => (Go.Proofs.Ythbnblmnamckmaa.Opn.op_int Try.underlying40 fuel)) hsz (j := 0) rfl rfl k0
  obtain ⟨a0, rfl, rfl, rfl, y0⟩ := open_int Try.underlying40 (hval 0 40 v0 rfl rfl) h0
  have hx0 : x0 = a0 := by simpa [Kd.int, Kd.bool, Kd.string, Kd.scalar, Value.cells, eq_comm] using K0
  subst hx0
  have k1 := h1
  have lt1 := Go.Proofs.Ythbnblmnamckmaa.Opn.lt_of k1
  obtain ⟨x1, K1, w1⟩ := Go.Proofs.Ythbnblmnamckmaa.Opn.arg (d := (Kd.int .i64)) (wf := (fun x => (Lit.int .i64 x).wf = true)) (T := 2) (fun fuel => (Go.Proofs.Ythbnblmnamckmaa.Opn.op_int Try.underlying2 fuel)) hsz (j := 1) rfl rfl k1
  obtain ⟨a1, rfl, rfl, rfl, y1⟩ := open_int Try.underlying2 (hval 1 2 v1 rfl rfl) h1
  have hx1 : x1 = a1 := by simpa [Kd.int, Kd.bool, Kd.string, Kd.scalar, Value.cells, eq_comm] using K1
  subst hx1
  have k2 := h2
  have lt2 := Go.Proofs.Ythbnblmnamckmaa.Opn.lt_of k2
  obtain ⟨x2, K2, w2⟩ := Go.Proofs.Ythbnblmnamckmaa.Opn.arg (d := Kd.string) (wf := (fun x => x.size ≤ 140737488351232)) (T := 9) (fun fuel => (Go.Proofs.Ythbnblmnamckmaa.Opn.op_string Try.underlying9 fuel)) hsz (j := 2) rfl rfl k2
  obtain ⟨a2, rfl, rfl, rfl, y2⟩ := open_string Try.underlying9 (hval 2 9 v2 rfl rfl) h2
  have hx2 : x2 = a2 := by simpa [Kd.int, Kd.bool, Kd.string, Kd.scalar, Value.cells, eq_comm] using K2
  subst hx2
  have k3 := h3
  have lt3 := Go.Proofs.Ythbnblmnamckmaa.Opn.lt_of k3
  obtain ⟨x3, K3, w3⟩ := Go.Proofs.Ythbnblmnamckmaa.Opn.arg (d := (Kd.slice 5 (Kd.int .u8))) (wf := (fun x => (x.length ≤ maxLen ∧ x.length * 1 ≤ 140737488351232 ∧ ∀ y ∈ x, (Lit.int .u8 y).wf = true))) (T := 30) (fun fuel => (Go.Proofs.Ythbnblmnamckmaa.Opn.op_slice (fuel := fuel) Try.underlying30 (by kernel_rfl) (by kernel_rfl) (fun q_ _ => (Go.Proofs.Ythbnblmnamckmaa.Opn.op_int Try.underlying5 q_)))) hsz (j := 3) rfl rfl k3
  obtain ⟨a3, len3, cap3, rfl⟩ := okWide_slice Try.underlying30 (hval 3 30 v3 rfl rfl)
  obtain ⟨A3, c3, hcs3, m3, r3⟩ := K3
  simp only [Value.cells, List.cons.injEq, Value.slice.injEq, and_true] at hcs3
  obtain ⟨rfl, rfl, rfl⟩ := hcs3
  clear hA0 hval0 hsz0 hsz
  refine (PAll.windlasslaw2_CodecNumbers.walk Pure.CodecNumbers x0 x1 x2 x3 _ _ W w0 w1 w2 w3 r3 m3).mono fun e W' ⟨he, bel⟩ => ?_
  subst he
  exact ⟨_, rfl, _, _, _, [], _, [], hW', trodAll_mk1 (shut_bool Try.underlying4 _), (trodAll_cons_mk (Below.trod laidOut (by kernel_rfl) (of_decide_eq_true (by kernel_rfl)) k0 bel lt0) (trodAll_cons_mk (Below.trod laidOut (by kernel_rfl) (of_decide_eq_true (by kernel_rfl)) k1 bel lt1) (trodAll_cons_mk (Below.trod laidOut (by kernel_rfl) (of_decide_eq_true (by kernel_rfl)) k2 bel lt2) (trodAll_cons_mk (Below.trod laidOut (by kernel_rfl) (of_decide_eq_true (by kernel_rfl)) k3 bel lt3) trodAll_mk0)))), rfl, bel.frame _, fun h => by cases h⟩
theorem over : Rows.codecNumbersRow.holds Try.pinned (OpenSpec.ofChange Rows.codecNumbersSpec) :=
  OpenClaim.holds_of_wide 5 Try.f5 rfl rfl rfl rfl rfl rfl rfl ⟨rfl, rfl, rfl, rfl, rfl⟩ rfl rfl rfl rfl rfl (by kernel_rfl) Try.func5 (by kernel_rfl)
    (of_decide_eq_true (by kernel_rfl)) (by unfold Func.isWrapper; first | (rw [if_pos (by decide +kernel)]; kernel_rfl) | (rw [if_neg (by decide +kernel)]; exact ⟨rfl, rfl⟩))
    (fun os started H enc _ => lifted os started H enc)
theorem proved : Rows.CodecNumbersSaid := over
#print axioms proved
end Go.Proofs.Ythbnblmnamckmaa.codecNumbers
namespace Go.Proofs.Ythbnblmnamckmaa
/-- The row, under a short name, for the claim. -/
theorem codecNumbers_holds : Rows.CodecNumbersSaid := codecNumbers.proved
end Go.Proofs.Ythbnblmnamckmaa
