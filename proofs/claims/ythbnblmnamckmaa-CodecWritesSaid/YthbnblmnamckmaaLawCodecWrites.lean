/-
  CodecWrites: the given statement holds: whatever the input, the law answers true and leaves its arguments as they were. Conditions: those of the row alone.
-/
import Derived.Test.YthbnblmnamckmaaRows
import Derived.Test.YthbnblmnamckmaaPAllx1
import Derived.Test.YthbnblmnamckmaaPAllx10
import Derived.Test.YthbnblmnamckmaaPureCodecWrites
import Derived.Test.YthbnblmnamckmaaZOpen
import Derived.WalkKit
import Derived.ProofKit
import Derived.OpenShut
import Derived.ShutString
import Derived.ChangeOld
import Derived.Below
import Derived.SizedLaws
namespace Go.Proofs.Ythbnblmnamckmaa.codecWrites
open Go.ChangeShapes Go.WideShapes Go.ChangeAt Go.RowKit Go.Proofs.YthbnblmnamckmaaW.PrintWords Go.Proofs.Ythbnblmnamckmaa.PAll
open Go.ChangeMaps (open_string shut_string)
set_option linter.unusedVariables false
theorem own : ownKnob Try.prog.godebug = none := by kernel_rfl
theorem laidOut : laidOutB Try.prog = true := by kernel_rfl
set_option maxRecDepth 100000 in
theorem lifted (os : Os) (started : os.Started) (H : Type) (enc : TypeId × Value → H) :
    ReturnsInHanded {} Try.checked os 3 .any (Rows.codecWritesSpec.pre6 enc Try.prog Try.f3 Rows.codecWritesRow.domain false) (Rows.codecWritesSpec.post enc Try.prog Try.f3 false true false false) := by
  refine returnsInHanded_of_change_sized (C := Try.checked) own started (by kernel_rfl) Try.func3
    (ChangeSpec.witness6 (enc := enc) (C := Try.checked) false ⟨#[], #[.agg #[.int .i64 0, .int .i64 0, .string ByteArray.empty, .int .i64 0, .slice none 0 0], .agg #[.string ByteArray.empty, .slice none 0 0]], []⟩ 8 (by kernel_rfl) (by kernel_rfl) (by kernel_rfl) (by kernel_rfl)) ?_
  intro W base args ds gs before hval0 hW hcnd hsz0 _
  have hsz : (DataW.weightsEach Try.prog (Try.f3.params.toList ++ Rows.codecWritesSpec.plain.varTypes Try.prog) (ds ++ gs)).all (· ≤ reachBytes) = true := hsz0
  have hval : ∀ (j : Nat) t v, Try.f3.params[j]? = some t → args[j]? = some v → Value.okWide Try.prog W .any base t v := hval0
  have hW' := hW
  obtain ⟨p, q, hA0, hV, rfl, hfz, hnd⟩ := hW
  have hA : DataW.TrodAll enc Try.prog W 0 (fun _ => true) true Try.f3.params.toList args.toList ds p := hA0
  rw [Try.params3] at hA hval hsz
  obtain ⟨v0, vs0, d0, ds0, p0, q0, hargs, rfl, rfl, h0, r0⟩ := trodAll_cons hA
  obtain ⟨v1, vs1, d1, ds1, p1, q1, rfl, rfl, rfl, h1, r1⟩ := trodAll_cons r0
  obtain ⟨rfl, rfl, rfl⟩ := trodAll_nil r1
  obtain rfl : args = #[v0, v1] := by cases args; simp_all
  obtain ⟨rfl, rfl⟩ := trodVars_none hV
  have k0 := h0
  have lt0 := Go.Proofs.Ythbnblmnamckmaa.Opn.lt_of k0
  obtain ⟨x0, K0, w0⟩ := Go.Proofs.Ythbnblmnamckmaa.Opn.arg (d := k24) (wf := Wf24) (T := 24) (fun fuel => (op24 fuel)) hsz (j := 0) rfl rfl k0
  obtain ⟨A0_4, c0_4, hcs0, m0_4, r0_4⟩ := k24_open K0
  obtain rfl := Go.Proofs.Ythbnblmnamckmaa.Opn.agg_of Try.underlying24 (hval 0 24 v0 rfl rfl) hcs0
  have k1 := h1
  have lt1 := Go.Proofs.Ythbnblmnamckmaa.Opn.lt_of k1
  obtain ⟨x1, K1, w1⟩ := Go.Proofs.Ythbnblmnamckmaa.Opn.arg (d := k26) (wf := Wf26) (T := 26) (fun fuel => (op26 fuel)) hsz (j := 1) rfl rfl k1
  obtain ⟨A1_1, c1_1, hcs1, m1_1, r1_1⟩ := k26_open K1
  obtain rfl := Go.Proofs.Ythbnblmnamckmaa.Opn.agg_of Try.underlying26 (hval 1 26 v1 rfl rfl) hcs1
  clear hA0 hval0 hsz0 hsz
  refine (PAll.windlasslaw2_CodecWrites.walk Pure.CodecWrites x0 A0_4 c0_4 x1 A1_1 c1_1 W w0 r0_4 m0_4 w1 r1_1 m1_1).mono fun e W' ⟨he, bel⟩ => ?_
  subst he
  exact ⟨_, rfl, _, _, _, [], _, [], hW', trodAll_mk1 (shut_bool Try.underlying4 _), (trodAll_cons_mk (Below.trod laidOut (by kernel_rfl) (of_decide_eq_true (by kernel_rfl)) k0 bel lt0) (trodAll_cons_mk (Below.trod laidOut (by kernel_rfl) (of_decide_eq_true (by kernel_rfl)) k1 bel lt1) trodAll_mk0)), rfl, bel.frame _, fun h => by cases h⟩
theorem over : Rows.codecWritesRow.holds Try.pinned (OpenSpec.ofChange Rows.codecWritesSpec) :=
  OpenClaim.holds_of_wide 3 Try.f3 rfl rfl rfl rfl rfl rfl rfl ⟨rfl, rfl, rfl, rfl, rfl⟩ rfl rfl rfl rfl rfl (by kernel_rfl) Try.func3 (by kernel_rfl)
    (of_decide_eq_true (by kernel_rfl)) (by unfold Func.isWrapper; first | (rw [if_pos (by decide +kernel)]; kernel_rfl) | (rw [if_neg (by decide +kernel)]; exact ⟨rfl, rfl⟩))
    (fun os started H enc _ => lifted os started H enc)
theorem proved : Rows.CodecWritesSaid := over
#print axioms proved
end Go.Proofs.Ythbnblmnamckmaa.codecWrites
namespace Go.Proofs.Ythbnblmnamckmaa
/-- The row, under a short name, for the claim. -/
theorem codecWrites_holds : Rows.CodecWritesSaid := codecWrites.proved
end Go.Proofs.Ythbnblmnamckmaa
