import Derived.Test.YthbnblmnamckmaaRows
import Derived.Test.YthbnblmnamckmaaMCodecBack0
import Derived.Test.YthbnblmnamckmaaMCodecBack4
import Derived.Test.YthbnblmnamckmaaMCodecBack5
import Derived.WalkKit
import Derived.ProofKit
import Derived.OpenShut
import Derived.ShutString
import Derived.ChangeOld
import Derived.Below
import Derived.SizedLaws
/-
  CodecBack: the given statement holds: whatever the input, the law answers true and leaves its arguments as they were. Conditions: those of the row alone.
-/
namespace Go.Proofs.Ythbnblmnamckmaa.codecBack
open Go.ChangeShapes Go.WideShapes Go.ChangeAt Go.RowKit Go.Proofs.YthbnblmnamckmaaW.PrintWords Go.Proofs.Ythbnblmnamckmaa.PAll
open Go.ChangeMaps (open_string shut_string)
set_option linter.unusedVariables false
theorem own : ownKnob Try.prog.godebug = none := by kernel_rfl
theorem laidOut : laidOutB Try.prog = true := by kernel_rfl
set_option maxRecDepth 100000 in
theorem lifted (os : Os) (started : os.Started) (H : Type) (enc : TypeId × Value → H) :
    ReturnsInHanded {} Try.checked os 8 .any (Rows.codecBackSpec.pre6 enc Try.prog Try.f8 Rows.codecBackRow.domain false) (Rows.codecBackSpec.post enc Try.prog Try.f8 false true false false) := by
  refine returnsInHanded_of_change_sized (C := Try.checked) own started (by kernel_rfl) Try.func8
    (ChangeSpec.witness6 (enc := enc) (C := Try.checked) false ⟨#[], #[.agg #[.int .i64 0, .int .i64 0, .string ByteArray.empty, .int .i64 0, .slice none 0 0], .agg #[.string ByteArray.empty, .slice none 0 0], .slice none 0 0, .slice none 0 0], []⟩ 8 (by kernel_rfl) (by kernel_rfl) (by kernel_rfl) (by kernel_rfl)) ?_
  intro W base args ds gs before hval0 hW hcnd hsz0 _
  have hsz : (DataW.weightsEach Try.prog (Try.f8.params.toList ++ Rows.codecBackSpec.plain.varTypes Try.prog) (ds ++ gs)).all (· ≤ reachBytes) = true := hsz0
  have hval : ∀ (j : Nat) t v, Try.f8.params[j]? = some t → args[j]? = some v → Value.okWide Try.prog W .any base t v := hval0
  have hW' := hW
  obtain ⟨p, q, hA0, hV, rfl, hfz, hnd⟩ := hW
  have hA : DataW.TrodAll enc Try.prog W 0 (fun _ => true) true Try.f8.params.toList args.toList ds p := hA0
  rw [Try.params8] at hA hval hsz
  obtain ⟨v0, vs0, d0, ds0, p0, q0, hargs, rfl, rfl, h0, tz0⟩ := trodAll_cons hA
  obtain ⟨v1, vs1, d1, ds1, p1, q1, rfl, rfl, rfl, h1, tz1⟩ := trodAll_cons tz0
  obtain ⟨v2, vs2, d2, ds2, p2, q2, rfl, rfl, rfl, h2, tz2⟩ := trodAll_cons tz1
  obtain ⟨v3, vs3, d3, ds3, p3, q3, rfl, rfl, rfl, h3, tz3⟩ := trodAll_cons tz2
  obtain ⟨rfl, rfl, rfl⟩ := trodAll_nil tz3
  obtain rfl : args = #[v0, v1, v2, v3] := by cases args; simp_all
  obtain ⟨rfl, rfl⟩ := trodVars_none hV
  have k0 := h0
  have lt0 := Go.Proofs.Ythbnblmnamckmaa.Opn.lt_of k0
  obtain ⟨x0, K0, w0⟩ := Go.Proofs.Ythbnblmnamckmaa.Opn.arg (d := k24) (wf := Wf24) (T := 24) (fun fuel => (op24 fuel)) hsz (j := 0) rfl rfl k0
  obtain ⟨A0_4, c0_4, hcs0, m0_4, r0_4⟩ := k24_open K0
  obtain rfl := Go.Proofs.Ythbnblmnamckmaa.Opn.agg_of Try.underlying24 (hval 0 24 v0 rfl rfl) hcs0
  have k1 := h1
  have lt1 := Go.Proofs.Ythbnblmnamckmaa.Opn.lt_of k1
  obtain ⟨x1, K1, w1⟩ := Go.Proofs.Ythbnblmnamckmaa.Opn.arg (d := k26) (wf := Wf26) (T := 26) (fun fuel => (op26 fuel)) hsz (j := 1) rfl rfl k1
  obtain ⟨A1_1, c1_1, hcs1, m1_1, r1_1⟩ := k26_open K1
  obtain rfl := Go.Proofs.Ythbnblmnamckmaa.Opn.agg_of Try.underlying26 (hval 1 26 v1 rfl rfl) hcs1
  have k2 := h2
  have lt2 := Go.Proofs.Ythbnblmnamckmaa.Opn.lt_of k2
  obtain ⟨x2, K2, w2⟩ := Go.Proofs.Ythbnblmnamckmaa.Opn.arg (d := (Kd.slice 5 (Kd.int .u8))) (wf := (fun x => (x.length ≤ maxLen ∧ x.length * 1 ≤ 140737488351232 ∧ ∀ y ∈ x, (Lit.int .u8 y).wf = true))) (T := 30) (fun fuel => (Go.Proofs.Ythbnblmnamckmaa.Opn.op_slice (fuel := fuel) Try.underlying30 (by kernel_rfl) (by kernel_rfl) (fun q_ _ => (Go.Proofs.Ythbnblmnamckmaa.Opn.op_int Try.underlying5 q_)))) hsz (j := 2) rfl rfl k2
  obtain ⟨a2, len2, cap2, rfl⟩ := okWide_slice Try.underlying30 (hval 2 30 v2 rfl rfl)
  obtain ⟨A2, c2, hcs2, m2, r2⟩ := K2
  simp only [Value.cells, List.cons.injEq, Value.slice.injEq, and_true] at hcs2
  obtain ⟨rfl, rfl, rfl⟩ := hcs2
  have k3 := h3
  have lt3 := Go.Proofs.Ythbnblmnamckmaa.Opn.lt_of k3
  obtain ⟨x3, K3, w3⟩ := Go.Proofs.Ythbnblmnamckmaa.Opn.arg (d := (Kd.slice 5 (Kd.int .u8))) (wf := (fun x => (x.length ≤ maxLen ∧ x.length * 1 ≤ 140737488351232 ∧ ∀ y ∈ x, (Lit.int .u8 y).wf = true))) (T := 30) (fun fuel => (Go.Proofs.Ythbnblmnamckmaa.Opn.op_slice (fuel := fuel) Try.underlying30 (by kernel_rfl) (by kernel_rfl) (fun q_ _ => (Go.Proofs.Ythbnblmnamckmaa.Opn.op_int Try.underlying5 q_)))) hsz (j := 3) rfl rfl k3
  obtain ⟨a3, len3, cap3, rfl⟩ := okWide_slice Try.underlying30 (hval 3 30 v3 rfl rfl)
  obtain ⟨A3, c3, hcs3, m3, r3⟩ := K3
  simp only [Value.cells, List.cons.injEq, Value.slice.injEq, and_true] at hcs3
  obtain ⟨rfl, rfl, rfl⟩ := hcs3
  clear hA0 hval0 hsz0 hsz
  refine (PAll.windlasslaw2_CodecBack.walk Pure.CodecBack x0 A0_4 c0_4 x1 A1_1 c1_1 x2 _ _ x3 _ _ W w0 r0_4 m0_4 w1 r1_1 m1_1 w2 r2 m2 w3 r3 m3).mono fun e W' ⟨he, bel⟩ => ?_
  subst he
  exact ⟨_, rfl, _, _, _, [], _, [], hW', trodAll_mk1 (shut_bool Try.underlying4 _), (trodAll_cons_mk (Below.trod laidOut (by kernel_rfl) (of_decide_eq_true (by kernel_rfl)) k0 bel lt0) (trodAll_cons_mk (Below.trod laidOut (by kernel_rfl) (of_decide_eq_true (by kernel_rfl)) k1 bel lt1) (trodAll_cons_mk (Below.trod laidOut (by kernel_rfl) (of_decide_eq_true (by kernel_rfl)) k2 bel lt2) (trodAll_cons_mk (Below.trod laidOut (by kernel_rfl) (of_decide_eq_true (by kernel_rfl)) k3 bel lt3) trodAll_mk0)))), rfl, bel.frame _, fun h => by cases h⟩
theorem over : Rows.codecBackRow.holds Try.pinned (OpenSpec.ofChange Rows.codecBackSpec) :=
  OpenClaim.holds_of_wide 8 Try.f8 rfl rfl rfl rfl rfl rfl rfl ⟨rfl, rfl, rfl, rfl, rfl⟩ rfl rfl rfl rfl rfl (by kernel_rfl) Try.func8 (by kernel_rfl)
    (of_decide_eq_true (by kernel_rfl)) (by unfold Func.isWrapper; first | (rw [if_pos (by decide +kernel)]; kernel_rfl) | (rw [if_neg (by decide +kernel)]; exact ⟨rfl, rfl⟩))
    (fun os started H enc _ => lifted os started H enc)
theorem proved : Rows.CodecBackSaid := over
#print axioms proved
end Go.Proofs.Ythbnblmnamckmaa.codecBack
namespace Go.Proofs.Ythbnblmnamckmaa
/-- The row, under a short name, for the claim. -/
theorem codecBack_holds : Rows.CodecBackSaid := codecBack.proved
end Go.Proofs.Ythbnblmnamckmaa
