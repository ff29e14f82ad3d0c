/-
  CodecWrites, without Go and memory: every value, every event has the document's bytes, or none. Conditions: the values are what comes in.
-/
import Derived.Test.YthbnblmnamckmaaPAllx10
import Derived.Test.YthbnblmnamckmaaQk
import Derived.Test.YthbnblmnamckmaaQv
namespace Go.Proofs.Ythbnblmnamckmaa.Pure
open Go.RowKit Go.Proofs.Ythbnblmnamckmaa.PAll Go.Proofs.YthbnblmnamckmaaW.PrintWords Go.Proofs.YthbnblmnamckmaaW.PrintLast Go.Proofs.YthbnblmnamckmaaW.PrintMore Go.Proofs.Ythbnblmnamckmaa.Q
set_option linter.unusedVariables false
theorem CodecWrites : windlasslaw2_CodecWrites.Pure := by
  intro x0 x1 w0 w1
  have i0 := In.of w0
  have hs : x1.f0.size ≤ 140737488351232 := w1.1
  have hl : x1.f1.length ≤ 9223372036854775807 := by have := w1.2.1; unfold maxLen at this; exact this
  have hi : ∀ v ∈ x1.f1, In v := fun v hv => In.of (w1.2.2.2 v hv)
  refine Ev.rounds ?_
  have hj : ∀ b : Bool, Ev (fun k => windlasslaw2_CodecWrites.j0 k b x0.f0 x0.f1 x0.f2 x0.f3 x0.f4 x1.f0 x1.f1) true := by
    intro b
    refine Ev.step (fun k => rfl) ?_
    simp only [windlasslaw2_CodecWrites.j0]
    cases b
    · simp only [if_neg (show ¬ (false = true) by decide)]
      refine Ev.bind (ev_codec_PutValue i0) ?_
      refine Ev.bind (ev_ref_PutValue i0) ?_
      refine Ev.bind (ev_codec_PutEvent hs hl hi) ?_
      refine Ev.bind (ev_ref_PutEvent hs hl hi) ?_
      simp only [bytes_same, Option.bind_some, if_true]
      exact Ev.now _
    · simp only [if_true]
      exact Ev.now _
  unfold windlasslaw2_CodecWrites.f
  refine Ev.bind ev_known ?_
  simp only [if_true]
  obtain ⟨b, hb⟩ := ev_Small i0
  refine Ev.bind hb ?_
  cases b
  · simp only [if_neg (show ¬ (false = true) by decide)]
    exact hj _
  · simp only [if_true]
    obtain ⟨c, hc, _⟩ := ev_Smalls hl hi
    refine Ev.bind hc ?_
    cases c
    · simp only [if_neg (show ¬ (false = true) by decide)]
      exact hj _
    · simp only [if_true]
      exact hj _
end Go.Proofs.Ythbnblmnamckmaa.Pure
