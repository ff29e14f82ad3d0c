/-
  CodecNumbers, without Go and memory: every number, every text has the document's bytes, and comes back from them, whatever stands behind. Conditions: the numbers are of their kinds, the bytes are bytes.
-/
import Derived.Test.YthbnblmnamckmaaPAllx21
import Derived.Test.YthbnblmnamckmaaQk
import Derived.Test.YthbnblmnamckmaaQt
namespace Go.Proofs.Ythbnblmnamckmaa.Pure
open Go.RowKit Go.Proofs.Ythbnblmnamckmaa.PAll Go.Proofs.YthbnblmnamckmaaW.PrintWords Go.Proofs.YthbnblmnamckmaaW.PrintLast Go.Proofs.YthbnblmnamckmaaW.PrintMore Go.Proofs.Ythbnblmnamckmaa.Q
set_option linter.unusedVariables false
theorem bytes_append {a b : List Int} (ha : Bytes a) (hb : Bytes b) : Bytes (a ++ b) := fun x hx => (List.mem_append.1 hx).elim (ha x) (hb x)
theorem bytes_bytesOf (s : ByteArray) : Bytes (bytesOf s) := by
  intro x hx
  unfold bytesOf at hx
  obtain ⟨b, _, rfl⟩ := List.mem_map.1 hx
  have := b.toNat_lt
  omega
theorem CodecNumbers : windlasslaw2_CodecNumbers.Pure := by
  intro a0 a1 a2 l3 w0 w1 w2 w3
  have w5 := w3.2.2
  have b0 := bounds_u64 w0
  have b1 := bounds_i64 w1
  have b5 : Bytes l3 := fun x hx => bounds_u8 (w5 x hx)
  refine Ev.rounds ?_
  have hj : ∀ b : Bool, (b = false → a2.size ≤ 500 ∧ l3.length ≤ 500) → Ev (fun k => windlasslaw2_CodecNumbers.j0 k a0 a1 a2 l3 b) true := by
    intro b hb
    refine Ev.step (fun k => rfl) ?_
    simp only [windlasslaw2_CodecNumbers.j0]
    cases b
    · obtain ⟨h2, h3⟩ := hb rfl
      have l0 := putU_len (n := a0.toNat) (by omega)
      have l1 := putU_len (zig_lt b1.1 b1.2)
      have l2 := putU_len (n := a2.size) (by omega)
      simp only [if_neg (show ¬ (false = true) by decide)]
      refine Ev.bind (ev_codec_PutUint' b0.1 (by omega)) ?_
      refine Ev.bind (ev_codec_PutInt b1.1 b1.2) ?_
      refine Ev.bind (ev_codec_PutText w2) ?_
      refine Ev.bind (ev_ref_PutUint' b0.1 (by omega)) ?_
      simp only [bytes_same, Option.bind_some, if_true]
      refine Ev.bind (ev_ref_PutInt b1.1 b1.2) ?_
      simp only [bytes_same, Option.bind_some, if_true]
      refine Ev.bind (ev_ref_PutText w2) ?_
      simp only [bytes_same, Option.bind_some, Bool.not_true]
      refine Ev.step (fun k => rfl) ?_
      simp only [windlasslaw2_CodecNumbers.j1, List.nil_append, Option.bind_some, List.length_nil, List.length_append, bytesOf_length]
      simp only [if_neg (show ¬ (false = true) by decide), if_pos (show 0 + (putU a0.toNat).length < 140737488355328 by omega), if_pos (show (putU a0.toNat).length + l3.length < 140737488355328 by omega), if_pos (show 0 + (putU (zig a1)).length < 140737488355328 by omega), if_pos (show (putU (zig a1)).length + l3.length < 140737488355328 by omega), if_pos (show 0 + ((putU a2.size).length + a2.size) < 140737488355328 by omega), if_pos (show (putU a2.size).length + a2.size + l3.length < 140737488355328 by omega)]
      have u := ev_codec_Uint (bytes_append (putU_bytes a0.toNat) b5)
      rw [decU_put (by omega), resU_some] at u
      refine Ev.bind u ?_
      have i := ev_codec_Int (bytes_append (putU_bytes (zig a1)) b5)
      rw [decU_put (zig_lt b1.1 b1.2)] at i
      refine Ev.bind i ?_
      have t := ev_codec_Text (l := putU a2.size ++ bytesOf a2 ++ l3) (bytes_append (bytes_append (putU_bytes _) (bytes_bytesOf a2)) b5) (by simp [bytesOf_length]; omega)
      rw [resT_put w2] at t
      refine Ev.bind t ?_
      have e0 : ((a0.toNat : Nat) : Int) = a0 := Int.toNat_of_nonneg b0.1
      simp only [resI, zag_zig, e0, if_true, bne_self_eq_false]
      refine Ev.step (fun k => rfl) ?_
      simp only [windlasslaw2_CodecNumbers.j2, if_neg (show ¬ (false = true) by decide)]
      by_cases h : a2.size > 64
      · simp only [if_pos h, if_pos (show (a2.size : Int) > 64 by omega), if_true]
        have he : (⟨#[]⟩ : ByteArray).toList = [] := Lib.toList_data ⟨#[]⟩
        simp only [if_pos he]
        exact ev_eq (by rfl)
      · simp only [if_neg h, if_neg (show ¬ ((a2.size : Int) > 64) by omega), if_true]
        exact ev_eq (by simp)
    · simp only [if_true]
      exact Ev.now _
  unfold windlasslaw2_CodecNumbers.f
  refine Ev.bind ev_known ?_
  simp only [if_true]
  by_cases h : (a2.size : Int) > 500
  · simp only [if_pos h]; exact hj true (by simp)
  · simp only [if_neg h]
    by_cases h' : (l3.length : Int) > 500
    · rw [decide_eq_true h']; exact hj true (by simp)
    · rw [decide_eq_false h']; exact hj false (fun _ => ⟨by omega, by omega⟩)
end Go.Proofs.Ythbnblmnamckmaa.Pure
