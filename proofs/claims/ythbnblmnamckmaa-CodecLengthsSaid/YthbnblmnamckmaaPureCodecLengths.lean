/-
  CodecLengths, without Go and memory: a number has a byte for each seven of its bits; an integer and its opposite less one lie side by side. Conditions: the numbers are of their kinds.
-/
import Derived.Test.YthbnblmnamckmaaPAllx3
import Derived.Test.YthbnblmnamckmaaPAllx11
import Derived.Test.YthbnblmnamckmaaQk
import Derived.OpenShut
namespace Go.Proofs.Ythbnblmnamckmaa.Pure
open Go.RowKit Go.Proofs.Ythbnblmnamckmaa.PAll Go.Proofs.YthbnblmnamckmaaW.PrintWords Go.Proofs.YthbnblmnamckmaaW.PrintLast Go.Proofs.YthbnblmnamckmaaW.PrintMore Go.Proofs.Ythbnblmnamckmaa.Q
set_option linter.unusedVariables false

/-- How many bits a number has. -/
def blen (n : Nat) : Nat := if h : n = 0 then 0 else blen (n / 2) + 1
termination_by n
decreasing_by omega
theorem blen_zero : blen 0 = 0 := by rw [blen, dif_pos rfl]
theorem blen_pos {n : Nat} (h : n ≠ 0) : blen n = blen (n / 2) + 1 := by rw [blen, dif_neg h]
theorem blen_le : ∀ (j n : Nat), n < 2 ^ j → blen n ≤ j
  | 0, n, h => by
    obtain rfl : n = 0 := by simpa using h
    rw [blen_zero]
    exact Nat.le_refl _
  | j + 1, n, h => by
    by_cases h0 : n = 0
    · rw [h0, blen_zero]; omega
    · rw [blen_pos h0]
      have := blen_le j (n / 2) (by rw [Nat.pow_succ] at h; omega)
      omega
theorem blen_ge : ∀ (j n : Nat), 2 ^ j ≤ n → j + 1 ≤ blen n
  | 0, n, h => by
    rw [blen_pos (by simp at h; omega)]
    omega
  | j + 1, n, h => by
    rw [Nat.pow_succ] at h
    have hp : 0 < 2 ^ j := Nat.two_pow_pos j
    rw [blen_pos (by omega)]
    have := blen_ge j (n / 2) (by omega)
    omega
theorem blen_shift : ∀ (j n : Nat), 2 ^ j ≤ n → blen n = blen (n / 2 ^ j) + j
  | 0, n, _ => by simp
  | j + 1, n, h => by
    rw [Nat.pow_succ] at h
    have hp : 0 < 2 ^ j := Nat.two_pow_pos j
    rw [blen_pos (by omega), blen_shift j (n / 2) (by omega), Nat.div_div_eq_div_mul, Nat.pow_succ, Nat.mul_comm 2]
    omega
theorem putU_blen (n : Nat) : (putU n).length = max 1 ((blen n + 6) / 7) := by
  induction n using Nat.strongRecOn with
  | _ n ih =>
    by_cases h : n < 128
    · rw [putU_small h, List.length_singleton]
      have := blen_le 7 n (by omega)
      omega
    · rw [putU_big h, List.length_cons, ih (n / 128) (by omega)]
      have h1 := blen_shift 7 n (by omega)
      have h2 : (2 : Nat) ^ 7 = 128 := rfl
      rw [h2] at h1
      have h3 := blen_ge 0 (n / 128) (by omega)
      omega

theorem ev_l0 (x0 x1 : Int) {r : Bool} : ∀ (n : Nat) (c : Nat), n < 18446744073709551616 → c + blen n ≤ 1000 →
    Ev (fun k => (codec_PutUint.f k x0).bind fun t320 => (if (t320.length : Int) = (mx 1 (wrap64 (Int.tdiv (wrap64 (((c + blen n : Nat) : Int) + 6)) 7))) then (windlasslaw2_CodecLengths.j1 k x1 t320 (decide ((t320.length : Int) > 10))) else (windlasslaw2_CodecLengths.j1 k x1 t320 true))) r →
    Ev (fun k => windlasslaw2_CodecLengths.l0 k x0 x1 (c : Int) (n : Int)) r := by
  intro n
  induction n using Nat.strongRecOn with
  | _ n ih =>
    intro c h64 hc hr
    refine Ev.step (fun k => rfl) ?_
    simp only [windlasslaw2_CodecLengths.l0]
    by_cases h0 : n = 0
    · subst h0
      rw [blen_zero] at hr
      simp only [if_neg (show ¬ (((0 : Nat) : Int) > 0) by omega)]
      exact hr
    · simp only [if_pos (show ((n : Int) > 0) by omega)]
      have hb := blen_pos h0
      have e1 : wrap64 ((c : Int) + 1) = ((c + 1 : Nat) : Int) := by rw [w64_id (by omega) (by omega)]; omega
      have e2 : IntKind.u64.wrap (Int.tdiv (n : Int) 2) = ((n / 2 : Nat) : Int) := by rw [Int.tdiv_eq_ediv_of_nonneg (by omega), u64_id (by omega) (by omega)]; omega
      rw [e1, e2]
      refine ih (n / 2) (by omega) (c + 1) (by omega) (by omega) ?_
      have e3 : c + 1 + blen (n / 2) = c + blen n := by omega
      rw [e3]
      exact hr

/-- A byte of a number has its highest bit just if another one follows. -/
theorem putU_bit : ∀ (n : Nat) (i : Nat), i < (putU n).length → (decide (rd (putU n) (i : Int) ≥ 128)) = decide (i + 1 < (putU n).length) := by
  intro n
  induction n using Nat.strongRecOn with
  | _ n ih =>
    intro i hi
    by_cases h : n < 128
    · rw [putU_small h] at hi ⊢
      obtain rfl : i = 0 := by simpa using hi
      have : rd [(n : Int)] ((0 : Nat) : Int) = n := rfl
      rw [this]
      simp
      omega
    · rw [putU_big h] at hi ⊢
      cases i with
      | zero =>
        have : rd (((n % 128 + 128 : Nat) : Int) :: putU (n / 128)) ((0 : Nat) : Int) = ((n % 128 + 128 : Nat) : Int) := rfl
        rw [this]
        have hl := (putU_blen (n / 128))
        simp only [List.length_cons]
        rw [decide_eq_true (by omega), decide_eq_true (by omega)]
      | succ i =>
        have hi' : i < (putU (n / 128)).length := by simpa using hi
        have := ih (n / 128) (by omega) i hi'
        have e : rd (((n % 128 + 128 : Nat) : Int) :: putU (n / 128)) ((i + 1 : Nat) : Int) = rd (putU (n / 128)) (i : Int) := by simp [rd]
        rw [e, this]
        simp
theorem ev_l1 (x1 : Int) (n : Nat) {r : Bool} (hn : n < 18446744073709551616) (hr : Ev (fun k => if x1 < 0 then (windlasslaw2_CodecLengths.j3 k (wrap64 (-(wrap64 (x1 + 1))))) else (windlasslaw2_CodecLengths.j3 k x1)) r) :
    ∀ (d i : Nat), i + d = (putU n).length → Ev (fun k => windlasslaw2_CodecLengths.l1 k x1 (putU n) (i : Int)) r := by
  intro d
  have hlen := putU_len hn
  induction d with
  | zero =>
    intro i hi
    refine Ev.step (fun k => rfl) ?_
    simp only [windlasslaw2_CodecLengths.l1]
    simp only [if_neg (show ¬ ((i : Int) < ((putU n).length : Int)) by omega)]
    exact hr
  | succ d ih =>
    intro i hi
    refine Ev.step (fun k => rfl) ?_
    simp only [windlasslaw2_CodecLengths.l1]
    have e1 : wrap64 ((i : Int) + 1) = ((i + 1 : Nat) : Int) := by rw [w64_id (by omega) (by omega)]; omega
    have e2 := putU_bit n i (by omega)
    have e3 : decide (((i + 1 : Nat) : Int) < ((putU n).length : Int)) = decide (i + 1 < (putU n).length) := by
      by_cases h : i + 1 < (putU n).length
      · rw [decide_eq_true h, decide_eq_true (by omega)]
      · rw [decide_eq_false h, decide_eq_false (by omega)]
    simp only [if_pos (show ((i : Int) < ((putU n).length : Int)) by omega), if_pos (show (0 : Int) ≤ (i : Int) by omega), e1, e2, e3, bne_self_eq_false, if_neg (show ¬ (false = true) by decide)]
    exact ih (i + 1) (by omega)
theorem ev_j3 {x : Int} (h0 : 0 ≤ x) (h1 : x ≤ 9223372036854775807) : Ev (fun k => windlasslaw2_CodecLengths.j3 k x) true := by
  refine Ev.step (fun k => rfl) ?_
  simp only [windlasslaw2_CodecLengths.j3]
  have e1 : wrap64 ((wrap64 (-x)) - 1) = -x - 1 := by rw [w64_id (n := -x) (by omega) (by omega), w64_id (by omega) (by omega)]
  have d1 := decU_put (zig_lt (a := x) (by omega) (by omega)) []
  have d2 := decU_put (zig_lt (a := -x - 1) (by omega) (by omega)) []
  rw [List.append_nil] at d1 d2
  rw [e1]
  refine Ev.bind (ev_codec_PutInt (by omega) (by omega)) ?_
  have u1 := ev_codec_Uint (l := putU (zig x)) (fun y hy => putU_bytes _ y hy)
  have u2 := ev_codec_Uint (l := putU (zig (-x - 1))) (fun y hy => putU_bytes _ y hy)
  rw [d1, resU_some] at u1
  rw [d2, resU_some] at u2
  refine Ev.bind u1 ?_
  refine Ev.bind (ev_codec_PutInt (by omega) (by omega)) ?_
  refine Ev.bind u2 ?_
  have z1 : (zig x : Int) = 2 * x := by unfold zig; rw [if_pos h0]; omega
  have z2 : (zig (-x - 1) : Int) = 2 * x + 1 := by unfold zig; rw [if_neg (by omega)]; omega
  simp only [if_true, z1, z2]
  have e2 : Int.tmod (2 * x) 2 = 0 := by rw [Int.tmod_eq_emod_of_nonneg (by omega)]; omega
  have e3 : IntKind.u64.wrap (2 * x + 1) = 2 * x + 1 := u64_id (by omega) (by omega)
  simp only [if_pos e2, e3, beq_self_eq_true]
  exact Ev.now _

theorem CodecLengths : windlasslaw2_CodecLengths.Pure := by
  intro a0 a1 w0 w1
  have b0 := bounds_u64 w0
  have b1 := bounds_i64 w1
  obtain ⟨n, rfl⟩ := Int.eq_ofNat_of_zero_le b0.1
  have hn : n < 18446744073709551616 := by omega
  refine Ev.rounds ?_
  unfold windlasslaw2_CodecLengths.f
  refine Ev.bind ev_known ?_
  simp only [if_true]
  have hb : blen n ≤ 64 := blen_le 64 n (by have : (2 : Nat) ^ 64 = 18446744073709551616 := by decide
                                            omega)
  refine ev_l0 (n : Int) a1 n 0 hn (by omega) ?_
  refine Ev.bind (ev_codec_PutUint hn) ?_
  have hl := putU_blen n
  have hl2 := putU_len hn
  have e1 : mx 1 (wrap64 (Int.tdiv (wrap64 (((0 + blen n : Nat) : Int) + 6)) 7)) = ((putU n).length : Int) := by
    rw [w64_id (n := ((0 + blen n : Nat) : Int) + 6) (by omega) (by omega), Int.tdiv_eq_ediv_of_nonneg (by omega), w64_id (by omega) (by omega), hl]
    unfold mx
    split <;> omega
  simp only [if_pos e1.symm]
  refine Ev.step (fun k => rfl) ?_
  simp only [windlasslaw2_CodecLengths.j1]
  simp only [decide_eq_false (show ¬ (((putU n).length : Int) > 10) by omega), if_neg (show ¬ (false = true) by decide)]
  refine ev_l1 a1 n hn ?_ (putU n).length 0 (by omega)
  by_cases h : a1 < 0
  · simp only [if_pos h]
    have e : wrap64 (-(wrap64 (a1 + 1))) = -(a1 + 1) := by rw [w64_id (n := a1 + 1) (by omega) (by omega), w64_id (by omega) (by omega)]
    rw [e]
    exact ev_j3 (by omega) (by omega)
  · simp only [if_neg h]
    exact ev_j3 (by omega) (by omega)
end Go.Proofs.Ythbnblmnamckmaa.Pure
