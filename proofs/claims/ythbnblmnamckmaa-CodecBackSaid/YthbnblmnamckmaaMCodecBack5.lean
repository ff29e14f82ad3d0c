-- Laid by a program of this seat (wip/merge.py): Qa, Qb, Qk, Qp, Qv, Qt, Qd, Qe, Qf, Qs, PureCodecBack.
import Derived.Test.YthbnblmnamckmaaMCodecBack0
import Derived.Laws.BitsLemmas
import Derived.PlainAid
import Derived.Test.YthbnblmnamckmaaMCodecBack1
import Derived.OpenShut
import Derived.Test.YthbnblmnamckmaaMCodecBack2
import Derived.Test.YthbnblmnamckmaaMCodecBack3
import Derived.Test.YthbnblmnamckmaaMCodecBack4
/-
  Plain facts on numbers as bytes: seven bits a byte, the lowest first (putU), and back (decU). No program stands here. Conditions: those named in each lemma.
-/
namespace Go.Proofs.Ythbnblmnamckmaa.Q
open Go.RowKit Go.Proofs.YthbnblmnamckmaaW.PrintWords Go.Proofs.YthbnblmnamckmaaW.PrintMore
set_option linter.unusedVariables false

theorem u64_mod (n : Int) : IntKind.u64.wrap n = n % 18446744073709551616 := IntKind.wrap_u64 n
theorem u64_id {n : Int} (h0 : 0 ≤ n) (h1 : n < 18446744073709551616) : IntKind.u64.wrap n = n := by rw [u64_mod]; omega
theorem w64_id {n : Int} (h0 : -9223372036854775808 ≤ n) (h1 : n ≤ 9223372036854775807) : wrap64 n = n := by unfold wrap64; omega

theorem nat_or128 : ∀ a : Fin 256, (a.val ||| 128) = a.val % 128 + 128 := by decide +kernel
theorem or128 {x : Int} (h0 : 0 ≤ x) (h1 : x < 256) : bits .or .u8 x 128 = x % 128 + 128 := by
  obtain ⟨a, rfl⟩ := Int.eq_ofNat_of_zero_le h0
  have h := (bits_nat .u8 8 (by decide) wraps_u8 a 128 (by omega) (by decide)).2
  have h2 := nat_or128 ⟨a, by omega⟩
  simp only at h2
  rw [h2] at h
  have h3 : ((128 : Nat) : Int) = 128 := rfl
  rw [h3] at h
  rw [h]
  omega

theorem bits_or_comm (k : IntKind) (x y : Int) : bits .or k x y = bits .or k y x := by
  simp only [bits]
  rw [BitVec.or_comm]
theorem wraps_u64 (n : Int) (h₀ : 0 ≤ n) (h₁ : n < 2 ^ 64) : IntKind.u64.wrap n = n := u64_id h₀ (by omega)

/-- A digit laid above what there is. -/
theorem or_digit {x d : Int} {i : Nat} (hi : i ≤ 9) (hx0 : 0 ≤ x) (hx : x < 128 ^ i) (hd0 : 0 ≤ d) (hd : d < 128) (h9 : i = 9 → d ≤ 1) {y : Int} (hy : y = 7 * (i : Int)) : bits .or .u64 x (shl .u64 d y) = x + d * 128 ^ i := by
  have hp : (128 : Int) ^ i = 2 ^ (7 * i) := by rw [Int.pow_mul]; rfl
  have hyn : min y.toNat IntKind.u64.bits = 7 * i := by
    have : IntKind.u64.bits = 64 := rfl
    omega
  have hpos : (0 : Int) < 128 ^ i := Int.pow_pos (by decide)
  have hb : d * 128 ^ i < 2 ^ 64 ∧ x < 2 ^ 64 := by
    by_cases h : i = 9
    · subst h
      have h1 := h9 rfl
      have e : (128 : Int) ^ 9 = 9223372036854775808 := by decide
      rw [e] at hx ⊢
      omega
    · have h8 : (128 : Int) ^ i ≤ 128 ^ 8 := by
        have := Nat.pow_le_pow_right (n := 128) (by decide) (show i ≤ 8 by omega)
        exact_mod_cast this
      have e : (128 : Int) ^ 8 = 72057594037927936 := by decide
      rw [e] at h8
      have : d * 128 ^ i ≤ 127 * 128 ^ i := Int.mul_le_mul_of_nonneg_right (by omega) (by omega)
      omega
  have hdp : 0 ≤ d * 128 ^ i := Int.mul_nonneg hd0 (by omega)
  have hs : shl .u64 d y = d * 128 ^ i := by
    unfold shl
    rw [hyn, ← hp]
    exact u64_id hdp (by omega)
  rw [hs, bits_or_comm, bits_join .u64 64 (by decide) wraps_u64 (7 * i) (d * 128 ^ i) x hdp (by rw [hp]; exact Int.mul_emod_left _ _) hb.1 hx0 (by rw [← hp]; exact hx) hb.2]
  omega

/-! ### the bytes of a number -/
def putU (n : Nat) : List Int := if h : n < 128 then [(n : Int)] else ((n % 128 + 128 : Nat) : Int) :: putU (n / 128)
termination_by n
decreasing_by omega
theorem putU_small {n : Nat} (h : n < 128) : putU n = [(n : Int)] := by rw [putU, dif_pos h]
theorem putU_big {n : Nat} (h : ¬ n < 128) : putU n = ((n % 128 + 128 : Nat) : Int) :: putU (n / 128) := by rw [putU, dif_neg h]
theorem putU_length (j : Nat) : ∀ n, n < 128 ^ (j + 1) → 1 ≤ (putU n).length ∧ (putU n).length ≤ j + 1 := by
  induction j with
  | zero => intro n hn; rw [putU_small (by simpa using hn)]; simp
  | succ j ih =>
    intro n hn
    by_cases h : n < 128
    · rw [putU_small h]; simp
    · rw [putU_big h]
      have := ih (n / 128) (Nat.div_lt_of_lt_mul (by rw [Nat.mul_comm, ← Nat.pow_succ]; exact hn))
      simp
      omega
theorem putU_len {n : Nat} (h : n < 18446744073709551616) : 1 ≤ (putU n).length ∧ (putU n).length ≤ 10 := by
  have := putU_length 9 n (by
    have : (128 : Nat) ^ 10 = 1180591620717411303424 := by decide
    rw [this]; omega)
  exact this
theorem putU_bytes : ∀ n, ∀ x ∈ putU n, 0 ≤ x ∧ x ≤ 255 := by
  intro n
  induction n using Nat.strongRecOn with
  | _ n ih =>
    intro x hx
    by_cases h : n < 128
    · rw [putU_small h, List.mem_singleton] at hx
      subst hx
      omega
    · rw [putU_big h, List.mem_cons] at hx
      rcases hx with rfl | hx
      · omega
      · exact ih (n / 128) (by omega) x hx

/-! ### and back -/
/-- What stands at a row's beginning, as digits from the i-th on: the number, and how many bytes it has. -/
def decU : Nat → List Int → Option (Int × Nat)
  | _, [] => none
  | i, c :: t => if i = 10 ∨ (i = 9 ∧ c % 128 > 1) ∨ (0 < i ∧ c = 0) then none else if c < 128 then some (c, 1) else (decU (i + 1) t).map fun r => (c % 128 + 128 * r.1, r.2 + 1)

theorem decU_ten (l : List Int) : decU 10 l = none := by
  cases l with
  | nil => rfl
  | cons c t => simp [decU]
theorem decU_nine {c : Int} {t : List Int} (h : c > 1) (h1 : c ≤ 255) : decU 9 (c :: t) = none := by
  unfold decU
  by_cases hs : c < 128
  · rw [if_pos (.inr (.inl ⟨rfl, by omega⟩))]
  · rw [if_neg hs, decU_ten]
    simp

theorem decU_bound : ∀ (j i : Nat) (l : List Int) (n : Int) (len : Nat), i + j = 9 → (∀ x ∈ l, 0 ≤ x ∧ x ≤ 255) → decU i l = some (n, len) → 0 ≤ n ∧ n < 2 * 128 ^ j ∧ 1 ≤ len ∧ len ≤ j + 1 ∧ len ≤ l.length := by
  intro j
  induction j with
  | zero =>
    intro i l n len hi hb h
    cases l with
    | nil => simp [decU] at h
    | cons c t =>
      have hc := hb c (List.mem_cons_self ..)
      simp only [decU] at h
      split at h
      · simp at h
      · rename_i hn
        split at h
        · simp only [Option.some.injEq, Prod.mk.injEq] at h
          obtain ⟨rfl, rfl⟩ := h
          have h9 : ¬ (c % 128 > 1) := fun h => hn (.inr (.inl ⟨by omega, h⟩))
          have h10 : c < 2 := by omega
          exact ⟨hc.1, by simpa using h10, by omega, by omega, by simp⟩
        · obtain rfl : i = 9 := by omega
          rw [decU_ten] at h
          simp at h
  | succ j ih =>
    intro i l n len hi hb h
    cases l with
    | nil => simp [decU] at h
    | cons c t =>
      have hc := hb c (List.mem_cons_self ..)
      have hp : (0 : Int) < 128 ^ j := Int.pow_pos (by decide)
      simp only [decU] at h
      split at h
      · simp at h
      · rename_i hn
        split at h
        · simp only [Option.some.injEq, Prod.mk.injEq] at h
          obtain ⟨rfl, rfl⟩ := h
          refine ⟨hc.1, ?_, by omega, by omega, by simp⟩
          rw [Int.pow_succ]
          omega
        · obtain ⟨r, hr, hq⟩ := Option.map_eq_some_iff.1 h
          simp only [Prod.mk.injEq] at hq
          obtain ⟨rfl, rfl⟩ := hq
          have := ih (i + 1) t r.1 r.2 (by omega) (fun x hx => hb x (List.mem_cons_of_mem _ hx)) hr
          refine ⟨by omega, ?_, by omega, by omega, by simp; omega⟩
          rw [Int.pow_succ]
          omega
theorem decU_top {l : List Int} {n : Int} {len : Nat} (hb : ∀ x ∈ l, 0 ≤ x ∧ x ≤ 255) (h : decU 0 l = some (n, len)) : 0 ≤ n ∧ n < 18446744073709551616 ∧ 1 ≤ len ∧ len ≤ 10 ∧ len ≤ l.length := by
  have := decU_bound 9 0 l n len rfl hb h
  have e : (128 : Int) ^ 9 = 9223372036854775808 := by decide
  rw [e] at this
  omega

/-- A number's bytes are read as it, whatever stands behind. -/
theorem decU_putU : ∀ (j i n : Nat) (more : List Int), i + j = 9 → n < 2 * 128 ^ j → (0 < i → 0 < n) → decU i (putU n ++ more) = some ((n : Int), (putU n).length) := by
  intro j
  induction j with
  | zero =>
    intro i n more hi hn h0
    have hs : n < 128 := by simp at hn; omega
    rw [putU_small hs]
    simp only [List.cons_append, List.nil_append, decU, List.length_singleton]
    rw [if_neg (by simp at hn; omega), if_pos (by omega)]
  | succ j ih =>
    intro i n more hi hn h0
    by_cases hs : n < 128
    · rw [putU_small hs]
      simp only [List.cons_append, List.nil_append, decU, List.length_singleton]
      rw [if_neg (by omega), if_pos (by omega)]
    · rw [putU_big hs]
      simp only [List.cons_append, decU, List.length_cons]
      rw [if_neg (by omega), if_neg (by omega), ih (i + 1) (n / 128) more (by omega) (Nat.div_lt_of_lt_mul (by rw [Nat.pow_succ] at hn; omega)) (fun _ => by omega)]
      simp only [Option.map_some, Option.some.injEq, Prod.mk.injEq, and_true]
      omega
theorem decU_put {n : Nat} (h : n < 18446744073709551616) (more : List Int) : decU 0 (putU n ++ more) = some ((n : Int), (putU n).length) := by
  refine decU_putU 9 0 n more rfl ?_ (fun h => absurd h (by omega))
  have e : (128 : Nat) ^ 9 = 9223372036854775808 := by decide
  rw [e]; omega

/-- What is read has these bytes, and no others. -/
theorem putU_decU : ∀ (j i : Nat) (l : List Int) (n : Int) (len : Nat), i + j = 9 → (∀ x ∈ l, 0 ≤ x ∧ x ≤ 255) → decU i l = some (n, len) → putU n.toNat = l.take len ∧ (0 < i → 0 < n) := by
  intro j
  induction j with
  | zero =>
    intro i l n len hi hb h
    cases l with
    | nil => simp [decU] at h
    | cons c t =>
      have hc := hb c (List.mem_cons_self ..)
      simp only [decU] at h
      split at h
      · simp at h
      · rename_i hn
        split at h
        · simp only [Option.some.injEq, Prod.mk.injEq] at h
          obtain ⟨rfl, rfl⟩ := h
          rw [putU_small (by omega)]
          refine ⟨?_, by omega⟩
          simp only [List.take_succ_cons, List.take_zero, List.cons.injEq, and_true]
          omega
        · obtain rfl : i = 9 := by omega
          rw [decU_ten] at h
          simp at h
  | succ j ih =>
    intro i l n len hi hb h
    cases l with
    | nil => simp [decU] at h
    | cons c t =>
      have hc := hb c (List.mem_cons_self ..)
      simp only [decU] at h
      split at h
      · simp at h
      · rename_i hn
        split at h
        · simp only [Option.some.injEq, Prod.mk.injEq] at h
          obtain ⟨rfl, rfl⟩ := h
          rw [putU_small (by omega)]
          refine ⟨?_, by omega⟩
          simp only [List.take_succ_cons, List.take_zero, List.cons.injEq, and_true]
          omega
        · obtain ⟨r, hr, hq⟩ := Option.map_eq_some_iff.1 h
          simp only [Prod.mk.injEq] at hq
          obtain ⟨rfl, rfl⟩ := hq
          have hbt := fun x hx => hb x (List.mem_cons_of_mem _ hx)
          have h1 := ih (i + 1) t r.1 r.2 (by omega) hbt hr
          have h2 := decU_bound j (i + 1) t r.1 r.2 (by omega) hbt hr
          have h3 := h1.2 (by omega)
          rw [putU_big (by omega), List.take_succ_cons, ← h1.1]
          refine ⟨?_, by omega⟩
          have e1 : (c % 128 + 128 * r.1).toNat / 128 = r.1.toNat := by omega
          have e2 : (((c % 128 + 128 * r.1).toNat % 128 + 128 : Nat) : Int) = c := by omega
          rw [e1, e2]
theorem put_dec {l : List Int} {n : Int} {len : Nat} (hb : ∀ x ∈ l, 0 ≤ x ∧ x ≤ 255) (h : decU 0 l = some (n, len)) : putU n.toNat = l.take len := (putU_decU 9 0 l n len rfl hb h).1

/-! ### integers -/
/-- 0, -1, 1, -2, .. as 0, 1, 2, 3, .. -/
def zig (a : Int) : Nat := if 0 ≤ a then (2 * a).toNat else (-2 * a - 1).toNat
def zag (n : Int) : Int := if n % 2 = 0 then n / 2 else -(n / 2) - 1
theorem zig_lt {a : Int} (h0 : -9223372036854775808 ≤ a) (h1 : a ≤ 9223372036854775807) : zig a < 18446744073709551616 := by unfold zig; split <;> omega
theorem zag_zig (a : Int) : zag (zig a) = a := by
  unfold zag zig
  split
  · rw [if_pos (by omega)]; omega
  · rw [if_neg (by omega)]; omega
theorem zig_zag {n : Int} (h : 0 ≤ n) : (zig (zag n) : Int) = n := by
  unfold zag
  split
  · unfold zig; rw [if_pos (by omega)]; omega
  · unfold zig; rw [if_neg (by omega)]; omega
theorem zag_range {n : Int} (h : 0 ≤ n) (h1 : n < 18446744073709551616) : -9223372036854775808 ≤ zag n ∧ zag n ≤ 9223372036854775807 := by
  unfold zag; split <;> omega

theorem bits_xor (k : IntKind) (x y : Int) : bits .xor k x y = k.wrap ((((x % ((2 ^ k.bits : Nat) : Int)).toNat ^^^ (y % ((2 ^ k.bits : Nat) : Int)).toNat : Nat)) : Int) := by
  simp only [bits, BitVec.toNat_xor, BitVec.toNat_ofInt]
theorem nat_xor_ones (a : Nat) (h : a < 18446744073709551616) : a ^^^ 18446744073709551615 = 18446744073709551615 - a := by
  have h3 : (BitVec.ofNat 64 a ^^^ BitVec.allOnes 64) = ~~~ BitVec.ofNat 64 a := BitVec.xor_allOnes
  have h4 := congrArg BitVec.toNat h3
  rw [BitVec.toNat_xor, BitVec.toNat_not, BitVec.toNat_allOnes, BitVec.toNat_ofNat, Nat.mod_eq_of_lt (by omega)] at h4
  simpa using h4
theorem xor_zero (x : Int) (h0 : 0 ≤ x) (h1 : x < 18446744073709551616) : bits .xor .u64 x 0 = x := by
  rw [bits_xor]
  have e : ((2 ^ IntKind.u64.bits : Nat) : Int) = 18446744073709551616 := rfl
  rw [e, Int.emod_eq_of_lt h0 h1]
  simp only [Int.zero_emod, Int.toNat_zero, Nat.xor_zero]
  rw [Int.toNat_of_nonneg h0]
  exact u64_id h0 h1
theorem xor_ones (x : Int) (h0 : 0 ≤ x) (h1 : x < 18446744073709551616) : bits .xor .u64 x 18446744073709551615 = 18446744073709551615 - x := by
  rw [bits_xor]
  have e : ((2 ^ IntKind.u64.bits : Nat) : Int) = 18446744073709551616 := rfl
  have e2 : ((18446744073709551615 : Int) % 18446744073709551616).toNat = 18446744073709551615 := by decide
  rw [e, Int.emod_eq_of_lt h0 h1, e2, nat_xor_ones _ (by omega), u64_id (by omega) (by omega)]
  omega
/-- The code's way to zig. -/
theorem zig_code {a : Int} (h0 : -9223372036854775808 ≤ a) (h1 : a ≤ 9223372036854775807) :
    bits .xor .u64 (IntKind.u64.wrap (IntKind.u64.wrap a * 2)) (IntKind.u64.wrap (a / 9223372036854775808)) = (zig a : Int) := by
  by_cases h : 0 ≤ a
  · have e : a / 9223372036854775808 = 0 := by omega
    rw [e, u64_id h (by omega), u64_id (n := a * 2) (by omega) (by omega), u64_id (n := 0) (by decide) (by decide), xor_zero _ (by omega) (by omega)]
    unfold zig
    rw [if_pos h]
    omega
  · have e : a / 9223372036854775808 = -1 := by omega
    have e1 : IntKind.u64.wrap (-1) = 18446744073709551615 := by rw [u64_mod]; rfl
    have e2 : IntKind.u64.wrap a = a + 18446744073709551616 := by rw [u64_mod]; omega
    have e3 : IntKind.u64.wrap ((a + 18446744073709551616) * 2) = 2 * a + 18446744073709551616 := by rw [u64_mod]; omega
    rw [e, e1, e2, e3, xor_ones _ (by omega) (by omega)]
    unfold zig
    rw [if_neg h]
    omega
theorem and_one (n : Int) (h0 : 0 ≤ n) (h1 : n < 18446744073709551616) : bits .and .u64 n 1 = n % 2 := by
  have := bits_mask .u64 64 (by decide) wraps_u64 1 (by decide) n h0 (by omega)
  simpa using this
theorem ixor_zero (x : Int) (h0 : 0 ≤ x) (h1 : x ≤ 9223372036854775807) : bits .xor .i64 x 0 = x := by
  rw [bits_xor]
  have e : ((2 ^ IntKind.i64.bits : Nat) : Int) = 18446744073709551616 := rfl
  rw [e, Int.emod_eq_of_lt h0 (by omega)]
  simp only [Int.zero_emod, Int.toNat_zero, Nat.xor_zero]
  rw [Int.toNat_of_nonneg h0, IntKind.wrap_i64]
  omega
theorem ixor_ones (x : Int) (h0 : 0 ≤ x) (h1 : x ≤ 9223372036854775807) : bits .xor .i64 x (-1) = -x - 1 := by
  rw [bits_xor]
  have e : ((2 ^ IntKind.i64.bits : Nat) : Int) = 18446744073709551616 := rfl
  have e2 : ((-1 : Int) % 18446744073709551616).toNat = 18446744073709551615 := by decide
  rw [e, Int.emod_eq_of_lt h0 (by omega), e2, nat_xor_ones _ (by omega), IntKind.wrap_i64]
  omega
/-- The code's way to zag. -/
theorem zag_code {n : Int} (h0 : 0 ≤ n) (h1 : n < 18446744073709551616) : bits .xor .i64 (wrap64 (n / 2)) (wrap64 (-(wrap64 (bits .and .u64 n 1)))) = zag n := by
  rw [and_one n h0 h1, w64_id (n := n / 2) (by omega) (by omega), w64_id (n := n % 2) (by omega) (by omega), w64_id (n := -(n % 2)) (by omega) (by omega)]
  unfold zag
  by_cases h : n % 2 = 0
  · rw [if_pos h, h]
    exact ixor_zero _ (by omega) (by omega)
  · have e : n % 2 = 1 := by omega
    rw [if_neg h, e, ixor_ones _ (by omega) (by omega)]
end Go.Proofs.Ythbnblmnamckmaa.Q
/-
  What the code's and the reference's PutUint, Uint, PutInt, Int compute: the bytes of a number, and back. Conditions: the numbers are of their kinds, the bytes are bytes.
-/
namespace Go.Proofs.Ythbnblmnamckmaa.Q
open Go.RowKit Go.Proofs.Ythbnblmnamckmaa.PAll Go.Proofs.YthbnblmnamckmaaW.PrintWords Go.Proofs.YthbnblmnamckmaaW.PrintLast Go.Proofs.YthbnblmnamckmaaW.PrintMore
set_option linter.unusedVariables false
set_option linter.unusedSimpArgs false

theorem ev_codec_PutUint_l0 (j : Nat) : ∀ (n : Nat) (acc : List Int), n < 128 ^ (j + 1) → acc.length + j < 140737488355328 → Ev (fun k => codec_PutUint.l0 k (n : Int) acc) (acc ++ putU n) := by
  induction j with
  | zero =>
    intro n acc hn ha
    have hs : n < 128 := by simpa using hn
    refine Ev.step (fun k => rfl) ?_
    simp only [codec_PutUint.l0]
    simp only [if_neg (show ¬ ((n : Int) ≥ 128) by omega), if_pos (show acc.length < 140737488355328 by omega)]
    have e : (n : Int) % 256 = n := by omega
    rw [e, putU_small hs]
    exact Ev.now _
  | succ j ih =>
    intro n acc hn ha
    by_cases hs : n < 128
    · refine Ev.step (fun k => rfl) ?_
      simp only [codec_PutUint.l0]
      simp only [if_neg (show ¬ ((n : Int) ≥ 128) by omega), if_pos (show acc.length < 140737488355328 by omega)]
      have e : (n : Int) % 256 = n := by omega
      rw [e, putU_small hs]
      exact Ev.now _
    · refine Ev.step (fun k => rfl) ?_
      simp only [codec_PutUint.l0]
      simp only [if_pos (show ((n : Int) ≥ 128) by omega), if_pos (show acc.length < 140737488355328 by omega)]
      have e : bits .or .u8 ((n : Int) % 256) 128 = ((n % 128 + 128 : Nat) : Int) := by rw [or128 (by omega) (by omega)]; omega
      have e2 : (n : Int) / 128 = ((n / 128 : Nat) : Int) := by omega
      rw [e, e2, putU_big hs]
      have := ih (n / 128) (acc ++ [((n % 128 + 128 : Nat) : Int)]) (Nat.div_lt_of_lt_mul (by rw [Nat.mul_comm, ← Nat.pow_succ]; exact hn)) (by simp; omega)
      rw [List.append_assoc] at this
      exact this
theorem pow10 : (128 : Nat) ^ (9 + 1) = 1180591620717411303424 := by decide
theorem ev_codec_PutUint {n : Nat} (h : n < 18446744073709551616) : Ev (fun k => codec_PutUint.f k (n : Int)) (putU n) :=
  ev_codec_PutUint_l0 9 n [] (by rw [pow10]; omega) (by simp)
theorem ev_codec_PutUint' {a : Int} (h0 : 0 ≤ a) (h : a < 18446744073709551616) : Ev (fun k => codec_PutUint.f k a) (putU a.toNat) := by
  have := ev_codec_PutUint (n := a.toNat) (by omega)
  rwa [Int.toNat_of_nonneg h0] at this

theorem ev_codec_PutInt {a : Int} (h0 : -9223372036854775808 ≤ a) (h1 : a ≤ 9223372036854775807) : Ev (fun k => codec_PutInt.f k a) (putU (zig a)) := by
  unfold codec_PutInt.f
  rw [zig_code h0 h1]
  exact Ev.bind (ev_codec_PutUint (zig_lt h0 h1)) (Ev.now _)
/-! ### reading -/
def Bytes (l : List Int) : Prop := ∀ x ∈ l, 0 ≤ x ∧ x ≤ 255
theorem Bytes.drop {l : List Int} (h : Bytes l) (n : Nat) : Bytes (l.drop n) := fun x hx => h x (List.mem_of_mem_drop hx)
theorem rd_drop {l : List Int} {i : Nat} (h : i < l.length) : l.drop i = rd l (i : Int) :: l.drop (i + 1) := by
  rw [List.drop_eq_getElem_cons h]
  congr 1
  simp [rd, List.getD_eq_getElem?_getD, h]
theorem rd_byte {l : List Int} (hb : Bytes l) {i : Nat} (h : i < l.length) : 0 ≤ rd l (i : Int) ∧ rd l (i : Int) ≤ 255 := by
  have e : rd l (i : Int) = l[i] := by simp [rd, List.getD_eq_getElem?_getD, h]
  rw [e]
  exact hb _ (List.getElem_mem h)
def resU (acc : Int) (i : Nat) : Option (Int × Nat) → Int × Int × Int
  | none => (0, 0, 20)
  | some r => (acc + r.1 * 128 ^ i, ((i + r.2 : Nat) : Int), 0)
theorem resU_step (acc d : Int) (i : Nat) (r : Option (Int × Nat)) : resU (acc + d * 128 ^ i) (i + 1) r = resU acc i (r.map fun r => (d + 128 * r.1, r.2 + 1)) := by
  cases r with
  | none => rfl
  | some r =>
    simp only [resU, Option.map_some, Prod.mk.injEq, and_true]
    constructor
    · rw [Int.pow_succ, Int.add_mul]
      have : r.1 * (128 ^ i * 128) = 128 * r.1 * 128 ^ i := by rw [Int.mul_comm (128 ^ i) 128, ← Int.mul_assoc, Int.mul_comm r.1 128]
      rw [this]
      omega
    · omega
theorem acc_next {acc d : Int} {i : Nat} (h0 : 0 ≤ acc) (h1 : acc < 128 ^ i) (d0 : 0 ≤ d) (d1 : d < 128) : 0 ≤ acc + d * 128 ^ i ∧ acc + d * 128 ^ i < 128 ^ (i + 1) := by
  have hp : (0 : Int) < 128 ^ i := Int.pow_pos (by decide)
  have h2 : d * 128 ^ i ≤ 127 * 128 ^ i := Int.mul_le_mul_of_nonneg_right (by omega) (by omega)
  have h3 : 0 ≤ d * 128 ^ i := Int.mul_nonneg d0 (by omega)
  rw [Int.pow_succ]
  omega

theorem ev_codec_Uint_l0 (l : List Int) (hb : Bytes l) (d : Nat) : ∀ (i : Nat) (acc : Int), i + d = 10 → i ≤ l.length → 0 ≤ acc → acc < 128 ^ i → Ev (fun k => codec_Uint.l0 k l acc (i : Int)) (resU acc i (decU i (l.drop i))) := by
  induction d with
  | zero =>
    intro i acc hi hl h0 h1
    obtain rfl : i = 10 := by omega
    refine Ev.step (fun k => rfl) ?_
    simp only [codec_Uint.l0]
    simp only [if_neg (show ¬ (((10 : Nat) : Int) < 10) by omega)]
    rw [decU_ten]
    exact Ev.now _
  | succ d ih =>
    intro i acc hi hl h0 h1
    refine Ev.step (fun k => rfl) ?_
    simp only [codec_Uint.l0]
    simp only [if_pos (show ((i : Int) < 10) by omega)]
    by_cases he : i = l.length
    · simp only [if_pos (show ((i : Int) ≥ (l.length : Int)) by omega)]
      rw [List.drop_eq_nil_of_le (by omega)]
      exact Ev.now _
    · have hlt : i < l.length := by omega
      have hc := rd_byte hb hlt
      simp only [if_neg (show ¬ ((i : Int) ≥ (l.length : Int)) by omega), if_pos (show (0 : Int) ≤ (i : Int) by omega), if_pos (show ((i : Int) < (l.length : Int)) by omega)]
      rw [rd_drop hlt]
      generalize hcc : rd l (i : Int) = c at hc
      have e7 : wrap64 (7 * (i : Int)) = 7 * (i : Int) := w64_id (by omega) (by omega)
      have ei : wrap64 ((i : Int) + 1) = ((i + 1 : Nat) : Int) := by rw [w64_id (by omega) (by omega)]; omega
      have main : (i = 9 → c ≤ 1) → Ev (fun k => codec_Uint.j1 k l acc (i : Int) c (i : Int) false) (resU acc i (decU i (c :: l.drop (i + 1)))) := by
        intro h9
        refine Ev.step (fun k => rfl) ?_
        simp only [codec_Uint.j1]
        simp only [if_neg (show ¬ (false = true) by decide), e7, ei, if_pos (show (0 : Int) ≤ 7 * (i : Int) by omega)]
        by_cases hbig : c ≥ 128
        · simp only [if_pos hbig]
          have hi9 : i ≠ 9 := fun h => by have := h9 h; omega
          have e1 : (c - 128) % 256 = c - 128 := by omega
          rw [e1, or_digit (by omega) h0 h1 (by omega) (by omega) (fun h => absurd h hi9) rfl]
          have hn := acc_next h0 h1 (d := c - 128) (by omega) (by omega)
          have := ih (i + 1) (acc + (c - 128) * 128 ^ i) (by omega) (by omega) hn.1 hn.2
          rw [resU_step] at this
          simp only [decU]
          rw [if_neg (by omega), if_neg (by omega)]
          have e2 : c % 128 = c - 128 := by omega
          rw [e2]
          exact this
        · simp only [if_neg hbig]
          by_cases hz : c = 0
          · simp only [if_pos hz]
            by_cases hp : i = 0
            · simp only [if_neg (show ¬ ((i : Int) > 0) by omega)]
              simp only [decU]
              rw [if_neg (by omega), if_pos (by omega), u64_id (by omega) (by omega), or_digit (by omega) h0 h1 (by omega) (by omega) (by omega) rfl]
              have e3 : ((i + 1 : Nat) : Int) = ((i + 1 : Nat) : Int) := rfl
              exact Ev.now _
            · simp only [if_pos (show ((i : Int) > 0) by omega)]
              simp only [decU]
              rw [if_pos (by omega)]
              exact Ev.now _
          · simp only [if_neg hz]
            simp only [decU]
            rw [if_neg (by omega), if_pos (by omega), u64_id (by omega) (by omega), or_digit (by omega) h0 h1 (by omega) (by omega) (by omega) rfl]
            exact Ev.now _
      by_cases h9 : i = 9
      · simp only [if_pos (show ((i : Int) = 9) by omega)]
        by_cases hgt : c > 1
        · refine Ev.step (fun k => rfl) ?_
          simp only [codec_Uint.j1]
          simp only [decide_eq_true hgt, if_true]
          subst h9
          rw [decU_nine hgt hc.2]
          exact Ev.now _
        · simp only [decide_eq_false hgt]
          exact main (fun _ => by omega)
      · simp only [if_neg (show ¬ ((i : Int) = 9) by omega)]
        exact main (fun h => absurd h h9)
theorem ev_codec_Uint {l : List Int} (hb : Bytes l) : Ev (fun k => codec_Uint.f k l) (resU 0 0 (decU 0 l)) := ev_codec_Uint_l0 l hb 10 0 0 rfl (Nat.zero_le _) (by decide) (by decide)

def resI : Option (Int × Nat) → Int × Int × Int
  | none => (0, 0, 20)
  | some r => (zag r.1, (r.2 : Int), 0)
theorem resU_none : resU 0 0 none = (0, 0, 20) := rfl
theorem resU_some (n : Int) (len : Nat) : resU 0 0 (some (n, len)) = (n, (len : Int), 0) := by simp [resU]
theorem ev_codec_Int {l : List Int} (hb : Bytes l) : Ev (fun k => codec_Int.f k l) (resI (decU 0 l)) := by
  unfold codec_Int.f
  refine Ev.bind (ev_codec_Uint hb) ?_
  cases h : decU 0 l with
  | none =>
    have : bits .xor .i64 (wrap64 (0 / 2)) (wrap64 (-(wrap64 (bits .and .u64 0 1)))) = zag 0 := zag_code (n := 0) (by decide) (by decide)
    simp only [resU_none, this]
    exact Ev.now _
  | some r =>
    obtain ⟨n, len⟩ := r
    have hbd := decU_top hb h
    simp only [resU_some, zag_code hbd.1 hbd.2.1]
    exact Ev.now _
end Go.Proofs.Ythbnblmnamckmaa.Q
/-
  The laws' own first look (known) answers true. Conditions: none.
-/
namespace Go.Proofs.Ythbnblmnamckmaa.Q
open Go.RowKit Go.Proofs.Ythbnblmnamckmaa.PAll Go.Proofs.YthbnblmnamckmaaW.PrintWords Go.Proofs.YthbnblmnamckmaaW.PrintLast Go.Proofs.YthbnblmnamckmaaW.PrintMore
theorem ev_known : Ev (fun k => windlasslaw2_known.f k) true := Ev.of (fun k => windlasslaw2_known.mono k) (k := 12) (by decide +kernel)
end Go.Proofs.Ythbnblmnamckmaa.Q
/-
  Plain facts on values as bytes: which may stand, and which bytes they have. No program stands here. Conditions: those named in each lemma.
-/
namespace Go.Proofs.Ythbnblmnamckmaa.Q
open Go.RowKit Go.Proofs.Ythbnblmnamckmaa.PAll Go.Proofs.YthbnblmnamckmaaW.PrintWords Go.Proofs.YthbnblmnamckmaaW.PrintLast Go.Proofs.YthbnblmnamckmaaW.PrintMore
set_option linter.unusedVariables false
set_option linter.unusedSimpArgs false

theorem ev_val {α : Type} {g : Nat → Option α} {r r' : α} (h : Ev g r) (e : r = r') : Ev g r' := e ▸ h
theorem text_no {s : ByteArray} (h : ¬ s.toList = []) : (s.toList == []) = false := beq_eq_false_iff_ne.2 h
theorem ev_eq {α : Type} {r r' : α} (h : r = r') : Ev (fun _ => some r) r' := h ▸ Ev.now r

def bareB (v : S24) : Bool := decide (v.f3 = 0) && decide (v.f4.length = 0)
def leafOf (b : Bool) (v : S24) : Bool :=
  if v.f0 = 1 then b && (v.f2.toList == []) else if v.f0 = 2 then b && decide (v.f1 = 0) && decide (v.f2.size ≤ 64) else if v.f0 = 3 then b && (v.f2.toList == []) && (decide (v.f1 = 0) || decide (v.f1 = 1)) else false
def leafB (v : S24) : Bool := leafOf (bareB v) v
def fieldB (v : S24) : Bool := decide (v.f0 ≠ 4) && leafB v
def plainB (v : S24) : Bool :=
  if v.f0 = 4 then decide (v.f1 = 0) && (v.f2.toList == []) && decide (0 ≤ v.f3) && decide (v.f3 ≤ 15) && decide (v.f4.length ≤ 12) && v.f4.all fieldB else leafB v

theorem rdT_drop {l : List S24} {i : Nat} (h : i < l.length) : l.drop i = rd_T24 l (i : Int) :: l.drop (i + 1) := by
  rw [List.drop_eq_getElem_cons h]
  congr 1
  simp [rd_T24, List.getD_eq_getElem?_getD, h]
theorem rdT_mem {l : List S24} {i : Nat} (h : i < l.length) : rd_T24 l (i : Int) ∈ l := by
  have e : rd_T24 l (i : Int) = l[i] := by simp [rd_T24, List.getD_eq_getElem?_getD, h]
  rw [e]
  exact List.getElem_mem h

theorem bare_eq (v : S24) (h : v.f3 = 0) : ((v.f4.length : Int) == 0) = bareB v := by
  unfold bareB
  by_cases hl : v.f4.length = 0 <;> simp [h, hl]
theorem bare_no (v : S24) (h : ¬ v.f3 = 0) : false = bareB v := by
  unfold bareB
  simp [h]
/-! ### the reference's -/
/-! ### writing -/
def encL (v : S24) : List Int :=
  [v.f0 % 256] ++ if v.f0 = 1 then putU (zig v.f1) else if v.f0 = 2 then putU v.f2.size ++ bytesOf v.f2 else [v.f1 % 256]
def encV (v : S24) : List Int :=
  if v.f0 = 4 then [v.f0 % 256] ++ putU v.f3.toNat ++ putU v.f4.length ++ v.f4.flatMap encL else encL v
def pv (v : S24) : List Int × Int := if plainB v = true then (encV v, 0) else ([], 20)

theorem leaf_kind {v : S24} (h : leafB v = true) : v.f0 = 1 ∨ (v.f0 = 2 ∧ v.f2.size ≤ 64) ∨ v.f0 = 3 := by
  unfold leafB leafOf at h
  split at h
  · exact .inl ‹_›
  · split at h
    · simp at h; exact .inr (.inl ⟨‹_›, h.2⟩)
    · split at h
      · exact .inr (.inr ‹_›)
      · simp at h
theorem encL_len {v : S24} (h : leafB v = true) (hf : -9223372036854775808 ≤ v.f1 ∧ v.f1 ≤ 9223372036854775807) : (encL v).length ≤ 80 := by
  have h1 := putU_len (zig_lt hf.1 hf.2)
  have h2 := leaf_kind h
  have h3 : v.f2.size ≤ 64 → (putU v.f2.size).length ≤ 10 := fun h => (putU_len (by omega)).2
  unfold encL
  split
  · simp; omega
  · split
    · simp [bytesOf_length]; omega
    · simp
theorem plain_rec {v : S24} (h : plainB v = true) (h4 : v.f0 = 4) : 0 ≤ v.f3 ∧ v.f3 ≤ 15 ∧ v.f4.length ≤ 12 ∧ v.f4.all fieldB = true := by
  unfold plainB at h
  rw [if_pos h4] at h
  simp only [Bool.and_eq_true, decide_eq_true_eq] at h
  exact ⟨h.1.1.1.2, h.1.1.2, h.1.2, h.2⟩
theorem flat_len {l : List S24} (hp : l.all fieldB = true) (hw : ∀ v ∈ l, -9223372036854775808 ≤ v.f1 ∧ v.f1 ≤ 9223372036854775807) : (l.flatMap encL).length ≤ 80 * l.length := by
  induction l with
  | nil => simp
  | cons v t ih =>
    rw [List.all_cons, Bool.and_eq_true] at hp
    have := ih hp.2 (fun x hx => hw x (List.mem_cons_of_mem _ hx))
    have hb : leafB v = true := by have := hp.1; simp [fieldB] at this; exact this.2
    have := encL_len hb (hw v (List.mem_cons_self ..))
    rw [List.flatMap_cons, List.length_append, List.length_cons]
    omega
/-- What a value that comes in is, as far as writing it asks. -/
def In (v : S24) : Prop := (-9223372036854775808 ≤ v.f1 ∧ v.f1 ≤ 9223372036854775807) ∧ v.f4.length ≤ 9223372036854775807 ∧ ∀ x ∈ v.f4, (-9223372036854775808 ≤ x.f1 ∧ x.f1 ≤ 9223372036854775807) ∧ x.f4.length ≤ 9223372036854775807
theorem In.of {v : S24} (h : Wf24 v) : In v := by
  have h1 := h.out
  refine ⟨bounds_i64 h1.2.1, ?_, fun x hx => ?_⟩
  · have := h1.2.2.2.2.1
    unfold maxLen at this
    exact this
  · have h2 := (h1.2.2.2.2.2.2 x hx).out
    refine ⟨bounds_i64 h2.2.1, ?_⟩
    have := h2.2.2.2.2.1
    unfold maxLen at this
    exact this
theorem encV_len {v : S24} (h : plainB v = true) (hi : In v) : (encV v).length ≤ 1000 := by
  unfold encV
  split
  · rename_i h4
    obtain ⟨a, b, c, d⟩ := plain_rec h h4
    have h1 := putU_len (n := v.f3.toNat) (by omega)
    have h2 := putU_len (n := v.f4.length) (by omega)
    have h3 := flat_len d (fun x hx => (hi.2.2 x hx).1)
    simp only [List.length_append, List.length_singleton]
    omega
  · rename_i h4
    have : plainB v = leafB v := by unfold plainB; rw [if_neg h4]
    have := encL_len (this ▸ h) hi.1
    omega
/-! ### the reference's -/
/-! ### events -/
def pe (s : ByteArray) (l : List S24) : List Int × Int :=
  if s.size < 1 ∨ s.size > 20 ∨ l.length > 12 then ([], 20) else if l.all plainB = true then (putU s.size ++ bytesOf s ++ putU l.length ++ l.flatMap encV, 0) else ([], 20)
/-! ### the guards come to an end -/
end Go.Proofs.Ythbnblmnamckmaa.Q
/-
  What the code's and the reference's Plain, PutText, PutValue, PutEvent compute, and that Small, Smalls come to an end. Conditions: the values are what comes in (Wf24: each number of its kind, each row and text within its bounds).
-/
namespace Go.Proofs.Ythbnblmnamckmaa.Q
open Go.RowKit Go.Proofs.Ythbnblmnamckmaa.PAll Go.Proofs.YthbnblmnamckmaaW.PrintWords Go.Proofs.YthbnblmnamckmaaW.PrintLast Go.Proofs.YthbnblmnamckmaaW.PrintMore
set_option linter.unusedVariables false
set_option linter.unusedSimpArgs false

theorem ev_codec_Plain_j0 (b : Bool) (v : S24) (h4 : v.f0 ≠ 4) : Ev (fun k => codec_Plain.j0 k b v.f0 v.f1 v.f2 v.f3 v.f4) (leafOf b v) := by
  refine Ev.step (fun k => rfl) ?_
  simp only [codec_Plain.j0]
  unfold leafOf
  by_cases h1 : v.f0 = 1
  · simp only [if_pos h1]
    cases b
    · simp; exact Ev.now _
    · simp; exact Ev.now _
  · simp only [if_neg h1]
    by_cases h2 : v.f0 = 2
    · simp only [if_pos h2]
      cases b
      · simp; exact Ev.now _
      · by_cases h : v.f1 = 0
        · simp [h]; exact ev_eq (decide_eq_decide.2 (by omega))
        · simp [h]; exact Ev.now _
    · simp only [if_neg h2]
      by_cases h3 : v.f0 = 3
      · simp only [if_pos h3]
        cases b
        · simp; exact Ev.now _
        · by_cases ht : v.f2.toList = []
          · by_cases h : v.f1 = 0
            · simp [h, ht]; exact Ev.now _
            · simp [h, ht]; exact ev_eq (by by_cases hq : v.f1 = 1 <;> simp [hq])
          · simp only [if_true, if_neg ht]
            exact ev_eq (by rw [text_no ht]; rfl)
      · simp only [if_neg h3, if_neg h4]
        exact Ev.now _
theorem ev_codec_Plain_leaf (v : S24) (h4 : v.f0 ≠ 4) : Ev (fun k => codec_Plain.f k v.f0 v.f1 v.f2 v.f3 v.f4) (leafB v) := by
  refine Ev.step (fun k => rfl) ?_
  simp only [codec_Plain.f]
  unfold leafB
  by_cases h : v.f3 = 0
  · simp only [if_pos h, bare_eq v h]
    exact ev_codec_Plain_j0 _ v h4
  · simp only [if_neg h, bare_no v h]
    exact ev_codec_Plain_j0 _ v h4
theorem ev_codec_Plain_l0 (l : List S24) (hl : l.length ≤ 9223372036854775807) : ∀ d i : Nat, i + d = l.length → Ev (fun k => codec_Plain.l0 k l (l.length : Int) (i : Int)) ((l.drop i).all fieldB) := by
  intro d
  induction d with
  | zero =>
    intro i hi
    refine Ev.step (fun k => rfl) ?_
    simp only [codec_Plain.l0]
    simp only [if_neg (show ¬ ((i : Int) < (l.length : Int)) by omega)]
    rw [List.drop_eq_nil_of_le (by omega)]
    exact Ev.now _
  | succ d ih =>
    intro i hi
    have hlt : i < l.length := by omega
    refine Ev.step (fun k => rfl) ?_
    simp only [codec_Plain.l0]
    have e1 : wrap64 ((i : Int) + 1) = ((i + 1 : Nat) : Int) := by rw [w64_id (by omega) (by omega)]; omega
    simp only [if_pos (show ((i : Int) < (l.length : Int)) by omega), if_pos (show (0 : Int) ≤ (i : Int) by omega), e1]
    rw [rdT_drop hlt, List.all_cons]
    by_cases h4 : (rd_T24 l (i : Int)).f0 = 4
    · simp only [if_pos h4]
      exact ev_eq (by simp [fieldB, h4])
    · simp only [if_neg h4]
      refine Ev.bind (ev_codec_Plain_leaf _ h4) ?_
      cases hb : leafB (rd_T24 l (i : Int)) with
      | false => simp only [if_neg (show ¬ (false = true) by decide)]; exact ev_eq (by simp [fieldB, hb])
      | true =>
        simp only [if_true]
        have e2 : fieldB (rd_T24 l (i : Int)) = true := by simp [fieldB, hb, h4]
        rw [e2, Bool.true_and]
        exact ih (i + 1) (by omega)
theorem ev_codec_Plain (v : S24) (hl : v.f4.length ≤ 9223372036854775807) : Ev (fun k => codec_Plain.f k v.f0 v.f1 v.f2 v.f3 v.f4) (plainB v) := by
  by_cases h4 : v.f0 = 4
  · have hj1 : ∀ b : Bool, Ev (fun k => codec_Plain.j1 k b v.f0 v.f1 v.f2 v.f3 v.f4) (!b && v.f4.all fieldB) := by
      intro b
      refine Ev.step (fun k => rfl) ?_
      simp only [codec_Plain.j1]
      cases b
      · simp only [if_neg (show ¬ (false = true) by decide)]
        exact ev_codec_Plain_l0 v.f4 hl v.f4.length 0 (Nat.zero_add _)
      · simp only [if_true]; exact Ev.now _
    have hj0 : ∀ b : Bool, Ev (fun k => codec_Plain.j0 k b v.f0 v.f1 v.f2 v.f3 v.f4) (plainB v) := by
      intro b
      refine Ev.step (fun k => rfl) ?_
      simp only [codec_Plain.j0]
      unfold plainB
      simp only [if_neg (show ¬ v.f0 = 1 by omega), if_neg (show ¬ v.f0 = 2 by omega), if_neg (show ¬ v.f0 = 3 by omega), if_pos h4]
      by_cases h1 : v.f1 = 0
      · simp only [if_pos h1]
        by_cases ht : v.f2.toList = []
        · simp only [if_pos ht]
          by_cases ha : v.f3 < 0
          · simp only [if_pos ha]
            have := hj1 true
            simpa [h1, ht, show ¬ (0 ≤ v.f3) by omega] using this
          · simp only [if_neg ha]
            by_cases hb : v.f3 > 15
            · simp only [if_pos hb]
              have := hj1 true
              simpa [h1, ht, show ¬ (v.f3 ≤ 15) by omega] using this
            · simp only [if_neg hb]
              have := hj1 (decide ((v.f4.length : Int) > 12))
              have e : (!decide ((v.f4.length : Int) > 12)) = decide (v.f4.length ≤ 12) := by
                by_cases hq : v.f4.length ≤ 12
                · rw [decide_eq_true hq, decide_eq_false (by omega)]; rfl
                · rw [decide_eq_false hq, decide_eq_true (by omega)]; rfl
              rw [e] at this
              simpa [h1, ht, show (0 ≤ v.f3) by omega, show (v.f3 ≤ 15) by omega] using this
        · simp only [if_neg ht]
          exact ev_val (hj1 true) (by rw [text_no ht]; simp)
      · simp only [if_neg h1]
        have := hj1 true
        simpa [h1] using this
    refine Ev.step (fun k => rfl) ?_
    simp only [codec_Plain.f]
    by_cases h : v.f3 = 0
    · simp only [if_pos h]; exact hj0 _
    · simp only [if_neg h]; exact hj0 _
  · have : plainB v = leafB v := by unfold plainB; rw [if_neg h4]
    rw [this]
    exact ev_codec_Plain_leaf v h4

theorem ev_codec_PutText {s : ByteArray} (h : s.size ≤ 140737488351232) : Ev (fun k => codec_PutText.f k s) (putU s.size ++ bytesOf s) := by
  unfold codec_PutText.f
  have hl := putU_len (n := s.size) (by omega)
  rw [u64_id (by omega) (by omega)]
  refine Ev.bind (ev_codec_PutUint (by omega)) ?_
  simp only [if_pos (show (putU s.size).length + s.size < 140737488355328 by omega)]
  exact Ev.now _
theorem ev_codec_put_leaf {v : S24} (h : leafB v = true) (hf : -9223372036854775808 ≤ v.f1 ∧ v.f1 ≤ 9223372036854775807) : Ev (fun k => codec_put.f k v.f0 v.f1 v.f2 v.f3 v.f4) (encL v) := by
  have h1 := putU_len (zig_lt hf.1 hf.2)
  have h2 := leaf_kind h
  refine Ev.step (fun k => rfl) ?_
  simp only [codec_put.f, Option.bind_some]
  unfold encL
  by_cases k1 : v.f0 = 1
  · simp only [if_pos k1]
    refine Ev.bind (ev_codec_PutInt hf.1 hf.2) ?_
    simp only [List.length_singleton, if_pos (show 1 + (putU (zig v.f1)).length < 140737488355328 by omega)]
    exact Ev.now _
  · simp only [if_neg k1]
    by_cases k2 : v.f0 = 2
    · have hs : v.f2.size ≤ 64 := by omega
      have hp := putU_len (n := v.f2.size) (by omega)
      simp only [if_pos k2]
      refine Ev.bind (ev_codec_PutText (by omega)) ?_
      simp only [List.length_singleton, List.length_append, bytesOf_length, if_pos (show 1 + ((putU v.f2.size).length + v.f2.size) < 140737488355328 by omega)]
      exact Ev.now _
    · have k3 : v.f0 = 3 := by omega
      simp only [if_neg k2, if_pos k3, List.length_singleton, if_pos (show 1 < 140737488355328 by omega)]
      exact Ev.now _
theorem ev_codec_put_l0 (l : List S24) (hl : l.length ≤ 12) (hp : l.all fieldB = true) (hw : ∀ v ∈ l, -9223372036854775808 ≤ v.f1 ∧ v.f1 ≤ 9223372036854775807) : ∀ (d i : Nat) (acc : List Int), i + d = l.length → acc.length + 80 * d < 100000 →
    Ev (fun k => codec_put.l0 k acc l (l.length : Int) (i : Int)) (acc ++ (l.drop i).flatMap encL) := by
  intro d
  induction d with
  | zero =>
    intro i acc hi ha
    refine Ev.step (fun k => rfl) ?_
    simp only [codec_put.l0]
    simp only [if_neg (show ¬ ((i : Int) < (l.length : Int)) by omega)]
    rw [List.drop_eq_nil_of_le (by omega)]
    exact ev_eq (by simp)
  | succ d ih =>
    intro i acc hi ha
    have hlt : i < l.length := by omega
    refine Ev.step (fun k => rfl) ?_
    simp only [codec_put.l0]
    have e1 : wrap64 ((i : Int) + 1) = ((i + 1 : Nat) : Int) := by rw [w64_id (by omega) (by omega)]; omega
    simp only [if_pos (show ((i : Int) < (l.length : Int)) by omega), if_pos (show (0 : Int) ≤ (i : Int) by omega), e1]
    have hm := rdT_mem hlt
    have hb : leafB (rd_T24 l (i : Int)) = true := by
      have := List.all_eq_true.1 hp _ hm
      simp [fieldB] at this
      exact this.2
    have hlen := encL_len hb (hw _ hm)
    refine Ev.bind (ev_codec_put_leaf hb (hw _ hm)) ?_
    simp only [if_pos (show acc.length + (encL (rd_T24 l (i : Int))).length < 140737488355328 by omega)]
    rw [rdT_drop hlt, List.flatMap_cons, ← List.append_assoc]
    exact ih (i + 1) _ (by omega) (by simp; omega)
theorem ev_codec_put {v : S24} (h : plainB v = true) (hi : In v) : Ev (fun k => codec_put.f k v.f0 v.f1 v.f2 v.f3 v.f4) (encV v) := by
  unfold encV
  by_cases h4 : v.f0 = 4
  · rw [if_pos h4]
    obtain ⟨a, b, c, d⟩ := plain_rec h h4
    have h1 := putU_len (n := v.f3.toNat) (by omega)
    have h2 := putU_len (n := v.f4.length) (by omega)
    refine Ev.step (fun k => rfl) ?_
    simp only [codec_put.f, Option.bind_some]
    simp only [if_neg (show ¬ v.f0 = 1 by omega), if_neg (show ¬ v.f0 = 2 by omega), if_neg (show ¬ v.f0 = 3 by omega)]
    rw [u64_id (n := v.f3) (by omega) (by omega), u64_id (n := (v.f4.length : Int)) (by omega) (by omega)]
    refine Ev.bind (ev_codec_PutUint' a (by omega)) ?_
    simp only [List.length_singleton, if_pos (show 1 + (putU v.f3.toNat).length < 140737488355328 by omega)]
    refine Ev.bind (ev_codec_PutUint (by omega)) ?_
    simp only [List.length_append, List.length_singleton, if_pos (show 1 + (putU v.f3.toNat).length + (putU v.f4.length).length < 140737488355328 by omega)]
    have := ev_codec_put_l0 v.f4 c d (fun x hx => (hi.2.2 x hx).1) v.f4.length 0 ([v.f0 % 256] ++ putU v.f3.toNat ++ putU v.f4.length) (by omega) (by simp only [List.length_append, List.length_singleton]; omega)
    rw [List.drop_zero] at this
    exact this
  · rw [if_neg h4]
    have : plainB v = leafB v := by unfold plainB; rw [if_neg h4]
    exact ev_codec_put_leaf (this ▸ h) hi.1
theorem ev_codec_PutValue {v : S24} (hi : In v) : Ev (fun k => codec_PutValue.f k v.f0 v.f1 v.f2 v.f3 v.f4) (pv v) := by
  unfold codec_PutValue.f pv
  refine Ev.bind (ev_codec_Plain v hi.2.1) ?_
  by_cases h : plainB v = true
  · simp only [if_pos h]
    exact Ev.bind (ev_codec_put h hi) (Ev.now _)
  · simp only [if_neg h]
    exact Ev.now _

theorem ev_codec_PutEvent_l0 (l : List S24) (hl : l.length ≤ 12) (hi : ∀ v ∈ l, In v) : ∀ (d i : Nat) (acc : List Int), i + d = l.length → acc.length + 1000 * d < 100000 →
    Ev (fun k => codec_PutEvent.l0 k acc l (l.length : Int) (i : Int)) (if (l.drop i).all plainB = true then (acc ++ (l.drop i).flatMap encV, 0) else ([], 20)) := by
  intro d
  induction d with
  | zero =>
    intro i acc hi' ha
    refine Ev.step (fun k => rfl) ?_
    simp only [codec_PutEvent.l0]
    simp only [if_neg (show ¬ ((i : Int) < (l.length : Int)) by omega)]
    rw [List.drop_eq_nil_of_le (by omega)]
    exact ev_eq (by simp)
  | succ d ih =>
    intro i acc hi' ha
    have hlt : i < l.length := by omega
    refine Ev.step (fun k => rfl) ?_
    simp only [codec_PutEvent.l0]
    have e1 : wrap64 ((i : Int) + 1) = ((i + 1 : Nat) : Int) := by rw [w64_id (by omega) (by omega)]; omega
    simp only [if_pos (show ((i : Int) < (l.length : Int)) by omega), if_pos (show (0 : Int) ≤ (i : Int) by omega), e1]
    have hm := hi _ (rdT_mem hlt)
    refine Ev.bind (ev_codec_PutValue hm) ?_
    rw [rdT_drop hlt, List.all_cons, List.flatMap_cons]
    unfold pv
    by_cases hp : plainB (rd_T24 l (i : Int)) = true
    · have hlen := encV_len hp hm
      simp only [if_pos hp, if_true, hp, Bool.true_and, if_pos (show acc.length + (encV (rd_T24 l (i : Int))).length < 140737488355328 by omega)]
      rw [← List.append_assoc]
      exact ih (i + 1) _ (by omega) (by simp; omega)
    · simp only [if_neg hp, if_neg (show ¬ ((20 : Int) = 0) by decide)]
      exact ev_eq (by simp [hp])
theorem ev_codec_PutEvent {s : ByteArray} {l : List S24} (hs : s.size ≤ 140737488351232) (hl : l.length ≤ 9223372036854775807) (hi : ∀ v ∈ l, In v) : Ev (fun k => codec_PutEvent.f k s l) (pe s l) := by
  have hj : ∀ b : Bool, (b = false → s.size ≤ 20 ∧ l.length ≤ 12) → Ev (fun k => codec_PutEvent.j0 k b s l) (if b = true then ([], 20) else if l.all plainB = true then (putU s.size ++ bytesOf s ++ putU l.length ++ l.flatMap encV, 0) else ([], 20)) := by
    intro b hb
    refine Ev.step (fun k => rfl) ?_
    simp only [codec_PutEvent.j0]
    cases b
    · obtain ⟨h1, h2⟩ := hb rfl
      have p1 := putU_len (n := s.size) (by omega)
      have p2 := putU_len (n := l.length) (by omega)
      simp only [if_neg (show ¬ (false = true) by decide)]
      rw [u64_id (n := (l.length : Int)) (by omega) (by omega)]
      refine Ev.bind (ev_codec_PutText hs) ?_
      refine Ev.bind (ev_codec_PutUint (by omega)) ?_
      simp only [List.length_append, bytesOf_length, if_pos (show (putU s.size).length + s.size + (putU l.length).length < 140737488355328 by omega)]
      have := ev_codec_PutEvent_l0 l h2 hi l.length 0 (putU s.size ++ bytesOf s ++ putU l.length) (by omega) (by simp only [List.length_append, bytesOf_length]; omega)
      rw [List.drop_zero] at this
      exact this
    · simp only [if_true]
      exact Ev.now _
  unfold codec_PutEvent.f pe
  by_cases h1 : s.size < 1
  · simp only [if_pos (show (s.size : Int) < 1 by omega)]
    rw [if_pos (.inl h1)]
    exact hj true (by simp)
  · simp only [if_neg (show ¬ ((s.size : Int) < 1) by omega)]
    by_cases h2 : s.size > 20
    · simp only [if_pos (show (s.size : Int) > 20 by omega)]
      rw [if_pos (.inr (.inl h2))]
      exact hj true (by simp)
    · simp only [if_neg (show ¬ ((s.size : Int) > 20) by omega)]
      by_cases h3 : l.length > 12
      · rw [if_pos (.inr (.inr h3)), decide_eq_true (show ((l.length : Int) > 12) by omega)]
        exact hj true (by simp)
      · rw [if_neg (by omega), decide_eq_false (show ¬ ((l.length : Int) > 12) by omega)]
        exact hj false (fun _ => ⟨by omega, by omega⟩)
theorem ev_Small_l1 (v : S24) (hi : In v) (i : Nat) (hlt : i < v.f4.length) (hnext : ∃ b, Ev (fun k => windlasshelp_Small.l0 k (((i + 1 : Nat) : Int)) v.f0 v.f1 v.f2 v.f3 v.f4) b) :
    ∀ d j : Nat, j + d = (rd_T24 v.f4 (i : Int)).f4.length → ∃ b, Ev (fun k => windlasshelp_Small.l1 k (i : Int) (j : Int) v.f0 v.f1 v.f2 v.f3 v.f4) b := by
  have hb := hi.2.1
  have hb2 := (hi.2.2 _ (rdT_mem hlt)).2
  have e1 : wrap64 ((i : Int) + 1) = ((i + 1 : Nat) : Int) := by rw [w64_id (by omega) (by omega)]; omega
  intro d
  induction d with
  | zero =>
    intro j hj
    obtain ⟨b, h⟩ := hnext
    refine ⟨b, Ev.step (fun k => rfl) ?_⟩
    simp only [windlasshelp_Small.l1]
    simp only [if_pos (show (0 : Int) ≤ (i : Int) by omega), if_pos (show ((i : Int) < (v.f4.length : Int)) by omega), if_neg (show ¬ ((j : Int) < ((rd_T24 v.f4 (i : Int)).f4.length : Int)) by omega), e1]
    exact h
  | succ d ih =>
    intro j hj
    have e2 : wrap64 ((j : Int) + 1) = ((j + 1 : Nat) : Int) := by rw [w64_id (by omega) (by omega)]; omega
    by_cases c1 : ((rd_T24 (rd_T24 v.f4 (i : Int)).f4 (j : Int)).f4.length : Int) > 0
    · refine ⟨false, Ev.step (fun k => rfl) ?_⟩
      simp only [windlasshelp_Small.l1]
      simp only [if_pos (show (0 : Int) ≤ (i : Int) by omega), if_pos (show ((i : Int) < (v.f4.length : Int)) by omega), if_pos (show ((j : Int) < ((rd_T24 v.f4 (i : Int)).f4.length : Int)) by omega), if_pos (show (0 : Int) ≤ (j : Int) by omega), if_pos c1]
      exact Ev.now _
    · by_cases c2 : ((rd_T24 (rd_T24 v.f4 (i : Int)).f4 (j : Int)).f2.size : Int) > 300
      · refine ⟨false, Ev.step (fun k => rfl) ?_⟩
        simp only [windlasshelp_Small.l1]
        simp only [if_pos (show (0 : Int) ≤ (i : Int) by omega), if_pos (show ((i : Int) < (v.f4.length : Int)) by omega), if_pos (show ((j : Int) < ((rd_T24 v.f4 (i : Int)).f4.length : Int)) by omega), if_pos (show (0 : Int) ≤ (j : Int) by omega), if_neg c1, if_pos c2]
        exact Ev.now _
      · obtain ⟨b, h⟩ := ih (j + 1) (by omega)
        refine ⟨b, Ev.step (fun k => rfl) ?_⟩
        simp only [windlasshelp_Small.l1]
        simp only [if_pos (show (0 : Int) ≤ (i : Int) by omega), if_pos (show ((i : Int) < (v.f4.length : Int)) by omega), if_pos (show ((j : Int) < ((rd_T24 v.f4 (i : Int)).f4.length : Int)) by omega), if_pos (show (0 : Int) ≤ (j : Int) by omega), if_neg c1, if_neg c2, e2]
        exact h
theorem ev_Small_l0 (v : S24) (hi : In v) : ∀ d i : Nat, i + d = v.f4.length → ∃ b, Ev (fun k => windlasshelp_Small.l0 k (i : Int) v.f0 v.f1 v.f2 v.f3 v.f4) b := by
  intro d
  have hb := hi.2.1
  induction d with
  | zero =>
    intro i hi'
    refine ⟨true, Ev.step (fun k => rfl) ?_⟩
    simp only [windlasshelp_Small.l0]
    simp only [if_neg (show ¬ ((i : Int) < (v.f4.length : Int)) by omega)]
    exact Ev.now _
  | succ d ih =>
    intro i hi'
    have hlt : i < v.f4.length := by omega
    have hj2 : ∀ c : Bool, ∃ b, Ev (fun k => windlasshelp_Small.j2 k (i : Int) c v.f0 v.f1 v.f2 v.f3 v.f4) b := by
      intro c
      cases c
      · obtain ⟨b, h⟩ := ev_Small_l1 v hi i hlt (ih (i + 1) (by omega)) _ 0 (Nat.zero_add _)
        refine ⟨b, Ev.step (fun k => rfl) ?_⟩
        simp only [windlasshelp_Small.j2]
        simp only [if_neg (show ¬ (false = true) by decide)]
        exact h
      · refine ⟨false, Ev.step (fun k => rfl) ?_⟩
        simp only [windlasshelp_Small.j2, if_true]
        exact Ev.now _
    by_cases c : ((rd_T24 v.f4 (i : Int)).f2.size : Int) > 300
    · obtain ⟨b, h⟩ := hj2 true
      refine ⟨b, Ev.step (fun k => rfl) ?_⟩
      simp only [windlasshelp_Small.l0]
      simp only [if_pos (show ((i : Int) < (v.f4.length : Int)) by omega), if_pos (show (0 : Int) ≤ (i : Int) by omega), if_pos c]
      exact h
    · obtain ⟨b, h⟩ := hj2 (decide (((rd_T24 v.f4 (i : Int)).f4.length : Int) > 3))
      refine ⟨b, Ev.step (fun k => rfl) ?_⟩
      simp only [windlasshelp_Small.l0]
      simp only [if_pos (show ((i : Int) < (v.f4.length : Int)) by omega), if_pos (show (0 : Int) ≤ (i : Int) by omega), if_neg c]
      exact h
theorem ev_Small {v : S24} (hi : In v) : ∃ b, Ev (fun k => windlasshelp_Small.f k v.f0 v.f1 v.f2 v.f3 v.f4) b := by
  have hj : ∀ c : Bool, ∃ b, Ev (fun k => windlasshelp_Small.j0 k c v.f0 v.f1 v.f2 v.f3 v.f4) b := by
    intro c
    cases c
    · obtain ⟨b, h⟩ := ev_Small_l0 v hi _ 0 (Nat.zero_add _)
      refine ⟨b, Ev.step (fun k => rfl) ?_⟩
      simp only [windlasshelp_Small.j0]
      simp only [if_neg (show ¬ (false = true) by decide)]
      exact h
    · refine ⟨false, Ev.step (fun k => rfl) ?_⟩
      simp only [windlasshelp_Small.j0, if_true]
      exact Ev.now _
  unfold windlasshelp_Small.f
  by_cases c : (v.f2.size : Int) > 300
  · simp only [if_pos c]; exact hj _
  · simp only [if_neg c]; exact hj _
theorem ev_Smalls_l0 (l : List S24) (hl : l.length ≤ 9223372036854775807) (hi : ∀ v ∈ l, In v) : ∀ d i : Nat, i + d = l.length → ∃ b, Ev (fun k => windlasshelp_Smalls.l0 k l (i : Int)) b ∧ (b = true → l.length ≤ 20) := by
  intro d
  induction d with
  | zero =>
    intro i hi'
    refine ⟨decide ((l.length : Int) ≤ 20), Ev.step (fun k => rfl) ?_, fun h => by have := of_decide_eq_true h; omega⟩
    simp only [windlasshelp_Smalls.l0]
    simp only [if_neg (show ¬ ((i : Int) < (l.length : Int)) by omega)]
    exact Ev.now _
  | succ d ih =>
    intro i hi'
    have hlt : i < l.length := by omega
    have e1 : wrap64 ((i : Int) + 1) = ((i + 1 : Nat) : Int) := by rw [w64_id (by omega) (by omega)]; omega
    obtain ⟨b, hb⟩ := ev_Small (hi _ (rdT_mem hlt))
    cases b with
    | false =>
      refine ⟨false, Ev.step (fun k => rfl) ?_, by simp⟩
      simp only [windlasshelp_Smalls.l0]
      simp only [if_pos (show ((i : Int) < (l.length : Int)) by omega), if_pos (show (0 : Int) ≤ (i : Int) by omega)]
      refine Ev.bind hb ?_
      simp only [if_neg (show ¬ (false = true) by decide)]
      exact Ev.now _
    | true =>
      obtain ⟨c, hc, hq⟩ := ih (i + 1) (by omega)
      refine ⟨c, Ev.step (fun k => rfl) ?_, hq⟩
      simp only [windlasshelp_Smalls.l0]
      simp only [if_pos (show ((i : Int) < (l.length : Int)) by omega), if_pos (show (0 : Int) ≤ (i : Int) by omega), e1]
      refine Ev.bind hb ?_
      simp only [if_true]
      exact hc
theorem ev_Smalls {l : List S24} (hl : l.length ≤ 9223372036854775807) (hi : ∀ v ∈ l, In v) : ∃ b, Ev (fun k => windlasshelp_Smalls.f k l) b ∧ (b = true → l.length ≤ 20) := by
  unfold windlasshelp_Smalls.f
  exact ev_Smalls_l0 l hl hi _ 0 (Nat.zero_add _)
theorem bytes_same (a : List Int) : windlasshelp_Bytes.f a a = some true := by
  unfold windlasshelp_Bytes.f
  rw [beq_self_eq_true]
end Go.Proofs.Ythbnblmnamckmaa.Q
/-
  What the code's and the reference's Text compute. Conditions: the bytes are bytes, and no more than a slice may have.
-/
namespace Go.Proofs.Ythbnblmnamckmaa.Q
open Go.RowKit Go.Proofs.Ythbnblmnamckmaa.PAll Go.Proofs.YthbnblmnamckmaaW.PrintWords Go.Proofs.YthbnblmnamckmaaW.PrintLast Go.Proofs.YthbnblmnamckmaaW.PrintMore
set_option linter.unusedVariables false
set_option linter.unusedSimpArgs false

def resT (most : Int) (l : List Int) : Option (Int × Nat) → ByteArray × Int × Int
  | none => ((⟨#[]⟩ : ByteArray), 0, 20)
  | some r => if r.1 > most then ((⟨#[]⟩ : ByteArray), 0, 21) else if r.1 > (l.length : Int) - r.2 then ((⟨#[]⟩ : ByteArray), 0, 20) else (strOfNums ((l.take (r.2 + r.1.toNat)).drop r.2), (r.2 : Int) + r.1, 0)

theorem strOf_size (l : List Int) : (strOfNums l).size = l.length := by simp [strOfNums, ByteArray.size]
theorem strOf_bytesOf (s : ByteArray) : strOfNums (bytesOf s) = s := by
  unfold strOfNums bytesOf
  apply ByteArray.ext
  simp only [List.map_map]
  apply Array.ext'
  simp only
  conv => rhs; rw [← List.map_id s.data.toList]
  apply List.map_congr_left
  intro b _
  simp

theorem ev_codec_Text {l : List Int} (hb : Bytes l) (hl : l.length ≤ 140737488351232) : Ev (fun k => codec_Text.f k l) (resT 64 l (decU 0 l)) := by
  unfold codec_Text.f
  refine Ev.bind (ev_codec_Uint hb) ?_
  cases h : decU 0 l with
  | none =>
    simp only [resU_none, if_neg (show ¬ ((20 : Int) = 0) by decide)]
    exact Ev.now _
  | some r =>
    obtain ⟨n, len⟩ := r
    have hbd := decU_top hb h
    simp only [resU_some, if_true]
    unfold resT
    by_cases h1 : n > 64
    · simp only [if_pos h1]; exact Ev.now _
    · simp only [if_neg h1, w64_id (n := n) (by omega) (by omega), w64_id (n := (l.length : Int) - (len : Int)) (by omega) (by omega), w64_id (n := (len : Int) + n) (by omega) (by omega), w64_id (n := (len : Int) + n - n) (by omega) (by omega)]
      by_cases h2 : n > (l.length : Int) - len
      · simp only [if_pos h2]; exact Ev.now _
      · have e1 : ((len : Int) + n).toNat = len + n.toNat := by omega
        have e2 : ((len : Int) + n - n).toNat = len := by omega
        simp only [if_neg h2, if_pos (show (0 : Int) ≤ (len : Int) + n - n by omega), if_pos (show (len : Int) + n - n ≤ (len : Int) + n by omega), if_pos (show (len : Int) + n ≤ (l.length : Int) by omega), e1, e2]
        unfold strings_Clone.f stringslite_Clone.f
        simp only [strOf_size, if_pos (show ((l.take (len + n.toNat)).drop len).length ≤ 281474976710656 by simp; omega), Option.bind_some]
        exact Ev.now _
theorem resT_put {s : ByteArray} (hs : s.size ≤ 140737488351232) (more : List Int) : resT 64 (putU s.size ++ bytesOf s ++ more) (decU 0 (putU s.size ++ bytesOf s ++ more)) = if s.size > 64 then ((⟨#[]⟩ : ByteArray), 0, 21) else (s, ((putU s.size ++ bytesOf s).length : Int), 0) := by
  rw [List.append_assoc, decU_put (by omega)]
  unfold resT
  simp only [List.length_append, bytesOf_length]
  by_cases h : s.size > 64
  · rw [if_pos (by omega), if_pos h]
  · rw [if_neg (by omega), if_neg (by omega), if_neg h]
    have e : ((putU s.size ++ (bytesOf s ++ more)).take ((putU s.size).length + ((s.size : Int)).toNat)).drop (putU s.size).length = bytesOf s := by
      rw [Int.toNat_natCast, List.take_append, List.take_of_length_le (by omega), Nat.add_sub_cancel_left, List.drop_append, List.drop_of_length_le (Nat.le_refl _), Nat.sub_self, List.drop_zero, List.nil_append, List.take_append, ← bytesOf_length, List.take_length, Nat.sub_self, List.take_zero, List.append_nil]
    rw [e, strOf_bytesOf]
    simp
end Go.Proofs.Ythbnblmnamckmaa.Q
/-
  Plain facts on values as bytes: what stands at a row's beginning as a value (decV), and that it is the way back from encV. No program stands here. Conditions: those named in each lemma.
-/
namespace Go.Proofs.Ythbnblmnamckmaa.Q
open Go.RowKit Go.Proofs.Ythbnblmnamckmaa.PAll Go.Proofs.YthbnblmnamckmaaW.PrintWords Go.Proofs.YthbnblmnamckmaaW.PrintLast Go.Proofs.YthbnblmnamckmaaW.PrintMore
set_option linter.unusedVariables false
set_option linter.unusedSimpArgs false
abbrev V := S24
abbrev e0 : ByteArray := ⟨#[]⟩

/-- A text at a row's beginning. -/
def decT (most : Int) (l : List Int) : Option (ByteArray × Nat) :=
  match decU 0 l with
  | none => none
  | some r => if r.1 > most then none else if r.1 > (l.length : Int) - r.2 then none else some (strOfNums ((l.take (r.2 + r.1.toNat)).drop r.2), r.2 + r.1.toNat)
/-- What is no record. -/
def decL : List Int → Option (V × Nat)
  | [] => none
  | c :: t =>
    if c = 1 then (decU 0 t).map fun r => (⟨1, zag r.1, e0, 0, []⟩, r.2 + 1)
    else if c = 2 then (decT 64 t).map fun r => (⟨2, 0, r.1, 0, []⟩, r.2 + 1)
    else if c = 3 then match t with
      | [] => none
      | d :: _ => if d > 1 then none else some (⟨3, d, e0, 0, []⟩, 2)
    else none
/-- So many that are no records. -/
def decFs : Nat → List Int → Option (List V × Nat)
  | 0, _ => some ([], 0)
  | k + 1, l => match decL l with
    | none => none
    | some r => (decFs k (l.drop r.2)).map fun q => (r.1 :: q.1, r.2 + q.2)
/-- A record, behind its kind. -/
def decR (t : List Int) : Option (V × Nat) :=
  match decU 0 t with
  | none => none
  | some r => if r.1 > 15 then none else match decU 0 (t.drop r.2) with
    | none => none
    | some c => if c.1 > 12 then none else (decFs c.1.toNat (t.drop (r.2 + c.2))).map fun q => (⟨4, 0, e0, r.1, q.1⟩, r.2 + c.2 + q.2 + 1)
/-- A value; records, or none. -/
def decV (rec : Bool) : List Int → Option (V × Nat)
  | [] => none
  | c :: t => if c = 4 then (if rec = true then decR t else none) else decL (c :: t)
/-- So many values. -/
def decVs : Nat → List Int → Option (List V × Nat)
  | 0, _ => some ([], 0)
  | k + 1, l => match decV true l with
    | none => none
    | some r => (decVs k (l.drop r.2)).map fun q => (r.1 :: q.1, r.2 + q.2)

theorem Bytes.tail {c : Int} {t : List Int} (h : Bytes (c :: t)) : Bytes t := fun x hx => h x (List.mem_cons_of_mem _ hx)
theorem Bytes.head {c : Int} {t : List Int} (h : Bytes (c :: t)) : 0 ≤ c ∧ c ≤ 255 := h c (List.mem_cons_self ..)
theorem Bytes.app {a b : List Int} (ha : Bytes a) (hb : Bytes b) : Bytes (a ++ b) := fun x hx => (List.mem_append.1 hx).elim (ha x) (hb x)
theorem bytes_of (s : ByteArray) : Bytes (bytesOf s) := by
  intro x hx
  unfold bytesOf at hx
  obtain ⟨b, _, rfl⟩ := List.mem_map.1 hx
  have := b.toNat_lt
  omega

/-! ### how much is read -/
theorem decT_len {most : Int} {l : List Int} {s : ByteArray} {m : Nat} (hb : Bytes l) (h : decT most l = some (s, m)) : 1 ≤ m ∧ m ≤ l.length := by
  unfold decT at h
  cases hd : decU 0 l with
  | none => rw [hd] at h; simp at h
  | some r =>
    obtain ⟨n, len⟩ := r
    rw [hd] at h
    have hbd := decU_top hb hd
    simp only at h
    split at h
    · simp at h
    · split at h
      · simp at h
      · simp only [Option.some.injEq, Prod.mk.injEq] at h
        omega
theorem decL_len {l : List Int} {v : V} {m : Nat} (hb : Bytes l) (h : decL l = some (v, m)) : 1 ≤ m ∧ m ≤ l.length := by
  cases l with
  | nil => simp [decL] at h
  | cons c t =>
    simp only [decL] at h
    split at h
    · obtain ⟨r, hr, hq⟩ := Option.map_eq_some_iff.1 h
      have := decU_top hb.tail hr
      simp only [Prod.mk.injEq] at hq
      simp only [List.length_cons]
      omega
    · split at h
      · obtain ⟨r, hr, hq⟩ := Option.map_eq_some_iff.1 h
        have := decT_len hb.tail hr
        simp only [Prod.mk.injEq] at hq
        simp only [List.length_cons]
        omega
      · split at h
        · cases t with
          | nil => simp at h
          | cons d t =>
            simp only at h
            split at h
            · simp at h
            · simp only [Option.some.injEq, Prod.mk.injEq] at h
              simp only [List.length_cons]
              omega
        · simp at h
theorem decFs_len : ∀ (k : Nat) (l : List Int) (fs : List V) (m : Nat), Bytes l → decFs k l = some (fs, m) → fs.length = k ∧ m ≤ l.length
  | 0, l, fs, m, _, h => by
    simp only [decFs, Option.some.injEq, Prod.mk.injEq] at h
    obtain ⟨rfl, rfl⟩ := h
    simp
  | k + 1, l, fs, m, hb, h => by
    simp only [decFs] at h
    split at h
    · simp at h
    · rename_i r hr
      obtain ⟨q, hq, he⟩ := Option.map_eq_some_iff.1 h
      simp only [Prod.mk.injEq] at he
      obtain ⟨rfl, rfl⟩ := he
      have h1 := decL_len hb hr
      have h2 := decFs_len k _ q.1 q.2 (hb.drop _) hq
      simp only [List.length_drop] at h2
      simp only [List.length_cons]
      omega
theorem decR_len {t : List Int} {v : V} {m : Nat} (hb : Bytes t) (h : decR t = some (v, m)) : 1 ≤ m ∧ m ≤ t.length + 1 ∧ v.f4.length ≤ 12 := by
  unfold decR at h
  split at h
  · simp at h
  · rename_i r hr
    split at h
    · simp at h
    · split at h
      · simp at h
      · rename_i c hc
        split at h
        · simp at h
        · obtain ⟨q, hq, he⟩ := Option.map_eq_some_iff.1 h
          simp only [Prod.mk.injEq] at he
          obtain ⟨rfl, rfl⟩ := he
          have h1 := decU_top hb hr
          have h2 := decU_top (hb.drop _) hc
          have h3 := decFs_len _ _ q.1 q.2 (hb.drop _) hq
          simp only [List.length_drop] at h2 h3
          simp only
          omega
theorem decV_len {rec : Bool} {l : List Int} {v : V} {m : Nat} (hb : Bytes l) (h : decV rec l = some (v, m)) : 1 ≤ m ∧ m ≤ l.length := by
  cases l with
  | nil => simp [decV] at h
  | cons c t =>
    simp only [decV] at h
    split at h
    · split at h
      · have := decR_len hb.tail h
        simp only [List.length_cons]
        omega
      · simp at h
    · exact decL_len hb h

/-! ### what is written is read again -/
theorem ext_empty {s : ByteArray} (h : s.toList = []) : s = e0 := by
  apply ByteArray.ext
  rw [Lib.toList_data] at h
  exact Array.toList_eq_nil_iff.1 h
theorem leaf_is {v : V} (h : leafB v = true) : v.f3 = 0 ∧ v.f4 = [] ∧ ((v.f0 = 1 ∧ v.f2 = e0) ∨ (v.f0 = 2 ∧ v.f1 = 0 ∧ v.f2.size ≤ 64) ∨ (v.f0 = 3 ∧ v.f2 = e0 ∧ (v.f1 = 0 ∨ v.f1 = 1))) := by
  unfold leafB leafOf bareB at h
  split at h
  · simp only [Bool.and_eq_true, decide_eq_true_eq, beq_iff_eq] at h
    exact ⟨h.1.1, List.eq_nil_of_length_eq_zero h.1.2, .inl ⟨‹_›, ext_empty h.2⟩⟩
  · split at h
    · simp only [Bool.and_eq_true, decide_eq_true_eq] at h
      exact ⟨h.1.1.1, List.eq_nil_of_length_eq_zero h.1.1.2, .inr (.inl ⟨‹_›, h.1.2, h.2⟩)⟩
    · split at h
      · simp only [Bool.and_eq_true, decide_eq_true_eq, beq_iff_eq, Bool.or_eq_true] at h
        exact ⟨h.1.1.1, List.eq_nil_of_length_eq_zero h.1.1.2, .inr (.inr ⟨‹_›, ext_empty h.1.2, h.2⟩)⟩
      · simp at h
theorem decT_put {s : ByteArray} (hs : s.size ≤ 64) (more : List Int) : decT 64 (putU s.size ++ bytesOf s ++ more) = some (s, (putU s.size).length + s.size) := by
  rw [List.append_assoc]
  unfold decT
  rw [decU_put (by omega)]
  simp only [List.length_append, bytesOf_length]
  rw [if_neg (by omega), if_neg (by omega)]
  have e : ((putU s.size ++ (bytesOf s ++ more)).take ((putU s.size).length + ((s.size : Int)).toNat)).drop (putU s.size).length = bytesOf s := by
    rw [Int.toNat_natCast, List.take_append, List.take_of_length_le (by omega), Nat.add_sub_cancel_left, List.drop_append, List.drop_of_length_le (Nat.le_refl _), Nat.sub_self, List.drop_zero, List.nil_append, List.take_append, ← bytesOf_length, List.take_length, Nat.sub_self, List.take_zero, List.append_nil]
  rw [e, strOf_bytesOf, Int.toNat_natCast]
theorem decL_encL {v : V} (h : leafB v = true) (hf : -9223372036854775808 ≤ v.f1 ∧ v.f1 ≤ 9223372036854775807) (more : List Int) : decL (encL v ++ more) = some (v, (encL v).length) := by
  obtain ⟨f0, f1, f2, f3, f4⟩ := v
  obtain ⟨h3, h4, hk⟩ := leaf_is h
  simp only at h3 h4 hk hf
  subst h3 h4
  unfold encL
  rcases hk with ⟨rfl, rfl⟩ | ⟨rfl, rfl, hs⟩ | ⟨rfl, rfl, h1⟩
  · simp only [if_true, List.cons_append, List.nil_append, List.append_assoc, decL, List.length_cons]
    simp only [show ((1 : Int) % 256) = 1 by decide, if_true]
    rw [decU_put (zig_lt hf.1 hf.2)]
    simp [zag_zig]
  · simp only [if_neg (show ¬ ((2 : Int) = 1) by decide), if_true, List.cons_append, List.nil_append, decL, List.length_cons]
    simp only [show ((2 : Int) % 256) = 2 by decide, if_neg (show ¬ ((2 : Int) = 1) by decide), if_true]
    rw [decT_put hs]
    simp [bytesOf_length]
  · simp only [if_neg (show ¬ ((3 : Int) = 1) by decide), if_neg (show ¬ ((3 : Int) = 2) by decide), List.cons_append, List.nil_append, decL, List.length_cons]
    simp only [show ((3 : Int) % 256) = 3 by decide, if_neg (show ¬ ((3 : Int) = 1) by decide), if_neg (show ¬ ((3 : Int) = 2) by decide), if_true]
    have e : f1 % 256 = f1 := by omega
    rw [e, if_neg (by omega)]
    rfl
theorem decFs_flat : ∀ (l : List V), l.all fieldB = true → (∀ v ∈ l, -9223372036854775808 ≤ v.f1 ∧ v.f1 ≤ 9223372036854775807) → ∀ more, decFs l.length (l.flatMap encL ++ more) = some (l, (l.flatMap encL).length)
  | [], _, _, more => by simp [decFs]
  | v :: l, hp, hw, more => by
    rw [List.all_cons, Bool.and_eq_true] at hp
    have hb : leafB v = true := by have := hp.1; simp [fieldB] at this; exact this.2
    simp only [List.length_cons, decFs, List.flatMap_cons, List.append_assoc]
    rw [decL_encL hb (hw v (List.mem_cons_self ..))]
    simp only
    rw [List.drop_append, List.drop_of_length_le (Nat.le_refl _), Nat.sub_self, List.drop_zero, List.nil_append, decFs_flat l hp.2 (fun x hx => hw x (List.mem_cons_of_mem _ hx)) more]
    simp
theorem decV_encV {v : V} (h : plainB v = true) (hi : In v) (more : List Int) : decV true (encV v ++ more) = some (v, (encV v).length) := by
  unfold encV
  by_cases h4 : v.f0 = 4
  · rw [if_pos h4]
    obtain ⟨a, b, c, d⟩ := plain_rec h h4
    have hx : v.f1 = 0 ∧ v.f2 = e0 := by
      unfold plainB at h
      rw [if_pos h4] at h
      simp only [Bool.and_eq_true, decide_eq_true_eq, beq_iff_eq] at h
      exact ⟨h.1.1.1.1.1, ext_empty h.1.1.1.1.2⟩
    obtain ⟨f0, f1, f2, f3, f4⟩ := v
    simp only at h4 a b c d hx hi ⊢
    obtain ⟨rfl, rfl⟩ := hx
    subst h4
    simp only [List.cons_append, List.nil_append, List.append_assoc, decV, List.length_cons]
    simp only [show ((4 : Int) % 256) = 4 by decide, if_true]
    unfold decR
    rw [decU_put (by omega)]
    have e1 : ((f3.toNat : Nat) : Int) = f3 := Int.toNat_of_nonneg a
    simp only [e1]
    rw [if_neg (by omega), List.drop_append, List.drop_of_length_le (Nat.le_refl _), Nat.sub_self, List.drop_zero, List.nil_append, decU_put (by omega)]
    simp only
    rw [if_neg (by omega), ← List.drop_drop, List.drop_append, List.drop_of_length_le (Nat.le_refl _), Nat.sub_self, List.drop_zero, List.nil_append, List.drop_append, List.drop_of_length_le (Nat.le_refl _), Nat.sub_self, List.drop_zero, List.nil_append, Int.toNat_natCast, decFs_flat f4 d (fun x hx => (hi.2.2 x hx).1)]
    simp [Nat.add_assoc]
  · rw [if_neg h4]
    have hl : plainB v = leafB v := by unfold plainB; rw [if_neg h4]
    have hb : leafB v = true := hl ▸ h
    have := decL_encL hb hi.1 more
    have hk := leaf_is hb
    have hc : v.f0 % 256 ≠ 4 := by omega
    have e : decV true (encL v ++ more) = decL (encL v ++ more) := by
      unfold encL
      simp only [List.cons_append, List.nil_append, decV]
      rw [if_neg hc]
    rw [e, this]

/-! ### what is read has these bytes -/
theorem bytesOf_strOf {l : List Int} (hb : Bytes l) : bytesOf (strOfNums l) = l := by
  unfold bytesOf strOfNums
  simp only [List.map_map]
  conv => rhs; rw [← List.map_id l]
  apply List.map_congr_left
  intro x hx
  have := hb x hx
  simp only [Function.comp_apply, id_eq, UInt8.toNat_ofNat']
  omega
theorem decT_back {most : Int} (hm : most ≤ 1000) {l : List Int} {s : ByteArray} {m : Nat} (hb : Bytes l) (h : decT most l = some (s, m)) : putU s.size ++ bytesOf s = l.take m ∧ (s.size : Int) ≤ most := by
  unfold decT at h
  cases hd : decU 0 l with
  | none => rw [hd] at h; simp at h
  | some r =>
    obtain ⟨n, len⟩ := r
    rw [hd] at h
    have hbd := decU_top hb hd
    have hp := put_dec hb hd
    simp only at h
    split at h
    · simp at h
    · split at h
      · simp at h
      · simp only [Option.some.injEq, Prod.mk.injEq] at h
        obtain ⟨rfl, rfl⟩ := h
        have hlen : ((l.take (len + n.toNat)).drop len).length = n.toNat := by simp; omega
        rw [strOf_size, hlen, hp, bytesOf_strOf (fun x hx => hb x (List.mem_of_mem_take (List.mem_of_mem_drop hx)))]
        refine ⟨?_, by omega⟩
        have : l.take len = (l.take (len + n.toNat)).take len := by rw [List.take_take, Nat.min_eq_left (by omega)]
        rw [this, List.take_append_drop]
theorem decL_back {l : List Int} {v : V} {m : Nat} (hb : Bytes l) (h : decL l = some (v, m)) : leafB v = true ∧ encL v = l.take m ∧ v.f0 ≠ 4 ∧ -9223372036854775808 ≤ v.f1 ∧ v.f1 ≤ 9223372036854775807 ∧ v.f4 = [] := by
  cases l with
  | nil => simp [decL] at h
  | cons c t =>
    have hc := hb.head
    simp only [decL] at h
    split at h
    · rename_i c1
      obtain ⟨r, hr, hq⟩ := Option.map_eq_some_iff.1 h
      obtain ⟨n, len⟩ := r
      simp only [Prod.mk.injEq] at hq
      obtain ⟨rfl, rfl⟩ := hq
      have hbd := decU_top hb.tail hr
      have hz := zag_range hbd.1 hbd.2.1
      have hp := put_dec hb.tail hr
      have e : zig (zag n) = n.toNat := by have := zig_zag hbd.1; omega
      refine ⟨by simp [leafB, leafOf, bareB, Lib.toList_data], ?_, by simp, hz.1, hz.2, rfl⟩
      unfold encL
      simp only [if_true, e, hp, c1, List.take_succ_cons]
      rfl
    · split at h
      · rename_i c2
        obtain ⟨r, hr, hq⟩ := Option.map_eq_some_iff.1 h
        obtain ⟨s, len⟩ := r
        simp only [Prod.mk.injEq] at hq
        obtain ⟨rfl, rfl⟩ := hq
        have hbk := decT_back (by decide) hb.tail hr
        refine ⟨by simp [leafB, leafOf, bareB]; omega, ?_, by simp, by simp, by simp, rfl⟩
        unfold encL
        simp only [if_neg (show ¬ ((2 : Int) = 1) by decide), if_true, hbk.1, c2, List.take_succ_cons]
        rfl
      · split at h
        · rename_i c3
          cases t with
          | nil => simp at h
          | cons d t =>
            have hd := hb.tail.head
            simp only at h
            split at h
            · simp at h
            · simp only [Option.some.injEq, Prod.mk.injEq] at h
              obtain ⟨rfl, rfl⟩ := h
              refine ⟨by simp [leafB, leafOf, bareB, Lib.toList_data]; omega, ?_, by simp, by simp only; omega, by simp only; omega, rfl⟩
              unfold encL
              have e : d % 256 = d := by omega
              simp only [if_neg (show ¬ ((3 : Int) = 1) by decide), if_neg (show ¬ ((3 : Int) = 2) by decide), e, c3, List.take_succ_cons, List.take_zero]
              rfl
        · simp at h
theorem take_two {l : List Int} {a b : Nat} : l.take a ++ (l.drop a).take b = l.take (a + b) := by rw [List.take_add]
theorem decFs_back : ∀ (k : Nat) (l : List Int) (fs : List V) (m : Nat), Bytes l → decFs k l = some (fs, m) → fs.all fieldB = true ∧ fs.flatMap encL = l.take m ∧ ∀ x ∈ fs, (-9223372036854775808 ≤ x.f1 ∧ x.f1 ≤ 9223372036854775807) ∧ x.f4 = []
  | 0, l, fs, m, _, h => by
    simp only [decFs, Option.some.injEq, Prod.mk.injEq] at h
    obtain ⟨rfl, rfl⟩ := h
    simp
  | k + 1, l, fs, m, hb, h => by
    simp only [decFs] at h
    split at h
    · simp at h
    · rename_i r hr
      obtain ⟨q, hq, he⟩ := Option.map_eq_some_iff.1 h
      simp only [Prod.mk.injEq] at he
      obtain ⟨rfl, rfl⟩ := he
      have h1 := decL_back hb hr
      have h2 := decFs_back k _ q.1 q.2 (hb.drop _) hq
      refine ⟨?_, ?_, ?_⟩
      · rw [List.all_cons, h2.1, Bool.and_true]
        simp [fieldB, h1.1, h1.2.2.1]
      · rw [List.flatMap_cons, h1.2.1, h2.2.1, take_two]
      · intro x hx
        rcases List.mem_cons.1 hx with rfl | hx
        · exact ⟨⟨h1.2.2.2.1, h1.2.2.2.2.1⟩, h1.2.2.2.2.2⟩
        · exact h2.2.2 x hx
/-- No fields within fields. -/
def Flat (v : V) : Prop := ∀ x ∈ v.f4, x.f4 = []
theorem decV_back {rec : Bool} {l : List Int} {v : V} {m : Nat} (hb : Bytes l) (h : decV rec l = some (v, m)) : plainB v = true ∧ encV v = l.take m ∧ In v ∧ Flat v := by
  cases l with
  | nil => simp [decV] at h
  | cons c t =>
    simp only [decV] at h
    split at h
    · rename_i c4
      split at h
      · unfold decR at h
        split at h
        · simp at h
        · rename_i r hr
          split at h
          · simp at h
          · split at h
            · simp at h
            · rename_i k hk
              split at h
              · simp at h
              · obtain ⟨q, hq, he⟩ := Option.map_eq_some_iff.1 h
                simp only [Prod.mk.injEq] at he
                obtain ⟨rfl, rfl⟩ := he
                have b1 := decU_top hb.tail hr
                have b2 := decU_top (hb.tail.drop _) hk
                have p1 := put_dec hb.tail hr
                have p2 := put_dec (hb.tail.drop _) hk
                have b3 := decFs_len _ _ q.1 q.2 (hb.tail.drop _) hq
                have b4 := decFs_back _ _ q.1 q.2 (hb.tail.drop _) hq
                refine ⟨?_, ?_, ⟨by simp, by simp only; omega, fun x hx => ⟨(b4.2.2 x hx).1, by rw [(b4.2.2 x hx).2]; simp⟩⟩, fun x hx => (b4.2.2 x hx).2⟩
                · simp only [plainB, if_true, b4.1, Bool.and_true, Bool.and_eq_true, decide_eq_true_eq, beq_iff_eq]
                  refine ⟨⟨⟨⟨trivial, by simp [Lib.toList_data]⟩, by omega⟩, by omega⟩, by omega⟩
                · simp only [encV, if_true, p1, b4.2.1, b3.1, p2, c4, List.take_succ_cons]
                  simp only [List.cons_append, List.nil_append, List.append_assoc]
                  congr 1
                  rw [← List.drop_drop, take_two, take_two, Nat.add_assoc]
      · simp at h
    · rename_i c4
      have h1 := decL_back hb h
      refine ⟨?_, ?_, ⟨⟨h1.2.2.2.1, h1.2.2.2.2.1⟩, by rw [h1.2.2.2.2.2]; simp, by rw [h1.2.2.2.2.2]; simp⟩, ?_⟩
      · unfold plainB; rw [if_neg h1.2.2.1]; exact h1.1
      · unfold encV; rw [if_neg h1.2.2.1]; exact h1.2.1
      · intro x hx; rw [h1.2.2.2.2.2] at hx; simp at hx
end Go.Proofs.Ythbnblmnamckmaa.Q
/-
  What the code's readers compute: a value, an event, or that there is none; and that a value is the same as itself. Conditions: the bytes are bytes, and no more than a slice may have.
-/
namespace Go.Proofs.Ythbnblmnamckmaa.Q
open Go.RowKit Go.Proofs.Ythbnblmnamckmaa.PAll Go.Proofs.YthbnblmnamckmaaW.PrintWords Go.Proofs.YthbnblmnamckmaaW.PrintLast Go.Proofs.YthbnblmnamckmaaW.PrintMore
set_option linter.unusedVariables false
set_option linter.unusedSimpArgs false

theorem takes_bad (b : List Int) (sz n e : Int) : codec_reader_takes.f b sz true n e = some (b, sz, true) := by simp [codec_reader_takes.f]
theorem takes_err (b : List Int) (sz : Int) (bad : Bool) (n : Int) {e : Int} (he : e ≠ 0) : codec_reader_takes.f b sz bad n e = some (b, sz, true) := by
  unfold codec_reader_takes.f
  cases bad <;> simp [he]
theorem takes_ok (b : List Int) (sz : Int) {n : Int} (h0 : 0 ≤ n) (h1 : n ≤ (b.length : Int)) : codec_reader_takes.f b sz false n 0 = some (b.drop n.toNat, wrap64 (sz + n), false) := by
  unfold codec_reader_takes.f
  simp [h0, h1]
theorem byte_bad (b : List Int) (sz : Int) : codec_reader_byte.f b sz true = some (0, b, sz, true) := by simp [codec_reader_byte.f]
theorem byte_nil (sz : Int) : codec_reader_byte.f [] sz false = some (0, [], sz, true) := by simp [codec_reader_byte.f]
theorem byte_cons (c : Int) (t : List Int) (sz : Int) : codec_reader_byte.f (c :: t) sz false = some (c, t, wrap64 (sz + 1), false) := by
  unfold codec_reader_byte.f
  have h1 : ¬ (((c :: t).length : Int) < 1) := by simp only [List.length_cons]; omega
  have h2 : (0 : Int) < ((c :: t).length : Int) := by simp only [List.length_cons]; omega
  rw [if_neg (by decide), if_neg h1, if_pos h2, decide_eq_false h1, takes_ok _ _ (by decide) (by simp only [List.length_cons]; omega)]
  rfl

theorem resT_none (l : List Int) (h : decT 64 l = none) : ∃ e : Int, e ≠ 0 ∧ resT 64 l (decU 0 l) = (e0, 0, e) := by
  unfold decT at h
  cases hd : decU 0 l with
  | none => exact ⟨20, by decide, rfl⟩
  | some r =>
    rw [hd] at h
    unfold resT
    simp only at h ⊢
    split
    · exact ⟨21, by decide, rfl⟩
    · split
      · exact ⟨20, by decide, rfl⟩
      · rename_i h1 h2
        rw [if_neg h1, if_neg h2] at h
        simp at h
theorem resT_some (l : List Int) (hb : Bytes l) {s : ByteArray} {m : Nat} (h : decT 64 l = some (s, m)) : resT 64 l (decU 0 l) = (s, (m : Int), 0) := by
  unfold decT at h
  cases hd : decU 0 l with
  | none => rw [hd] at h; simp at h
  | some r =>
    obtain ⟨n, len⟩ := r
    rw [hd] at h
    have hbd := decU_top hb hd
    unfold resT
    simp only at h ⊢
    split at h
    · simp at h
    · rename_i h1
      split at h
      · simp at h
      · rename_i h2
        rw [if_neg h1, if_neg h2]
        simp only [Option.some.injEq, Prod.mk.injEq] at h
        obtain ⟨rfl, rfl⟩ := h
        simp only [Prod.mk.injEq, and_true, true_and]
        omega
theorem ev_text_bad {b : List Int} (hb : Bytes b) (hl : b.length ≤ 140737488351232) (sz : Int) : ∃ s, Ev (fun k => codec_reader_text.f k b sz true) (s, b, sz, true) := by
  unfold codec_reader_text.f
  exact ⟨_, Ev.bind (ev_codec_Text hb hl) (by
    simp only [takes_bad, Option.bind_some]
    exact Ev.now _)⟩
theorem ev_text_none {b : List Int} (hb : Bytes b) (hl : b.length ≤ 140737488351232) (sz : Int) (h : decT 64 b = none) : ∃ s, Ev (fun k => codec_reader_text.f k b sz false) (s, b, sz, true) := by
  obtain ⟨e, he, hr⟩ := resT_none b h
  have ht := ev_codec_Text hb hl
  rw [hr] at ht
  unfold codec_reader_text.f
  exact ⟨_, Ev.bind ht (by
    simp only [takes_err b sz false 0 he, Option.bind_some]
    exact Ev.now _)⟩
theorem ev_text_some {b : List Int} (hb : Bytes b) (hl : b.length ≤ 140737488351232) {sz : Int} (h0 : 0 ≤ sz) (hs : sz + b.length ≤ 1000000000000000000) {s : ByteArray} {m : Nat} (h : decT 64 b = some (s, m)) : Ev (fun k => codec_reader_text.f k b sz false) (s, b.drop m, sz + m, false) := by
  have ht := ev_codec_Text hb hl
  rw [resT_some b hb h] at ht
  have hm := decT_len hb h
  unfold codec_reader_text.f
  refine Ev.bind ht ?_
  simp only [takes_ok b sz (show (0 : Int) ≤ (m : Int) by omega) (by omega), Option.bind_some, Int.toNat_natCast, w64_id (n := sz + (m : Int)) (by omega) (by omega)]
  exact Ev.now _
theorem ev_count_bad {b : List Int} (hb : Bytes b) (sz most : Int) : Ev (fun k => codec_reader_count.f k b sz true most) (0, b, sz, true) := by
  unfold codec_reader_count.f
  refine Ev.bind (ev_codec_Uint hb) ?_
  simp only [takes_bad, Option.bind_some, if_true]
  exact Ev.now _
theorem ev_count_none {b : List Int} (hb : Bytes b) (sz most : Int) (h : decU 0 b = none) : Ev (fun k => codec_reader_count.f k b sz false most) (0, b, sz, true) := by
  have hu := ev_codec_Uint hb
  rw [h, resU_none] at hu
  unfold codec_reader_count.f
  refine Ev.bind hu ?_
  simp only [takes_err b sz false 0 (show (20 : Int) ≠ 0 by decide), Option.bind_some, if_true]
  exact Ev.now _
theorem ev_count_some {b : List Int} (hb : Bytes b) {sz : Int} (h0 : 0 ≤ sz) (hs : sz + b.length ≤ 1000000000000000000) {n : Int} {len : Nat} (h : decU 0 b = some (n, len)) {most : Int} (hm : most ≤ 1000) : Ev (fun k => codec_reader_count.f k b sz false most) (if n > most then (0, b.drop len, sz + len, true) else (n, b.drop len, sz + len, false)) := by
  have hu := ev_codec_Uint hb
  rw [h, resU_some] at hu
  have hbd := decU_top hb h
  unfold codec_reader_count.f
  refine Ev.bind hu ?_
  simp only [takes_ok b sz (show (0 : Int) ≤ (len : Int) by omega) (by omega), Option.bind_some, Int.toNat_natCast, w64_id (n := sz + (len : Int)) (by omega) (by omega), if_neg (show ¬ (false = true) by decide)]
  by_cases hn : n > most
  · simp only [if_pos hn, decide_eq_true hn]
    exact Ev.now _
  · simp only [if_neg hn, decide_eq_false hn, w64_id (n := n) (by omega) (by omega)]
    exact Ev.now _

/-! ### a value -/
theorem ev_value_bad {b : List Int} (sz : Int) (fld : Bool) : Ev (fun k => codec_reader_value.f k b sz true fld) (0, 0, e0, 0, [], b, sz, true) := by
  refine Ev.step (fun k => rfl) ?_
  simp only [codec_reader_value.f, byte_bad, Option.bind_some]
  have e : wrap64 0 = 0 := w64_id (by omega) (by omega)
  simp only [e, if_neg (show ¬ ((0 : Int) = 1) by decide), if_neg (show ¬ ((0 : Int) = 2) by decide), if_neg (show ¬ ((0 : Int) = 3) by decide), if_neg (show ¬ ((0 : Int) = 4) by decide)]
  exact Ev.now _
theorem ev_l0_bad {b : List Int} (sz x0 x1 : Int) (x2 : ByteArray) (x3 : Int) : ∀ (d i : Nat) (n : Nat) (acc : List V), i + d = n → n ≤ 1000 → acc.length ≤ i → ∃ acc', Ev (fun k => codec_reader_value.l0 k (n : Int) (i : Int) b sz true x0 x1 x2 x3 acc) (x0, x1, x2, x3, acc', b, sz, true) := by
  intro d
  induction d with
  | zero =>
    intro i n acc hi hn ha
    refine ⟨acc, Ev.step (fun k => rfl) ?_⟩
    simp only [codec_reader_value.l0]
    simp only [if_neg (show ¬ ((i : Int) < (n : Int)) by omega)]
    exact Ev.now _
  | succ d ih =>
    intro i n acc hi hn ha
    obtain ⟨acc', h⟩ := ih (i + 1) n (acc ++ [(⟨0, 0, e0, 0, []⟩ : V)]) (by omega) hn (by simp; omega)
    refine ⟨acc', Ev.step (fun k => rfl) ?_⟩
    simp only [codec_reader_value.l0]
    have e1 : wrap64 ((i : Int) + 1) = ((i + 1 : Nat) : Int) := by rw [w64_id (by omega) (by omega)]; omega
    simp only [if_pos (show ((i : Int) < (n : Int)) by omega)]
    refine Ev.bind (ev_value_bad sz true) ?_
    simp only [if_pos (show acc.length < 2199023255552 by omega), e1]
    exact h
theorem ev_j0_bad {b : List Int} (hb : Bytes b) (sz x0 x1 : Int) (x2 : ByteArray) (x3 : Int) : ∃ y3 acc', Ev (fun k => codec_reader_value.j0 k b sz true x0 x1 x2 x3) (x0, x1, x2, y3, acc', b, sz, true) := by
  obtain ⟨acc', h⟩ := ev_l0_bad (b := b) sz x0 x1 x2 0 0 0 0 [] rfl (by omega) (by simp)
  refine ⟨0, acc', Ev.step (fun k => rfl) ?_⟩
  simp only [codec_reader_value.j0]
  refine Ev.bind (ev_count_bad hb sz 15) ?_
  refine Ev.bind (ev_count_bad hb sz 12) ?_
  exact h
/-- What the reader comes to: the value and where it stands then; or that it is bad. -/
def Good (g : Nat → Option (Int × Int × ByteArray × Int × List V × List Int × Int × Bool)) (b : List Int) (sz : Int) : Option (V × Nat) → Prop
  | some r => Ev g (r.1.f0, r.1.f1, r.1.f2, r.1.f3, r.1.f4, b.drop r.2, sz + r.2, false)
  | none => ∃ a0 a1 a2 a3 a4 b' sz', Bytes b' ∧ Ev g (a0, a1, a2, a3, a4, b', sz', true)
theorem ev_value_good (fld : Bool) {b : List Int} (hb : Bytes b) (hl : b.length ≤ 140737488351232) {sz : Int} (h0 : 0 ≤ sz) (hs : sz + b.length ≤ 1000000000000000000)
    (hrec : ∀ t, b = 4 :: t → fld = false → Good (fun k => codec_reader_value.j0 k t (sz + 1) false 4 0 e0 0) b sz (decR t)) :
    Good (fun k => codec_reader_value.f k b sz false fld) b sz (decV (!fld) b) := by
  cases b with
  | nil =>
    exact ⟨_, _, _, _, _, [], _, hb, Ev.step (fun k => rfl) (by
      simp only [codec_reader_value.f, byte_nil, Option.bind_some]
      have e : wrap64 0 = 0 := w64_id (by omega) (by omega)
      simp only [e, if_neg (show ¬ ((0 : Int) = 1) by decide), if_neg (show ¬ ((0 : Int) = 2) by decide), if_neg (show ¬ ((0 : Int) = 3) by decide), if_neg (show ¬ ((0 : Int) = 4) by decide)]
      exact Ev.now _)⟩
  | cons c t =>
    have hc := hb.head
    have hbt := hb.tail
    simp only [List.length_cons] at hl hs
    have e1 : wrap64 c = c := w64_id (by omega) (by omega)
    have e2 : wrap64 (sz + 1) = sz + 1 := w64_id (by omega) (by omega)
    have start : ∀ r, Ev (fun k => (if c = 1 then ((codec_Int.f k t).bind fun bt416 => ((codec_reader_takes.f t (sz + 1) false bt416.2.1 bt416.2.2).bind fun bt419 => (some (c, bt416.1, (⟨#[]⟩ : ByteArray), (0 : Int), ([] : List V), bt419.1, bt419.2.1, bt419.2.2)))) else (if c = 2 then ((codec_reader_text.f k t (sz + 1) false).bind fun bt422 => (some (c, 0, bt422.1, 0, ([] : List V), bt422.2.1, bt422.2.2.1, bt422.2.2.2))) else (if c = 3 then ((codec_reader_byte.f t (sz + 1) false).bind fun bt426 => (if bt426.2.2.2 = true then (some (c, wrap64 (bt426.1), (⟨#[]⟩ : ByteArray), 0, ([] : List V), bt426.2.1, bt426.2.2.1, true)) else (some (c, wrap64 (bt426.1), (⟨#[]⟩ : ByteArray), 0, ([] : List V), bt426.2.1, bt426.2.2.1, decide ((wrap64 (bt426.1)) > 1))))) else (if c = 4 then (codec_reader_value.j0 k t (sz + 1) fld c 0 (⟨#[]⟩ : ByteArray) 0) else (some (c, 0, (⟨#[]⟩ : ByteArray), 0, ([] : List V), t, sz + 1, true))))))) r → Ev (fun k => codec_reader_value.f k (c :: t) sz false fld) r := by
      intro r h
      refine Ev.step (fun k => rfl) ?_
      simp only [codec_reader_value.f, byte_cons, Option.bind_some, e1, e2, if_neg (show ¬ (false = true) by decide)]
      exact h
    have fin : ∀ (m : Nat) (x : List Int), (c :: t).drop (m + 1) = t.drop m := fun m x => rfl
    simp only [decV]
    by_cases k4 : c = 4
    · rw [if_pos k4]
      subst k4
      cases fld with
      | true =>
        simp only [Bool.not_true, if_neg (show ¬ (false = true) by decide)]
        obtain ⟨y3, acc', h⟩ := ev_j0_bad hbt (sz + 1) 4 0 e0 0
        exact ⟨_, _, _, _, _, t, _, hbt, start _ (by
          simp only [if_neg (show ¬ ((4 : Int) = 1) by decide), if_neg (show ¬ ((4 : Int) = 2) by decide), if_neg (show ¬ ((4 : Int) = 3) by decide), if_true]
          exact h)⟩
      | false =>
        simp only [Bool.not_false, if_true]
        have h := hrec t rfl rfl
        cases hd : decR t with
        | none =>
          rw [hd] at h
          obtain ⟨a0, a1, a2, a3, a4, b', sz', hb', h⟩ := h
          refine ⟨a0, a1, a2, a3, a4, b', sz', hb', start _ ?_⟩
          simp only [if_neg (show ¬ ((4 : Int) = 1) by decide), if_neg (show ¬ ((4 : Int) = 2) by decide), if_neg (show ¬ ((4 : Int) = 3) by decide), if_true]
          exact h
        | some r =>
          rw [hd] at h
          refine start _ ?_
          simp only [if_neg (show ¬ ((4 : Int) = 1) by decide), if_neg (show ¬ ((4 : Int) = 2) by decide), if_neg (show ¬ ((4 : Int) = 3) by decide), if_true]
          exact h
    · rw [if_neg k4]
      simp only [decL]
      by_cases k1 : c = 1
      · rw [if_pos k1]
        have hi := ev_codec_Int hbt
        cases hd : decU 0 t with
        | none =>
          rw [hd] at hi
          exact ⟨_, _, _, _, _, t, _, hbt, start _ (by
            simp only [if_pos k1]
            refine Ev.bind hi ?_
            simp only [resI, takes_err t (sz + 1) false 0 (show (20 : Int) ≠ 0 by decide), Option.bind_some]
            exact Ev.now _)⟩
        | some r =>
          obtain ⟨n, len⟩ := r
          rw [hd] at hi
          have hbd := decU_top hbt hd
          refine start _ ?_
          simp only [if_pos k1]
          refine Ev.bind hi ?_
          simp only [resI, takes_ok t (sz + 1) (show (0 : Int) ≤ (len : Int) by omega) (by omega), Option.bind_some, Int.toNat_natCast, w64_id (n := sz + 1 + (len : Int)) (by omega) (by omega)]
          refine ev_eq ?_
          simp only [k1, Option.map_some, List.drop_succ_cons, Prod.mk.injEq, and_true, true_and]
          omega
      · rw [if_neg k1]
        by_cases k2 : c = 2
        · rw [if_pos k2]
          cases hd : decT 64 t with
          | none =>
            obtain ⟨s, h⟩ := ev_text_none hbt (by omega) (sz + 1) hd
            exact ⟨_, _, _, _, _, t, _, hbt, start _ (by
              simp only [if_neg k1, if_pos k2]
              exact Ev.bind h (Ev.now _))⟩
          | some r =>
            obtain ⟨s, m⟩ := r
            have hm := decT_len hbt hd
            refine start _ ?_
            simp only [if_neg k1, if_pos k2]
            refine Ev.bind (ev_text_some hbt (by omega) (by omega) (by omega) hd) ?_
            refine ev_eq ?_
            simp only [k2, Option.map_some, List.drop_succ_cons, Prod.mk.injEq, and_true, true_and]
            omega
        · rw [if_neg k2]
          by_cases k3 : c = 3
          · rw [if_pos k3]
            cases t with
            | nil =>
              exact ⟨_, _, _, _, _, [], _, hbt, start _ (by
                simp only [if_neg k1, if_neg k2, if_pos k3, byte_nil, Option.bind_some, if_true]
                exact Ev.now _)⟩
            | cons d t =>
              have hd := hbt.head
              simp only [List.length_cons] at hl hs
              have e3 : wrap64 d = d := w64_id (by omega) (by omega)
              have e4 : wrap64 (sz + 1 + 1) = sz + 1 + 1 := w64_id (by omega) (by omega)
              by_cases h1 : d > 1
              · simp only [if_pos h1]
                exact ⟨_, _, _, _, _, t, _, hbt.tail, start _ (by
                  simp only [if_neg k1, if_neg k2, if_pos k3, byte_cons, Option.bind_some, if_neg (show ¬ (false = true) by decide), e3, decide_eq_true h1]
                  exact Ev.now _)⟩
              · simp only [if_neg h1]
                refine start _ ?_
                simp only [if_neg k1, if_neg k2, if_pos k3, byte_cons, Option.bind_some, if_neg (show ¬ (false = true) by decide), e3, e4, decide_eq_false h1]
                refine ev_eq ?_
                simp only [k3, List.drop_succ_cons, List.drop_zero, Prod.mk.injEq, and_true, true_and]
                omega
          · rw [if_neg k3]
            exact ⟨_, _, _, _, _, t, _, hbt, start _ (by
              simp only [if_neg k1, if_neg k2, if_neg k3, if_neg k4]
              exact Ev.now _)⟩
theorem decV_false (l : List Int) : decV false l = decL l := by
  cases l with
  | nil => rfl
  | cons c t =>
    simp only [decV]
    by_cases h : c = 4
    · rw [if_pos h]
      subst h
      simp [decL]
    · rw [if_neg h]
theorem ev_value_leaf {b : List Int} (hb : Bytes b) (hl : b.length ≤ 140737488351232) {sz : Int} (h0 : 0 ≤ sz) (hs : sz + b.length ≤ 1000000000000000000) : Good (fun k => codec_reader_value.f k b sz false true) b sz (decL b) := by
  have := ev_value_good true hb hl h0 hs (fun _ _ h => absurd h (by decide))
  rwa [Bool.not_true, decV_false] at this
theorem ev_l0 (x0 x1 : Int) (x2 : ByteArray) (x3 : Int) : ∀ (d i : Nat) (n : Nat) (acc : List V) (b : List Int) (sz : Int), i + d = n → n ≤ 1000 → acc.length ≤ i → Bytes b → b.length ≤ 140737488351232 → 0 ≤ sz → sz + b.length ≤ 1000000000000000000 →
    match decFs d b with
    | some q => Ev (fun k => codec_reader_value.l0 k (n : Int) (i : Int) b sz false x0 x1 x2 x3 acc) (x0, x1, x2, x3, acc ++ q.1, b.drop q.2, sz + q.2, false)
    | none => ∃ acc' b' sz', Bytes b' ∧ Ev (fun k => codec_reader_value.l0 k (n : Int) (i : Int) b sz false x0 x1 x2 x3 acc) (x0, x1, x2, x3, acc', b', sz', true) := by
  intro d
  induction d with
  | zero =>
    intro i n acc b sz hi hn ha hb hl h0 hs
    simp only [decFs]
    refine Ev.step (fun k => rfl) ?_
    simp only [codec_reader_value.l0]
    simp only [if_neg (show ¬ ((i : Int) < (n : Int)) by omega)]
    exact ev_eq (by simp)
  | succ d ih =>
    intro i n acc b sz hi hn ha hb hl h0 hs
    have e1 : wrap64 ((i : Int) + 1) = ((i + 1 : Nat) : Int) := by rw [w64_id (by omega) (by omega)]; omega
    have hv := ev_value_leaf hb hl h0 hs
    simp only [decFs]
    cases hd : decL b with
    | none =>
      rw [hd] at hv
      obtain ⟨a0, a1, a2, a3, a4, b', sz', hb', h⟩ := hv
      obtain ⟨acc', h2⟩ := ev_l0_bad (b := b') sz' x0 x1 x2 x3 d (i + 1) n (acc ++ [(⟨a0, a1, a2, a3, a4⟩ : V)]) (by omega) hn (by simp; omega)
      refine ⟨acc', b', sz', hb', Ev.step (fun k => rfl) ?_⟩
      simp only [codec_reader_value.l0]
      simp only [if_pos (show ((i : Int) < (n : Int)) by omega)]
      refine Ev.bind h ?_
      simp only [if_pos (show acc.length < 2199023255552 by omega), e1]
      exact h2
    | some r =>
      obtain ⟨v, m⟩ := r
      obtain ⟨p0, p1, p2, p3, p4⟩ := v
      rw [hd] at hv
      have hm := decL_len hb hd
      have h2 := ih (i + 1) n (acc ++ [(⟨p0, p1, p2, p3, p4⟩ : V)]) (b.drop m) (sz + m) (by omega) hn (by simp; omega) (hb.drop _) (by simp; omega) (by omega) (by simp; omega)
      simp only
      cases hq : decFs d (b.drop m) with
      | none =>
        rw [hq] at h2
        obtain ⟨acc', b', sz', hb', h2⟩ := h2
        refine ⟨acc', b', sz', hb', Ev.step (fun k => rfl) ?_⟩
        simp only [codec_reader_value.l0]
        simp only [if_pos (show ((i : Int) < (n : Int)) by omega)]
        refine Ev.bind hv ?_
        simp only [if_pos (show acc.length < 2199023255552 by omega), e1]
        exact h2
      | some q =>
        rw [hq] at h2
        refine Ev.step (fun k => rfl) ?_
        simp only [codec_reader_value.l0]
        simp only [if_pos (show ((i : Int) < (n : Int)) by omega)]
        refine Ev.bind hv ?_
        simp only [if_pos (show acc.length < 2199023255552 by omega), e1]
        refine ev_val h2 ?_
        simp only [List.append_assoc, List.cons_append, List.nil_append, List.drop_drop, Prod.mk.injEq, and_true, true_and]
        omega
theorem ev_j0 {t : List Int} (hb : Bytes t) (hl : t.length + 1 ≤ 140737488351232) {sz : Int} (h0 : 0 ≤ sz) (hs : sz + t.length + 1 ≤ 1000000000000000000) : Good (fun k => codec_reader_value.j0 k t (sz + 1) false 4 0 e0 0) (4 :: t) sz (decR t) := by
  have zero : ∀ (b : List Int) (s : Int) (y3 : Int), ∃ acc', Ev (fun k => codec_reader_value.l0 k 0 0 b s true 4 0 e0 y3 []) (4, 0, e0, y3, acc', b, s, true) := fun b s y3 => ev_l0_bad (b := b) s 4 0 e0 y3 0 0 0 [] rfl (by omega) (by simp)
  unfold decR
  cases hr : decU 0 t with
  | none =>
    obtain ⟨acc', h⟩ := zero t (sz + 1) 0
    exact ⟨_, _, _, _, _, t, _, hb, Ev.step (fun k => rfl) (by
      simp only [codec_reader_value.j0]
      refine Ev.bind (ev_count_none hb _ _ hr) ?_
      refine Ev.bind (ev_count_bad hb _ _) ?_
      exact h)⟩
  | some r =>
    obtain ⟨n, len⟩ := r
    have h1 := decU_top hb hr
    have c1 := ev_count_some hb (show 0 ≤ sz + 1 by omega) (by omega) hr (show (15 : Int) ≤ 1000 by decide)
    have hb2 := hb.drop len
    simp only
    by_cases hn : n > 15
    · rw [if_pos hn] at c1 ⊢
      obtain ⟨acc', h⟩ := zero (t.drop len) (sz + 1 + len) 0
      exact ⟨_, _, _, _, _, t.drop len, _, hb2, Ev.step (fun k => rfl) (by
        simp only [codec_reader_value.j0]
        refine Ev.bind c1 ?_
        refine Ev.bind (ev_count_bad hb2 _ _) ?_
        exact h)⟩
    · rw [if_neg hn] at c1 ⊢
      cases hc : decU 0 (t.drop len) with
      | none =>
        obtain ⟨acc', h⟩ := zero (t.drop len) (sz + 1 + len) n
        exact ⟨_, _, _, _, _, t.drop len, _, hb2, Ev.step (fun k => rfl) (by
          simp only [codec_reader_value.j0]
          refine Ev.bind c1 ?_
          refine Ev.bind (ev_count_none hb2 _ _ hc) ?_
          exact h)⟩
      | some c =>
        obtain ⟨m, len2⟩ := c
        have h2 := decU_top hb2 hc
        have hld : (t.drop len).length = t.length - len := by simp
        have c2 := ev_count_some hb2 (show 0 ≤ sz + 1 + (len : Int) by omega) (by rw [hld]; omega) hc (show (12 : Int) ≤ 1000 by decide)
        have hb3 := hb2.drop len2
        simp only
        by_cases hm : m > 12
        · rw [if_pos hm] at c2 ⊢
          obtain ⟨acc', h⟩ := zero ((t.drop len).drop len2) (sz + 1 + len + len2) n
          exact ⟨_, _, _, _, _, (t.drop len).drop len2, _, hb3, Ev.step (fun k => rfl) (by
            simp only [codec_reader_value.j0]
            refine Ev.bind c1 ?_
            refine Ev.bind c2 ?_
            exact h)⟩
        · rw [if_neg hm] at c2 ⊢
          have hl3 : ((t.drop len).drop len2).length = t.length - len - len2 := by simp [Nat.sub_add_eq]
          have h3 := ev_l0 4 0 e0 n m.toNat 0 m.toNat [] ((t.drop len).drop len2) (sz + 1 + len + len2) (by omega) (by omega) (by simp) hb3 (by rw [hl3]; omega) (by omega) (by rw [hl3]; omega)
          have em : ((m.toNat : Nat) : Int) = m := Int.toNat_of_nonneg h2.1
          rw [em] at h3
          rw [List.drop_drop] at h3 c2
          cases hq : decFs m.toNat (t.drop (len + len2)) with
          | none =>
            rw [hq] at h3
            obtain ⟨acc', b', sz', hb', h⟩ := h3
            exact ⟨_, _, _, _, _, b', sz', hb', Ev.step (fun k => rfl) (by
              simp only [codec_reader_value.j0]
              refine Ev.bind c1 ?_
              refine Ev.bind c2 ?_
              exact h)⟩
          | some q =>
            rw [hq] at h3
            simp only [Option.map_some]
            refine Ev.step (fun k => rfl) ?_
            simp only [codec_reader_value.j0]
            refine Ev.bind c1 ?_
            refine Ev.bind c2 ?_
            refine ev_val h3 ?_
            simp only [List.nil_append, List.drop_succ_cons, List.drop_drop, Prod.mk.injEq, and_true, true_and]
            omega
theorem ev_value {b : List Int} (hb : Bytes b) (hl : b.length ≤ 140737488351232) {sz : Int} (h0 : 0 ≤ sz) (hs : sz + b.length ≤ 1000000000000000000) : Good (fun k => codec_reader_value.f k b sz false false) b sz (decV true b) := by
  refine ev_value_good false hb hl h0 hs (fun t ht _ => ?_)
  subst ht
  simp only [List.length_cons] at hl hs
  exact ev_j0 hb.tail hl h0 (by omega)
def resV : Option (V × Nat) → Int × Int × ByteArray × Int × List V × Int × Int
  | none => (0, 0, e0, 0, [], 0, 20)
  | some r => (r.1.f0, r.1.f1, r.1.f2, r.1.f3, r.1.f4, (r.2 : Int), 0)
theorem ev_codec_Value {b : List Int} (hb : Bytes b) (hl : b.length ≤ 140737488351232) : Ev (fun k => codec_Value.f k b) (resV (decV true b)) := by
  have h := ev_value hb hl (show (0 : Int) ≤ 0 by decide) (by omega)
  unfold codec_Value.f
  cases hd : decV true b with
  | none =>
    rw [hd] at h
    obtain ⟨a0, a1, a2, a3, a4, b', sz', _, h⟩ := h
    refine Ev.bind h ?_
    simp only [if_true]
    exact Ev.now _
  | some r =>
    rw [hd] at h
    refine Ev.bind h ?_
    simp only [if_neg (show ¬ (false = true) by decide)]
    exact ev_eq (by simp [resV])

/-! ### an event -/
def decE (l : List Int) : Option ((ByteArray × List V) × Nat) :=
  match decT 64 l with
  | none => none
  | some s => if s.1.size < 1 ∨ s.1.size > 20 then none else match decU 0 (l.drop s.2) with
    | none => none
    | some c => if c.1 > 12 then none else (decVs c.1.toNat (l.drop (s.2 + c.2))).map fun q => ((s.1, q.1), s.2 + c.2 + q.2)
def resE : Option ((ByteArray × List V) × Nat) → ByteArray × List V × Int × Int
  | none => (e0, [], 0, 20)
  | some r => (r.1.1, r.1.2, (r.2 : Int), 0)
theorem ev_E_l0_bad {b : List Int} (sz : Int) (s : ByteArray) : ∀ (d i : Nat) (n : Nat) (acc : List V), i + d = n → n ≤ 1000 → acc.length ≤ i → Ev (fun k => codec_Event.l0 k (n : Int) (i : Int) b sz true s acc) (e0, [], 0, 20) := by
  intro d
  induction d with
  | zero =>
    intro i n acc hi hn ha
    refine Ev.step (fun k => rfl) ?_
    simp only [codec_Event.l0]
    simp only [if_neg (show ¬ ((i : Int) < (n : Int)) by omega), if_true]
    exact Ev.now _
  | succ d ih =>
    intro i n acc hi hn ha
    refine Ev.step (fun k => rfl) ?_
    simp only [codec_Event.l0]
    have e1 : wrap64 ((i : Int) + 1) = ((i + 1 : Nat) : Int) := by rw [w64_id (by omega) (by omega)]; omega
    simp only [if_pos (show ((i : Int) < (n : Int)) by omega)]
    refine Ev.bind (ev_value_bad sz false) ?_
    simp only [if_pos (show acc.length < 2199023255552 by omega), e1]
    exact ih (i + 1) n _ (by omega) hn (by simp; omega)
theorem ev_E_l0 (s : ByteArray) : ∀ (d i : Nat) (n : Nat) (acc : List V) (b : List Int) (sz : Int), i + d = n → n ≤ 1000 → acc.length ≤ i → Bytes b → b.length ≤ 140737488351232 → 0 ≤ sz → sz + b.length ≤ 1000000000000000000 →
    Ev (fun k => codec_Event.l0 k (n : Int) (i : Int) b sz false s acc) (match decVs d b with | some q => (s, acc ++ q.1, sz + q.2, 0) | none => (e0, [], 0, 20)) := by
  intro d
  induction d with
  | zero =>
    intro i n acc b sz hi hn ha hb hl h0 hs
    simp only [decVs]
    refine Ev.step (fun k => rfl) ?_
    simp only [codec_Event.l0]
    simp only [if_neg (show ¬ ((i : Int) < (n : Int)) by omega), if_neg (show ¬ (false = true) by decide)]
    exact ev_eq (by simp)
  | succ d ih =>
    intro i n acc b sz hi hn ha hb hl h0 hs
    have e1 : wrap64 ((i : Int) + 1) = ((i + 1 : Nat) : Int) := by rw [w64_id (by omega) (by omega)]; omega
    have hv := ev_value hb hl h0 hs
    simp only [decVs]
    refine Ev.step (fun k => rfl) ?_
    simp only [codec_Event.l0]
    simp only [if_pos (show ((i : Int) < (n : Int)) by omega)]
    cases hd : decV true b with
    | none =>
      rw [hd] at hv
      obtain ⟨a0, a1, a2, a3, a4, b', sz', hb', h⟩ := hv
      refine Ev.bind h ?_
      simp only [if_pos (show acc.length < 2199023255552 by omega), e1]
      exact ev_E_l0_bad sz' s d (i + 1) n _ (by omega) hn (by simp; omega)
    | some r =>
      obtain ⟨v, m⟩ := r
      obtain ⟨p0, p1, p2, p3, p4⟩ := v
      rw [hd] at hv
      have hm := decV_len hb hd
      have h2 := ih (i + 1) n (acc ++ [(⟨p0, p1, p2, p3, p4⟩ : V)]) (b.drop m) (sz + m) (by omega) hn (by simp; omega) (hb.drop _) (by simp; omega) (by omega) (by simp; omega)
      refine Ev.bind hv ?_
      simp only [if_pos (show acc.length < 2199023255552 by omega), e1]
      refine ev_val h2 ?_
      cases hq : decVs d (b.drop m) with
      | none => rfl
      | some q =>
        simp only [Option.map_some, List.append_assoc, List.cons_append, List.nil_append, Prod.mk.injEq, and_true, true_and]
        omega
theorem ev_E_j0_bad {b : List Int} (hb : Bytes b) (sz : Int) (s : ByteArray) : Ev (fun k => codec_Event.j0 k b sz true s) (e0, [], 0, 20) := by
  refine Ev.step (fun k => rfl) ?_
  simp only [codec_Event.j0]
  refine Ev.bind (ev_count_bad hb sz 12) ?_
  exact ev_E_l0_bad sz s 0 0 0 [] rfl (by omega) (by simp)
theorem ev_codec_Event {b : List Int} (hb : Bytes b) (hl : b.length ≤ 140737488351232) : Ev (fun k => codec_Event.f k b) (resE (decE b)) := by
  unfold codec_Event.f decE
  cases hd : decT 64 b with
  | none =>
    obtain ⟨s, h⟩ := ev_text_none hb hl 0 hd
    refine Ev.bind h ?_
    simp only [if_true]
    exact ev_E_j0_bad hb 0 s
  | some r =>
    obtain ⟨s, m⟩ := r
    have hm := decT_len hb hd
    have h := ev_text_some hb hl (show (0 : Int) ≤ 0 by decide) (by omega) hd
    refine Ev.bind h ?_
    simp only [if_neg (show ¬ (false = true) by decide)]
    have hb2 := hb.drop m
    have hl2 : (b.drop m).length = b.length - m := by simp
    by_cases h1 : s.size < 1
    · simp only [if_pos (show (s.size : Int) < 1 by omega)]
      rw [if_pos (.inl h1)]
      exact ev_E_j0_bad hb2 _ s
    · simp only [if_neg (show ¬ ((s.size : Int) < 1) by omega)]
      by_cases h2 : s.size > 20
      · rw [if_pos (.inr h2), decide_eq_true (show (s.size : Int) > 20 by omega)]
        exact ev_E_j0_bad hb2 _ s
      · rw [if_neg (by omega), decide_eq_false (show ¬ ((s.size : Int) > 20) by omega)]
        refine Ev.step (fun k => rfl) ?_
        simp only [codec_Event.j0]
        cases hc : decU 0 (b.drop m) with
        | none =>
          refine Ev.bind (ev_count_none hb2 _ _ hc) ?_
          exact ev_E_l0_bad _ s 0 0 0 [] rfl (by omega) (by simp)
        | some c =>
          obtain ⟨n, len⟩ := c
          have hn := decU_top hb2 hc
          have c1 := ev_count_some hb2 (show 0 ≤ 0 + (m : Int) by omega) (by rw [hl2]; omega) hc (show (12 : Int) ≤ 1000 by decide)
          simp only
          by_cases hgt : n > 12
          · rw [if_pos hgt] at c1 ⊢
            refine Ev.bind c1 ?_
            exact ev_E_l0_bad _ s 0 0 0 [] rfl (by omega) (by simp)
          · rw [if_neg hgt] at c1 ⊢
            refine Ev.bind c1 ?_
            have h3 := ev_E_l0 s n.toNat 0 n.toNat [] ((b.drop m).drop len) (0 + m + len) (by omega) (by omega) (by simp) (hb2.drop _) (by simp; omega) (by omega) (by simp; omega)
            have en : ((n.toNat : Nat) : Int) = n := Int.toNat_of_nonneg hn.1
            rw [en, List.drop_drop] at h3
            rw [List.drop_drop]
            refine ev_val h3 ?_
            cases hq : decVs n.toNat (b.drop (m + len)) with
            | none => rfl
            | some q =>
              simp only [resE, Option.map_some, List.nil_append, Prod.mk.injEq, and_true, true_and]
              omega
end Go.Proofs.Ythbnblmnamckmaa.Q
/-
  Plain facts on events as bytes, and that what is written are bytes. No program stands here. Conditions: those named in each lemma.
-/
namespace Go.Proofs.Ythbnblmnamckmaa.Q
open Go.RowKit Go.Proofs.Ythbnblmnamckmaa.PAll Go.Proofs.YthbnblmnamckmaaW.PrintWords Go.Proofs.YthbnblmnamckmaaW.PrintLast Go.Proofs.YthbnblmnamckmaaW.PrintMore
set_option linter.unusedVariables false
set_option linter.unusedSimpArgs false

theorem bytes_one (x : Int) : Bytes [x % 256] := by
  intro y hy
  simp only [List.mem_singleton] at hy
  omega
theorem encL_bytes (v : V) : Bytes (encL v) := by
  unfold encL
  refine (bytes_one _).app ?_
  split
  · exact putU_bytes _
  · split
    · exact Bytes.app (putU_bytes _) (bytes_of _)
    · exact bytes_one _
theorem flat_bytes (f : V → List Int) (hf : ∀ v, Bytes (f v)) : ∀ l : List V, Bytes (l.flatMap f)
  | [] => by intro x hx; simp at hx
  | v :: l => by rw [List.flatMap_cons]; exact (hf v).app (flat_bytes f hf l)
theorem encV_bytes (v : V) : Bytes (encV v) := by
  unfold encV
  split
  · exact (((bytes_one _).app (putU_bytes _)).app (putU_bytes _)).app (flat_bytes _ encL_bytes _)
  · exact encL_bytes v
theorem flatV_len : ∀ (l : List V), l.all plainB = true → (∀ v ∈ l, In v) → (l.flatMap encV).length ≤ 1000 * l.length
  | [], _, _ => by simp
  | v :: l, hp, hi => by
    rw [List.all_cons, Bool.and_eq_true] at hp
    have h1 := encV_len hp.1 (hi v (List.mem_cons_self ..))
    have h2 := flatV_len l hp.2 (fun x hx => hi x (List.mem_cons_of_mem _ hx))
    rw [List.flatMap_cons, List.length_append, List.length_cons]
    omega
theorem drop_app {a b : List Int} : (a ++ b).drop a.length = b := by rw [List.drop_append, List.drop_of_length_le (Nat.le_refl _), Nat.sub_self, List.drop_zero, List.nil_append]
theorem take_app {a b : List Int} : (a ++ b).take a.length = a := by rw [List.take_append, List.take_of_length_le (Nat.le_refl _), Nat.sub_self, List.take_zero, List.append_nil]
theorem decVs_flat : ∀ (l : List V), l.all plainB = true → (∀ v ∈ l, In v) → ∀ more, decVs l.length (l.flatMap encV ++ more) = some (l, (l.flatMap encV).length)
  | [], _, _, more => by simp [decVs]
  | v :: l, hp, hw, more => by
    rw [List.all_cons, Bool.and_eq_true] at hp
    simp only [List.length_cons, decVs, List.flatMap_cons, List.append_assoc]
    rw [decV_encV hp.1 (hw v (List.mem_cons_self ..))]
    simp only
    rw [drop_app, decVs_flat l hp.2 (fun x hx => hw x (List.mem_cons_of_mem _ hx)) more]
    simp
theorem pe_ok {s : ByteArray} {l : List V} (h : (pe s l).2 = 0) : 1 ≤ s.size ∧ s.size ≤ 20 ∧ l.length ≤ 12 ∧ l.all plainB = true ∧ pe s l = (putU s.size ++ bytesOf s ++ putU l.length ++ l.flatMap encV, 0) := by
  unfold pe at h ⊢
  split at h
  · simp at h
  · rename_i c
    split at h
    · rename_i d
      refine ⟨by omega, by omega, by omega, d, ?_⟩
      rw [if_neg c, if_pos d]
    · simp at h
theorem decE_pe {s : ByteArray} {l : List V} (h1 : 1 ≤ s.size) (h2 : s.size ≤ 20) (h3 : l.length ≤ 12) (h4 : l.all plainB = true) (hi : ∀ v ∈ l, In v) (more : List Int) :
    decE (putU s.size ++ bytesOf s ++ putU l.length ++ l.flatMap encV ++ more) = some ((s, l), (putU s.size ++ bytesOf s ++ putU l.length ++ l.flatMap encV).length) := by
  unfold decE
  have e : putU s.size ++ bytesOf s ++ putU l.length ++ l.flatMap encV ++ more = putU s.size ++ bytesOf s ++ (putU l.length ++ (l.flatMap encV ++ more)) := by simp [List.append_assoc]
  rw [e, decT_put (by omega)]
  have e2 : (putU s.size).length + s.size = (putU s.size ++ bytesOf s).length := by simp [bytesOf_length]
  simp only
  rw [if_neg (by omega), e2, drop_app, decU_put (by omega)]
  simp only
  rw [if_neg (by omega), ← List.drop_drop, drop_app, drop_app, Int.toNat_natCast, decVs_flat l h4 hi]
  simp [bytesOf_length, Nat.add_assoc]
theorem decVs_back : ∀ (k : Nat) (l : List Int) (fs : List V) (m : Nat), Bytes l → decVs k l = some (fs, m) → fs.length = k ∧ m ≤ l.length ∧ fs.all plainB = true ∧ fs.flatMap encV = l.take m ∧ ∀ x ∈ fs, In x ∧ Flat x
  | 0, l, fs, m, _, h => by
    simp only [decVs, Option.some.injEq, Prod.mk.injEq] at h
    obtain ⟨rfl, rfl⟩ := h
    simp
  | k + 1, l, fs, m, hb, h => by
    simp only [decVs] at h
    split at h
    · simp at h
    · rename_i r hr
      obtain ⟨q, hq, he⟩ := Option.map_eq_some_iff.1 h
      simp only [Prod.mk.injEq] at he
      obtain ⟨rfl, rfl⟩ := he
      have h0 := decV_len hb hr
      have h1 := decV_back hb hr
      have h2 := decVs_back k _ q.1 q.2 (hb.drop _) hq
      have h3 := h2.2.1
      simp only [List.length_drop] at h3
      refine ⟨by simp [h2.1], by omega, ?_, ?_, ?_⟩
      · rw [List.all_cons, h2.2.2.1, Bool.and_true]
        exact h1.1
      · rw [List.flatMap_cons, h1.2.1, h2.2.2.2.1, take_two]
      · intro x hx
        rcases List.mem_cons.1 hx with rfl | hx
        · exact ⟨h1.2.2.1, h1.2.2.2⟩
        · exact h2.2.2.2.2 x hx
theorem decE_back {b : List Int} (hb : Bytes b) {s : ByteArray} {l : List V} {m : Nat} (h : decE b = some ((s, l), m)) : 1 ≤ s.size ∧ s.size ≤ 20 ∧ l.length ≤ 12 ∧ (∀ v ∈ l, In v) ∧ (∀ v ∈ l, Flat v) ∧ m ≤ b.length ∧ pe s l = (b.take m, 0) := by
  unfold decE at h
  split at h
  · simp at h
  · rename_i r hr
    split at h
    · simp at h
    · rename_i c1
      split at h
      · simp at h
      · rename_i c hc
        split at h
        · simp at h
        · rename_i c2
          obtain ⟨q, hq, he⟩ := Option.map_eq_some_iff.1 h
          simp only [Prod.mk.injEq] at he
          obtain ⟨⟨rfl, rfl⟩, rfl⟩ := he
          have b1 := decT_back (by omega) hb hr
          have b0 := decT_len hb hr
          have b2 := decU_top (hb.drop _) hc
          have b3 := put_dec (hb.drop _) hc
          have b4 := decVs_back _ _ q.1 q.2 (hb.drop _) hq
          have b5 := b4.2.1
          have b6 := b2.2.2.2.2
          simp only [List.length_drop] at b5 b6
          refine ⟨by omega, by omega, by omega, fun v hv => (b4.2.2.2.2 v hv).1, fun v hv => (b4.2.2.2.2 v hv).2, by omega, ?_⟩
          unfold pe
          rw [if_neg (by omega), if_pos b4.2.2.1, b4.1, b3, b1.1, b4.2.2.2.1, take_two, take_two]
theorem flat_of {v : V} (h : plainB v = true) : Flat v := by
  intro x hx
  unfold plainB at h
  split at h
  · simp only [Bool.and_eq_true] at h
    have := List.all_eq_true.1 h.2 x hx
    simp only [fieldB, Bool.and_eq_true] at this
    exact (leaf_is this.2).2.1
  · rw [(leaf_is h).2.1] at hx
    simp at hx
end Go.Proofs.Ythbnblmnamckmaa.Q
/-
  A value is the same as itself: what the reference's comparing computes of a value and itself. Condition: no fields within fields.
-/
namespace Go.Proofs.Ythbnblmnamckmaa.Q
open Go.RowKit Go.Proofs.Ythbnblmnamckmaa.PAll Go.Proofs.YthbnblmnamckmaaW.PrintWords Go.Proofs.YthbnblmnamckmaaW.PrintLast Go.Proofs.YthbnblmnamckmaaW.PrintMore
set_option linter.unusedVariables false
set_option linter.unusedSimpArgs false
theorem less_not : ∀ x : List UInt8, Op.bytesLess x x = false
  | [] => by simp [Op.bytesLess]
  | a :: x => by
    rw [Op.bytesLess, less_not x]
    simp
theorem order_same {p q : Bool} (hp : p = false) (hq : q = false) : windlassref3_order.f p q = some 0 := by subst hp hq; rfl
theorem ev_same_from {v : V} (h : Ev (fun k => windlassref3_Compare.l0 k 0 0 v.f0 v.f1 v.f2 v.f3 v.f4 v.f0 v.f1 v.f2 v.f3 v.f4) 0) : Ev (fun k => windlassref3_Compare.f k v.f0 v.f1 v.f2 v.f3 v.f4 v.f0 v.f1 v.f2 v.f3 v.f4) 0 := by
  have o : ∀ a : Int, windlassref3_order.f (decide (a < a)) (decide (a > a)) = some 0 := fun a => order_same (decide_eq_false (by omega)) (decide_eq_false (by omega))
  refine Ev.step (fun k => rfl) ?_
  simp only [windlassref3_Compare.f, o, Option.bind_some, if_true]
  refine Ev.step (fun k => rfl) ?_
  have t : windlassref3_order.f (Op.bytesLess v.f2.toList v.f2.toList) (!Op.bytesLess v.f2.toList v.f2.toList && !(v.f2.toList == v.f2.toList)) = some 0 := order_same (less_not _) (by simp)
  simp only [windlassref3_Compare.j0, t, Option.bind_some, if_true]
  refine Ev.step (fun k => rfl) ?_
  simp only [windlassref3_Compare.j1, o, Option.bind_some, if_true]
  refine Ev.step (fun k => rfl) ?_
  simp only [windlassref3_Compare.j2]
  exact h
theorem ev_same_end (v : V) {i : Nat} (hi : ¬ i < v.f4.length) : Ev (fun k => windlassref3_Compare.l0 k 0 (i : Int) v.f0 v.f1 v.f2 v.f3 v.f4 v.f0 v.f1 v.f2 v.f3 v.f4) 0 := by
  have o : ∀ a : Int, windlassref3_order.f (decide (a < a)) (decide (a > a)) = some 0 := fun a => order_same (decide_eq_false (by omega)) (decide_eq_false (by omega))
  refine Ev.step (fun k => rfl) ?_
  simp only [windlassref3_Compare.l0]
  simp only [if_neg (show ¬ ((i : Int) < (v.f4.length : Int)) by omega), o, Option.bind_some, if_true]
  exact Ev.now _
theorem ev_same_leaf {v : V} (h : v.f4 = []) : Ev (fun k => windlassref3_Compare.f k v.f0 v.f1 v.f2 v.f3 v.f4 v.f0 v.f1 v.f2 v.f3 v.f4) 0 :=
  ev_same_from (ev_same_end v (i := 0) (by rw [h]; simp))
theorem ev_same_l0 {v : V} (h : Flat v) (hl : v.f4.length ≤ 1000) : ∀ d i : Nat, i + d = v.f4.length → Ev (fun k => windlassref3_Compare.l0 k 0 (i : Int) v.f0 v.f1 v.f2 v.f3 v.f4 v.f0 v.f1 v.f2 v.f3 v.f4) 0 := by
  intro d
  induction d with
  | zero => intro i hi; exact ev_same_end v (by omega)
  | succ d ih =>
    intro i hi
    have hlt : i < v.f4.length := by omega
    have e1 : wrap64 ((i : Int) + 1) = ((i + 1 : Nat) : Int) := by rw [w64_id (by omega) (by omega)]; omega
    refine Ev.step (fun k => rfl) ?_
    simp only [windlassref3_Compare.l0]
    simp only [if_pos (show ((i : Int) < (v.f4.length : Int)) by omega), if_true, if_pos (show (0 : Int) ≤ (i : Int) by omega), e1]
    refine Ev.bind (ev_same_leaf (h _ (rdT_mem hlt))) ?_
    exact ih (i + 1) (by omega)
theorem ev_same {v : V} (h : Flat v) (hl : v.f4.length ≤ 1000) : Ev (fun k => windlassref3_Same.f k v.f0 v.f1 v.f2 v.f3 v.f4 v.f0 v.f1 v.f2 v.f3 v.f4) true := by
  unfold windlassref3_Same.f
  refine Ev.bind (ev_same_from (ev_same_l0 h hl v.f4.length 0 (by omega))) ?_
  exact ev_eq (by decide)
theorem ev_all {l : List V} (hl : l.length ≤ 1000) (h : ∀ v ∈ l, Flat v ∧ v.f4.length ≤ 1000) : Ev (fun k => windlassref3_All.f k l l) true := by
  unfold windlassref3_All.f
  simp only [if_true]
  have : ∀ d i : Nat, i + d = l.length → Ev (fun k => windlassref3_All.l0 k l l (i : Int)) true := by
    intro d
    induction d with
    | zero =>
      intro i hi
      refine Ev.step (fun k => rfl) ?_
      simp only [windlassref3_All.l0]
      simp only [if_neg (show ¬ ((i : Int) < (l.length : Int)) by omega)]
      exact Ev.now _
    | succ d ih =>
      intro i hi
      have hlt : i < l.length := by omega
      have e1 : wrap64 ((i : Int) + 1) = ((i + 1 : Nat) : Int) := by rw [w64_id (by omega) (by omega)]; omega
      refine Ev.step (fun k => rfl) ?_
      simp only [windlassref3_All.l0]
      simp only [if_pos (show ((i : Int) < (l.length : Int)) by omega), if_pos (show (0 : Int) ≤ (i : Int) by omega), e1]
      have hm := h _ (rdT_mem hlt)
      refine Ev.bind (ev_same hm.1 hm.2) ?_
      simp only [if_true]
      exact ih (i + 1) (by omega)
  exact this l.length 0 (by omega)
end Go.Proofs.Ythbnblmnamckmaa.Q
/-
  CodecBack, without Go and memory: values and events come back from their bytes, whatever stands behind; what is read has these bytes, and no others. Conditions: the values are of their types, the bytes are bytes.
-/
namespace Go.Proofs.Ythbnblmnamckmaa.Pure
open Go.RowKit Go.Proofs.Ythbnblmnamckmaa.PAll Go.Proofs.YthbnblmnamckmaaW.PrintWords Go.Proofs.YthbnblmnamckmaaW.PrintLast Go.Proofs.YthbnblmnamckmaaW.PrintMore Go.Proofs.Ythbnblmnamckmaa.Q
set_option linter.unusedVariables false
set_option linter.unusedSimpArgs false
theorem plain_len {v : V} (h : plainB v = true) : v.f4.length ≤ 12 := by
  by_cases h4 : v.f0 = 4
  · exact (plain_rec h h4).2.2.1
  · unfold plainB at h
    rw [if_neg h4] at h
    rw [(leaf_is h).2.1]
    simp
theorem back_j6 {l : List Int} (hb : Bytes l) (hl : l.length ≤ 1500) : Ev (fun k => windlasslaw2_CodecBack.j6 k l) true := by
  refine Ev.step (fun k => rfl) ?_
  simp only [windlasslaw2_CodecBack.j6]
  refine Ev.bind (ev_codec_Event hb (by omega)) ?_
  cases h : decE l with
  | none =>
    simp only [resE, if_neg (show ¬ ((20 : Int) = 0) by decide)]
    exact Ev.now _
  | some r =>
    obtain ⟨⟨s, vs⟩, m⟩ := r
    obtain ⟨h1, h2, h3, h4, h5, h6, h7⟩ := decE_back hb h
    simp only [resE, if_true]
    have hp := ev_codec_PutEvent (s := s) (l := vs) (by omega) (by omega) h4
    rw [h7] at hp
    refine Ev.bind hp ?_
    simp only [List.length_take, if_true, if_pos (show (m : Int) = ((min m l.length : Nat) : Int) by omega), if_pos (show (0 : Int) ≤ (m : Int) by omega), if_pos (show (m : Int) ≤ (l.length : Int) by omega), Int.toNat_natCast, bytes_same, Option.bind_some]
    exact Ev.now _
theorem back_j4 {l : List Int} (hb : Bytes l) (hl : l.length ≤ 1500) : Ev (fun k => windlasslaw2_CodecBack.j4 k l) true := by
  refine Ev.step (fun k => rfl) ?_
  simp only [windlasslaw2_CodecBack.j4]
  refine Ev.bind (ev_codec_Value hb (by omega)) ?_
  cases h : decV true l with
  | none =>
    simp only [resV, if_neg (show ¬ ((20 : Int) = 0) by decide)]
    exact back_j6 hb hl
  | some r =>
    obtain ⟨v, m⟩ := r
    have h1 := decV_back hb h
    have h2 := decV_len hb h
    simp only [resV, if_true]
    have hp := ev_codec_PutValue h1.2.2.1
    have hpv : pv v = (l.take m, 0) := by unfold pv; rw [if_pos h1.1, h1.2.1]
    rw [hpv] at hp
    refine Ev.bind hp ?_
    simp only [List.length_take, if_true, if_pos (show (m : Int) = ((min m l.length : Nat) : Int) by omega), if_pos (show (0 : Int) ≤ (m : Int) by omega), if_pos (show (m : Int) ≤ (l.length : Int) by omega), Int.toNat_natCast, bytes_same, Option.bind_some, Bool.not_true]
    refine Ev.step (fun k => rfl) ?_
    simp only [windlasslaw2_CodecBack.j5, if_neg (show ¬ (false = true) by decide)]
    exact back_j6 hb hl
theorem back_j2 {s : ByteArray} {vs : List V} {more l : List Int} (hs : s.size ≤ 100) (hvs : vs.length ≤ 20) (hi : ∀ v ∈ vs, In v) (hm : Bytes more) (hml : more.length ≤ 200) (hb : Bytes l) (hl : l.length ≤ 1500) : Ev (fun k => windlasslaw2_CodecBack.j2 k more l s vs) true := by
  refine Ev.step (fun k => rfl) ?_
  simp only [windlasslaw2_CodecBack.j2]
  refine Ev.bind (ev_codec_PutEvent (by omega) (by omega) hi) ?_
  by_cases c : (pe s vs).2 = 0
  · obtain ⟨p1, p2, p3, p4, p5⟩ := pe_ok c
    have q1 := putU_len (n := s.size) (by omega)
    have q2 := putU_len (n := vs.length) (by omega)
    have q3 := flatV_len vs p4 hi
    have hlen : (putU s.size ++ bytesOf s ++ putU vs.length ++ vs.flatMap encV).length ≤ 13000 := by simp only [List.length_append, bytesOf_length]; omega
    rw [p5]
    generalize hA : putU s.size ++ bytesOf s ++ putU vs.length ++ vs.flatMap encV = A at hlen p5
    simp only [if_true, List.length_nil, if_pos (show 0 + A.length < 140737488355328 by omega), List.nil_append, Option.bind_some, if_pos (show A.length + more.length < 140737488355328 by omega)]
    have hAb : Bytes A := by rw [← hA]; exact (((Bytes.app (putU_bytes _) (bytes_of _)).app (putU_bytes _)).app (flat_bytes _ encV_bytes _))
    have he := ev_codec_Event (b := A ++ more) (hAb.app hm) (by simp only [List.length_append]; omega)
    have hd := decE_pe p1 p2 p3 p4 hi more
    rw [hA] at hd
    rw [hd] at he
    refine Ev.bind he ?_
    simp only [resE, if_true]
    refine Ev.bind (ev_all (by omega) (fun v hv => ⟨flat_of (List.all_eq_true.1 p4 v hv), by have := plain_len (List.all_eq_true.1 p4 v hv); omega⟩)) ?_
    simp only [Bool.not_true]
    refine Ev.step (fun k => rfl) ?_
    simp only [windlasslaw2_CodecBack.j3, if_neg (show ¬ (false = true) by decide)]
    exact back_j4 hb hl
  · simp only [if_neg c]
    exact back_j4 hb hl
theorem back_j0 {v : V} {s : ByteArray} {vs : List V} {more l : List Int} (hv : In v) (b : Bool) (hh : b = false → s.size ≤ 100 ∧ vs.length ≤ 20 ∧ more.length ≤ 200 ∧ l.length ≤ 1500) (hi : ∀ v ∈ vs, In v) (hm : Bytes more) (hb : Bytes l) : Ev (fun k => windlasslaw2_CodecBack.j0 k more l b v.f0 v.f1 v.f2 v.f3 v.f4 s vs) true := by
  refine Ev.step (fun k => rfl) ?_
  simp only [windlasslaw2_CodecBack.j0]
  cases b with
  | true => simp only [if_true]; exact Ev.now _
  | false =>
    obtain ⟨h1, h2, h3, h4⟩ := hh rfl
    simp only [if_neg (show ¬ (false = true) by decide)]
    refine Ev.bind (ev_codec_PutValue hv) ?_
    unfold pv
    by_cases c : plainB v = true
    · have hlen := encV_len c hv
      simp only [if_pos c, if_true, List.length_nil, if_pos (show 0 + (encV v).length < 140737488355328 by omega), List.nil_append, Option.bind_some, if_pos (show (encV v).length + more.length < 140737488355328 by omega)]
      have he := ev_codec_Value (b := encV v ++ more) ((encV_bytes v).app hm) (by simp only [List.length_append]; omega)
      rw [decV_encV c hv more] at he
      refine Ev.bind he ?_
      simp only [resV, if_true]
      have hp := plain_len c
      refine Ev.bind (ev_same (flat_of c) (by omega)) ?_
      simp only [Bool.not_true]
      refine Ev.step (fun k => rfl) ?_
      simp only [windlasslaw2_CodecBack.j1, if_neg (show ¬ (false = true) by decide)]
      exact back_j2 h1 h2 hi hm h3 hb h4
    · simp only [if_neg c, if_neg (show ¬ ((20 : Int) = 0) by decide)]
      exact back_j2 h1 h2 hi hm h3 hb h4
theorem CodecBack : windlasslaw2_CodecBack.Pure := by
  intro v e more l hv he hm hb
  have hv' := In.of hv
  have he' := he
  unfold Wf26 at he'
  have hi : ∀ x ∈ e.f1, In x := fun x hx => In.of (he'.2.2.2 x hx)
  have hlen : e.f1.length ≤ 9223372036854775807 := by have := he'.2.1; unfold maxLen at this; omega
  have bm : Bytes more := fun x hx => bounds_u8 (hm.2.2 x hx)
  have bb : Bytes l := fun x hx => bounds_u8 (hb.2.2 x hx)
  obtain ⟨b1, h1⟩ := ev_Small hv'
  obtain ⟨b2, h2, hq⟩ := ev_Smalls hlen hi
  have yes := fun h => back_j0 (v := v) (s := e.f0) (vs := e.f1) (more := more) (l := l) hv' true h hi bm bb
  refine Ev.rounds ?_
  unfold windlasslaw2_CodecBack.f
  refine Ev.bind ev_known ?_
  simp only [if_true]
  refine Ev.bind h1 ?_
  cases b1 with
  | false => simp only [if_neg (show ¬ (false = true) by decide)]; exact yes (by simp)
  | true =>
    simp only [if_true]
    refine Ev.bind h2 ?_
    cases b2 with
    | false => simp only [if_neg (show ¬ (false = true) by decide)]; exact yes (by simp)
    | true =>
      simp only [if_true]
      by_cases c1 : (e.f0.size : Int) > 100
      · simp only [if_pos c1]; exact yes (by simp)
      · simp only [if_neg c1]
        by_cases c2 : (more.length : Int) > 200
        · simp only [if_pos c2]; exact yes (by simp)
        · simp only [if_neg c2]
          refine back_j0 hv' _ (fun h => ?_) hi bm bb
          have := of_decide_eq_false h
          exact ⟨by omega, hq rfl, by omega, by omega⟩
end Go.Proofs.Ythbnblmnamckmaa.Pure
