/-
  Plain facts on numbers as bytes: seven bits a byte, the lowest first (putU), and back (decU). No program stands here. Conditions: those named in each lemma.
-/
import Derived.Test.YthbnblmnamckmaaWWords
import Derived.Test.YthbnblmnamckmaaWMore
import Derived.Laws.BitsLemmas
import Derived.PlainAid
namespace Go.Proofs.Ythbnblmnamckmaa.Q
open Go.RowKit Go.Proofs.YthbnblmnamckmaaW.PrintWords Go.Proofs.YthbnblmnamckmaaW.PrintMore
set_option linter.unusedVariables false

theorem u64_mod (n : Int) : IntKind.u64.wrap n = n % 18446744073709551616 := IntKind.wrap_u64 n
theorem u64_id {n : Int} (h0 : 0 ≤ n) (h1 : n < 18446744073709551616) : IntKind.u64.wrap n = n := by rw [u64_mod]; omega
theorem w64_id {n : Int} (h0 : -9223372036854775808 ≤ n) (h1 : n ≤ 9223372036854775807) : wrap64 n = n := by unfold wrap64; omega

theorem nat_or128 : ∀ a : Fin 256, (a.val ||| 128) = a.val % 128 + 128 := by decide +kernel
theorem or128 {x : Int} (h0 : 0 ≤ x) (h1 : x < 256) : bits .or .u8 x 128 = x % 128 + 128 := by
  obtain ⟨a, rfl⟩ := Int.eq_ofNat_of_zero_le h0
  have h := (bits_nat .u8 8 (by decide) wraps_u8 a 128 (by omega) (by decide)).2
  have h2 := nat_or128 ⟨a, by omega⟩
  simp only at h2
  rw [h2] at h
  have h3 : ((128 : Nat) : Int) = 128 := rfl
  rw [h3] at h
  rw [h]
  omega

theorem bits_or_comm (k : IntKind) (x y : Int) : bits .or k x y = bits .or k y x := by
  simp only [bits]
  rw [BitVec.or_comm]
theorem wraps_u64 (n : Int) (h₀ : 0 ≤ n) (h₁ : n < 2 ^ 64) : IntKind.u64.wrap n = n := u64_id h₀ (by omega)

/-- A digit laid above what there is. -/
theorem or_digit {x d : Int} {i : Nat} (hi : i ≤ 9) (hx0 : 0 ≤ x) (hx : x < 128 ^ i) (hd0 : 0 ≤ d) (hd : d < 128) (h9 : i = 9 → d ≤ 1) {y : Int} (hy : y = 7 * (i : Int)) : bits .or .u64 x (shl .u64 d y) = x + d * 128 ^ i := by
  have hp : (128 : Int) ^ i = 2 ^ (7 * i) := by rw [Int.pow_mul]; rfl
  have hyn : min y.toNat IntKind.u64.bits = 7 * i := by
    have : IntKind.u64.bits = 64 := rfl
    omega
  have hpos : (0 : Int) < 128 ^ i := Int.pow_pos (by decide)
  have hb : d * 128 ^ i < 2 ^ 64 ∧ x < 2 ^ 64 := by
    by_cases h : i = 9
    · subst h
      have h1 := h9 rfl
      have e : (128 : Int) ^ 9 = 9223372036854775808 := by decide
      rw [e] at hx ⊢
      omega
    · have h8 : (128 : Int) ^ i ≤ 128 ^ 8 := by
        have := Nat.pow_le_pow_right (n := 128) (by decide) (show i ≤ 8 by omega)
        exact_mod_cast this
      have e : (128 : Int) ^ 8 = 72057594037927936 := by decide
      rw [e] at h8
      have : d * 128 ^ i ≤ 127 * 128 ^ i := Int.mul_le_mul_of_nonneg_right (by omega) (by omega)
      omega
  have hdp : 0 ≤ d * 128 ^ i := Int.mul_nonneg hd0 (by omega)
  have hs : shl .u64 d y = d * 128 ^ i := by
    unfold shl
    rw [hyn, ← hp]
    exact u64_id hdp (by omega)
  rw [hs, bits_or_comm, bits_join .u64 64 (by decide) wraps_u64 (7 * i) (d * 128 ^ i) x hdp (by rw [hp]; exact Int.mul_emod_left _ _) hb.1 hx0 (by rw [← hp]; exact hx) hb.2]
  omega

/-! ### the bytes of a number -/
def putU (n : Nat) : List Int := if h : n < 128 then [(n : Int)] else ((n % 128 + 128 : Nat) : Int) :: putU (n / 128)
termination_by n
decreasing_by omega
theorem putU_small {n : Nat} (h : n < 128) : putU n = [(n : Int)] := by rw [putU, dif_pos h]
theorem putU_big {n : Nat} (h : ¬ n < 128) : putU n = ((n % 128 + 128 : Nat) : Int) :: putU (n / 128) := by rw [putU, dif_neg h]
theorem putU_length (j : Nat) : ∀ n, n < 128 ^ (j + 1) → 1 ≤ (putU n).length ∧ (putU n).length ≤ j + 1 := by
  induction j with
  | zero => intro n hn; rw [putU_small (by simpa using hn)]; simp
  | succ j ih =>
    intro n hn
    by_cases h : n < 128
    · rw [putU_small h]; simp
    · rw [putU_big h]
      have := ih (n / 128) (Nat.div_lt_of_lt_mul (by rw [Nat.mul_comm, ← Nat.pow_succ]; exact hn))
      simp
      omega
theorem putU_len {n : Nat} (h : n < 18446744073709551616) : 1 ≤ (putU n).length ∧ (putU n).length ≤ 10 := by
  have := putU_length 9 n (by
    have : (128 : Nat) ^ 10 = 1180591620717411303424 := by decide
    rw [this]; omega)
  exact this
theorem putU_bytes : ∀ n, ∀ x ∈ putU n, 0 ≤ x ∧ x ≤ 255 := by
  intro n
  induction n using Nat.strongRecOn with
  | _ n ih =>
    intro x hx
    by_cases h : n < 128
    · rw [putU_small h, List.mem_singleton] at hx
      subst hx
      omega
    · rw [putU_big h, List.mem_cons] at hx
      rcases hx with rfl | hx
      · omega
      · exact ih (n / 128) (by omega) x hx

/-! ### and back -/
/-- What stands at a row's beginning, as digits from the i-th on: the number, and how many bytes it has. -/
def decU : Nat → List Int → Option (Int × Nat)
  | _, [] => none
  | i, c :: t => if i = 10 ∨ (i = 9 ∧ c % 128 > 1) ∨ (0 < i ∧ c = 0) then none else if c < 128 then some (c, 1) else (decU (i + 1) t).map fun r => (c % 128 + 128 * r.1, r.2 + 1)

theorem decU_ten (l : List Int) : decU 10 l = none := by
  cases l with
  | nil => rfl
  | cons c t => simp [decU]
theorem decU_nine {c : Int} {t : List Int} (h : c > 1) (h1 : c ≤ 255) : decU 9 (c :: t) = none := by
  unfold decU
  by_cases hs : c < 128
  · rw [if_pos (.inr (.inl ⟨rfl, by omega⟩))]
  · rw [if_neg hs, decU_ten]
    simp

theorem decU_bound : ∀ (j i : Nat) (l : List Int) (n : Int) (len : Nat), i + j = 9 → (∀ x ∈ l, 0 ≤ x ∧ x ≤ 255) → decU i l = some (n, len) → 0 ≤ n ∧ n < 2 * 128 ^ j ∧ 1 ≤ len ∧ len ≤ j + 1 ∧ len ≤ l.length := by
  intro j
  induction j with
  | zero =>
    intro i l n len hi hb h
    cases l with
    | nil => simp [decU] at h
    | cons c t =>
      have hc := hb c (List.mem_cons_self ..)
      simp only [decU] at h
      split at h
      · simp at h
      · rename_i hn
        split at h
        · simp only [Option.some.injEq, Prod.mk.injEq] at h
          obtain ⟨rfl, rfl⟩ := h
          have h9 : ¬ (c % 128 > 1) := fun h => hn (.inr (.inl ⟨by omega, h⟩))
          have h10 : c < 2 := by omega
          exact ⟨hc.1, by simpa using h10, by omega, by omega, by simp⟩
        · obtain rfl : i = 9 := by omega
          rw [decU_ten] at h
          simp at h
  | succ j ih =>
    intro i l n len hi hb h
    cases l with
    | nil => simp [decU] at h
    | cons c t =>
      have hc := hb c (List.mem_cons_self ..)
      have hp : (0 : Int) < 128 ^ j := Int.pow_pos (by decide)
      simp only [decU] at h
      split at h
      · simp at h
      · rename_i hn
        split at h
        · simp only [Option.some.injEq, Prod.mk.injEq] at h
          obtain ⟨rfl, rfl⟩ := h
          refine ⟨hc.1, ?_, by omega, by omega, by simp⟩
          rw [Int.pow_succ]
          omega
        · obtain ⟨r, hr, hq⟩ := Option.map_eq_some_iff.1 h
          simp only [Prod.mk.injEq] at hq
          obtain ⟨rfl, rfl⟩ := hq
          have := ih (i + 1) t r.1 r.2 (by omega) (fun x hx => hb x (List.mem_cons_of_mem _ hx)) hr
          refine ⟨by omega, ?_, by omega, by omega, by simp; omega⟩
          rw [Int.pow_succ]
          omega
theorem decU_top {l : List Int} {n : Int} {len : Nat} (hb : ∀ x ∈ l, 0 ≤ x ∧ x ≤ 255) (h : decU 0 l = some (n, len)) : 0 ≤ n ∧ n < 18446744073709551616 ∧ 1 ≤ len ∧ len ≤ 10 ∧ len ≤ l.length := by
  have := decU_bound 9 0 l n len rfl hb h
  have e : (128 : Int) ^ 9 = 9223372036854775808 := by decide
  rw [e] at this
  omega

/-- A number's bytes are read as it, whatever stands behind. -/
theorem decU_putU : ∀ (j i n : Nat) (more : List Int), i + j = 9 → n < 2 * 128 ^ j → (0 < i → 0 < n) → decU i (putU n ++ more) = some ((n : Int), (putU n).length) := by
  intro j
  induction j with
  | zero =>
    intro i n more hi hn h0
    have hs : n < 128 := by simp at hn; omega
    rw [putU_small hs]
    simp only [List.cons_append, List.nil_append, decU, List.length_singleton]
    rw [if_neg (by simp at hn; omega), if_pos (by omega)]
  | succ j ih =>
    intro i n more hi hn h0
    by_cases hs : n < 128
    · rw [putU_small hs]
      simp only [List.cons_append, List.nil_append, decU, List.length_singleton]
      rw [if_neg (by omega), if_pos (by omega)]
    · rw [putU_big hs]
      simp only [List.cons_append, decU, List.length_cons]
      rw [if_neg (by omega), if_neg (by omega), ih (i + 1) (n / 128) more (by omega) (Nat.div_lt_of_lt_mul (by rw [Nat.pow_succ] at hn; omega)) (fun _ => by omega)]
      simp only [Option.map_some, Option.some.injEq, Prod.mk.injEq, and_true]
      omega
theorem decU_put {n : Nat} (h : n < 18446744073709551616) (more : List Int) : decU 0 (putU n ++ more) = some ((n : Int), (putU n).length) := by
  refine decU_putU 9 0 n more rfl ?_ (fun h => absurd h (by omega))
  have e : (128 : Nat) ^ 9 = 9223372036854775808 := by decide
  rw [e]; omega

/-- What is read has these bytes, and no others. -/
theorem putU_decU : ∀ (j i : Nat) (l : List Int) (n : Int) (len : Nat), i + j = 9 → (∀ x ∈ l, 0 ≤ x ∧ x ≤ 255) → decU i l = some (n, len) → putU n.toNat = l.take len ∧ (0 < i → 0 < n) := by
  intro j
  induction j with
  | zero =>
    intro i l n len hi hb h
    cases l with
    | nil => simp [decU] at h
    | cons c t =>
      have hc := hb c (List.mem_cons_self ..)
      simp only [decU] at h
      split at h
      · simp at h
      · rename_i hn
        split at h
        · simp only [Option.some.injEq, Prod.mk.injEq] at h
          obtain ⟨rfl, rfl⟩ := h
          rw [putU_small (by omega)]
          refine ⟨?_, by omega⟩
          simp only [List.take_succ_cons, List.take_zero, List.cons.injEq, and_true]
          omega
        · obtain rfl : i = 9 := by omega
          rw [decU_ten] at h
          simp at h
  | succ j ih =>
    intro i l n len hi hb h
    cases l with
    | nil => simp [decU] at h
    | cons c t =>
      have hc := hb c (List.mem_cons_self ..)
      simp only [decU] at h
      split at h
      · simp at h
      · rename_i hn
        split at h
        · simp only [Option.some.injEq, Prod.mk.injEq] at h
          obtain ⟨rfl, rfl⟩ := h
          rw [putU_small (by omega)]
          refine ⟨?_, by omega⟩
          simp only [List.take_succ_cons, List.take_zero, List.cons.injEq, and_true]
          omega
        · obtain ⟨r, hr, hq⟩ := Option.map_eq_some_iff.1 h
          simp only [Prod.mk.injEq] at hq
          obtain ⟨rfl, rfl⟩ := hq
          have hbt := fun x hx => hb x (List.mem_cons_of_mem _ hx)
          have h1 := ih (i + 1) t r.1 r.2 (by omega) hbt hr
          have h2 := decU_bound j (i + 1) t r.1 r.2 (by omega) hbt hr
          have h3 := h1.2 (by omega)
          rw [putU_big (by omega), List.take_succ_cons, ← h1.1]
          refine ⟨?_, by omega⟩
          have e1 : (c % 128 + 128 * r.1).toNat / 128 = r.1.toNat := by omega
          have e2 : (((c % 128 + 128 * r.1).toNat % 128 + 128 : Nat) : Int) = c := by omega
          rw [e1, e2]
theorem put_dec {l : List Int} {n : Int} {len : Nat} (hb : ∀ x ∈ l, 0 ≤ x ∧ x ≤ 255) (h : decU 0 l = some (n, len)) : putU n.toNat = l.take len := (putU_decU 9 0 l n len rfl hb h).1

/-! ### integers -/
/-- 0, -1, 1, -2, .. as 0, 1, 2, 3, .. -/
def zig (a : Int) : Nat := if 0 ≤ a then (2 * a).toNat else (-2 * a - 1).toNat
def zag (n : Int) : Int := if n % 2 = 0 then n / 2 else -(n / 2) - 1
theorem zig_lt {a : Int} (h0 : -9223372036854775808 ≤ a) (h1 : a ≤ 9223372036854775807) : zig a < 18446744073709551616 := by unfold zig; split <;> omega
theorem zag_zig (a : Int) : zag (zig a) = a := by
  unfold zag zig
  split
  · rw [if_pos (by omega)]; omega
  · rw [if_neg (by omega)]; omega
theorem zig_zag {n : Int} (h : 0 ≤ n) : (zig (zag n) : Int) = n := by
  unfold zag
  split
  · unfold zig; rw [if_pos (by omega)]; omega
  · unfold zig; rw [if_neg (by omega)]; omega
theorem zag_range {n : Int} (h : 0 ≤ n) (h1 : n < 18446744073709551616) : -9223372036854775808 ≤ zag n ∧ zag n ≤ 9223372036854775807 := by
  unfold zag; split <;> omega

theorem bits_xor (k : IntKind) (x y : Int) : bits .xor k x y = k.wrap ((((x % ((2 ^ k.bits : Nat) : Int)).toNat ^^^ (y % ((2 ^ k.bits : Nat) : Int)).toNat : Nat)) : Int) := by
  simp only [bits, BitVec.toNat_xor, BitVec.toNat_ofInt]
theorem nat_xor_ones (a : Nat) (h : a < 18446744073709551616) : a ^^^ 18446744073709551615 = 18446744073709551615 - a := by
  have h3 : (BitVec.ofNat 64 a ^^^ BitVec.allOnes 64) = ~~~ BitVec.ofNat 64 a := BitVec.xor_allOnes
  have h4 := congrArg BitVec.toNat h3
  rw [BitVec.toNat_xor, BitVec.toNat_not, BitVec.toNat_allOnes, BitVec.toNat_ofNat, Nat.mod_eq_of_lt (by omega)] at h4
  simpa using h4
theorem xor_zero (x : Int) (h0 : 0 ≤ x) (h1 : x < 18446744073709551616) : bits .xor .u64 x 0 = x := by
  rw [bits_xor]
  have e : ((2 ^ IntKind.u64.bits : Nat) : Int) = 18446744073709551616 := rfl
  rw [e, Int.emod_eq_of_lt h0 h1]
  simp only [Int.zero_emod, Int.toNat_zero, Nat.xor_zero]
  rw [Int.toNat_of_nonneg h0]
  exact u64_id h0 h1
theorem xor_ones (x : Int) (h0 : 0 ≤ x) (h1 : x < 18446744073709551616) : bits .xor .u64 x 18446744073709551615 = 18446744073709551615 - x := by
  rw [bits_xor]
  have e : ((2 ^ IntKind.u64.bits : Nat) : Int) = 18446744073709551616 := rfl
  have e2 : ((18446744073709551615 : Int) % 18446744073709551616).toNat = 18446744073709551615 := by decide
  rw [e, Int.emod_eq_of_lt h0 h1, e2, nat_xor_ones _ (by omega), u64_id (by omega) (by omega)]
  omega
/-- The code's way to zig. -/
theorem zig_code {a : Int} (h0 : -9223372036854775808 ≤ a) (h1 : a ≤ 9223372036854775807) :
    bits .xor .u64 (IntKind.u64.wrap (IntKind.u64.wrap a * 2)) (IntKind.u64.wrap (a / 9223372036854775808)) = (zig a : Int) := by
  by_cases h : 0 ≤ a
  · have e : a / 9223372036854775808 = 0 := by omega
    rw [e, u64_id h (by omega), u64_id (n := a * 2) (by omega) (by omega), u64_id (n := 0) (by decide) (by decide), xor_zero _ (by omega) (by omega)]
    unfold zig
    rw [if_pos h]
    omega
  · have e : a / 9223372036854775808 = -1 := by omega
    have e1 : IntKind.u64.wrap (-1) = 18446744073709551615 := by rw [u64_mod]; rfl
    have e2 : IntKind.u64.wrap a = a + 18446744073709551616 := by rw [u64_mod]; omega
    have e3 : IntKind.u64.wrap ((a + 18446744073709551616) * 2) = 2 * a + 18446744073709551616 := by rw [u64_mod]; omega
    rw [e, e1, e2, e3, xor_ones _ (by omega) (by omega)]
    unfold zig
    rw [if_neg h]
    omega
theorem and_one (n : Int) (h0 : 0 ≤ n) (h1 : n < 18446744073709551616) : bits .and .u64 n 1 = n % 2 := by
  have := bits_mask .u64 64 (by decide) wraps_u64 1 (by decide) n h0 (by omega)
  simpa using this
theorem ixor_zero (x : Int) (h0 : 0 ≤ x) (h1 : x ≤ 9223372036854775807) : bits .xor .i64 x 0 = x := by
  rw [bits_xor]
  have e : ((2 ^ IntKind.i64.bits : Nat) : Int) = 18446744073709551616 := rfl
  rw [e, Int.emod_eq_of_lt h0 (by omega)]
  simp only [Int.zero_emod, Int.toNat_zero, Nat.xor_zero]
  rw [Int.toNat_of_nonneg h0, IntKind.wrap_i64]
  omega
theorem ixor_ones (x : Int) (h0 : 0 ≤ x) (h1 : x ≤ 9223372036854775807) : bits .xor .i64 x (-1) = -x - 1 := by
  rw [bits_xor]
  have e : ((2 ^ IntKind.i64.bits : Nat) : Int) = 18446744073709551616 := rfl
  have e2 : ((-1 : Int) % 18446744073709551616).toNat = 18446744073709551615 := by decide
  rw [e, Int.emod_eq_of_lt h0 (by omega), e2, nat_xor_ones _ (by omega), IntKind.wrap_i64]
  omega
/-- The code's way to zag. -/
theorem zag_code {n : Int} (h0 : 0 ≤ n) (h1 : n < 18446744073709551616) : bits .xor .i64 (wrap64 (n / 2)) (wrap64 (-(wrap64 (bits .and .u64 n 1)))) = zag n := by
  rw [and_one n h0 h1, w64_id (n := n / 2) (by omega) (by omega), w64_id (n := n % 2) (by omega) (by omega), w64_id (n := -(n % 2)) (by omega) (by omega)]
  unfold zag
  by_cases h : n % 2 = 0
  · rw [if_pos h, h]
    exact ixor_zero _ (by omega) (by omega)
  · have e : n % 2 = 1 := by omega
    rw [if_neg h, e, ixor_ones _ (by omega) (by omega)]
end Go.Proofs.Ythbnblmnamckmaa.Q
