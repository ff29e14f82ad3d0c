/-
  What the code's and the reference's PutUint, Uint, PutInt, Int compute: the bytes of a number, and back. Conditions: the numbers are of their kinds, the bytes are bytes.
-/
import Derived.Test.YthbnblmnamckmaaPAllx3
import Derived.Test.YthbnblmnamckmaaPAllx10
import Derived.Test.YthbnblmnamckmaaPAllx17
import Derived.Test.YthbnblmnamckmaaPAllx19
import Derived.Test.YthbnblmnamckmaaPAllx29
import Derived.Test.YthbnblmnamckmaaPAllx30
import Derived.Test.YthbnblmnamckmaaQa
namespace Go.Proofs.Ythbnblmnamckmaa.Q
open Go.RowKit Go.Proofs.Ythbnblmnamckmaa.PAll Go.Proofs.YthbnblmnamckmaaW.PrintWords Go.Proofs.YthbnblmnamckmaaW.PrintLast Go.Proofs.YthbnblmnamckmaaW.PrintMore
set_option linter.unusedVariables false
set_option linter.unusedSimpArgs false

theorem ev_codec_PutUint_l0 (j : Nat) : ∀ (n : Nat) (acc : List Int), n < 128 ^ (j + 1) → acc.length + j < 140737488355328 → Ev (fun k => codec_PutUint.l0 k (n : Int) acc) (acc ++ putU n) := by
  induction j with
  | zero =>
    intro n acc hn ha
    have hs : n < 128 := by simpa using hn
    refine Ev.step (fun k => rfl) ?_
    simp only [codec_PutUint.l0]
    simp only [if_neg (show ¬ ((n : Int) ≥ 128) by omega), if_pos (show acc.length < 140737488355328 by omega)]
    have e : (n : Int) % 256 = n := by omega
    rw [e, putU_small hs]
    exact Ev.now _
  | succ j ih =>
    intro n acc hn ha
    by_cases hs : n < 128
    · refine Ev.step (fun k => rfl) ?_
      simp only [codec_PutUint.l0]
      simp only [if_neg (show ¬ ((n : Int) ≥ 128) by omega), if_pos (show acc.length < 140737488355328 by omega)]
      have e : (n : Int) % 256 = n := by omega
      rw [e, putU_small hs]
      exact Ev.now _
    · refine Ev.step (fun k => rfl) ?_
      simp only [codec_PutUint.l0]
      simp only [if_pos (show ((n : Int) ≥ 128) by omega), if_pos (show acc.length < 140737488355328 by omega)]
      have e : bits .or .u8 ((n : Int) % 256) 128 = ((n % 128 + 128 : Nat) : Int) := by rw [or128 (by omega) (by omega)]; omega
      have e2 : (n : Int) / 128 = ((n / 128 : Nat) : Int) := by omega
      rw [e, e2, putU_big hs]
      have := ih (n / 128) (acc ++ [((n % 128 + 128 : Nat) : Int)]) (Nat.div_lt_of_lt_mul (by rw [Nat.mul_comm, ← Nat.pow_succ]; exact hn)) (by simp; omega)
      rw [List.append_assoc] at this
      exact this
theorem pow10 : (128 : Nat) ^ (9 + 1) = 1180591620717411303424 := by decide
theorem ev_codec_PutUint {n : Nat} (h : n < 18446744073709551616) : Ev (fun k => codec_PutUint.f k (n : Int)) (putU n) :=
  ev_codec_PutUint_l0 9 n [] (by rw [pow10]; omega) (by simp)
theorem ev_codec_PutUint' {a : Int} (h0 : 0 ≤ a) (h : a < 18446744073709551616) : Ev (fun k => codec_PutUint.f k a) (putU a.toNat) := by
  have := ev_codec_PutUint (n := a.toNat) (by omega)
  rwa [Int.toNat_of_nonneg h0] at this

theorem ev_ref_PutUint_l0 (j : Nat) : ∀ (n : Nat) (acc : List Int), n < 18446744073709551616 → n < 128 ^ (j + 1) → acc.length + j < 140737488355328 → Ev (fun k => windlassref2_PutUint.l0 k (n : Int) acc) (acc ++ putU n) := by
  induction j with
  | zero =>
    intro n acc h64 hn ha
    have hs : n < 128 := by simpa using hn
    refine Ev.step (fun k => rfl) ?_
    simp only [windlassref2_PutUint.l0]
    simp only [if_neg (show ¬ ((n : Int) ≥ 128) by omega), if_pos (show acc.length < 140737488355328 by omega)]
    have e : (n : Int) % 256 = n := by omega
    rw [e, putU_small hs]
    exact Ev.now _
  | succ j ih =>
    intro n acc h64 hn ha
    by_cases hs : n < 128
    · refine Ev.step (fun k => rfl) ?_
      simp only [windlassref2_PutUint.l0]
      simp only [if_neg (show ¬ ((n : Int) ≥ 128) by omega), if_pos (show acc.length < 140737488355328 by omega)]
      have e : (n : Int) % 256 = n := by omega
      rw [e, putU_small hs]
      exact Ev.now _
    · refine Ev.step (fun k => rfl) ?_
      simp only [windlassref2_PutUint.l0]
      simp only [if_pos (show ((n : Int) ≥ 128) by omega), if_pos (show acc.length < 140737488355328 by omega)]
      have e : ((Int.tmod (n : Int) 128) + 128) % 256 = ((n % 128 + 128 : Nat) : Int) := by rw [Int.tmod_eq_emod_of_nonneg (by omega)]; omega
      have e2 : IntKind.u64.wrap (Int.tdiv (n : Int) 128) = ((n / 128 : Nat) : Int) := by rw [Int.tdiv_eq_ediv_of_nonneg (by omega), u64_id (by omega) (by omega)]; omega
      rw [e, e2, putU_big hs]
      have := ih (n / 128) (acc ++ [((n % 128 + 128 : Nat) : Int)]) (by omega) (Nat.div_lt_of_lt_mul (by rw [Nat.mul_comm, ← Nat.pow_succ]; exact hn)) (by simp; omega)
      rw [List.append_assoc] at this
      exact this
theorem ev_ref_PutUint {n : Nat} (h : n < 18446744073709551616) : Ev (fun k => windlassref2_PutUint.f k (n : Int)) (putU n) :=
  ev_ref_PutUint_l0 9 n [] h (by rw [pow10]; omega) (by simp)
theorem ev_ref_PutUint' {a : Int} (h0 : 0 ≤ a) (h : a < 18446744073709551616) : Ev (fun k => windlassref2_PutUint.f k a) (putU a.toNat) := by
  have := ev_ref_PutUint (n := a.toNat) (by omega)
  rwa [Int.toNat_of_nonneg h0] at this

theorem ev_codec_PutInt {a : Int} (h0 : -9223372036854775808 ≤ a) (h1 : a ≤ 9223372036854775807) : Ev (fun k => codec_PutInt.f k a) (putU (zig a)) := by
  unfold codec_PutInt.f
  rw [zig_code h0 h1]
  exact Ev.bind (ev_codec_PutUint (zig_lt h0 h1)) (Ev.now _)
theorem ev_ref_PutInt {a : Int} (h0 : -9223372036854775808 ≤ a) (h1 : a ≤ 9223372036854775807) : Ev (fun k => windlassref2_PutInt.f k a) (putU (zig a)) := by
  unfold windlassref2_PutInt.f
  by_cases h : a < 0
  · simp only [if_pos h]
    have e : IntKind.u64.wrap ((IntKind.u64.wrap (2 * (IntKind.u64.wrap (wrap64 (-(wrap64 (a + 1))))))) + 1) = (zig a : Int) := by
      rw [w64_id (n := a + 1) (by omega) (by omega), w64_id (by omega) (by omega), u64_id (n := -(a + 1)) (by omega) (by omega), u64_id (n := 2 * -(a + 1)) (by omega) (by omega), u64_id (by omega) (by omega)]
      unfold zig
      rw [if_neg (by omega)]
      omega
    rw [e]
    exact Ev.bind (ev_ref_PutUint (zig_lt h0 h1)) (Ev.now _)
  · simp only [if_neg h]
    have e : IntKind.u64.wrap (2 * (IntKind.u64.wrap a)) = (zig a : Int) := by
      rw [u64_id (n := a) (by omega) (by omega), u64_id (by omega) (by omega)]
      unfold zig
      rw [if_pos (by omega)]
      omega
    rw [e]
    exact Ev.bind (ev_ref_PutUint (zig_lt h0 h1)) (Ev.now _)

/-! ### reading -/
def Bytes (l : List Int) : Prop := ∀ x ∈ l, 0 ≤ x ∧ x ≤ 255
theorem Bytes.drop {l : List Int} (h : Bytes l) (n : Nat) : Bytes (l.drop n) := fun x hx => h x (List.mem_of_mem_drop hx)
theorem rd_drop {l : List Int} {i : Nat} (h : i < l.length) : l.drop i = rd l (i : Int) :: l.drop (i + 1) := by
  rw [List.drop_eq_getElem_cons h]
  congr 1
  simp [rd, List.getD_eq_getElem?_getD, h]
theorem rd_byte {l : List Int} (hb : Bytes l) {i : Nat} (h : i < l.length) : 0 ≤ rd l (i : Int) ∧ rd l (i : Int) ≤ 255 := by
  have e : rd l (i : Int) = l[i] := by simp [rd, List.getD_eq_getElem?_getD, h]
  rw [e]
  exact hb _ (List.getElem_mem h)
def resU (acc : Int) (i : Nat) : Option (Int × Nat) → Int × Int × Int
  | none => (0, 0, 20)
  | some r => (acc + r.1 * 128 ^ i, ((i + r.2 : Nat) : Int), 0)
theorem resU_step (acc d : Int) (i : Nat) (r : Option (Int × Nat)) : resU (acc + d * 128 ^ i) (i + 1) r = resU acc i (r.map fun r => (d + 128 * r.1, r.2 + 1)) := by
  cases r with
  | none => rfl
  | some r =>
    simp only [resU, Option.map_some, Prod.mk.injEq, and_true]
    constructor
    · rw [Int.pow_succ, Int.add_mul]
      have : r.1 * (128 ^ i * 128) = 128 * r.1 * 128 ^ i := by rw [Int.mul_comm (128 ^ i) 128, ← Int.mul_assoc, Int.mul_comm r.1 128]
      rw [this]
      omega
    · omega
theorem acc_next {acc d : Int} {i : Nat} (h0 : 0 ≤ acc) (h1 : acc < 128 ^ i) (d0 : 0 ≤ d) (d1 : d < 128) : 0 ≤ acc + d * 128 ^ i ∧ acc + d * 128 ^ i < 128 ^ (i + 1) := by
  have hp : (0 : Int) < 128 ^ i := Int.pow_pos (by decide)
  have h2 : d * 128 ^ i ≤ 127 * 128 ^ i := Int.mul_le_mul_of_nonneg_right (by omega) (by omega)
  have h3 : 0 ≤ d * 128 ^ i := Int.mul_nonneg d0 (by omega)
  rw [Int.pow_succ]
  omega

theorem ev_codec_Uint_l0 (l : List Int) (hb : Bytes l) (d : Nat) : ∀ (i : Nat) (acc : Int), i + d = 10 → i ≤ l.length → 0 ≤ acc → acc < 128 ^ i → Ev (fun k => codec_Uint.l0 k l acc (i : Int)) (resU acc i (decU i (l.drop i))) := by
  induction d with
  | zero =>
    intro i acc hi hl h0 h1
    obtain rfl : i = 10 := by omega
    refine Ev.step (fun k => rfl) ?_
    simp only [codec_Uint.l0]
    simp only [if_neg (show ¬ (((10 : Nat) : Int) < 10) by omega)]
    rw [decU_ten]
    exact Ev.now _
  | succ d ih =>
    intro i acc hi hl h0 h1
    refine Ev.step (fun k => rfl) ?_
    simp only [codec_Uint.l0]
    simp only [if_pos (show ((i : Int) < 10) by omega)]
    by_cases he : i = l.length
    · simp only [if_pos (show ((i : Int) ≥ (l.length : Int)) by omega)]
      rw [List.drop_eq_nil_of_le (by omega)]
      exact Ev.now _
    · have hlt : i < l.length := by omega
      have hc := rd_byte hb hlt
      simp only [if_neg (show ¬ ((i : Int) ≥ (l.length : Int)) by omega), if_pos (show (0 : Int) ≤ (i : Int) by omega), if_pos (show ((i : Int) < (l.length : Int)) by omega)]
      rw [rd_drop hlt]
      generalize hcc : rd l (i : Int) = c at hc
      have e7 : wrap64 (7 * (i : Int)) = 7 * (i : Int) := w64_id (by omega) (by omega)
      have ei : wrap64 ((i : Int) + 1) = ((i + 1 : Nat) : Int) := by rw [w64_id (by omega) (by omega)]; omega
      have main : (i = 9 → c ≤ 1) → Ev (fun k => codec_Uint.j1 k l acc (i : Int) c (i : Int) false) (resU acc i (decU i (c :: l.drop (i + 1)))) := by
        intro h9
        refine Ev.step (fun k => rfl) ?_
        simp only [codec_Uint.j1]
        simp only [if_neg (show ¬ (false = true) by decide), e7, ei, if_pos (show (0 : Int) ≤ 7 * (i : Int) by omega)]
        by_cases hbig : c ≥ 128
        · simp only [if_pos hbig]
          have hi9 : i ≠ 9 := fun h => by have := h9 h; omega
          have e1 : (c - 128) % 256 = c - 128 := by omega
          rw [e1, or_digit (by omega) h0 h1 (by omega) (by omega) (fun h => absurd h hi9) rfl]
          have hn := acc_next h0 h1 (d := c - 128) (by omega) (by omega)
          have := ih (i + 1) (acc + (c - 128) * 128 ^ i) (by omega) (by omega) hn.1 hn.2
          rw [resU_step] at this
          simp only [decU]
          rw [if_neg (by omega), if_neg (by omega)]
          have e2 : c % 128 = c - 128 := by omega
          rw [e2]
          exact this
        · simp only [if_neg hbig]
          by_cases hz : c = 0
          · simp only [if_pos hz]
            by_cases hp : i = 0
            · simp only [if_neg (show ¬ ((i : Int) > 0) by omega)]
              simp only [decU]
              rw [if_neg (by omega), if_pos (by omega), u64_id (by omega) (by omega), or_digit (by omega) h0 h1 (by omega) (by omega) (by omega) rfl]
              have e3 : ((i + 1 : Nat) : Int) = ((i + 1 : Nat) : Int) := rfl
              exact Ev.now _
            · simp only [if_pos (show ((i : Int) > 0) by omega)]
              simp only [decU]
              rw [if_pos (by omega)]
              exact Ev.now _
          · simp only [if_neg hz]
            simp only [decU]
            rw [if_neg (by omega), if_pos (by omega), u64_id (by omega) (by omega), or_digit (by omega) h0 h1 (by omega) (by omega) (by omega) rfl]
            exact Ev.now _
      by_cases h9 : i = 9
      · simp only [if_pos (show ((i : Int) = 9) by omega)]
        by_cases hgt : c > 1
        · refine Ev.step (fun k => rfl) ?_
          simp only [codec_Uint.j1]
          simp only [decide_eq_true hgt, if_true]
          subst h9
          rw [decU_nine hgt hc.2]
          exact Ev.now _
        · simp only [decide_eq_false hgt]
          exact main (fun _ => by omega)
      · simp only [if_neg (show ¬ ((i : Int) = 9) by omega)]
        exact main (fun h => absurd h h9)
theorem ev_codec_Uint {l : List Int} (hb : Bytes l) : Ev (fun k => codec_Uint.f k l) (resU 0 0 (decU 0 l)) := ev_codec_Uint_l0 l hb 10 0 0 rfl (Nat.zero_le _) (by decide) (by decide)

theorem ev_ref_Uint_l0 (l : List Int) (hb : Bytes l) (d : Nat) : ∀ (i : Nat) (acc : Int), i + d = 10 → i ≤ l.length → (i ≤ 9 → 0 ≤ acc ∧ acc < 128 ^ i) → Ev (fun k => windlassref2_Uint.l0 k l acc (i : Int)) (resU acc i (decU i (l.drop i))) := by
  induction d with
  | zero =>
    intro i acc hi hl h0
    obtain rfl : i = 10 := by omega
    rw [decU_ten]
    refine Ev.step (fun k => rfl) ?_
    simp only [windlassref2_Uint.l0]
    by_cases he : (10 : Nat) = l.length
    · simp only [if_neg (show ¬ (((10 : Nat) : Int) < (l.length : Int)) by omega)]
      exact Ev.now _
    · simp only [if_pos (show (((10 : Nat) : Int) < (l.length : Int)) by omega), if_pos (show (0 : Int) ≤ ((10 : Nat) : Int) by omega), if_pos (show ((10 : Nat) : Int) = 10 by omega)]
      refine Ev.step (fun k => rfl) ?_
      simp only [windlassref2_Uint.j1, if_true]
      exact Ev.now _
  | succ d ih =>
    intro i acc hi hl h01
    obtain ⟨h0, h1⟩ := h01 (by omega)
    refine Ev.step (fun k => rfl) ?_
    simp only [windlassref2_Uint.l0]
    by_cases he : i = l.length
    · simp only [if_neg (show ¬ ((i : Int) < (l.length : Int)) by omega)]
      rw [List.drop_eq_nil_of_le (by omega)]
      exact Ev.now _
    · have hlt : i < l.length := by omega
      have hc := rd_byte hb hlt
      have e7 : wrap64 (7 * (i : Int)) = 7 * (i : Int) := w64_id (by omega) (by omega)
      have ei : wrap64 ((i : Int) + 1) = ((i + 1 : Nat) : Int) := by rw [w64_id (by omega) (by omega)]; omega
      simp only [if_pos (show (0 : Int) ≤ (i : Int) by omega), if_pos (show ((i : Int) < (l.length : Int)) by omega), if_neg (show ¬ ((i : Int) = 10) by omega)]
      rw [rd_drop hlt]
      have main : ∀ c, rd l (i : Int) = c → 0 ≤ c ∧ c ≤ 255 → (i = 9 → c % 128 ≤ 1) → Ev (fun k => windlassref2_Uint.j1 k l acc (i : Int) (c % 128) false) (resU acc i (if c < 128 then some (c, 1) else (decU (i + 1) (l.drop (i + 1))).map fun r => (c % 128 + 128 * r.1, r.2 + 1))) := by
        intro c hcc hc h9
        refine Ev.step (fun k => rfl) ?_
        simp only [windlassref2_Uint.j1]
        simp only [if_neg (show ¬ (false = true) by decide), e7, ei, if_pos (show (0 : Int) ≤ 7 * (i : Int) by omega), if_pos (show (0 : Int) ≤ (i : Int) by omega), if_pos (show ((i : Int) < (l.length : Int)) by omega), hcc]
        rw [or_digit (by omega) h0 h1 (by omega) (by omega) h9 rfl]
        by_cases hbig : c < 128
        · simp only [if_pos hbig]
          have e2 : c % 128 = c := by omega
          rw [e2]
          exact Ev.now _
        · simp only [if_neg hbig]
          have := ih (i + 1) (acc + (c % 128) * 128 ^ i) (by omega) (by omega) (fun _ => acc_next h0 h1 (by omega) (by omega))
          rw [resU_step] at this
          exact this
      have em : IntKind.u64.wrap (Int.tmod (rd l (i : Int)) 128) = rd l (i : Int) % 128 := by rw [Int.tmod_eq_emod_of_nonneg hc.1, u64_id (by omega) (by omega)]
      simp only [em, decU]
      generalize hcc : rd l (i : Int) = c at hc
      by_cases h9 : i = 9
      · simp only [if_pos (show ((i : Int) = 9) by omega)]
        by_cases hgt : c % 128 > 1
        · simp only [if_pos hgt]
          rw [if_pos (by omega)]
          refine Ev.step (fun k => rfl) ?_
          simp only [windlassref2_Uint.j1, if_true]
          exact Ev.now _
        · simp only [if_neg hgt, if_pos (show ((i : Int) > 0) by omega)]
          by_cases hz : c = 0
          · rw [if_pos (by omega)]
            have : (c == 0) = true := by simp [hz]
            simp only [this]
            refine Ev.step (fun k => rfl) ?_
            simp only [windlassref2_Uint.j1, if_true]
            exact Ev.now _
          · rw [if_neg (by omega)]
            have : (c == 0) = false := by simp [hz]
            simp only [this]
            exact main c hcc hc (fun _ => by omega)
      · simp only [if_neg (show ¬ ((i : Int) = 9) by omega)]
        by_cases hp : i = 0
        · simp only [if_neg (show ¬ ((i : Int) > 0) by omega)]
          rw [if_neg (by omega)]
          exact main c hcc hc (fun h => absurd h h9)
        · simp only [if_pos (show ((i : Int) > 0) by omega)]
          by_cases hz : c = 0
          · rw [if_pos (by omega)]
            have : (c == 0) = true := by simp [hz]
            simp only [this]
            refine Ev.step (fun k => rfl) ?_
            simp only [windlassref2_Uint.j1, if_true]
            exact Ev.now _
          · rw [if_neg (by omega)]
            have : (c == 0) = false := by simp [hz]
            simp only [this]
            exact main c hcc hc (fun h => absurd h h9)
theorem ev_ref_Uint {l : List Int} (hb : Bytes l) : Ev (fun k => windlassref2_Uint.f k l) (resU 0 0 (decU 0 l)) := ev_ref_Uint_l0 l hb 10 0 0 rfl (Nat.zero_le _) (fun _ => ⟨by decide, by decide⟩)

def resI : Option (Int × Nat) → Int × Int × Int
  | none => (0, 0, 20)
  | some r => (zag r.1, (r.2 : Int), 0)
theorem resU_none : resU 0 0 none = (0, 0, 20) := rfl
theorem resU_some (n : Int) (len : Nat) : resU 0 0 (some (n, len)) = (n, (len : Int), 0) := by simp [resU]
theorem ev_codec_Int {l : List Int} (hb : Bytes l) : Ev (fun k => codec_Int.f k l) (resI (decU 0 l)) := by
  unfold codec_Int.f
  refine Ev.bind (ev_codec_Uint hb) ?_
  cases h : decU 0 l with
  | none =>
    have : bits .xor .i64 (wrap64 (0 / 2)) (wrap64 (-(wrap64 (bits .and .u64 0 1)))) = zag 0 := zag_code (n := 0) (by decide) (by decide)
    simp only [resU_none, this]
    exact Ev.now _
  | some r =>
    obtain ⟨n, len⟩ := r
    have hbd := decU_top hb h
    simp only [resU_some, zag_code hbd.1 hbd.2.1]
    exact Ev.now _
theorem ev_ref_Int {l : List Int} (hb : Bytes l) : Ev (fun k => windlassref2_Int.f k l) (resI (decU 0 l)) := by
  unfold windlassref2_Int.f
  refine Ev.bind (ev_ref_Uint hb) ?_
  cases h : decU 0 l with
  | none =>
    simp only [resU_none, if_neg (show ¬ ((20 : Int) = 0) by decide)]
    exact Ev.now _
  | some r =>
    obtain ⟨n, len⟩ := r
    have hbd := decU_top hb h
    simp only [resU_some, if_true, Int.tmod_eq_emod_of_nonneg hbd.1, Int.tdiv_eq_ediv_of_nonneg hbd.1]
    have e : IntKind.u64.wrap (n / 2) = n / 2 := u64_id (by omega) (by omega)
    simp only [e, w64_id (n := n / 2) (by omega) (by omega), w64_id (n := -(n / 2)) (by omega) (by omega), w64_id (n := -(n / 2) - 1) (by omega) (by omega)]
    unfold resI zag
    by_cases h2 : n % 2 = 0
    · simp only [if_neg (show ¬ (n % 2 = 1) by omega), if_pos h2]
      exact Ev.now _
    · simp only [if_pos (show n % 2 = 1 by omega), if_neg h2]
      exact Ev.now _
end Go.Proofs.Ythbnblmnamckmaa.Q
