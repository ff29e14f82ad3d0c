import Derived.Test.YtnekehlghkfbdaaDoorPAllx5
import Derived.Test.YtnekehlghkfbdaaDoorItoa
import Derived.Lib.AppendIntMem
import Derived.Lib.ItoaLen
/- Whole numbers as digits: strconv.Itoa and windlassref3.Digits tell the same; a text cut off at sixty-four bytes. -/
namespace Go.Proofs.YtnekehlghkfbdaaDoor.PAll
open Go Go.Proofs Go.RowKit Go.Shelf Go.Proofs.YtnekehlghkfbdaaDoorW.PrintWords Go.Proofs.YtnekehlghkfbdaaDoorW.PrintLast Go.Proofs.YtnekehlghkfbdaaDoorW.PrintMore
set_option linter.unusedVariables false
set_option linter.unusedSimpArgs false
def dec (n : Int) : ByteArray := ⟨(Lib.itoa n).toArray⟩
def num (t p x : ByteArray) : ByteArray := (((t ++ (⟨#[58]⟩ : ByteArray)) ++ p) ++ (⟨#[58]⟩ : ByteArray)) ++ x
def cut64 (s : ByteArray) : ByteArray := if 64 < s.size then s.extract 0 64 else s
theorem num_size (t p x : ByteArray) : (num t p x).size = t.size + 1 + p.size + 1 + x.size := by
  unfold num
  simp only [ByteArray.size_append]
  rfl
theorem dec_size (n : Int) (h0 : -9223372036854775808 ≤ n) (h1 : n ≤ 9223372036854775807) : (dec n).size ≤ 21 := by
  have := Lib.itoa_length_le n h0 h1
  unfold dec
  simpa [ByteArray.size] using this
theorem same_text {s : ByteArray} {n : Nat} (h : n = s.size) : Ending.returned (Value.string (s.extract 0 n)) = Ending.returned (Value.string s) := by
  rw [h, ByteArray.extract_zero_size]
theorem itoa_calls (n : Int) (h0 : -9223372036854775808 ≤ n) (h1 : n ≤ 9223372036854775807) (w : World) (htab : Lib.TabIs Tryd.prog w "internal/strconv.uint64pow10" .u64 Lib.pow10Tab) :
    Calls Tryd.prog 15 #[.int .i64 n] w fun e w' => e = .returned (.string (dec n)) ∧ Below w.heap.size w w' :=
  (Any.strconv_Itoa Tryd.laysItoa n h0 h1 w htab).mono fun e w' h => by
    obtain ⟨he, k, os, hw⟩ := h
    rw [hw]
    exact ⟨he, Lib.below_grow _ w (Nat.le_refl _) k os⟩
theorem itoa_at (n : Int) (T : ByteArray) (hT : T = dec n) (h0 : -9223372036854775808 ≤ n) (h1 : n ≤ 9223372036854775807) (w : World) (htab : Lib.TabIs Tryd.prog w "internal/strconv.uint64pow10" .u64 Lib.pow10Tab) :
    Calls Tryd.prog 15 #[.int .i64 n] w fun e w' => e = .returned (.string T) ∧ Below w.heap.size w w' := hT ▸ itoa_calls n h0 h1 w htab
/-! The digits' loop. -/
theorem strOfNums_one (u : Nat) (h : u < 10) : strOfNums [(IntKind.u64.wrap (48 + (u : Int))) % 256] = ⟨#[UInt8.ofNat (48 + u)]⟩ := by
  have : ∀ v : Fin 10, strOfNums [(IntKind.u64.wrap (48 + ((v : Nat) : Int))) % 256] = ⟨#[UInt8.ofNat (48 + v)]⟩ := by decide +kernel
  exact this ⟨u, h⟩
theorem bytes_cons (b : UInt8) (l : List UInt8) (r : ByteArray) : (⟨l.toArray⟩ : ByteArray) ++ ((⟨#[b]⟩ : ByteArray) ++ r) = (⟨(l ++ [b]).toArray⟩ : ByteArray) ++ r := by
  rw [← ByteArray.append_assoc]
  congr 1
theorem wrap_u (u : Nat) (h : u < 18446744073709551616) : IntKind.u64.wrap (u : Int) = (u : Int) := by
  rw [IntKind.wrap_u64]
  omega
theorem digits_l (a0 : Int) : ∀ (k u : Nat) (r : ByteArray), u < 10 ^ (k + 1) → u < 18446744073709551616 → r.size + (k + 2) ≤ 100 →
    windlassref3_Digits.l0 (k + 1) a0 (u : Int) r = (if a0 < 0 then some ((⟨#[45]⟩ : ByteArray) ++ ((⟨(Lib.decDigits u).toArray⟩ : ByteArray) ++ r)) else some ((⟨(Lib.decDigits u).toArray⟩ : ByteArray) ++ r))
  | k, u, r, hk, hu, hr => by
    have hm : Int.tmod (u : Int) 10 = ((u % 10 : Nat) : Int) := by
      rw [Int.tmod_eq_emod_of_nonneg (by omega)]; omega
    have hd : IntKind.u64.wrap (Int.tdiv (u : Int) 10) = ((u / 10 : Nat) : Int) := by
      rw [Int.tdiv_eq_ediv_of_nonneg (by omega), show (u : Int) / 10 = ((u / 10 : Nat) : Int) by omega]
      exact wrap_u _ (by omega)
    have ho := strOfNums_one (u % 10) (Nat.mod_lt _ (by decide))
    have hs1 : (⟨#[UInt8.ofNat (48 + u % 10)]⟩ : ByteArray).size = 1 := rfl
    unfold windlassref3_Digits.l0
    simp only [hm, hd, Option.bind_some, ho]
    rw [if_pos (by rw [hs1]; omega)]
    by_cases h0 : u / 10 = 0
    · have hu10 : u < 10 := by omega
      have e : u % 10 = u := Nat.mod_eq_of_lt hu10
      rw [if_pos (by rw [h0]; rfl), Lib.decDigits_one hu10, e]
      by_cases ha : a0 < 0
      · rw [if_pos ha, if_pos ha, if_pos (by rw [ByteArray.size_append]; show 1 + (1 + r.size) ≤ _; omega)]
      · rw [if_neg ha, if_neg ha]
    · rw [if_neg (by omega)]
      cases k with
      | zero => simp at hk; omega
      | succ k =>
        have hk' : u / 10 < 10 ^ (k + 1) := by
          rw [Nat.pow_succ] at hk
          omega
        rw [digits_l a0 k (u / 10) _ hk' (by omega) (by rw [ByteArray.size_append, hs1]; omega)]
        rw [bytes_cons, ← show Lib.decDigits u = Lib.decDigits (u / 10) ++ [UInt8.ofNat (48 + u % 10)] by rw [Lib.decDigits, dif_neg (by omega)]]
theorem digits_dec (n : Int) (h0 : -9223372036854775808 ≤ n) (h1 : n ≤ 9223372036854775807) : windlassref3_Digits.f 30 n = some (dec n) := by
  have nil : ∀ l : List UInt8, (⟨l.toArray⟩ : ByteArray) ++ (⟨#[]⟩ : ByteArray) = ⟨l.toArray⟩ := fun l => by
    apply ByteArray.ext
    simp [ByteArray.data_append]
  have hb : ∀ u : Nat, u ≤ 9223372036854775808 → u < 10 ^ (28 + 1) := fun u hu => Nat.lt_of_le_of_lt hu (by decide)
  unfold windlassref3_Digits.f dec Lib.itoa
  by_cases hn : n < 0
  · obtain ⟨u, rfl⟩ : ∃ u : Nat, n = -(u : Int) := ⟨n.natAbs, by omega⟩
    have hw : IntKind.u64.wrap (-(IntKind.u64.wrap (-(u : Int)))) = ((u : Nat) : Int) := by
      rw [IntKind.wrap_u64, IntKind.wrap_u64]
      omega
    rw [if_pos hn, if_pos hn, hw]
    show windlassref3_Digits.l0 (28 + 1) (-(u : Int)) (u : Int) ⟨#[]⟩ = _
    rw [digits_l (-(u : Int)) 28 u ⟨#[]⟩ (hb u (by omega)) (by omega) (by decide), if_pos hn, nil]
    congr 1
    apply ByteArray.ext
    simp [ByteArray.data_append]
  · obtain ⟨u, rfl⟩ : ∃ u : Nat, n = u := ⟨n.toNat, by omega⟩
    rw [if_neg hn, if_neg hn, wrap_u u (by omega)]
    show windlassref3_Digits.l0 (28 + 1) (u : Int) (u : Int) ⟨#[]⟩ = _
    rw [digits_l (u : Int) 28 u ⟨#[]⟩ (hb u (by omega)) (by omega) (by decide), if_neg hn, nil]
    rfl
end Go.Proofs.YtnekehlghkfbdaaDoor.PAll
