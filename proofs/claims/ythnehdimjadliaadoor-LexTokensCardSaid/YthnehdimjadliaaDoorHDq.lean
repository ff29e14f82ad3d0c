import Derived.Lib.SplitLaws
import Derived.Lib.Replace
/- Quotes doubled: what strings.ReplaceAll(s, "\"", "\"\"") is. -/
namespace Go.Proofs.YthnehdimjadliaaDoor.PAll
open Go Go.Proofs
def dq : List UInt8 → List UInt8
  | [] => []
  | c :: r => if c = 34 then 34 :: 34 :: dq r else c :: dq r
theorem index_ne (c : UInt8) (r : List UInt8) (h : c ≠ 34) : Lib.index (c :: r) [34] = if Lib.index r [34] == -1 then -1 else Lib.index r [34] + 1 := by
  have : ([34] : List UInt8).isPrefixOf (c :: r) = false := by simp [List.isPrefixOf]; exact fun e => h e.symm
  rw [Lib.index, this]
  rfl
theorem index_eq (r : List UInt8) : Lib.index (34 :: r) [34] = 0 := by
  rw [Lib.index]
  rfl
theorem repK_ne (c : UInt8) (r : List UInt8) (h : c ≠ 34) (k : Nat) : Lib.replaceK [34] [34, 34] k (c :: r) = c :: Lib.replaceK [34] [34, 34] k r := by
  cases k with
  | zero => rfl
  | succ k =>
    rw [Lib.replaceK, Lib.replaceK, index_ne c r h]
    have hge := Lib.index_ge r [34]
    by_cases hm : Lib.index r [34] = -1
    · simp [hm]
    · have h1 : (Lib.index r [34] == -1) = false := beq_eq_false_iff_ne.2 hm
      have h2 : (Lib.index r [34] + 1 == -1) = false := beq_eq_false_iff_ne.2 (by omega)
      rw [h1]
      simp only [Bool.false_eq_true, if_false, h2]
      obtain ⟨i, hi⟩ : ∃ i : Nat, Lib.index r [34] = i := ⟨(Lib.index r [34]).toNat, by omega⟩
      rw [hi]
      have e1 : ((i : Int) + 1).toNat = i + 1 := by omega
      rw [e1, Int.toNat_natCast]
      have e2 : i + 1 + ([34] : List UInt8).length = (i + ([34] : List UInt8).length) + 1 := by omega
      rw [e2, List.drop_succ_cons, List.take_succ_cons]
      rfl
theorem repK_eq (r : List UInt8) (k : Nat) : Lib.replaceK [34] [34, 34] (k + 1) (34 :: r) = 34 :: 34 :: Lib.replaceK [34] [34, 34] k r := by
  rw [Lib.replaceK, index_eq]
  rfl
theorem repK_dq : ∀ s : List UInt8, Lib.replaceK [34] [34, 34] (s.count 34) s = dq s
  | [] => rfl
  | c :: r => by
    by_cases h : c = 34
    · subst h
      rw [List.count_cons_self, repK_eq, repK_dq r, dq, if_pos rfl]
    · rw [List.count_cons_of_ne h, repK_ne c r h, repK_dq r, dq, if_neg h]
theorem rep_dq (s : List UInt8) : Lib.replaceAll s [34] [34, 34] = dq s := by
  unfold Lib.replaceAll Lib.replace
  rw [if_neg (by decide)]
  have : Lib.replaceNum s [34] (-1) = s.count 34 := by
    unfold Lib.replaceNum
    rw [if_pos (.inl (by decide)), Lib.count_one]
  rw [this, repK_dq]
theorem dq_length : ∀ s : List UInt8, (dq s).length ≤ 2 * s.length
  | [] => Nat.le_refl _
  | c :: r => by
    have := dq_length r
    unfold dq
    split <;> simp <;> omega
end Go.Proofs.YthnehdimjadliaaDoor.PAll
