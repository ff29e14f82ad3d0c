import Derived.Test.YthnehdimjadliaaDoorHExt
/- Plain laws of lexGo: what stands between tokens; quotes. -/
namespace Go.Proofs.YthnehdimjadliaaDoor.PAll
open Go Go.Proofs Go.RowKit
set_option linter.unusedVariables false
theorem lex_blank (f : Nat) (c : UInt8) (r : List UInt8) (a : Nat) (acc : List S28) (h : isB c = true) : lexGo (f + 1) (c :: r) a acc = lexGo f r (a + 1) acc := by
  rw [lexGo, if_pos h]
theorem lex_spaces (f : Nat) (l : List UInt8) (acc : List S28) : ∀ (n a : Nat), lexGo (f + n) (List.replicate n 32 ++ l) a acc = lexGo f l (a + n) acc
  | 0, a => rfl
  | n + 1, a => by
    rw [List.replicate_succ, List.cons_append, ← Nat.add_assoc, lex_blank _ _ _ _ _ (by decide), lex_spaces f l acc n (a + 1)]
    congr 1; omega
theorem lex_end (f a : Nat) (acc : List S28) : lexGo (f + 1) [] a acc = some (acc ++ [tk 0 [] a], 0, 0) := rfl
theorem lex_quote (f : Nat) (r : List UInt8) (a : Nat) (acc : List S28) : lexGo (f + 1) (34 :: r) a acc = (match qt r with
      | none => some ([], a, 52)
      | some p => lexGo f (r.drop p.2) (a + (p.2 + 1)) (acc ++ [tk 4 p.1 a])) := by
  rw [lexGo, if_neg (by decide), if_neg (by decide), if_neg (by decide), if_neg (by decide), if_pos rfl]
  rcases qt r with _ | ⟨p1, p2⟩ <;> rfl
theorem qt_else (c : UInt8) (r : List UInt8) (h : c ≠ 34) : qt (c :: r) = (qt r).map (fun p => (c :: p.1, p.2 + 1)) := by
  cases r <;> simp [qt, h]
theorem qt_dq (r : List UInt8) (h : ∀ d r', r = d :: r' → d ≠ 34) : ∀ s : List UInt8, qt (dq s ++ 34 :: r) = some (s, (dq s).length + 1)
  | [] => qt_end r h
  | c :: s => by
    have ih := qt_dq r h s
    by_cases hc : c = 34
    · subst hc
      rw [dq, if_pos rfl, List.cons_append, List.cons_append, qt_two, ih]
      rfl
    · rw [dq, if_neg hc, List.cons_append, qt_else _ _ hc, ih]
      rfl
theorem qt_open : ∀ s : List UInt8, qt (dq s ++ [34, 34]) = none
  | [] => rfl
  | c :: s => by
    have ih := qt_open s
    by_cases hc : c = 34
    · subst hc
      rw [dq, if_pos rfl, List.cons_append, List.cons_append, qt_two, ih]
      rfl
    · rw [dq, if_neg hc, List.cons_append, qt_else _ _ hc, ih]
      rfl
theorem by_qte (s : ByteArray) : by' (qte s) = 34 :: (dq (by' s) ++ [34]) := by
  unfold qte
  rw [by_app, by_app, rep_dq]
  rfl
theorem size_qte (s : ByteArray) : (qte s).size ≤ 2 * s.size + 2 := by
  have := dq_length (by' s)
  rw [← by_size, by_qte, List.length_cons, List.length_append]
  rw [by_size] at this
  simp only [List.length_cons, List.length_nil]
  omega
end Go.Proofs.YthnehdimjadliaaDoor.PAll
