import Derived.Test.YthnehdimjadliaaDoorPAllx12
import Derived.Test.YthnehdimjadliaaDoorHLexP
/- The plain law of LexQuotes. -/
namespace Go.Proofs.YthnehdimjadliaaDoor.Pure
open Go Go.Proofs Go.RowKit Go.Proofs.YthnehdimjadliaaDoor.PAll Go.Proofs.YthnehdimjadliaaDoorW.PrintWords Go.Proofs.YthnehdimjadliaaDoorW.PrintLast
set_option linter.unusedVariables false
theorem tok_ok (t s : ByteArray) (a : Nat) (ha : a ≤ 100) (hs : s.size ≤ 1500) (ht : by' t = List.replicate a 32) :
    lex_Tokens.f ((t ++ qte s) ++ (⟨#[32, 120]⟩ : ByteArray)) = some ([tk 4 (by' s) a, tk 1 [120] (a + (dq (by' s)).length + 3), tk 0 [] (a + (dq (by' s)).length + 4)], 0, 0) := by
  have hq := size_qte s
  have htz : t.size = a := by rw [← by_size, ht, List.length_replicate]
  have hb : by' ((t ++ qte s) ++ (⟨#[32, 120]⟩ : ByteArray)) = List.replicate a 32 ++ (34 :: (dq (by' s) ++ (34 :: [32, 120]))) := by
    rw [by_app, by_app, ht, by_qte]
    simp [by']
  have hz : ((t ++ qte s) ++ (⟨#[32, 120]⟩ : ByteArray)).size = a + (dq (by' s)).length + 4 := by
    rw [← by_size, hb]; simp; omega
  have hz2 : ((t ++ qte s) ++ (⟨#[32, 120]⟩ : ByteArray)).size ≤ 4096 := by
    rw [ByteArray.size_append, ByteArray.size_append, htz]
    have : (⟨#[32, 120]⟩ : ByteArray).size = 2 := rfl
    omega
  unfold lex_Tokens.f
  rw [if_pos hz2, hb]
  obtain ⟨f, hf⟩ : ∃ f, ((t ++ qte s) ++ (⟨#[32, 120]⟩ : ByteArray)).size + 1 = (f + 4) + a := ⟨(dq (by' s)).length + 1, by omega⟩
  rw [hf, lex_spaces, lex_quote, qt_dq [32, 120] (by intro d r h; cases h; decide) (by' s)]
  have hd : (dq (by' s) ++ (34 :: [32, 120])).drop ((dq (by' s)).length + 1) = [32, 120] := by
    rw [List.drop_append]
    simp
  simp only [hd, Nat.zero_add, List.nil_append]
  have e1 : ∀ b acc, lexGo (f + 3) [32, 120] b acc = some (acc ++ [tk 1 [120] (b + 1), tk 0 [] (b + 2)], 0, 0) := by
    intro b acc
    rw [lex_blank _ _ _ _ _ (by decide), lexGo, if_neg (by decide), if_neg (by decide), if_neg (by decide), if_pos (by decide)]
    have h1 : runL pLD [120] = 1 := by decide
    have h2 : isWord ([120].take 1) = false := by decide +kernel
    rw [h1, h2]
    show lexGo (f + 1) [] (b + 1 + 1) _ = _
    rw [lex_end, List.append_assoc]
    rfl
  rw [e1]
  simp only [Option.map_some, List.cons_append, List.nil_append]
  rfl
theorem tok_open (t s : ByteArray) (a : Nat) (ha : a ≤ 100) (hs : s.size ≤ 1500) (ht : by' t = List.replicate a 32) :
    lex_Tokens.f ((t ++ qte s) ++ (⟨#[34]⟩ : ByteArray)) = some ([], (a : Int), 52) := by
  have hq := size_qte s
  have htz : t.size = a := by rw [← by_size, ht, List.length_replicate]
  have hb : by' ((t ++ qte s) ++ (⟨#[34]⟩ : ByteArray)) = List.replicate a 32 ++ (34 :: (dq (by' s) ++ [34, 34])) := by
    rw [by_app, by_app, ht, by_qte]
    simp [by']
  have hz : ((t ++ qte s) ++ (⟨#[34]⟩ : ByteArray)).size = a + (dq (by' s)).length + 3 := by
    rw [← by_size, hb]; simp; omega
  have hz2 : ((t ++ qte s) ++ (⟨#[34]⟩ : ByteArray)).size ≤ 4096 := by
    rw [ByteArray.size_append, ByteArray.size_append, htz]
    have : (⟨#[34]⟩ : ByteArray).size = 1 := rfl
    omega
  unfold lex_Tokens.f
  rw [if_pos hz2, hb]
  obtain ⟨f, hf⟩ : ∃ f, ((t ++ qte s) ++ (⟨#[34]⟩ : ByteArray)).size + 1 = (f + 1) + a := ⟨(dq (by' s)).length + 3, by omega⟩
  rw [hf, lex_spaces, lex_quote, qt_open]
  simp
theorem lq_run (s : ByteArray) (a : Nat) (ha : a ≤ 100) (hs : s.size ≤ 1500) : ∀ (n k i : Nat) (t : ByteArray), i + n = a → n < k → by' t = List.replicate i 32 →
    windlasslaw5_LexQuotes.l0 k s a t i = some true
  | 0, k, i, t, hi, hk, ht => by
    obtain ⟨k', rfl⟩ : ∃ k', k = k' + 1 := ⟨k - 1, by omega⟩
    obtain rfl : i = a := by omega
    have h1 : ¬ (i : Int) < (i : Int) := by omega
    have hq := size_qte s
    have htz : t.size = i := by rw [← by_size, ht, List.length_replicate]
    have hqf : lex_Quote.f s = some (qte s) := by unfold lex_Quote.f; rw [if_pos (by omega)]
    have s1 : t.size + (qte s).size ≤ 9223372036854775807 := by omega
    have s2 : (t ++ qte s).size + 2 ≤ 9223372036854775807 := by rw [ByteArray.size_append]; omega
    have s3 : (t ++ qte s).size + 1 ≤ 9223372036854775807 := by rw [ByteArray.size_append]; omega
    rw [windlasslaw5_LexQuotes.l0, if_neg h1, hqf]
    simp only [Option.bind_some]
    rw [if_pos s1, if_pos s2, tok_ok t s i ha hs ht]
    simp only [Option.bind_some]
    have e0 : rd_T28 [tk 4 (by' s) i, tk 1 [120] (i + (dq (by' s)).length + 3), tk 0 [] (i + (dq (by' s)).length + 4)] 0 = tk 4 (by' s) i := rfl
    have e1 : rd_T28 [tk 4 (by' s) i, tk 1 [120] (i + (dq (by' s)).length + 3), tk 0 [] (i + (dq (by' s)).length + 4)] 1 = tk 1 [120] (i + (dq (by' s)).length + 3) := rfl
    rw [e0, e1]
    have e2 : (tk 4 (by' s) i).f1 = s := (ba_eq s _ rfl).symm
    have e3 : (tk 4 (by' s) i).f0 = 4 := rfl
    have e4 : (tk 4 (by' s) i).f2 = (i : Int) := rfl
    have e5 : (tk 1 [120] (i + (dq (by' s)).length + 3)).f1.toList = [120] := show (⟨#[120]⟩ : ByteArray).toList = [120] by decide +kernel
    rw [e2, e3, e4, e5, if_pos s3, tok_open t s i ha hs ht]
    simp
  | n + 1, k, i, t, hi, hk, ht => by
    obtain ⟨k1, rfl⟩ : ∃ k', k = k' + 1 := ⟨k - 1, by omega⟩
    have h1 : (i : Int) < (a : Int) := by omega
    have htz : t.size = i := by rw [← by_size, ht, List.length_replicate]
    have hw : wrap64 ((i : Int) + 1) = ((i + 1 : Nat) : Int) := by unfold wrap64; omega
    rw [windlasslaw5_LexQuotes.l0, if_pos h1, if_pos (by omega), hw]
    exact lq_run s a ha hs n k1 (i + 1) _ (by omega) (by omega) (by rw [by_app, ht]; simp [by', List.replicate_succ'])
theorem LexQuotes : windlasslaw5_LexQuotes.Pure := by
  intro s a _ _
  refine ⟨200, ?_⟩
  unfold windlasslaw5_LexQuotes.f windlasslaw5_known.f
  rw [Option.bind_some, if_pos rfl]
  have hT : windlasslaw5_LexQuotes.j0 200 s a true = some true := by rw [windlasslaw5_LexQuotes.j0, if_pos rfl]
  by_cases h1 : (s.size : Int) > 1500
  · rw [if_pos h1, hT]
  · rw [if_neg h1]
    by_cases h2 : a < 0
    · rw [if_pos h2, hT]
    · rw [if_neg h2]
      by_cases h3 : a > 100
      · rw [decide_eq_true h3, hT]
      · rw [decide_eq_false h3, windlasslaw5_LexQuotes.j0, if_neg (by decide)]
        obtain ⟨n, rfl⟩ : ∃ n : Nat, a = n := ⟨a.toNat, by omega⟩
        exact lq_run s n (by omega) (by omega) n 199 0 _ (by omega) (by omega) rfl
end Go.Proofs.YthnehdimjadliaaDoor.Pure
