import Derived.Test.YthnehdimjadliaaDoorPAllx24
import Derived.Test.YthnehdimjadliaaDoorJC
/- The plain law of LexTokens. -/
namespace Go.Proofs.YthnehdimjadliaaDoor.Pure
open Go Go.Proofs Go.RowKit Go.Proofs.YthnehdimjadliaaDoor.PAll Go.Proofs.YthnehdimjadliaaDoorW.PrintWords Go.Proofs.YthnehdimjadliaaDoorW.PrintLast
set_option linter.unusedVariables false
theorem rd_28 (pre ts : List S28) (t : S28) : rd_T28 (pre ++ t :: ts) (pre.length : Int) = t := by
  unfold rd_T28
  rw [Int.toNat_natCast, List.getD_eq_getElem?_getD, List.getElem?_append_right (Nat.le_refl _), Nat.sub_self]
  rfl
theorem tok_run : ∀ (T pre : List S28) (k : Nat), pre.length + T.length ≤ 10000 → T.length < k → windlasshelp_Tokens.l0 k (pre ++ T) (pre ++ T) (pre.length : Int) = some true
  | [], pre, k, hl, hk => by
    obtain ⟨k, rfl⟩ : ∃ k', k = k' + 1 := ⟨k - 1, by omega⟩
    rw [windlasshelp_Tokens.l0, if_neg (by simp)]
  | t :: T, pre, k, hl, hk => by
    obtain ⟨k, rfl⟩ : ∃ k', k = k' + 1 := ⟨k - 1, by omega⟩
    simp only [List.length_cons] at hl hk
    have ih := tok_run T (pre ++ [t]) k (by simp; omega) (by omega)
    rw [List.append_assoc, List.singleton_append, List.length_append, List.length_cons, List.length_nil] at ih
    rw [windlasshelp_Tokens.l0, if_pos (by simp; omega), if_pos (by omega), if_pos (by simp; omega), if_neg (by simp), wrap_1 _ (by omega)]
    exact ih
theorem tokens_same (T : List S28) (k : Nat) (hl : T.length ≤ 10000) (hk : T.length < k) : windlasshelp_Tokens.f k T T = some true := by
  unfold windlasshelp_Tokens.f
  rw [if_pos rfl]
  exact tok_run T [] k (by simpa using hl) hk
theorem texts_run : ∀ (T pre : List ByteArray) (k : Nat), pre.length + T.length ≤ 10000 → T.length < k → windlasshelp_Texts.l0 k (pre ++ T) (pre ++ T) (pre.length : Int) = some true
  | [], pre, k, hl, hk => by
    obtain ⟨k, rfl⟩ : ∃ k', k = k' + 1 := ⟨k - 1, by omega⟩
    rw [windlasshelp_Texts.l0, if_neg (by simp)]
  | t :: T, pre, k, hl, hk => by
    obtain ⟨k, rfl⟩ : ∃ k', k = k' + 1 := ⟨k - 1, by omega⟩
    simp only [List.length_cons] at hl hk
    have ih := texts_run T (pre ++ [t]) k (by simp; omega) (by omega)
    rw [List.append_assoc, List.singleton_append, List.length_append, List.length_cons, List.length_nil] at ih
    rw [windlasshelp_Texts.l0, if_pos (by simp; omega), if_pos (by omega), if_pos (by simp; omega), if_pos rfl, wrap_1 _ (by omega)]
    exact ih
theorem texts_same (T : List ByteArray) (k : Nat) (hl : T.length ≤ 10000) (hk : T.length < k) : windlasshelp_Texts.f k T T = some true := by
  unfold windlasshelp_Texts.f
  rw [if_pos rfl]
  exact texts_run T [] k (by simpa using hl) hk
theorem quote_run (s : ByteArray) (hs : s.size ≤ 5000) : ∀ (l : List UInt8) (a : Nat) (o : List UInt8) (k : Nat), (by' s).drop a = l → a ≤ s.size → o.length ≤ 2 * a + 1 → l.length < k →
    windlassref3_Quote.l0 k s (o.map fun b : UInt8 => (b.toNat : Int)) (a : Int) = some ⟨(o ++ (dq l ++ [34])).toArray⟩
  | [], a, o, k, h, ha, ho, hk => by
    obtain ⟨k, rfl⟩ : ∃ k', k = k' + 1 := ⟨k - 1, by omega⟩
    have h1 := bt_nil s a h
    have e : (o.map fun b : UInt8 => (b.toNat : Int)) ++ [34] = ((o ++ [34]).map fun b : UInt8 => (b.toNat : Int)) := by rw [List.map_append]; rfl
    rw [windlassref3_Quote.l0, if_neg (by omega), if_pos (by rw [List.length_map]; omega), e, Lib.Lz.strOfNums_map]
    rfl
  | c :: r, a, o, k, h, ha, ho, hk => by
    obtain ⟨k, rfl⟩ : ∃ k', k = k' + 1 := ⟨k - 1, by omega⟩
    obtain ⟨h1, h2, h3⟩ := bt_cons s a c r h
    simp only [List.length_cons] at hk
    have app : ∀ x : UInt8, ∀ o : List UInt8, (o.map fun b : UInt8 => (b.toNat : Int)) ++ [(x.toNat : Int)] = ((o ++ [x]).map fun b : UInt8 => (b.toNat : Int)) := fun x o => by rw [List.map_append]; rfl
    have app34 : ∀ o : List UInt8, (o.map fun b : UInt8 => (b.toNat : Int)) ++ [34] = ((o ++ [34]).map fun b : UInt8 => (b.toNat : Int)) := fun o => by rw [List.map_append]; rfl
    rw [windlassref3_Quote.l0, if_pos (by omega), if_pos (by omega), if_pos (by rw [List.length_map]; omega), h2, app]
    simp only [Option.bind_some]
    by_cases hc : c = 34
    · have hc' : (c.toNat : Int) = 34 := by rw [hc]; rfl
      rw [if_pos hc', if_pos (by simp only [List.length_map, List.length_append, List.length_cons, List.length_nil]; omega), app34, wrap_1 a (by omega), quote_run s hs r (a + 1) _ k h3 h1 (by simp; omega) (by omega)]
      rw [dq, if_pos hc, hc]
      simp
    · have hc' : ¬ (c.toNat : Int) = 34 := fun e => hc (u8_of c 34 (by omega))
      rw [if_neg hc', wrap_1 a (by omega), quote_run s hs r (a + 1) _ k h3 h1 (by simp; omega) (by omega)]
      rw [dq, if_neg hc]
      simp
theorem quote_same (s : ByteArray) (hs : s.size ≤ 5000) (k : Nat) (hk : s.size < k) : windlassref5_Quote.f k s = some (qte s) := by
  unfold windlassref5_Quote.f windlassref3_Quote.f
  have := quote_run s hs (by' s) 0 [34] k rfl (Nat.zero_le _) (by simp) (by rw [by_size]; exact hk)
  have e : qte s = ⟨([34] ++ (dq (by' s) ++ [34])).toArray⟩ := ba_eq _ _ (by_qte s)
  rw [e]
  have e2 : windlassref3_Quote.l0 k s [34] 0 = some ⟨([34] ++ (dq (by' s) ++ [34])).toArray⟩ := this
  rw [e2]
  rfl
/-- may a name of this sort begin so -/
def hd1 (g : Bool) (c : Int) : Bool := if g = true then decide (65 ≤ c) && decide (c ≤ 90) else (decide (97 ≤ c) && decide (c ≤ 122)) || c == 95
theorem named_0 (s : ByteArray) (g : Bool) (c : UInt8) (r : List UInt8) (k : Nat) (h : by' s = c :: r) :
    windlassref3_Named.l0 (k + 1) s g 0 = if hd1 g (c.toNat : Int) = true then windlassref3_Named.l0 k s g 1 else some false := by
  obtain ⟨h1, h2, h3⟩ := bt_cons s 0 c r h
  rw [show ((0 : Nat) : Int) = 0 from rfl] at h2
  rw [windlassref3_Named.l0, if_pos (by omega), if_pos (by decide), h2, show wrap64 (0 + 1) = 1 by unfold wrap64; omega]
  generalize windlassref3_Named.l0 k s g 1 = X
  have : ∀ n : Fin 256, (c.toNat : Int) = (n.val : Int) → (c.toNat : Int) = (n.val : Int) := fun _ h => h
  obtain ⟨n, hn⟩ : ∃ n : Fin 256, (c.toNat : Int) = (n.val : Int) := ⟨⟨c.toNat, c.toNat_lt⟩, rfl⟩
  rw [hn]
  clear hn this h1 h2 h3 h
  rcases X with _ | _ | _ <;> cases g <;> revert n <;> decide +kernel
theorem named_s (s : ByteArray) (g : Bool) (c : UInt8) (r : List UInt8) (i k : Nat) (h : (by' s).drop (i + 1) = c :: r) (hi : i ≤ 5000) :
    windlassref3_Named.l0 (k + 1) s g ((i + 1 : Nat) : Int) = if pLD (c.toNat : Int) = true then windlassref3_Named.l0 k s g ((i + 1 + 1 : Nat) : Int) else some false := by
  obtain ⟨h1, h2, h3⟩ := bt_cons s (i + 1) c r h
  have hz : ¬ ((i + 1 : Nat) : Int) = 0 := by omega
  rw [windlassref3_Named.l0, if_pos (by omega), if_pos (by omega), h2, wrap_1 (i + 1) (by omega)]
  simp only [if_neg hz]
  generalize windlassref3_Named.l0 k s g ((i + 1 + 1 : Nat) : Int) = X
  obtain ⟨n, hn⟩ : ∃ n : Fin 256, (c.toNat : Int) = (n.val : Int) := ⟨⟨c.toNat, c.toNat_lt⟩, rfl⟩
  rw [hn]
  clear hn h1 h2 h3 h hz
  rcases X with _ | _ | _ <;> revert n <;> decide +kernel
theorem named_run (s : ByteArray) (hs : s.size ≤ 5000) (g : Bool) : ∀ (l : List UInt8) (i k : Nat), (by' s).drop (i + 1) = l → l.length < k → windlassref3_Named.l0 k s g ((i + 1 : Nat) : Int) = some (runL pLD l == l.length)
  | [], i, k, h, hk => by
    obtain ⟨k, rfl⟩ : ∃ k', k = k' + 1 := ⟨k - 1, by omega⟩
    have := bt_nil s (i + 1) h
    rw [windlassref3_Named.l0, if_neg (by omega)]
    rfl
  | c :: r, i, k, h, hk => by
    obtain ⟨k, rfl⟩ : ∃ k', k = k' + 1 := ⟨k - 1, by omega⟩
    obtain ⟨h1, h2, h3⟩ := bt_cons s (i + 1) c r h
    simp only [List.length_cons] at hk
    rw [named_s s g c r i k h (by omega)]
    by_cases hp : pLD (c.toNat : Int) = true
    · rw [if_pos hp, named_run s hs g r (i + 1) k h3 (by omega)]
      rw [run_cons pLD c r hp, List.length_cons]
      simp
    · rw [if_neg hp]
      rw [run_no pLD c r hp]
      simp
theorem named_f (s : ByteArray) (hs : s.size ≤ 5000) (g : Bool) (k : Nat) (hk : s.size + 5 < k) : windlassref3_Named.f k s g = some (match by' s with
    | [] => false
    | c :: r => decide (r.length + 1 ≤ 20) && hd1 g c.toNat && (runL pLD r == r.length)) := by
  obtain ⟨k, rfl⟩ : ∃ k', k = k' + 2 := ⟨k - 2, by omega⟩
  unfold windlassref3_Named.f
  rcases hl : by' s with _ | ⟨c, r⟩
  · have : s.size = 0 := by rw [← by_size, hl]; rfl
    rw [if_pos (by omega), windlassref3_Named.j0, if_pos rfl]
  · have hz : s.size = r.length + 1 := by rw [← by_size, hl]; rfl
    rw [if_neg (by omega), windlassref3_Named.j0]
    by_cases h20 : (s.size : Int) > 20
    · rw [if_pos (decide_eq_true h20)]
      simp only
      rw [decide_eq_false (by omega : ¬ r.length + 1 ≤ 20)]; rfl
    · rw [if_neg (by rw [decide_eq_false h20]; decide), named_0 s g c r k hl]
      simp only
      rw [decide_eq_true (by omega : r.length + 1 ≤ 20)]
      by_cases hh : hd1 g (c.toNat : Int) = true
      · have := named_run s hs g r 0 k (by rw [hl]; rfl) (by omega)
        rw [if_pos hh, hh]
        exact this.trans (by simp)
      · rw [if_neg hh, Bool.eq_false_iff.2 hh]; rfl
theorem hd_pL (c : UInt8) : (hd1 false (c.toNat : Int) || hd1 true (c.toNat : Int)) = pL (c.toNat : Int) := by
  have : ∀ v : Fin 256, (hd1 false ((UInt8.ofNat v).toNat : Int) || hd1 true ((UInt8.ofNat v).toNat : Int)) = pL ((UInt8.ofNat v).toNat : Int) := by decide +kernel
  simpa using this ⟨c.toNat, c.toNat_lt⟩
theorem name_same (s : ByteArray) (hs : s.size ≤ 5000) (k : Nat) (hk : s.size + 40 < k) : windlassref5_Name.f k s = some (nm (by' s)) := by
  unfold windlassref5_Name.f
  have hw := isw k (by omega) (by' s)
  rw [show (⟨(by' s).toArray⟩ : ByteArray) = s from (ba_eq s _ rfl).symm] at hw
  rw [named_f s hs false k (by omega), named_f s hs true k (by omega), hw]
  simp only [Option.bind_some]
  rcases hl : by' s with _ | ⟨c, r⟩
  · rfl
  · have hp := hd_pL c
    have hr : pL (c.toNat : Int) = true → (runL pLD (c :: r) == r.length + 1) = (runL pLD r == r.length) := fun h => by
      rw [run_cons pLD c r (pLD_of_L h)]
      simp
    have hn : nm (c :: r) = (decide (r.length + 1 ≤ 20) && pL c.toNat && (runL pLD (c :: r) == r.length + 1) && !isWord (c :: r)) := rfl
    obtain ⟨A, hA⟩ : ∃ A, A = decide (r.length + 1 ≤ 20) := ⟨_, rfl⟩
    obtain ⟨B, hB⟩ : ∃ B, B = hd1 false (c.toNat : Int) := ⟨_, rfl⟩
    obtain ⟨C, hC⟩ : ∃ C, C = hd1 true (c.toNat : Int) := ⟨_, rfl⟩
    obtain ⟨D, hD⟩ : ∃ D, D = (runL pLD r == r.length) := ⟨_, rfl⟩
    obtain ⟨E, hE⟩ : ∃ E, E = isWord (c :: r) := ⟨_, rfl⟩
    show (if (decide (r.length + 1 ≤ 20) && hd1 false (c.toNat : Int) && (runL pLD r == r.length)) = true then some (!isWord (c :: r)) else if (decide (r.length + 1 ≤ 20) && hd1 true (c.toNat : Int) && (runL pLD r == r.length)) = true then some (!isWord (c :: r)) else some false) = some (nm (c :: r))
    rw [hn, ← hp, ← hA, ← hB, ← hC, ← hD, ← hE]
    rw [← hp, ← hB, ← hC, ← hD] at hr
    clear hn hA hB hC hD hE hp
    cases B <;> cases C
    · simp
    all_goals
      rw [hr rfl]
      cases A <;> cases D <;> simp
theorem LexTokens : windlasslaw5_LexTokens.Pure := by
  intro s hsz
  by_cases h5 : (s.size : Int) > 5000
  · refine ⟨0, ?_⟩
    unfold windlasslaw5_LexTokens.f windlasslaw5_known.f
    simp only [Option.bind_some]
    rw [if_pos trivial, if_pos h5]
  · have hs : s.size ≤ 5000 := by omega
    obtain ⟨T, r2, r3, hT, hl⟩ : ∃ T r2 r3, lex_Tokens.f s = some (T, r2, r3) ∧ T.length ≤ 10000 := by
      unfold lex_Tokens.f
      by_cases h : s.size ≤ 4096
      · rw [if_pos h]
        obtain ⟨T, tw, e, hg, hl⟩ := lex_some (s.size + 1) (by' s) 0 [] (by rw [by_size]; omega)
        rw [hg]
        rw [by_size, List.length_nil] at hl
        exact ⟨T, _, _, rfl, by omega⟩
      · rw [if_neg h]
        exact ⟨_, _, _, rfl, by simp⟩
    obtain ⟨K, hK⟩ : ∃ K : Nat, 49999 < K := ⟨_, Nat.lt_succ_self 49999⟩
    refine ⟨K, ?_⟩
    unfold windlasslaw5_LexTokens.f windlasslaw5_known.f
    have hq : lex_Quote.f s = some (qte s) := by unfold lex_Quote.f; rw [if_pos (by omega)]
    have hn : lex_Name.f s = some (nm (by' s)) := rfl
    simp only [Option.bind_some]
    rw [if_pos trivial, if_neg h5, ref_tokens s K (by omega) hs, hT]
    simp only [Option.bind_some]
    rw [tokens_same T K hl (by omega)]
    simp only [Option.bind_some]
    simp only [if_true]
    rw [words_f, rwords]
    simp only [Option.bind_some]
    rw [texts_same words K (by rw [words_len]; decide) (by rw [words_len]; omega)]
    simp only [Option.bind_some, if_true]
    rw [hn, name_same s hs K (by omega), hq, quote_same s hs K (by omega)]
    simp
end Go.Proofs.YthnehdimjadliaaDoor.Pure
