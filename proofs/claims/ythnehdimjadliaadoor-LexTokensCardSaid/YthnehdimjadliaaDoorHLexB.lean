import Derived.Test.YthnehdimjadliaaDoorHLexP
/- Plain laws of lexGo: fuel counts for nothing; what tokens it tells; a token that is written with a blank behind is told again. -/
namespace Go.Proofs.YthnehdimjadliaaDoor.PAll
open Go Go.Proofs Go.RowKit
set_option linter.unusedVariables false
theorem ix_pos (r : List UInt8) (c : UInt8) (h : c ≠ 10) (h1 : Lib.indexByte (c :: r) 10 ≠ -1) : 1 ≤ (Lib.indexByte (c :: r) 10).toNat := by
  unfold Lib.indexByte at h1 ⊢
  have hc : (c == 10) = false := by simpa using h
  rw [hc] at h1 ⊢
  simp only [Bool.false_eq_true, if_false] at h1 ⊢
  have := Lib.indexByte_ge r 10
  split at h1
  · omega
  · rename_i h2
    have h4 : Lib.indexByte r 10 ≠ -1 := by simpa using h2
    rw [if_neg h2]
    omega
theorem run_cons (pr : Int → Bool) (c : UInt8) (r : List UInt8) (h : pr c.toNat = true) : runL pr (c :: r) = runL pr r + 1 := by rw [runL, if_pos h]
theorem run_no (pr : Int → Bool) (c : UInt8) (r : List UInt8) (h : ¬ pr c.toNat = true) : runL pr (c :: r) = 0 := by rw [runL, if_neg h]
theorem run_pos (pr : Int → Bool) (c : UInt8) (r : List UInt8) (h : pr c.toNat = true) : 1 ≤ runL pr (c :: r) := by
  unfold runL; rw [if_pos h]; omega
theorem pLD_of_L {c : UInt8} (h : pL c.toNat = true) : pLD c.toNat = true := by unfold pLD; rw [h]; rfl
theorem lex_fuel : ∀ (f g : Nat) (l : List UInt8) (a : Nat) (acc : List S28), l.length < f → l.length < g → lexGo f l a acc = lexGo g l a acc
  | 0, _, _, _, _, h, _ => absurd h (Nat.not_lt_zero _)
  | _, 0, _, _, _, _, h => absurd h (Nat.not_lt_zero _)
  | f + 1, g + 1, [], a, acc, _, _ => rfl
  | f + 1, g + 1, c :: r, a, acc, h1, h2 => by
    simp only [List.length_cons] at h1 h2
    have step : ∀ (n b : Nat) (ac : List S28), 1 ≤ n → lexGo f ((c :: r).drop n) b ac = lexGo g ((c :: r).drop n) b ac := fun n b ac hn =>
      lex_fuel f g _ b ac (by simp only [List.length_drop, List.length_cons]; omega) (by simp only [List.length_drop, List.length_cons]; omega)
    rw [lexGo, lexGo]
    by_cases hb : isB c = true
    · rw [if_pos hb, if_pos hb]; exact step 1 _ _ (Nat.le_refl _)
    rw [if_neg hb, if_neg hb]
    by_cases h3 : c = 35
    · rw [if_pos h3, if_pos h3]
      by_cases h4 : Lib.indexByte (c :: r) 10 = -1
      · rw [if_pos h4, if_pos h4]
      · rw [if_neg h4, if_neg h4]
        exact step _ _ _ (ix_pos r c (by rw [h3]; decide) h4)
    rw [if_neg h3, if_neg h3]
    by_cases h5 : pL c.toNat = true
    · rw [if_pos h5, if_pos h5]
      exact step _ _ _ (run_pos _ _ _ (pLD_of_L h5))
    rw [if_neg h5, if_neg h5]
    by_cases h6 : pD c.toNat = true
    · rw [if_pos h6, if_pos h6]
      exact step _ _ _ (run_pos _ _ _ h6)
    rw [if_neg h6, if_neg h6]
    by_cases h7 : c = 34
    · rw [if_pos h7, if_pos h7]
      rcases qt r with _ | p
      · rfl
      · exact lex_fuel f g _ _ _ (by simp only [List.length_drop]; omega) (by simp only [List.length_drop]; omega)
    rw [if_neg h7, if_neg h7]
    rcases hs : signs.find? (fun x => Lib.hasPrefix (c :: r) (by' x)) with _ | x
    · rfl
    · exact step _ _ _ (sign_pos x (List.mem_of_find?_eq_some hs))
theorem lex_some : ∀ (f : Nat) (l : List UInt8) (a : Nat) (acc : List S28), l.length < f → ∃ T tw e, lexGo f l a acc = some (T, tw, e) ∧ T.length ≤ acc.length + l.length + 1
  | 0, _, _, _, h => absurd h (Nat.not_lt_zero _)
  | f + 1, [], a, acc, _ => ⟨_, _, _, rfl, by simp⟩
  | f + 1, c :: r, a, acc, h1 => by
    simp only [List.length_cons] at h1 ⊢
    have step : ∀ (n b : Nat) (ac : List S28), 1 ≤ n → ac.length ≤ acc.length + 1 → ∃ T tw e, lexGo f ((c :: r).drop n) b ac = some (T, tw, e) ∧ T.length ≤ acc.length + (r.length + 1) + 1 := fun n b ac hn ha => by
      obtain ⟨T, tw, e, h, hT⟩ := lex_some f ((c :: r).drop n) b ac (by simp only [List.length_drop, List.length_cons]; omega)
      exact ⟨T, tw, e, h, by simp only [List.length_drop, List.length_cons] at hT; omega⟩
    rw [lexGo]
    by_cases hb : isB c = true
    · rw [if_pos hb]; exact step 1 _ _ (Nat.le_refl _) (by omega)
    rw [if_neg hb]
    by_cases h3 : c = 35
    · rw [if_pos h3]
      by_cases h4 : Lib.indexByte (c :: r) 10 = -1
      · rw [if_pos h4]; exact ⟨_, _, _, rfl, by simp⟩
      · rw [if_neg h4]
        exact step _ _ _ (ix_pos r c (by rw [h3]; decide) h4) (by omega)
    rw [if_neg h3]
    by_cases h5 : pL c.toNat = true
    · rw [if_pos h5]
      exact step _ _ _ (run_pos _ _ _ (pLD_of_L h5)) (by simp)
    rw [if_neg h5]
    by_cases h6 : pD c.toNat = true
    · rw [if_pos h6]
      exact step _ _ _ (run_pos _ _ _ h6) (by simp)
    rw [if_neg h6]
    by_cases h7 : c = 34
    · rw [if_pos h7]
      rcases qt r with _ | p
      · exact ⟨_, _, _, rfl, by simp⟩
      · exact step (p.2 + 1) _ _ (by omega) (by simp)
    rw [if_neg h7]
    rcases hs : signs.find? (fun x => Lib.hasPrefix (c :: r) (by' x)) with _ | x
    · exact ⟨_, _, _, rfl, by simp⟩
    · exact step _ _ _ (sign_pos x (List.mem_of_find?_eq_some hs)) (by simp)
/-- lexGo with as much fuel as there must be -/
def lx (l : List UInt8) (a : Nat) (acc : List S28) := lexGo (l.length + 1) l a acc
theorem lex_lx (f : Nat) (l : List UInt8) (a : Nat) (acc : List S28) (h : l.length < f) : lexGo f l a acc = lx l a acc := lex_fuel f _ l a acc h (Nat.lt_succ_self _)
theorem lx_blank (c : UInt8) (r : List UInt8) (a : Nat) (acc : List S28) (h : isB c = true) : lx (c :: r) a acc = lx r (a + 1) acc := by
  unfold lx
  rw [List.length_cons, lex_blank _ _ _ _ _ h]
theorem lx_blanks (r : List UInt8) : ∀ (g : List UInt8) (a : Nat) (acc : List S28), (∀ c ∈ g, isB c = true) → lx (g ++ r) a acc = lx r (a + g.length) acc
  | [], a, acc, _ => rfl
  | c :: g, a, acc, h => by
    rw [List.cons_append, lx_blank _ _ _ _ (h c List.mem_cons_self), lx_blanks r g (a + 1) acc (fun x hx => h x (List.mem_cons_of_mem _ hx)), List.length_cons]
    congr 1; omega
theorem lx_end (a : Nat) (acc : List S28) : lx [] a acc = some (acc ++ [tk 0 [] a], 0, 0) := rfl
/-- a token that a source may have -/
def Good (t : S28) : Prop :=
  (∃ c r, by' t.f1 = c :: r ∧ pL c.toNat = true ∧ runL pLD (c :: r) = r.length + 1 ∧ t.f0 = if isWord (c :: r) = true then 2 else 1) ∨
  (t.f0 = 3 ∧ ∃ c r, by' t.f1 = c :: r ∧ pD c.toNat = true ∧ runL pD (c :: r) = r.length + 1 ∧ digits (c :: r) = c :: r) ∨
  t.f0 = 4 ∨ (t.f0 = 5 ∧ t.f1 ∈ signs)
theorem run_take (pr : Int → Bool) : ∀ l : List UInt8, runL pr (l.take (runL pr l)) = runL pr l
  | [] => rfl
  | c :: l => by
    by_cases h : pr c.toNat = true
    · have e : runL pr (c :: l) = runL pr l + 1 := by rw [runL, if_pos h]
      rw [e, List.take_succ_cons, runL, if_pos h, run_take pr l]
    · have e : runL pr (c :: l) = 0 := by rw [runL, if_neg h]
      rw [e]; rfl
theorem run_all (pr : Int → Bool) : ∀ l : List UInt8, (∀ c ∈ l, pr c.toNat = true) → runL pr l = l.length
  | [], _ => rfl
  | c :: l, h => by
    unfold runL
    rw [if_pos (h c List.mem_cons_self), run_all pr l (fun x hx => h x (List.mem_cons_of_mem _ hx))]; rfl
theorem all_run (pr : Int → Bool) : ∀ l : List UInt8, runL pr l = l.length → ∀ c ∈ l, pr c.toNat = true
  | [], _, c, hc => by cases hc
  | d :: l, h, c, hc => by
    unfold runL at h
    by_cases hd : pr d.toNat = true
    · rw [if_pos hd, List.length_cons] at h
      rcases List.mem_cons.1 hc with rfl | hc
      · exact hd
      · exact all_run pr l (by omega) c hc
    · rw [if_neg hd, List.length_cons] at h; omega
theorem run_app (pr : Int → Bool) (b : UInt8) (r : List UInt8) (hb : pr b.toNat = false) : ∀ l : List UInt8, runL pr l = l.length → runL pr (l ++ b :: r) = l.length
  | [], _ => by unfold runL; simp only [List.nil_append]; rw [if_neg (by rw [hb]; decide)]; rfl
  | c :: l, h => by
    unfold runL at h
    by_cases hc : pr c.toNat = true
    · rw [if_pos hc, List.length_cons] at h
      rw [List.cons_append]
      unfold runL
      rw [if_pos hc, run_app pr b r hb l (by omega)]; rfl
    · rw [if_neg hc, List.length_cons] at h; omega
theorem trim_mem (l : List UInt8) (d c : UInt8) (h : c ∈ Lib.trimLeftB l d) : c ∈ l := (List.dropWhile_suffix _).subset h
theorem trim_idem (d : UInt8) : ∀ l : List UInt8, Lib.trimLeftB (Lib.trimLeftB l d) d = Lib.trimLeftB l d
  | [] => rfl
  | c :: l => by
    by_cases h : (c == d) = true
    · have e : Lib.trimLeftB (c :: l) d = Lib.trimLeftB l d := List.dropWhile_cons_of_pos (p := (· == d)) h
      rw [e]; exact trim_idem d l
    · have e : Lib.trimLeftB (c :: l) d = c :: l := List.dropWhile_cons_of_neg (p := (· == d)) h
      rw [e, e]
theorem digits_good (c : UInt8) (r : List UInt8) (h : pD c.toNat = true) : ∃ c' r', digits (c :: r) = c' :: r' ∧ pD c'.toNat = true ∧ runL pD (c' :: r') = r'.length + 1 ∧ digits (c' :: r') = c' :: r' := by
  obtain ⟨n, hn⟩ : ∃ n, runL pD (c :: r) = n + 1 := ⟨runL pD r, run_cons pD c r h⟩
  have hle := runL_le pD (c :: r)
  have hall := all_run pD _ ((run_take pD (c :: r)).trans (by rw [List.length_take, Nat.min_eq_left hle]))
  rw [hn] at hall hle
  have hx : ∃ x, ((c :: r).drop n).take 1 = [x] ∧ pD x.toNat = true := by
    have hlt : n < (c :: r).length := by omega
    refine ⟨(c :: r)[n], ?_, hall _ ?_⟩
    · rw [List.drop_eq_getElem_cons hlt]; rfl
    · rw [List.take_succ_eq_append_getElem hlt]
      exact List.mem_append_right _ List.mem_cons_self
  obtain ⟨x, hx, hpx⟩ := hx
  have hP : ∀ y ∈ (c :: r).take n, pD y.toNat = true := fun y hy => hall y (by
    rw [List.take_succ_eq_append_getElem (by omega)]
    exact List.mem_append_left _ hy)
  have e : digits (c :: r) = Lib.trimLeftB ((c :: r).take n) 48 ++ [x] := by
    unfold digits
    rw [hn, Nat.add_sub_cancel, hx]
  obtain ⟨X, hX⟩ : ∃ X, X = Lib.trimLeftB ((c :: r).take n) 48 := ⟨_, rfl⟩
  rw [← hX] at e
  have hXi : Lib.trimLeftB X 48 = X := by rw [hX]; exact trim_idem _ _
  have hXm : ∀ y ∈ X ++ [x], pD y.toNat = true := by
    intro y hy
    rcases List.mem_append.1 hy with hy | hy
    · exact hP y (trim_mem _ 48 y (by rw [← hX]; exact hy))
    · simp only [List.mem_cons, List.not_mem_nil, or_false] at hy
      rw [hy]; exact hpx
  have hr := run_all pD _ hXm
  have hd : digits (X ++ [x]) = X ++ [x] := by
    unfold digits
    rw [hr, List.length_append, List.length_cons, List.length_nil, Nat.zero_add, Nat.add_sub_cancel, List.take_left, List.drop_left, hXi]
    rfl
  rcases X with _ | ⟨y, X⟩
  · exact ⟨x, [], e, hpx, hr, hd⟩
  · exact ⟨y, X ++ [x], e, hXm y List.mem_cons_self, hr, hd⟩
theorem lex_goods : ∀ (f : Nat) (l : List UInt8) (a : Nat) (acc T : List S28) (tw : Nat) (e : Int), lexGo f l a acc = some (T, tw, e) → (e ≠ 0 ∧ T = []) ∨ (e = 0 ∧ tw = 0 ∧ ∃ ts b, T = acc ++ (ts ++ [tk 0 [] b]) ∧ ∀ t ∈ ts, Good t)
  | 0, _, _, _, _, _, _, h => by cases h
  | f + 1, [], a, acc, T, tw, e, h => by
    rw [lex_end] at h
    cases h
    exact .inr ⟨rfl, rfl, [], a, rfl, fun t ht => by cases ht⟩
  | f + 1, c :: r, a, acc, T, tw, e, h => by
    have step : ∀ (l : List UInt8) (b : Nat) (t : S28), Good t → lexGo f l b (acc ++ [t]) = some (T, tw, e) → (e ≠ 0 ∧ T = []) ∨ (e = 0 ∧ tw = 0 ∧ ∃ ts b, T = acc ++ (ts ++ [tk 0 [] b]) ∧ ∀ t ∈ ts, Good t) := by
      intro l b t ht hl
      rcases lex_goods f l b _ T tw e hl with h | ⟨h0, h1, ts, b', h2, h3⟩
      · exact .inl h
      · refine .inr ⟨h0, h1, t :: ts, b', by rw [h2, List.append_assoc]; rfl, fun x hx => ?_⟩
        rcases List.mem_cons.1 hx with rfl | hx
        · exact ht
        · exact h3 x hx
    rw [lexGo] at h
    by_cases hb : isB c = true
    · rw [if_pos hb] at h; exact lex_goods f _ _ _ T tw e h
    rw [if_neg hb] at h
    by_cases h3 : c = 35
    · rw [if_pos h3] at h
      by_cases h4 : Lib.indexByte (c :: r) 10 = -1
      · rw [if_pos h4] at h
        cases h
        exact .inr ⟨rfl, rfl, [], _, rfl, fun t ht => by cases ht⟩
      · rw [if_neg h4] at h; exact lex_goods f _ _ _ T tw e h
    rw [if_neg h3] at h
    by_cases h5 : pL c.toNat = true
    · rw [if_pos h5] at h
      refine step _ _ _ (.inl ?_) h
      obtain ⟨n, hn⟩ : ∃ n, runL pLD (c :: r) = n + 1 := ⟨runL pLD r, run_cons pLD c r (pLD_of_L h5)⟩
      have hle := runL_le pLD (c :: r)
      have ht := run_take pLD (c :: r)
      rw [hn] at ht hle ⊢
      rw [List.length_cons] at hle
      refine ⟨c, r.take n, rfl, h5, ?_, rfl⟩
      rw [List.take_succ_cons] at ht
      rw [ht, List.length_take, Nat.min_eq_left (by omega)]
    rw [if_neg h5] at h
    by_cases h6 : pD c.toNat = true
    · rw [if_pos h6] at h
      obtain ⟨c', r', h7, h8⟩ := digits_good c r h6
      exact step _ _ _ (.inr (.inl ⟨rfl, c', r', h7, h8⟩)) h
    rw [if_neg h6] at h
    by_cases h7 : c = 34
    · rw [if_pos h7] at h
      rcases hq : qt r with _ | p
      · rw [hq] at h
        cases h
        exact .inl ⟨by decide, rfl⟩
      · rw [hq] at h
        exact step _ _ _ (.inr (.inr (.inl rfl))) h
    rw [if_neg h7] at h
    rcases hs : signs.find? (fun x => Lib.hasPrefix (c :: r) (by' x)) with _ | x
    · rw [hs] at h
      cases h
      exact .inl ⟨by decide, rfl⟩
    · rw [hs] at h
      exact step _ _ _ (.inr (.inr (.inr ⟨rfl, List.mem_of_find?_eq_some hs⟩))) h
/-- a token as it is written -/
def wr (t : S28) : List UInt8 := if t.f0 = 4 then 34 :: (dq (by' t.f1) ++ [34]) else by' t.f1
theorem wr_pos (t : S28) (h : Good t) : ∃ c r, wr t = c :: r := by
  unfold wr
  rcases h with ⟨c, r, h, _, _, h1⟩ | ⟨h1, c, r, h, _⟩ | h1 | ⟨h1, h⟩
  · rw [if_neg (by rw [h1]; split <;> decide), h]; exact ⟨_, _, rfl⟩
  · rw [if_neg (by rw [h1]; decide), h]; exact ⟨_, _, rfl⟩
  · rw [if_pos h1]; exact ⟨_, _, rfl⟩
  · rw [if_neg (by rw [h1]; decide)]
    have := sign_pos _ h
    rw [← by_size] at this
    rcases e : by' t.f1 with _ | ⟨c, r⟩
    · rw [e] at this; exact absurd this (by decide)
    · exact ⟨_, _, rfl⟩
theorem isB_cases (b : UInt8) (h : isB b = true) : b = 32 ∨ b = 9 ∨ b = 10 ∨ b = 13 := by
  unfold isB at h
  simp only [Bool.or_eq_true, beq_iff_eq] at h
  rcases h with ((h | h) | h) | h <;> simp [h]
/-- does a text that begins with c, and goes on with d, begin with x -/
def hp (c : UInt8) (d : Option UInt8) : List UInt8 → Bool
  | [x] => c == x
  | [x, y] => c == x && d == some y
  | _ => false
theorem hp_has (c : UInt8) (r : List UInt8) : ∀ x : List UInt8, 1 ≤ x.length → x.length ≤ 2 → Lib.hasPrefix (c :: r) x = hp c r.head? x
  | [x], _, _ => by simp [Lib.hasPrefix, hp, List.isPrefixOf, Bool.beq_comm]
  | [x, y], _, _ => by
    cases r with
    | nil => simp [Lib.hasPrefix, hp, List.isPrefixOf]
    | cons d r => simp [Lib.hasPrefix, hp, List.isPrefixOf, Bool.beq_comm]
  | [], h, _ => by simp at h
  | _ :: _ :: _ :: _, _, h => by simp at h
theorem signs_len : ∀ x ∈ signs, 1 ≤ (by' x).length ∧ (by' x).length ≤ 2 := by decide +kernel
theorem find_hp (c : UInt8) (r : List UInt8) : signs.find? (fun x => Lib.hasPrefix (c :: r) (by' x)) = signs.find? (fun x => hp c r.head? (by' x)) := by
  rw [← List.head?_filter, ← List.head?_filter]
  congr 1
  apply List.filter_congr
  intro x hx
  exact hp_has c r _ (signs_len x hx).1 (signs_len x hx).2
theorem signs_bl : ∀ x ∈ signs, ∀ b ∈ ([32, 9, 10, 13] : List UInt8), isB ((by' x).headD 0) = false ∧ (by' x).headD 0 ≠ 35 ∧ pL ((by' x).headD 0).toNat = false ∧ pD ((by' x).headD 0).toNat = false ∧ (by' x).headD 0 ≠ 34 ∧
    signs.find? (fun y => hp ((by' x).headD 0) ((by' x).tail ++ [b]).head? (by' y)) = some x := by decide +kernel
theorem plain_L : ∀ v : Fin 256, pL (UInt8.ofNat v).toNat = true → isB (UInt8.ofNat v) = false ∧ UInt8.ofNat v ≠ 35 := by decide +kernel
theorem plain_D : ∀ v : Fin 256, pD (UInt8.ofNat v).toNat = true → isB (UInt8.ofNat v) = false ∧ UInt8.ofNat v ≠ 35 ∧ pL (UInt8.ofNat v).toNat = false := by decide +kernel
theorem plain_B : ∀ b ∈ ([32, 9, 10, 13] : List UInt8), pLD b.toNat = false ∧ pD b.toNat = false ∧ b ≠ 34 := by decide +kernel
theorem lex_one (t : S28) (h : Good t) (b : UInt8) (hb : isB b = true) (f : Nat) (r : List UInt8) (a : Nat) (acc : List S28) :
    lexGo (f + 1) (wr t ++ b :: r) a acc = lexGo f (b :: r) (a + (wr t).length) (acc ++ [⟨t.f0, t.f1, (a : Int)⟩]) := by
  have hb4 : b ∈ ([32, 9, 10, 13] : List UInt8) := by rcases isB_cases b hb with rfl | rfl | rfl | rfl <;> decide
  obtain ⟨q1, q2, q3⟩ := plain_B b hb4
  rcases h with ⟨c, w, h, h5, h6, h1⟩ | ⟨h1, c, w, h, h5, h6, h7⟩ | h1 | ⟨h1, h⟩
  · have e : wr t = c :: w := by unfold wr; rw [if_neg (by rw [h1]; split <;> decide), h]
    have hp := plain_L ⟨c.toNat, c.toNat_lt⟩
    simp only [UInt8.ofNat_toNat] at hp
    obtain ⟨h2, h3⟩ := hp h5
    have hr := run_app pLD b r q1 (c :: w) h6
    rw [e, List.cons_append, lexGo, if_neg (by rw [h2]; decide), if_neg h3, if_pos h5]
    rw [← List.cons_append, hr, List.drop_left, List.take_left]
    have ht : (⟨t.f0, t.f1, (a : Int)⟩ : S28) = tk (if isWord (c :: w) = true then 2 else 1) (c :: w) a := by
      unfold tk; rw [h1, ← h]
    rw [ht]
  · have e : wr t = c :: w := by unfold wr; rw [if_neg (by rw [h1]; decide), h]
    have hp := plain_D ⟨c.toNat, c.toNat_lt⟩
    simp only [UInt8.ofNat_toNat] at hp
    obtain ⟨h2, h3, h4⟩ := hp h5
    have hr := run_app pD b r q2 (c :: w) h6
    rw [e, List.cons_append, lexGo, if_neg (by rw [h2]; decide), if_neg h3, if_neg (by rw [h4]; decide), if_pos h5]
    rw [← List.cons_append, hr, List.drop_left]
    have hd : digits (c :: w ++ b :: r) = c :: w := by
      have h8 := h7
      unfold digits at h8 ⊢
      rw [hr]
      rw [h6] at h8
      rw [Nat.add_sub_cancel] at h8
      rw [List.length_cons, Nat.add_sub_cancel, List.take_append_of_le_length (by simp), List.drop_append_of_le_length (by simp), List.take_append_of_le_length (by simp)]
      exact h8
    rw [hd]
    have ht : (⟨t.f0, t.f1, (a : Int)⟩ : S28) = tk 3 (c :: w) a := by unfold tk; rw [h1, ← h]
    rw [ht]
  · have e : wr t = 34 :: (dq (by' t.f1) ++ [34]) := by unfold wr; rw [if_pos h1]
    rw [e, List.cons_append, lex_quote, List.append_assoc, List.singleton_append, qt_dq (b :: r) (fun d r' e => by cases e; exact q3)]
    have hd : (dq (by' t.f1) ++ (34 :: (b :: r))).drop ((dq (by' t.f1)).length + 1) = b :: r := by
      rw [List.drop_append]
      simp
    have ht : (⟨t.f0, t.f1, (a : Int)⟩ : S28) = tk 4 (by' t.f1) a := by unfold tk; rw [h1]
    rw [ht]
    simp only [hd]
    congr 1
    simp only [List.length_cons, List.length_append, List.length_nil]
  · have e : wr t = by' t.f1 := by unfold wr; rw [if_neg (by rw [h1]; decide)]
    obtain ⟨p1, p2, p3, p4, p5, p6⟩ := signs_bl _ h b hb4
    have hl := signs_len _ h
    rcases hx : by' t.f1 with _ | ⟨c, w⟩
    · rw [hx] at hl; exact absurd hl.1 (by decide)
    rw [hx] at p1 p2 p3 p4 p5 p6
    simp only [List.headD_cons, List.tail_cons] at p1 p2 p3 p4 p5 p6
    have hf : signs.find? (fun x => Lib.hasPrefix (c :: (w ++ b :: r)) (by' x)) = some t.f1 := by
      rw [find_hp, show (w ++ b :: r).head? = (w ++ [b]).head? by cases w <;> rfl]
      exact p6
    rw [e, hx, List.cons_append, lexGo, if_neg (by rw [p1]; decide), if_neg p2, if_neg (by rw [p3]; decide), if_neg (by rw [p4]; decide), if_neg p5, hf]
    have hz : t.f1.size = (c :: w).length := by rw [← by_size, hx]
    simp only
    rw [hz, ← List.cons_append, List.drop_left, h1]
theorem lx_one (t : S28) (h : Good t) (b : UInt8) (hb : isB b = true) (r : List UInt8) (a : Nat) (acc : List S28) :
    lx (wr t ++ b :: r) a acc = lx (b :: r) (a + (wr t).length) (acc ++ [⟨t.f0, t.f1, (a : Int)⟩]) := by
  unfold lx
  rw [lex_one t h b hb]
  refine lex_fuel _ _ _ _ _ ?_ (Nat.lt_succ_self _)
  obtain ⟨c, w, e⟩ := wr_pos t h
  rw [e, List.length_append]
  simp only [List.length_cons]
  omega
/-- what a source of so many tokens, each with a gap behind, has -/
def kt (t : S28) : Int × ByteArray := (t.f0, t.f1)
/-- a gap: blanks and notes; it begins with a blank -/
def Gap (g : List UInt8) : Prop := (∃ b g', g = b :: g' ∧ isB b = true) ∧ ∀ r a acc, lx (g ++ r) a acc = lx r (a + g.length) acc
theorem gap_blanks (g : List UInt8) (h : g ≠ []) (hb : ∀ c ∈ g, isB c = true) : Gap g := by
  refine ⟨?_, fun r a acc => lx_blanks r g a acc hb⟩
  rcases g with _ | ⟨b, g⟩
  · exact absurd rfl h
  · exact ⟨b, g, rfl, hb b List.mem_cons_self⟩
theorem lx_row : ∀ (ps : List (S28 × List UInt8)) (r : List UInt8) (a : Nat) (acc : List S28), (∀ p ∈ ps, Good p.1 ∧ Gap p.2) →
    ∃ us : List S28, us.map kt = ps.map (fun p => kt p.1) ∧ lx (ps.flatMap (fun p => wr p.1 ++ p.2) ++ r) a acc = lx r (a + (ps.flatMap (fun p => wr p.1 ++ p.2)).length) (acc ++ us)
  | [], r, a, acc, _ => ⟨[], rfl, by rw [List.append_nil]; rfl⟩
  | p :: ps, r, a, acc, h => by
    obtain ⟨h1, ⟨b, g', hg, hb⟩, h2⟩ := h p List.mem_cons_self
    obtain ⟨us, hu, he⟩ := lx_row ps r (a + (wr p.1).length + p.2.length) (acc ++ [⟨p.1.f0, p.1.f1, (a : Int)⟩]) (fun q hq => h q (List.mem_cons_of_mem _ hq))
    refine ⟨⟨p.1.f0, p.1.f1, (a : Int)⟩ :: us, by rw [List.map_cons, List.map_cons, hu]; rfl, ?_⟩
    rw [List.flatMap_cons, List.append_assoc, List.append_assoc]
    have e : p.2 ++ (ps.flatMap (fun p => wr p.1 ++ p.2) ++ r) = b :: (g' ++ (ps.flatMap (fun p => wr p.1 ++ p.2) ++ r)) := by rw [hg]; rfl
    have e2 := lx_one p.1 h1 b hb (g' ++ (ps.flatMap (fun p => wr p.1 ++ p.2) ++ r)) a acc
    rw [e, e2, ← e, h2, he]
    congr 1
    · simp only [List.length_append]; omega
    · rw [List.append_assoc]; rfl
theorem tok_lx (s : ByteArray) (h : s.size ≤ 4096) : lex_Tokens.f s = (lx (by' s) 0 []).map (fun r => (r.1, (r.2.1 : Int), r.2.2)) := by
  unfold lex_Tokens.f
  rw [if_pos h, lex_lx _ _ _ _ (by rw [by_size]; omega)]
end Go.Proofs.YthnehdimjadliaaDoor.PAll
