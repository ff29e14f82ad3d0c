import Derived.Test.YthnehdimjadliaaDoorPAllx10
import Derived.Test.YthnehdimjadliaaDoorHLexB
/- The plain law of LexBack. -/
namespace Go.Proofs.YthnehdimjadliaaDoor.Pure
open Go Go.Proofs Go.RowKit Go.Proofs.YthnehdimjadliaaDoor.PAll Go.Proofs.YthnehdimjadliaaDoorW.PrintWords Go.Proofs.YthnehdimjadliaaDoorW.PrintLast
set_option linter.unusedVariables false
theorem qt_len : ∀ (n : Nat) (l : List UInt8) (p : List UInt8 × Nat), l.length ≤ n → qt l = some p → p.1.length ≤ l.length
  | _, [], p, _, h => by cases h
  | 0, _ :: _, _, hn, _ => absurd hn (by simp)
  | n + 1, c :: r, p, hn, h => by
    simp only [List.length_cons] at hn ⊢
    by_cases hc : c = 34
    · subst hc
      rcases r with _ | ⟨d, r'⟩
      · rw [qt_end [] (fun d r' e => by cases e)] at h
        cases h; simp
      · by_cases hd : d = 34
        · subst hd
          rw [qt_two] at h
          rcases hq : qt r' with _ | q
          · rw [hq] at h; cases h
          · rw [hq] at h
            cases h
            have := qt_len n r' q (by simp at hn; omega) hq
            simp; omega
        · rw [qt_end (d :: r') (fun x y e => by cases e; exact hd)] at h
          cases h; simp
    · rw [qt_else c r hc] at h
      rcases hq : qt r with _ | q
      · rw [hq] at h; cases h
      · rw [hq] at h
        cases h
        have := qt_len n r q (by omega) hq
        simp; omega
theorem digits_len (c : UInt8) (r : List UInt8) : (digits (c :: r)).length ≤ r.length + 1 := by
  unfold digits
  rw [List.length_append]
  have h1 : (Lib.trimLeftB ((c :: r).take (runL pD (c :: r) - 1)) 48).length ≤ ((c :: r).take (runL pD (c :: r) - 1)).length := (List.dropWhile_suffix _).length_le
  have h2 := runL_le pD (c :: r)
  simp only [List.length_take, List.length_drop, List.length_cons] at h1 h2 ⊢
  omega
theorem lex_sz (N : Nat) : ∀ (f : Nat) (l : List UInt8) (a : Nat) (acc T : List S28) (tw : Nat) (e : Int), l.length ≤ N → (∀ t ∈ acc, t.f1.size ≤ N) → lexGo f l a acc = some (T, tw, e) → ∀ t ∈ T, t.f1.size ≤ N
  | 0, _, _, _, _, _, _, _, _, h => by cases h
  | f + 1, [], a, acc, T, tw, e, hl, ha, h => by
    rw [lex_end] at h
    cases h
    intro t ht
    rcases List.mem_append.1 ht with ht | ht
    · exact ha t ht
    · rw [List.mem_singleton] at ht
      rw [ht]; exact Nat.zero_le _
  | f + 1, c :: r, a, acc, T, tw, e, hl, ha, h => by
    have step : ∀ (n b : Nat) (t : S28), t.f1.size ≤ N → lexGo f ((c :: r).drop n) b (acc ++ [t]) = some (T, tw, e) → ∀ t ∈ T, t.f1.size ≤ N := by
      intro n b t ht hg
      refine lex_sz N f _ b _ T tw e (by rw [List.length_drop]; omega) (fun x hx => ?_) hg
      rcases List.mem_append.1 hx with hx | hx
      · exact ha x hx
      · rw [List.mem_singleton] at hx
        rw [hx]; exact ht
    have skip : ∀ (n b : Nat), lexGo f ((c :: r).drop n) b acc = some (T, tw, e) → ∀ t ∈ T, t.f1.size ≤ N := fun n b hg =>
      lex_sz N f _ b _ T tw e (by rw [List.length_drop]; omega) ha hg
    rw [lexGo] at h
    by_cases hb : isB c = true
    · rw [if_pos hb] at h; exact skip 1 _ h
    rw [if_neg hb] at h
    by_cases h3 : c = 35
    · rw [if_pos h3] at h
      by_cases h4 : Lib.indexByte (c :: r) 10 = -1
      · rw [if_pos h4] at h
        cases h
        intro t ht
        rcases List.mem_append.1 ht with ht | ht
        · exact ha t ht
        · rw [List.mem_singleton] at ht
          rw [ht]; exact Nat.zero_le _
      · rw [if_neg h4] at h; exact skip _ _ h
    rw [if_neg h3] at h
    by_cases h5 : pL c.toNat = true
    · rw [if_pos h5] at h
      refine step _ _ _ ?_ h
      show ((c :: r).take (runL pLD (c :: r))).length ≤ N
      rw [List.length_take]; omega
    rw [if_neg h5] at h
    by_cases h6 : pD c.toNat = true
    · rw [if_pos h6] at h
      refine step _ _ _ ?_ h
      show (digits (c :: r)).length ≤ N
      have := digits_len c r
      simp at hl
      omega
    rw [if_neg h6] at h
    by_cases h7 : c = 34
    · rw [if_pos h7] at h
      rcases hq : qt r with _ | p
      · rw [hq] at h
        cases h
        intro t ht
        cases ht
      · rw [hq] at h
        refine step (p.2 + 1) _ _ ?_ h
        show p.1.length ≤ N
        have := qt_len _ r p (Nat.le_refl _) hq
        simp at hl
        omega
    rw [if_neg h7] at h
    rcases hs : signs.find? (fun x => Lib.hasPrefix (c :: r) (by' x)) with _ | x
    · rw [hs] at h
      cases h
      intro t ht
      cases ht
    · rw [hs] at h
      refine step _ _ _ ?_ h
      show x.size ≤ N
      have := pre_len _ _ (by simpa using List.find?_some hs)
      omega
theorem rd_b (pre ts : List S28) (t : S28) : rd_T28 (pre ++ t :: ts) (pre.length : Int) = t := by
  unfold rd_T28
  rw [Int.toNat_natCast, List.getD_eq_getElem?_getD, List.getElem?_append_right (Nat.le_refl _), Nat.sub_self]
  rfl
theorem back_l1 : ∀ (A B preA preB : List S28) (k : Nat), A.map kt = B.map kt → preA.length = preB.length → preA.length + A.length ≤ 10000 → A.length < k →
    windlasslaw5_LexBack.l1 k (preA ++ A) (preB ++ B) (preA.length : Int) = some true
  | [], B, preA, preB, k, h, hp, hl, hk => by
    obtain ⟨k, rfl⟩ : ∃ k', k = k' + 1 := ⟨k - 1, by omega⟩
    rw [windlasslaw5_LexBack.l1, if_neg (by simp)]
  | a :: A, [], preA, preB, k, h, hp, hl, hk => by cases h
  | a :: A, b :: B, preA, preB, k, h, hp, hl, hk => by
    obtain ⟨k, rfl⟩ : ∃ k', k = k' + 1 := ⟨k - 1, by omega⟩
    simp only [List.length_cons] at hl hk
    rw [List.map_cons, List.map_cons] at h
    injection h with h1 h2
    have ih := back_l1 A B (preA ++ [a]) (preB ++ [b]) k h2 (by simp [hp]) (by simp; omega) (by omega)
    rw [List.append_assoc, List.singleton_append, List.append_assoc, List.singleton_append, List.length_append, List.length_cons, List.length_nil] at ih
    have r1 := rd_b preA A a
    have r2 := rd_b preB B b
    rw [← hp] at r2
    have k1 : b.f0 = a.f0 := (congrArg Prod.fst h1).symm
    have k2 : b.f1 = a.f1 := (congrArg Prod.snd h1).symm
    rw [windlasslaw5_LexBack.l1, if_pos (by simp; omega), if_pos (by omega), if_pos (by simp [hp]; omega), r1, r2, if_pos k1, if_pos (by rw [k2]), wrap_1 _ (by omega)]
    exact ih
theorem back_l0 : ∀ (A pre : List S28) (o : ByteArray) (k : Nat), (∀ t ∈ A, t.f1.size ≤ 1500) → pre.length + A.length ≤ 2000 → o.size ≤ pre.length * 4000 →
    windlasslaw5_LexBack.l0 (k + A.length) (pre ++ A) o (pre.length : Int) = windlasslaw5_LexBack.l0 k (pre ++ A) ⟨(by' o ++ A.flatMap (fun t => wr t ++ [32])).toArray⟩ ((pre.length + A.length : Nat) : Int)
  | [], pre, o, k, ht, hl, ho => by
    have : (⟨(by' o ++ ([] : List S28).flatMap (fun t => wr t ++ [32])).toArray⟩ : ByteArray) = o := by
      rw [List.flatMap_nil, List.append_nil]
    rw [this]; rfl
  | a :: A, pre, o, k, ht, hl, ho => by
    simp only [List.length_cons] at hl ⊢
    have ha := ht a List.mem_cons_self
    have r1 := rd_b pre A a
    have hw : ∃ x : ByteArray, x.size ≤ 3500 ∧ by' x = wr a ∧ windlasslaw5_LexBack.l0 (k + A.length + 1) (pre ++ a :: A) o (pre.length : Int) = windlasslaw5_LexBack.l0 (k + A.length) (pre ++ a :: A) ((o ++ x) ++ (⟨#[32]⟩ : ByteArray)) ((pre.length + 1 : Nat) : Int) := by
      by_cases h4 : a.f0 = 4
      · have hq := size_qte a.f1
        refine ⟨qte a.f1, by omega, by rw [by_qte]; unfold wr; rw [if_pos h4], ?_⟩
        have hqf : lex_Quote.f a.f1 = some (qte a.f1) := by unfold lex_Quote.f; rw [if_pos (by omega)]
        rw [windlasslaw5_LexBack.l0, if_pos (by simp; omega), if_pos (by omega), r1, if_pos h4, hqf]
        simp only [Option.bind_some]
        rw [if_pos (by omega), if_pos (by rw [ByteArray.size_append]; omega), wrap_1 _ (by omega)]
      · refine ⟨a.f1, by omega, by unfold wr; rw [if_neg h4], ?_⟩
        rw [windlasslaw5_LexBack.l0, if_pos (by simp; omega), if_pos (by omega), r1, if_neg h4, if_pos (by omega), if_pos (by rw [ByteArray.size_append]; omega), wrap_1 _ (by omega)]
    obtain ⟨x, hx, hbx, he⟩ := hw
    have h1 : (⟨#[32]⟩ : ByteArray).size = 1 := rfl
    have ih := back_l0 A (pre ++ [a]) ((o ++ x) ++ (⟨#[32]⟩ : ByteArray)) k (fun t h => ht t (List.mem_cons_of_mem _ h)) (by simp; omega) (by
      rw [ByteArray.size_append, ByteArray.size_append, h1, List.length_append, List.length_cons, List.length_nil]; omega)
    rw [List.append_assoc, List.singleton_append, List.length_append, List.length_cons, List.length_nil] at ih
    have e1 : by' ((o ++ x) ++ (⟨#[32]⟩ : ByteArray)) ++ A.flatMap (fun t => wr t ++ [32]) = by' o ++ (a :: A).flatMap (fun t => wr t ++ [32]) := by
      rw [by_app, by_app, hbx, List.flatMap_cons]
      show by' o ++ wr a ++ [32] ++ _ = _
      simp only [List.append_assoc]
    rw [← Nat.add_assoc, he, ih, e1]
    congr 2
    omega
theorem flat_map (ts : List S28) (g : List UInt8) : (ts.map (fun t => (t, g))).flatMap (fun p => wr p.1 ++ p.2) = ts.flatMap (fun t => wr t ++ g) := by
  rw [List.flatMap_map]
theorem LexBack : windlasslaw5_LexBack.Pure := by
  intro s hsz
  by_cases h5 : (s.size : Int) > 1500
  · refine ⟨0, ?_⟩
    unfold windlasslaw5_LexBack.f windlasslaw5_known.f
    simp only [Option.bind_some]
    rw [if_pos trivial, if_pos h5]
  · have hs : s.size ≤ 4096 := by omega
    obtain ⟨T, tw, e, hg, hl⟩ := lex_some (s.size + 1) (by' s) 0 [] (by rw [by_size]; omega)
    have hT : lex_Tokens.f s = some (T, (tw : Int), e) := by
      unfold lex_Tokens.f
      rw [if_pos hs, hg]; rfl
    have hz := lex_sz 1500 _ _ _ _ _ _ _ (by rw [by_size]; omega) (fun t ht => by cases ht) hg
    rw [by_size, List.length_nil] at hl
    refine ⟨T.length + (T.length + 10), ?_⟩
    unfold windlasslaw5_LexBack.f windlasslaw5_known.f
    simp only [Option.bind_some]
    rw [if_pos trivial, if_neg h5, hT]
    simp only [Option.bind_some]
    rcases lex_goods _ _ _ _ _ _ _ hg with ⟨h0, rfl⟩ | ⟨rfl, rfl, ts, b, hTe, hgood⟩
    · rw [if_neg h0]; rfl
    · rw [if_pos rfl]
      rw [List.nil_append] at hTe
      obtain ⟨K, hK⟩ : ∃ K, K = T.length + 8 := ⟨_, rfl⟩
      have e1 := back_l0 T [] ⟨#[]⟩ (K + 2) hz (by simp; omega) (by simp [ByteArray.size])
      rw [List.nil_append, List.length_nil, Nat.zero_add] at e1
      rw [show T.length + (T.length + 10) = K + 2 + T.length by omega]
      refine e1.trans ?_
      obtain ⟨x6, hx6⟩ : ∃ x6 : ByteArray, x6 = ⟨(by' ⟨#[]⟩ ++ T.flatMap (fun t => wr t ++ [32])).toArray⟩ := ⟨_, rfl⟩
      rw [← hx6]
      have hb6 : by' x6 = (ts.map (fun t => (t, [32]))).flatMap (fun p => wr p.1 ++ p.2) ++ [32] := by
        rw [hx6, hTe, flat_map]
        show ([] : List UInt8) ++ _ = _
        rw [List.nil_append, List.flatMap_append]
        rfl
      rw [windlasslaw5_LexBack.l0, if_neg (by omega)]
      by_cases h6 : (x6.size : Int) > 4096
      · rw [if_pos h6]
      · rw [if_neg h6, tok_lx x6 (by omega), hb6]
        obtain ⟨us, hu, hr⟩ := lx_row (ts.map (fun t => (t, [32]))) [32] 0 [] (fun p hp => by
          obtain ⟨t, ht, rfl⟩ := List.mem_map.1 hp
          exact ⟨hgood t ht, gap_blanks [32] (by simp) (by intro c hc; rw [List.mem_singleton] at hc; rw [hc]; rfl)⟩)
        rw [hr, lx_blank _ _ _ _ (by decide), lx_end]
        simp only [Option.map_some, Option.bind_some, List.nil_append]
        rw [if_pos trivial]
        have hul : us.length = ts.length := by
          have := congrArg List.length hu
          simpa using this
        have hmap : T.map kt = (us ++ [tk 0 [] (0 + ((ts.map (fun t => (t, [32]))).flatMap (fun p => wr p.1 ++ p.2)).length + 1)]).map kt := by
          rw [hTe, List.map_append, List.map_append, hu, List.map_map]
          rfl
        have hlen : (us ++ [tk 0 [] (0 + ((ts.map (fun t => (t, [32]))).flatMap (fun p => wr p.1 ++ p.2)).length + 1)]).length = T.length := by
          rw [hTe]; simp [hul]
        rw [show (((us ++ [tk 0 [] (0 + ((ts.map (fun t => (t, [32]))).flatMap (fun p => wr p.1 ++ p.2)).length + 1)]).length : Int) != (T.length : Int)) = false by rw [hlen]; simp]
        rw [windlasslaw5_LexBack.j1, if_neg (by decide)]
        have := back_l1 T _ [] [] K hmap rfl (by simp; omega) (by omega)
        exact this
end Go.Proofs.YthnehdimjadliaaDoor.Pure
