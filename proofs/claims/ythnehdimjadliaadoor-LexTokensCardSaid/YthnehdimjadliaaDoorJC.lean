import Derived.Test.YthnehdimjadliaaDoorPAllx18
import Derived.Test.YthnehdimjadliaaDoorHLexB
import Derived.Lib.LazyBuf
/- The document's Tokens tells what lexGo tells. -/
namespace Go.Proofs.YthnehdimjadliaaDoor.Pure
open Go Go.Proofs Go.RowKit Go.Proofs.YthnehdimjadliaaDoor.PAll Go.Proofs.YthnehdimjadliaaDoorW.PrintWords Go.Proofs.YthnehdimjadliaaDoorW.PrintLast
set_option linter.unusedVariables false
theorem bt_cons (s : ByteArray) (a : Nat) (c : UInt8) (r : List UInt8) (h : (by' s).drop a = c :: r) : a < s.size ∧ bt s (a : Int) = (c.toNat : Int) ∧ (by' s).drop (a + 1) = r := by
  have hl : a < s.size := by
    have := congrArg List.length h
    rw [List.length_drop, by_size, List.length_cons] at this
    omega
  have h1 := PAll.byte_at s a hl
  have h2 : (by' s).drop a = s.data.toList.drop a := rfl
  rw [h2, h1] at h
  injection h with h3 h4
  refine ⟨hl, ?_, h4⟩
  unfold bt
  simp only [Int.toNat_natCast, hl, dite_true, h3]
theorem bt_nil (s : ByteArray) (a : Nat) (h : (by' s).drop a = []) : s.size ≤ a := by
  have := List.drop_eq_nil_iff.1 h
  rw [by_size] at this
  exact this
theorem ext_take (s : ByteArray) (a n : Nat) (l : List UInt8) (h : (by' s).drop a = l) : s.extract a (a + n) = ⟨(l.take n).toArray⟩ := ba_eq _ _ (by rw [by_mid, h])
theorem len_drop (s : ByteArray) (a : Nat) (l : List UInt8) (h : (by' s).drop a = l) : l.length = s.size - a := by
  rw [← h, List.length_drop, by_size]
theorem rletter (r : Int) : windlassref5_letter.f r = some (pL r) := by
  unfold windlassref5_letter.f pL
  split <;> split <;> (try split) <;> (try split) <;> simp <;> omega
theorem rdigit (r : Int) : windlassref5_digit.f r = some (pD r) := by
  unfold windlassref5_digit.f pD
  split <;> simp <;> omega
theorem rwords : windlassref5_Words.f = some words := rfl
theorem list_beq (a b : ByteArray) : (a.toList = b.toList) ↔ a = b := by
  rw [Lib.toList_data, Lib.toList_data]
  exact ⟨fun h => by rw [ba_eq a _ h], fun h => by rw [h]⟩
theorem isw_run (x : ByteArray) : ∀ (ws pre : List ByteArray) (k : Nat), pre.length + ws.length ≤ 1000 → ws.length < k → windlassref5_isWord.l0 k x (pre ++ ws) (pre.length : Int) = some (ws.any (fun y => decide (x = y)))
  | [], pre, k, hl, hk => by
    obtain ⟨k, rfl⟩ : ∃ k', k = k' + 1 := ⟨k - 1, by omega⟩
    rw [windlassref5_isWord.l0, if_neg (by simp)]
    simp
  | w :: ws, pre, k, hl, hk => by
    obtain ⟨k, rfl⟩ : ∃ k', k = k' + 1 := ⟨k - 1, by omega⟩
    simp only [List.length_cons] at hl hk
    have hr : rdOf ByteArray.empty (pre ++ w :: ws) (pre.length : Int) = w := by
      unfold rdOf
      rw [Int.toNat_natCast, List.getD_eq_getElem?_getD, List.getElem?_append_right (Nat.le_refl _), Nat.sub_self]; rfl
    rw [windlassref5_isWord.l0, if_pos (by simp; omega), if_pos (by omega), hr]
    by_cases e : w = x
    · rw [if_pos ((list_beq _ _).2 e)]
      simp [e]
    · rw [if_neg (fun h => e ((list_beq _ _).1 h)), wrap_1 _ (by omega)]
      have ih := isw_run x ws (pre ++ [w]) k (by simp; omega) (by omega)
      rw [List.append_assoc, List.singleton_append, List.length_append, List.length_cons, List.length_nil] at ih
      rw [ih]
      congr 1
      have : ¬ x = w := fun h => e h.symm
      simp [this]
theorem words_len : words.length = 29 := rfl
theorem isw (k : Nat) (hk : 30 ≤ k) (l : List UInt8) : windlassref5_isWord.f k ⟨l.toArray⟩ = some (isWord l) := by
  unfold windlassref5_isWord.f isWord
  rw [rwords]
  have := isw_run ⟨l.toArray⟩ words [] k (by rw [words_len]; decide) (by rw [words_len]; omega)
  simp only [Option.bind_some]
  refine this.trans ?_
  congr 1
  rw [Bool.eq_iff_iff, Lib.containsS_iff, List.any_eq_true]
  exact ⟨fun ⟨y, hy, e⟩ => (of_decide_eq_true e) ▸ hy, fun h => ⟨_, h, decide_eq_true rfl⟩⟩
theorem l1_run (s : ByteArray) (hs : s.size ≤ 5000) (acc : List S28) (k : Nat) : ∀ (l : List UInt8) (a : Nat), (by' s).drop a = l → a ≤ s.size →
    windlassref5_Tokens.l1 (k + (runL (fun r => r != 10) l + 1)) s acc (a : Int) = windlassref5_Tokens.l0 k s acc ((a + runL (fun r => r != 10) l : Nat) : Int)
  | [], a, h, ha => by
    have h1 := bt_nil s a h
    show windlassref5_Tokens.l1 (k + 1) s acc (a : Int) = windlassref5_Tokens.l0 k s acc (a : Int)
    rw [windlassref5_Tokens.l1, if_neg (by omega)]
  | c :: r, a, h, ha => by
    obtain ⟨h1, h2, h3⟩ := bt_cons s a c r h
    rw [← Nat.add_assoc, windlassref5_Tokens.l1, if_pos (by omega), if_pos (by omega), h2]
    by_cases hc : (c.toNat : Int) = 10
    · have e : runL (fun r => r != 10) (c :: r) = 0 := run_no _ _ _ (by simp [hc])
      rw [e, if_pos hc]; rfl
    · have e : runL (fun r => r != 10) (c :: r) = runL (fun r => r != 10) r + 1 := run_cons _ _ _ (by simpa using hc)
      rw [e, if_neg hc, wrap_1 a (by omega), l1_run s hs acc k r (a + 1) h3 h1]
      congr 2; omega
theorem ix_run : ∀ l : List UInt8, (Lib.indexByte l 10 = -1 ∧ runL (fun r => r != 10) l = l.length) ∨ Lib.indexByte l 10 = ((runL (fun r => r != 10) l : Nat) : Int)
  | [] => .inl ⟨rfl, rfl⟩
  | c :: l => by
    by_cases hc : c = 10
    · subst hc
      refine .inr ?_
      simp [Lib.indexByte, runL]
    · have hc' : (c == 10) = false := by simpa using hc
      have hn : ¬ (c.toNat : Int) = 10 := fun e => hc (u8_of c 10 (by omega))
      have e : runL (fun r => r != 10) (c :: l) = runL (fun r => r != 10) l + 1 := run_cons _ _ _ (by simpa using hn)
      unfold Lib.indexByte
      rw [hc', e]
      simp only [Bool.false_eq_true, if_false]
      rcases ix_run l with ⟨h1, h2⟩ | h1
      · rw [h1, h2]
        exact .inl ⟨rfl, rfl⟩
      · rw [h1]
        refine .inr ?_
        rw [if_neg (by simp)]
        omega
theorem l2_run (s : ByteArray) (hs : s.size ≤ 5000) (acc : List S28) (hacc : acc.length < 4398046511104) (k b : Nat) : ∀ (l : List UInt8) (a : Nat), (by' s).drop a = l → a ≤ s.size → b ≤ a →
    windlassref5_Tokens.l2 (k + (runL pLD l + 1)) s acc (a : Int) (b : Int) = (windlassref5_isWord.f k (s.extract b (a + runL pLD l))).bind fun t => windlassref5_Tokens.l0 k s (acc ++ [⟨if t = true then 2 else 1, s.extract b (a + runL pLD l), (b : Int)⟩]) ((a + runL pLD l : Nat) : Int)
  | [], a, h, ha, hb => by
    have h1 := bt_nil s a h
    show windlassref5_Tokens.l2 (k + 1) s acc (a : Int) (b : Int) = (windlassref5_isWord.f k (s.extract b a)).bind fun t => windlassref5_Tokens.l0 k s (acc ++ [⟨if t = true then 2 else 1, s.extract b a, (b : Int)⟩]) (a : Int)
    rw [windlassref5_Tokens.l2, if_neg (by omega), if_pos (by omega), if_pos (by omega), if_pos (by omega)]
    simp only [Int.toNat_natCast, if_pos hacc]
    congr 1
    funext t
    cases t <;> rfl
  | c :: r, a, h, ha, hb => by
    obtain ⟨h1, h2, h3⟩ := bt_cons s a c r h
    rw [← Nat.add_assoc, windlassref5_Tokens.l2, if_pos (by omega), if_pos (by omega), h2, rletter, rdigit]
    simp only [Option.bind_some]
    by_cases hc : pLD (c.toNat : Int) = true
    · have e : runL pLD (c :: r) = runL pLD r + 1 := run_cons pLD c r hc
      have ih := l2_run s hs acc hacc k b r (a + 1) h3 h1 (by omega)
      rw [show a + 1 + runL pLD r = a + (runL pLD r + 1) by omega] at ih
      rw [e, wrap_1 a (by omega)]
      by_cases hL : pL (c.toNat : Int) = true
      · rw [if_pos hL]; exact ih
      · have hD : pD (c.toNat : Int) = true := by
          unfold pLD at hc
          rw [Bool.eq_false_iff.2 hL] at hc
          simpa using hc
        rw [if_neg hL, if_pos hD]; exact ih
    · have e : runL pLD (c :: r) = 0 := run_no pLD c r hc
      have hL : ¬ pL (c.toNat : Int) = true := fun h => hc (by unfold pLD; rw [h]; rfl)
      have hD : ¬ pD (c.toNat : Int) = true := fun h => hc (by unfold pLD; rw [h, Bool.or_true])
      rw [e, if_neg hL, if_neg hD, if_pos (by omega), if_pos (by omega), if_pos (by omega)]
      simp only [Int.toNat_natCast, if_pos hacc, Nat.add_zero]
      congr 1
      funext t
      cases t <;> rfl
theorem l3_run (s : ByteArray) (hs : s.size ≤ 5000) (acc : List S28) (k b : Nat) : ∀ (l : List UInt8) (a : Nat), (by' s).drop a = l → a ≤ s.size →
    windlassref5_Tokens.l3 (k + (runL pD l + 1)) s acc (a : Int) (b : Int) = windlassref5_Tokens.j5 k s acc ((a + runL pD l : Nat) : Int) (b : Int)
  | [], a, h, ha => by
    have h1 := bt_nil s a h
    show windlassref5_Tokens.l3 (k + 1) s acc (a : Int) (b : Int) = windlassref5_Tokens.j5 k s acc (a : Int) (b : Int)
    rw [windlassref5_Tokens.l3, if_neg (by omega)]
  | c :: r, a, h, ha => by
    obtain ⟨h1, h2, h3⟩ := bt_cons s a c r h
    rw [← Nat.add_assoc, windlassref5_Tokens.l3, if_pos (by omega), if_pos (by omega), h2, rdigit]
    simp only [Option.bind_some]
    by_cases hc : pD (c.toNat : Int) = true
    · have e : runL pD (c :: r) = runL pD r + 1 := run_cons pD c r hc
      rw [e, if_pos hc, wrap_1 a (by omega), l3_run s hs acc k b r (a + 1) h3 h1]
      congr 2; omega
    · have e : runL pD (c :: r) = 0 := run_no pD c r hc
      rw [e, if_neg hc]; rfl
theorem l4_all (s : ByteArray) (hs : s.size ≤ 5000) (acc : List S28) (hacc : acc.length < 4398046511104) (b : Nat) : ∀ (P : List UInt8) (x : UInt8) (r : List UInt8) (a : Nat), (by' s).drop a = P ++ x :: r → b ≤ a →
    ∃ m, m ≤ P.length ∧ ∀ k, windlassref5_Tokens.l4 (k + (m + 1)) s acc ((a + P.length + 1 : Nat) : Int) (b : Int) (a : Int) = windlassref5_Tokens.l0 k s (acc ++ [⟨3, ⟨(Lib.trimLeftB P 48 ++ [x]).toArray⟩, (b : Int)⟩]) ((a + P.length + 1 : Nat) : Int)
  | [], x, r, a, h, hb => by
    obtain ⟨h1, h2, h3⟩ := bt_cons s a x r h
    refine ⟨0, Nat.le_refl _, fun k => ?_⟩
    have e := ext_take s a 1 _ h
    rw [windlassref5_Tokens.l4, wrap_1 a (by omega), if_neg (by simp), if_pos (by omega), if_pos (by simp; omega), if_pos (by simp; omega), if_pos hacc]
    simp only [Int.toNat_natCast, List.length_nil, Nat.add_zero, e]
    rfl
  | c :: P, x, r, a, h, hb => by
    obtain ⟨h1, h2, h3⟩ := bt_cons s a c (P ++ x :: r) h
    have hlen := len_drop s a _ h
    simp only [List.length_cons, List.length_append] at hlen
    by_cases hc : (c.toNat : Int) = 48
    · obtain ⟨m, hm, ih⟩ := l4_all s hs acc hacc b P x r (a + 1) h3 (by omega)
      refine ⟨m + 1, by simp; omega, fun k => ?_⟩
      have hc' : c = 48 := u8_of c 48 (by omega)
      have et : Lib.trimLeftB (c :: P) 48 = Lib.trimLeftB P 48 := by
        exact List.dropWhile_cons_of_pos (p := (· == (48 : UInt8))) (by rw [hc']; rfl)
      rw [← Nat.add_assoc, windlassref5_Tokens.l4, wrap_1 a (by omega), if_pos (by simp; omega), if_pos (by omega), if_pos (by omega), h2, if_pos hc, et]
      rw [show a + (c :: P).length + 1 = a + 1 + P.length + 1 by simp; omega]
      exact ih k
    · refine ⟨0, Nat.zero_le _, fun k => ?_⟩
      have hc' : ¬ (c == 48) = true := fun e => hc (by have := beq_iff_eq.1 e; rw [this]; rfl)
      have et : Lib.trimLeftB (c :: P) 48 = c :: P := by
        exact List.dropWhile_cons_of_neg (p := (· == (48 : UInt8))) hc'
      have e := ext_take s a ((c :: P).length + 1) _ h
      have e2 : ((c :: P) ++ x :: r).take ((c :: P).length + 1) = (c :: P) ++ [x] := by
        rw [show (c :: P) ++ x :: r = ((c :: P) ++ [x]) ++ r by simp, List.take_left' (by simp)]
      rw [e2] at e
      rw [windlassref5_Tokens.l4, wrap_1 a (by omega), if_pos (by simp; omega), if_pos (by omega), if_pos (by omega), h2, if_neg hc, if_pos (by simp; omega), if_pos (by simp; omega), if_pos hacc, et]
      simp only [Int.toNat_natCast]
      rw [show a + (c :: P).length + 1 = a + ((c :: P).length + 1) by omega, e]
theorem text_run (s : ByteArray) (hs : s.size ≤ 5000) : ∀ (n : Nat) (l : List UInt8) (a : Nat) (o : List UInt8) (k : Nat), l.length ≤ n → (by' s).drop a = l → a ≤ s.size → o.length ≤ a → l.length < k →
    windlassref5_text.l0 k s (o.map fun b => (b.toNat : Int)) (a : Int) = match qt l with
      | none => some (⟨#[]⟩, 0, false)
      | some p => some (⟨(o ++ p.1).toArray⟩, ((a + p.2 : Nat) : Int), true)
  | n, [], a, o, k, hn, h, ha, ho, hk => by
    obtain ⟨k, rfl⟩ : ∃ k', k = k' + 1 := ⟨k - 1, by omega⟩
    have h1 := bt_nil s a h
    rw [windlassref5_text.l0, if_neg (by omega)]
    rfl
  | 0, c :: r, a, o, k, hn, h, ha, ho, hk => absurd hn (by simp)
  | n + 1, c :: r, a, o, k, hn, h, ha, ho, hk => by
    obtain ⟨k, rfl⟩ : ∃ k', k = k' + 1 := ⟨k - 1, by omega⟩
    obtain ⟨h1, h2, h3⟩ := bt_cons s a c r h
    simp only [List.length_cons] at hn hk
    have hl := len_drop s (a + 1) r h3
    have hlo : (o.map fun b => (b.toNat : Int)).length < 140737488355328 := by rw [List.length_map]; omega
    have app : ∀ x : UInt8, (o.map fun b => (b.toNat : Int)) ++ [(x.toNat : Int)] = ((o ++ [x]).map fun b => (b.toNat : Int)) := fun x => by rw [List.map_append]; rfl
    rw [windlassref5_text.l0, if_pos (by omega), if_pos (by omega), h2, wrap_1 a (by omega)]
    by_cases hc : (c.toNat : Int) = 34
    · have hc' : c = 34 := u8_of c 34 (by omega)
      subst hc'
      rw [if_pos hc]
      rcases r with _ | ⟨d, r'⟩
      · have h4 := bt_nil s (a + 1) h3
        rw [if_pos (by omega)]
        show _ = some (_, _, true)
        rw [Lib.Lz.strOfNums_map, List.append_nil]
      · obtain ⟨h4, h5, h6⟩ := bt_cons s (a + 1) d r' h3
        rw [if_neg (by omega), if_pos (by omega), if_pos (by omega), h5]
        by_cases hd : (d.toNat : Int) = 34
        · have hd' : d = 34 := u8_of d 34 (by omega)
          subst hd'
          rw [if_pos hd, if_pos hlo, app, wrap_1 (a + 1) (by omega), qt_two]
          have ih := text_run s hs n r' (a + 1 + 1) (o ++ [34]) k (by simp at hn; omega) h6 (by omega) (by simp; omega) (by simp at hk; omega)
          rw [ih]
          rcases qt r' with _ | p
          · rfl
          · simp only [Option.map_some, List.append_assoc, List.singleton_append]
            congr 3
            omega
        · have hd' : d ≠ 34 := fun e => hd (by rw [e]; rfl)
          rw [if_neg hd, qt_end (d :: r') (fun x y e => by cases e; exact hd')]
          show _ = some (_, _, true)
          rw [Lib.Lz.strOfNums_map, List.append_nil]
    · have hc' : c ≠ 34 := fun e => hc (by rw [e]; rfl)
      rw [if_neg hc, if_pos hlo, app, qt_else c r hc']
      have ih := text_run s hs n r (a + 1) (o ++ [c]) k (by omega) h3 (by omega) (by simp; omega) (by omega)
      rw [ih]
      rcases qt r with _ | p
      · rfl
      · simp only [Option.map_some, List.append_assoc, List.singleton_append]
        congr 3
        omega
end Go.Proofs.YthnehdimjadliaaDoor.Pure
/- The document's Tokens tells what lexGo tells: the whole. -/
namespace Go.Proofs.YthnehdimjadliaaDoor.Pure
open Go Go.Proofs Go.RowKit Go.Proofs.YthnehdimjadliaaDoor.PAll Go.Proofs.YthnehdimjadliaaDoorW.PrintWords Go.Proofs.YthnehdimjadliaaDoorW.PrintLast
set_option linter.unusedVariables false
def sg20 : List UInt8 := [123, 125, 40, 41, 91, 93, 44, 59, 58, 46, 61, 60, 62, 43, 45, 42, 47, 37, 38, 33]
theorem find_some : ∀ c ∈ sg20, ∀ d : Fin 256, signs.find? (fun x => hp c (some (UInt8.ofNat d)) (by' x)) = if two8.any (fun x => decide (x = ⟨#[c, UInt8.ofNat d]⟩)) = true then some ⟨#[c, UInt8.ofNat d]⟩ else if c = 33 then none else some ⟨#[c]⟩ := by decide +kernel
theorem find_none : ∀ c ∈ sg20, signs.find? (fun x => hp c none (by' x)) = if c = 33 then none else some ⟨#[c]⟩ := by decide +kernel
theorem one_20 : ∀ c ∈ sg20, one19.contains (c.toNat : Int) = decide (c ≠ 33) := by decide +kernel
theorem one_not : ∀ v : Fin 256, UInt8.ofNat v ∉ sg20 → one19.contains ((UInt8.ofNat v).toNat : Int) = false := by decide +kernel
theorem signs_h : ∀ x ∈ signs, (by' x).headD 0 ∈ sg20 ∧ (by' x) ≠ [] := by decide +kernel
theorem two_h : ∀ x ∈ two8, (by' x).headD 0 ∈ sg20 := by decide +kernel
theorem hp_head (c : UInt8) (d : Option UInt8) : ∀ l : List UInt8, hp c d l = true → l.headD 0 = c
  | [], h => by cases h
  | [x], h => by have := beq_iff_eq.1 (show (c == x) = true from h); exact this.symm
  | [x, y], h => by
    have h1 : (c == x && d == some y) = true := h
    rw [Bool.and_eq_true] at h1
    exact (beq_iff_eq.1 h1.1).symm
  | _ :: _ :: _ :: _, h => by cases h
theorem sgn_find (s : ByteArray) (a : Nat) (c : UInt8) (r : List UInt8) (h : (by' s).drop a = c :: r) :
    (signs.find? (fun x => Lib.hasPrefix (c :: r) (by' x))) = if (sgn s a).toList = [] then none else some (sgn s a) := by
  obtain ⟨h1, h2, h3⟩ := bt_cons s a c r h
  have e1 : s.extract a (a + 1) = ⟨#[c]⟩ := ext_take s a 1 _ h
  have es : sgn1 s a = if one19.contains (c.toNat : Int) = true then ⟨#[c]⟩ else ⟨#[]⟩ := by unfold sgn1; rw [h2, e1]
  have n1 : ∀ x : UInt8, ¬ (⟨#[x]⟩ : ByteArray).toList = [] := fun x e => by rw [Lib.toList_data] at e; cases e
  have n2 : ∀ x y : UInt8, ¬ (⟨#[x, y]⟩ : ByteArray).toList = [] := fun x y e => by rw [Lib.toList_data] at e; cases e
  have n0 : (⟨#[]⟩ : ByteArray).toList = [] := by rw [Lib.toList_data]
  rw [find_hp]
  by_cases hc : c ∈ sg20
  · have e20 := one_20 c hc
    have tail : (if c = 33 then none else some (⟨#[c]⟩ : ByteArray)) = if (sgn1 s a).toList = [] then none else some (sgn1 s a) := by
      rw [es, e20]
      by_cases h33 : c = 33
      · rw [if_pos h33, decide_eq_false (fun h => h h33)]
        simp only [Bool.false_eq_true, if_false]
        rw [if_pos n0]
      · rw [if_neg h33, decide_eq_true h33]
        simp only [if_true]
        rw [if_neg (n1 c)]
    rcases r with _ | ⟨d, r'⟩
    · have h4 := bt_nil s (a + 1) h3
      have : sgn s a = sgn1 s a := by unfold sgn; rw [if_neg (fun h => by omega)]
      rw [this]
      exact (find_none c hc).trans tail
    · obtain ⟨h4, h5, h6⟩ := bt_cons s (a + 1) d r' h3
      have e2 : s.extract a (a + 2) = ⟨#[c, d]⟩ := ext_take s a 2 _ h
      have hf := find_some c hc ⟨d.toNat, d.toNat_lt⟩
      simp only [UInt8.ofNat_toNat] at hf
      by_cases ht : two8.any (fun x => decide (x = (⟨#[c, d]⟩ : ByteArray))) = true
      · have hsg : sgn s a = ⟨#[c, d]⟩ := by unfold sgn; rw [e2, if_pos ⟨h4, ht⟩]
        rw [if_pos ht] at hf
        rw [hsg, if_neg (n2 c d)]
        exact hf
      · have hsg : sgn s a = sgn1 s a := by unfold sgn; rw [e2, if_neg (fun h => ht h.2)]
        rw [if_neg ht] at hf
        rw [hsg]
        exact hf.trans tail
  · have hn : signs.find? (fun x => hp c r.head? (by' x)) = none := by
      rw [List.find?_eq_none]
      intro x hx hh
      have := (signs_h x hx).1
      rw [hp_head _ _ _ hh] at this
      exact hc this
    have ho := one_not ⟨c.toNat, c.toNat_lt⟩
    simp only [UInt8.ofNat_toNat] at ho
    have ho' := ho hc
    have hs1 : sgn1 s a = ⟨#[]⟩ := by rw [es, ho', if_neg (by decide)]
    have : sgn s a = sgn1 s a := by
      unfold sgn
      rw [if_neg]
      rintro ⟨h4, ht⟩
      rcases r with _ | ⟨d, r'⟩
      · have := bt_nil s (a + 1) h3; omega
      have e2 : s.extract a (a + 2) = ⟨#[c, d]⟩ := ext_take s a 2 _ h
      rw [e2, List.any_eq_true] at ht
      obtain ⟨x, hx, he⟩ := ht
      have he' := of_decide_eq_true he
      have := two_h x hx
      rw [he'] at this
      exact hc this
    rw [hn, this, hs1, if_pos n0]
theorem ref_go (s : ByteArray) (hs : s.size ≤ 4096) : ∀ (f : Nat) (l : List UInt8) (a : Nat) (acc T : List S28) (tw : Nat) (e : Int) (k : Nat), (by' s).drop a = l → a ≤ s.size → acc.length ≤ a → 8 * l.length + 60 ≤ k →
    lexGo f l a acc = some (T, tw, e) → windlassref5_Tokens.l0 k s acc (a : Int) = some (T, (tw : Int), e)
  | 0, _, _, _, _, _, _, _, _, _, _, _, h => by cases h
  | f + 1, [], a, acc, T, tw, e, k, h, ha, hc, hk, hg => by
    obtain ⟨k, rfl⟩ : ∃ k', k = k' + 1 := ⟨k - 1, by omega⟩
    have h1 := bt_nil s a h
    rw [lex_end] at hg
    cases hg
    have : a = s.size := by omega
    subst this
    rw [windlassref5_Tokens.l0, if_neg (by omega), if_pos (by omega)]
    rfl
  | f + 1, c :: r, a, acc, T, tw, e, k, h, ha, hc, hk, hg => by
    obtain ⟨k, rfl⟩ : ∃ k', k = k' + 2 := ⟨k - 2, by omega⟩
    obtain ⟨h1, h2, h3⟩ := bt_cons s a c r h
    have hl := len_drop s a _ h
    simp only [List.length_cons] at hl hk
    have hacc : acc.length < 4398046511104 := by omega
    have go : ∀ (n : Nat) (ac : List S28) (k' : Nat), 1 ≤ n → n ≤ r.length + 1 → ac.length ≤ acc.length + 1 → k ≤ k' + 2 * n + 4 → lexGo f ((c :: r).drop n) (a + n) ac = some (T, tw, e) → windlassref5_Tokens.l0 k' s ac ((a + n : Nat) : Int) = some (T, (tw : Int), e) := by
      intro n ac k' hn1 hn2 hac hkk hgo
      refine ref_go s hs f _ (a + n) ac T tw e k' ?_ (by omega) (by omega) ?_ hgo
      · rw [← h, List.drop_drop]
      · simp only [List.length_drop, List.length_cons]; omega
    rw [lexGo] at hg
    have hj : windlassref5_Tokens.l0 (k + 2) s acc (a : Int) = windlassref5_Tokens.j1 (k + 1) s acc (a : Int) (c.toNat : Int) (a : Int) (isB c) := by
      rw [windlassref5_Tokens.l0, if_pos (by omega), if_pos (by omega), h2]
      have q : ∀ n : Nat, n < 256 → ((c.toNat : Int) = (n : Int) ↔ c = UInt8.ofNat n) := fun n hn => ⟨fun e => u8_of c n (by omega), fun e => by rw [e]; simp; omega⟩
      have e32 := q 32 (by decide)
      have e9 := q 9 (by decide)
      have e10 := q 10 (by decide)
      have e13 := q 13 (by decide)
      by_cases b1 : (c.toNat : Int) = 32
      · have : isB c = true := by rw [e32.1 b1]; rfl
        rw [if_pos b1, this]
      · rw [if_neg b1]
        by_cases b2 : (c.toNat : Int) = 9
        · have : isB c = true := by rw [e9.1 b2]; rfl
          rw [if_pos b2, this]
        · rw [if_neg b2]
          by_cases b3 : (c.toNat : Int) = 10
          · have : isB c = true := by rw [e10.1 b3]; rfl
            rw [if_pos b3, this]
          · rw [if_neg b3]
            have : isB c = ((c.toNat : Int) == 13) := by
              unfold isB
              have f1 : (c == 32) = false := beq_eq_false_iff_ne.2 (fun e => b1 (e32.2 e))
              have f2 : (c == 9) = false := beq_eq_false_iff_ne.2 (fun e => b2 (e9.2 e))
              have f3 : (c == 10) = false := beq_eq_false_iff_ne.2 (fun e => b3 (e10.2 e))
              rw [f1, f2, f3]
              by_cases b4 : (c.toNat : Int) = 13
              · rw [e13.1 b4]; rfl
              · rw [beq_eq_false_iff_ne.2 b4, show (c == 13) = false from beq_eq_false_iff_ne.2 (fun e => b4 (e13.2 e))]; rfl
            rw [this]
    rw [hj, windlassref5_Tokens.j1]
    by_cases hb : isB c = true
    · rw [if_pos hb] at hg
      rw [if_pos hb, wrap_1 a (by omega)]
      exact go 1 acc k (Nat.le_refl _) (by omega) (by omega) (by omega) hg
    rw [if_neg hb] at hg
    rw [if_neg hb]
    have q35 : ((c.toNat : Int) = 35 ↔ c = 35) := ⟨fun e => u8_of c 35 (by omega), fun e => by rw [e]; rfl⟩
    have q34 : ((c.toNat : Int) = 34 ↔ c = 34) := ⟨fun e => u8_of c 34 (by omega), fun e => by rw [e]; rfl⟩
    by_cases hn : c = 35
    · rw [if_pos hn] at hg
      rw [if_pos (q35.2 hn)]
      have hle := runL_le (fun r => r != 10) (c :: r)
      rw [List.length_cons] at hle
      obtain ⟨k', hk'⟩ : ∃ k', k = k' + (runL (fun r => r != 10) (c :: r) + 1) := ⟨k - (runL (fun r => r != 10) (c :: r) + 1), by omega⟩
      rw [hk', l1_run s (by omega) acc k' _ a h ha]
      rcases ix_run (c :: r) with ⟨i1, i2⟩ | i1
      · rw [if_pos i1] at hg
        cases hg
        obtain ⟨k'', rfl⟩ : ∃ k'', k' = k'' + 1 := ⟨k' - 1, by omega⟩
        rw [i2, List.length_cons, windlassref5_Tokens.l0, if_neg (by omega), if_pos hacc]
        have : ((s.size : Nat) : Int) = ((a + (r.length + 1) : Nat) : Int) := by omega
        rw [this]
        rfl
      · have hp := run_pos (fun r => r != 10) c r (by rw [hn]; decide)
        rw [if_neg (by rw [i1]; omega), i1, Int.toNat_natCast] at hg
        exact go _ acc k' hp hle (by omega) (by omega) hg
    rw [if_neg hn] at hg
    rw [if_neg (fun h => hn (q35.1 h)), rletter, rdigit]
    simp only [Option.bind_some]
    by_cases hL : pL c.toNat = true
    · rw [if_pos hL] at hg
      rw [if_pos hL]
      have hle := runL_le pLD (c :: r)
      rw [List.length_cons] at hle
      have hp := run_pos pLD c r (pLD_of_L hL)
      obtain ⟨k', hk'⟩ : ∃ k', k = k' + (runL pLD (c :: r) + 1) := ⟨k - (runL pLD (c :: r) + 1), by omega⟩
      rw [hk', l2_run s (by omega) acc hacc k' a _ a h ha (Nat.le_refl _), ext_take s a _ _ h, isw k' (by omega)]
      simp only [Option.bind_some]
      exact go _ _ k' hp hle (by simp) (by omega) hg
    rw [if_neg hL] at hg
    rw [if_neg hL]
    by_cases hD : pD c.toNat = true
    · rw [if_pos hD] at hg
      rw [if_pos hD]
      have hle := runL_le pD (c :: r)
      have hall := all_run pD _ ((run_take pD (c :: r)).trans (by rw [List.length_take, Nat.min_eq_left hle]))
      rw [List.length_cons] at hle
      obtain ⟨n, hn⟩ : ∃ n, runL pD (c :: r) = n + 1 := ⟨runL pD r, run_cons pD c r hD⟩
      obtain ⟨k', hk'⟩ : ∃ k', k = k' + (runL pD (c :: r) + 1) := ⟨k - (runL pD (c :: r) + 1), by omega⟩
      obtain ⟨k2, rfl⟩ : ∃ k2, k' = k2 + 1 := ⟨k' - 1, by omega⟩
      rw [hk', l3_run s (by omega) acc (k2 + 1) a _ a h ha, windlassref5_Tokens.j5]
      have hlt : n < (c :: r).length := by simp; omega
      have hsp : (by' s).drop a = (c :: r).take n ++ (c :: r)[n] :: (c :: r).drop (n + 1) := by
        rw [h, ← List.drop_eq_getElem_cons hlt, List.take_append_drop]
      have hPl : ((c :: r).take n).length = n := by rw [List.length_take, Nat.min_eq_left (by omega)]
      have hdg : digits (c :: r) = Lib.trimLeftB ((c :: r).take n) 48 ++ [(c :: r)[n]] := by
        unfold digits
        rw [hn, Nat.add_sub_cancel, List.drop_eq_getElem_cons hlt]; rfl
      have : ∃ m, m ≤ n ∧ ∀ k, windlassref5_Tokens.l4 (k + (m + 1)) s acc ((a + n + 1 : Nat) : Int) (a : Int) (a : Int) = windlassref5_Tokens.l0 k s (acc ++ [⟨3, ⟨(digits (c :: r)).toArray⟩, (a : Int)⟩]) ((a + n + 1 : Nat) : Int) := by
        have := l4_all s (by omega) acc hacc a _ _ _ a hsp (Nat.le_refl _)
        rw [hPl, ← hdg] at this
        exact this
      obtain ⟨m, hm, h4⟩ := this
      obtain ⟨k3, rfl⟩ : ∃ k3, k2 = k3 + (m + 1) := ⟨k2 - (m + 1), by omega⟩
      rw [hn, show a + (n + 1) = a + n + 1 from rfl, h4 k3]
      rw [hn] at hg
      exact go (n + 1) _ k3 (by omega) (by omega) (by simp) (by omega) hg
    rw [if_neg hD] at hg
    rw [if_neg hD]
    by_cases hQ : c = 34
    · rw [if_pos hQ] at hg
      rw [if_pos (q34.2 hQ)]
      unfold windlassref5_text.f
      rw [wrap_1 a (by omega)]
      have ht := text_run s (by omega) r.length r (a + 1) [] k (Nat.le_refl _) h3 h1 (by simp) (by omega)
      rw [show (([] : List UInt8).map fun b => (b.toNat : Int)) = [] from rfl] at ht
      rw [ht]
      rcases hq : qt r with _ | p
      · rw [hq] at hg
        cases hg
        rfl
      · rw [hq] at hg
        have hle := qt_le _ r p (Nat.le_refl _) hq
        simp only [Option.bind_some, if_pos, List.nil_append, if_pos hacc] at hg ⊢
        have := go (p.2 + 1) (acc ++ [tk 4 p.1 a]) k (by omega) (by omega) (by simp) (by omega) hg
        rw [show a + 1 + p.2 = a + (p.2 + 1) by omega]
        exact this
    rw [if_neg hQ] at hg
    rw [if_neg (fun h => hQ (q34.1 h))]
    have hsg : windlassref5_sign.f s (a : Int) = some (sgn s a) := by
      unfold windlassref5_sign.f
      rw [if_pos ⟨by omega, by omega, by omega⟩, Int.toNat_natCast]
    rw [hsg]
    rw [sgn_find s a c r h] at hg
    simp only [Option.bind_some]
    by_cases h0 : (sgn s a).toList = []
    · rw [if_pos h0] at hg
      cases hg
      rw [if_pos h0]
    · have hmem : sgn s a ∈ signs := by
        have := sgn_find s a c r h
        rw [if_neg h0] at this
        exact List.mem_of_find?_eq_some this
      have hpl : (sgn s a).size ≤ (c :: r).length := by
        have := sgn_find s a c r h
        rw [if_neg h0] at this
        exact pre_len _ _ (by simpa using List.find?_some this)
      have hp := sign_pos _ hmem
      rw [if_neg h0] at hg
      rw [if_neg h0, if_pos hacc]
      have hw : wrap64 ((a : Int) + ((sgn s a).size : Int)) = ((a + (sgn s a).size : Nat) : Int) := by
        rw [List.length_cons] at hpl
        unfold wrap64; omega
      rw [hw]
      exact go _ _ k hp (by simpa using hpl) (by simp) (by omega) hg
theorem ref_tokens (s : ByteArray) (k : Nat) (hk : 8 * s.size + 60 ≤ k) (hs : s.size ≤ 5000) : windlassref5_Tokens.f k s = lex_Tokens.f s := by
  unfold windlassref5_Tokens.f lex_Tokens.f
  by_cases h : s.size ≤ 4096
  · rw [if_neg (by omega), if_pos h]
    obtain ⟨T, tw, e, hg, -⟩ := lex_some (s.size + 1) (by' s) 0 [] (by rw [by_size]; omega)
    rw [hg]
    exact ref_go s h (s.size + 1) (by' s) 0 [] T tw e k rfl (Nat.zero_le _) (Nat.le_refl _) (by rw [by_size]; exact hk) hg
  · rw [if_pos (by omega), if_neg h]
end Go.Proofs.YthnehdimjadliaaDoor.Pure
