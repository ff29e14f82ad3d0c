import Derived.Test.YthnehdimjadliaaDoorPAllx9
/- The plain law of LexNames. -/
namespace Go.Proofs.YthnehdimjadliaaDoor.Pure
open Go Go.Proofs Go.RowKit Go.Proofs.YthnehdimjadliaaDoor.PAll Go.Proofs.YthnehdimjadliaaDoorW.PrintWords Go.Proofs.YthnehdimjadliaaDoorW.PrintLast
set_option linter.unusedVariables false
/-- may byte v stand at place i -/
def okv (i : Nat) (v : Int) : Bool := pL v || (decide (0 < i) && pD v)
theorem w1 (i : Nat) (h : i ≤ 100000) : wrap64 ((i : Int) + 1) = ((i + 1 : Nat) : Int) := by unfold wrap64; omega
theorem w2 (i : Nat) (h : i ≤ 100000) (h0 : 0 < i) : wrap64 ((i : Int) - 1) = ((i - 1 : Nat) : Int) := by unfold wrap64; omega
theorem l0_step (k : Nat) (x0 : List Int) (x3 : ByteArray) (b : Bool) (i : Nat) (h : i < x0.length) (hi : i ≤ 100000) :
    windlasslaw5_LexNames.l0 (k + 1) x0 x3 b i = windlasslaw5_LexNames.l0 k x0 x3 (b && okv i (rd x0 i)) ((i + 1 : Nat) : Int) := by
  have h1 : (i : Int) < (x0.length : Int) := by omega
  have h2 : (0 : Int) ≤ (i : Int) := by omega
  rw [windlasslaw5_LexNames.l0, if_pos h1, if_pos h2, w1 i hi]
  generalize rd x0 i = v
  have e : ∀ β : Bool, (b && okv i v) = β → windlasslaw5_LexNames.l0 k x0 x3 β ((i + 1 : Nat) : Int) = windlasslaw5_LexNames.l0 k x0 x3 (b && okv i v) ((i + 1 : Nat) : Int) := fun β hβ => by rw [hβ]
  repeat' split
  all_goals refine e _ ?_
  all_goals (unfold okv pL pD; first | (simp_all; done) | (simp_all; omega) | (simp_all [show ∀ a : Int, ¬ a < a by omega]; done))
/-- all bytes from place i on may stand where they stand -/
def okAll : Nat → List Int → Bool
  | _, [] => true
  | i, v :: r => okv i v && okAll (i + 1) r
theorem l0_run (x0 : List Int) (x3 : ByteArray) (h4 : x0.length ≤ 40) : ∀ (n k i : Nat) (b : Bool), i + n = x0.length → n < k →
    ∃ k', k ≤ k' + n + 1 ∧ windlasslaw5_LexNames.l0 k x0 x3 b i = windlasslaw5_LexNames.l1 k' x3 (b && okAll i (x0.drop i)) PAll.words 0
  | 0, k, i, b, hi, hk => by
    obtain ⟨k', rfl⟩ : ∃ k', k = k' + 1 := ⟨k - 1, by omega⟩
    refine ⟨k', by omega, ?_⟩
    have h1 : ¬ (i : Int) < (x0.length : Int) := by omega
    rw [windlasslaw5_LexNames.l0, if_neg h1, words_f, List.drop_eq_nil_of_le (by omega), okAll, Bool.and_true]
    rfl
  | n + 1, k, i, b, hi, hk => by
    obtain ⟨k1, rfl⟩ : ∃ k', k = k' + 1 := ⟨k - 1, by omega⟩
    rw [l0_step k1 x0 x3 b i (by omega) (by omega)]
    obtain ⟨k', h1, h2⟩ := l0_run x0 x3 h4 n k1 (i + 1) (b && okv i (rd x0 i)) (by omega) (by omega)
    refine ⟨k', by omega, ?_⟩
    rw [h2]
    have hlt : i < x0.length := by omega
    rw [List.drop_eq_getElem_cons hlt, okAll, Bool.and_assoc]
    have : rd x0 i = x0[i] := by unfold rd; simp [List.getD_eq_getElem?_getD, hlt]
    rw [this]
theorem words_up : ∀ i, i < PAll.words.length → 0 < i → Op.bytesLess (PAll.words.getD (i - 1) ⟨#[]⟩).toList (PAll.words.getD i ⟨#[]⟩).toList = true := by decide +kernel
theorem words_no : ∀ i, i < PAll.words.length → nm (by' (PAll.words.getD i ⟨#[]⟩)) = false := by decide +kernel
theorem rdOf_n (z : ByteArray) (xs : List ByteArray) (i : Nat) : rdOf z xs (i : Int) = xs.getD i z := by unfold rdOf; rw [Int.toNat_natCast]
theorem l1_step (k : Nat) (x3 : ByteArray) (b : Bool) (i : Nat) (h : i < PAll.words.length) :
    windlasslaw5_LexNames.l1 (k + 1) x3 b PAll.words i = windlasslaw5_LexNames.l1 k x3 (b && ((PAll.words.getD i ⟨#[]⟩).toList != x3.toList)) PAll.words ((i + 1 : Nat) : Int) := by
  have hw : PAll.words.length ≤ 1000 := by decide
  have h1 : (i : Int) < (PAll.words.length : Int) := by omega
  have h2 : (0 : Int) ≤ (i : Int) := by omega
  rw [windlasslaw5_LexNames.l1, if_pos h1, if_pos h2, if_pos h2, w1 i (by omega), rdOf_n, show ByteArray.empty = (⟨#[]⟩ : ByteArray) from rfl]
  have hn : lex_Name.f (PAll.words.getD i ⟨#[]⟩) = some false := by unfold lex_Name.f; rw [words_no i h]
  by_cases h0 : 0 < i
  · have h3 : (i : Int) > 0 := by omega
    rw [if_pos h3, if_pos h3, w2 i (by omega) h0, rdOf_n, words_up i h h0]
    have h4 : (0 : Int) ≤ ((i - 1 : Nat) : Int) := by omega
    have h5 : ((i - 1 : Nat) : Int) < (PAll.words.length : Int) := by omega
    simp only [if_pos h4, if_pos h5, hn, Option.bind_some]
    cases b <;> simp
  · have h3 : ¬ (i : Int) > 0 := by omega
    rw [if_neg h3, if_neg h3]
    simp only [hn, Option.bind_some]
    cases b <;> simp
theorem l1_run (x3 : ByteArray) : ∀ (n k i : Nat) (b : Bool), i + n = PAll.words.length → n < k →
    windlasslaw5_LexNames.l1 k x3 b PAll.words i = some (nm (by' x3) == (b && (PAll.words.drop i).all (fun x => x.toList != x3.toList)))
  | 0, k, i, b, hi, hk => by
    obtain ⟨k', rfl⟩ : ∃ k', k = k' + 1 := ⟨k - 1, by omega⟩
    have h1 : ¬ (i : Int) < (PAll.words.length : Int) := by omega
    rw [windlasslaw5_LexNames.l1, if_neg h1, List.drop_eq_nil_of_le (by omega)]
    simp [lex_Name.f]
  | n + 1, k, i, b, hi, hk => by
    obtain ⟨k1, rfl⟩ : ∃ k', k = k' + 1 := ⟨k - 1, by omega⟩
    have hlt : i < PAll.words.length := by omega
    rw [l1_step k1 x3 b i hlt, l1_run x3 n k1 (i + 1) _ (by omega) (by omega), List.drop_eq_getElem_cons hlt, List.all_cons, Bool.and_assoc]
    have : PAll.words.getD i ⟨#[]⟩ = PAll.words[i] := by simp [List.getD_eq_getElem?_getD, hlt]
    rw [this]
theorem wf_u8 {y : Int} (h : (Lit.int .u8 y).wf = true) : 0 ≤ y ∧ y < 256 := by
  simp [Lit.wf, IntKind.min, IntKind.max, IntKind.signed, IntKind.bits] at h
  omega
theorem u8_back {y : Int} (h : 0 ≤ y ∧ y < 256) : (((UInt8.ofNat y.toNat).toNat : Nat) : Int) = y := by
  have : (UInt8.ofNat y.toNat).toNat = y.toNat := by simp; omega
  rw [this]; omega
theorem runL_all (pr : Int → Bool) : ∀ l : List UInt8, (runL pr l == l.length) = l.all (fun c => pr (c.toNat : Int))
  | [] => rfl
  | c :: l => by
    have ih := runL_all pr l
    unfold runL
    by_cases h : pr (c.toNat : Int) = true
    · rw [if_pos h, List.all_cons, h, Bool.true_and, ← ih, List.length_cons]
      by_cases e : runL pr l = l.length
      · rw [beq_iff_eq.2 e, beq_iff_eq.2 (by omega)]
      · rw [beq_eq_false_iff_ne.2 e, beq_eq_false_iff_ne.2 (by omega)]
    · rw [if_neg h, List.all_cons, Bool.eq_false_iff.2 h, Bool.false_and, beq_eq_false_iff_ne, List.length_cons]
      omega
theorem okAll_s : ∀ (l : List Int) (i : Nat), 0 < i → (∀ y ∈ l, 0 ≤ y ∧ y < 256) → okAll i l = (l.map fun n => UInt8.ofNat n.toNat).all (fun c => pLD (c.toNat : Int))
  | [], _, _, _ => rfl
  | v :: r, i, h, hv => by
    rw [okAll, List.map_cons, List.all_cons, okAll_s r (i + 1) (by omega) (fun y hy => hv y (List.mem_cons_of_mem _ hy)), u8_back (hv v List.mem_cons_self)]
    unfold okv pLD
    rw [decide_eq_true h, Bool.true_and]
theorem toList_ne (x y : ByteArray) : (x.toList != y.toList) = !decide (x = y) := by
  rw [Lib.toList_data, Lib.toList_data]
  by_cases h : x = y
  · subst h; simp
  · have h2 : x.data.toList ≠ y.data.toList := fun e => h (by cases x; cases y; simp at e; rw [e])
    rw [decide_eq_false h]
    simpa using h2
theorem words_all (s : ByteArray) : PAll.words.all (fun x => x.toList != s.toList) = !Lib.containsS PAll.words s := by
  cases h : Lib.containsS PAll.words s with
  | true =>
    have := (Lib.containsS_iff _ _).1 h
    rw [Bool.not_true, List.all_eq_false]
    exact ⟨s, this, by simp⟩
  | false =>
    rw [Bool.not_false, List.all_eq_true]
    intro x hx
    rw [toList_ne]
    have : x ≠ s := fun e => by subst e; rw [(Lib.containsS_iff _ _).2 hx] at h; cases h
    rw [decide_eq_false this]; rfl
theorem nm_all (x0 : List Int) (hv : ∀ y ∈ x0, 0 ≤ y ∧ y < 256) :
    nm (by' (strOfNums x0)) = ((decide (1 ≤ x0.length) && decide (x0.length ≤ 20) && okAll 0 x0) && PAll.words.all (fun x => x.toList != (strOfNums x0).toList)) := by
  rw [words_all]
  have hb : by' (strOfNums x0) = x0.map fun n => UInt8.ofNat n.toNat := rfl
  cases x0 with
  | nil => rfl
  | cons v r =>
    rw [hb, List.map_cons]
    have hrl : ((r.map fun n => UInt8.ofNat n.toNat).length) = r.length := List.length_map _
    have e1 : nm (UInt8.ofNat v.toNat :: r.map fun n => UInt8.ofNat n.toNat) = (decide ((r.map fun n => UInt8.ofNat n.toNat).length + 1 ≤ 20) && pL (UInt8.ofNat v.toNat).toNat && (runL pLD (UInt8.ofNat v.toNat :: r.map fun n => UInt8.ofNat n.toNat) == (r.map fun n => UInt8.ofNat n.toNat).length + 1) && !isWord (UInt8.ofNat v.toNat :: r.map fun n => UInt8.ofNat n.toNat)) := rfl
    have e2 := runL_all pLD (UInt8.ofNat v.toNat :: r.map fun n => UInt8.ofNat n.toNat)
    rw [List.length_cons] at e2
    have e3 : isWord (UInt8.ofNat v.toNat :: r.map fun n => UInt8.ofNat n.toNat) = Lib.containsS PAll.words (strOfNums (v :: r)) := rfl
    rw [e1, e2, e3, hrl, List.all_cons, u8_back (hv v List.mem_cons_self), okAll, okAll_s r 1 (by omega) (fun y hy => hv y (List.mem_cons_of_mem _ hy))]
    have e4 : okv 0 v = pL v := by unfold okv; simp
    have e5 : pLD v = (pL v || pD v) := rfl
    rw [e4, e5, List.length_cons, decide_eq_true (by omega : 1 ≤ r.length + 1), Bool.true_and]
    cases pL v <;> simp
theorem LexNames : windlasslaw5_LexNames.Pure := by
  rintro x0 ⟨_, _, hv⟩
  have hv' : ∀ y ∈ x0, 0 ≤ y ∧ y < 256 := fun y hy => wf_u8 (hv y hy)
  refine ⟨x0.length + PAll.words.length + 10, ?_⟩
  unfold windlasslaw5_LexNames.f windlasslaw5_known.f
  rw [Option.bind_some, if_pos rfl]
  by_cases h : (x0.length : Int) > 40
  · rw [if_pos h]
  · rw [if_neg h]
    have key : ∀ b : Bool, b = (decide (1 ≤ x0.length) && decide (x0.length ≤ 20)) → windlasslaw5_LexNames.j0 (x0.length + PAll.words.length + 10) x0 (strOfNums x0) b = some true := by
      intro b hb
      rw [windlasslaw5_LexNames.j0]
      obtain ⟨k', h1, h2⟩ := l0_run x0 (strOfNums x0) (by omega) x0.length (x0.length + PAll.words.length + 9) 0 b (by omega) (by omega)
      have h2' : windlasslaw5_LexNames.l0 (x0.length + PAll.words.length + 9) x0 (strOfNums x0) b 0 = _ := h2
      rw [h2']
      have h3 := l1_run (strOfNums x0) PAll.words.length k' 0 (b && okAll 0 (x0.drop 0)) (by omega) (by omega)
      have h3' : windlasslaw5_LexNames.l1 k' (strOfNums x0) (b && okAll 0 (x0.drop 0)) PAll.words 0 = _ := h3
      rw [h3', nm_all x0 hv', List.drop_zero, List.drop_zero, hb]
      simp
    by_cases h1 : (x0.length : Int) ≥ 1
    · rw [if_pos h1]
      refine key _ ?_
      rw [decide_eq_true (by omega : 1 ≤ x0.length), Bool.true_and]
      exact decide_eq_decide.2 (by omega)
    · rw [if_neg h1]
      refine key _ ?_
      rw [decide_eq_false (by omega : ¬ 1 ≤ x0.length), Bool.false_and]
end Go.Proofs.YthnehdimjadliaaDoor.Pure
