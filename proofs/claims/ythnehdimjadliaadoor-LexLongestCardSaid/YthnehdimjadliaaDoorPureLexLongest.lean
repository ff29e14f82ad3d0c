import Derived.Test.YthnehdimjadliaaDoorPAllx13
import Derived.Test.YthnehdimjadliaaDoorHLexP
/- The plain law of LexLongest. -/
namespace Go.Proofs.YthnehdimjadliaaDoor.Pure
open Go Go.Proofs Go.RowKit Go.Proofs.YthnehdimjadliaaDoor.PAll Go.Proofs.YthnehdimjadliaaDoorW.PrintWords Go.Proofs.YthnehdimjadliaaDoorW.PrintLast
set_option linter.unusedVariables false
def sg20 : List UInt8 := [123, 125, 40, 41, 91, 93, 44, 59, 58, 46, 61, 60, 62, 43, 45, 42, 47, 37, 38, 33]
/-- are these two bytes one sign -/
def pr (c d : UInt8) : Bool := (d == 61 && (c == 61 || c == 33 || c == 60 || c == 62)) || (d == 37 && (c == 43 || c == 45 || c == 42)) || (d == 62 && c == 45)
/-- does a text that begins with c, and goes on with d, begin with x -/
def hp (c : UInt8) (d : Option UInt8) : List UInt8 → Bool
  | [x] => c == x
  | [x, y] => c == x && d == some y
  | _ => false
theorem hp_has (c : UInt8) (r : List UInt8) : ∀ x : List UInt8, 1 ≤ x.length → x.length ≤ 2 → Lib.hasPrefix (c :: r) x = hp c r.head? x
  | [x], _, _ => by simp [Lib.hasPrefix, hp, List.isPrefixOf, Bool.beq_comm]
  | [x, y], _, _ => by
    cases r with
    | nil => simp [Lib.hasPrefix, hp, List.isPrefixOf]
    | cons d r => simp [Lib.hasPrefix, hp, List.isPrefixOf, Bool.beq_comm]
  | [], h, _ => by simp at h
  | _ :: _ :: _ :: _, _, h => by simp at h
theorem signs_len : ∀ x ∈ signs, 1 ≤ (by' x).length ∧ (by' x).length ≤ 2 := by decide +kernel
theorem find_some : ∀ c ∈ sg20, ∀ d : Fin 256, signs.find? (fun x => hp c (some (UInt8.ofNat d)) (by' x)) = if pr c (UInt8.ofNat d) = true then some ⟨#[c, UInt8.ofNat d]⟩ else if c = 33 then none else some ⟨#[c]⟩ := by decide +kernel
theorem find_none : ∀ c ∈ sg20, signs.find? (fun x => hp c none (by' x)) = if c = 33 then none else some ⟨#[c]⟩ := by decide +kernel
theorem plain20 : ∀ c ∈ sg20, ¬ 128 ≤ c.toNat ∧ isB c = false ∧ c ≠ 35 ∧ pL c.toNat = false ∧ pD c.toNat = false ∧ c ≠ 34 := by decide +kernel
theorem find_r (c : UInt8) (hc : c ∈ sg20) (r : List UInt8) : signs.find? (fun x => Lib.hasPrefix (c :: r) (by' x)) = match r with
    | d :: _ => if pr c d = true then some ⟨#[c, d]⟩ else if c = 33 then none else some ⟨#[c]⟩
    | [] => if c = 33 then none else some ⟨#[c]⟩ := by
  have e : signs.find? (fun x => Lib.hasPrefix (c :: r) (by' x)) = signs.find? (fun x => hp c r.head? (by' x)) := by
    rw [← List.head?_filter, ← List.head?_filter]
    congr 1
    apply List.filter_congr
    intro x hx
    exact hp_has c r _ (signs_len x hx).1 (signs_len x hx).2
  rw [e]
  cases r with
  | nil => exact find_none c hc
  | cons d r =>
    have := find_some c hc ⟨d.toNat, d.toNat_lt⟩
    simpa using this
/-- the tokens of a row of signs -/
def G : List S28 → List UInt8 → Nat → Prop
  | [], _, _ => False
  | [t], u, a => u = [] ∧ t = tk 0 [] a
  | t :: t' :: ts, u, a => ∃ c w v, u = c :: (w ++ v) ∧ w.length ≤ 1 ∧ t = ⟨5, ⟨(c :: w).toArray⟩, (a : Int)⟩ ∧ (w = [] → ∀ d v', v = d :: v' → pr c d = false) ∧ G (t' :: ts) v (a + (w.length + 1))
theorem G_cons (ts : List S28) (c : UInt8) (w v : List UInt8) (a : Nat) (hw : w.length ≤ 1) (hn : w = [] → ∀ d v', v = d :: v' → pr c d = false) (h : G ts v (a + (w.length + 1))) : G (⟨5, ⟨(c :: w).toArray⟩, (a : Int)⟩ :: ts) (c :: (w ++ v)) a := by
  cases ts with
  | nil => exact absurd h (by simp [G])
  | cons t' ts => exact ⟨c, w, v, rfl, hw, rfl, hn, h⟩
theorem lex_sg : ∀ (f : Nat) (u : List UInt8) (a : Nat) (acc : List S28), (∀ c ∈ u, c ∈ sg20) → u.length < f →
    (∃ b, lexGo f u a acc = some ([], b, 51) ∧ ∃ p v, u = p ++ 33 :: v ∧ b = a + p.length ∧ ∀ d v', v = d :: v' → d ≠ 61) ∨
    (∃ ts, lexGo f u a acc = some (acc ++ ts, 0, 0) ∧ G ts u a)
  | 0, u, a, acc, _, h => absurd h (by omega)
  | f + 1, [], a, acc, _, _ => .inr ⟨[tk 0 [] a], rfl, rfl, rfl⟩
  | f + 1, c :: r, a, acc, hc, h => by
    obtain ⟨h1, h2, h3, h4, h5, h6⟩ := plain20 c (hc c List.mem_cons_self)
    have h2' : ¬ isB c = true := by rw [h2]; decide
    have h4' : ¬ pL c.toNat = true := by rw [h4]; decide
    have h5' : ¬ pD c.toNat = true := by rw [h5]; decide
    have hf := find_r c (hc c List.mem_cons_self) r
    rw [lexGo, if_neg h1, if_neg h2', if_neg h3, if_neg h4', if_neg h5', if_neg h6, hf]
    have one : (∀ d v', r = d :: v' → pr c d = false) → c ≠ 33 → (∃ b, lexGo f ((c :: r).drop (⟨#[c]⟩ : ByteArray).size) (a + (⟨#[c]⟩ : ByteArray).size) (acc ++ [⟨5, ⟨#[c]⟩, (a : Int)⟩]) = some ([], b, 51) ∧ ∃ p v, c :: r = p ++ 33 :: v ∧ b = a + p.length ∧ ∀ d v', v = d :: v' → d ≠ 61) ∨
        (∃ ts, lexGo f ((c :: r).drop (⟨#[c]⟩ : ByteArray).size) (a + (⟨#[c]⟩ : ByteArray).size) (acc ++ [⟨5, ⟨#[c]⟩, (a : Int)⟩]) = some (acc ++ ts, 0, 0) ∧ G ts (c :: r) a) := by
      intro hp _
      have hz : (⟨#[c]⟩ : ByteArray).size = 1 := rfl
      rw [hz]
      rcases lex_sg f r (a + 1) (acc ++ [⟨5, ⟨#[c]⟩, (a : Int)⟩]) (fun x hx => hc x (List.mem_cons_of_mem _ hx)) (by simp at h; omega) with ⟨b, hb, p, v, hu, hbe, hv⟩ | ⟨ts, ht, hg⟩
      · exact .inl ⟨b, hb, c :: p, v, by rw [hu]; rfl, by rw [hbe, List.length_cons]; omega, hv⟩
      · refine .inr ⟨⟨5, ⟨#[c]⟩, (a : Int)⟩ :: ts, ?_, G_cons ts c [] r a (by simp) (fun _ => hp) hg⟩
        rw [show (c :: r).drop 1 = r from rfl, ht, List.append_assoc]; rfl
    cases r with
    | nil =>
      by_cases h33 : c = 33
      · subst h33
        exact .inl ⟨a, rfl, [], [], rfl, rfl, fun d v' e => by cases e⟩
      · simp only [if_neg h33]
        exact one (fun d v' e => by cases e) h33
    | cons d r' =>
      by_cases hp : pr c d = true
      · simp only [if_pos hp]
        have hz : (⟨#[c, d]⟩ : ByteArray).size = 2 := rfl
        rw [hz]
        rcases lex_sg f r' (a + 2) (acc ++ [⟨5, ⟨#[c, d]⟩, (a : Int)⟩]) (fun x hx => hc x (List.mem_cons_of_mem _ (List.mem_cons_of_mem _ hx))) (by simp at h; omega) with ⟨b, hb, p, v, hu, hbe, hv⟩ | ⟨ts, ht, hg⟩
        · exact .inl ⟨b, hb, c :: d :: p, v, by rw [hu]; rfl, by rw [hbe, List.length_cons, List.length_cons]; omega, hv⟩
        · refine .inr ⟨⟨5, ⟨#[c, d]⟩, (a : Int)⟩ :: ts, ?_, G_cons ts c [d] r' a (by simp) (fun e => by cases e) hg⟩
          rw [show (c :: d :: r').drop 2 = r' from rfl, ht, List.append_assoc]; rfl
      · simp only [if_neg hp]
        by_cases h33 : c = 33
        · subst h33
          refine .inl ⟨a, rfl, [], d :: r', rfl, rfl, fun d1 v' e => ?_⟩
          cases e
          intro e
          subst e
          exact hp (by decide)
        · simp only [if_neg h33]
          exact one (fun d1 v' e => by cases e; exact Bool.eq_false_iff.2 hp) h33
theorem rd_at (pre ts : List S28) (t : S28) : rd_T28 (pre ++ t :: ts) (pre.length : Int) = t := by
  unfold rd_T28
  rw [Int.toNat_natCast, List.getD_eq_getElem?_getD, List.getElem?_append_right (Nat.le_refl _), Nat.sub_self]
  rfl
theorem w1 (i : Nat) (h : i ≤ 100000) : wrap64 ((i : Int) + 1) = ((i + 1 : Nat) : Int) := by unfold wrap64; omega
theorem w2 (i : Nat) (h : i ≤ 100000) : wrap64 ((i : Int) + 2) = ((i + 2 : Nat) : Int) := by unfold wrap64; omega
theorem mk_size (l : List UInt8) : (⟨l.toArray⟩ : ByteArray).size = l.length := rfl
theorem by_mk (l : List UInt8) : by' ⟨l.toArray⟩ = l := rfl
theorem j3_no (k : Nat) (x4 : ByteArray) (T : List S28) (all : ByteArray) (i : Nat) (h : i ≤ 100000) : windlasslaw5_LexLongest.j3 (k + 1) x4 T all i false = windlasslaw5_LexLongest.l1 k x4 T all ((i + 1 : Nat) : Int) := by
  rw [windlasslaw5_LexLongest.j3, if_neg (by decide), w1 i h]
theorem j3_yes (k : Nat) (x4 : ByteArray) (T : List S28) (all : ByteArray) (i : Nat) (h : i + 1 < T.length) (hT : T.length ≤ 100000) (c d : UInt8) (w : List UInt8) (t t' : S28) (h1 : rd_T28 T i = t) (h2 : rd_T28 T ((i + 1 : Nat) : Int) = t') (e1 : t.f1 = ⟨[c].toArray⟩) (e2 : t'.f1 = ⟨(d :: w).toArray⟩) (hp : pr c d = false) : windlasslaw5_LexLongest.j3 (k + 1) x4 T all i true = windlasslaw5_LexLongest.l1 k x4 T all ((i + 1 : Nat) : Int) := by
  have a1 : (0 : Int) ≤ (i : Int) := by omega
  have a2 : (i : Int) < (T.length : Int) := by omega
  have a3 : (0 : Int) ≤ ((i + 1 : Nat) : Int) := by omega
  have a4 : ((i + 1 : Nat) : Int) < (T.length : Int) := by omega
  have a5 : (1 : Int) ≤ ((⟨(d :: w).toArray⟩ : ByteArray).size : Int) := by rw [mk_size, List.length_cons]; omega
  have a6 : (⟨[c].toArray⟩ : ByteArray).size + (⟨[d].toArray⟩ : ByteArray).size ≤ 9223372036854775807 := show 1 + 1 ≤ 9223372036854775807 by decide
  have e3 : (⟨(d :: w).toArray⟩ : ByteArray).extract 0 1 = ⟨[d].toArray⟩ := ba_eq _ _ (by rw [by_ext, by_mk, List.extract_eq_take_drop]; rfl)
  have e4 : ((⟨[c].toArray⟩ : ByteArray) ++ (⟨[d].toArray⟩ : ByteArray)).toList = [c, d] := by rw [Lib.toList_data]; exact by_app _ _
  have hne : ∀ x y, pr x y = true → ¬ ([c, d] : List UInt8) = [x, y] := by
    intro x y hxy e
    cases e
    rw [hp] at hxy; cases hxy
  rw [windlasslaw5_LexLongest.j3, w1 i (by omega), if_pos rfl, if_pos a1, if_pos a2, if_pos a3, if_pos a4, h1, h2, e1, e2, if_pos (by decide), if_pos a5, e3, e4, if_pos a6, if_neg (hne 61 61 (by decide)), if_neg (hne 33 61 (by decide)), if_neg (hne 60 61 (by decide)), if_neg (hne 62 61 (by decide)), if_neg (hne 43 37 (by decide)), if_neg (hne 45 37 (by decide)), if_neg (hne 42 37 (by decide)), if_neg (hne 45 62 (by decide))]
theorem ll_run (x4 : ByteArray) (hx : x4.size ≤ 1000) : ∀ (ts pre : List S28) (k : Nat) (all : ByteArray) (u : List UInt8), G ts u all.size → by' all ++ u = by' x4 → pre.length + ts.length ≤ 2000 → 3 * ts.length < k →
    windlasslaw5_LexLongest.l1 k x4 (pre ++ ts) all (pre.length : Int) = some true
  | [], _, _, _, _, h, _, _, _ => absurd h (by simp [G])
  | [t], pre, k, all, u, hg, hu, hl, hk => by
    obtain ⟨rfl, rfl⟩ := hg
    obtain ⟨k1, rfl⟩ : ∃ k1, k = k1 + 1 := ⟨k - 1, by omega⟩
    simp only [List.length_cons, List.length_nil] at hl
    have c1 : ¬ ((pre.length + 1 : Nat) : Int) < ((pre ++ [tk 0 [] all.size]).length : Int) := by rw [List.length_append]; simp
    rw [windlasslaw5_LexLongest.l1, w1 _ (by omega), if_neg c1]
    rw [List.append_nil] at hu
    rw [Lib.toList_data, Lib.toList_data, show all.data.toList = x4.data.toList from hu]
    simp
  | t :: t' :: ts, pre, k, all, u, hg, hu, hl, hk => by
    obtain ⟨c, w, v, rfl, hw, rfl, hn, hg'⟩ := hg
    obtain ⟨k1, rfl⟩ : ∃ k1, k = k1 + 3 := ⟨k - 3, by simp at hk; omega⟩
    simp only [List.length_cons] at hl hk
    have hL : (pre ++ ⟨5, ⟨(c :: w).toArray⟩, (all.size : Int)⟩ :: t' :: ts).length = pre.length + (ts.length + 2) := by rw [List.length_append]; rfl
    have a1 : ((pre.length + 1 : Nat) : Int) < ((pre ++ ⟨5, ⟨(c :: w).toArray⟩, (all.size : Int)⟩ :: t' :: ts).length : Int) := by rw [hL]; omega
    have a2 : (0 : Int) ≤ (pre.length : Int) := by omega
    have a3 : (pre.length : Int) < ((pre ++ ⟨5, ⟨(c :: w).toArray⟩, (all.size : Int)⟩ :: t' :: ts).length : Int) := by rw [hL]; omega
    have zcw : (⟨(c :: w).toArray⟩ : ByteArray).size = w.length + 1 := rfl
    have ha : all.size ≤ 1000 := by
      have := congrArg List.length hu
      rw [List.length_append, by_size, by_size] at this
      omega
    have a4 : all.size + (⟨(c :: w).toArray⟩ : ByteArray).size ≤ 9223372036854775807 := by rw [zcw]; omega
    have h1 := rd_at pre (t' :: ts) ⟨5, ⟨(c :: w).toArray⟩, (all.size : Int)⟩
    have h2 : rd_T28 (pre ++ ⟨5, ⟨(c :: w).toArray⟩, (all.size : Int)⟩ :: t' :: ts) ((pre.length + 1 : Nat) : Int) = t' := by
      have := rd_at (pre ++ [⟨5, ⟨(c :: w).toArray⟩, (all.size : Int)⟩]) ts t'
      rw [List.length_append, List.append_assoc] at this
      exact this
    have next : windlasslaw5_LexLongest.l1 k1 x4 (pre ++ ⟨5, ⟨(c :: w).toArray⟩, (all.size : Int)⟩ :: t' :: ts) (all ++ (⟨(c :: w).toArray⟩ : ByteArray)) ((pre.length + 1 : Nat) : Int) = some true := by
      have := ll_run x4 hx (t' :: ts) (pre ++ [⟨5, ⟨(c :: w).toArray⟩, (all.size : Int)⟩]) k1 (all ++ (⟨(c :: w).toArray⟩ : ByteArray)) v (by rw [ByteArray.size_append, zcw]; exact hg') (by rw [by_app, by_mk, List.append_assoc]; exact hu) (by simp; omega) (by simp; omega)
      rw [List.length_append, List.append_assoc] at this
      exact this
    generalize hT : pre ++ ⟨5, ⟨(c :: w).toArray⟩, (all.size : Int)⟩ :: t' :: ts = T at *
    have e5 : ((all.size : Int) != (all.size : Int)) = false := by simp
    rw [windlasslaw5_LexLongest.l1, w1 _ (by omega), if_pos a1, if_pos a2, if_pos a3, h1]
    show (if (5 : Int) = 5 then windlasslaw5_LexLongest.j2 (k1 + 2) x4 T all pre.length ((all.size : Int) != (all.size : Int)) else _) = _
    rw [if_pos rfl, e5, windlasslaw5_LexLongest.j2, if_neg (by decide), if_pos a2, if_pos a3, h1]
    show (if all.size + (⟨(c :: w).toArray⟩ : ByteArray).size ≤ 9223372036854775807 then _ else _) = _
    rw [if_pos a4, w2 _ (by omega), hL]
    cases ts with
    | nil =>
      rw [if_neg (by simp), j3_no k1 x4 T _ _ (by omega)]
      exact next
    | cons t2 ts2 =>
      rw [if_pos (by simp; omega)]
      cases w with
      | cons y w2 =>
        have : (((⟨(c :: y :: w2).toArray⟩ : ByteArray).size : Int) == 1) = false := by rw [mk_size]; simp; omega
        show windlasslaw5_LexLongest.j3 (k1 + 1) x4 T _ _ (((⟨(c :: y :: w2).toArray⟩ : ByteArray).size : Int) == 1) = _
        rw [this, j3_no k1 x4 T _ _ (by omega)]
        exact next
      | nil =>
        obtain ⟨d, w', v', rfl, _, rfl, _, _⟩ := hg'
        show windlasslaw5_LexLongest.j3 (k1 + 1) x4 T _ _ (((⟨[c].toArray⟩ : ByteArray).size : Int) == 1) = _
        rw [show (((⟨[c].toArray⟩ : ByteArray).size : Int) == 1) = true from rfl, j3_yes k1 x4 T _ _ (by rw [hL]; simp) (by rw [hL]; simp at hl ⊢; omega) c d w' _ _ h1 h2 rfl rfl (hn rfl d _ rfl)]
        exact next
def sgB : ByteArray := ⟨#[123, 125, 40, 41, 91, 93, 44, 59, 58, 46, 61, 60, 62, 43, 45, 42, 47, 37, 38, 33]⟩
theorem cut20 : ∀ k : Fin 20, ∃ c ∈ sg20, by' (sgB.extract k (k + 1)) = [c] := by
  intro k
  have : ∀ k : Fin 20, (by' (sgB.extract k (k + 1))).length = 1 ∧ ∀ c ∈ by' (sgB.extract k (k + 1)), c ∈ sg20 := by decide +kernel
  obtain ⟨h1, h2⟩ := this k
  cases h : by' (sgB.extract k (k + 1)) with
  | nil => rw [h] at h1; cases h1
  | cons c r =>
    cases r with
    | nil => exact ⟨c, h2 c (by rw [h]; exact List.mem_cons_self), rfl⟩
    | cons d r => rw [h] at h1; simp at h1
theorem ll_end (x4 : ByteArray) (x0 : List Int) (hx : x4.size ≤ 1000) (hc : ∀ c ∈ by' x4, c ∈ sg20) (k i : Nat) (hi : ¬ (i : Int) < (x0.length : Int)) (hk : 3 * 1002 < k) : windlasslaw5_LexLongest.l0 (k + 1) x0 sgB x4 i = some true := by
  rw [windlasslaw5_LexLongest.l0, if_neg hi]
  have hT : lex_Tokens.f x4 = (lexGo (x4.size + 1) (by' x4) 0 []).map (fun r => (r.1, (r.2.1 : Int), r.2.2)) := by unfold lex_Tokens.f; rw [if_pos (by omega)]
  rw [hT]
  rcases lex_sg (x4.size + 1) (by' x4) 0 [] hc (by rw [by_size]; omega) with ⟨b, hb, p, v, hu, hbe, hv⟩ | ⟨ts, ht, hg⟩
  · rw [hb]
    simp only [Option.map_some, Option.bind_some]
    rw [if_neg (by decide), if_pos trivial]
    have hlen := congrArg List.length hu
    rw [by_size, List.length_append, List.length_cons] at hlen
    have c1 : (b : Int) < (x4.size : Int) := by omega
    have hb0 : b = p.length := by omega
    have g : ∀ j (hj : j < x4.size), (x4[j]'hj) = (by' x4)[j]'(by rw [by_size]; exact hj) := fun j hj => rfl
    have e1 : bt x4 (b : Int) = 33 := by
      unfold bt
      rw [Int.toNat_natCast, dif_pos (by omega), g]
      have : (by' x4)[b]'(by rw [by_size]; omega) = 33 := by
        simp only [hu, hb0]
        rw [List.getElem_append_right (Nat.le_refl _)]
        simp
      rw [this]; rfl
    rw [if_pos c1, if_pos (by omega), if_pos e1, w1 b (by omega)]
    by_cases c2 : ((b + 1 : Nat) : Int) = (x4.size : Int)
    · rw [if_pos c2]
    · rw [if_neg c2, if_pos (by omega), if_pos (by omega)]
      cases v with
      | nil => exfalso; simp at hlen; omega
      | cons d v' =>
        have e2 : bt x4 ((b + 1 : Nat) : Int) = (d.toNat : Int) := by
          unfold bt
          rw [Int.toNat_natCast, dif_pos (by omega), g]
          have : (by' x4)[b + 1]'(by rw [by_size]; omega) = d := by
            simp only [hu, hb0]
            rw [List.getElem_append_right (by omega)]
            simp
          rw [this]
        rw [e2]
        have hd := hv d v' rfl
        have : (d.toNat : Int) ≠ 61 := fun e => hd (by have : d.toNat = 61 := by omega
                                                       exact u8_of d 61 this)
        simp [this]
  · rw [ht]
    simp only [Option.map_some, Option.bind_some]
    rw [if_pos trivial]
    have hts : ∀ (ts : List S28) (u : List UInt8) (a : Nat), G ts u a → ts.length ≤ u.length + 1 := by
      intro ts
      induction ts with
      | nil => intro u a _; simp
      | cons t ts ih =>
        intro u a h
        cases ts with
        | nil => simp
        | cons t' ts =>
          obtain ⟨c, w, v, rfl, _, _, _, h⟩ := h
          have := ih v _ h
          simp at this ⊢
          omega
    have hl := hts ts _ _ hg
    rw [by_size] at hl
    exact ll_run x4 hx ts [] k ⟨#[]⟩ (by' x4) hg rfl (by simp; omega) (by omega)
theorem l0_run (x0 : List Int) (hv : ∀ y ∈ x0, 0 ≤ y ∧ y < 256) (h80 : x0.length ≤ 80) : ∀ (n k i : Nat) (x4 : ByteArray), i + n = x0.length → n + 3 * 1002 + 1 < k → x4.size = i → (∀ c ∈ by' x4, c ∈ sg20) →
    windlasslaw5_LexLongest.l0 k x0 sgB x4 i = some true
  | 0, k, i, x4, hi, hk, hz, hc => by
    obtain ⟨k1, rfl⟩ : ∃ k1, k = k1 + 1 := ⟨k - 1, by omega⟩
    exact ll_end x4 x0 (by omega) hc k1 i (by omega) (by omega)
  | n + 1, k, i, x4, hi, hk, hz, hc => by
    obtain ⟨k1, rfl⟩ : ∃ k1, k = k1 + 1 := ⟨k - 1, by omega⟩
    have hlt : i < x0.length := by omega
    have hr : 0 ≤ rd x0 i ∧ rd x0 i < 256 := by
      have : rd x0 i = x0[i] := by unfold rd; simp [List.getD_eq_getElem?_getD, hlt]
      rw [this]
      exact hv _ (List.getElem_mem hlt)
    have e1 : wrap64 (rd x0 i) = rd x0 i := by unfold wrap64; omega
    have sz : (sgB.size : Int) = 20 := rfl
    obtain ⟨m, hm⟩ : ∃ m : Nat, rd x0 i = m := ⟨(rd x0 i).toNat, by omega⟩
    have e2 : Int.tmod (rd x0 i) 20 = ((m % 20 : Nat) : Int) := by rw [hm]; rfl
    have e3 : m % 20 < 20 := Nat.mod_lt _ (by decide)
    obtain ⟨c, hcm, hce⟩ := cut20 ⟨m % 20, e3⟩
    have hce' : by' (sgB.extract (m % 20) (m % 20 + 1)) = [c] := hce
    have zc : (sgB.extract (m % 20) (m % 20 + 1)).size = 1 := by rw [← by_size, hce']; rfl
    rw [windlasslaw5_LexLongest.l0, if_pos (by omega), if_pos (by omega), sz, if_neg (by decide), e1, e2, w1 _ (by omega), if_pos (by omega), if_pos (by omega), if_pos (by omega), Int.toNat_natCast, Int.toNat_natCast, zc, if_pos (by omega), w1 i (by omega)]
    refine l0_run x0 hv h80 n k1 (i + 1) _ (by omega) (by omega) (by rw [ByteArray.size_append, zc, hz]) ?_
    intro d hd
    rw [by_app, hce', List.mem_append] at hd
    rcases hd with hd | hd
    · exact hc d hd
    · rw [List.mem_singleton.1 hd]; exact hcm
theorem wf_u8 {y : Int} (h : (Lit.int .u8 y).wf = true) : 0 ≤ y ∧ y < 256 := by
  simp [Lit.wf, IntKind.min, IntKind.max, IntKind.signed, IntKind.bits] at h
  omega
theorem LexLongest : windlasslaw5_LexLongest.Pure := by
  rintro x0 ⟨_, _, hv⟩
  refine ⟨4000, ?_⟩
  unfold windlasslaw5_LexLongest.f windlasslaw5_known.f
  rw [Option.bind_some, if_pos rfl]
  by_cases h : (x0.length : Int) > 80
  · rw [if_pos h]
  · rw [if_neg h]
    exact l0_run x0 (fun y hy => wf_u8 (hv y hy)) (by omega) x0.length 4000 0 ⟨#[]⟩ (by omega) (by omega) rfl (by intro c hc; cases hc)
end Go.Proofs.YthnehdimjadliaaDoor.Pure
