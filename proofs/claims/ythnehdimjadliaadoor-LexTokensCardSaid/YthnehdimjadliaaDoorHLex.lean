import Derived.Test.YthnehdimjadliaaDoorHAdd
import Derived.Test.YthnehdimjadliaaDoorHBlank
import Derived.Test.YthnehdimjadliaaDoorPAllx2
import Derived.Test.YthnehdimjadliaaDoorPAllx4
import Derived.Test.YthnehdimjadliaaDoorPAllx5
/- What lex.Tokens tells, as a function of a source's bytes. -/
namespace Go.Proofs.YthnehdimjadliaaDoor.PAll
open Go Go.Proofs Go.RowKit Go.Shelf Go.Proofs.YthnehdimjadliaaDoorW.PrintWords Go.Proofs.YthnehdimjadliaaDoorW.PrintLast Go.Proofs.YthnehdimjadliaaDoorW.PrintMore Go.Proofs.YthnehdimjadliaaDoor.Bx
set_option linter.unusedVariables false
set_option linter.unusedSimpArgs false
def words : List ByteArray := lex_Words.f.getD []
theorem words_f : lex_Words.f = some words := rfl
def signs : List ByteArray := lex_signs.f.getD []
theorem signs_f : lex_signs.f = some signs := rfl
def tk (k : Int) (t : List UInt8) (a : Nat) : S28 := ⟨k, ⟨t.toArray⟩, (a : Int)⟩
def isB (c : UInt8) : Bool := c == 32 || c == 9 || c == 10 || c == 13
def isWord (t : List UInt8) : Bool := Lib.containsS words ⟨t.toArray⟩
def digits (l : List UInt8) : List UInt8 := Lib.trimLeftB (l.take (runL pD l - 1)) 48 ++ (l.drop (runL pD l - 1)).take 1
def lexGo : Nat → List UInt8 → Nat → List S28 → Option (List S28 × Nat × Int)
  | 0, _, _, _ => none
  | f + 1, [], a, acc => some (acc ++ [tk 0 [] a], 0, 0)
  | f + 1, c :: r, a, acc =>
    if isB c = true then lexGo f r (a + 1) acc
    else if c = 35 then (if Lib.indexByte (c :: r) 10 = -1 then some (acc ++ [tk 0 [] (a + (r.length + 1))], 0, 0) else lexGo f ((c :: r).drop (Lib.indexByte (c :: r) 10).toNat) (a + (Lib.indexByte (c :: r) 10).toNat) acc)
    else if pL c.toNat = true then lexGo f ((c :: r).drop (runL pLD (c :: r))) (a + runL pLD (c :: r)) (acc ++ [tk (if isWord ((c :: r).take (runL pLD (c :: r))) = true then 2 else 1) ((c :: r).take (runL pLD (c :: r))) a])
    else if pD c.toNat = true then lexGo f ((c :: r).drop (runL pD (c :: r))) (a + runL pD (c :: r)) (acc ++ [tk 3 (digits (c :: r)) a])
    else if c = 34 then (match qt r with
      | none => some ([], a, 52)
      | some p => lexGo f (r.drop p.2) (a + (p.2 + 1)) (acc ++ [tk 4 p.1 a]))
    else match signs.find? (fun x => Lib.hasPrefix (c :: r) (by' x)) with
      | none => some ([], a, 51)
      | some x => lexGo f ((c :: r).drop x.size) (a + x.size) (acc ++ [⟨5, x, (a : Int)⟩])
theorem blank_ix (c : UInt8) (h : c.toNat < 128) : decide (0 ≤ Lib.indexByte [32, 9, 10, 13] c) = isB c := by
  have : ∀ v : Fin 128, decide (0 ≤ Lib.indexByte [32, 9, 10, 13] (UInt8.ofNat v)) = isB (UInt8.ofNat v) := by decide +kernel
  have e := this ⟨c.toNat, h⟩
  simpa using e
theorem hi_B (c : UInt8) (h : ¬ c.toNat < 128) : isB c = false := by
  have : ∀ v : Fin 256, ¬ v.val < 128 → isB (UInt8.ofNat v) = false := by decide +kernel
  simpa using this ⟨c.toNat, c.toNat_lt⟩ h
theorem blank_calls (c : UInt8) (w : World) : Calls Tryd.prog 21 #[.string ⟨#[32, 9, 10, 13]⟩, .int .i32 (c.toNat : Int)] w fun e w' => e = .returned (.bool (isB c)) ∧ Below w.heap.size w w' := by
  by_cases h : c.toNat < 128
  · refine (Any.strings_ContainsRune_ascii Tryd.lays151 _ (c.toNat : Int) w (by omega) (by omega)).mono ?_
    rintro e w' ⟨rfl, rfl⟩
    have e1 : ((c.toNat : Int)).toNat.toUInt8 = c := by simp
    rw [e1]
    refine ⟨?_, Below.refl _ _⟩
    rw [← blank_ix c h]
  · rw [hi_B c h]
    exact cr_high _ w (by omega) (by have := c.toNat_lt; omega)
theorem trim_calls (s : ByteArray) (w : World) : Calls Tryd.prog 28 #[.string s, .string ⟨#[48]⟩] w fun e w' => e = .returned (.string ⟨(Lib.trimLeftB (by' s) 48).toArray⟩) ∧ w' = w :=
  Any.strings_TrimLeft_one Tryd.lays161 s 48 (by decide) w
theorem pre_calls (s p : ByteArray) (w : World) : Calls Tryd.prog 31 #[.string s, .string p] w fun e w' => e = .returned (.bool (Lib.hasPrefix (by' s) (by' p))) ∧ w' = w :=
  Any.strings_HasPrefix Tryd.lays99 s p w
theorem at_s {w : World} {A : Option Addr} {n : Nat} {xs : List ByteArray} (h : Kd.C Kd.string w A n xs) (j : Nat) (p : ByteArray) (hp : xs[j]? = some p) : ∃ ad, A = some ad ∧ w.cell? (ad.add j) = some (.string p) := by
  obtain ⟨hj, he⟩ := List.getElem?_eq_some_iff.1 hp
  have hl : xs.length = n := h.1
  obtain ⟨ad, c, e, _, hK, hc0⟩ := Kd.C_get h ⟨#[]⟩ (j : Int) (by omega) (by omega)
  have hr : xs.getD (j : Int).toNat ⟨#[]⟩ = p := by simp [List.getD_eq_getElem?_getD, hp]
  rw [hr] at hK
  have hK' : c = [.string p] := hK
  subst hK'
  have := hc0 0 _ rfl
  have hz : j * Kd.string.sz + 0 = j := Nat.mul_one j
  rw [Int.toNat_natCast, hz] at this
  exact ⟨ad, e, this⟩
section
variable {w W : World} {bs : List Bx} {cl : CL} {tl : TL}
theorem Pw.word (h : Pw w W bs cl tl) (i : Nat) {A : Option Addr} {n c : Nat} (hi : tl[i]? = some (.slice A n c, words)) (x : ByteArray) :
    Calls Tryd.prog 27 #[.slice A n c, .string x] W fun e W' => e = .returned (.bool (Lib.containsS words x)) ∧ W' = W := by
  obtain ⟨rfl, hc, hC⟩ := Kd.N_reads' (h.rt i hi)
  have hne : 0 < words.length := by decide
  obtain ⟨ad, rfl, _⟩ := at_s hC 0 _ (List.getElem?_eq_getElem hne)
  obtain ⟨g, cap, e, _⟩ := Kd.N_form (h.rt i hi) hne
  cases e
  refine (Any.slices_Contains_string Tryd.lays110 g 0 words.length c words x W (Nat.le_refl _) (by decide) (fun j hj => ?_)).mono fun e w' he => ?_
  · obtain ⟨ad, e, hcell⟩ := at_s hC j _ (List.getElem?_eq_getElem hj)
    cases e
    rw [List.getD_eq_getElem?_getD, List.getElem?_eq_getElem hj, Option.getD_some, ← hcell]
    unfold Addr.add
    split <;> simp_all
  · rw [List.take_length] at he
    exact he
theorem Pw.addT (h : Pw w W bs cl tl) {W1 : World} {v1 : Value} {ys : List ByteArray} {ok : Nat → Prop} {base : Nat} (hbase : w.heap.size ≤ base) (hN : Kd.N Kd.string 9 W1 base ok v1 ys) (hb : Below W.heap.size W W1) (hat : v1.ownBlock = none ∨ ∃ b, v1.ownBlock = some b ∧ W.heap.size ≤ b) : Pw w W1 bs cl ((v1, ys) :: tl) :=
  have hc := h.call hb
  ⟨hc.env, hc.cs, h.ts.add flatS (fun b hb => h.env.mem hb) hbase hN hb hat⟩
theorem Pw.words (h : Pw w W bs cl tl) : Calls Tryd.prog 15 #[] W fun e W' => ∃ A n c, e = .returned (.slice A n c) ∧ Pw w W' bs cl ((.slice A n c, PAll.words) :: tl) := by
  refine (lex_Words.calls PAll.words W words_f).mono ?_
  rintro e W' ⟨v, rfl, hR, hb⟩
  have hN := Kd.R_N hR
  obtain ⟨A, c, rfl⟩ := Kd.N_slice hN
  refine ⟨A, _, c, rfl, h.addT h.size hN hb ?_⟩
  rcases Kd.N_base2 hN with h | ⟨k, h, hk⟩
  · exact .inl h
  · exact .inr ⟨k, h, hk⟩
theorem Pw.signs (h : Pw w W bs cl tl) : Calls Tryd.prog 30 #[] W fun e W' => ∃ A n c, e = .returned (.slice A n c) ∧ Pw w W' bs cl ((.slice A n c, PAll.signs) :: tl) := by
  refine (lex_signs.calls PAll.signs W signs_f).mono ?_
  rintro e W' ⟨v, rfl, hR, hb⟩
  have hN := Kd.R_N hR
  obtain ⟨A, c, rfl⟩ := Kd.N_slice hN
  refine ⟨A, _, c, rfl, h.addT h.size hN hb ?_⟩
  rcases Kd.N_base2 hN with h | ⟨k, h, hk⟩
  · exact .inl h
  · exact .inr ⟨k, h, hk⟩
end
end Go.Proofs.YthnehdimjadliaaDoor.PAll
