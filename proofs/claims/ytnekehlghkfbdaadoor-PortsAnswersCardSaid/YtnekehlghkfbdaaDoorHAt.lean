import Derived.Test.YtnekehlghkfbdaaDoorHAsk
/- Elements of rows; what a service tells and keeps. -/
namespace Go.Proofs.YtnekehlghkfbdaaDoor.PAll
open Go Go.Proofs Go.RowKit Go.Shelf Go.Proofs.YtnekehlghkfbdaaDoorW.PrintWords Go.Proofs.YtnekehlghkfbdaaDoorW.PrintLast Go.Proofs.YtnekehlghkfbdaaDoorW.PrintMore Go.Proofs.YtnekehlghkfbdaaDoor.Bx
set_option linter.unusedVariables false
set_option linter.unusedSimpArgs false
theorem at_c {w : World} {A : Option Addr} {n : Nat} {xs : List S33} (h : Kd.C k33 w A n xs) (j : Nat) (p : S33) (hp : xs[j]? = some p) : ∃ ad, A = some ad ∧ w.cell? (ad.add (j * 4)) = some (.int .i64 p.f0) ∧ w.cell? ⟨(ad.add (j * 4)).block, (ad.add (j * 4)).off + 1, none⟩ = some (.int .i64 p.f1) ∧ w.cell? ⟨(ad.add (j * 4)).block, (ad.add (j * 4)).off + 2, none⟩ = some (.string p.f2) ∧ w.cell? ⟨(ad.add (j * 4)).block, (ad.add (j * 4)).off + 3, none⟩ = some (.string p.f3) := by
  obtain ⟨hj, he⟩ := List.getElem?_eq_some_iff.1 hp
  have hl : xs.length = n := h.1
  obtain ⟨ad, e, h0, h1, h2, h3⟩ := at_T33 h (j : Int) (by omega) (by omega)
  have hr : rd_T33 xs (j : Int) = p := by unfold rd_T33; simp [List.getD_eq_getElem?_getD, hp]
  rw [hr] at h0 h1 h2 h3
  simp only [Int.toNat_natCast] at h0 h1 h2 h3
  exact ⟨ad, e, h0, h1, h2, h3⟩
theorem at_s {w : World} {A : Option Addr} {n : Nat} {xs : List ByteArray} (h : Kd.C Kd.string w A n xs) (j : Nat) (p : ByteArray) (hp : xs[j]? = some p) : ∃ ad, A = some ad ∧ w.cell? (ad.add j) = some (.string p) := by
  obtain ⟨hj, he⟩ := List.getElem?_eq_some_iff.1 hp
  have hl : xs.length = n := h.1
  obtain ⟨ad, c, e, _, hK, hc0⟩ := Kd.C_get h ⟨#[]⟩ (j : Int) (by omega) (by omega)
  have hr : xs.getD (j : Int).toNat ⟨#[]⟩ = p := by simp [List.getD_eq_getElem?_getD, hp]
  rw [hr] at hK
  have hK' : c = [.string p] := hK
  subst hK'
  have := hc0 0 _ rfl
  have hz : j * Kd.string.sz + 0 = j := Nat.mul_one j
  rw [Int.toNat_natCast, hz] at this
  exact ⟨ad, e, this⟩
def keyOf' (c : S33) : Int × Int := (c.f0, c.f1)
def askA (D : List (S33 × ByteArray)) (c : S33) : ByteArray := match look (c.f0, c.f1) (mapL D) with
  | some a => a
  | none => ansOf c D.length
def askD (D : List (S33 × ByteArray)) (c : S33) : List (S33 × ByteArray) := match look (c.f0, c.f1) (mapL D) with
  | some _ => D
  | none => D ++ [(c, ansOf c D.length)]
theorem look_take (k : Int × Int) : ∀ (D : List (S33 × ByteArray)) (j : Nat) (p : S33 × ByteArray), D[j]? = some p → look k (mapL (D.take j)) = none → (k.1 == p.1.f0 && k.2 == p.1.f1) = true → look k (mapL D) = some p.2
  | [], j, p, h, _, _ => by simp at h
  | q :: D, 0, p, h, _, hk => by
    simp only [List.getElem?_cons_zero, Option.some.injEq] at h
    subst h
    show (if _ then _ else _) = _
    rw [if_pos hk]
  | q :: D, j + 1, p, h, hn, hk => by
    simp only [List.getElem?_cons_succ] at h
    have hn' : (if (k.1 == q.1.f0 && k.2 == q.1.f1) = true then some q.2 else look k (mapL (D.take j))) = none := hn
    show (if (k.1 == q.1.f0 && k.2 == q.1.f1) = true then some q.2 else look k (mapL D)) = some p.2
    split at hn'
    · cases hn'
    · rename_i hq
      rw [if_neg hq]
      exact look_take k D j p h hn' hk
theorem look_next (k : Int × Int) : ∀ (D : List (S33 × ByteArray)) (j : Nat) (p : S33 × ByteArray), D[j]? = some p → look k (mapL (D.take j)) = none → (k.1 == p.1.f0 && k.2 == p.1.f1) = false → look k (mapL (D.take (j + 1))) = none
  | [], j, p, h, _, _ => by simp at h
  | q :: D, 0, p, h, _, hk => by
    simp only [List.getElem?_cons_zero, Option.some.injEq] at h
    subst h
    show (if (k.1 == q.1.f0 && k.2 == q.1.f1) = true then some q.2 else look k (mapL (D.take 0))) = none
    rw [hk]
    rfl
  | q :: D, j + 1, p, h, hn, hk => by
    simp only [List.getElem?_cons_succ] at h
    have hn' : (if (k.1 == q.1.f0 && k.2 == q.1.f1) = true then some q.2 else look k (mapL (D.take j))) = none := hn
    show (if (k.1 == q.1.f0 && k.2 == q.1.f1) = true then some q.2 else look k (mapL (D.take (j + 1)))) = none
    split at hn'
    · cases hn'
    · rename_i hq
      rw [if_neg hq]
      exact look_next k D j p h hn' hk
theorem beq_false_of {a b : Int} (h : (a == b) = false) : (b == a) = false := by
  have := beq_eq_false_iff_ne.1 h
  exact beq_eq_false_iff_ne.2 (Ne.symm this)
theorem wrap_j (j : Nat) (h : j ≤ 100000) : wrap64 ((j : Int) + 1) = ((j + 1 : Nat) : Int) := by unfold wrap64; omega
theorem mapL_add (D : List (S33 × ByteArray)) (c : S33) (a : ByteArray) : mapL (D ++ [(c, a)]) = mapL D ++ [((c.f0, c.f1), a)] := by simp [mapL]
theorem callsL_add (D : List (S33 × ByteArray)) (c : S33) (a : ByteArray) : callsL (D ++ [(c, a)]) = callsL D ++ [c] := by simp [callsL]
theorem textsL_add (D : List (S33 × ByteArray)) (c : S33) (a : ByteArray) : textsL (D ++ [(c, a)]) = textsL D ++ [a] := by simp [textsL]
theorem callsL_length (D : List (S33 × ByteArray)) : (callsL D).length = D.length := by simp [callsL]
theorem askD_length (D : List (S33 × ByteArray)) (c : S33) : (askD D c).length ≤ D.length + 1 := by
  unfold askD
  split <;> simp
section
variable {w W : World} {bs : List Bx} {ms : ML} {cl : CL} {tl : TL} {s B : Nat} {v : Value}
theorem c_ask {DL : List (S33 × ByteArray)} (c : S33) (h : Pv w W ((s, #[.map (some B), v], 44) :: bs) ((B, mapL DL) :: ms) ((v, callsL DL) :: cl) tl) (hD : DL.length ≤ 1000) (hs : small c) (ht : TAB w) :
    Calls Tryd.prog 9 #[.pointer (some ⟨s, 0, none⟩), cellsOf c] W fun e W' => e = .returned (.string (askA DL c)) ∧ ∃ v', Pv w W' ((s, #[.map (some B), v'], 44) :: bs) ((B, mapL (askD DL c)) :: ms) ((v', callsL (askD DL c)) :: cl) tl := by
  unfold askA askD
  cases hl : look (c.f0, c.f1) (mapL DL) with
  | some a => exact (ask_old c a h hl).mono fun e W' he => ⟨he.1, _, he.2⟩
  | none =>
    refine (ask_new c h hl (by rw [callsL_length]; exact hD) hs ht).mono fun e W' he => ?_
    rw [callsL_length] at he
    refine ⟨he.1, ?_⟩
    simp only [mapL_add, callsL_add]
    exact he.2
end
end Go.Proofs.YtnekehlghkfbdaaDoor.PAll
