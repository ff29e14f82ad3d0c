import Derived.Test.YthnehdimjadliaaDoorHRun
/- The sign that stands at a place (the document's). -/
namespace Go.Proofs.YthnehdimjadliaaDoor.PAll
open Go Go.Proofs Go.RowKit Go.Shelf Go.Proofs.YthnehdimjadliaaDoorW.PrintWords Go.Proofs.YthnehdimjadliaaDoorW.PrintLast Go.Proofs.YthnehdimjadliaaDoorW.PrintMore
attribute [local go_sem] Oper.semAt_some
set_option linter.unusedVariables false
set_option linter.unusedSimpArgs false
def one19 : List Int := [123, 125, 40, 41, 91, 93, 44, 59, 58, 46, 61, 60, 62, 43, 45, 42, 47, 37, 38]
def sgn1 (s : ByteArray) (a : Nat) : ByteArray := if one19.contains (bt s a) = true then s.extract a (a + 1) else ⟨#[]⟩
def two8 : List ByteArray := [⟨#[61, 61]⟩, ⟨#[33, 61]⟩, ⟨#[60, 61]⟩, ⟨#[62, 61]⟩, ⟨#[43, 37]⟩, ⟨#[45, 37]⟩, ⟨#[42, 37]⟩, ⟨#[45, 62]⟩]
set_option maxHeartbeats 8000000 in
set_option maxRecDepth 100000 in
theorem sign_one (s : ByteArray) (a : Nat) (w : World) (ha : a < s.size) (hs : s.size ≤ 5000) (h1 : ¬ a + 1 < s.size) :
    Calls Tryd.prog 37 #[.string s, .int .i64 (a : Int)] w fun e w' => e = .returned (.string (sgn1 s a)) ∧ Below w.heap.size w w' := by
  have HA := Aside0.mk ha
  have e1 : wrap64 ((a : Int) + 1) = ((a + 1 : Nat) : Int) := by unfold wrap64; omega
  have e2 : decide ((a : Int) + 1 < (s.size : Int)) = false := decide_eq_false (by omega)
  have hb : bt s (a : Int) = ((s[a]'ha).toNat : Int) := by unfold bt; simp only [Int.toNat_natCast, ha, dite_true]
  have HBT := Aside0.mk hb
  clear hb
  obtain ⟨t, ht⟩ : ∃ t, t = sgn1 s a := ⟨_, rfl⟩
  rw [← ht]
  have HT := Aside0.mk ht
  have f1 : (0 : Int) ≤ (a : Int) := by omega
  have f2 : (a : Int) ≤ (a : Int) + 1 := by omega
  have f3 : (a : Int) + 1 ≤ (s.size : Int) := by omega
  have f4 : ((a : Int) + 1).toNat = a + 1 := by omega
  clear ht h1
  go_enter Tryd.func37, Tryd.ntmps37
  go_wp2
  all_goals
    go_ret
    refine ⟨?_, Below.refl _ _⟩
    rw [HT.out]
    unfold sgn1
    rw [HBT.out]
    clear HT HBT HA
    generalize (s[a]'ha).toNat = v at *
    simp_all [one19]
set_option maxHeartbeats 8000000 in
set_option maxRecDepth 100000 in
theorem sign_two (s : ByteArray) (a : Nat) (w : World) (ha : a + 1 < s.size) (hs : s.size ≤ 5000) :
    Calls Tryd.prog 37 #[.string s, .int .i64 (a : Int)] w fun e w' => e = .returned (.string (if two8.any (fun x => decide (x = s.extract a (a + 2))) = true then s.extract a (a + 2) else sgn1 s a)) ∧ Below w.heap.size w w' := by
  have HA := Aside0.mk ha
  have ha0 : a < s.size := by omega
  have e2 : decide ((a : Int) + 1 < (s.size : Int)) = true := decide_eq_true (by omega)
  have f1 : (0 : Int) ≤ (a : Int) := by omega
  have f2 : (a : Int) ≤ (a : Int) + 2 := by omega
  have f3 : (a : Int) + 2 ≤ (s.size : Int) := by omega
  have f4 : ((a : Int) + 2).toNat = a + 2 := by omega
  have hb : bt s (a : Int) = ((s[a]'ha0).toNat : Int) := by unfold bt; simp only [Int.toNat_natCast, ha0, dite_true]
  have HBT := Aside0.mk hb
  clear hb
  obtain ⟨t, ht⟩ : ∃ t, t = (if two8.any (fun x => decide (x = s.extract a (a + 2))) = true then s.extract a (a + 2) else sgn1 s a) := ⟨_, rfl⟩
  rw [← ht]
  have HT := Aside0.mk ht
  clear ht
  go_enter Tryd.func37, Tryd.ntmps37
  go_wp2
  obtain ⟨w1, hw1⟩ : ∃ w1, w1 = w.alloc (Obj.cells #[.string ⟨#[61, 61]⟩, .string ⟨#[33, 61]⟩, .string ⟨#[60, 61]⟩, .string ⟨#[62, 61]⟩, .string ⟨#[43, 37]⟩, .string ⟨#[45, 37]⟩, .string ⟨#[42, 37]⟩, .string ⟨#[45, 62]⟩] 69) := ⟨_, rfl⟩
  have HC : ∀ j x, two8[j]? = some x → w1.cell? ⟨w.heap.size, j, none⟩ = some (.string x) := by
    intro j x hj
    have hlt : j < 8 := by
      have := (List.getElem?_eq_some_iff.1 hj).1
      exact this
    rw [hw1, World.cell?_alloc_new]
    have : j = 0 ∨ j = 1 ∨ j = 2 ∨ j = 3 ∨ j = 4 ∨ j = 5 ∨ j = 6 ∨ j = 7 := by omega
    rcases this with rfl | rfl | rfl | rfl | rfl | rfl | rfl | rfl <;> (cases hj; rfl)
  have HB : Below w.heap.size w w1 := by rw [hw1]; exact (Below.refl _ _).alloc (Nat.le_refl _) _
  rw [← hw1]
  have HCA := Aside0.mk HC
  have HBA := Aside0.mk HB
  clear HC HB hw1
  go_loopg [7] 9 (fun kq v7 w' => ∃ (j : Nat), v7 = .int .i64 (j : Int) ∧ Aside0 (j ≤ 8) ∧ Aside0 (kq + j = 9) ∧ w' = w1 ∧ Aside0 (∀ i y, i < j → two8[i]? = some y → y ≠ s.extract a (a + 2)))
  case atStart => exact ⟨0, rfl, ⟨Nat.zero_le _⟩, ⟨rfl⟩, rfl, ⟨fun i y hi _ => absurd hi (Nat.not_lt_zero _)⟩⟩
  case round =>
    obtain ⟨j, rfl, HJ, HK, rfl, HN⟩ := hrel
    cases gk with
    | zero => exact absurd HK.out (by have := HJ.out; omega)
    | succ k2 =>
      by_cases hj : j < 8
      case pos =>
        have j1 : decide ((j : Int) < 8) = true := decide_eq_true (by omega)
        have j2 : (j : Int) < 8 := by omega
        have j3 : (0 : Int) ≤ (j : Int) := by omega
        have j4 : j < 8 := hj
        obtain ⟨x, hx⟩ : ∃ x, two8[j]? = some x := ⟨_, List.getElem?_eq_getElem hj⟩
        have hc := HCA.out j x hx
        have HX := Aside0.mk hx
        clear hx
        cases hE : (x.toList == (s.extract a (a + 2)).toList) with
        | true =>
          have hEx : x = s.extract a (a + 2) := by
            have := beq_iff_eq.1 hE
            rw [Lib.toList_data, Lib.toList_data] at this
            exact ByteArray.ext (Array.ext' this)
          have HEX := Aside0.mk hEx
          clear hEx
          go_wp2
          (try rw [Exit.noGoto_ret])
          (try simp only [Exit.inBlock, Exit.then])
          (try rw [Exit.noGoto_ret])
          (try simp only [Exit.inBlock, Exit.then])
          (try simp only [Exit.noGoto_ret])
          go_ret
          refine ⟨?_, HBA.out⟩
          have : two8.any (fun x => decide (x = s.extract a (a + 2))) = true := List.any_eq_true.2 ⟨x, List.mem_of_getElem? HX.out, decide_eq_true HEX.out⟩
          rw [HT.out, if_pos this]
          rfl
        | false =>
          have hEx : x ≠ s.extract a (a + 2) := fun e => by rw [e] at hE; simp at hE
          have HEX := Aside0.mk hEx
          clear hEx
          go_wp2
          go_roundg k2
          case measure => omega
          case rel =>
            refine ⟨j + 1, rfl, ⟨hj⟩, ⟨by have := HK.out; omega⟩, rfl, ⟨fun i y hi hy => ?_⟩⟩
            by_cases e : i = j
            · subst e
              rw [HX.out] at hy
              cases hy
              exact HEX.out
            · exact HN.out i y (by omega) hy
      case neg =>
        have j1 : decide ((j : Int) < 8) = false := decide_eq_false (by omega)
        have hno : ¬ two8.any (fun x => decide (x = s.extract a (a + 2))) = true := by
          rw [List.any_eq_true]
          rintro ⟨x, hx, he⟩
          obtain ⟨i, hi⟩ := List.mem_iff_getElem?.1 hx
          exact HN.out i x (by have : i < 8 := (List.getElem?_eq_some_iff.1 hi).1; omega) hi (of_decide_eq_true he)
        have HNO := Aside0.mk hno
        have g1 : (a : Int) ≤ (a : Int) + 1 := by omega
        have g2 : (a : Int) + 1 ≤ (s.size : Int) := by omega
        have g3 : ((a : Int) + 1).toNat = a + 1 := by omega
        clear hno
        go_wp2
        all_goals
          (try rw [Exit.noGoto_ret])
          (try simp only [Exit.inBlock, Exit.then])
          (try rw [Exit.noGoto_ret])
          (try simp only [Exit.inBlock, Exit.then])
          (try simp only [Exit.noGoto_ret])
          go_ret
          refine ⟨?_, HBA.out⟩
          rw [HT.out, if_neg HNO.out]
          unfold sgn1
          rw [HBT.out]
          clear HT HBT HA HNO HN HCA HBA
          generalize (s[a]'ha0).toNat = v at *
          simp_all [one19]
def sgn (s : ByteArray) (a : Nat) : ByteArray := if a + 1 < s.size ∧ two8.any (fun x => decide (x = s.extract a (a + 2))) = true then s.extract a (a + 2) else sgn1 s a
theorem sign_calls (s : ByteArray) (a : Nat) (w : World) (ha : a < s.size) (hs : s.size ≤ 5000) :
    Calls Tryd.prog 37 #[.string s, .int .i64 (a : Int)] w fun e w' => e = .returned (.string (sgn s a)) ∧ Below w.heap.size w w' := by
  by_cases h : a + 1 < s.size
  · have e : sgn s a = if two8.any (fun x => decide (x = s.extract a (a + 2))) = true then s.extract a (a + 2) else sgn1 s a := by
      unfold sgn
      by_cases h2 : two8.any (fun x => decide (x = s.extract a (a + 2))) = true
      · rw [if_pos ⟨h, h2⟩, if_pos h2]
      · rw [if_neg (fun h => h2 h.2), if_neg h2]
    rw [e]
    exact sign_two s a w h hs
  · have e : sgn s a = sgn1 s a := by unfold sgn; rw [if_neg (fun h2 => h h2.1)]
    rw [e]
    exact sign_one s a w ha hs h
def windlassref5_sign.f (s : ByteArray) (at_ : Int) : Option ByteArray := if 0 ≤ at_ ∧ at_ < s.size ∧ s.size ≤ 5000 then some (sgn s at_.toNat) else none
theorem windlassref5_sign.calls (s : ByteArray) (at_ : Int) (r : ByteArray) (w : World) (h : windlassref5_sign.f s at_ = some r) :
    Calls Tryd.prog 37 #[.string s, .int .i64 at_] w fun e w' => e = .returned (.string r) ∧ Below w.heap.size w w' := by
  unfold windlassref5_sign.f at h
  by_cases hc : 0 ≤ at_ ∧ at_ < s.size ∧ s.size ≤ 5000
  · rw [if_pos hc] at h
    obtain rfl := Option.some.inj h
    have := sign_calls s at_.toNat w (by omega) hc.2.2
    rwa [Int.toNat_of_nonneg hc.1] at this
  · rw [if_neg hc] at h; cases h
end Go.Proofs.YthnehdimjadliaaDoor.PAll
