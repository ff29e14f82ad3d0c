import Derived.Test.YthnehdimjadliaaDoorHKn
/- lex.Name; the five contracts in the print's form. -/
namespace Go.Proofs.YthnehdimjadliaaDoor.PAll
open Go Go.Proofs Go.RowKit Go.Shelf Go.Proofs.YthnehdimjadliaaDoorW.PrintWords Go.Proofs.YthnehdimjadliaaDoorW.PrintLast Go.Proofs.YthnehdimjadliaaDoorW.PrintMore Go.Proofs.YthnehdimjadliaaDoor.Bx
attribute [local go_sem] Oper.semAt_some
set_option linter.unusedVariables false
set_option linter.unusedSimpArgs false
/-- whether a text's bytes are a name -/
def nm (l : List UInt8) : Bool := match l with
  | [] => false
  | c :: r => decide (r.length + 1 ≤ 20) && pL c.toNat && (runL pLD (c :: r) == r.length + 1) && !isWord (c :: r)
set_option maxHeartbeats 4000000 in
set_option maxRecDepth 100000 in
theorem name_calls (s : ByteArray) (w : World) : Calls Tryd.prog 17 #[.string s] w fun e w' => e = .returned (.bool (nm (by' s))) ∧ Below w.heap.size w w' := by
  rcases hl : by' s with _ | ⟨c, r⟩
  · have e : s = ⟨#[]⟩ := ba_eq s [] hl
    subst e
    go_enter Tryd.func17, Tryd.ntmps17
    go_wp2
    go_ret
    exact ⟨rfl, Below.refl _ _⟩
  · have hz : s.size = r.length + 1 := by rw [← by_size, hl]; rfl
    have hnm : nm (c :: r) = (decide (r.length + 1 ≤ 20) && pL c.toNat && (runL pLD (c :: r) == r.length + 1) && !isWord (c :: r)) := rfl
    have HZ := Aside0.mk hz
    have HL := Aside0.mk hl
    have HNM := Aside0.mk hnm
    have e0 : s.toList.isEmpty = false := by rw [Lib.toList_data, show s.data.toList = c :: r from hl]; rfl
    have e01 : (s.toList = []) = False := eq_false (by rw [Lib.toList_data, show s.data.toList = c :: r from hl]; simp)
    clear hnm
    by_cases h20 : s.size ≤ 20
    rotate_left
    · have e : nm (c :: r) = false := by rw [HNM.out, decide_eq_false (by omega : ¬ (r.length + 1 ≤ 20))]; rfl
      rw [e]
      have d1 : decide ((s.size : Int) ≤ 20) = false := decide_eq_false (by omega)
      have d2 : decide (s.size ≤ 20) = false := decide_eq_false (by omega)
      clear hz hl e
      go_enter Tryd.func17, Tryd.ntmps17
      go_wp2
      go_ret
      exact ⟨rfl, Below.refl _ _⟩
    · have d1 : decide ((s.size : Int) ≤ 20) = true := decide_eq_true (by omega)
      have d2 : (0 : Int) < (s.size : Int) := by omega
      have d3 : 0 < s.size := by omega
      have d4 : decide (r.length + 1 ≤ 20) = true := decide_eq_true (by omega)
      have h0 : 0 < s.size := d3
      have hx0 : ((s[0]'h0).toNat : Int) = (c.toNat : Int) := by have := byte_at s 0 h0; rw [List.drop_zero, show s.data.toList = c :: r from hl] at this; injection this with this; rw [this]
      have wc := wrap_c c
      clear hz hl
      go_enter Tryd.func17, Tryd.ntmps17
      go_wp2_with (fail)
      refine (lex_letter.calls (c.toNat : Int) (pL c.toNat) _ (letter_p _)).mono ?_
      rintro e_ w_ ⟨rfl, mm, rfl⟩
      dsimp only
      have HB := Aside0.mk (pw_below_drewN (Below.refl w.heap.size w) mm)
      generalize World.drewN _ mm = x11 at HB ⊢
      cases hL : pL (c.toNat : Int) with
      | false =>
        have e : nm (c :: r) = false := by rw [HNM.out, d4, hL]; rfl
        have EN := Aside0.mk e
        clear e HNM
        go_wp2
        go_ret
        exact ⟨by rw [EN.out]; rfl, HB.out⟩
      | true =>
        go_wp2_with (fail)
        refine (run_38 s _).mono ?_
        rintro e_ x12 ⟨rfl, hb_⟩
        dsimp only
        have n_ := Aside0.mk (HB.out.trans (hb_.mono HB.out.size))
        clear HB hb_
        have HB := n_
        clear n_
        rw [show s.data.toList = c :: r from HL.out]
        obtain ⟨n, hn⟩ : ∃ n, n = runL pLD (c :: r) := ⟨_, rfl⟩
        rw [← hn]
        have HN := Aside0.mk hn
        clear hn
        by_cases hq : n = s.size
        rotate_left
        · have e : nm (c :: r) = false := by
            rw [HNM.out, d4, hL, ← HN.out]
            have : (n == r.length + 1) = false := beq_eq_false_iff_ne.2 (fun h => hq (by rw [HZ.out]; exact h))
            rw [this]; rfl
          have EN := Aside0.mk e
          have q1 : ((n : Int) == (s.size : Int)) = false := beq_eq_false_iff_ne.2 (by omega)
          have q2 : (n == s.size) = false := beq_eq_false_iff_ne.2 hq
          clear e HNM
          go_wp2
          go_ret
          exact ⟨by rw [EN.out]; rfl, HB.out⟩
        · have q1 : ((n : Int) == (s.size : Int)) = true := beq_iff_eq.2 (by omega)
          have q2 : (n == s.size) = true := beq_iff_eq.2 hq
          have HQ := Aside0.mk hq
          clear hq
          go_wp2_with (fail)
          refine (Pw.words (Pw.start _)).mono ?_
          rintro e_ w1 ⟨Aw, nw, cw, rfl, hp_⟩
          dsimp only
          have HE := Aside0.mk hp_
          clear hp_
          go_wp2_with (fail)
          refine (HE.out.word 0 rfl s).mono ?_
          rintro e_ x13 ⟨rfl, rfl⟩
          dsimp only
          have e : nm (c :: r) = !Lib.containsS words s := by
            rw [HNM.out, d4, hL, ← HN.out]
            have : (n == r.length + 1) = true := beq_iff_eq.2 (by rw [HQ.out, HZ.out])
            rw [this]
            unfold isWord
            rw [show (⟨(c :: r).toArray⟩ : ByteArray) = s from (ba_eq s _ HL.out).symm]; rfl
          have EN := Aside0.mk e
          clear e HNM
          go_wp2
          go_ret
          exact ⟨by rw [EN.out]; rfl, HB.out.trans (HE.out.below.mono HB.out.size)⟩
end Go.Proofs.YthnehdimjadliaaDoor.PAll
