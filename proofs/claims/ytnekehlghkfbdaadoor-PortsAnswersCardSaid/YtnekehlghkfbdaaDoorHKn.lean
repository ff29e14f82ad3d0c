import Derived.Test.YtnekehlghkfbdaaDoorHRask
/- The checks that each law makes of itself come out well. -/
namespace Go.Proofs.YtnekehlghkfbdaaDoor.PAll
open Go Go.Proofs Go.RowKit Go.Shelf Go.Proofs.YtnekehlghkfbdaaDoorW.PrintWords Go.Proofs.YtnekehlghkfbdaaDoorW.PrintLast Go.Proofs.YtnekehlghkfbdaaDoorW.PrintMore Go.Proofs.YtnekehlghkfbdaaDoor.Bx
attribute [local go_sem] Oper.semAt_some
set_option linter.unusedVariables false
set_option linter.unusedSimpArgs false
def kn1 : S33 := ⟨1, 1, ⟨#[112]⟩, ⟨#[120]⟩⟩
def kn2 : S33 := ⟨1, 1, ⟨#[112]⟩, ⟨#[121]⟩⟩
def knA : ByteArray := ⟨#[48, 58, 112, 58, 120]⟩
theorem dec_zero : dec 0 = ⟨#[48]⟩ := by
  have h : Lib.itoa 0 = [48] := by
    have := Lib.itoa_nonneg 0
    rw [show ((0 : Nat) : Int) = 0 from rfl] at this
    rw [this, Lib.decDigits_one (by omega)]
    rfl
  unfold dec
  rw [h]
theorem kn_a1 : askA [] kn1 = knA := by
  show cut64 (num (dec 0) ⟨#[112]⟩ ⟨#[120]⟩) = knA
  rw [dec_zero]
  unfold cut64
  rw [num_size]
  rfl
theorem kn_d1 : askD [] kn1 = [(kn1, knA)] := by
  have h := kn_a1
  unfold askA at h
  unfold askD
  simp only [mapL, List.map_nil, look] at h ⊢
  rw [h]
  rfl
theorem kn_a2 : askA [(kn1, knA)] kn2 = knA := by
  unfold askA
  simp [mapL, look, kn1, kn2]
theorem kn_d2 : askD [(kn1, knA)] kn2 = [(kn1, knA)] := by
  unfold askD
  simp [mapL, look, kn1, kn2]
set_option maxHeartbeats 8000000 in
set_option maxRecDepth 100000 in
theorem known_h (w : World) (ht : TAB w) : Calls Tryd.prog 6 #[] w fun e w' => e = .returned (.bool true) ∧ Below w.heap.size w w' := by
  have HT := Aside0.mk ht
  clear ht
  have HE := Aside0.mk (Pv.start w)
  go_enter Tryd.func6, Tryd.ntmps6
  go_wp2_with (fail)
  refine (new_calls HE.out).mono ?_
  rintro e_ w1 ⟨s, B, rfl, hp_⟩
  dsimp only
  clear HE
  have HE := Aside0.mk hp_
  clear hp_
  go_wp2_with (fail)
  refine (c_ask (DL := []) kn1 HE.out (by simp) ⟨by decide, by decide⟩ HT.out).mono ?_
  rintro e_ w2 ⟨rfl, v2, hp_⟩
  dsimp only
  rw [kn_d1] at hp_
  rw [kn_a1]
  clear HE
  have HE := Aside0.mk hp_
  clear hp_
  go_wp2_with (fail)
  refine (c_ask (DL := [(kn1, knA)]) kn2 HE.out (by simp) ⟨by decide, by decide⟩ HT.out).mono ?_
  rintro e_ w3 ⟨rfl, v3, hp_⟩
  dsimp only
  rw [kn_d2] at hp_
  rw [kn_a2]
  clear HE
  have HE := Aside0.mk hp_
  clear hp_
  have q0 : (knA == (⟨#[48, 58, 112, 58, 120]⟩ : ByteArray)) = true := by decide
  have q1 : (knA == knA) = true := by decide
  have q2 : (knA.toList == ByteArray.toList (⟨#[48, 58, 112, 58, 120]⟩ : ByteArray)) = true := by simp [knA]
  have q3 : (knA.toList == knA.toList) = true := by simp
  have q4 : (knA.toList == [48, 58, 112, 58, 120]) = true := by decide +kernel
  go_wp2_with (fail)
  refine (done_calls 0 0 HE.out rfl rfl (by simp [callsL])).mono ?_
  rintro e_ w4 ⟨v4, rfl, hp_⟩
  dsimp only
  clear HE
  obtain ⟨A4, c4, rfl⟩ := Kd.N_slice (hp_.rc 0 rfl)
  have HE := Aside0.mk hp_
  clear hp_
  have hl : (callsL [(kn1, knA)]).length = 1 := rfl
  go_wp2
  go_ret
  exact ⟨rfl, HE.out.below⟩
end Go.Proofs.YtnekehlghkfbdaaDoor.PAll
