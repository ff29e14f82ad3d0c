-- Laid by a program of this seat (wip/xprint.py over the kit's print).
import Derived.Test.YthbnblmnamckmaaPAllx0
import Derived.Test.YthbnblmnamckmaaPAllx3
import Derived.Test.YthbnblmnamckmaaPAllx4
import Derived.Test.YthbnblmnamckmaaPAllx6
import Derived.Test.YthbnblmnamckmaaPAllx7
import Derived.Test.YthbnblmnamckmaaPAllx10
import Derived.Test.YthbnblmnamckmaaPAllx11
import Derived.Test.YthbnblmnamckmaaPAllx17
import Derived.Test.YthbnblmnamckmaaPAllx19
import Derived.Test.YthbnblmnamckmaaPAllx20
namespace Go.Proofs.Ythbnblmnamckmaa.PAll
open Go.RowKit Go.Proofs.YthbnblmnamckmaaW.PrintWords Go.Proofs.YthbnblmnamckmaaW.PrintLast Go.Proofs.YthbnblmnamckmaaW.PrintMore
attribute [local go_sem] max2_int min2_int max_two min_two max_three min_three max_four min_four   -- for this text's walks alone
set_option linter.unusedVariables false
set_option linter.unusedSimpArgs false

/-! ### windlasslaw2_CodecNumbers: function 5 -/
mutual
def windlasslaw2_CodecNumbers.j0 : Nat → Int → Int → ByteArray → List Int → Bool → Option (Bool)
  | 0, _, _, _, _, _ => none
  | k + 1, x0, x1, x2, x3, x30 => if x30 = true then (some true) else ((codec_PutUint.f k x0).bind fun t346 => ((codec_PutInt.f k x1).bind fun t349 => ((codec_PutText.f k x2).bind fun t352 => ((windlassref2_PutUint.f k x0).bind fun t355 => ((windlasshelp_Bytes.f t346 t355).bind fun t358 => (if t358 = true then ((windlassref2_PutInt.f k x1).bind fun t359 => ((windlasshelp_Bytes.f t349 t359).bind fun t362 => (if t362 = true then ((windlassref2_PutText.f k x2).bind fun t363 => ((windlasshelp_Bytes.f t352 t363).bind fun t366 => (windlasslaw2_CodecNumbers.j1 k x0 x1 x2 x3 t346 t349 t352 (!t366)))) else (windlasslaw2_CodecNumbers.j1 k x0 x1 x2 x3 t346 t349 t352 true)))) else (windlasslaw2_CodecNumbers.j1 k x0 x1 x2 x3 t346 t349 t352 true)))))))
def windlasslaw2_CodecNumbers.j1 : Nat → Int → Int → ByteArray → List Int → List Int → List Int → List Int → Bool → Option (Bool)
  | 0, _, _, _, _, _, _, _, _ => none
  | k + 1, x0, x1, x2, x3, x9, x10, x11, x55 => if x55 = true then (some false) else (if ([] : List Int).length + x9.length < 140737488355328 then ((some (([] : List Int) ++ x9 : List Int)).bind fun y367 => (if y367.length + x3.length < 140737488355328 then ((codec_Uint.f k (y367 ++ x3)).bind fun bt373 => (if ([] : List Int).length + x10.length < 140737488355328 then ((some (([] : List Int) ++ x10 : List Int)).bind fun y376 => (if y376.length + x3.length < 140737488355328 then ((codec_Int.f k (y376 ++ x3)).bind fun bt382 => (if ([] : List Int).length + x11.length < 140737488355328 then ((some (([] : List Int) ++ x11 : List Int)).bind fun y385 => (if y385.length + x3.length < 140737488355328 then ((codec_Text.f k (y385 ++ x3)).bind fun bt391 => (if bt373.2.2 = 0 then (if bt382.2.2 = 0 then (if bt373.1 = x0 then (if bt382.1 = x1 then (if bt373.2.1 = (x9.length : Int) then (windlasslaw2_CodecNumbers.j2 k x2 x11 bt391.1 bt391.2.1 bt391.2.2 (bt382.2.1 != (x10.length : Int))) else (windlasslaw2_CodecNumbers.j2 k x2 x11 bt391.1 bt391.2.1 bt391.2.2 true)) else (windlasslaw2_CodecNumbers.j2 k x2 x11 bt391.1 bt391.2.1 bt391.2.2 true)) else (windlasslaw2_CodecNumbers.j2 k x2 x11 bt391.1 bt391.2.1 bt391.2.2 true)) else (windlasslaw2_CodecNumbers.j2 k x2 x11 bt391.1 bt391.2.1 bt391.2.2 true)) else (windlasslaw2_CodecNumbers.j2 k x2 x11 bt391.1 bt391.2.1 bt391.2.2 true))) else (none))) else (none))) else (none))) else (none))) else (none))) else (none))
def windlasslaw2_CodecNumbers.j2 : Nat → ByteArray → List Int → ByteArray → Int → Int → Bool → Option (Bool)
  | 0, _, _, _, _, _, _ => none
  | k + 1, x2, x11, x18, x19, x20, x110 => if x110 = true then (some false) else (if (x2.size : Int) > 64 then (if x20 = 21 then (if x18.toList = ([] : List UInt8) then (some (x19 == 0)) else (some false)) else (some false)) else (if x20 = 0 then (if x18.toList = x2.toList then (some (x19 == (x11.length : Int))) else (some false)) else (some false)))
end
def windlasslaw2_CodecNumbers.f (k : Nat) (a0 : Int) (a1 : Int) (a2 : ByteArray) (l3 : List Int) : Option (Bool) := (windlasslaw2_known.f k).bind fun t345 => (if t345 = true then (if (a2.size : Int) > 500 then (windlasslaw2_CodecNumbers.j0 k a0 a1 a2 l3 true) else (windlasslaw2_CodecNumbers.j0 k a0 a1 a2 l3 (decide ((l3.length : Int) > 500)))) else (some false))
theorem windlasslaw2_CodecNumbers.mono_l : ∀ k, (∀ y0 y1 y2 y3 y4, LeO (windlasslaw2_CodecNumbers.j0 k y0 y1 y2 y3 y4) (windlasslaw2_CodecNumbers.j0 (k + 1) y0 y1 y2 y3 y4)) ∧ (∀ y0 y1 y2 y3 y4 y5 y6 y7, LeO (windlasslaw2_CodecNumbers.j1 k y0 y1 y2 y3 y4 y5 y6 y7) (windlasslaw2_CodecNumbers.j1 (k + 1) y0 y1 y2 y3 y4 y5 y6 y7)) ∧ (∀ y0 y1 y2 y3 y4 y5, LeO (windlasslaw2_CodecNumbers.j2 k y0 y1 y2 y3 y4 y5) (windlasslaw2_CodecNumbers.j2 (k + 1) y0 y1 y2 y3 y4 y5))
  | 0 => ⟨fun _ _ _ _ _ r h => by simp [windlasslaw2_CodecNumbers.j0] at h, fun _ _ _ _ _ _ _ _ r h => by simp [windlasslaw2_CodecNumbers.j1] at h, fun _ _ _ _ _ _ r h => by simp [windlasslaw2_CodecNumbers.j2] at h⟩
  | k + 1 => by
    obtain ⟨ih0, ih1, ih2⟩ := windlasslaw2_CodecNumbers.mono_l k
    refine ⟨?_, ?_, ?_⟩
    · intro y0 y1 y2 y3 y4
      unfold windlasslaw2_CodecNumbers.j0
      repeat' first
      | (with_reducible exact ih0 _ _ _ _ _)
      | (with_reducible exact ih1 _ _ _ _ _ _ _ _)
      | (with_reducible exact ih2 _ _ _ _ _ _)
      | (with_reducible exact codec_Int.mono _ _)
      | (with_reducible exact codec_PutInt.mono _ _)
      | (with_reducible exact codec_PutText.mono _ _)
      | (with_reducible exact codec_PutUint.mono _ _)
      | (with_reducible exact codec_Text.mono _ _)
      | (with_reducible exact codec_Uint.mono _ _)
      | (with_reducible exact windlasslaw2_known.mono _)
      | (with_reducible exact windlassref2_PutInt.mono _ _)
      | (with_reducible exact windlassref2_PutText.mono _ _)
      | (with_reducible exact windlassref2_PutUint.mono _ _)
      | (with_reducible exact LeO.refl _)
      | (with_reducible exact LeO.none _)
      | (with_reducible refine LeO.ite ?_ ?_)
      | (with_reducible refine LeO.bind ?_ (fun _ => ?_))
      | exact ih0 _ _ _ _ _
      | exact ih1 _ _ _ _ _ _ _ _
      | exact ih2 _ _ _ _ _ _
      | exact codec_Int.mono _ _
      | exact codec_PutInt.mono _ _
      | exact codec_PutText.mono _ _
      | exact codec_PutUint.mono _ _
      | exact codec_Text.mono _ _
      | exact codec_Uint.mono _ _
      | exact windlasslaw2_known.mono _
      | exact windlassref2_PutInt.mono _ _
      | exact windlassref2_PutText.mono _ _
      | exact windlassref2_PutUint.mono _ _
      | exact LeO.none _
      | refine LeO.ite ?_ ?_
      | refine LeO.bind ?_ (fun _ => ?_)
    · intro y0 y1 y2 y3 y4 y5 y6 y7
      unfold windlasslaw2_CodecNumbers.j1
      repeat' first
      | (with_reducible exact ih0 _ _ _ _ _)
      | (with_reducible exact ih1 _ _ _ _ _ _ _ _)
      | (with_reducible exact ih2 _ _ _ _ _ _)
      | (with_reducible exact codec_Int.mono _ _)
      | (with_reducible exact codec_PutInt.mono _ _)
      | (with_reducible exact codec_PutText.mono _ _)
      | (with_reducible exact codec_PutUint.mono _ _)
      | (with_reducible exact codec_Text.mono _ _)
      | (with_reducible exact codec_Uint.mono _ _)
      | (with_reducible exact windlasslaw2_known.mono _)
      | (with_reducible exact windlassref2_PutInt.mono _ _)
      | (with_reducible exact windlassref2_PutText.mono _ _)
      | (with_reducible exact windlassref2_PutUint.mono _ _)
      | (with_reducible exact LeO.refl _)
      | (with_reducible exact LeO.none _)
      | (with_reducible refine LeO.ite ?_ ?_)
      | (with_reducible refine LeO.bind ?_ (fun _ => ?_))
      | exact ih0 _ _ _ _ _
      | exact ih1 _ _ _ _ _ _ _ _
      | exact ih2 _ _ _ _ _ _
      | exact codec_Int.mono _ _
      | exact codec_PutInt.mono _ _
      | exact codec_PutText.mono _ _
      | exact codec_PutUint.mono _ _
      | exact codec_Text.mono _ _
      | exact codec_Uint.mono _ _
      | exact windlasslaw2_known.mono _
      | exact windlassref2_PutInt.mono _ _
      | exact windlassref2_PutText.mono _ _
      | exact windlassref2_PutUint.mono _ _
      | exact LeO.none _
      | refine LeO.ite ?_ ?_
      | refine LeO.bind ?_ (fun _ => ?_)
    · intro y0 y1 y2 y3 y4 y5
      unfold windlasslaw2_CodecNumbers.j2
      repeat' first
      | (with_reducible exact ih0 _ _ _ _ _)
      | (with_reducible exact ih1 _ _ _ _ _ _ _ _)
      | (with_reducible exact ih2 _ _ _ _ _ _)
      | (with_reducible exact codec_Int.mono _ _)
      | (with_reducible exact codec_PutInt.mono _ _)
      | (with_reducible exact codec_PutText.mono _ _)
      | (with_reducible exact codec_PutUint.mono _ _)
      | (with_reducible exact codec_Text.mono _ _)
      | (with_reducible exact codec_Uint.mono _ _)
      | (with_reducible exact windlasslaw2_known.mono _)
      | (with_reducible exact windlassref2_PutInt.mono _ _)
      | (with_reducible exact windlassref2_PutText.mono _ _)
      | (with_reducible exact windlassref2_PutUint.mono _ _)
      | (with_reducible exact LeO.refl _)
      | (with_reducible exact LeO.none _)
      | (with_reducible refine LeO.ite ?_ ?_)
      | (with_reducible refine LeO.bind ?_ (fun _ => ?_))
      | exact ih0 _ _ _ _ _
      | exact ih1 _ _ _ _ _ _ _ _
      | exact ih2 _ _ _ _ _ _
      | exact codec_Int.mono _ _
      | exact codec_PutInt.mono _ _
      | exact codec_PutText.mono _ _
      | exact codec_PutUint.mono _ _
      | exact codec_Text.mono _ _
      | exact codec_Uint.mono _ _
      | exact windlasslaw2_known.mono _
      | exact windlassref2_PutInt.mono _ _
      | exact windlassref2_PutText.mono _ _
      | exact windlassref2_PutUint.mono _ _
      | exact LeO.none _
      | refine LeO.ite ?_ ?_
      | refine LeO.bind ?_ (fun _ => ?_)
theorem windlasslaw2_CodecNumbers.mono : ∀ a0 a1 a2 a3 k, LeO (windlasslaw2_CodecNumbers.f k a0 a1 a2 a3) (windlasslaw2_CodecNumbers.f (k + 1) a0 a1 a2 a3) := by
  intro a0 a1 a2 a3 k
  obtain ⟨ih0, ih1, ih2⟩ := windlasslaw2_CodecNumbers.mono_l k
  unfold windlasslaw2_CodecNumbers.f
  repeat' first
      | (with_reducible exact ih0 _ _ _ _ _)
      | (with_reducible exact ih1 _ _ _ _ _ _ _ _)
      | (with_reducible exact ih2 _ _ _ _ _ _)
      | (with_reducible exact codec_Int.mono _ _)
      | (with_reducible exact codec_PutInt.mono _ _)
      | (with_reducible exact codec_PutText.mono _ _)
      | (with_reducible exact codec_PutUint.mono _ _)
      | (with_reducible exact codec_Text.mono _ _)
      | (with_reducible exact codec_Uint.mono _ _)
      | (with_reducible exact windlasslaw2_known.mono _)
      | (with_reducible exact windlassref2_PutInt.mono _ _)
      | (with_reducible exact windlassref2_PutText.mono _ _)
      | (with_reducible exact windlassref2_PutUint.mono _ _)
      | (with_reducible exact LeO.refl _)
      | (with_reducible exact LeO.none _)
      | (with_reducible refine LeO.ite ?_ ?_)
      | (with_reducible refine LeO.bind ?_ (fun _ => ?_))
      | exact ih0 _ _ _ _ _
      | exact ih1 _ _ _ _ _ _ _ _
      | exact ih2 _ _ _ _ _ _
      | exact codec_Int.mono _ _
      | exact codec_PutInt.mono _ _
      | exact codec_PutText.mono _ _
      | exact codec_PutUint.mono _ _
      | exact codec_Text.mono _ _
      | exact codec_Uint.mono _ _
      | exact windlasslaw2_known.mono _
      | exact windlassref2_PutInt.mono _ _
      | exact windlassref2_PutText.mono _ _
      | exact windlassref2_PutUint.mono _ _
      | exact LeO.none _
      | refine LeO.ite ?_ ?_
      | refine LeO.bind ?_ (fun _ => ?_)
set_option maxHeartbeats 8000000 in
set_option maxRecDepth 100000 in
theorem windlasslaw2_CodecNumbers.calls (k : Nat) (a0 : Int) (a1 : Int) (a2 : ByteArray) (A3 : Option Addr) (c3 : Nat) (l3 : List Int) (r : Bool) (w : World) (hr3 : Kd.C (Kd.int .u8) w A3 l3.length l3) (hc3 : l3.length ≤ c3) (h : windlasslaw2_CodecNumbers.f k a0 a1 a2 l3 = some r) :
    Calls Try.prog 5 #[.int .u64 a0, .int .i64 a1, .string a2, .slice A3 l3.length c3] w fun e w' => e = .returned (.bool r) ∧ Below w.heap.size w w' := by
  have HR3 := Aside0.mk hr3
  have HC3 := Aside0.mk hc3
  clear hr3 hc3
  have HB := Aside0.mk (Below.refl w.heap.size w)
  have H : ((windlasslaw2_known.f k).bind fun t345 => (if t345 = true then (if (a2.size : Int) > 500 then (windlasslaw2_CodecNumbers.j0 k a0 a1 a2 l3 true) else (windlasslaw2_CodecNumbers.j0 k a0 a1 a2 l3 (decide ((l3.length : Int) > 500)))) else (some false))) = some r := h
  clear h
  replace H := Option.bind_eq_some_iff.mp H
  obtain ⟨t345, A50, H⟩ := H
  replace H : (if t345 = true then (if (a2.size : Int) > 500 then (windlasslaw2_CodecNumbers.j0 k a0 a1 a2 l3 true) else (windlasslaw2_CodecNumbers.j0 k a0 a1 a2 l3 (decide ((l3.length : Int) > 500)))) else (some false)) = some r := H
  have A5 := Aside0.mk A50
  clear A50
  by_cases c6 : t345 = true
  · subst c6
    have H1 : (if (a2.size : Int) > 500 then (windlasslaw2_CodecNumbers.j0 k a0 a1 a2 l3 true) else (windlasslaw2_CodecNumbers.j0 k a0 a1 a2 l3 (decide ((l3.length : Int) > 500)))) = some r := by rw [if_pos rfl] at H; exact H
    clear H
    have H := H1
    clear H1
    have HC7 := Aside0.mk H
    clear H
    go_enter Try.func5, Try.ntmps5
    go_upto_region 3 with (first | ((with_reducible refine gate_callee (f := 9) rfl ?_); refine goesL_ (some 21) rfl rfl Try.func9 (by kernel_rfl) rfl #[] rfl (by (try simp only [List.map_toArray, List.map_cons, List.map_nil]); first | done | rfl | (simp only [List.length_drop, List.length_take]; rfl)) ?_; (with_reducible refine (windlasslaw2_known.calls k  true _ A5.out).mono ?_); rintro e w8 ⟨rfl, hb⟩; refine ⟨_, rfl, ?_⟩; have n0_ := Aside0.mk (below_step (by repeat (first | (with_reducible first | exact HB.out | apply below_alloc | apply pw_below_drewN | apply below_drew1) | exact HB.out)) hb); clear HB; have HB := n0_; clear n0_; (try clear hb); (try clear hb2); (try clear hk); (try clear hi)))
    (try simp only [Act.put, List.setIfInBounds_toArray, List.set_cons_zero, List.set_cons_succ])
    go_cut [30] (fun v30 wc => ∃ (kq : Nat) (x30_6 : Bool), v30 = .bool x30_6 ∧ Aside0 (windlasslaw2_CodecNumbers.j0 kq a0 a1 a2 l3 x30_6 = some r) ∧ Aside0 (kq ≤ k) ∧ Aside0 (Below w.heap.size w wc))
    case first =>
      have H := HC7.out
      clear HC7
      by_cases c9 : (a2.size : Int) > 500
      · rw [if_pos c9] at H
        have c9b0 : decide (500 < (a2.size : Int)) = true := decide_eq_true c9
        have c9b1 : decide (500 < a2.size) = true := decide_eq_true (by omega)
        clear c9
        (first | rw [c9b0] | (simp only [i64_w, i32_w]; rw [c9b0]) | skip)
        have H' := Aside0.mk H
        clear H
        go_wp2
        go_meet
        case rel => exact ⟨_, (true), (by first | rfl | (simp; done) | (simp [*]; done)), H', ⟨by first | omega | exact Nat.le_refl _⟩, ⟨by repeat (first | (with_reducible first | exact HB.out | apply below_alloc | apply pw_below_drewN | apply below_drew1) | exact HB.out)⟩⟩
      · rw [if_neg c9] at H
        have c9b0 : decide (500 < (a2.size : Int)) = false := decide_eq_false c9
        have c9b1 : decide (500 < a2.size) = false := decide_eq_false (by omega)
        clear c9
        (first | rw [c9b0] | (simp only [i64_w, i32_w]; rw [c9b0]) | skip)
        have H' := Aside0.mk H
        clear H
        go_wp2
        go_meet
        case rel => exact ⟨_, (decide ((l3.length : Int) > 500)), (by first | rfl | (simp; done) | (simp [*]; done)), H', ⟨by first | omega | exact Nat.le_refl _⟩, ⟨by repeat (first | (with_reducible first | exact HB.out | apply below_alloc | apply pw_below_drewN | apply below_drew1) | exact HB.out)⟩⟩
    case rest =>
      clear HC7
      try clear p2
      try clear c3
      try clear c5
      try clear c6
      try clear c9
      try clear c9b0
      try clear c9b1
      obtain ⟨kq, x30_6, rfl, HA, HJ6, HB⟩ := hcut
      cases kq with
      | zero => exact absurd HA.out (by simp [windlasslaw2_CodecNumbers.j0])
      | succ kj6 =>
        have H := HA.out
        clear HA
        simp only [windlasslaw2_CodecNumbers.j0] at H
        by_cases c10 : x30_6 = true
        · subst c10
          have H1 : (some true) = some r := by rw [if_pos rfl] at H; exact H
          clear H
          have H := H1
          clear H1
          obtain rfl := Option.some.inj H
          go_wp2
          go_ret
          exact ⟨by first | rfl | (simp [errW_none, errW_some] <;> rfl) | (simp [*, errW_none, errW_some] <;> rfl), by repeat (first | (with_reducible first | exact HB.out | apply below_alloc | apply pw_below_drewN | apply below_drew1) | exact HB.out)⟩
        · replace c10 := Bool.eq_false_iff.mpr c10
          subst c10
          have H1 : ((codec_PutUint.f kj6 a0).bind fun t346 => ((codec_PutInt.f kj6 a1).bind fun t349 => ((codec_PutText.f kj6 a2).bind fun t352 => ((windlassref2_PutUint.f kj6 a0).bind fun t355 => ((windlasshelp_Bytes.f t346 t355).bind fun t358 => (if t358 = true then ((windlassref2_PutInt.f kj6 a1).bind fun t359 => ((windlasshelp_Bytes.f t349 t359).bind fun t362 => (if t362 = true then ((windlassref2_PutText.f kj6 a2).bind fun t363 => ((windlasshelp_Bytes.f t352 t363).bind fun t366 => (windlasslaw2_CodecNumbers.j1 kj6 a0 a1 a2 l3 t346 t349 t352 (!t366)))) else (windlasslaw2_CodecNumbers.j1 kj6 a0 a1 a2 l3 t346 t349 t352 true)))) else (windlasslaw2_CodecNumbers.j1 kj6 a0 a1 a2 l3 t346 t349 t352 true))))))) = some r := by rw [if_neg (show ¬ (false = true) by decide)] at H; exact H
          clear H
          have H := H1
          clear H1
          replace H := Option.bind_eq_some_iff.mp H
          obtain ⟨t346, A110, H⟩ := H
          replace H : ((codec_PutInt.f kj6 a1).bind fun t349 => ((codec_PutText.f kj6 a2).bind fun t352 => ((windlassref2_PutUint.f kj6 a0).bind fun t355 => ((windlasshelp_Bytes.f t346 t355).bind fun t358 => (if t358 = true then ((windlassref2_PutInt.f kj6 a1).bind fun t359 => ((windlasshelp_Bytes.f t349 t359).bind fun t362 => (if t362 = true then ((windlassref2_PutText.f kj6 a2).bind fun t363 => ((windlasshelp_Bytes.f t352 t363).bind fun t366 => (windlasslaw2_CodecNumbers.j1 kj6 a0 a1 a2 l3 t346 t349 t352 (!t366)))) else (windlasslaw2_CodecNumbers.j1 kj6 a0 a1 a2 l3 t346 t349 t352 true)))) else (windlasslaw2_CodecNumbers.j1 kj6 a0 a1 a2 l3 t346 t349 t352 true)))))) = some r := H
          have A11 := Aside0.mk A110
          clear A110
          replace H := Option.bind_eq_some_iff.mp H
          obtain ⟨t349, A120, H⟩ := H
          replace H : ((codec_PutText.f kj6 a2).bind fun t352 => ((windlassref2_PutUint.f kj6 a0).bind fun t355 => ((windlasshelp_Bytes.f t346 t355).bind fun t358 => (if t358 = true then ((windlassref2_PutInt.f kj6 a1).bind fun t359 => ((windlasshelp_Bytes.f t349 t359).bind fun t362 => (if t362 = true then ((windlassref2_PutText.f kj6 a2).bind fun t363 => ((windlasshelp_Bytes.f t352 t363).bind fun t366 => (windlasslaw2_CodecNumbers.j1 kj6 a0 a1 a2 l3 t346 t349 t352 (!t366)))) else (windlasslaw2_CodecNumbers.j1 kj6 a0 a1 a2 l3 t346 t349 t352 true)))) else (windlasslaw2_CodecNumbers.j1 kj6 a0 a1 a2 l3 t346 t349 t352 true))))) = some r := H
          have A12 := Aside0.mk A120
          clear A120
          replace H := Option.bind_eq_some_iff.mp H
          obtain ⟨t352, A130, H⟩ := H
          replace H : ((windlassref2_PutUint.f kj6 a0).bind fun t355 => ((windlasshelp_Bytes.f t346 t355).bind fun t358 => (if t358 = true then ((windlassref2_PutInt.f kj6 a1).bind fun t359 => ((windlasshelp_Bytes.f t349 t359).bind fun t362 => (if t362 = true then ((windlassref2_PutText.f kj6 a2).bind fun t363 => ((windlasshelp_Bytes.f t352 t363).bind fun t366 => (windlasslaw2_CodecNumbers.j1 kj6 a0 a1 a2 l3 t346 t349 t352 (!t366)))) else (windlasslaw2_CodecNumbers.j1 kj6 a0 a1 a2 l3 t346 t349 t352 true)))) else (windlasslaw2_CodecNumbers.j1 kj6 a0 a1 a2 l3 t346 t349 t352 true)))) = some r := H
          have A13 := Aside0.mk A130
          clear A130
          have HC14 := Aside0.mk H
          clear H
          go_upto_region 6 with (first | ((with_reducible refine gate_callee (f := 17) rfl ?_); refine goesL_ (some 32) rfl rfl Try.func17 (by kernel_rfl) rfl #[.int .u64 a0] rfl (by (try simp only [List.map_toArray, List.map_cons, List.map_nil]); first | done | rfl | (simp only [List.length_drop, List.length_take]; rfl)) ?_; (with_reducible refine (codec_PutUint.calls kj6 a0 t346 _ A11.out).mono ?_); rintro e w15 ⟨v347, rfl, ho0, hb⟩; refine ⟨_, rfl, ?_⟩; have n0_ := Aside0.mk (Kd.R_lower ho0 (below_size (by repeat (first | (with_reducible first | exact HB.out | apply below_alloc | apply pw_below_drewN | apply below_drew1) | exact HB.out)))); have n1_ := Aside0.mk (below_step (by repeat (first | (with_reducible first | exact HB.out | apply below_alloc | apply pw_below_drewN | apply below_drew1) | exact HB.out)) hb); clear HB; have HO348 := n0_; have HB := n1_; clear n0_ n1_; (try clear hb); (try clear hb2); (try clear hk); (try clear hi); (try clear ho0)) | ((with_reducible refine gate_callee (f := 19) rfl ?_); refine goesL_ (some 34) rfl rfl Try.func19 (by kernel_rfl) rfl #[.int .i64 a1] rfl (by (try simp only [List.map_toArray, List.map_cons, List.map_nil]); first | done | rfl | (simp only [List.length_drop, List.length_take]; rfl)) ?_; (with_reducible refine (codec_PutInt.calls kj6 a1 t349 _ A12.out).mono ?_); rintro e w16 ⟨v350, rfl, ho0, hb⟩; refine ⟨_, rfl, ?_⟩; have n0_ := Aside0.mk (Kd.R_elder' (by (with_reducible repeat (first | apply Kd.R_alloc | apply Kd.R_drewN | apply Kd.R_drew)); exact HO348.out) (Kd.R_base ho0) hb); have n1_ := Aside0.mk (Kd.R_lower (Kd.R_new' ho0 (Kd.R_lt (by (with_reducible repeat (first | apply Kd.R_alloc | apply Kd.R_drewN | apply Kd.R_drew)); exact HO348.out))) (below_size (by repeat (first | (with_reducible first | exact HB.out | apply below_alloc | apply pw_below_drewN | apply below_drew1) | exact HB.out)))); have n2_ := Aside0.mk (below_step (by repeat (first | (with_reducible first | exact HB.out | apply below_alloc | apply pw_below_drewN | apply below_drew1) | exact HB.out)) hb); clear HO348; clear HB; have HO348 := n0_; have HO351 := n1_; have HB := n2_; clear n0_ n1_ n2_; (try clear hb); (try clear hb2); (try clear hk); (try clear hi); (try clear ho0)) | ((with_reducible refine gate_callee (f := 20) rfl ?_); refine goesL_ (some 36) rfl rfl Try.func20 (by kernel_rfl) rfl #[.string a2] rfl (by (try simp only [List.map_toArray, List.map_cons, List.map_nil]); first | done | rfl | (simp only [List.length_drop, List.length_take]; rfl)) ?_; (with_reducible refine (codec_PutText.calls kj6 a2 t352 _ A13.out).mono ?_); rintro e w17 ⟨v353, rfl, ho0, hb⟩; refine ⟨_, rfl, ?_⟩; have n0_ := Aside0.mk (Kd.R_elder' (by (with_reducible repeat (first | apply Kd.R_alloc | apply Kd.R_drewN | apply Kd.R_drew)); exact HO348.out) (Kd.R_base ho0) hb); have n1_ := Aside0.mk (Kd.R_elder' (by (with_reducible repeat (first | apply Kd.R_alloc | apply Kd.R_drewN | apply Kd.R_drew)); exact HO351.out) (Kd.R_base ho0) hb); have n2_ := Aside0.mk (Kd.R_lower (Kd.R_new' (Kd.R_new' ho0 (Kd.R_lt (by (with_reducible repeat (first | apply Kd.R_alloc | apply Kd.R_drewN | apply Kd.R_drew)); exact HO348.out))) (Kd.R_lt (by (with_reducible repeat (first | apply Kd.R_alloc | apply Kd.R_drewN | apply Kd.R_drew)); exact HO351.out))) (below_size (by repeat (first | (with_reducible first | exact HB.out | apply below_alloc | apply pw_below_drewN | apply below_drew1) | exact HB.out)))); have n3_ := Aside0.mk (below_step (by repeat (first | (with_reducible first | exact HB.out | apply below_alloc | apply pw_below_drewN | apply below_drew1) | exact HB.out)) hb); clear HO348; clear HO351; clear HB; have HO348 := n0_; have HO351 := n1_; have HO354 := n2_; have HB := n3_; clear n0_ n1_ n2_ n3_; (try clear hb); (try clear hb2); (try clear hk); (try clear hi); (try clear ho0)))
          (try simp only [Act.put, List.setIfInBounds_toArray, List.set_cons_zero, List.set_cons_succ])
          go_cut [55] (fun v55 wc => ∃ (kq : Nat) (x55_13 : Bool), v55 = .bool x55_13 ∧ Aside0 (windlasslaw2_CodecNumbers.j1 kq a0 a1 a2 l3 t346 t349 t352 x55_13 = some r) ∧ Aside0 (kq ≤ kj6) ∧ Aside0 (Kd.R (Kd.int .u8) 5 wc w.heap.size (fun k_ => some k_ ≠ (v350 : Value).ownBlock ∧ some k_ ≠ (v353 : Value).ownBlock) v347 t346) ∧ Aside0 (Kd.R (Kd.int .u8) 5 wc w.heap.size (fun k_ => some k_ ≠ (v347 : Value).ownBlock ∧ some k_ ≠ (v353 : Value).ownBlock) v350 t349) ∧ Aside0 (Kd.R (Kd.int .u8) 5 wc w.heap.size (fun k_ => some k_ ≠ (v347 : Value).ownBlock ∧ some k_ ≠ (v350 : Value).ownBlock) v353 t352) ∧ Aside0 (Below w.heap.size w wc))
          case first =>
            have H := HC14.out
            clear HC14
            replace H := Option.bind_eq_some_iff.mp H
            obtain ⟨t355, A180, H⟩ := H
            replace H : ((windlasshelp_Bytes.f t346 t355).bind fun t358 => (if t358 = true then ((windlassref2_PutInt.f kj6 a1).bind fun t359 => ((windlasshelp_Bytes.f t349 t359).bind fun t362 => (if t362 = true then ((windlassref2_PutText.f kj6 a2).bind fun t363 => ((windlasshelp_Bytes.f t352 t363).bind fun t366 => (windlasslaw2_CodecNumbers.j1 kj6 a0 a1 a2 l3 t346 t349 t352 (!t366)))) else (windlasslaw2_CodecNumbers.j1 kj6 a0 a1 a2 l3 t346 t349 t352 true)))) else (windlasslaw2_CodecNumbers.j1 kj6 a0 a1 a2 l3 t346 t349 t352 true))) = some r := H
            have A18 := Aside0.mk A180
            clear A180
            replace H := Option.bind_eq_some_iff.mp H
            obtain ⟨t358, A190, H⟩ := H
            replace H : (if t358 = true then ((windlassref2_PutInt.f kj6 a1).bind fun t359 => ((windlasshelp_Bytes.f t349 t359).bind fun t362 => (if t362 = true then ((windlassref2_PutText.f kj6 a2).bind fun t363 => ((windlasshelp_Bytes.f t352 t363).bind fun t366 => (windlasslaw2_CodecNumbers.j1 kj6 a0 a1 a2 l3 t346 t349 t352 (!t366)))) else (windlasslaw2_CodecNumbers.j1 kj6 a0 a1 a2 l3 t346 t349 t352 true)))) else (windlasslaw2_CodecNumbers.j1 kj6 a0 a1 a2 l3 t346 t349 t352 true)) = some r := H
            have A19 := Aside0.mk A190
            clear A190
            by_cases c20 : t358 = true
            · subst c20
              have H1 : ((windlassref2_PutInt.f kj6 a1).bind fun t359 => ((windlasshelp_Bytes.f t349 t359).bind fun t362 => (if t362 = true then ((windlassref2_PutText.f kj6 a2).bind fun t363 => ((windlasshelp_Bytes.f t352 t363).bind fun t366 => (windlasslaw2_CodecNumbers.j1 kj6 a0 a1 a2 l3 t346 t349 t352 (!t366)))) else (windlasslaw2_CodecNumbers.j1 kj6 a0 a1 a2 l3 t346 t349 t352 true)))) = some r := by rw [if_pos rfl] at H; exact H
              clear H
              have H := H1
              clear H1
              replace H := Option.bind_eq_some_iff.mp H
              obtain ⟨t359, A210, H⟩ := H
              replace H : ((windlasshelp_Bytes.f t349 t359).bind fun t362 => (if t362 = true then ((windlassref2_PutText.f kj6 a2).bind fun t363 => ((windlasshelp_Bytes.f t352 t363).bind fun t366 => (windlasslaw2_CodecNumbers.j1 kj6 a0 a1 a2 l3 t346 t349 t352 (!t366)))) else (windlasslaw2_CodecNumbers.j1 kj6 a0 a1 a2 l3 t346 t349 t352 true))) = some r := H
              have A21 := Aside0.mk A210
              clear A210
              replace H := Option.bind_eq_some_iff.mp H
              obtain ⟨t362, A220, H⟩ := H
              replace H : (if t362 = true then ((windlassref2_PutText.f kj6 a2).bind fun t363 => ((windlasshelp_Bytes.f t352 t363).bind fun t366 => (windlasslaw2_CodecNumbers.j1 kj6 a0 a1 a2 l3 t346 t349 t352 (!t366)))) else (windlasslaw2_CodecNumbers.j1 kj6 a0 a1 a2 l3 t346 t349 t352 true)) = some r := H
              have A22 := Aside0.mk A220
              clear A220
              by_cases c23 : t362 = true
              · subst c23
                have H1 : ((windlassref2_PutText.f kj6 a2).bind fun t363 => ((windlasshelp_Bytes.f t352 t363).bind fun t366 => (windlasslaw2_CodecNumbers.j1 kj6 a0 a1 a2 l3 t346 t349 t352 (!t366)))) = some r := by rw [if_pos rfl] at H; exact H
                clear H
                have H := H1
                clear H1
                replace H := Option.bind_eq_some_iff.mp H
                obtain ⟨t363, A240, H⟩ := H
                replace H : ((windlasshelp_Bytes.f t352 t363).bind fun t366 => (windlasslaw2_CodecNumbers.j1 kj6 a0 a1 a2 l3 t346 t349 t352 (!t366))) = some r := H
                have A24 := Aside0.mk A240
                clear A240
                replace H := Option.bind_eq_some_iff.mp H
                obtain ⟨t366, A250, H⟩ := H
                replace H : (windlasslaw2_CodecNumbers.j1 kj6 a0 a1 a2 l3 t346 t349 t352 (!t366)) = some r := H
                have A25 := Aside0.mk A250
                clear A250
                have H' := Aside0.mk H
                clear H
                go_wp2_with (first | ((with_reducible refine gate_callee (f := 21) rfl ?_); refine goesL_ (some 39) rfl rfl Try.func21 (by kernel_rfl) rfl #[.int .u64 a0] rfl (by (try simp only [List.map_toArray, List.map_cons, List.map_nil]); first | done | rfl | (simp only [List.length_drop, List.length_take]; rfl)) ?_; (with_reducible refine (windlassref2_PutUint.calls kj6 a0 t355 _ A18.out).mono ?_); rintro e w26 ⟨v356, rfl, ho0, hb⟩; refine ⟨_, rfl, ?_⟩; have n0_ := Aside0.mk (Kd.R_elder' (by (with_reducible repeat (first | apply Kd.R_alloc | apply Kd.R_drewN | apply Kd.R_drew)); exact HO348.out) (Kd.R_base ho0) hb); have n1_ := Aside0.mk (Kd.R_elder' (by (with_reducible repeat (first | apply Kd.R_alloc | apply Kd.R_drewN | apply Kd.R_drew)); exact HO351.out) (Kd.R_base ho0) hb); have n2_ := Aside0.mk (Kd.R_elder' (by (with_reducible repeat (first | apply Kd.R_alloc | apply Kd.R_drewN | apply Kd.R_drew)); exact HO354.out) (Kd.R_base ho0) hb); have n3_ := Aside0.mk (Kd.R_lower (Kd.R_new' (Kd.R_new' (Kd.R_new' ho0 (Kd.R_lt (by (with_reducible repeat (first | apply Kd.R_alloc | apply Kd.R_drewN | apply Kd.R_drew)); exact HO348.out))) (Kd.R_lt (by (with_reducible repeat (first | apply Kd.R_alloc | apply Kd.R_drewN | apply Kd.R_drew)); exact HO351.out))) (Kd.R_lt (by (with_reducible repeat (first | apply Kd.R_alloc | apply Kd.R_drewN | apply Kd.R_drew)); exact HO354.out))) (below_size (by repeat (first | (with_reducible first | exact HB.out | apply below_alloc | apply pw_below_drewN | apply below_drew1) | exact HB.out)))); have n4_ := Aside0.mk (below_step (by repeat (first | (with_reducible first | exact HB.out | apply below_alloc | apply pw_below_drewN | apply below_drew1) | exact HB.out)) hb); clear HO348; clear HO351; clear HO354; clear HB; have HO348 := n0_; have HO351 := n1_; have HO354 := n2_; have HO357 := n3_; have HB := n4_; clear n0_ n1_ n2_ n3_ n4_; (try clear hb); (try clear hb2); (try clear hk); (try clear hi); (try clear ho0); obtain ⟨Ao27, co27, eo27⟩ := Kd.R_slice HO348.out; subst eo27; obtain ⟨Ao28, co28, eo28⟩ := Kd.R_slice HO357.out; subst eo28) | ((with_reducible refine gate_callee (f := 16) rfl ?_); refine goesL_ (some 40) rfl rfl Try.func16 (by kernel_rfl) rfl #[.slice Ao27 t346.length co27, .slice Ao28 t355.length co28] rfl (by (try simp only [List.map_toArray, List.map_cons, List.map_nil]); first | done | rfl | (simp only [List.length_drop, List.length_take]; rfl)) ?_; (with_reducible refine (windlasshelp_Bytes.calls _ _ t346 _ _ t355 true _ ?side1 ?side2 ?side3 ?side4 A19.out).mono ?_); (case side1 => repeat (first | exact (Kd.R_reads' HO348.out).2.2 | (with_reducible refine Kd.C_alloc ?_ _) | (with_reducible refine Kd.C_drewN ?_ _) | (with_reducible refine Kd.C_drew ?_))); (case side2 => exact (Kd.R_reads' HO348.out).2.1); (case side3 => repeat (first | exact (Kd.R_reads' HO357.out).2.2 | (with_reducible refine Kd.C_alloc ?_ _) | (with_reducible refine Kd.C_drewN ?_ _) | (with_reducible refine Kd.C_drew ?_))); (case side4 => exact (Kd.R_reads' HO357.out).2.1); rintro e w' ⟨rfl, ⟨nd, rfl⟩⟩; refine ⟨_, rfl, ?_⟩) | (go_at_call 22; (with_reducible refine (windlassref2_PutInt.calls kj6 a1 t359 _ A21.out).mono ?_); rintro e w29 ⟨v360, rfl, ho0, hb⟩; have n0_ := Aside0.mk (Kd.R_elder' (by (with_reducible repeat (first | apply Kd.R_alloc | apply Kd.R_drewN | apply Kd.R_drew)); exact HO348.out) (Kd.R_base ho0) hb); have n1_ := Aside0.mk (Kd.R_elder' (by (with_reducible repeat (first | apply Kd.R_alloc | apply Kd.R_drewN | apply Kd.R_drew)); exact HO351.out) (Kd.R_base ho0) hb); have n2_ := Aside0.mk (Kd.R_elder' (by (with_reducible repeat (first | apply Kd.R_alloc | apply Kd.R_drewN | apply Kd.R_drew)); exact HO354.out) (Kd.R_base ho0) hb); have n3_ := Aside0.mk (Kd.R_elder' (by (with_reducible repeat (first | apply Kd.R_alloc | apply Kd.R_drewN | apply Kd.R_drew)); exact HO357.out) (Kd.R_base ho0) hb); have n4_ := Aside0.mk (Kd.R_lower (Kd.R_new' (Kd.R_new' (Kd.R_new' (Kd.R_new' ho0 (Kd.R_lt (by (with_reducible repeat (first | apply Kd.R_alloc | apply Kd.R_drewN | apply Kd.R_drew)); exact HO348.out))) (Kd.R_lt (by (with_reducible repeat (first | apply Kd.R_alloc | apply Kd.R_drewN | apply Kd.R_drew)); exact HO351.out))) (Kd.R_lt (by (with_reducible repeat (first | apply Kd.R_alloc | apply Kd.R_drewN | apply Kd.R_drew)); exact HO354.out))) (Kd.R_lt (by (with_reducible repeat (first | apply Kd.R_alloc | apply Kd.R_drewN | apply Kd.R_drew)); exact HO357.out))) (below_size (by repeat (first | (with_reducible first | exact HB.out | apply below_alloc | apply pw_below_drewN | apply below_drew1) | exact HB.out)))); have n5_ := Aside0.mk (below_step (by repeat (first | (with_reducible first | exact HB.out | apply below_alloc | apply pw_below_drewN | apply below_drew1) | exact HB.out)) hb); clear HO348; clear HO351; clear HO354; clear HO357; clear HB; have HO348 := n0_; have HO351 := n1_; have HO354 := n2_; have HO357 := n3_; have HO361 := n4_; have HB := n5_; clear n0_ n1_ n2_ n3_ n4_ n5_; (try clear hb); (try clear hb2); (try clear hk); (try clear hi); (try clear ho0); obtain ⟨Ao30, co30, eo30⟩ := Kd.R_slice HO351.out; subst eo30; obtain ⟨Ao31, co31, eo31⟩ := Kd.R_slice HO361.out; subst eo31) | (go_at_call 16; (with_reducible refine (windlasshelp_Bytes.calls _ _ t349 _ _ t359 true _ ?side1 ?side2 ?side3 ?side4 A22.out).mono ?_); (case side1 => repeat (first | exact (Kd.R_reads' HO351.out).2.2 | (with_reducible refine Kd.C_alloc ?_ _) | (with_reducible refine Kd.C_drewN ?_ _) | (with_reducible refine Kd.C_drew ?_))); (case side2 => exact (Kd.R_reads' HO351.out).2.1); (case side3 => repeat (first | exact (Kd.R_reads' HO361.out).2.2 | (with_reducible refine Kd.C_alloc ?_ _) | (with_reducible refine Kd.C_drewN ?_ _) | (with_reducible refine Kd.C_drew ?_))); (case side4 => exact (Kd.R_reads' HO361.out).2.1); rintro e w' ⟨rfl, ⟨nd, rfl⟩⟩) | (go_at_call 23; (with_reducible refine (windlassref2_PutText.calls kj6 a2 t363 _ A24.out).mono ?_); rintro e w32 ⟨v364, rfl, ho0, hb⟩; have n0_ := Aside0.mk (Kd.R_elder' (by (with_reducible repeat (first | apply Kd.R_alloc | apply Kd.R_drewN | apply Kd.R_drew)); exact HO348.out) (Kd.R_base ho0) hb); have n1_ := Aside0.mk (Kd.R_elder' (by (with_reducible repeat (first | apply Kd.R_alloc | apply Kd.R_drewN | apply Kd.R_drew)); exact HO351.out) (Kd.R_base ho0) hb); have n2_ := Aside0.mk (Kd.R_elder' (by (with_reducible repeat (first | apply Kd.R_alloc | apply Kd.R_drewN | apply Kd.R_drew)); exact HO354.out) (Kd.R_base ho0) hb); have n3_ := Aside0.mk (Kd.R_elder' (by (with_reducible repeat (first | apply Kd.R_alloc | apply Kd.R_drewN | apply Kd.R_drew)); exact HO357.out) (Kd.R_base ho0) hb); have n4_ := Aside0.mk (Kd.R_elder' (by (with_reducible repeat (first | apply Kd.R_alloc | apply Kd.R_drewN | apply Kd.R_drew)); exact HO361.out) (Kd.R_base ho0) hb); have n5_ := Aside0.mk (Kd.R_lower (Kd.R_new' (Kd.R_new' (Kd.R_new' (Kd.R_new' (Kd.R_new' ho0 (Kd.R_lt (by (with_reducible repeat (first | apply Kd.R_alloc | apply Kd.R_drewN | apply Kd.R_drew)); exact HO348.out))) (Kd.R_lt (by (with_reducible repeat (first | apply Kd.R_alloc | apply Kd.R_drewN | apply Kd.R_drew)); exact HO351.out))) (Kd.R_lt (by (with_reducible repeat (first | apply Kd.R_alloc | apply Kd.R_drewN | apply Kd.R_drew)); exact HO354.out))) (Kd.R_lt (by (with_reducible repeat (first | apply Kd.R_alloc | apply Kd.R_drewN | apply Kd.R_drew)); exact HO357.out))) (Kd.R_lt (by (with_reducible repeat (first | apply Kd.R_alloc | apply Kd.R_drewN | apply Kd.R_drew)); exact HO361.out))) (below_size (by repeat (first | (with_reducible first | exact HB.out | apply below_alloc | apply pw_below_drewN | apply below_drew1) | exact HB.out)))); have n6_ := Aside0.mk (below_step (by repeat (first | (with_reducible first | exact HB.out | apply below_alloc | apply pw_below_drewN | apply below_drew1) | exact HB.out)) hb); clear HO348; clear HO351; clear HO354; clear HO357; clear HO361; clear HB; have HO348 := n0_; have HO351 := n1_; have HO354 := n2_; have HO357 := n3_; have HO361 := n4_; have HO365 := n5_; have HB := n6_; clear n0_ n1_ n2_ n3_ n4_ n5_ n6_; (try clear hb); (try clear hb2); (try clear hk); (try clear hi); (try clear ho0); obtain ⟨Ao33, co33, eo33⟩ := Kd.R_slice HO354.out; subst eo33; obtain ⟨Ao34, co34, eo34⟩ := Kd.R_slice HO365.out; subst eo34) | (go_at_call 16; (with_reducible refine (windlasshelp_Bytes.calls _ _ t352 _ _ t363 t366 _ ?side1 ?side2 ?side3 ?side4 A25.out).mono ?_); (case side1 => repeat (first | exact (Kd.R_reads' HO354.out).2.2 | (with_reducible refine Kd.C_alloc ?_ _) | (with_reducible refine Kd.C_drewN ?_ _) | (with_reducible refine Kd.C_drew ?_))); (case side2 => exact (Kd.R_reads' HO354.out).2.1); (case side3 => repeat (first | exact (Kd.R_reads' HO365.out).2.2 | (with_reducible refine Kd.C_alloc ?_ _) | (with_reducible refine Kd.C_drewN ?_ _) | (with_reducible refine Kd.C_drew ?_))); (case side4 => exact (Kd.R_reads' HO365.out).2.1); rintro e w' ⟨rfl, ⟨nd, rfl⟩⟩))
                go_meet
                case rel => exact ⟨_, (!t366), (by first | rfl | (simp; done) | (simp [*]; done)), H', ⟨by have := HJ6.out; first | omega | exact Nat.le_refl _⟩, ⟨by (with_reducible repeat (first | apply Kd.R_alloc | apply Kd.R_drewN | apply Kd.R_drew)); exact Kd.R_mono HO348.out (fun _ hk => ⟨hk.1.1.1.1.2, hk.1.1.1.2⟩)⟩, ⟨by (with_reducible repeat (first | apply Kd.R_alloc | apply Kd.R_drewN | apply Kd.R_drew)); exact Kd.R_mono HO351.out (fun _ hk => ⟨hk.1.1.1.1.2, hk.1.1.1.2⟩)⟩, ⟨by (with_reducible repeat (first | apply Kd.R_alloc | apply Kd.R_drewN | apply Kd.R_drew)); exact Kd.R_mono HO354.out (fun _ hk => ⟨hk.1.1.1.1.2, hk.1.1.1.2⟩)⟩, ⟨by repeat (first | (with_reducible first | exact HB.out | apply below_alloc | apply pw_below_drewN | apply below_drew1) | exact HB.out)⟩⟩
              · replace c23 := Bool.eq_false_iff.mpr c23
                subst c23
                have H1 : (windlasslaw2_CodecNumbers.j1 kj6 a0 a1 a2 l3 t346 t349 t352 true) = some r := by rw [if_neg (show ¬ (false = true) by decide)] at H; exact H
                clear H
                have H := H1
                clear H1
                have H' := Aside0.mk H
                clear H
                go_wp2_with (first | ((with_reducible refine gate_callee (f := 21) rfl ?_); refine goesL_ (some 39) rfl rfl Try.func21 (by kernel_rfl) rfl #[.int .u64 a0] rfl (by (try simp only [List.map_toArray, List.map_cons, List.map_nil]); first | done | rfl | (simp only [List.length_drop, List.length_take]; rfl)) ?_; (with_reducible refine (windlassref2_PutUint.calls kj6 a0 t355 _ A18.out).mono ?_); rintro e w35 ⟨v356, rfl, ho0, hb⟩; refine ⟨_, rfl, ?_⟩; have n0_ := Aside0.mk (Kd.R_elder' (by (with_reducible repeat (first | apply Kd.R_alloc | apply Kd.R_drewN | apply Kd.R_drew)); exact HO348.out) (Kd.R_base ho0) hb); have n1_ := Aside0.mk (Kd.R_elder' (by (with_reducible repeat (first | apply Kd.R_alloc | apply Kd.R_drewN | apply Kd.R_drew)); exact HO351.out) (Kd.R_base ho0) hb); have n2_ := Aside0.mk (Kd.R_elder' (by (with_reducible repeat (first | apply Kd.R_alloc | apply Kd.R_drewN | apply Kd.R_drew)); exact HO354.out) (Kd.R_base ho0) hb); have n3_ := Aside0.mk (Kd.R_lower (Kd.R_new' (Kd.R_new' (Kd.R_new' ho0 (Kd.R_lt (by (with_reducible repeat (first | apply Kd.R_alloc | apply Kd.R_drewN | apply Kd.R_drew)); exact HO348.out))) (Kd.R_lt (by (with_reducible repeat (first | apply Kd.R_alloc | apply Kd.R_drewN | apply Kd.R_drew)); exact HO351.out))) (Kd.R_lt (by (with_reducible repeat (first | apply Kd.R_alloc | apply Kd.R_drewN | apply Kd.R_drew)); exact HO354.out))) (below_size (by repeat (first | (with_reducible first | exact HB.out | apply below_alloc | apply pw_below_drewN | apply below_drew1) | exact HB.out)))); have n4_ := Aside0.mk (below_step (by repeat (first | (with_reducible first | exact HB.out | apply below_alloc | apply pw_below_drewN | apply below_drew1) | exact HB.out)) hb); clear HO348; clear HO351; clear HO354; clear HB; have HO348 := n0_; have HO351 := n1_; have HO354 := n2_; have HO357 := n3_; have HB := n4_; clear n0_ n1_ n2_ n3_ n4_; (try clear hb); (try clear hb2); (try clear hk); (try clear hi); (try clear ho0); obtain ⟨Ao36, co36, eo36⟩ := Kd.R_slice HO348.out; subst eo36; obtain ⟨Ao37, co37, eo37⟩ := Kd.R_slice HO357.out; subst eo37) | ((with_reducible refine gate_callee (f := 16) rfl ?_); refine goesL_ (some 40) rfl rfl Try.func16 (by kernel_rfl) rfl #[.slice Ao36 t346.length co36, .slice Ao37 t355.length co37] rfl (by (try simp only [List.map_toArray, List.map_cons, List.map_nil]); first | done | rfl | (simp only [List.length_drop, List.length_take]; rfl)) ?_; (with_reducible refine (windlasshelp_Bytes.calls _ _ t346 _ _ t355 true _ ?side1 ?side2 ?side3 ?side4 A19.out).mono ?_); (case side1 => repeat (first | exact (Kd.R_reads' HO348.out).2.2 | (with_reducible refine Kd.C_alloc ?_ _) | (with_reducible refine Kd.C_drewN ?_ _) | (with_reducible refine Kd.C_drew ?_))); (case side2 => exact (Kd.R_reads' HO348.out).2.1); (case side3 => repeat (first | exact (Kd.R_reads' HO357.out).2.2 | (with_reducible refine Kd.C_alloc ?_ _) | (with_reducible refine Kd.C_drewN ?_ _) | (with_reducible refine Kd.C_drew ?_))); (case side4 => exact (Kd.R_reads' HO357.out).2.1); rintro e w' ⟨rfl, ⟨nd, rfl⟩⟩; refine ⟨_, rfl, ?_⟩) | (go_at_call 22; (with_reducible refine (windlassref2_PutInt.calls kj6 a1 t359 _ A21.out).mono ?_); rintro e w38 ⟨v360, rfl, ho0, hb⟩; have n0_ := Aside0.mk (Kd.R_elder' (by (with_reducible repeat (first | apply Kd.R_alloc | apply Kd.R_drewN | apply Kd.R_drew)); exact HO348.out) (Kd.R_base ho0) hb); have n1_ := Aside0.mk (Kd.R_elder' (by (with_reducible repeat (first | apply Kd.R_alloc | apply Kd.R_drewN | apply Kd.R_drew)); exact HO351.out) (Kd.R_base ho0) hb); have n2_ := Aside0.mk (Kd.R_elder' (by (with_reducible repeat (first | apply Kd.R_alloc | apply Kd.R_drewN | apply Kd.R_drew)); exact HO354.out) (Kd.R_base ho0) hb); have n3_ := Aside0.mk (Kd.R_elder' (by (with_reducible repeat (first | apply Kd.R_alloc | apply Kd.R_drewN | apply Kd.R_drew)); exact HO357.out) (Kd.R_base ho0) hb); have n4_ := Aside0.mk (Kd.R_lower (Kd.R_new' (Kd.R_new' (Kd.R_new' (Kd.R_new' ho0 (Kd.R_lt (by (with_reducible repeat (first | apply Kd.R_alloc | apply Kd.R_drewN | apply Kd.R_drew)); exact HO348.out))) (Kd.R_lt (by (with_reducible repeat (first | apply Kd.R_alloc | apply Kd.R_drewN | apply Kd.R_drew)); exact HO351.out))) (Kd.R_lt (by (with_reducible repeat (first | apply Kd.R_alloc | apply Kd.R_drewN | apply Kd.R_drew)); exact HO354.out))) (Kd.R_lt (by (with_reducible repeat (first | apply Kd.R_alloc | apply Kd.R_drewN | apply Kd.R_drew)); exact HO357.out))) (below_size (by repeat (first | (with_reducible first | exact HB.out | apply below_alloc | apply pw_below_drewN | apply below_drew1) | exact HB.out)))); have n5_ := Aside0.mk (below_step (by repeat (first | (with_reducible first | exact HB.out | apply below_alloc | apply pw_below_drewN | apply below_drew1) | exact HB.out)) hb); clear HO348; clear HO351; clear HO354; clear HO357; clear HB; have HO348 := n0_; have HO351 := n1_; have HO354 := n2_; have HO357 := n3_; have HO361 := n4_; have HB := n5_; clear n0_ n1_ n2_ n3_ n4_ n5_; (try clear hb); (try clear hb2); (try clear hk); (try clear hi); (try clear ho0); obtain ⟨Ao39, co39, eo39⟩ := Kd.R_slice HO351.out; subst eo39; obtain ⟨Ao40, co40, eo40⟩ := Kd.R_slice HO361.out; subst eo40) | (go_at_call 16; (with_reducible refine (windlasshelp_Bytes.calls _ _ t349 _ _ t359 false _ ?side1 ?side2 ?side3 ?side4 A22.out).mono ?_); (case side1 => repeat (first | exact (Kd.R_reads' HO351.out).2.2 | (with_reducible refine Kd.C_alloc ?_ _) | (with_reducible refine Kd.C_drewN ?_ _) | (with_reducible refine Kd.C_drew ?_))); (case side2 => exact (Kd.R_reads' HO351.out).2.1); (case side3 => repeat (first | exact (Kd.R_reads' HO361.out).2.2 | (with_reducible refine Kd.C_alloc ?_ _) | (with_reducible refine Kd.C_drewN ?_ _) | (with_reducible refine Kd.C_drew ?_))); (case side4 => exact (Kd.R_reads' HO361.out).2.1); rintro e w' ⟨rfl, ⟨nd, rfl⟩⟩))
                go_meet
                case rel => exact ⟨_, (true), (by first | rfl | (simp; done) | (simp [*]; done)), H', ⟨by have := HJ6.out; first | omega | exact Nat.le_refl _⟩, ⟨by (with_reducible repeat (first | apply Kd.R_alloc | apply Kd.R_drewN | apply Kd.R_drew)); exact Kd.R_mono HO348.out (fun _ hk => ⟨hk.1.1.1.2, hk.1.1.2⟩)⟩, ⟨by (with_reducible repeat (first | apply Kd.R_alloc | apply Kd.R_drewN | apply Kd.R_drew)); exact Kd.R_mono HO351.out (fun _ hk => ⟨hk.1.1.1.2, hk.1.1.2⟩)⟩, ⟨by (with_reducible repeat (first | apply Kd.R_alloc | apply Kd.R_drewN | apply Kd.R_drew)); exact Kd.R_mono HO354.out (fun _ hk => ⟨hk.1.1.1.2, hk.1.1.2⟩)⟩, ⟨by repeat (first | (with_reducible first | exact HB.out | apply below_alloc | apply pw_below_drewN | apply below_drew1) | exact HB.out)⟩⟩
            · replace c20 := Bool.eq_false_iff.mpr c20
              subst c20
              have H1 : (windlasslaw2_CodecNumbers.j1 kj6 a0 a1 a2 l3 t346 t349 t352 true) = some r := by rw [if_neg (show ¬ (false = true) by decide)] at H; exact H
              clear H
              have H := H1
              clear H1
              have H' := Aside0.mk H
              clear H
              go_wp2_with (first | ((with_reducible refine gate_callee (f := 21) rfl ?_); refine goesL_ (some 39) rfl rfl Try.func21 (by kernel_rfl) rfl #[.int .u64 a0] rfl (by (try simp only [List.map_toArray, List.map_cons, List.map_nil]); first | done | rfl | (simp only [List.length_drop, List.length_take]; rfl)) ?_; (with_reducible refine (windlassref2_PutUint.calls kj6 a0 t355 _ A18.out).mono ?_); rintro e w41 ⟨v356, rfl, ho0, hb⟩; refine ⟨_, rfl, ?_⟩; have n0_ := Aside0.mk (Kd.R_elder' (by (with_reducible repeat (first | apply Kd.R_alloc | apply Kd.R_drewN | apply Kd.R_drew)); exact HO348.out) (Kd.R_base ho0) hb); have n1_ := Aside0.mk (Kd.R_elder' (by (with_reducible repeat (first | apply Kd.R_alloc | apply Kd.R_drewN | apply Kd.R_drew)); exact HO351.out) (Kd.R_base ho0) hb); have n2_ := Aside0.mk (Kd.R_elder' (by (with_reducible repeat (first | apply Kd.R_alloc | apply Kd.R_drewN | apply Kd.R_drew)); exact HO354.out) (Kd.R_base ho0) hb); have n3_ := Aside0.mk (Kd.R_lower (Kd.R_new' (Kd.R_new' (Kd.R_new' ho0 (Kd.R_lt (by (with_reducible repeat (first | apply Kd.R_alloc | apply Kd.R_drewN | apply Kd.R_drew)); exact HO348.out))) (Kd.R_lt (by (with_reducible repeat (first | apply Kd.R_alloc | apply Kd.R_drewN | apply Kd.R_drew)); exact HO351.out))) (Kd.R_lt (by (with_reducible repeat (first | apply Kd.R_alloc | apply Kd.R_drewN | apply Kd.R_drew)); exact HO354.out))) (below_size (by repeat (first | (with_reducible first | exact HB.out | apply below_alloc | apply pw_below_drewN | apply below_drew1) | exact HB.out)))); have n4_ := Aside0.mk (below_step (by repeat (first | (with_reducible first | exact HB.out | apply below_alloc | apply pw_below_drewN | apply below_drew1) | exact HB.out)) hb); clear HO348; clear HO351; clear HO354; clear HB; have HO348 := n0_; have HO351 := n1_; have HO354 := n2_; have HO357 := n3_; have HB := n4_; clear n0_ n1_ n2_ n3_ n4_; (try clear hb); (try clear hb2); (try clear hk); (try clear hi); (try clear ho0); obtain ⟨Ao42, co42, eo42⟩ := Kd.R_slice HO348.out; subst eo42; obtain ⟨Ao43, co43, eo43⟩ := Kd.R_slice HO357.out; subst eo43) | ((with_reducible refine gate_callee (f := 16) rfl ?_); refine goesL_ (some 40) rfl rfl Try.func16 (by kernel_rfl) rfl #[.slice Ao42 t346.length co42, .slice Ao43 t355.length co43] rfl (by (try simp only [List.map_toArray, List.map_cons, List.map_nil]); first | done | rfl | (simp only [List.length_drop, List.length_take]; rfl)) ?_; (with_reducible refine (windlasshelp_Bytes.calls _ _ t346 _ _ t355 false _ ?side1 ?side2 ?side3 ?side4 A19.out).mono ?_); (case side1 => repeat (first | exact (Kd.R_reads' HO348.out).2.2 | (with_reducible refine Kd.C_alloc ?_ _) | (with_reducible refine Kd.C_drewN ?_ _) | (with_reducible refine Kd.C_drew ?_))); (case side2 => exact (Kd.R_reads' HO348.out).2.1); (case side3 => repeat (first | exact (Kd.R_reads' HO357.out).2.2 | (with_reducible refine Kd.C_alloc ?_ _) | (with_reducible refine Kd.C_drewN ?_ _) | (with_reducible refine Kd.C_drew ?_))); (case side4 => exact (Kd.R_reads' HO357.out).2.1); rintro e w' ⟨rfl, ⟨nd, rfl⟩⟩; refine ⟨_, rfl, ?_⟩))
              go_meet
              case rel => exact ⟨_, (true), (by first | rfl | (simp; done) | (simp [*]; done)), H', ⟨by have := HJ6.out; first | omega | exact Nat.le_refl _⟩, ⟨by (with_reducible repeat (first | apply Kd.R_alloc | apply Kd.R_drewN | apply Kd.R_drew)); exact Kd.R_mono HO348.out (fun _ hk => ⟨hk.1.1.2, hk.1.2⟩)⟩, ⟨by (with_reducible repeat (first | apply Kd.R_alloc | apply Kd.R_drewN | apply Kd.R_drew)); exact Kd.R_mono HO351.out (fun _ hk => ⟨hk.1.1.2, hk.1.2⟩)⟩, ⟨by (with_reducible repeat (first | apply Kd.R_alloc | apply Kd.R_drewN | apply Kd.R_drew)); exact Kd.R_mono HO354.out (fun _ hk => ⟨hk.1.1.2, hk.1.2⟩)⟩, ⟨by repeat (first | (with_reducible first | exact HB.out | apply below_alloc | apply pw_below_drewN | apply below_drew1) | exact HB.out)⟩⟩
          case rest =>
            clear HC14
            try clear c1
            try clear c2
            try clear p2
            try clear c3
            try clear c5
            try clear c6
            try clear c9
            try clear c9b0
            try clear c9b1
            try clear c10
            try clear c16
            try clear c17
            try clear c19
            try clear c20
            try clear c21
            try clear c23
            try clear p2
            obtain ⟨kq, x55_13, rfl, HA, HJ13, HO_9, HO_10, HO_11, HB⟩ := hcut
            cases kq with
            | zero => exact absurd HA.out (by simp [windlasslaw2_CodecNumbers.j1])
            | succ kj13 =>
              have H := HA.out
              clear HA
              simp only [windlasslaw2_CodecNumbers.j1] at H
              by_cases c44 : x55_13 = true
              · subst c44
                have H1 : (some false) = some r := by rw [if_pos rfl] at H; exact H
                clear H
                have H := H1
                clear H1
                obtain rfl := Option.some.inj H
                go_wp2
                go_ret
                exact ⟨by first | rfl | (simp [errW_none, errW_some] <;> rfl) | (simp [*, errW_none, errW_some] <;> rfl), by repeat (first | (with_reducible first | exact HB.out | apply below_alloc | apply pw_below_drewN | apply below_drew1) | exact HB.out)⟩
              · replace c44 := Bool.eq_false_iff.mpr c44
                subst c44
                have H1 : (if ([] : List Int).length + t346.length < 140737488355328 then ((some (([] : List Int) ++ t346 : List Int)).bind fun y367 => (if y367.length + l3.length < 140737488355328 then ((codec_Uint.f kj13 (y367 ++ l3)).bind fun bt373 => (if ([] : List Int).length + t349.length < 140737488355328 then ((some (([] : List Int) ++ t349 : List Int)).bind fun y376 => (if y376.length + l3.length < 140737488355328 then ((codec_Int.f kj13 (y376 ++ l3)).bind fun bt382 => (if ([] : List Int).length + t352.length < 140737488355328 then ((some (([] : List Int) ++ t352 : List Int)).bind fun y385 => (if y385.length + l3.length < 140737488355328 then ((codec_Text.f kj13 (y385 ++ l3)).bind fun bt391 => (if bt373.2.2 = 0 then (if bt382.2.2 = 0 then (if bt373.1 = a0 then (if bt382.1 = a1 then (if bt373.2.1 = (t346.length : Int) then (windlasslaw2_CodecNumbers.j2 kj13 a2 t352 bt391.1 bt391.2.1 bt391.2.2 (bt382.2.1 != (t349.length : Int))) else (windlasslaw2_CodecNumbers.j2 kj13 a2 t352 bt391.1 bt391.2.1 bt391.2.2 true)) else (windlasslaw2_CodecNumbers.j2 kj13 a2 t352 bt391.1 bt391.2.1 bt391.2.2 true)) else (windlasslaw2_CodecNumbers.j2 kj13 a2 t352 bt391.1 bt391.2.1 bt391.2.2 true)) else (windlasslaw2_CodecNumbers.j2 kj13 a2 t352 bt391.1 bt391.2.1 bt391.2.2 true)) else (windlasslaw2_CodecNumbers.j2 kj13 a2 t352 bt391.1 bt391.2.1 bt391.2.2 true))) else (none))) else (none))) else (none))) else (none))) else (none))) else (none)) = some r := by rw [if_neg (show ¬ (false = true) by decide)] at H; exact H
                clear H
                have H := H1
                clear H1
                by_cases c45 : ([] : List Int).length + t346.length < 140737488355328
                · rw [if_pos c45] at H
                  have LMc45 := Aside0.mk c45
                  clear c45
                  obtain ⟨y367, hy367⟩ : ∃ y_ : List Int, y_ = (([] : List Int) ++ t346) := ⟨_, rfl⟩
                  replace H : (if y367.length + l3.length < 140737488355328 then ((codec_Uint.f kj13 (y367 ++ l3)).bind fun bt373 => (if ([] : List Int).length + t349.length < 140737488355328 then ((some (([] : List Int) ++ t349 : List Int)).bind fun y376 => (if y376.length + l3.length < 140737488355328 then ((codec_Int.f kj13 (y376 ++ l3)).bind fun bt382 => (if ([] : List Int).length + t352.length < 140737488355328 then ((some (([] : List Int) ++ t352 : List Int)).bind fun y385 => (if y385.length + l3.length < 140737488355328 then ((codec_Text.f kj13 (y385 ++ l3)).bind fun bt391 => (if bt373.2.2 = 0 then (if bt382.2.2 = 0 then (if bt373.1 = a0 then (if bt382.1 = a1 then (if bt373.2.1 = (t346.length : Int) then (windlasslaw2_CodecNumbers.j2 kj13 a2 t352 bt391.1 bt391.2.1 bt391.2.2 (bt382.2.1 != (t349.length : Int))) else (windlasslaw2_CodecNumbers.j2 kj13 a2 t352 bt391.1 bt391.2.1 bt391.2.2 true)) else (windlasslaw2_CodecNumbers.j2 kj13 a2 t352 bt391.1 bt391.2.1 bt391.2.2 true)) else (windlasslaw2_CodecNumbers.j2 kj13 a2 t352 bt391.1 bt391.2.1 bt391.2.2 true)) else (windlasslaw2_CodecNumbers.j2 kj13 a2 t352 bt391.1 bt391.2.1 bt391.2.2 true)) else (windlasslaw2_CodecNumbers.j2 kj13 a2 t352 bt391.1 bt391.2.1 bt391.2.2 true))) else (none))) else (none))) else (none))) else (none))) else (none)) = some r := by first | (rw [hy367]; with_reducible exact H) | (have H2_ := (Option.bind_some _ _).symm.trans H; rw [hy367]; with_reducible exact H2_) | (have H2_ := (Option.bind_some _ _).symm.trans H; with_reducible exact H2_) | with_reducible exact H | (rw [hy367]; exact H) | exact H
                  have Ny367 := Aside0.mk hy367
                  clear hy367
                  by_cases c46 : y367.length + l3.length < 140737488355328
                  · rw [if_pos c46] at H
                    have LMc46 := Aside0.mk c46
                    clear c46
                    obtain ⟨y370, hy370⟩ : ∃ y_ : List Int, y_ = (y367 ++ l3) := ⟨_, rfl⟩
                    replace H : ((codec_Uint.f kj13 y370).bind fun bt373 => (if ([] : List Int).length + t349.length < 140737488355328 then ((some (([] : List Int) ++ t349 : List Int)).bind fun y376 => (if y376.length + l3.length < 140737488355328 then ((codec_Int.f kj13 (y376 ++ l3)).bind fun bt382 => (if ([] : List Int).length + t352.length < 140737488355328 then ((some (([] : List Int) ++ t352 : List Int)).bind fun y385 => (if y385.length + l3.length < 140737488355328 then ((codec_Text.f kj13 (y385 ++ l3)).bind fun bt391 => (if bt373.2.2 = 0 then (if bt382.2.2 = 0 then (if bt373.1 = a0 then (if bt382.1 = a1 then (if bt373.2.1 = (t346.length : Int) then (windlasslaw2_CodecNumbers.j2 kj13 a2 t352 bt391.1 bt391.2.1 bt391.2.2 (bt382.2.1 != (t349.length : Int))) else (windlasslaw2_CodecNumbers.j2 kj13 a2 t352 bt391.1 bt391.2.1 bt391.2.2 true)) else (windlasslaw2_CodecNumbers.j2 kj13 a2 t352 bt391.1 bt391.2.1 bt391.2.2 true)) else (windlasslaw2_CodecNumbers.j2 kj13 a2 t352 bt391.1 bt391.2.1 bt391.2.2 true)) else (windlasslaw2_CodecNumbers.j2 kj13 a2 t352 bt391.1 bt391.2.1 bt391.2.2 true)) else (windlasslaw2_CodecNumbers.j2 kj13 a2 t352 bt391.1 bt391.2.1 bt391.2.2 true))) else (none))) else (none))) else (none))) else (none))) = some r := by first | (rw [hy370]; with_reducible exact H) | (have H2_ := (Option.bind_some _ _).symm.trans H; rw [hy370]; with_reducible exact H2_) | (have H2_ := (Option.bind_some _ _).symm.trans H; with_reducible exact H2_) | with_reducible exact H | (rw [hy370]; exact H) | exact H
                    have Ny370 := Aside0.mk hy370
                    clear hy370
                    replace H := Option.bind_eq_some_iff.mp H
                    obtain ⟨⟨t373, t374, t375⟩, A470, H⟩ := H
                    replace H : (if ([] : List Int).length + t349.length < 140737488355328 then ((some (([] : List Int) ++ t349 : List Int)).bind fun y376 => (if y376.length + l3.length < 140737488355328 then ((codec_Int.f kj13 (y376 ++ l3)).bind fun bt382 => (if ([] : List Int).length + t352.length < 140737488355328 then ((some (([] : List Int) ++ t352 : List Int)).bind fun y385 => (if y385.length + l3.length < 140737488355328 then ((codec_Text.f kj13 (y385 ++ l3)).bind fun bt391 => (if t375 = 0 then (if bt382.2.2 = 0 then (if t373 = a0 then (if bt382.1 = a1 then (if t374 = (t346.length : Int) then (windlasslaw2_CodecNumbers.j2 kj13 a2 t352 bt391.1 bt391.2.1 bt391.2.2 (bt382.2.1 != (t349.length : Int))) else (windlasslaw2_CodecNumbers.j2 kj13 a2 t352 bt391.1 bt391.2.1 bt391.2.2 true)) else (windlasslaw2_CodecNumbers.j2 kj13 a2 t352 bt391.1 bt391.2.1 bt391.2.2 true)) else (windlasslaw2_CodecNumbers.j2 kj13 a2 t352 bt391.1 bt391.2.1 bt391.2.2 true)) else (windlasslaw2_CodecNumbers.j2 kj13 a2 t352 bt391.1 bt391.2.1 bt391.2.2 true)) else (windlasslaw2_CodecNumbers.j2 kj13 a2 t352 bt391.1 bt391.2.1 bt391.2.2 true))) else (none))) else (none))) else (none))) else (none)) = some r := H
                    have A47 := Aside0.mk A470
                    clear A470
                    by_cases c48 : ([] : List Int).length + t349.length < 140737488355328
                    · rw [if_pos c48] at H
                      have LMc48 := Aside0.mk c48
                      clear c48
                      obtain ⟨y376, hy376⟩ : ∃ y_ : List Int, y_ = (([] : List Int) ++ t349) := ⟨_, rfl⟩
                      replace H : (if y376.length + l3.length < 140737488355328 then ((codec_Int.f kj13 (y376 ++ l3)).bind fun bt382 => (if ([] : List Int).length + t352.length < 140737488355328 then ((some (([] : List Int) ++ t352 : List Int)).bind fun y385 => (if y385.length + l3.length < 140737488355328 then ((codec_Text.f kj13 (y385 ++ l3)).bind fun bt391 => (if t375 = 0 then (if bt382.2.2 = 0 then (if t373 = a0 then (if bt382.1 = a1 then (if t374 = (t346.length : Int) then (windlasslaw2_CodecNumbers.j2 kj13 a2 t352 bt391.1 bt391.2.1 bt391.2.2 (bt382.2.1 != (t349.length : Int))) else (windlasslaw2_CodecNumbers.j2 kj13 a2 t352 bt391.1 bt391.2.1 bt391.2.2 true)) else (windlasslaw2_CodecNumbers.j2 kj13 a2 t352 bt391.1 bt391.2.1 bt391.2.2 true)) else (windlasslaw2_CodecNumbers.j2 kj13 a2 t352 bt391.1 bt391.2.1 bt391.2.2 true)) else (windlasslaw2_CodecNumbers.j2 kj13 a2 t352 bt391.1 bt391.2.1 bt391.2.2 true)) else (windlasslaw2_CodecNumbers.j2 kj13 a2 t352 bt391.1 bt391.2.1 bt391.2.2 true))) else (none))) else (none))) else (none)) = some r := by first | (rw [hy376]; with_reducible exact H) | (have H2_ := (Option.bind_some _ _).symm.trans H; rw [hy376]; with_reducible exact H2_) | (have H2_ := (Option.bind_some _ _).symm.trans H; with_reducible exact H2_) | with_reducible exact H | (rw [hy376]; exact H) | exact H
                      have Ny376 := Aside0.mk hy376
                      clear hy376
                      by_cases c49 : y376.length + l3.length < 140737488355328
                      · rw [if_pos c49] at H
                        have LMc49 := Aside0.mk c49
                        clear c49
                        obtain ⟨y379, hy379⟩ : ∃ y_ : List Int, y_ = (y376 ++ l3) := ⟨_, rfl⟩
                        replace H : ((codec_Int.f kj13 y379).bind fun bt382 => (if ([] : List Int).length + t352.length < 140737488355328 then ((some (([] : List Int) ++ t352 : List Int)).bind fun y385 => (if y385.length + l3.length < 140737488355328 then ((codec_Text.f kj13 (y385 ++ l3)).bind fun bt391 => (if t375 = 0 then (if bt382.2.2 = 0 then (if t373 = a0 then (if bt382.1 = a1 then (if t374 = (t346.length : Int) then (windlasslaw2_CodecNumbers.j2 kj13 a2 t352 bt391.1 bt391.2.1 bt391.2.2 (bt382.2.1 != (t349.length : Int))) else (windlasslaw2_CodecNumbers.j2 kj13 a2 t352 bt391.1 bt391.2.1 bt391.2.2 true)) else (windlasslaw2_CodecNumbers.j2 kj13 a2 t352 bt391.1 bt391.2.1 bt391.2.2 true)) else (windlasslaw2_CodecNumbers.j2 kj13 a2 t352 bt391.1 bt391.2.1 bt391.2.2 true)) else (windlasslaw2_CodecNumbers.j2 kj13 a2 t352 bt391.1 bt391.2.1 bt391.2.2 true)) else (windlasslaw2_CodecNumbers.j2 kj13 a2 t352 bt391.1 bt391.2.1 bt391.2.2 true))) else (none))) else (none))) = some r := by first | (rw [hy379]; with_reducible exact H) | (have H2_ := (Option.bind_some _ _).symm.trans H; rw [hy379]; with_reducible exact H2_) | (have H2_ := (Option.bind_some _ _).symm.trans H; with_reducible exact H2_) | with_reducible exact H | (rw [hy379]; exact H) | exact H
                        have Ny379 := Aside0.mk hy379
                        clear hy379
                        replace H := Option.bind_eq_some_iff.mp H
                        obtain ⟨⟨t382, t383, t384⟩, A500, H⟩ := H
                        replace H : (if ([] : List Int).length + t352.length < 140737488355328 then ((some (([] : List Int) ++ t352 : List Int)).bind fun y385 => (if y385.length + l3.length < 140737488355328 then ((codec_Text.f kj13 (y385 ++ l3)).bind fun bt391 => (if t375 = 0 then (if t384 = 0 then (if t373 = a0 then (if t382 = a1 then (if t374 = (t346.length : Int) then (windlasslaw2_CodecNumbers.j2 kj13 a2 t352 bt391.1 bt391.2.1 bt391.2.2 (t383 != (t349.length : Int))) else (windlasslaw2_CodecNumbers.j2 kj13 a2 t352 bt391.1 bt391.2.1 bt391.2.2 true)) else (windlasslaw2_CodecNumbers.j2 kj13 a2 t352 bt391.1 bt391.2.1 bt391.2.2 true)) else (windlasslaw2_CodecNumbers.j2 kj13 a2 t352 bt391.1 bt391.2.1 bt391.2.2 true)) else (windlasslaw2_CodecNumbers.j2 kj13 a2 t352 bt391.1 bt391.2.1 bt391.2.2 true)) else (windlasslaw2_CodecNumbers.j2 kj13 a2 t352 bt391.1 bt391.2.1 bt391.2.2 true))) else (none))) else (none)) = some r := H
                        have A50 := Aside0.mk A500
                        clear A500
                        by_cases c51 : ([] : List Int).length + t352.length < 140737488355328
                        · rw [if_pos c51] at H
                          have LMc51 := Aside0.mk c51
                          clear c51
                          obtain ⟨y385, hy385⟩ : ∃ y_ : List Int, y_ = (([] : List Int) ++ t352) := ⟨_, rfl⟩
                          replace H : (if y385.length + l3.length < 140737488355328 then ((codec_Text.f kj13 (y385 ++ l3)).bind fun bt391 => (if t375 = 0 then (if t384 = 0 then (if t373 = a0 then (if t382 = a1 then (if t374 = (t346.length : Int) then (windlasslaw2_CodecNumbers.j2 kj13 a2 t352 bt391.1 bt391.2.1 bt391.2.2 (t383 != (t349.length : Int))) else (windlasslaw2_CodecNumbers.j2 kj13 a2 t352 bt391.1 bt391.2.1 bt391.2.2 true)) else (windlasslaw2_CodecNumbers.j2 kj13 a2 t352 bt391.1 bt391.2.1 bt391.2.2 true)) else (windlasslaw2_CodecNumbers.j2 kj13 a2 t352 bt391.1 bt391.2.1 bt391.2.2 true)) else (windlasslaw2_CodecNumbers.j2 kj13 a2 t352 bt391.1 bt391.2.1 bt391.2.2 true)) else (windlasslaw2_CodecNumbers.j2 kj13 a2 t352 bt391.1 bt391.2.1 bt391.2.2 true))) else (none)) = some r := by first | (rw [hy385]; with_reducible exact H) | (have H2_ := (Option.bind_some _ _).symm.trans H; rw [hy385]; with_reducible exact H2_) | (have H2_ := (Option.bind_some _ _).symm.trans H; with_reducible exact H2_) | with_reducible exact H | (rw [hy385]; exact H) | exact H
                          have Ny385 := Aside0.mk hy385
                          clear hy385
                          by_cases c52 : y385.length + l3.length < 140737488355328
                          · rw [if_pos c52] at H
                            have LMc52 := Aside0.mk c52
                            clear c52
                            obtain ⟨y388, hy388⟩ : ∃ y_ : List Int, y_ = (y385 ++ l3) := ⟨_, rfl⟩
                            replace H : ((codec_Text.f kj13 y388).bind fun bt391 => (if t375 = 0 then (if t384 = 0 then (if t373 = a0 then (if t382 = a1 then (if t374 = (t346.length : Int) then (windlasslaw2_CodecNumbers.j2 kj13 a2 t352 bt391.1 bt391.2.1 bt391.2.2 (t383 != (t349.length : Int))) else (windlasslaw2_CodecNumbers.j2 kj13 a2 t352 bt391.1 bt391.2.1 bt391.2.2 true)) else (windlasslaw2_CodecNumbers.j2 kj13 a2 t352 bt391.1 bt391.2.1 bt391.2.2 true)) else (windlasslaw2_CodecNumbers.j2 kj13 a2 t352 bt391.1 bt391.2.1 bt391.2.2 true)) else (windlasslaw2_CodecNumbers.j2 kj13 a2 t352 bt391.1 bt391.2.1 bt391.2.2 true)) else (windlasslaw2_CodecNumbers.j2 kj13 a2 t352 bt391.1 bt391.2.1 bt391.2.2 true))) = some r := by first | (rw [hy388]; with_reducible exact H) | (have H2_ := (Option.bind_some _ _).symm.trans H; rw [hy388]; with_reducible exact H2_) | (have H2_ := (Option.bind_some _ _).symm.trans H; with_reducible exact H2_) | with_reducible exact H | (rw [hy388]; exact H) | exact H
                            have Ny388 := Aside0.mk hy388
                            clear hy388
                            replace H := Option.bind_eq_some_iff.mp H
                            obtain ⟨⟨t391, t392, t393⟩, A530, H⟩ := H
                            replace H : (if t375 = 0 then (if t384 = 0 then (if t373 = a0 then (if t382 = a1 then (if t374 = (t346.length : Int) then (windlasslaw2_CodecNumbers.j2 kj13 a2 t352 t391 t392 t393 (t383 != (t349.length : Int))) else (windlasslaw2_CodecNumbers.j2 kj13 a2 t352 t391 t392 t393 true)) else (windlasslaw2_CodecNumbers.j2 kj13 a2 t352 t391 t392 t393 true)) else (windlasslaw2_CodecNumbers.j2 kj13 a2 t352 t391 t392 t393 true)) else (windlasslaw2_CodecNumbers.j2 kj13 a2 t352 t391 t392 t393 true)) else (windlasslaw2_CodecNumbers.j2 kj13 a2 t352 t391 t392 t393 true)) = some r := H
                            have A53 := Aside0.mk A530
                            clear A530
                            have HC54 := Aside0.mk H
                            clear H
                            obtain ⟨Ao56, co56, eo56⟩ := Kd.R_slice HO_9.out
                            subst eo56
                            go_upto_region 11 with (first | ((with_reducible refine gate_builtin (b := .append) (xs := #[(.const (.slice none 0 0)), .tmp 57]) rfl ?_); (try (refine gate_guard (by rfl) ?_; dsimp only)); at_builtin; refine Kd.R_append_rows (Kd.int .u8) (w0 := w) w.heap.size rfl (.const (.slice none 0 0)) (.tmp 57) 30 5 (.int .u8 0) 1 rfl Try.underlying30 info5 rfl (by decide) (by omega) (.slice none 0 0) ([] : List Int) t346 _ _ _ (fun k_ => some k_ ≠ (.slice Ao56 t346.length co56 : Value).ownBlock ∧ some k_ ≠ (v350 : Value).ownBlock ∧ some k_ ≠ (v353 : Value).ownBlock) (fun _ => False) rfl rfl ?aO ?aR (fun _ _ h => h) (fun _ h => h.elim) ?aF ?aB ?aS ?aL ?_; (case aR => repeat (first | exact (Kd.R_reads' HO_9.out).2.2 | (with_reducible refine Kd.C_alloc ?_ _) | (with_reducible refine Kd.C_drewN ?_ _) | (with_reducible refine Kd.C_drew ?_))); (case aB => exact (by repeat (first | (with_reducible first | exact HB.out | apply below_alloc | apply pw_below_drewN | apply below_drew1) | exact HB.out))); (case aF => exact (fun k_ hk => ⟨Kd.fresh' (Kd.R_lt (by (with_reducible repeat (first | apply Kd.R_alloc | apply Kd.R_drewN | apply Kd.R_drew)); exact HO_9.out)) k_ hk, Kd.fresh' (Kd.R_lt (by (with_reducible repeat (first | apply Kd.R_alloc | apply Kd.R_drewN | apply Kd.R_drew)); exact HO_10.out)) k_ hk, Kd.fresh' (Kd.R_lt (by (with_reducible repeat (first | apply Kd.R_alloc | apply Kd.R_drewN | apply Kd.R_drew)); exact HO_11.out)) k_ hk⟩)); (case aO => exact ((Kd.R_nil _ _ _ _ (fun k_ => some k_ ≠ (.slice Ao56 t346.length co56 : Value).ownBlock ∧ some k_ ≠ (v350 : Value).ownBlock ∧ some k_ ≠ (v353 : Value).ownBlock)))); (case aS => exact (below_size (by repeat (first | (with_reducible first | exact HB.out | apply below_alloc | apply pw_below_drewN | apply below_drew1) | exact HB.out)))); (case aL => have := LMc45.out; omega); intro v368 w55 ho hb hg hat; rw [← Ny367.out] at ho; have n0_ := Aside0.mk (Kd.R_after (Kd.R_apart_nil (by (with_reducible repeat (first | apply Kd.R_alloc | apply Kd.R_drewN | apply Kd.R_drew)); exact HO_9.out)) hg hat); have n1_ := Aside0.mk (Kd.R_after (Kd.R_apart_nil (by (with_reducible repeat (first | apply Kd.R_alloc | apply Kd.R_drewN | apply Kd.R_drew)); exact HO_10.out)) hg hat); have n2_ := Aside0.mk (Kd.R_after (Kd.R_apart_nil (by (with_reducible repeat (first | apply Kd.R_alloc | apply Kd.R_drewN | apply Kd.R_drew)); exact HO_11.out)) hg hat); have n3_ := Aside0.mk (hb); have n4_ := Aside0.mk (ho); clear HO_9; clear HO_10; clear HO_11; clear HB; have HO_9 := n0_; have HO_10 := n1_; have HO_11 := n2_; have HB := n3_; have HO369 := n4_; clear n0_ n1_ n2_ n3_ n4_; clear ho hb hg hat) | ((with_reducible refine gate_builtin (b := .append) (xs := #[.tmp 58, .tmp 59]) rfl ?_); (try (refine gate_guard (by rfl) ?_; dsimp only)); at_builtin; refine Kd.R_append_rows (Kd.int .u8) (w0 := w) w.heap.size rfl (.tmp 58) (.tmp 59) 30 5 (.int .u8 0) 1 rfl Try.underlying30 info5 rfl (by decide) (by omega) v368 y367 l3 _ _ _ (fun k_ => some k_ ≠ (.slice Ao56 t346.length co56 : Value).ownBlock ∧ some k_ ≠ (v350 : Value).ownBlock ∧ some k_ ≠ (v353 : Value).ownBlock) (fun _ => False) rfl rfl ?aO ?aR (fun _ _ h => h) (fun _ h => h.elim) ?aF ?aB ?aS ?aL ?_; (case aR => repeat (first | exact (Kd.C_below HR3.out HB.out) | (with_reducible refine Kd.C_alloc ?_ _) | (with_reducible refine Kd.C_drewN ?_ _) | (with_reducible refine Kd.C_drew ?_))); (case aB => exact (by repeat (first | (with_reducible first | exact HB.out | apply below_alloc | apply pw_below_drewN | apply below_drew1) | exact HB.out))); (case aF => exact (fun k_ hk => ⟨Kd.fresh' (Kd.R_lt (by (with_reducible repeat (first | apply Kd.R_alloc | apply Kd.R_drewN | apply Kd.R_drew)); exact HO_9.out)) k_ hk, Kd.fresh' (Kd.R_lt (by (with_reducible repeat (first | apply Kd.R_alloc | apply Kd.R_drewN | apply Kd.R_drew)); exact HO_10.out)) k_ hk, Kd.fresh' (Kd.R_lt (by (with_reducible repeat (first | apply Kd.R_alloc | apply Kd.R_drewN | apply Kd.R_drew)); exact HO_11.out)) k_ hk⟩)); (case aO => exact (by (with_reducible repeat (first | apply Kd.R_alloc | apply Kd.R_drewN | apply Kd.R_drew)); exact HO369.out)); (case aS => exact (below_size (by repeat (first | (with_reducible first | exact HB.out | apply below_alloc | apply pw_below_drewN | apply below_drew1) | exact HB.out)))); (case aL => have := LMc46.out; omega); intro v371 w57 ho hb hg hat; rw [← Ny370.out] at ho; have n0_ := Aside0.mk (Kd.R_after (ok := (fun k_ => some k_ ≠ (v350 : Value).ownBlock ∧ some k_ ≠ (v353 : Value).ownBlock)) (by (with_reducible repeat (first | apply Kd.R_alloc | apply Kd.R_drewN | apply Kd.R_drew)); exact HO_9.out) hg hat); have n1_ := Aside0.mk (Kd.R_after (ok := (fun k_ => some k_ ≠ (.slice Ao56 t346.length co56 : Value).ownBlock ∧ some k_ ≠ (v353 : Value).ownBlock)) (by (with_reducible repeat (first | apply Kd.R_alloc | apply Kd.R_drewN | apply Kd.R_drew)); exact HO_10.out) hg hat); have n2_ := Aside0.mk (Kd.R_after (ok := (fun k_ => some k_ ≠ (.slice Ao56 t346.length co56 : Value).ownBlock ∧ some k_ ≠ (v350 : Value).ownBlock)) (by (with_reducible repeat (first | apply Kd.R_alloc | apply Kd.R_drewN | apply Kd.R_drew)); exact HO_11.out) hg hat); have n3_ := Aside0.mk (hb); have n4_ := Aside0.mk (ho); clear HO_9; clear HO_10; clear HO_11; clear HB; clear HO369; have HO_9 := n0_; have HO_10 := n1_; have HO_11 := n2_; have HB := n3_; have HO372 := n4_; clear n0_ n1_ n2_ n3_ n4_; clear ho hb hg hat; obtain ⟨Ao58, co58, eo58⟩ := Kd.R_slice HO372.out; subst eo58) | ((with_reducible refine gate_callee (f := 18) rfl ?_); refine goesL_ (some 61) rfl rfl Try.func18 (by kernel_rfl) rfl #[.slice Ao58 y370.length co58] rfl (by (try simp only [List.map_toArray, List.map_cons, List.map_nil]); first | done | rfl | (simp only [List.length_drop, List.length_take]; rfl)) ?_; (with_reducible refine (codec_Uint.calls kj13 _ _ y370 t373 t374 t375 _ ?side1 ?side2 A47.out).mono ?_); (case side1 => repeat (first | exact (Kd.R_reads' HO372.out).2.2 | (with_reducible refine Kd.C_alloc ?_ _) | (with_reducible refine Kd.C_drewN ?_ _) | (with_reducible refine Kd.C_drew ?_))); (case side2 => exact (Kd.R_reads' HO372.out).2.1); rintro e w' ⟨rfl, ⟨nd, rfl⟩⟩; refine ⟨_, rfl, ?_⟩; obtain ⟨Ao60, co60, eo60⟩ := Kd.R_slice HO_10.out; subst eo60) | ((with_reducible refine gate_builtin (b := .append) (xs := #[(.const (.slice none 0 0)), .tmp 66]) rfl ?_); (try (refine gate_guard (by rfl) ?_; dsimp only)); at_builtin; refine Kd.R_append_rows (Kd.int .u8) (w0 := w) w.heap.size rfl (.const (.slice none 0 0)) (.tmp 66) 30 5 (.int .u8 0) 1 rfl Try.underlying30 info5 rfl (by decide) (by omega) (.slice none 0 0) ([] : List Int) t349 _ _ _ (fun k_ => some k_ ≠ (.slice Ao56 t346.length co56 : Value).ownBlock ∧ some k_ ≠ (.slice Ao60 t349.length co60 : Value).ownBlock ∧ some k_ ≠ (v353 : Value).ownBlock ∧ some k_ ≠ (.slice Ao58 y370.length co58 : Value).ownBlock) (fun _ => False) rfl rfl ?aO ?aR (fun _ _ h => h) (fun _ h => h.elim) ?aF ?aB ?aS ?aL ?_; (case aR => repeat (first | exact (Kd.R_reads' HO_10.out).2.2 | (with_reducible refine Kd.C_alloc ?_ _) | (with_reducible refine Kd.C_drewN ?_ _) | (with_reducible refine Kd.C_drew ?_))); (case aB => exact (by repeat (first | (with_reducible first | exact HB.out | apply below_alloc | apply pw_below_drewN | apply below_drew1) | exact HB.out))); (case aF => exact (fun k_ hk => ⟨Kd.fresh' (Kd.R_lt (by (with_reducible repeat (first | apply Kd.R_alloc | apply Kd.R_drewN | apply Kd.R_drew)); exact HO_9.out)) k_ hk, Kd.fresh' (Kd.R_lt (by (with_reducible repeat (first | apply Kd.R_alloc | apply Kd.R_drewN | apply Kd.R_drew)); exact HO_10.out)) k_ hk, Kd.fresh' (Kd.R_lt (by (with_reducible repeat (first | apply Kd.R_alloc | apply Kd.R_drewN | apply Kd.R_drew)); exact HO_11.out)) k_ hk, Kd.fresh' (Kd.R_lt (by (with_reducible repeat (first | apply Kd.R_alloc | apply Kd.R_drewN | apply Kd.R_drew)); exact HO372.out)) k_ hk⟩)); (case aO => exact ((Kd.R_nil _ _ _ _ (fun k_ => some k_ ≠ (.slice Ao56 t346.length co56 : Value).ownBlock ∧ some k_ ≠ (.slice Ao60 t349.length co60 : Value).ownBlock ∧ some k_ ≠ (v353 : Value).ownBlock ∧ some k_ ≠ (.slice Ao58 y370.length co58 : Value).ownBlock)))); (case aS => exact (below_size (by repeat (first | (with_reducible first | exact HB.out | apply below_alloc | apply pw_below_drewN | apply below_drew1) | exact HB.out)))); (case aL => have := LMc48.out; omega); intro v377 w59 ho hb hg hat; rw [← Ny376.out] at ho; have n0_ := Aside0.mk (Kd.R_after (Kd.R_apart_nil (by (with_reducible repeat (first | apply Kd.R_alloc | apply Kd.R_drewN | apply Kd.R_drew)); exact HO_9.out)) hg hat); have n1_ := Aside0.mk (Kd.R_after (Kd.R_apart_nil (by (with_reducible repeat (first | apply Kd.R_alloc | apply Kd.R_drewN | apply Kd.R_drew)); exact HO_10.out)) hg hat); have n2_ := Aside0.mk (Kd.R_after (Kd.R_apart_nil (by (with_reducible repeat (first | apply Kd.R_alloc | apply Kd.R_drewN | apply Kd.R_drew)); exact HO_11.out)) hg hat); have n3_ := Aside0.mk (Kd.R_after (Kd.R_apart_nil (by (with_reducible repeat (first | apply Kd.R_alloc | apply Kd.R_drewN | apply Kd.R_drew)); exact HO372.out)) hg hat); have n4_ := Aside0.mk (hb); have n5_ := Aside0.mk (ho); clear HO_9; clear HO_10; clear HO_11; clear HO372; clear HB; have HO_9 := n0_; have HO_10 := n1_; have HO_11 := n2_; have HO372 := n3_; have HB := n4_; have HO378 := n5_; clear n0_ n1_ n2_ n3_ n4_ n5_; clear ho hb hg hat) | ((with_reducible refine gate_builtin (b := .append) (xs := #[.tmp 67, .tmp 68]) rfl ?_); (try (refine gate_guard (by rfl) ?_; dsimp only)); at_builtin; refine Kd.R_append_rows (Kd.int .u8) (w0 := w) w.heap.size rfl (.tmp 67) (.tmp 68) 30 5 (.int .u8 0) 1 rfl Try.underlying30 info5 rfl (by decide) (by omega) v377 y376 l3 _ _ _ (fun k_ => some k_ ≠ (.slice Ao56 t346.length co56 : Value).ownBlock ∧ some k_ ≠ (.slice Ao60 t349.length co60 : Value).ownBlock ∧ some k_ ≠ (v353 : Value).ownBlock ∧ some k_ ≠ (.slice Ao58 y370.length co58 : Value).ownBlock) (fun _ => False) rfl rfl ?aO ?aR (fun _ _ h => h) (fun _ h => h.elim) ?aF ?aB ?aS ?aL ?_; (case aR => repeat (first | exact (Kd.C_below HR3.out HB.out) | (with_reducible refine Kd.C_alloc ?_ _) | (with_reducible refine Kd.C_drewN ?_ _) | (with_reducible refine Kd.C_drew ?_))); (case aB => exact (by repeat (first | (with_reducible first | exact HB.out | apply below_alloc | apply pw_below_drewN | apply below_drew1) | exact HB.out))); (case aF => exact (fun k_ hk => ⟨Kd.fresh' (Kd.R_lt (by (with_reducible repeat (first | apply Kd.R_alloc | apply Kd.R_drewN | apply Kd.R_drew)); exact HO_9.out)) k_ hk, Kd.fresh' (Kd.R_lt (by (with_reducible repeat (first | apply Kd.R_alloc | apply Kd.R_drewN | apply Kd.R_drew)); exact HO_10.out)) k_ hk, Kd.fresh' (Kd.R_lt (by (with_reducible repeat (first | apply Kd.R_alloc | apply Kd.R_drewN | apply Kd.R_drew)); exact HO_11.out)) k_ hk, Kd.fresh' (Kd.R_lt (by (with_reducible repeat (first | apply Kd.R_alloc | apply Kd.R_drewN | apply Kd.R_drew)); exact HO372.out)) k_ hk⟩)); (case aO => exact (by (with_reducible repeat (first | apply Kd.R_alloc | apply Kd.R_drewN | apply Kd.R_drew)); exact HO378.out)); (case aS => exact (below_size (by repeat (first | (with_reducible first | exact HB.out | apply below_alloc | apply pw_below_drewN | apply below_drew1) | exact HB.out)))); (case aL => have := LMc49.out; omega); intro v380 w61 ho hb hg hat; rw [← Ny379.out] at ho; have n0_ := Aside0.mk (Kd.R_after (ok := (fun k_ => some k_ ≠ (.slice Ao60 t349.length co60 : Value).ownBlock ∧ some k_ ≠ (v353 : Value).ownBlock ∧ some k_ ≠ (.slice Ao58 y370.length co58 : Value).ownBlock)) (by (with_reducible repeat (first | apply Kd.R_alloc | apply Kd.R_drewN | apply Kd.R_drew)); exact Kd.R_mono HO_9.out (fun _ hk => ⟨⟨hk.1.1.1, ⟨hk.1.1.2, hk.1.2⟩⟩, hk.2⟩)) hg hat); have n1_ := Aside0.mk (Kd.R_after (ok := (fun k_ => some k_ ≠ (.slice Ao56 t346.length co56 : Value).ownBlock ∧ some k_ ≠ (v353 : Value).ownBlock ∧ some k_ ≠ (.slice Ao58 y370.length co58 : Value).ownBlock)) (by (with_reducible repeat (first | apply Kd.R_alloc | apply Kd.R_drewN | apply Kd.R_drew)); exact Kd.R_mono HO_10.out (fun _ hk => ⟨⟨hk.1.1.1, ⟨hk.1.1.2, hk.1.2⟩⟩, hk.2⟩)) hg hat); have n2_ := Aside0.mk (Kd.R_after (ok := (fun k_ => some k_ ≠ (.slice Ao56 t346.length co56 : Value).ownBlock ∧ some k_ ≠ (.slice Ao60 t349.length co60 : Value).ownBlock ∧ some k_ ≠ (.slice Ao58 y370.length co58 : Value).ownBlock)) (by (with_reducible repeat (first | apply Kd.R_alloc | apply Kd.R_drewN | apply Kd.R_drew)); exact Kd.R_mono HO_11.out (fun _ hk => ⟨⟨hk.1.1.1, ⟨hk.1.1.2, hk.1.2⟩⟩, hk.2⟩)) hg hat); have n3_ := Aside0.mk (Kd.R_after (ok := (fun k_ => some k_ ≠ (.slice Ao56 t346.length co56 : Value).ownBlock ∧ some k_ ≠ (.slice Ao60 t349.length co60 : Value).ownBlock ∧ some k_ ≠ (v353 : Value).ownBlock)) (by (with_reducible repeat (first | apply Kd.R_alloc | apply Kd.R_drewN | apply Kd.R_drew)); exact HO372.out) hg hat); have n4_ := Aside0.mk (hb); have n5_ := Aside0.mk (ho); clear HO_9; clear HO_10; clear HO_11; clear HO372; clear HB; clear HO378; have HO_9 := n0_; have HO_10 := n1_; have HO_11 := n2_; have HO372 := n3_; have HB := n4_; have HO381 := n5_; clear n0_ n1_ n2_ n3_ n4_ n5_; clear ho hb hg hat; obtain ⟨Ao62, co62, eo62⟩ := Kd.R_slice HO381.out; subst eo62) | ((with_reducible refine gate_callee (f := 24) rfl ?_); refine goesL_ (some 70) rfl rfl Try.func24 (by kernel_rfl) rfl #[.slice Ao62 y379.length co62] rfl (by (try simp only [List.map_toArray, List.map_cons, List.map_nil]); first | done | rfl | (simp only [List.length_drop, List.length_take]; rfl)) ?_; (with_reducible refine (codec_Int.calls kj13 _ _ y379 t382 t383 t384 _ ?side1 ?side2 A50.out).mono ?_); (case side1 => repeat (first | exact (Kd.R_reads' HO381.out).2.2 | (with_reducible refine Kd.C_alloc ?_ _) | (with_reducible refine Kd.C_drewN ?_ _) | (with_reducible refine Kd.C_drew ?_))); (case side2 => exact (Kd.R_reads' HO381.out).2.1); rintro e w' ⟨rfl, ⟨nd, rfl⟩⟩; refine ⟨_, rfl, ?_⟩; obtain ⟨Ao64, co64, eo64⟩ := Kd.R_slice HO_11.out; subst eo64) | ((with_reducible refine gate_builtin (b := .append) (xs := #[(.const (.slice none 0 0)), .tmp 75]) rfl ?_); (try (refine gate_guard (by rfl) ?_; dsimp only)); at_builtin; refine Kd.R_append_rows (Kd.int .u8) (w0 := w) w.heap.size rfl (.const (.slice none 0 0)) (.tmp 75) 30 5 (.int .u8 0) 1 rfl Try.underlying30 info5 rfl (by decide) (by omega) (.slice none 0 0) ([] : List Int) t352 _ _ _ (fun k_ => some k_ ≠ (.slice Ao56 t346.length co56 : Value).ownBlock ∧ some k_ ≠ (.slice Ao60 t349.length co60 : Value).ownBlock ∧ some k_ ≠ (.slice Ao64 t352.length co64 : Value).ownBlock ∧ some k_ ≠ (.slice Ao58 y370.length co58 : Value).ownBlock ∧ some k_ ≠ (.slice Ao62 y379.length co62 : Value).ownBlock) (fun _ => False) rfl rfl ?aO ?aR (fun _ _ h => h) (fun _ h => h.elim) ?aF ?aB ?aS ?aL ?_; (case aR => repeat (first | exact (Kd.R_reads' HO_11.out).2.2 | (with_reducible refine Kd.C_alloc ?_ _) | (with_reducible refine Kd.C_drewN ?_ _) | (with_reducible refine Kd.C_drew ?_))); (case aB => exact (by repeat (first | (with_reducible first | exact HB.out | apply below_alloc | apply pw_below_drewN | apply below_drew1) | exact HB.out))); (case aF => exact (fun k_ hk => ⟨Kd.fresh' (Kd.R_lt (by (with_reducible repeat (first | apply Kd.R_alloc | apply Kd.R_drewN | apply Kd.R_drew)); exact HO_9.out)) k_ hk, Kd.fresh' (Kd.R_lt (by (with_reducible repeat (first | apply Kd.R_alloc | apply Kd.R_drewN | apply Kd.R_drew)); exact HO_10.out)) k_ hk, Kd.fresh' (Kd.R_lt (by (with_reducible repeat (first | apply Kd.R_alloc | apply Kd.R_drewN | apply Kd.R_drew)); exact HO_11.out)) k_ hk, Kd.fresh' (Kd.R_lt (by (with_reducible repeat (first | apply Kd.R_alloc | apply Kd.R_drewN | apply Kd.R_drew)); exact HO372.out)) k_ hk, Kd.fresh' (Kd.R_lt (by (with_reducible repeat (first | apply Kd.R_alloc | apply Kd.R_drewN | apply Kd.R_drew)); exact HO381.out)) k_ hk⟩)); (case aO => exact ((Kd.R_nil _ _ _ _ (fun k_ => some k_ ≠ (.slice Ao56 t346.length co56 : Value).ownBlock ∧ some k_ ≠ (.slice Ao60 t349.length co60 : Value).ownBlock ∧ some k_ ≠ (.slice Ao64 t352.length co64 : Value).ownBlock ∧ some k_ ≠ (.slice Ao58 y370.length co58 : Value).ownBlock ∧ some k_ ≠ (.slice Ao62 y379.length co62 : Value).ownBlock)))); (case aS => exact (below_size (by repeat (first | (with_reducible first | exact HB.out | apply below_alloc | apply pw_below_drewN | apply below_drew1) | exact HB.out)))); (case aL => have := LMc51.out; omega); intro v386 w63 ho hb hg hat; rw [← Ny385.out] at ho; have n0_ := Aside0.mk (Kd.R_after (Kd.R_apart_nil (by (with_reducible repeat (first | apply Kd.R_alloc | apply Kd.R_drewN | apply Kd.R_drew)); exact HO_9.out)) hg hat); have n1_ := Aside0.mk (Kd.R_after (Kd.R_apart_nil (by (with_reducible repeat (first | apply Kd.R_alloc | apply Kd.R_drewN | apply Kd.R_drew)); exact HO_10.out)) hg hat); have n2_ := Aside0.mk (Kd.R_after (Kd.R_apart_nil (by (with_reducible repeat (first | apply Kd.R_alloc | apply Kd.R_drewN | apply Kd.R_drew)); exact HO_11.out)) hg hat); have n3_ := Aside0.mk (Kd.R_after (Kd.R_apart_nil (by (with_reducible repeat (first | apply Kd.R_alloc | apply Kd.R_drewN | apply Kd.R_drew)); exact HO372.out)) hg hat); have n4_ := Aside0.mk (Kd.R_after (Kd.R_apart_nil (by (with_reducible repeat (first | apply Kd.R_alloc | apply Kd.R_drewN | apply Kd.R_drew)); exact HO381.out)) hg hat); have n5_ := Aside0.mk (hb); have n6_ := Aside0.mk (ho); clear HO_9; clear HO_10; clear HO_11; clear HO372; clear HO381; clear HB; have HO_9 := n0_; have HO_10 := n1_; have HO_11 := n2_; have HO372 := n3_; have HO381 := n4_; have HB := n5_; have HO387 := n6_; clear n0_ n1_ n2_ n3_ n4_ n5_ n6_; clear ho hb hg hat) | ((with_reducible refine gate_builtin (b := .append) (xs := #[.tmp 76, .tmp 77]) rfl ?_); (try (refine gate_guard (by rfl) ?_; dsimp only)); at_builtin; refine Kd.R_append_rows (Kd.int .u8) (w0 := w) w.heap.size rfl (.tmp 76) (.tmp 77) 30 5 (.int .u8 0) 1 rfl Try.underlying30 info5 rfl (by decide) (by omega) v386 y385 l3 _ _ _ (fun k_ => some k_ ≠ (.slice Ao56 t346.length co56 : Value).ownBlock ∧ some k_ ≠ (.slice Ao60 t349.length co60 : Value).ownBlock ∧ some k_ ≠ (.slice Ao64 t352.length co64 : Value).ownBlock ∧ some k_ ≠ (.slice Ao58 y370.length co58 : Value).ownBlock ∧ some k_ ≠ (.slice Ao62 y379.length co62 : Value).ownBlock) (fun _ => False) rfl rfl ?aO ?aR (fun _ _ h => h) (fun _ h => h.elim) ?aF ?aB ?aS ?aL ?_; (case aR => repeat (first | exact (Kd.C_below HR3.out HB.out) | (with_reducible refine Kd.C_alloc ?_ _) | (with_reducible refine Kd.C_drewN ?_ _) | (with_reducible refine Kd.C_drew ?_))); (case aB => exact (by repeat (first | (with_reducible first | exact HB.out | apply below_alloc | apply pw_below_drewN | apply below_drew1) | exact HB.out))); (case aF => exact (fun k_ hk => ⟨Kd.fresh' (Kd.R_lt (by (with_reducible repeat (first | apply Kd.R_alloc | apply Kd.R_drewN | apply Kd.R_drew)); exact HO_9.out)) k_ hk, Kd.fresh' (Kd.R_lt (by (with_reducible repeat (first | apply Kd.R_alloc | apply Kd.R_drewN | apply Kd.R_drew)); exact HO_10.out)) k_ hk, Kd.fresh' (Kd.R_lt (by (with_reducible repeat (first | apply Kd.R_alloc | apply Kd.R_drewN | apply Kd.R_drew)); exact HO_11.out)) k_ hk, Kd.fresh' (Kd.R_lt (by (with_reducible repeat (first | apply Kd.R_alloc | apply Kd.R_drewN | apply Kd.R_drew)); exact HO372.out)) k_ hk, Kd.fresh' (Kd.R_lt (by (with_reducible repeat (first | apply Kd.R_alloc | apply Kd.R_drewN | apply Kd.R_drew)); exact HO381.out)) k_ hk⟩)); (case aO => exact (by (with_reducible repeat (first | apply Kd.R_alloc | apply Kd.R_drewN | apply Kd.R_drew)); exact HO387.out)); (case aS => exact (below_size (by repeat (first | (with_reducible first | exact HB.out | apply below_alloc | apply pw_below_drewN | apply below_drew1) | exact HB.out)))); (case aL => have := LMc52.out; omega); intro v389 w65 ho hb hg hat; rw [← Ny388.out] at ho; have n0_ := Aside0.mk (Kd.R_after (ok := (fun k_ => some k_ ≠ (.slice Ao60 t349.length co60 : Value).ownBlock ∧ some k_ ≠ (.slice Ao64 t352.length co64 : Value).ownBlock ∧ some k_ ≠ (.slice Ao58 y370.length co58 : Value).ownBlock ∧ some k_ ≠ (.slice Ao62 y379.length co62 : Value).ownBlock)) (by (with_reducible repeat (first | apply Kd.R_alloc | apply Kd.R_drewN | apply Kd.R_drew)); exact Kd.R_mono HO_9.out (fun _ hk => ⟨⟨hk.1.1.1, ⟨hk.1.1.2.1, ⟨hk.1.1.2.2, hk.1.2⟩⟩⟩, hk.2⟩)) hg hat); have n1_ := Aside0.mk (Kd.R_after (ok := (fun k_ => some k_ ≠ (.slice Ao56 t346.length co56 : Value).ownBlock ∧ some k_ ≠ (.slice Ao64 t352.length co64 : Value).ownBlock ∧ some k_ ≠ (.slice Ao58 y370.length co58 : Value).ownBlock ∧ some k_ ≠ (.slice Ao62 y379.length co62 : Value).ownBlock)) (by (with_reducible repeat (first | apply Kd.R_alloc | apply Kd.R_drewN | apply Kd.R_drew)); exact Kd.R_mono HO_10.out (fun _ hk => ⟨⟨hk.1.1.1, ⟨hk.1.1.2.1, ⟨hk.1.1.2.2, hk.1.2⟩⟩⟩, hk.2⟩)) hg hat); have n2_ := Aside0.mk (Kd.R_after (ok := (fun k_ => some k_ ≠ (.slice Ao56 t346.length co56 : Value).ownBlock ∧ some k_ ≠ (.slice Ao60 t349.length co60 : Value).ownBlock ∧ some k_ ≠ (.slice Ao58 y370.length co58 : Value).ownBlock ∧ some k_ ≠ (.slice Ao62 y379.length co62 : Value).ownBlock)) (by (with_reducible repeat (first | apply Kd.R_alloc | apply Kd.R_drewN | apply Kd.R_drew)); exact Kd.R_mono HO_11.out (fun _ hk => ⟨⟨hk.1.1.1, ⟨hk.1.1.2.1, ⟨hk.1.1.2.2, hk.1.2⟩⟩⟩, hk.2⟩)) hg hat); have n3_ := Aside0.mk (Kd.R_after (ok := (fun k_ => some k_ ≠ (.slice Ao56 t346.length co56 : Value).ownBlock ∧ some k_ ≠ (.slice Ao60 t349.length co60 : Value).ownBlock ∧ some k_ ≠ (.slice Ao64 t352.length co64 : Value).ownBlock ∧ some k_ ≠ (.slice Ao62 y379.length co62 : Value).ownBlock)) (by (with_reducible repeat (first | apply Kd.R_alloc | apply Kd.R_drewN | apply Kd.R_drew)); exact Kd.R_mono HO372.out (fun _ hk => ⟨⟨hk.1.1.1, ⟨hk.1.1.2.1, ⟨hk.1.1.2.2, hk.1.2⟩⟩⟩, hk.2⟩)) hg hat); have n4_ := Aside0.mk (Kd.R_after (ok := (fun k_ => some k_ ≠ (.slice Ao56 t346.length co56 : Value).ownBlock ∧ some k_ ≠ (.slice Ao60 t349.length co60 : Value).ownBlock ∧ some k_ ≠ (.slice Ao64 t352.length co64 : Value).ownBlock ∧ some k_ ≠ (.slice Ao58 y370.length co58 : Value).ownBlock)) (by (with_reducible repeat (first | apply Kd.R_alloc | apply Kd.R_drewN | apply Kd.R_drew)); exact HO381.out) hg hat); have n5_ := Aside0.mk (hb); have n6_ := Aside0.mk (ho); clear HO_9; clear HO_10; clear HO_11; clear HO372; clear HO381; clear HB; clear HO387; have HO_9 := n0_; have HO_10 := n1_; have HO_11 := n2_; have HO372 := n3_; have HO381 := n4_; have HB := n5_; have HO390 := n6_; clear n0_ n1_ n2_ n3_ n4_ n5_ n6_; clear ho hb hg hat; obtain ⟨Ao66, co66, eo66⟩ := Kd.R_slice HO390.out; subst eo66) | ((with_reducible refine gate_callee (f := 25) rfl ?_); refine goesL_ (some 79) rfl rfl Try.func25 (by kernel_rfl) rfl #[.slice Ao66 y388.length co66] rfl (by (try simp only [List.map_toArray, List.map_cons, List.map_nil]); first | done | rfl | (simp only [List.length_drop, List.length_take]; rfl)) ?_; (with_reducible refine (codec_Text.calls kj13 _ _ y388 t391 t392 t393 _ ?side1 ?side2 A53.out).mono ?_); (case side1 => repeat (first | exact (Kd.R_reads' HO390.out).2.2 | (with_reducible refine Kd.C_alloc ?_ _) | (with_reducible refine Kd.C_drewN ?_ _) | (with_reducible refine Kd.C_drew ?_))); (case side2 => exact (Kd.R_reads' HO390.out).2.1); rintro e w67 ⟨rfl, hb⟩; refine ⟨_, rfl, ?_⟩; have n0_ := Aside0.mk (Kd.R_below (by (with_reducible repeat (first | apply Kd.R_alloc | apply Kd.R_drewN | apply Kd.R_drew)); exact HO_9.out) hb); have n1_ := Aside0.mk (Kd.R_below (by (with_reducible repeat (first | apply Kd.R_alloc | apply Kd.R_drewN | apply Kd.R_drew)); exact HO_10.out) hb); have n2_ := Aside0.mk (Kd.R_below (by (with_reducible repeat (first | apply Kd.R_alloc | apply Kd.R_drewN | apply Kd.R_drew)); exact HO_11.out) hb); have n3_ := Aside0.mk (Kd.R_below (by (with_reducible repeat (first | apply Kd.R_alloc | apply Kd.R_drewN | apply Kd.R_drew)); exact HO372.out) hb); have n4_ := Aside0.mk (Kd.R_below (by (with_reducible repeat (first | apply Kd.R_alloc | apply Kd.R_drewN | apply Kd.R_drew)); exact HO381.out) hb); have n5_ := Aside0.mk (Kd.R_below (by (with_reducible repeat (first | apply Kd.R_alloc | apply Kd.R_drewN | apply Kd.R_drew)); exact HO390.out) hb); have n6_ := Aside0.mk (below_step (by repeat (first | (with_reducible first | exact HB.out | apply below_alloc | apply pw_below_drewN | apply below_drew1) | exact HB.out)) hb); clear HO_9; clear HO_10; clear HO_11; clear HO372; clear HO381; clear HO390; clear HB; have HO_9 := n0_; have HO_10 := n1_; have HO_11 := n2_; have HO372 := n3_; have HO381 := n4_; have HO390 := n5_; have HB := n6_; clear n0_ n1_ n2_ n3_ n4_ n5_ n6_; (try clear hb); (try clear hb2); (try clear hk); (try clear hi)))
                            (try simp only [Act.put, List.setIfInBounds_toArray, List.set_cons_zero, List.set_cons_succ])
                            go_cut [110] (fun v110 wc => ∃ (kq : Nat) (x110_53 : Bool), v110 = .bool x110_53 ∧ Aside0 (windlasslaw2_CodecNumbers.j2 kq a2 t352 t391 t392 t393 x110_53 = some r) ∧ Aside0 (kq ≤ kj13) ∧ Aside0 (Kd.R (Kd.int .u8) 5 wc w.heap.size (fun _ => True) (.slice Ao64 t352.length co64) t352) ∧ Aside0 (Below w.heap.size w wc))
                            case first =>
                              have H := HC54.out
                              clear HC54
                              by_cases c68 : t375 = 0
                              · rw [if_pos c68] at H
                                have c68b0 : (t375 == 0) = true := beq_iff_eq.mpr c68
                                have c68b1 : (t375 != 0) = false := bne_eq_false_iff_eq.mpr c68
                                clear c68
                                (first | rw [c68b0] | (simp only [i64_w, i32_w]; rw [c68b0]) | skip)
                                by_cases c69 : t384 = 0
                                · rw [if_pos c69] at H
                                  have c69b0 : (t384 == 0) = true := beq_iff_eq.mpr c69
                                  have c69b1 : (t384 != 0) = false := bne_eq_false_iff_eq.mpr c69
                                  clear c69
                                  by_cases c70 : t373 = a0
                                  · rw [if_pos c70] at H
                                    have c70b0 : (t373 == a0) = true := beq_iff_eq.mpr c70
                                    have c70b1 : (t373 != a0) = false := bne_eq_false_iff_eq.mpr c70
                                    clear c70
                                    by_cases c71 : t382 = a1
                                    · rw [if_pos c71] at H
                                      have c71b0 : (t382 == a1) = true := beq_iff_eq.mpr c71
                                      have c71b1 : (t382 != a1) = false := bne_eq_false_iff_eq.mpr c71
                                      clear c71
                                      by_cases c72 : t374 = (t346.length : Int)
                                      · rw [if_pos c72] at H
                                        have c72b0 : (t374 == (t346.length : Int)) = true := beq_iff_eq.mpr c72
                                        have c72b1 : (t374 != (t346.length : Int)) = false := bne_eq_false_iff_eq.mpr c72
                                        clear c72
                                        have H' := Aside0.mk H
                                        clear H
                                        go_wp2
                                        go_meet
                                        case rel => exact ⟨_, ((t383 != (t349.length : Int))), (by first | rfl | (simp; done) | (simp [*]; done)), H', ⟨by have := HJ6.out; have := HJ13.out; first | omega | exact Nat.le_refl _⟩, ⟨by (with_reducible repeat (first | apply Kd.R_alloc | apply Kd.R_drewN | apply Kd.R_drew)); exact Kd.R_mono HO_11.out (fun _ hk => trivial)⟩, ⟨by repeat (first | (with_reducible first | exact HB.out | apply below_alloc | apply pw_below_drewN | apply below_drew1) | exact HB.out)⟩⟩
                                      · rw [if_neg c72] at H
                                        have c72b0 : (t374 == (t346.length : Int)) = false := beq_eq_false_iff_ne.mpr c72
                                        have c72b1 : (t374 != (t346.length : Int)) = true := bne_iff_ne.mpr c72
                                        have H' := Aside0.mk H
                                        clear H
                                        go_wp2
                                        go_meet
                                        case rel => exact ⟨_, (true), (by first | rfl | (simp; done) | (simp [*]; done)), H', ⟨by have := HJ6.out; have := HJ13.out; first | omega | exact Nat.le_refl _⟩, ⟨by (with_reducible repeat (first | apply Kd.R_alloc | apply Kd.R_drewN | apply Kd.R_drew)); exact Kd.R_mono HO_11.out (fun _ hk => trivial)⟩, ⟨by repeat (first | (with_reducible first | exact HB.out | apply below_alloc | apply pw_below_drewN | apply below_drew1) | exact HB.out)⟩⟩
                                    · rw [if_neg c71] at H
                                      have c71b0 : (t382 == a1) = false := beq_eq_false_iff_ne.mpr c71
                                      have c71b1 : (t382 != a1) = true := bne_iff_ne.mpr c71
                                      have H' := Aside0.mk H
                                      clear H
                                      go_wp2
                                      go_meet
                                      case rel => exact ⟨_, (true), (by first | rfl | (simp; done) | (simp [*]; done)), H', ⟨by have := HJ6.out; have := HJ13.out; first | omega | exact Nat.le_refl _⟩, ⟨by (with_reducible repeat (first | apply Kd.R_alloc | apply Kd.R_drewN | apply Kd.R_drew)); exact Kd.R_mono HO_11.out (fun _ hk => trivial)⟩, ⟨by repeat (first | (with_reducible first | exact HB.out | apply below_alloc | apply pw_below_drewN | apply below_drew1) | exact HB.out)⟩⟩
                                  · rw [if_neg c70] at H
                                    have c70b0 : (t373 == a0) = false := beq_eq_false_iff_ne.mpr c70
                                    have c70b1 : (t373 != a0) = true := bne_iff_ne.mpr c70
                                    have H' := Aside0.mk H
                                    clear H
                                    go_wp2
                                    go_meet
                                    case rel => exact ⟨_, (true), (by first | rfl | (simp; done) | (simp [*]; done)), H', ⟨by have := HJ6.out; have := HJ13.out; first | omega | exact Nat.le_refl _⟩, ⟨by (with_reducible repeat (first | apply Kd.R_alloc | apply Kd.R_drewN | apply Kd.R_drew)); exact Kd.R_mono HO_11.out (fun _ hk => trivial)⟩, ⟨by repeat (first | (with_reducible first | exact HB.out | apply below_alloc | apply pw_below_drewN | apply below_drew1) | exact HB.out)⟩⟩
                                · rw [if_neg c69] at H
                                  have c69b0 : (t384 == 0) = false := beq_eq_false_iff_ne.mpr c69
                                  have c69b1 : (t384 != 0) = true := bne_iff_ne.mpr c69
                                  have H' := Aside0.mk H
                                  clear H
                                  go_wp2
                                  go_meet
                                  case rel => exact ⟨_, (true), (by first | rfl | (simp; done) | (simp [*]; done)), H', ⟨by have := HJ6.out; have := HJ13.out; first | omega | exact Nat.le_refl _⟩, ⟨by (with_reducible repeat (first | apply Kd.R_alloc | apply Kd.R_drewN | apply Kd.R_drew)); exact Kd.R_mono HO_11.out (fun _ hk => trivial)⟩, ⟨by repeat (first | (with_reducible first | exact HB.out | apply below_alloc | apply pw_below_drewN | apply below_drew1) | exact HB.out)⟩⟩
                              · rw [if_neg c68] at H
                                have c68b0 : (t375 == 0) = false := beq_eq_false_iff_ne.mpr c68
                                have c68b1 : (t375 != 0) = true := bne_iff_ne.mpr c68
                                (first | rw [c68b0] | (simp only [i64_w, i32_w]; rw [c68b0]) | skip)
                                have H' := Aside0.mk H
                                clear H
                                go_wp2
                                go_meet
                                case rel => exact ⟨_, (true), (by first | rfl | (simp; done) | (simp [*]; done)), H', ⟨by have := HJ6.out; have := HJ13.out; first | omega | exact Nat.le_refl _⟩, ⟨by (with_reducible repeat (first | apply Kd.R_alloc | apply Kd.R_drewN | apply Kd.R_drew)); exact Kd.R_mono HO_11.out (fun _ hk => trivial)⟩, ⟨by repeat (first | (with_reducible first | exact HB.out | apply below_alloc | apply pw_below_drewN | apply below_drew1) | exact HB.out)⟩⟩
                            case rest =>
                              clear HC54
                              try clear c1
                              try clear c2
                              try clear p2
                              try clear c3
                              try clear c4
                              try clear c5
                              try clear c6
                              try clear c7
                              try clear c9
                              try clear c9b0
                              try clear c9b1
                              try clear c10
                              try clear c16
                              try clear c17
                              try clear c18
                              try clear c19
                              try clear c20
                              try clear c21
                              try clear c23
                              try clear c24
                              try clear c25
                              try clear c44
                              try clear c45
                              try clear c46
                              try clear c48
                              try clear c49
                              try clear c51
                              try clear c52
                              try clear c68
                              try clear c68b0
                              try clear c68b1
                              try clear c69
                              try clear c69b0
                              try clear c69b1
                              try clear c70
                              try clear c70b0
                              try clear c70b1
                              try clear c71
                              try clear c71b0
                              try clear c71b1
                              try clear c72
                              try clear c72b0
                              try clear c72b1
                              try clear p2
                              obtain ⟨kq, x110_53, rfl, HA, HJ53, HO_11, HB⟩ := hcut
                              cases kq with
                              | zero => exact absurd HA.out (by simp [windlasslaw2_CodecNumbers.j2])
                              | succ kj53 =>
                                have H := HA.out
                                clear HA
                                simp only [windlasslaw2_CodecNumbers.j2] at H
                                by_cases c73 : x110_53 = true
                                · subst c73
                                  have H1 : (some false) = some r := by rw [if_pos rfl] at H; exact H
                                  clear H
                                  have H := H1
                                  clear H1
                                  obtain rfl := Option.some.inj H
                                  go_wp2
                                  go_ret
                                  exact ⟨by first | rfl | (simp [errW_none, errW_some] <;> rfl) | (simp [*, errW_none, errW_some] <;> rfl), by repeat (first | (with_reducible first | exact HB.out | apply below_alloc | apply pw_below_drewN | apply below_drew1) | exact HB.out)⟩
                                · replace c73 := Bool.eq_false_iff.mpr c73
                                  subst c73
                                  have H1 : (if (a2.size : Int) > 64 then (if t393 = 21 then (if t391.toList = ([] : List UInt8) then (some (t392 == 0)) else (some false)) else (some false)) else (if t393 = 0 then (if t391.toList = a2.toList then (some (t392 == (t352.length : Int))) else (some false)) else (some false))) = some r := by rw [if_neg (show ¬ (false = true) by decide)] at H; exact H
                                  clear H
                                  have H := H1
                                  clear H1
                                  by_cases c74 : (a2.size : Int) > 64
                                  · rw [if_pos c74] at H
                                    have c74b0 : decide (64 < (a2.size : Int)) = true := decide_eq_true c74
                                    have c74b1 : decide (64 < a2.size) = true := decide_eq_true (by omega)
                                    clear c74
                                    by_cases c75 : t393 = 21
                                    · rw [if_pos c75] at H
                                      have c75b0 : (t393 == 21) = true := beq_iff_eq.mpr c75
                                      have c75b1 : (t393 != 21) = false := bne_eq_false_iff_eq.mpr c75
                                      clear c75
                                      by_cases c76 : t391.toList = ([] : List UInt8)
                                      · rw [if_pos c76] at H
                                        have c76b0 : (t391.toList == ([] : List UInt8)) = true := beq_iff_eq.mpr c76
                                        have c76b1 : (t391.toList != ([] : List UInt8)) = false := bne_eq_false_iff_eq.mpr c76
                                        clear c76
                                        obtain rfl := Option.some.inj H
                                        go_wp2
                                        go_ret
                                        exact ⟨by first | rfl | (simp [errW_none, errW_some] <;> rfl) | (simp [*, errW_none, errW_some] <;> rfl), by repeat (first | (with_reducible first | exact HB.out | apply below_alloc | apply pw_below_drewN | apply below_drew1) | exact HB.out)⟩
                                      · rw [if_neg c76] at H
                                        have c76b0 : (t391.toList == ([] : List UInt8)) = false := beq_eq_false_iff_ne.mpr c76
                                        have c76b1 : (t391.toList != ([] : List UInt8)) = true := bne_iff_ne.mpr c76
                                        obtain rfl := Option.some.inj H
                                        go_wp2
                                        go_ret
                                        exact ⟨by first | rfl | (simp [errW_none, errW_some] <;> rfl) | (simp [*, errW_none, errW_some] <;> rfl), by repeat (first | (with_reducible first | exact HB.out | apply below_alloc | apply pw_below_drewN | apply below_drew1) | exact HB.out)⟩
                                    · rw [if_neg c75] at H
                                      have c75b0 : (t393 == 21) = false := beq_eq_false_iff_ne.mpr c75
                                      have c75b1 : (t393 != 21) = true := bne_iff_ne.mpr c75
                                      obtain rfl := Option.some.inj H
                                      go_wp2
                                      go_ret
                                      exact ⟨by first | rfl | (simp [errW_none, errW_some] <;> rfl) | (simp [*, errW_none, errW_some] <;> rfl), by repeat (first | (with_reducible first | exact HB.out | apply below_alloc | apply pw_below_drewN | apply below_drew1) | exact HB.out)⟩
                                  · rw [if_neg c74] at H
                                    have c74b0 : decide (64 < (a2.size : Int)) = false := decide_eq_false c74
                                    have c74b1 : decide (64 < a2.size) = false := decide_eq_false (by omega)
                                    clear c74
                                    by_cases c77 : t393 = 0
                                    · rw [if_pos c77] at H
                                      have c77b0 : (t393 == 0) = true := beq_iff_eq.mpr c77
                                      have c77b1 : (t393 != 0) = false := bne_eq_false_iff_eq.mpr c77
                                      clear c77
                                      by_cases c78 : t391.toList = a2.toList
                                      · rw [if_pos c78] at H
                                        have c78b0 : (t391.toList == a2.toList) = true := beq_iff_eq.mpr c78
                                        have c78b1 : (t391.toList != a2.toList) = false := bne_eq_false_iff_eq.mpr c78
                                        clear c78
                                        obtain rfl := Option.some.inj H
                                        go_wp2
                                        go_ret
                                        exact ⟨by first | rfl | (simp [errW_none, errW_some] <;> rfl) | (simp [*, errW_none, errW_some] <;> rfl), by repeat (first | (with_reducible first | exact HB.out | apply below_alloc | apply pw_below_drewN | apply below_drew1) | exact HB.out)⟩
                                      · rw [if_neg c78] at H
                                        have c78b0 : (t391.toList == a2.toList) = false := beq_eq_false_iff_ne.mpr c78
                                        have c78b1 : (t391.toList != a2.toList) = true := bne_iff_ne.mpr c78
                                        obtain rfl := Option.some.inj H
                                        go_wp2
                                        go_ret
                                        exact ⟨by first | rfl | (simp [errW_none, errW_some] <;> rfl) | (simp [*, errW_none, errW_some] <;> rfl), by repeat (first | (with_reducible first | exact HB.out | apply below_alloc | apply pw_below_drewN | apply below_drew1) | exact HB.out)⟩
                                    · rw [if_neg c77] at H
                                      have c77b0 : (t393 == 0) = false := beq_eq_false_iff_ne.mpr c77
                                      have c77b1 : (t393 != 0) = true := bne_iff_ne.mpr c77
                                      obtain rfl := Option.some.inj H
                                      go_wp2
                                      go_ret
                                      exact ⟨by first | rfl | (simp [errW_none, errW_some] <;> rfl) | (simp [*, errW_none, errW_some] <;> rfl), by repeat (first | (with_reducible first | exact HB.out | apply below_alloc | apply pw_below_drewN | apply below_drew1) | exact HB.out)⟩
                          · rw [if_neg c52] at H
                            exact absurd H (by simp)
                        · rw [if_neg c51] at H
                          exact absurd H (by simp)
                      · rw [if_neg c49] at H
                        exact absurd H (by simp)
                    · rw [if_neg c48] at H
                      exact absurd H (by simp)
                  · rw [if_neg c46] at H
                    exact absurd H (by simp)
                · rw [if_neg c45] at H
                  exact absurd H (by simp)
  · replace c6 := Bool.eq_false_iff.mpr c6
    subst c6
    have H1 : (some false) = some r := by rw [if_neg (show ¬ (false = true) by decide)] at H; exact H
    clear H
    have H := H1
    clear H1
    obtain rfl := Option.some.inj H
    go_enter Try.func5, Try.ntmps5
    go_wp2_with (first | ((with_reducible refine gate_callee (f := 9) rfl ?_); refine goesL_ (some 21) rfl rfl Try.func9 (by kernel_rfl) rfl #[] rfl (by (try simp only [List.map_toArray, List.map_cons, List.map_nil]); first | done | rfl | (simp only [List.length_drop, List.length_take]; rfl)) ?_; (with_reducible refine (windlasslaw2_known.calls k  false _ A5.out).mono ?_); rintro e w79 ⟨rfl, hb⟩; refine ⟨_, rfl, ?_⟩; have n0_ := Aside0.mk (below_step (by repeat (first | (with_reducible first | exact HB.out | apply below_alloc | apply pw_below_drewN | apply below_drew1) | exact HB.out)) hb); clear HB; have HB := n0_; clear n0_; (try clear hb); (try clear hb2); (try clear hk); (try clear hi)))
    go_ret
    exact ⟨by first | rfl | (simp [errW_none, errW_some] <;> rfl) | (simp [*, errW_none, errW_some] <;> rfl), by repeat (first | (with_reducible first | exact HB.out | apply below_alloc | apply pw_below_drewN | apply below_drew1) | exact HB.out)⟩

/-- THE ONE PURE STATEMENT of windlasslaw2_CodecNumbers: yours. -/
def windlasslaw2_CodecNumbers.Pure : Prop := ∀ (x0 : Int) (x1 : Int) (x2 : ByteArray) (x3 : List Int), (Lit.int .u64 x0).wf = true → (Lit.int .i64 x1).wf = true → x2.size ≤ 140737488351232 → (x3.length ≤ maxLen ∧ x3.length * 1 ≤ 140737488351232 ∧ ∀ y ∈ x3, (Lit.int .u8 y).wf = true) → ∃ k, windlasslaw2_CodecNumbers.f k x0 x1 x2 x3 = some true
theorem windlasslaw2_CodecNumbers.walk (P : windlasslaw2_CodecNumbers.Pure) (x0 : Int) (x1 : Int) (x2 : ByteArray) (x3 : List Int) (A3 : Option Addr) (c3 : Nat) (w : World) (w0 : (Lit.int .u64 x0).wf = true) (w1 : (Lit.int .i64 x1).wf = true) (w2 : x2.size ≤ 140737488351232) (w3 : (x3.length ≤ maxLen ∧ x3.length * 1 ≤ 140737488351232 ∧ ∀ y ∈ x3, (Lit.int .u8 y).wf = true)) (r3 : Kd.C (Kd.int .u8) w A3 x3.length x3) (m3 : x3.length ≤ c3) :
    Calls Try.prog 5 #[.int .u64 x0, .int .i64 x1, .string x2, .slice A3 x3.length c3] w fun e w' => e = .returned (.bool true) ∧ Below w.heap.size w w' := by
  obtain ⟨k, h⟩ := P x0 x1 x2 x3 w0 w1 w2 w3
  refine (windlasslaw2_CodecNumbers.calls k x0 x1 x2 _ _ x3 true w r3 m3 h).mono ?_
  rintro e w' ⟨rfl, hd⟩
  exact ⟨rfl, hd⟩

end Go.Proofs.Ythbnblmnamckmaa.PAll
