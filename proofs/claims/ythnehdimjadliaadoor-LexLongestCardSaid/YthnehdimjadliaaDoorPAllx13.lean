-- Laid by a program of this seat (wip/xprint.py over the kit's print).
import Derived.Test.YthnehdimjadliaaDoorPAllx0
import Derived.Test.YthnehdimjadliaaDoorHExt
namespace Go.Proofs.YthnehdimjadliaaDoor.PAll
open Go.RowKit Go.Proofs.YthnehdimjadliaaDoorW.PrintWords Go.Proofs.YthnehdimjadliaaDoorW.PrintLast Go.Proofs.YthnehdimjadliaaDoorW.PrintMore
attribute [local go_sem] max2_int min2_int max_two min_two max_three min_three max_four min_four   -- for this text's walks alone
set_option linter.unusedVariables false
set_option linter.unusedSimpArgs false

/-! ### windlasslaw5_LexLongest: function 6 -/
mutual
def windlasslaw5_LexLongest.l0 : Nat → List Int → ByteArray → ByteArray → Int → Option (Bool)
  | 0, _, _, _, _ => none
  | k + 1, x0, x3, x4, x5 => if x5 < (x0.length : Int) then (if 0 ≤ x5 then (if (x3.size : Int) = 0 then (none) else (if 0 ≤ (Int.tmod (wrap64 (rd x0 x5)) (x3.size : Int)) then (if (Int.tmod (wrap64 (rd x0 x5)) (x3.size : Int)) ≤ (wrap64 ((Int.tmod (wrap64 (rd x0 x5)) (x3.size : Int)) + 1)) then (if (wrap64 ((Int.tmod (wrap64 (rd x0 x5)) (x3.size : Int)) + 1)) ≤ (x3.size : Int) then (if x4.size + (x3.extract ((Int.tmod (wrap64 (rd x0 x5)) (x3.size : Int)) : Int).toNat ((wrap64 ((Int.tmod (wrap64 (rd x0 x5)) (x3.size : Int)) + 1)) : Int).toNat).size ≤ 9223372036854775807 then (windlasslaw5_LexLongest.l0 k x0 x3 (x4 ++ (x3.extract ((Int.tmod (wrap64 (rd x0 x5)) (x3.size : Int)) : Int).toNat ((wrap64 ((Int.tmod (wrap64 (rd x0 x5)) (x3.size : Int)) + 1)) : Int).toNat)) (wrap64 (x5 + 1))) else (none)) else (none)) else (none)) else (none))) else (none)) else ((lex_Tokens.f x4).bind fun bt168 => (if bt168.2.2 = 0 then (windlasslaw5_LexLongest.l1 k x4 bt168.1 (⟨#[]⟩ : ByteArray) 0) else (if bt168.2.2 = 51 then (if bt168.2.1 < (x4.size : Int) then (if 0 ≤ bt168.2.1 then (if (bt x4 bt168.2.1) = 33 then (if (wrap64 (bt168.2.1 + 1)) = (x4.size : Int) then (some true) else (if 0 ≤ (wrap64 (bt168.2.1 + 1)) then (if (wrap64 (bt168.2.1 + 1)) < (x4.size : Int) then (some ((bt x4 (wrap64 (bt168.2.1 + 1))) != 61)) else (none)) else (none))) else (some false)) else (none)) else (some false)) else (some false))))
def windlasslaw5_LexLongest.l1 : Nat → ByteArray → List (S28) → ByteArray → Int → Option (Bool)
  | 0, _, _, _, _ => none
  | k + 1, x4, x7, x10, x11 => if (wrap64 (x11 + 1)) < (x7.length : Int) then (if 0 ≤ x11 then (if x11 < (x7.length : Int) then (if ((rd_T28 x7 x11).f0) = 5 then (windlasslaw5_LexLongest.j2 k x4 x7 x10 x11 (((rd_T28 x7 x11).f2) != (x10.size : Int))) else (windlasslaw5_LexLongest.j2 k x4 x7 x10 x11 true)) else (none)) else (none)) else (some (x10.toList == x4.toList))
def windlasslaw5_LexLongest.j2 : Nat → ByteArray → List (S28) → ByteArray → Int → Bool → Option (Bool)
  | 0, _, _, _, _, _ => none
  | k + 1, x4, x7, x10, x11, x96 => if x96 = true then (some false) else (if 0 ≤ x11 then (if x11 < (x7.length : Int) then (if x10.size + ((rd_T28 x7 x11).f1).size ≤ 9223372036854775807 then (if (wrap64 (x11 + 2)) < (x7.length : Int) then (windlasslaw5_LexLongest.j3 k x4 x7 (x10 ++ ((rd_T28 x7 x11).f1)) x11 ((((rd_T28 x7 x11).f1).size : Int) == 1)) else (windlasslaw5_LexLongest.j3 k x4 x7 (x10 ++ ((rd_T28 x7 x11).f1)) x11 false)) else (none)) else (none)) else (none))
def windlasslaw5_LexLongest.j3 : Nat → ByteArray → List (S28) → ByteArray → Int → Bool → Option (Bool)
  | 0, _, _, _, _, _ => none
  | k + 1, x4, x7, x10, x11, x117 => if x117 = true then (if 0 ≤ x11 then (if x11 < (x7.length : Int) then (if 0 ≤ (wrap64 (x11 + 1)) then (if (wrap64 (x11 + 1)) < (x7.length : Int) then (if 0 ≤ 1 then (if 1 ≤ (((rd_T28 x7 (wrap64 (x11 + 1))).f1).size : Int) then (if ((rd_T28 x7 x11).f1).size + (((rd_T28 x7 (wrap64 (x11 + 1))).f1).extract 0 1).size ≤ 9223372036854775807 then (if (((rd_T28 x7 x11).f1) ++ (((rd_T28 x7 (wrap64 (x11 + 1))).f1).extract 0 1)).toList = ([61, 61] : List UInt8) then (some false) else (if (((rd_T28 x7 x11).f1) ++ (((rd_T28 x7 (wrap64 (x11 + 1))).f1).extract 0 1)).toList = ([33, 61] : List UInt8) then (some false) else (if (((rd_T28 x7 x11).f1) ++ (((rd_T28 x7 (wrap64 (x11 + 1))).f1).extract 0 1)).toList = ([60, 61] : List UInt8) then (some false) else (if (((rd_T28 x7 x11).f1) ++ (((rd_T28 x7 (wrap64 (x11 + 1))).f1).extract 0 1)).toList = ([62, 61] : List UInt8) then (some false) else (if (((rd_T28 x7 x11).f1) ++ (((rd_T28 x7 (wrap64 (x11 + 1))).f1).extract 0 1)).toList = ([43, 37] : List UInt8) then (some false) else (if (((rd_T28 x7 x11).f1) ++ (((rd_T28 x7 (wrap64 (x11 + 1))).f1).extract 0 1)).toList = ([45, 37] : List UInt8) then (some false) else (if (((rd_T28 x7 x11).f1) ++ (((rd_T28 x7 (wrap64 (x11 + 1))).f1).extract 0 1)).toList = ([42, 37] : List UInt8) then (some false) else (if (((rd_T28 x7 x11).f1) ++ (((rd_T28 x7 (wrap64 (x11 + 1))).f1).extract 0 1)).toList = ([45, 62] : List UInt8) then (some false) else (windlasslaw5_LexLongest.l1 k x4 x7 x10 (wrap64 (x11 + 1))))))))))) else (none)) else (none)) else (none)) else (none)) else (none)) else (none)) else (none)) else (windlasslaw5_LexLongest.l1 k x4 x7 x10 (wrap64 (x11 + 1)))
end
def windlasslaw5_LexLongest.f (k : Nat) (l0 : List Int) : Option (Bool) := (windlasslaw5_known.f).bind fun t166 => (if t166 = true then (if (l0.length : Int) > 80 then (some true) else (windlasslaw5_LexLongest.l0 k l0 (⟨#[123, 125, 40, 41, 91, 93, 44, 59, 58, 46, 61, 60, 62, 43, 45, 42, 47, 37, 38, 33]⟩ : ByteArray) (⟨#[]⟩ : ByteArray) 0)) else (some false))
theorem windlasslaw5_LexLongest.mono_l : ∀ k, (∀ y0 y1 y2 y3, LeO (windlasslaw5_LexLongest.l0 k y0 y1 y2 y3) (windlasslaw5_LexLongest.l0 (k + 1) y0 y1 y2 y3)) ∧ (∀ y0 y1 y2 y3, LeO (windlasslaw5_LexLongest.l1 k y0 y1 y2 y3) (windlasslaw5_LexLongest.l1 (k + 1) y0 y1 y2 y3)) ∧ (∀ y0 y1 y2 y3 y4, LeO (windlasslaw5_LexLongest.j2 k y0 y1 y2 y3 y4) (windlasslaw5_LexLongest.j2 (k + 1) y0 y1 y2 y3 y4)) ∧ (∀ y0 y1 y2 y3 y4, LeO (windlasslaw5_LexLongest.j3 k y0 y1 y2 y3 y4) (windlasslaw5_LexLongest.j3 (k + 1) y0 y1 y2 y3 y4))
  | 0 => ⟨fun _ _ _ _ r h => by simp [windlasslaw5_LexLongest.l0] at h, fun _ _ _ _ r h => by simp [windlasslaw5_LexLongest.l1] at h, fun _ _ _ _ _ r h => by simp [windlasslaw5_LexLongest.j2] at h, fun _ _ _ _ _ r h => by simp [windlasslaw5_LexLongest.j3] at h⟩
  | k + 1 => by
    obtain ⟨ih0, ih1, ih2, ih3⟩ := windlasslaw5_LexLongest.mono_l k
    refine ⟨?_, ?_, ?_, ?_⟩
    · intro y0 y1 y2 y3
      unfold windlasslaw5_LexLongest.l0
      repeat' first
      | (with_reducible exact ih0 _ _ _ _)
      | (with_reducible exact ih1 _ _ _ _)
      | (with_reducible exact ih2 _ _ _ _ _)
      | (with_reducible exact ih3 _ _ _ _ _)
      | (with_reducible exact LeO.refl _)
      | (with_reducible exact LeO.none _)
      | (with_reducible refine LeO.ite ?_ ?_)
      | (with_reducible refine LeO.bind ?_ (fun _ => ?_))
      | exact ih0 _ _ _ _
      | exact ih1 _ _ _ _
      | exact ih2 _ _ _ _ _
      | exact ih3 _ _ _ _ _
      | exact LeO.none _
      | refine LeO.ite ?_ ?_
      | refine LeO.bind ?_ (fun _ => ?_)
    · intro y0 y1 y2 y3
      unfold windlasslaw5_LexLongest.l1
      repeat' first
      | (with_reducible exact ih0 _ _ _ _)
      | (with_reducible exact ih1 _ _ _ _)
      | (with_reducible exact ih2 _ _ _ _ _)
      | (with_reducible exact ih3 _ _ _ _ _)
      | (with_reducible exact LeO.refl _)
      | (with_reducible exact LeO.none _)
      | (with_reducible refine LeO.ite ?_ ?_)
      | (with_reducible refine LeO.bind ?_ (fun _ => ?_))
      | exact ih0 _ _ _ _
      | exact ih1 _ _ _ _
      | exact ih2 _ _ _ _ _
      | exact ih3 _ _ _ _ _
      | exact LeO.none _
      | refine LeO.ite ?_ ?_
      | refine LeO.bind ?_ (fun _ => ?_)
    · intro y0 y1 y2 y3 y4
      unfold windlasslaw5_LexLongest.j2
      repeat' first
      | (with_reducible exact ih0 _ _ _ _)
      | (with_reducible exact ih1 _ _ _ _)
      | (with_reducible exact ih2 _ _ _ _ _)
      | (with_reducible exact ih3 _ _ _ _ _)
      | (with_reducible exact LeO.refl _)
      | (with_reducible exact LeO.none _)
      | (with_reducible refine LeO.ite ?_ ?_)
      | (with_reducible refine LeO.bind ?_ (fun _ => ?_))
      | exact ih0 _ _ _ _
      | exact ih1 _ _ _ _
      | exact ih2 _ _ _ _ _
      | exact ih3 _ _ _ _ _
      | exact LeO.none _
      | refine LeO.ite ?_ ?_
      | refine LeO.bind ?_ (fun _ => ?_)
    · intro y0 y1 y2 y3 y4
      unfold windlasslaw5_LexLongest.j3
      repeat' first
      | (with_reducible exact ih0 _ _ _ _)
      | (with_reducible exact ih1 _ _ _ _)
      | (with_reducible exact ih2 _ _ _ _ _)
      | (with_reducible exact ih3 _ _ _ _ _)
      | (with_reducible exact LeO.refl _)
      | (with_reducible exact LeO.none _)
      | (with_reducible refine LeO.ite ?_ ?_)
      | (with_reducible refine LeO.bind ?_ (fun _ => ?_))
      | exact ih0 _ _ _ _
      | exact ih1 _ _ _ _
      | exact ih2 _ _ _ _ _
      | exact ih3 _ _ _ _ _
      | exact LeO.none _
      | refine LeO.ite ?_ ?_
      | refine LeO.bind ?_ (fun _ => ?_)
theorem windlasslaw5_LexLongest.mono : ∀ a0 k, LeO (windlasslaw5_LexLongest.f k a0) (windlasslaw5_LexLongest.f (k + 1) a0) := by
  intro a0 k
  obtain ⟨ih0, ih1, ih2, ih3⟩ := windlasslaw5_LexLongest.mono_l k
  unfold windlasslaw5_LexLongest.f
  repeat' first
      | (with_reducible exact ih0 _ _ _ _)
      | (with_reducible exact ih1 _ _ _ _)
      | (with_reducible exact ih2 _ _ _ _ _)
      | (with_reducible exact ih3 _ _ _ _ _)
      | (with_reducible exact LeO.refl _)
      | (with_reducible exact LeO.none _)
      | (with_reducible refine LeO.ite ?_ ?_)
      | (with_reducible refine LeO.bind ?_ (fun _ => ?_))
      | exact ih0 _ _ _ _
      | exact ih1 _ _ _ _
      | exact ih2 _ _ _ _ _
      | exact ih3 _ _ _ _ _
      | exact LeO.none _
      | refine LeO.ite ?_ ?_
      | refine LeO.bind ?_ (fun _ => ?_)
set_option maxHeartbeats 8000000 in
set_option maxRecDepth 100000 in
theorem windlasslaw5_LexLongest.calls (k : Nat) (A0 : Option Addr) (c0 : Nat) (l0 : List Int) (r : Bool) (w : World) (hr0 : Kd.C (Kd.int .u8) w A0 l0.length l0) (hc0 : l0.length ≤ c0) (h : windlasslaw5_LexLongest.f k l0 = some r) (mx : MX w) :
    Calls Tryd.prog 6 #[.slice A0 l0.length c0] w fun e w' => e = .returned (.bool r) ∧ Below w.heap.size w w' := by
  have HR0 := Aside0.mk hr0
  have HC0 := Aside0.mk hc0
  clear hr0 hc0
  have MXH : Aside0 (∀ W, Below w.heap.size w W → MX W) := ⟨fun W hb => mx_on mx hb⟩
  clear mx
  have HB := Aside0.mk (Below.refl w.heap.size w)
  have H : ((windlasslaw5_known.f).bind fun t166 => (if t166 = true then (if (l0.length : Int) > 80 then (some true) else (windlasslaw5_LexLongest.l0 k l0 (⟨#[123, 125, 40, 41, 91, 93, 44, 59, 58, 46, 61, 60, 62, 43, 45, 42, 47, 37, 38, 33]⟩ : ByteArray) (⟨#[]⟩ : ByteArray) 0)) else (some false))) = some r := h
  clear h
  replace H := Option.bind_eq_some_iff.mp H
  obtain ⟨t166, A20, H⟩ := H
  replace H : (if t166 = true then (if (l0.length : Int) > 80 then (some true) else (windlasslaw5_LexLongest.l0 k l0 (⟨#[123, 125, 40, 41, 91, 93, 44, 59, 58, 46, 61, 60, 62, 43, 45, 42, 47, 37, 38, 33]⟩ : ByteArray) (⟨#[]⟩ : ByteArray) 0)) else (some false)) = some r := H
  have A2 := Aside0.mk A20
  clear A20
  by_cases c3 : t166 = true
  · subst c3
    have H1 : (if (l0.length : Int) > 80 then (some true) else (windlasslaw5_LexLongest.l0 k l0 (⟨#[123, 125, 40, 41, 91, 93, 44, 59, 58, 46, 61, 60, 62, 43, 45, 42, 47, 37, 38, 33]⟩ : ByteArray) (⟨#[]⟩ : ByteArray) 0)) = some r := by rw [if_pos rfl] at H; exact H
    clear H
    have H := H1
    clear H1
    by_cases c4 : (l0.length : Int) > 80
    · rw [if_pos c4] at H
      have c4b0 : decide (80 < (l0.length : Int)) = true := decide_eq_true c4
      have c4b1 : decide (80 < l0.length) = true := decide_eq_true (by omega)
      clear c4
      obtain rfl := Option.some.inj H
      go_enter Tryd.func6, Tryd.ntmps6
      go_wp2_with (first | (go_at_call 9; (with_reducible refine (windlasslaw5_known.calls  true _ A2.out).mono ?_); rintro e w5 ⟨rfl, hb⟩; have n0_ := Aside0.mk (below_step (by repeat (first | (with_reducible first | exact HB.out | apply below_alloc | apply pw_below_drewN | apply below_drew1) | exact HB.out)) hb); clear HB; have HB := n0_; clear n0_; (try clear hb); (try clear hb2); (try clear hk); (try clear hi)))
      repeat (go_quiet (first | (go_at_call 9; (with_reducible refine (windlasslaw5_known.calls  true _ A2.out).mono ?_); rintro e w5 ⟨rfl, hb⟩; have n0_ := Aside0.mk (below_step (by repeat (first | (with_reducible first | exact HB.out | apply below_alloc | apply pw_below_drewN | apply below_drew1) | exact HB.out)) hb); clear HB; have HB := n0_; clear n0_; (try clear hb); (try clear hb2); (try clear hk); (try clear hi))); try go_wp2_with (first | (go_at_call 9; (with_reducible refine (windlasslaw5_known.calls  true _ A2.out).mono ?_); rintro e w5 ⟨rfl, hb⟩; have n0_ := Aside0.mk (below_step (by repeat (first | (with_reducible first | exact HB.out | apply below_alloc | apply pw_below_drewN | apply below_drew1) | exact HB.out)) hb); clear HB; have HB := n0_; clear n0_; (try clear hb); (try clear hb2); (try clear hk); (try clear hi))))
      go_ret
      exact ⟨by first | rfl | (simp [errW_none, errW_some] <;> rfl) | (simp [*, errW_none, errW_some] <;> rfl), by repeat (first | (with_reducible first | exact HB.out | apply below_alloc | apply pw_below_drewN | apply below_drew1) | exact HB.out)⟩
    · rw [if_neg c4] at H
      have c4b0 : decide (80 < (l0.length : Int)) = false := decide_eq_false c4
      have c4b1 : decide (80 < l0.length) = false := decide_eq_false (by omega)
      clear c4
      have H' := Aside0.mk H
      clear H
      go_enter Tryd.func6, Tryd.ntmps6
      go_wp2_with (first | (go_at_call 9; (with_reducible refine (windlasslaw5_known.calls  true _ A2.out).mono ?_); rintro e w6 ⟨rfl, hb⟩; have n0_ := Aside0.mk (below_step (by repeat (first | (with_reducible first | exact HB.out | apply below_alloc | apply pw_below_drewN | apply below_drew1) | exact HB.out)) hb); clear HB; have HB := n0_; clear n0_; (try clear hb); (try clear hb2); (try clear hk); (try clear hi)))
      repeat (go_quiet (first | (go_at_call 9; (with_reducible refine (windlasslaw5_known.calls  true _ A2.out).mono ?_); rintro e w6 ⟨rfl, hb⟩; have n0_ := Aside0.mk (below_step (by repeat (first | (with_reducible first | exact HB.out | apply below_alloc | apply pw_below_drewN | apply below_drew1) | exact HB.out)) hb); clear HB; have HB := n0_; clear n0_; (try clear hb); (try clear hb2); (try clear hk); (try clear hi))); try go_wp2_with (first | (go_at_call 9; (with_reducible refine (windlasslaw5_known.calls  true _ A2.out).mono ?_); rintro e w6 ⟨rfl, hb⟩; have n0_ := Aside0.mk (below_step (by repeat (first | (with_reducible first | exact HB.out | apply below_alloc | apply pw_below_drewN | apply below_drew1) | exact HB.out)) hb); clear HB; have HB := n0_; clear n0_; (try clear hb); (try clear hb2); (try clear hk); (try clear hi))))
      go_loopg [4, 5] k (fun kq v4 v5 w' => ∃ (x4_1 : ByteArray) (x5_1 : Int), v4 = .string x4_1 ∧ v5 = .int .i64 x5_1 ∧ Aside0 (windlasslaw5_LexLongest.l0 kq l0 (⟨#[123, 125, 40, 41, 91, 93, 44, 59, 58, 46, 61, 60, 62, 43, 45, 42, 47, 37, 38, 33]⟩ : ByteArray) x4_1 x5_1 = some r) ∧ Aside0 (kq ≤ k) ∧ Aside0 (Below w.heap.size w w'))
      case atStart => exact ⟨((⟨#[]⟩ : ByteArray)), (0), (by first | rfl | (simp; done) | (simp [*]; done)), (by first | rfl | (simp; done) | (simp [*]; done)), H', ⟨Nat.le_refl _⟩, ⟨by repeat (first | (with_reducible first | exact HB.out | apply below_alloc | apply pw_below_drewN | apply below_drew1) | exact HB.out)⟩⟩
      case round =>
        clear H'
        try clear p2
        try clear c3
        try clear c4
        try clear c4b0
        try clear c4b1
        try clear c6
        obtain ⟨x4_1, x5_1, rfl, rfl, HA, HK1, HB⟩ := hrel
        cases gk with
        | zero => exact absurd HA.out (by simp [windlasslaw5_LexLongest.l0])
        | succ k1 =>
          have H := HA.out
          clear HA
          simp only [windlasslaw5_LexLongest.l0] at H
          by_cases c7 : x5_1 < (l0.length : Int)
          · rw [if_pos c7] at H
            have c7b0 : decide (x5_1 < (l0.length : Int)) = true := decide_eq_true c7
            clear c7
            by_cases c8 : 0 ≤ x5_1
            · rw [if_pos c8] at H
              have c8b0 : decide (0 ≤ x5_1) = true := decide_eq_true c8
              clear c8
              by_cases c9 : ((⟨#[123, 125, 40, 41, 91, 93, 44, 59, 58, 46, 61, 60, 62, 43, 45, 42, 47, 37, 38, 33]⟩ : ByteArray).size : Int) = 0
              · rw [if_pos c9] at H
                exact absurd H (by simp)
              · rw [if_neg c9] at H
                have c9b0 : (((⟨#[123, 125, 40, 41, 91, 93, 44, 59, 58, 46, 61, 60, 62, 43, 45, 42, 47, 37, 38, 33]⟩ : ByteArray).size : Int) == 0) = false := beq_eq_false_iff_ne.mpr c9
                (try rw [show ((⟨#[123, 125, 40, 41, 91, 93, 44, 59, 58, 46, 61, 60, 62, 43, 45, 42, 47, 37, 38, 33]⟩ : ByteArray).size : Int) = 20 from rfl] at c9b0)
                have c9b1 : (((⟨#[123, 125, 40, 41, 91, 93, 44, 59, 58, 46, 61, 60, 62, 43, 45, 42, 47, 37, 38, 33]⟩ : ByteArray).size : Int) != 0) = true := bne_iff_ne.mpr c9
                (try rw [show ((⟨#[123, 125, 40, 41, 91, 93, 44, 59, 58, 46, 61, 60, 62, 43, 45, 42, 47, 37, 38, 33]⟩ : ByteArray).size : Int) = 20 from rfl] at c9b1)
                obtain ⟨ji10, hji10⟩ : ∃ j_ : Int, (Int.tmod (wrap64 (rd l0 x5_1)) ((⟨#[123, 125, 40, 41, 91, 93, 44, 59, 58, 46, 61, 60, 62, 43, 45, 42, 47, 37, 38, 33]⟩ : ByteArray).size : Int)) = j_ := ⟨_, rfl⟩
                replace H : (if 0 ≤ (ji10) then (if (ji10) ≤ (wrap64 ((ji10) + 1)) then (if (wrap64 ((ji10) + 1)) ≤ ((⟨#[123, 125, 40, 41, 91, 93, 44, 59, 58, 46, 61, 60, 62, 43, 45, 42, 47, 37, 38, 33]⟩ : ByteArray).size : Int) then (if x4_1.size + ((⟨#[123, 125, 40, 41, 91, 93, 44, 59, 58, 46, 61, 60, 62, 43, 45, 42, 47, 37, 38, 33]⟩ : ByteArray).extract ((ji10) : Int).toNat ((wrap64 ((ji10) + 1)) : Int).toNat).size ≤ 9223372036854775807 then (windlasslaw5_LexLongest.l0 k1 l0 (⟨#[123, 125, 40, 41, 91, 93, 44, 59, 58, 46, 61, 60, 62, 43, 45, 42, 47, 37, 38, 33]⟩ : ByteArray) (x4_1 ++ ((⟨#[123, 125, 40, 41, 91, 93, 44, 59, 58, 46, 61, 60, 62, 43, 45, 42, 47, 37, 38, 33]⟩ : ByteArray).extract ((ji10) : Int).toNat ((wrap64 ((ji10) + 1)) : Int).toNat)) (wrap64 (x5_1 + 1))) else (none)) else (none)) else (none)) else (none)) = some r := by first | (rw [hji10] at H; exact H) | (simp only [hji10] at H ⊢; exact H)
                (try rw [show ((⟨#[123, 125, 40, 41, 91, 93, 44, 59, 58, 46, 61, 60, 62, 43, 45, 42, 47, 37, 38, 33]⟩ : ByteArray).size : Int) = 20 from rfl] at hji10)
                by_cases c11 : 0 ≤ (ji10)
                · rw [if_pos c11] at H
                  have c11b0 := eq_true c11
                  (try rw [show ((⟨#[123, 125, 40, 41, 91, 93, 44, 59, 58, 46, 61, 60, 62, 43, 45, 42, 47, 37, 38, 33]⟩ : ByteArray).size : Int) = 20 from rfl] at c11b0)
                  have c11b1 : decide (0 ≤ (ji10)) = true := decide_eq_true c11
                  clear c11
                  by_cases c12 : (ji10) ≤ (wrap64 ((ji10) + 1))
                  · rw [if_pos c12] at H
                    have c12b0 := eq_true c12
                    (try rw [show ((⟨#[123, 125, 40, 41, 91, 93, 44, 59, 58, 46, 61, 60, 62, 43, 45, 42, 47, 37, 38, 33]⟩ : ByteArray).size : Int) = 20 from rfl] at c12b0)
                    have c12b1 : decide ((ji10) ≤ (wrap64 ((ji10) + 1))) = true := decide_eq_true c12
                    by_cases c13 : (wrap64 ((ji10) + 1)) ≤ ((⟨#[123, 125, 40, 41, 91, 93, 44, 59, 58, 46, 61, 60, 62, 43, 45, 42, 47, 37, 38, 33]⟩ : ByteArray).size : Int)
                    · rw [if_pos c13] at H
                      have c13b0 := eq_true c13
                      (try rw [show ((⟨#[123, 125, 40, 41, 91, 93, 44, 59, 58, 46, 61, 60, 62, 43, 45, 42, 47, 37, 38, 33]⟩ : ByteArray).size : Int) = 20 from rfl] at c13b0)
                      have c13b1 : decide ((wrap64 ((ji10) + 1)) ≤ ((⟨#[123, 125, 40, 41, 91, 93, 44, 59, 58, 46, 61, 60, 62, 43, 45, 42, 47, 37, 38, 33]⟩ : ByteArray).size : Int)) = true := decide_eq_true c13
                      (try rw [show ((⟨#[123, 125, 40, 41, 91, 93, 44, 59, 58, 46, 61, 60, 62, 43, 45, 42, 47, 37, 38, 33]⟩ : ByteArray).size : Int) = 20 from rfl] at c13b1)
                      by_cases c14 : x4_1.size + ((⟨#[123, 125, 40, 41, 91, 93, 44, 59, 58, 46, 61, 60, 62, 43, 45, 42, 47, 37, 38, 33]⟩ : ByteArray).extract ((ji10) : Int).toNat ((wrap64 ((ji10) + 1)) : Int).toNat).size ≤ 9223372036854775807
                      · rw [if_pos c14] at H
                        have c14b0 := eq_true c14
                        (try rw [show ((⟨#[123, 125, 40, 41, 91, 93, 44, 59, 58, 46, 61, 60, 62, 43, 45, 42, 47, 37, 38, 33]⟩ : ByteArray).size : Int) = 20 from rfl] at c14b0)
                        have c14b1 : decide (x4_1.size + ((⟨#[123, 125, 40, 41, 91, 93, 44, 59, 58, 46, 61, 60, 62, 43, 45, 42, 47, 37, 38, 33]⟩ : ByteArray).extract ((ji10) : Int).toNat ((wrap64 ((ji10) + 1)) : Int).toNat).size ≤ 9223372036854775807) = true := decide_eq_true c14
                        try have c14b2 : (9223372036854775807 < x4_1.size + ((⟨#[123, 125, 40, 41, 91, 93, 44, 59, 58, 46, 61, 60, 62, 43, 45, 42, 47, 37, 38, 33]⟩ : ByteArray).extract ((ji10) : Int).toNat ((wrap64 ((ji10) + 1)) : Int).toNat).size) = False := eq_false (Nat.not_lt.2 c14)
                        have H' := Aside0.mk H
                        clear H
                        have p167 : 0 ≤ (x5_1 : Int) := of_decide_eq_true (by first | (with_reducible assumption) | assumption)
                        have q167 : x5_1 < (l0.length : Int) := of_decide_eq_true (by first | (with_reducible assumption) | assumption)
                        obtain ⟨ad167, e167, hx167_0⟩ := Kd.at_int HR0.out x5_1 p167 q167
                        cases e167
                        replace hx167_0 := (HB.out.cell (World.block_lt_of_cell? w _ hx167_0)).trans hx167_0
                        replace p167 := eq_true p167
                        replace q167 := eq_true q167
                        go_wp2
                        repeat (go_quiet (fail); try go_wp2)
                        go_roundg k1
                        case measure => have := HK1.out; omega
                        case rel => exact ⟨(x4_1 ++ ((⟨#[123, 125, 40, 41, 91, 93, 44, 59, 58, 46, 61, 60, 62, 43, 45, 42, 47, 37, 38, 33]⟩ : ByteArray).extract ((ji10) : Int).toNat ((wrap64 ((ji10) + 1)) : Int).toNat)), (wrap64 (x5_1 + 1)), (by first | rfl | (simp; done) | (simp only [← hji10] <;> (first | rfl | simp)) | (simp [*]; done)), (by first | rfl | (simp; done) | (simp [*]; done)), H', ⟨by have := HK1.out; omega⟩, ⟨by repeat (first | (with_reducible first | exact HB.out | apply below_alloc | apply pw_below_drewN | apply below_drew1) | exact HB.out)⟩⟩
                      · rw [if_neg c14] at H
                        exact absurd H (by simp)
                    · rw [if_neg c13] at H
                      exact absurd H (by simp)
                  · rw [if_neg c12] at H
                    exact absurd H (by simp)
                · rw [if_neg c11] at H
                  exact absurd H (by simp)
            · rw [if_neg c8] at H
              exact absurd H (by simp)
          · rw [if_neg c7] at H
            have c7b0 : decide (x5_1 < (l0.length : Int)) = false := decide_eq_false c7
            clear c7
            replace H := Option.bind_eq_some_iff.mp H
            obtain ⟨⟨t168, t171, t172⟩, A150, H⟩ := H
            replace H : (if t172 = 0 then (windlasslaw5_LexLongest.l1 k1 x4_1 t168 (⟨#[]⟩ : ByteArray) 0) else (if t172 = 51 then (if t171 < (x4_1.size : Int) then (if 0 ≤ t171 then (if (bt x4_1 t171) = 33 then (if (wrap64 (t171 + 1)) = (x4_1.size : Int) then (some true) else (if 0 ≤ (wrap64 (t171 + 1)) then (if (wrap64 (t171 + 1)) < (x4_1.size : Int) then (some ((bt x4_1 (wrap64 (t171 + 1))) != 61)) else (none)) else (none))) else (some false)) else (none)) else (some false)) else (some false))) = some r := H
            have A15 := Aside0.mk A150
            clear A150
            by_cases c16 : t172 = 0
            · rw [if_pos c16] at H
              have c16b0 : (t172 == 0) = true := beq_iff_eq.mpr c16
              have c16b1 : (t172 != 0) = false := bne_eq_false_iff_eq.mpr c16
              clear c16
              have H' := Aside0.mk H
              clear H
              go_wp2_with (first | (go_at_call 10; (with_reducible refine (lex_Tokens.calls x4_1 t168 t171 t172 _ A15.out).mono ?_); rintro e w17 ⟨v169, rfl, ho0, hb⟩; have n0_ := Aside0.mk (Kd.R_lower (Kd.R_mono (ok' := fun k_ => True) ho0 (fun _ hk_ => trivial)) (below_size (by repeat (first | (with_reducible first | exact HB.out | apply below_alloc | apply pw_below_drewN | apply below_drew1) | exact HB.out)))); have n1_ := Aside0.mk (below_step (by repeat (first | (with_reducible first | exact HB.out | apply below_alloc | apply pw_below_drewN | apply below_drew1) | exact HB.out)) hb); clear HB; have HO170 := n0_; have HB := n1_; clear n0_ n1_; (try clear hb); (try clear hb2); (try clear hk); (try clear hi); (try clear ho0)))
              repeat (go_quiet (first | (go_at_call 10; (with_reducible refine (lex_Tokens.calls x4_1 t168 t171 t172 _ A15.out).mono ?_); rintro e w17 ⟨v169, rfl, ho0, hb⟩; have n0_ := Aside0.mk (Kd.R_lower (Kd.R_mono (ok' := fun k_ => True) ho0 (fun _ hk_ => trivial)) (below_size (by repeat (first | (with_reducible first | exact HB.out | apply below_alloc | apply pw_below_drewN | apply below_drew1) | exact HB.out)))); have n1_ := Aside0.mk (below_step (by repeat (first | (with_reducible first | exact HB.out | apply below_alloc | apply pw_below_drewN | apply below_drew1) | exact HB.out)) hb); clear HB; have HO170 := n0_; have HB := n1_; clear n0_ n1_; (try clear hb); (try clear hb2); (try clear hk); (try clear hi); (try clear ho0))); try go_wp2_with (first | (go_at_call 10; (with_reducible refine (lex_Tokens.calls x4_1 t168 t171 t172 _ A15.out).mono ?_); rintro e w17 ⟨v169, rfl, ho0, hb⟩; have n0_ := Aside0.mk (Kd.R_lower (Kd.R_mono (ok' := fun k_ => True) ho0 (fun _ hk_ => trivial)) (below_size (by repeat (first | (with_reducible first | exact HB.out | apply below_alloc | apply pw_below_drewN | apply below_drew1) | exact HB.out)))); have n1_ := Aside0.mk (below_step (by repeat (first | (with_reducible first | exact HB.out | apply below_alloc | apply pw_below_drewN | apply below_drew1) | exact HB.out)) hb); clear HB; have HO170 := n0_; have HB := n1_; clear n0_ n1_; (try clear hb); (try clear hb2); (try clear hk); (try clear hi); (try clear ho0))))
              go_loopg [10, 11] k1 (fun kq v10 v11 w' => ∃ (x10_2 : ByteArray) (x11_2 : Int), v10 = .string x10_2 ∧ v11 = .int .i64 x11_2 ∧ Aside0 (windlasslaw5_LexLongest.l1 kq x4_1 t168 x10_2 x11_2 = some r) ∧ Aside0 (kq ≤ k1) ∧ Aside0 (Kd.R k28 28 w' w.heap.size (fun _ => True) v169 t168) ∧ Aside0 (Below w.heap.size w w'))
              case atStart => exact ⟨((⟨#[]⟩ : ByteArray)), (0), (by first | rfl | (simp; done) | (simp [*]; done)), (by first | rfl | (simp; done) | (simp [*]; done)), H', ⟨Nat.le_refl _⟩, ⟨by (with_reducible repeat (first | apply Kd.R_alloc | apply Kd.R_drewN | apply Kd.R_drew)); exact HO170.out⟩, ⟨by repeat (first | (with_reducible first | exact HB.out | apply below_alloc | apply pw_below_drewN | apply below_drew1) | exact HB.out)⟩⟩
              case round =>
                clear H'
                try clear c1
                try clear p1
                try clear q1
                try clear hx1
                try clear p2
                try clear c3
                try clear c4
                try clear c4b0
                try clear c4b1
                try clear c6
                try clear p6
                try clear c7
                try clear c7b0
                try clear c8
                try clear c8b0
                try clear c9
                try clear c9b0
                try clear c9b1
                try clear c11
                try clear c11b0
                try clear c11b1
                try clear c12
                try clear c12b0
                try clear c12b1
                try clear c13
                try clear c13b0
                try clear c13b1
                try clear c14
                try clear c14b0
                try clear c14b1
                try clear c14b2
                try clear c16
                try clear c16b0
                try clear c16b1
                try clear p16
                try clear q16
                try clear hx16
                try clear hx167_0
                try clear p167
                try clear p2
                try clear q167
                obtain ⟨x10_2, x11_2, rfl, rfl, HA, HK2, HO_7, HB⟩ := hrel
                cases gk with
                | zero => exact absurd HA.out (by simp [windlasslaw5_LexLongest.l1])
                | succ k2 =>
                  have H := HA.out
                  clear HA
                  simp only [windlasslaw5_LexLongest.l1] at H
                  by_cases c18 : (wrap64 (x11_2 + 1)) < (t168.length : Int)
                  · rw [if_pos c18] at H
                    have c18b0 : decide ((wrap64 (x11_2 + 1)) < (t168.length : Int)) = true := decide_eq_true c18
                    clear c18
                    have HC19 := Aside0.mk H
                    clear H
                    obtain ⟨Ao20, co20, eo20⟩ := Kd.R_slice HO_7.out
                    subst eo20
                    go_upto_region 19 with (fail)
                    repeat (go_quiet (fail); go_upto_region 19 with (fail))
                    go_cut [96] (fun v96 wc => ∃ (kq : Nat) (x96_18 : Bool), v96 = .bool x96_18 ∧ Aside0 (windlasslaw5_LexLongest.j2 kq x4_1 t168 x10_2 x11_2 x96_18 = some r) ∧ Aside0 (kq ≤ k2) ∧ Aside0 (Kd.R k28 28 wc w.heap.size (fun _ => True) (.slice Ao20 t168.length co20) t168) ∧ Aside0 (Below w.heap.size w wc))
                    case first =>
                      have H := HC19.out
                      clear HC19
                      by_cases c21 : 0 ≤ x11_2
                      · rw [if_pos c21] at H
                        have c21b0 : decide (0 ≤ x11_2) = true := decide_eq_true c21
                        clear c21
                        (first | rw [c21b0] | (simp only [i64_w, i32_w]; rw [c21b0]) | skip)
                        by_cases c22 : x11_2 < (t168.length : Int)
                        · rw [if_pos c22] at H
                          have c22b0 : decide (x11_2 < (t168.length : Int)) = true := decide_eq_true c22
                          clear c22
                          by_cases c23 : ((rd_T28 t168 x11_2).f0) = 5
                          · rw [if_pos c23] at H
                            have c23b0 : (((rd_T28 t168 x11_2).f0) == 5) = true := beq_iff_eq.mpr c23
                            have c23b1 : (((rd_T28 t168 x11_2).f0) != 5) = false := bne_eq_false_iff_eq.mpr c23
                            clear c23
                            have H' := Aside0.mk H
                            clear H
                            have p173 : 0 ≤ (x11_2 : Int) := of_decide_eq_true (by first | (with_reducible assumption) | assumption)
                            have q173 : x11_2 < (t168.length : Int) := of_decide_eq_true (by first | (with_reducible assumption) | assumption)
                            obtain ⟨ad173, e173, hx173_0, hx173_1, hx173_2⟩ := at_T28 (Kd.R_reads' HO_7.out).2.2 x11_2 p173 q173
                            cases e173
                            replace p173 := eq_true p173
                            replace q173 := eq_true q173
                            have p174 : 0 ≤ (x11_2 : Int) := of_decide_eq_true (by first | (with_reducible assumption) | assumption)
                            have q174 : x11_2 < (t168.length : Int) := of_decide_eq_true (by first | (with_reducible assumption) | assumption)
                            obtain ⟨ad174, e174, hx174_0, hx174_1, hx174_2⟩ := at_T28 (Kd.R_reads' HO_7.out).2.2 x11_2 p174 q174
                            obtain rfl : ad173 = ad174 := (by injection e174)
                            replace p174 := eq_true p174
                            replace q174 := eq_true q174
                            go_wp2
                            repeat (go_quiet (fail); try go_wp2)
                            go_meet
                            case rel => exact ⟨_, ((((rd_T28 t168 x11_2).f2) != (x10_2.size : Int))), (by first | rfl | (simp; done) | (simp [*]; done)), H', ⟨by have := HK1.out; have := HK2.out; first | omega | exact Nat.le_refl _⟩, ⟨by (with_reducible repeat (first | apply Kd.R_alloc | apply Kd.R_drewN | apply Kd.R_drew)); exact HO_7.out⟩, ⟨by repeat (first | (with_reducible first | exact HB.out | apply below_alloc | apply pw_below_drewN | apply below_drew1) | exact HB.out)⟩⟩
                          · rw [if_neg c23] at H
                            have c23b0 : (((rd_T28 t168 x11_2).f0) == 5) = false := beq_eq_false_iff_ne.mpr c23
                            have c23b1 : (((rd_T28 t168 x11_2).f0) != 5) = true := bne_iff_ne.mpr c23
                            have H' := Aside0.mk H
                            clear H
                            have p173 : 0 ≤ (x11_2 : Int) := of_decide_eq_true (by first | (with_reducible assumption) | assumption)
                            have q173 : x11_2 < (t168.length : Int) := of_decide_eq_true (by first | (with_reducible assumption) | assumption)
                            obtain ⟨ad173, e173, hx173_0, hx173_1, hx173_2⟩ := at_T28 (Kd.R_reads' HO_7.out).2.2 x11_2 p173 q173
                            cases e173
                            replace p173 := eq_true p173
                            replace q173 := eq_true q173
                            go_wp2
                            repeat (go_quiet (fail); try go_wp2)
                            go_meet
                            case rel => exact ⟨_, (true), (by first | rfl | (simp; done) | (simp [*]; done)), H', ⟨by have := HK1.out; have := HK2.out; first | omega | exact Nat.le_refl _⟩, ⟨by (with_reducible repeat (first | apply Kd.R_alloc | apply Kd.R_drewN | apply Kd.R_drew)); exact HO_7.out⟩, ⟨by repeat (first | (with_reducible first | exact HB.out | apply below_alloc | apply pw_below_drewN | apply below_drew1) | exact HB.out)⟩⟩
                        · rw [if_neg c22] at H
                          exact absurd H (by simp)
                      · rw [if_neg c21] at H
                        exact absurd H (by simp)
                    case rest =>
                      clear HC19
                      try clear c1
                      try clear p1
                      try clear q1
                      try clear hx1
                      try clear c2
                      try clear p2
                      try clear c3
                      try clear c4
                      try clear c4b0
                      try clear c4b1
                      try clear c6
                      try clear p6
                      try clear c7
                      try clear c7b0
                      try clear c8
                      try clear c8b0
                      try clear c9
                      try clear c9b0
                      try clear c9b1
                      try clear c11
                      try clear c11b0
                      try clear c11b1
                      try clear c12
                      try clear c12b0
                      try clear c12b1
                      try clear c13
                      try clear c13b0
                      try clear c13b1
                      try clear c14
                      try clear c14b0
                      try clear c14b1
                      try clear c14b2
                      try clear c16
                      try clear c16b0
                      try clear c16b1
                      try clear p16
                      try clear q16
                      try clear hx16
                      try clear p17
                      try clear q17
                      try clear hx17
                      try clear c18
                      try clear c18b0
                      try clear c21
                      try clear c21b0
                      try clear c22
                      try clear c22b0
                      try clear c23
                      try clear c23b0
                      try clear c23b1
                      try clear hx167_0
                      try clear hx173_0
                      try clear hx173_1
                      try clear hx173_2
                      try clear hx174_0
                      try clear hx174_1
                      try clear hx174_2
                      try clear p1
                      try clear p16
                      try clear p167
                      try clear p173
                      try clear p174
                      try clear p2
                      try clear p6
                      try clear q1
                      try clear q16
                      try clear q167
                      try clear q173
                      try clear q174
                      obtain ⟨kq, x96_18, rfl, HA, HJ18, HO_7, HB⟩ := hcut
                      cases kq with
                      | zero => exact absurd HA.out (by simp [windlasslaw5_LexLongest.j2])
                      | succ kj18 =>
                        have H := HA.out
                        clear HA
                        simp only [windlasslaw5_LexLongest.j2] at H
                        by_cases c24 : x96_18 = true
                        · subst c24
                          have H1 : (some false) = some r := by rw [if_pos rfl] at H; exact H
                          clear H
                          have H := H1
                          clear H1
                          obtain rfl := Option.some.inj H
                          go_wp2
                          repeat (go_quiet (fail); try go_wp2)
                          go_ret
                          exact ⟨by first | rfl | (simp [errW_none, errW_some] <;> rfl) | (simp [*, errW_none, errW_some] <;> rfl), by repeat (first | (with_reducible first | exact HB.out | apply below_alloc | apply pw_below_drewN | apply below_drew1) | exact HB.out)⟩
                        · replace c24 := Bool.eq_false_iff.mpr c24
                          subst c24
                          have H1 : (if 0 ≤ x11_2 then (if x11_2 < (t168.length : Int) then (if x10_2.size + ((rd_T28 t168 x11_2).f1).size ≤ 9223372036854775807 then (if (wrap64 (x11_2 + 2)) < (t168.length : Int) then (windlasslaw5_LexLongest.j3 kj18 x4_1 t168 (x10_2 ++ ((rd_T28 t168 x11_2).f1)) x11_2 ((((rd_T28 t168 x11_2).f1).size : Int) == 1)) else (windlasslaw5_LexLongest.j3 kj18 x4_1 t168 (x10_2 ++ ((rd_T28 t168 x11_2).f1)) x11_2 false)) else (none)) else (none)) else (none)) = some r := by rw [if_neg (show ¬ (false = true) by decide)] at H; exact H
                          clear H
                          have H := H1
                          clear H1
                          by_cases c25 : 0 ≤ x11_2
                          · rw [if_pos c25] at H
                            have c25b0 : decide (0 ≤ x11_2) = true := decide_eq_true c25
                            clear c25
                            by_cases c26 : x11_2 < (t168.length : Int)
                            · rw [if_pos c26] at H
                              have c26b0 : decide (x11_2 < (t168.length : Int)) = true := decide_eq_true c26
                              clear c26
                              by_cases c27 : x10_2.size + ((rd_T28 t168 x11_2).f1).size ≤ 9223372036854775807
                              · rw [if_pos c27] at H
                                have c27b0 := eq_true c27
                                (try rw [show ((⟨#[123, 125, 40, 41, 91, 93, 44, 59, 58, 46, 61, 60, 62, 43, 45, 42, 47, 37, 38, 33]⟩ : ByteArray).size : Int) = 20 from rfl] at c27b0)
                                have c27b1 : decide (x10_2.size + ((rd_T28 t168 x11_2).f1).size ≤ 9223372036854775807) = true := decide_eq_true c27
                                try have c27b2 : (9223372036854775807 < x10_2.size + ((rd_T28 t168 x11_2).f1).size) = False := eq_false (Nat.not_lt.2 c27)
                                have HC28 := Aside0.mk H
                                clear H
                                have p175 : 0 ≤ (x11_2 : Int) := of_decide_eq_true (by first | (with_reducible assumption) | assumption)
                                have q175 : x11_2 < (t168.length : Int) := of_decide_eq_true (by first | (with_reducible assumption) | assumption)
                                obtain ⟨ad175, e175, hx175_0, hx175_1, hx175_2⟩ := at_T28 (Kd.R_reads' HO_7.out).2.2 x11_2 p175 q175
                                cases e175
                                replace p175 := eq_true p175
                                replace q175 := eq_true q175
                                go_upto_region 22 with (fail)
                                repeat (go_quiet (fail); go_upto_region 22 with (fail))
                                go_cut [117] (fun v117 wc => ∃ (kq : Nat) (x117_27 : Bool), v117 = .bool x117_27 ∧ Aside0 (windlasslaw5_LexLongest.j3 kq x4_1 t168 (x10_2 ++ ((rd_T28 t168 x11_2).f1)) x11_2 x117_27 = some r) ∧ Aside0 (kq ≤ kj18) ∧ Aside0 (Kd.R k28 28 wc w.heap.size (fun _ => True) (.slice (some ad175) t168.length co20) t168) ∧ Aside0 (Below w.heap.size w wc))
                                case first =>
                                  have H := HC28.out
                                  clear HC28
                                  by_cases c29 : (wrap64 (x11_2 + 2)) < (t168.length : Int)
                                  · rw [if_pos c29] at H
                                    have c29b0 : decide ((wrap64 (x11_2 + 2)) < (t168.length : Int)) = true := decide_eq_true c29
                                    clear c29
                                    (first | rw [c29b0] | (simp only [i64_w, i32_w]; rw [c29b0]) | skip)
                                    have H' := Aside0.mk H
                                    clear H
                                    have p176 : 0 ≤ (x11_2 : Int) := of_decide_eq_true (by first | (with_reducible assumption) | assumption)
                                    have q176 : x11_2 < (t168.length : Int) := of_decide_eq_true (by first | (with_reducible assumption) | assumption)
                                    obtain ⟨ad176, e176, hx176_0, hx176_1, hx176_2⟩ := at_T28 (Kd.R_reads' HO_7.out).2.2 x11_2 p176 q176
                                    obtain rfl : ad175 = ad176 := (by injection e176)
                                    replace p176 := eq_true p176
                                    replace q176 := eq_true q176
                                    go_wp2
                                    repeat (go_quiet (fail); try go_wp2)
                                    go_meet
                                    case rel => exact ⟨_, (((((rd_T28 t168 x11_2).f1).size : Int) == 1)), (by first | rfl | (simp; done) | (simp [*]; done)), H', ⟨by have := HK1.out; have := HK2.out; have := HJ18.out; first | omega | exact Nat.le_refl _⟩, ⟨by (with_reducible repeat (first | apply Kd.R_alloc | apply Kd.R_drewN | apply Kd.R_drew)); exact HO_7.out⟩, ⟨by repeat (first | (with_reducible first | exact HB.out | apply below_alloc | apply pw_below_drewN | apply below_drew1) | exact HB.out)⟩⟩
                                  · rw [if_neg c29] at H
                                    have c29b0 : decide ((wrap64 (x11_2 + 2)) < (t168.length : Int)) = false := decide_eq_false c29
                                    clear c29
                                    (first | rw [c29b0] | (simp only [i64_w, i32_w]; rw [c29b0]) | skip)
                                    have H' := Aside0.mk H
                                    clear H
                                    go_wp2
                                    repeat (go_quiet (fail); try go_wp2)
                                    go_meet
                                    case rel => exact ⟨_, (false), (by first | rfl | (simp; done) | (simp [*]; done)), H', ⟨by have := HK1.out; have := HK2.out; have := HJ18.out; first | omega | exact Nat.le_refl _⟩, ⟨by (with_reducible repeat (first | apply Kd.R_alloc | apply Kd.R_drewN | apply Kd.R_drew)); exact HO_7.out⟩, ⟨by repeat (first | (with_reducible first | exact HB.out | apply below_alloc | apply pw_below_drewN | apply below_drew1) | exact HB.out)⟩⟩
                                case rest =>
                                  clear HC28
                                  try clear c1
                                  try clear p1
                                  try clear q1
                                  try clear hx1
                                  try clear c2
                                  try clear p2
                                  try clear c3
                                  try clear c4
                                  try clear c4b0
                                  try clear c4b1
                                  try clear c6
                                  try clear p6
                                  try clear c7
                                  try clear c7b0
                                  try clear c8
                                  try clear c8b0
                                  try clear c9
                                  try clear c9b0
                                  try clear c9b1
                                  try clear c11
                                  try clear c11b0
                                  try clear c11b1
                                  try clear c12
                                  try clear c12b0
                                  try clear c12b1
                                  try clear c13
                                  try clear c13b0
                                  try clear c13b1
                                  try clear c14
                                  try clear c14b0
                                  try clear c14b1
                                  try clear c14b2
                                  try clear c16
                                  try clear c16b0
                                  try clear c16b1
                                  try clear p16
                                  try clear q16
                                  try clear hx16
                                  try clear p17
                                  try clear q17
                                  try clear hx17
                                  try clear c18
                                  try clear c18b0
                                  try clear c21
                                  try clear c21b0
                                  try clear c22
                                  try clear c22b0
                                  try clear c23
                                  try clear c23b0
                                  try clear c23b1
                                  try clear c24
                                  try clear c25
                                  try clear c25b0
                                  try clear c26
                                  try clear c26b0
                                  try clear c27
                                  try clear c27b0
                                  try clear c27b1
                                  try clear c27b2
                                  try clear c29
                                  try clear c29b0
                                  try clear hx167_0
                                  try clear hx173_0
                                  try clear hx173_1
                                  try clear hx173_2
                                  try clear hx174_0
                                  try clear hx174_1
                                  try clear hx174_2
                                  try clear hx175_0
                                  try clear hx175_1
                                  try clear hx175_2
                                  try clear hx176_0
                                  try clear hx176_1
                                  try clear hx176_2
                                  try clear p1
                                  try clear p16
                                  try clear p167
                                  try clear p17
                                  try clear p173
                                  try clear p174
                                  try clear p175
                                  try clear p176
                                  try clear p2
                                  try clear p6
                                  try clear q1
                                  try clear q16
                                  try clear q167
                                  try clear q17
                                  try clear q173
                                  try clear q174
                                  try clear q175
                                  try clear q176
                                  obtain ⟨kq, x117_27, rfl, HA, HJ27, HO_7, HB⟩ := hcut
                                  cases kq with
                                  | zero => exact absurd HA.out (by simp [windlasslaw5_LexLongest.j3])
                                  | succ kj27 =>
                                    have H := HA.out
                                    clear HA
                                    simp only [windlasslaw5_LexLongest.j3] at H
                                    by_cases c30 : x117_27 = true
                                    · subst c30
                                      have H1 : (if 0 ≤ x11_2 then (if x11_2 < (t168.length : Int) then (if 0 ≤ (wrap64 (x11_2 + 1)) then (if (wrap64 (x11_2 + 1)) < (t168.length : Int) then (if 0 ≤ 1 then (if 1 ≤ (((rd_T28 t168 (wrap64 (x11_2 + 1))).f1).size : Int) then (if ((rd_T28 t168 x11_2).f1).size + (((rd_T28 t168 (wrap64 (x11_2 + 1))).f1).extract 0 1).size ≤ 9223372036854775807 then (if (((rd_T28 t168 x11_2).f1) ++ (((rd_T28 t168 (wrap64 (x11_2 + 1))).f1).extract 0 1)).toList = ([61, 61] : List UInt8) then (some false) else (if (((rd_T28 t168 x11_2).f1) ++ (((rd_T28 t168 (wrap64 (x11_2 + 1))).f1).extract 0 1)).toList = ([33, 61] : List UInt8) then (some false) else (if (((rd_T28 t168 x11_2).f1) ++ (((rd_T28 t168 (wrap64 (x11_2 + 1))).f1).extract 0 1)).toList = ([60, 61] : List UInt8) then (some false) else (if (((rd_T28 t168 x11_2).f1) ++ (((rd_T28 t168 (wrap64 (x11_2 + 1))).f1).extract 0 1)).toList = ([62, 61] : List UInt8) then (some false) else (if (((rd_T28 t168 x11_2).f1) ++ (((rd_T28 t168 (wrap64 (x11_2 + 1))).f1).extract 0 1)).toList = ([43, 37] : List UInt8) then (some false) else (if (((rd_T28 t168 x11_2).f1) ++ (((rd_T28 t168 (wrap64 (x11_2 + 1))).f1).extract 0 1)).toList = ([45, 37] : List UInt8) then (some false) else (if (((rd_T28 t168 x11_2).f1) ++ (((rd_T28 t168 (wrap64 (x11_2 + 1))).f1).extract 0 1)).toList = ([42, 37] : List UInt8) then (some false) else (if (((rd_T28 t168 x11_2).f1) ++ (((rd_T28 t168 (wrap64 (x11_2 + 1))).f1).extract 0 1)).toList = ([45, 62] : List UInt8) then (some false) else (windlasslaw5_LexLongest.l1 kj27 x4_1 t168 (x10_2 ++ ((rd_T28 t168 x11_2).f1)) (wrap64 (x11_2 + 1))))))))))) else (none)) else (none)) else (none)) else (none)) else (none)) else (none)) else (none)) = some r := by rw [if_pos rfl] at H; exact H
                                      clear H
                                      have H := H1
                                      clear H1
                                      by_cases c31 : 0 ≤ x11_2
                                      · rw [if_pos c31] at H
                                        have c31b0 : decide (0 ≤ x11_2) = true := decide_eq_true c31
                                        clear c31
                                        by_cases c32 : x11_2 < (t168.length : Int)
                                        · rw [if_pos c32] at H
                                          have c32b0 : decide (x11_2 < (t168.length : Int)) = true := decide_eq_true c32
                                          clear c32
                                          obtain ⟨ji33, hji33⟩ : ∃ j_ : Int, (wrap64 (x11_2 + 1)) = j_ := ⟨_, rfl⟩
                                          replace H : (if 0 ≤ (ji33) then (if (ji33) < (t168.length : Int) then (if 0 ≤ 1 then (if 1 ≤ (((rd_T28 t168 (ji33)).f1).size : Int) then (if ((rd_T28 t168 x11_2).f1).size + (((rd_T28 t168 (ji33)).f1).extract 0 1).size ≤ 9223372036854775807 then (if (((rd_T28 t168 x11_2).f1) ++ (((rd_T28 t168 (ji33)).f1).extract 0 1)).toList = ([61, 61] : List UInt8) then (some false) else (if (((rd_T28 t168 x11_2).f1) ++ (((rd_T28 t168 (ji33)).f1).extract 0 1)).toList = ([33, 61] : List UInt8) then (some false) else (if (((rd_T28 t168 x11_2).f1) ++ (((rd_T28 t168 (ji33)).f1).extract 0 1)).toList = ([60, 61] : List UInt8) then (some false) else (if (((rd_T28 t168 x11_2).f1) ++ (((rd_T28 t168 (ji33)).f1).extract 0 1)).toList = ([62, 61] : List UInt8) then (some false) else (if (((rd_T28 t168 x11_2).f1) ++ (((rd_T28 t168 (ji33)).f1).extract 0 1)).toList = ([43, 37] : List UInt8) then (some false) else (if (((rd_T28 t168 x11_2).f1) ++ (((rd_T28 t168 (ji33)).f1).extract 0 1)).toList = ([45, 37] : List UInt8) then (some false) else (if (((rd_T28 t168 x11_2).f1) ++ (((rd_T28 t168 (ji33)).f1).extract 0 1)).toList = ([42, 37] : List UInt8) then (some false) else (if (((rd_T28 t168 x11_2).f1) ++ (((rd_T28 t168 (ji33)).f1).extract 0 1)).toList = ([45, 62] : List UInt8) then (some false) else (windlasslaw5_LexLongest.l1 kj27 x4_1 t168 (x10_2 ++ ((rd_T28 t168 x11_2).f1)) ji33))))))))) else (none)) else (none)) else (none)) else (none)) else (none)) = some r := by first | (rw [hji33] at H; exact H) | (simp only [hji33] at H ⊢; exact H)
                                          (try rw [hji33] at c18b0)
                                          have hji33w : (IntKind.i64.wrap (x11_2 + 1)) = ji33 := (i64_w _).trans hji33
                                          by_cases c34 : 0 ≤ (ji33)
                                          · rw [if_pos c34] at H
                                            have c34b0 : decide (0 ≤ (ji33)) = true := decide_eq_true c34
                                            clear c34
                                            by_cases c35 : (ji33) < (t168.length : Int)
                                            · rw [if_pos c35] at H
                                              have c35b0 : decide ((ji33) < (t168.length : Int)) = true := decide_eq_true c35
                                              clear c35
                                              by_cases c36 : 0 ≤ 1
                                              · rw [if_pos c36] at H
                                                have c36b0 := eq_true c36
                                                (try rw [show ((⟨#[123, 125, 40, 41, 91, 93, 44, 59, 58, 46, 61, 60, 62, 43, 45, 42, 47, 37, 38, 33]⟩ : ByteArray).size : Int) = 20 from rfl] at c36b0)
                                                have c36b1 : decide (0 ≤ 1) = true := decide_eq_true c36
                                                clear c36
                                                by_cases c37 : 1 ≤ (((rd_T28 t168 (ji33)).f1).size : Int)
                                                · rw [if_pos c37] at H
                                                  have c37b0 := eq_true c37
                                                  (try rw [show ((⟨#[123, 125, 40, 41, 91, 93, 44, 59, 58, 46, 61, 60, 62, 43, 45, 42, 47, 37, 38, 33]⟩ : ByteArray).size : Int) = 20 from rfl] at c37b0)
                                                  have c37b1 : decide (1 ≤ (((rd_T28 t168 (ji33)).f1).size : Int)) = true := decide_eq_true c37
                                                  clear c37
                                                  by_cases c38 : ((rd_T28 t168 x11_2).f1).size + (((rd_T28 t168 (ji33)).f1).extract 0 1).size ≤ 9223372036854775807
                                                  · rw [if_pos c38] at H
                                                    have c38b0 := eq_true c38
                                                    (try rw [show ((⟨#[123, 125, 40, 41, 91, 93, 44, 59, 58, 46, 61, 60, 62, 43, 45, 42, 47, 37, 38, 33]⟩ : ByteArray).size : Int) = 20 from rfl] at c38b0)
                                                    have c38b1 : decide (((rd_T28 t168 x11_2).f1).size + (((rd_T28 t168 (ji33)).f1).extract 0 1).size ≤ 9223372036854775807) = true := decide_eq_true c38
                                                    try have c38b2 : (9223372036854775807 < ((rd_T28 t168 x11_2).f1).size + (((rd_T28 t168 (ji33)).f1).extract 0 1).size) = False := eq_false (Nat.not_lt.2 c38)
                                                    by_cases c39 : (((rd_T28 t168 x11_2).f1) ++ (((rd_T28 t168 (ji33)).f1).extract 0 1)).toList = ([61, 61] : List UInt8)
                                                    · rw [if_pos c39] at H
                                                      have c39b0 : ((((rd_T28 t168 x11_2).f1) ++ (((rd_T28 t168 (ji33)).f1).extract 0 1)).toList == ([61, 61] : List UInt8)) = true := beq_iff_eq.mpr c39
                                                      have c39b1 : ((((rd_T28 t168 x11_2).f1) ++ (((rd_T28 t168 (ji33)).f1).extract 0 1)).toList != ([61, 61] : List UInt8)) = false := bne_eq_false_iff_eq.mpr c39
                                                      clear c39
                                                      obtain rfl := Option.some.inj H
                                                      have p177 : 0 ≤ (x11_2 : Int) := of_decide_eq_true (by first | (with_reducible assumption) | assumption)
                                                      have q177 : x11_2 < (t168.length : Int) := of_decide_eq_true (by first | (with_reducible assumption) | assumption)
                                                      obtain ⟨ad177, e177, hx177_0, hx177_1, hx177_2⟩ := at_T28 (Kd.R_reads' HO_7.out).2.2 x11_2 p177 q177
                                                      obtain rfl : ad175 = ad177 := (by injection e177)
                                                      replace p177 := eq_true p177
                                                      replace q177 := eq_true q177
                                                      have p178 : 0 ≤ ((ji33) : Int) := of_decide_eq_true (by first | (with_reducible assumption) | assumption)
                                                      have q178 : (ji33) < (t168.length : Int) := of_decide_eq_true (by first | (with_reducible assumption) | assumption)
                                                      obtain ⟨ad178, e178, hx178_0, hx178_1, hx178_2⟩ := at_T28 (Kd.R_reads' HO_7.out).2.2 (ji33) p178 q178
                                                      obtain rfl : ad175 = ad178 := (by injection e178)
                                                      replace p178 := eq_true p178
                                                      replace q178 := eq_true q178
                                                      go_wp2
                                                      repeat (go_quiet (fail); try go_wp2)
                                                      go_ret
                                                      exact ⟨by first | rfl | (simp [errW_none, errW_some] <;> rfl) | (simp only [← hji33]; first | rfl | (simp [errW_none, errW_some] <;> rfl)) | (simp [*, errW_none, errW_some] <;> rfl), by repeat (first | (with_reducible first | exact HB.out | apply below_alloc | apply pw_below_drewN | apply below_drew1) | exact HB.out)⟩
                                                    · rw [if_neg c39] at H
                                                      have c39b0 : ((((rd_T28 t168 x11_2).f1) ++ (((rd_T28 t168 (ji33)).f1).extract 0 1)).toList == ([61, 61] : List UInt8)) = false := beq_eq_false_iff_ne.mpr c39
                                                      have c39b1 : ((((rd_T28 t168 x11_2).f1) ++ (((rd_T28 t168 (ji33)).f1).extract 0 1)).toList != ([61, 61] : List UInt8)) = true := bne_iff_ne.mpr c39
                                                      by_cases c40 : (((rd_T28 t168 x11_2).f1) ++ (((rd_T28 t168 (ji33)).f1).extract 0 1)).toList = ([33, 61] : List UInt8)
                                                      · rw [if_pos c40] at H
                                                        have c40b0 : ((((rd_T28 t168 x11_2).f1) ++ (((rd_T28 t168 (ji33)).f1).extract 0 1)).toList == ([33, 61] : List UInt8)) = true := beq_iff_eq.mpr c40
                                                        have c40b1 : ((((rd_T28 t168 x11_2).f1) ++ (((rd_T28 t168 (ji33)).f1).extract 0 1)).toList != ([33, 61] : List UInt8)) = false := bne_eq_false_iff_eq.mpr c40
                                                        clear c40
                                                        obtain rfl := Option.some.inj H
                                                        have p177 : 0 ≤ (x11_2 : Int) := of_decide_eq_true (by first | (with_reducible assumption) | assumption)
                                                        have q177 : x11_2 < (t168.length : Int) := of_decide_eq_true (by first | (with_reducible assumption) | assumption)
                                                        obtain ⟨ad177, e177, hx177_0, hx177_1, hx177_2⟩ := at_T28 (Kd.R_reads' HO_7.out).2.2 x11_2 p177 q177
                                                        obtain rfl : ad175 = ad177 := (by injection e177)
                                                        replace p177 := eq_true p177
                                                        replace q177 := eq_true q177
                                                        have p178 : 0 ≤ ((ji33) : Int) := of_decide_eq_true (by first | (with_reducible assumption) | assumption)
                                                        have q178 : (ji33) < (t168.length : Int) := of_decide_eq_true (by first | (with_reducible assumption) | assumption)
                                                        obtain ⟨ad178, e178, hx178_0, hx178_1, hx178_2⟩ := at_T28 (Kd.R_reads' HO_7.out).2.2 (ji33) p178 q178
                                                        obtain rfl : ad175 = ad178 := (by injection e178)
                                                        replace p178 := eq_true p178
                                                        replace q178 := eq_true q178
                                                        go_wp2
                                                        repeat (go_quiet (fail); try go_wp2)
                                                        go_ret
                                                        exact ⟨by first | rfl | (simp [errW_none, errW_some] <;> rfl) | (simp only [← hji33]; first | rfl | (simp [errW_none, errW_some] <;> rfl)) | (simp [*, errW_none, errW_some] <;> rfl), by repeat (first | (with_reducible first | exact HB.out | apply below_alloc | apply pw_below_drewN | apply below_drew1) | exact HB.out)⟩
                                                      · rw [if_neg c40] at H
                                                        have c40b0 : ((((rd_T28 t168 x11_2).f1) ++ (((rd_T28 t168 (ji33)).f1).extract 0 1)).toList == ([33, 61] : List UInt8)) = false := beq_eq_false_iff_ne.mpr c40
                                                        have c40b1 : ((((rd_T28 t168 x11_2).f1) ++ (((rd_T28 t168 (ji33)).f1).extract 0 1)).toList != ([33, 61] : List UInt8)) = true := bne_iff_ne.mpr c40
                                                        by_cases c41 : (((rd_T28 t168 x11_2).f1) ++ (((rd_T28 t168 (ji33)).f1).extract 0 1)).toList = ([60, 61] : List UInt8)
                                                        · rw [if_pos c41] at H
                                                          have c41b0 : ((((rd_T28 t168 x11_2).f1) ++ (((rd_T28 t168 (ji33)).f1).extract 0 1)).toList == ([60, 61] : List UInt8)) = true := beq_iff_eq.mpr c41
                                                          have c41b1 : ((((rd_T28 t168 x11_2).f1) ++ (((rd_T28 t168 (ji33)).f1).extract 0 1)).toList != ([60, 61] : List UInt8)) = false := bne_eq_false_iff_eq.mpr c41
                                                          clear c41
                                                          obtain rfl := Option.some.inj H
                                                          have p177 : 0 ≤ (x11_2 : Int) := of_decide_eq_true (by first | (with_reducible assumption) | assumption)
                                                          have q177 : x11_2 < (t168.length : Int) := of_decide_eq_true (by first | (with_reducible assumption) | assumption)
                                                          obtain ⟨ad177, e177, hx177_0, hx177_1, hx177_2⟩ := at_T28 (Kd.R_reads' HO_7.out).2.2 x11_2 p177 q177
                                                          obtain rfl : ad175 = ad177 := (by injection e177)
                                                          replace p177 := eq_true p177
                                                          replace q177 := eq_true q177
                                                          have p178 : 0 ≤ ((ji33) : Int) := of_decide_eq_true (by first | (with_reducible assumption) | assumption)
                                                          have q178 : (ji33) < (t168.length : Int) := of_decide_eq_true (by first | (with_reducible assumption) | assumption)
                                                          obtain ⟨ad178, e178, hx178_0, hx178_1, hx178_2⟩ := at_T28 (Kd.R_reads' HO_7.out).2.2 (ji33) p178 q178
                                                          obtain rfl : ad175 = ad178 := (by injection e178)
                                                          replace p178 := eq_true p178
                                                          replace q178 := eq_true q178
                                                          go_wp2
                                                          repeat (go_quiet (fail); try go_wp2)
                                                          go_ret
                                                          exact ⟨by first | rfl | (simp [errW_none, errW_some] <;> rfl) | (simp only [← hji33]; first | rfl | (simp [errW_none, errW_some] <;> rfl)) | (simp [*, errW_none, errW_some] <;> rfl), by repeat (first | (with_reducible first | exact HB.out | apply below_alloc | apply pw_below_drewN | apply below_drew1) | exact HB.out)⟩
                                                        · rw [if_neg c41] at H
                                                          have c41b0 : ((((rd_T28 t168 x11_2).f1) ++ (((rd_T28 t168 (ji33)).f1).extract 0 1)).toList == ([60, 61] : List UInt8)) = false := beq_eq_false_iff_ne.mpr c41
                                                          have c41b1 : ((((rd_T28 t168 x11_2).f1) ++ (((rd_T28 t168 (ji33)).f1).extract 0 1)).toList != ([60, 61] : List UInt8)) = true := bne_iff_ne.mpr c41
                                                          by_cases c42 : (((rd_T28 t168 x11_2).f1) ++ (((rd_T28 t168 (ji33)).f1).extract 0 1)).toList = ([62, 61] : List UInt8)
                                                          · rw [if_pos c42] at H
                                                            have c42b0 : ((((rd_T28 t168 x11_2).f1) ++ (((rd_T28 t168 (ji33)).f1).extract 0 1)).toList == ([62, 61] : List UInt8)) = true := beq_iff_eq.mpr c42
                                                            have c42b1 : ((((rd_T28 t168 x11_2).f1) ++ (((rd_T28 t168 (ji33)).f1).extract 0 1)).toList != ([62, 61] : List UInt8)) = false := bne_eq_false_iff_eq.mpr c42
                                                            clear c42
                                                            obtain rfl := Option.some.inj H
                                                            have p177 : 0 ≤ (x11_2 : Int) := of_decide_eq_true (by first | (with_reducible assumption) | assumption)
                                                            have q177 : x11_2 < (t168.length : Int) := of_decide_eq_true (by first | (with_reducible assumption) | assumption)
                                                            obtain ⟨ad177, e177, hx177_0, hx177_1, hx177_2⟩ := at_T28 (Kd.R_reads' HO_7.out).2.2 x11_2 p177 q177
                                                            obtain rfl : ad175 = ad177 := (by injection e177)
                                                            replace p177 := eq_true p177
                                                            replace q177 := eq_true q177
                                                            have p178 : 0 ≤ ((ji33) : Int) := of_decide_eq_true (by first | (with_reducible assumption) | assumption)
                                                            have q178 : (ji33) < (t168.length : Int) := of_decide_eq_true (by first | (with_reducible assumption) | assumption)
                                                            obtain ⟨ad178, e178, hx178_0, hx178_1, hx178_2⟩ := at_T28 (Kd.R_reads' HO_7.out).2.2 (ji33) p178 q178
                                                            obtain rfl : ad175 = ad178 := (by injection e178)
                                                            replace p178 := eq_true p178
                                                            replace q178 := eq_true q178
                                                            go_wp2
                                                            repeat (go_quiet (fail); try go_wp2)
                                                            go_ret
                                                            exact ⟨by first | rfl | (simp [errW_none, errW_some] <;> rfl) | (simp only [← hji33]; first | rfl | (simp [errW_none, errW_some] <;> rfl)) | (simp [*, errW_none, errW_some] <;> rfl), by repeat (first | (with_reducible first | exact HB.out | apply below_alloc | apply pw_below_drewN | apply below_drew1) | exact HB.out)⟩
                                                          · rw [if_neg c42] at H
                                                            have c42b0 : ((((rd_T28 t168 x11_2).f1) ++ (((rd_T28 t168 (ji33)).f1).extract 0 1)).toList == ([62, 61] : List UInt8)) = false := beq_eq_false_iff_ne.mpr c42
                                                            have c42b1 : ((((rd_T28 t168 x11_2).f1) ++ (((rd_T28 t168 (ji33)).f1).extract 0 1)).toList != ([62, 61] : List UInt8)) = true := bne_iff_ne.mpr c42
                                                            by_cases c43 : (((rd_T28 t168 x11_2).f1) ++ (((rd_T28 t168 (ji33)).f1).extract 0 1)).toList = ([43, 37] : List UInt8)
                                                            · rw [if_pos c43] at H
                                                              have c43b0 : ((((rd_T28 t168 x11_2).f1) ++ (((rd_T28 t168 (ji33)).f1).extract 0 1)).toList == ([43, 37] : List UInt8)) = true := beq_iff_eq.mpr c43
                                                              have c43b1 : ((((rd_T28 t168 x11_2).f1) ++ (((rd_T28 t168 (ji33)).f1).extract 0 1)).toList != ([43, 37] : List UInt8)) = false := bne_eq_false_iff_eq.mpr c43
                                                              clear c43
                                                              obtain rfl := Option.some.inj H
                                                              have p177 : 0 ≤ (x11_2 : Int) := of_decide_eq_true (by first | (with_reducible assumption) | assumption)
                                                              have q177 : x11_2 < (t168.length : Int) := of_decide_eq_true (by first | (with_reducible assumption) | assumption)
                                                              obtain ⟨ad177, e177, hx177_0, hx177_1, hx177_2⟩ := at_T28 (Kd.R_reads' HO_7.out).2.2 x11_2 p177 q177
                                                              obtain rfl : ad175 = ad177 := (by injection e177)
                                                              replace p177 := eq_true p177
                                                              replace q177 := eq_true q177
                                                              have p178 : 0 ≤ ((ji33) : Int) := of_decide_eq_true (by first | (with_reducible assumption) | assumption)
                                                              have q178 : (ji33) < (t168.length : Int) := of_decide_eq_true (by first | (with_reducible assumption) | assumption)
                                                              obtain ⟨ad178, e178, hx178_0, hx178_1, hx178_2⟩ := at_T28 (Kd.R_reads' HO_7.out).2.2 (ji33) p178 q178
                                                              obtain rfl : ad175 = ad178 := (by injection e178)
                                                              replace p178 := eq_true p178
                                                              replace q178 := eq_true q178
                                                              go_wp2
                                                              repeat (go_quiet (fail); try go_wp2)
                                                              go_ret
                                                              exact ⟨by first | rfl | (simp [errW_none, errW_some] <;> rfl) | (simp only [← hji33]; first | rfl | (simp [errW_none, errW_some] <;> rfl)) | (simp [*, errW_none, errW_some] <;> rfl), by repeat (first | (with_reducible first | exact HB.out | apply below_alloc | apply pw_below_drewN | apply below_drew1) | exact HB.out)⟩
                                                            · rw [if_neg c43] at H
                                                              have c43b0 : ((((rd_T28 t168 x11_2).f1) ++ (((rd_T28 t168 (ji33)).f1).extract 0 1)).toList == ([43, 37] : List UInt8)) = false := beq_eq_false_iff_ne.mpr c43
                                                              have c43b1 : ((((rd_T28 t168 x11_2).f1) ++ (((rd_T28 t168 (ji33)).f1).extract 0 1)).toList != ([43, 37] : List UInt8)) = true := bne_iff_ne.mpr c43
                                                              by_cases c44 : (((rd_T28 t168 x11_2).f1) ++ (((rd_T28 t168 (ji33)).f1).extract 0 1)).toList = ([45, 37] : List UInt8)
                                                              · rw [if_pos c44] at H
                                                                have c44b0 : ((((rd_T28 t168 x11_2).f1) ++ (((rd_T28 t168 (ji33)).f1).extract 0 1)).toList == ([45, 37] : List UInt8)) = true := beq_iff_eq.mpr c44
                                                                have c44b1 : ((((rd_T28 t168 x11_2).f1) ++ (((rd_T28 t168 (ji33)).f1).extract 0 1)).toList != ([45, 37] : List UInt8)) = false := bne_eq_false_iff_eq.mpr c44
                                                                clear c44
                                                                obtain rfl := Option.some.inj H
                                                                have p177 : 0 ≤ (x11_2 : Int) := of_decide_eq_true (by first | (with_reducible assumption) | assumption)
                                                                have q177 : x11_2 < (t168.length : Int) := of_decide_eq_true (by first | (with_reducible assumption) | assumption)
                                                                obtain ⟨ad177, e177, hx177_0, hx177_1, hx177_2⟩ := at_T28 (Kd.R_reads' HO_7.out).2.2 x11_2 p177 q177
                                                                obtain rfl : ad175 = ad177 := (by injection e177)
                                                                replace p177 := eq_true p177
                                                                replace q177 := eq_true q177
                                                                have p178 : 0 ≤ ((ji33) : Int) := of_decide_eq_true (by first | (with_reducible assumption) | assumption)
                                                                have q178 : (ji33) < (t168.length : Int) := of_decide_eq_true (by first | (with_reducible assumption) | assumption)
                                                                obtain ⟨ad178, e178, hx178_0, hx178_1, hx178_2⟩ := at_T28 (Kd.R_reads' HO_7.out).2.2 (ji33) p178 q178
                                                                obtain rfl : ad175 = ad178 := (by injection e178)
                                                                replace p178 := eq_true p178
                                                                replace q178 := eq_true q178
                                                                go_wp2
                                                                repeat (go_quiet (fail); try go_wp2)
                                                                go_ret
                                                                exact ⟨by first | rfl | (simp [errW_none, errW_some] <;> rfl) | (simp only [← hji33]; first | rfl | (simp [errW_none, errW_some] <;> rfl)) | (simp [*, errW_none, errW_some] <;> rfl), by repeat (first | (with_reducible first | exact HB.out | apply below_alloc | apply pw_below_drewN | apply below_drew1) | exact HB.out)⟩
                                                              · rw [if_neg c44] at H
                                                                have c44b0 : ((((rd_T28 t168 x11_2).f1) ++ (((rd_T28 t168 (ji33)).f1).extract 0 1)).toList == ([45, 37] : List UInt8)) = false := beq_eq_false_iff_ne.mpr c44
                                                                have c44b1 : ((((rd_T28 t168 x11_2).f1) ++ (((rd_T28 t168 (ji33)).f1).extract 0 1)).toList != ([45, 37] : List UInt8)) = true := bne_iff_ne.mpr c44
                                                                by_cases c45 : (((rd_T28 t168 x11_2).f1) ++ (((rd_T28 t168 (ji33)).f1).extract 0 1)).toList = ([42, 37] : List UInt8)
                                                                · rw [if_pos c45] at H
                                                                  have c45b0 : ((((rd_T28 t168 x11_2).f1) ++ (((rd_T28 t168 (ji33)).f1).extract 0 1)).toList == ([42, 37] : List UInt8)) = true := beq_iff_eq.mpr c45
                                                                  have c45b1 : ((((rd_T28 t168 x11_2).f1) ++ (((rd_T28 t168 (ji33)).f1).extract 0 1)).toList != ([42, 37] : List UInt8)) = false := bne_eq_false_iff_eq.mpr c45
                                                                  clear c45
                                                                  obtain rfl := Option.some.inj H
                                                                  have p177 : 0 ≤ (x11_2 : Int) := of_decide_eq_true (by first | (with_reducible assumption) | assumption)
                                                                  have q177 : x11_2 < (t168.length : Int) := of_decide_eq_true (by first | (with_reducible assumption) | assumption)
                                                                  obtain ⟨ad177, e177, hx177_0, hx177_1, hx177_2⟩ := at_T28 (Kd.R_reads' HO_7.out).2.2 x11_2 p177 q177
                                                                  obtain rfl : ad175 = ad177 := (by injection e177)
                                                                  replace p177 := eq_true p177
                                                                  replace q177 := eq_true q177
                                                                  have p178 : 0 ≤ ((ji33) : Int) := of_decide_eq_true (by first | (with_reducible assumption) | assumption)
                                                                  have q178 : (ji33) < (t168.length : Int) := of_decide_eq_true (by first | (with_reducible assumption) | assumption)
                                                                  obtain ⟨ad178, e178, hx178_0, hx178_1, hx178_2⟩ := at_T28 (Kd.R_reads' HO_7.out).2.2 (ji33) p178 q178
                                                                  obtain rfl : ad175 = ad178 := (by injection e178)
                                                                  replace p178 := eq_true p178
                                                                  replace q178 := eq_true q178
                                                                  go_wp2
                                                                  repeat (go_quiet (fail); try go_wp2)
                                                                  go_ret
                                                                  exact ⟨by first | rfl | (simp [errW_none, errW_some] <;> rfl) | (simp only [← hji33]; first | rfl | (simp [errW_none, errW_some] <;> rfl)) | (simp [*, errW_none, errW_some] <;> rfl), by repeat (first | (with_reducible first | exact HB.out | apply below_alloc | apply pw_below_drewN | apply below_drew1) | exact HB.out)⟩
                                                                · rw [if_neg c45] at H
                                                                  have c45b0 : ((((rd_T28 t168 x11_2).f1) ++ (((rd_T28 t168 (ji33)).f1).extract 0 1)).toList == ([42, 37] : List UInt8)) = false := beq_eq_false_iff_ne.mpr c45
                                                                  have c45b1 : ((((rd_T28 t168 x11_2).f1) ++ (((rd_T28 t168 (ji33)).f1).extract 0 1)).toList != ([42, 37] : List UInt8)) = true := bne_iff_ne.mpr c45
                                                                  by_cases c46 : (((rd_T28 t168 x11_2).f1) ++ (((rd_T28 t168 (ji33)).f1).extract 0 1)).toList = ([45, 62] : List UInt8)
                                                                  · rw [if_pos c46] at H
                                                                    have c46b0 : ((((rd_T28 t168 x11_2).f1) ++ (((rd_T28 t168 (ji33)).f1).extract 0 1)).toList == ([45, 62] : List UInt8)) = true := beq_iff_eq.mpr c46
                                                                    have c46b1 : ((((rd_T28 t168 x11_2).f1) ++ (((rd_T28 t168 (ji33)).f1).extract 0 1)).toList != ([45, 62] : List UInt8)) = false := bne_eq_false_iff_eq.mpr c46
                                                                    clear c46
                                                                    obtain rfl := Option.some.inj H
                                                                    have p177 : 0 ≤ (x11_2 : Int) := of_decide_eq_true (by first | (with_reducible assumption) | assumption)
                                                                    have q177 : x11_2 < (t168.length : Int) := of_decide_eq_true (by first | (with_reducible assumption) | assumption)
                                                                    obtain ⟨ad177, e177, hx177_0, hx177_1, hx177_2⟩ := at_T28 (Kd.R_reads' HO_7.out).2.2 x11_2 p177 q177
                                                                    obtain rfl : ad175 = ad177 := (by injection e177)
                                                                    replace p177 := eq_true p177
                                                                    replace q177 := eq_true q177
                                                                    have p178 : 0 ≤ ((ji33) : Int) := of_decide_eq_true (by first | (with_reducible assumption) | assumption)
                                                                    have q178 : (ji33) < (t168.length : Int) := of_decide_eq_true (by first | (with_reducible assumption) | assumption)
                                                                    obtain ⟨ad178, e178, hx178_0, hx178_1, hx178_2⟩ := at_T28 (Kd.R_reads' HO_7.out).2.2 (ji33) p178 q178
                                                                    obtain rfl : ad175 = ad178 := (by injection e178)
                                                                    replace p178 := eq_true p178
                                                                    replace q178 := eq_true q178
                                                                    go_wp2
                                                                    repeat (go_quiet (fail); try go_wp2)
                                                                    go_ret
                                                                    exact ⟨by first | rfl | (simp [errW_none, errW_some] <;> rfl) | (simp only [← hji33]; first | rfl | (simp [errW_none, errW_some] <;> rfl)) | (simp [*, errW_none, errW_some] <;> rfl), by repeat (first | (with_reducible first | exact HB.out | apply below_alloc | apply pw_below_drewN | apply below_drew1) | exact HB.out)⟩
                                                                  · rw [if_neg c46] at H
                                                                    have c46b0 : ((((rd_T28 t168 x11_2).f1) ++ (((rd_T28 t168 (ji33)).f1).extract 0 1)).toList == ([45, 62] : List UInt8)) = false := beq_eq_false_iff_ne.mpr c46
                                                                    have c46b1 : ((((rd_T28 t168 x11_2).f1) ++ (((rd_T28 t168 (ji33)).f1).extract 0 1)).toList != ([45, 62] : List UInt8)) = true := bne_iff_ne.mpr c46
                                                                    have H' := Aside0.mk H
                                                                    clear H
                                                                    have p177 : 0 ≤ (x11_2 : Int) := of_decide_eq_true (by first | (with_reducible assumption) | assumption)
                                                                    have q177 : x11_2 < (t168.length : Int) := of_decide_eq_true (by first | (with_reducible assumption) | assumption)
                                                                    obtain ⟨ad177, e177, hx177_0, hx177_1, hx177_2⟩ := at_T28 (Kd.R_reads' HO_7.out).2.2 x11_2 p177 q177
                                                                    obtain rfl : ad175 = ad177 := (by injection e177)
                                                                    replace p177 := eq_true p177
                                                                    replace q177 := eq_true q177
                                                                    have p178 : 0 ≤ ((ji33) : Int) := of_decide_eq_true (by first | (with_reducible assumption) | assumption)
                                                                    have q178 : (ji33) < (t168.length : Int) := of_decide_eq_true (by first | (with_reducible assumption) | assumption)
                                                                    obtain ⟨ad178, e178, hx178_0, hx178_1, hx178_2⟩ := at_T28 (Kd.R_reads' HO_7.out).2.2 (ji33) p178 q178
                                                                    obtain rfl : ad175 = ad178 := (by injection e178)
                                                                    replace p178 := eq_true p178
                                                                    replace q178 := eq_true q178
                                                                    go_wp2
                                                                    repeat (go_quiet (fail); try go_wp2)
                                                                    go_roundg kj27
                                                                    case measure => have := HK1.out; have := HK2.out; have := HJ18.out; have := HJ27.out; omega
                                                                    case rel => exact ⟨((x10_2 ++ ((rd_T28 t168 x11_2).f1))), (ji33), (by first | rfl | (simp; done) | (simp [*]; done)), (by first | rfl | (simp; done) | (simp only [← hji33] <;> (first | rfl | simp)) | (simp [*]; done)), H', ⟨by have := HK1.out; have := HK2.out; have := HJ18.out; have := HJ27.out; omega⟩, ⟨by (with_reducible repeat (first | apply Kd.R_alloc | apply Kd.R_drewN | apply Kd.R_drew)); exact HO_7.out⟩, ⟨by repeat (first | (with_reducible first | exact HB.out | apply below_alloc | apply pw_below_drewN | apply below_drew1) | exact HB.out)⟩⟩
                                                  · rw [if_neg c38] at H
                                                    exact absurd H (by simp)
                                                · rw [if_neg c37] at H
                                                  exact absurd H (by simp)
                                              · rw [if_neg c36] at H
                                                exact absurd H (by simp)
                                            · rw [if_neg c35] at H
                                              exact absurd H (by simp)
                                          · rw [if_neg c34] at H
                                            exact absurd H (by simp)
                                        · rw [if_neg c32] at H
                                          exact absurd H (by simp)
                                      · rw [if_neg c31] at H
                                        exact absurd H (by simp)
                                    · replace c30 := Bool.eq_false_iff.mpr c30
                                      subst c30
                                      have H1 : (windlasslaw5_LexLongest.l1 kj27 x4_1 t168 (x10_2 ++ ((rd_T28 t168 x11_2).f1)) (wrap64 (x11_2 + 1))) = some r := by rw [if_neg (show ¬ (false = true) by decide)] at H; exact H
                                      clear H
                                      have H := H1
                                      clear H1
                                      have H' := Aside0.mk H
                                      clear H
                                      go_wp2
                                      repeat (go_quiet (fail); try go_wp2)
                                      go_roundg kj27
                                      case measure => have := HK1.out; have := HK2.out; have := HJ18.out; have := HJ27.out; omega
                                      case rel => exact ⟨((x10_2 ++ ((rd_T28 t168 x11_2).f1))), (wrap64 (x11_2 + 1)), (by first | rfl | (simp; done) | (simp [*]; done)), (by first | rfl | (simp; done) | (simp [*]; done)), H', ⟨by have := HK1.out; have := HK2.out; have := HJ18.out; have := HJ27.out; omega⟩, ⟨by (with_reducible repeat (first | apply Kd.R_alloc | apply Kd.R_drewN | apply Kd.R_drew)); exact HO_7.out⟩, ⟨by repeat (first | (with_reducible first | exact HB.out | apply below_alloc | apply pw_below_drewN | apply below_drew1) | exact HB.out)⟩⟩
                              · rw [if_neg c27] at H
                                exact absurd H (by simp)
                            · rw [if_neg c26] at H
                              exact absurd H (by simp)
                          · rw [if_neg c25] at H
                            exact absurd H (by simp)
                  · rw [if_neg c18] at H
                    have c18b0 : decide ((wrap64 (x11_2 + 1)) < (t168.length : Int)) = false := decide_eq_false c18
                    clear c18
                    obtain rfl := Option.some.inj H
                    obtain ⟨Ao47, co47, eo47⟩ := Kd.R_slice HO_7.out
                    subst eo47
                    go_wp2
                    repeat (go_quiet (fail); try go_wp2)
                    go_ret
                    exact ⟨by first | rfl | (simp [errW_none, errW_some] <;> rfl) | (simp [*, errW_none, errW_some] <;> rfl), by repeat (first | (with_reducible first | exact HB.out | apply below_alloc | apply pw_below_drewN | apply below_drew1) | exact HB.out)⟩
            · rw [if_neg c16] at H
              have c16b0 : (t172 == 0) = false := beq_eq_false_iff_ne.mpr c16
              have c16b1 : (t172 != 0) = true := bne_iff_ne.mpr c16
              by_cases c48 : t172 = 51
              · rw [if_pos c48] at H
                have c48b0 : (t172 == 51) = true := beq_iff_eq.mpr c48
                have c48b1 : (t172 != 51) = false := bne_eq_false_iff_eq.mpr c48
                clear c48
                by_cases c49 : t171 < (x4_1.size : Int)
                · rw [if_pos c49] at H
                  have c49b0 : decide (t171 < (x4_1.size : Int)) = true := decide_eq_true c49
                  clear c49
                  by_cases c50 : 0 ≤ t171
                  · rw [if_pos c50] at H
                    have c50b0 : decide (0 ≤ t171) = true := decide_eq_true c50
                    clear c50
                    by_cases c52 : (bt x4_1 t171) = 33
                    · rw [if_pos c52] at H
                      have c52b0 : ((bt x4_1 t171) == 33) = true := beq_iff_eq.mpr c52
                      have c52b1 : ((bt x4_1 t171) != 33) = false := bne_eq_false_iff_eq.mpr c52
                      clear c52
                      by_cases c53 : (wrap64 (t171 + 1)) = (x4_1.size : Int)
                      · rw [if_pos c53] at H
                        have c53b0 : ((wrap64 (t171 + 1)) == (x4_1.size : Int)) = true := beq_iff_eq.mpr c53
                        have c53b1 : ((wrap64 (t171 + 1)) != (x4_1.size : Int)) = false := bne_eq_false_iff_eq.mpr c53
                        clear c53
                        obtain rfl := Option.some.inj H
                        go_wp2_with (first | (go_at_call 10; (with_reducible refine (lex_Tokens.calls x4_1 t168 t171 t172 _ A15.out).mono ?_); rintro e w54 ⟨v169, rfl, ho0, hb⟩; have n0_ := Aside0.mk (Kd.R_lower (Kd.R_mono (ok' := fun k_ => True) ho0 (fun _ hk_ => trivial)) (below_size (by repeat (first | (with_reducible first | exact HB.out | apply below_alloc | apply pw_below_drewN | apply below_drew1) | exact HB.out)))); have n1_ := Aside0.mk (below_step (by repeat (first | (with_reducible first | exact HB.out | apply below_alloc | apply pw_below_drewN | apply below_drew1) | exact HB.out)) hb); clear HB; have HO170 := n0_; have HB := n1_; clear n0_ n1_; (try clear hb); (try clear hb2); (try clear hk); (try clear hi); (try clear ho0); have p51 : 0 ≤ (t171 : Int) := of_decide_eq_true (by first | (with_reducible assumption) | assumption); have q51 : t171 < (x4_1.size : Int) := of_decide_eq_true (by first | (with_reducible assumption) | assumption); have hx51 := bt_at x4_1 t171; replace p51 := eq_true p51; replace q51 := eq_true q51))
                        repeat (go_quiet (first | (go_at_call 10; (with_reducible refine (lex_Tokens.calls x4_1 t168 t171 t172 _ A15.out).mono ?_); rintro e w54 ⟨v169, rfl, ho0, hb⟩; have n0_ := Aside0.mk (Kd.R_lower (Kd.R_mono (ok' := fun k_ => True) ho0 (fun _ hk_ => trivial)) (below_size (by repeat (first | (with_reducible first | exact HB.out | apply below_alloc | apply pw_below_drewN | apply below_drew1) | exact HB.out)))); have n1_ := Aside0.mk (below_step (by repeat (first | (with_reducible first | exact HB.out | apply below_alloc | apply pw_below_drewN | apply below_drew1) | exact HB.out)) hb); clear HB; have HO170 := n0_; have HB := n1_; clear n0_ n1_; (try clear hb); (try clear hb2); (try clear hk); (try clear hi); (try clear ho0); have p51 : 0 ≤ (t171 : Int) := of_decide_eq_true (by first | (with_reducible assumption) | assumption); have q51 : t171 < (x4_1.size : Int) := of_decide_eq_true (by first | (with_reducible assumption) | assumption); have hx51 := bt_at x4_1 t171; replace p51 := eq_true p51; replace q51 := eq_true q51)); try go_wp2_with (first | (go_at_call 10; (with_reducible refine (lex_Tokens.calls x4_1 t168 t171 t172 _ A15.out).mono ?_); rintro e w54 ⟨v169, rfl, ho0, hb⟩; have n0_ := Aside0.mk (Kd.R_lower (Kd.R_mono (ok' := fun k_ => True) ho0 (fun _ hk_ => trivial)) (below_size (by repeat (first | (with_reducible first | exact HB.out | apply below_alloc | apply pw_below_drewN | apply below_drew1) | exact HB.out)))); have n1_ := Aside0.mk (below_step (by repeat (first | (with_reducible first | exact HB.out | apply below_alloc | apply pw_below_drewN | apply below_drew1) | exact HB.out)) hb); clear HB; have HO170 := n0_; have HB := n1_; clear n0_ n1_; (try clear hb); (try clear hb2); (try clear hk); (try clear hi); (try clear ho0); have p51 : 0 ≤ (t171 : Int) := of_decide_eq_true (by first | (with_reducible assumption) | assumption); have q51 : t171 < (x4_1.size : Int) := of_decide_eq_true (by first | (with_reducible assumption) | assumption); have hx51 := bt_at x4_1 t171; replace p51 := eq_true p51; replace q51 := eq_true q51)))
                        go_ret
                        exact ⟨by first | rfl | (simp [errW_none, errW_some] <;> rfl) | (simp [*, errW_none, errW_some] <;> rfl), by repeat (first | (with_reducible first | exact HB.out | apply below_alloc | apply pw_below_drewN | apply below_drew1) | exact HB.out)⟩
                      · rw [if_neg c53] at H
                        have c53b0 : ((wrap64 (t171 + 1)) == (x4_1.size : Int)) = false := beq_eq_false_iff_ne.mpr c53
                        have c53b1 : ((wrap64 (t171 + 1)) != (x4_1.size : Int)) = true := bne_iff_ne.mpr c53
                        obtain ⟨ji55, hji55⟩ : ∃ j_ : Int, (wrap64 (t171 + 1)) = j_ := ⟨_, rfl⟩
                        replace H : (if 0 ≤ (ji55) then (if (ji55) < (x4_1.size : Int) then (some ((bt x4_1 (ji55)) != 61)) else (none)) else (none)) = some r := by first | (rw [hji55] at H; exact H) | (simp only [hji55] at H ⊢; exact H)
                        (try rw [hji55] at c53b0)
                        (try rw [hji55] at c53b1)
                        (try rw [hji55] at A15)
                        have hji55w : (IntKind.i64.wrap (t171 + 1)) = ji55 := (i64_w _).trans hji55
                        by_cases c56 : 0 ≤ (ji55)
                        · rw [if_pos c56] at H
                          have c56b0 : decide (0 ≤ (ji55)) = true := decide_eq_true c56
                          clear c56
                          by_cases c57 : (ji55) < (x4_1.size : Int)
                          · rw [if_pos c57] at H
                            have c57b0 : decide ((ji55) < (x4_1.size : Int)) = true := decide_eq_true c57
                            clear c57
                            obtain rfl := Option.some.inj H
                            go_wp2_with (first | (go_at_call 10; (with_reducible refine (lex_Tokens.calls x4_1 t168 t171 t172 _ A15.out).mono ?_); rintro e w59 ⟨v169, rfl, ho0, hb⟩; have n0_ := Aside0.mk (Kd.R_lower (Kd.R_mono (ok' := fun k_ => True) ho0 (fun _ hk_ => trivial)) (below_size (by repeat (first | (with_reducible first | exact HB.out | apply below_alloc | apply pw_below_drewN | apply below_drew1) | exact HB.out)))); have n1_ := Aside0.mk (below_step (by repeat (first | (with_reducible first | exact HB.out | apply below_alloc | apply pw_below_drewN | apply below_drew1) | exact HB.out)) hb); clear HB; have HO170 := n0_; have HB := n1_; clear n0_ n1_; (try clear hb); (try clear hb2); (try clear hk); (try clear hi); (try clear ho0); have p51 : 0 ≤ (t171 : Int) := of_decide_eq_true (by first | (with_reducible assumption) | assumption); have q51 : t171 < (x4_1.size : Int) := of_decide_eq_true (by first | (with_reducible assumption) | assumption); have hx51 := bt_at x4_1 t171; replace p51 := eq_true p51; replace q51 := eq_true q51; have p58 : 0 ≤ ((ji55) : Int) := of_decide_eq_true (by first | (with_reducible assumption) | assumption); have q58 : (ji55) < (x4_1.size : Int) := of_decide_eq_true (by first | (with_reducible assumption) | assumption); have hx58 := bt_at x4_1 (ji55); replace p58 := eq_true p58; replace q58 := eq_true q58))
                            repeat (go_quiet (first | (go_at_call 10; (with_reducible refine (lex_Tokens.calls x4_1 t168 t171 t172 _ A15.out).mono ?_); rintro e w59 ⟨v169, rfl, ho0, hb⟩; have n0_ := Aside0.mk (Kd.R_lower (Kd.R_mono (ok' := fun k_ => True) ho0 (fun _ hk_ => trivial)) (below_size (by repeat (first | (with_reducible first | exact HB.out | apply below_alloc | apply pw_below_drewN | apply below_drew1) | exact HB.out)))); have n1_ := Aside0.mk (below_step (by repeat (first | (with_reducible first | exact HB.out | apply below_alloc | apply pw_below_drewN | apply below_drew1) | exact HB.out)) hb); clear HB; have HO170 := n0_; have HB := n1_; clear n0_ n1_; (try clear hb); (try clear hb2); (try clear hk); (try clear hi); (try clear ho0); have p51 : 0 ≤ (t171 : Int) := of_decide_eq_true (by first | (with_reducible assumption) | assumption); have q51 : t171 < (x4_1.size : Int) := of_decide_eq_true (by first | (with_reducible assumption) | assumption); have hx51 := bt_at x4_1 t171; replace p51 := eq_true p51; replace q51 := eq_true q51; have p58 : 0 ≤ ((ji55) : Int) := of_decide_eq_true (by first | (with_reducible assumption) | assumption); have q58 : (ji55) < (x4_1.size : Int) := of_decide_eq_true (by first | (with_reducible assumption) | assumption); have hx58 := bt_at x4_1 (ji55); replace p58 := eq_true p58; replace q58 := eq_true q58)); try go_wp2_with (first | (go_at_call 10; (with_reducible refine (lex_Tokens.calls x4_1 t168 t171 t172 _ A15.out).mono ?_); rintro e w59 ⟨v169, rfl, ho0, hb⟩; have n0_ := Aside0.mk (Kd.R_lower (Kd.R_mono (ok' := fun k_ => True) ho0 (fun _ hk_ => trivial)) (below_size (by repeat (first | (with_reducible first | exact HB.out | apply below_alloc | apply pw_below_drewN | apply below_drew1) | exact HB.out)))); have n1_ := Aside0.mk (below_step (by repeat (first | (with_reducible first | exact HB.out | apply below_alloc | apply pw_below_drewN | apply below_drew1) | exact HB.out)) hb); clear HB; have HO170 := n0_; have HB := n1_; clear n0_ n1_; (try clear hb); (try clear hb2); (try clear hk); (try clear hi); (try clear ho0); have p51 : 0 ≤ (t171 : Int) := of_decide_eq_true (by first | (with_reducible assumption) | assumption); have q51 : t171 < (x4_1.size : Int) := of_decide_eq_true (by first | (with_reducible assumption) | assumption); have hx51 := bt_at x4_1 t171; replace p51 := eq_true p51; replace q51 := eq_true q51; have p58 : 0 ≤ ((ji55) : Int) := of_decide_eq_true (by first | (with_reducible assumption) | assumption); have q58 : (ji55) < (x4_1.size : Int) := of_decide_eq_true (by first | (with_reducible assumption) | assumption); have hx58 := bt_at x4_1 (ji55); replace p58 := eq_true p58; replace q58 := eq_true q58)))
                            go_ret
                            exact ⟨by first | rfl | (simp [errW_none, errW_some] <;> rfl) | (simp only [← hji55]; first | rfl | (simp [errW_none, errW_some] <;> rfl)) | (simp [*, errW_none, errW_some] <;> rfl), by repeat (first | (with_reducible first | exact HB.out | apply below_alloc | apply pw_below_drewN | apply below_drew1) | exact HB.out)⟩
                          · rw [if_neg c57] at H
                            exact absurd H (by simp)
                        · rw [if_neg c56] at H
                          exact absurd H (by simp)
                    · rw [if_neg c52] at H
                      have c52b0 : ((bt x4_1 t171) == 33) = false := beq_eq_false_iff_ne.mpr c52
                      have c52b1 : ((bt x4_1 t171) != 33) = true := bne_iff_ne.mpr c52
                      obtain rfl := Option.some.inj H
                      go_wp2_with (first | (go_at_call 10; (with_reducible refine (lex_Tokens.calls x4_1 t168 t171 t172 _ A15.out).mono ?_); rintro e w60 ⟨v169, rfl, ho0, hb⟩; have n0_ := Aside0.mk (Kd.R_lower (Kd.R_mono (ok' := fun k_ => True) ho0 (fun _ hk_ => trivial)) (below_size (by repeat (first | (with_reducible first | exact HB.out | apply below_alloc | apply pw_below_drewN | apply below_drew1) | exact HB.out)))); have n1_ := Aside0.mk (below_step (by repeat (first | (with_reducible first | exact HB.out | apply below_alloc | apply pw_below_drewN | apply below_drew1) | exact HB.out)) hb); clear HB; have HO170 := n0_; have HB := n1_; clear n0_ n1_; (try clear hb); (try clear hb2); (try clear hk); (try clear hi); (try clear ho0); have p51 : 0 ≤ (t171 : Int) := of_decide_eq_true (by first | (with_reducible assumption) | assumption); have q51 : t171 < (x4_1.size : Int) := of_decide_eq_true (by first | (with_reducible assumption) | assumption); have hx51 := bt_at x4_1 t171; replace p51 := eq_true p51; replace q51 := eq_true q51))
                      repeat (go_quiet (first | (go_at_call 10; (with_reducible refine (lex_Tokens.calls x4_1 t168 t171 t172 _ A15.out).mono ?_); rintro e w60 ⟨v169, rfl, ho0, hb⟩; have n0_ := Aside0.mk (Kd.R_lower (Kd.R_mono (ok' := fun k_ => True) ho0 (fun _ hk_ => trivial)) (below_size (by repeat (first | (with_reducible first | exact HB.out | apply below_alloc | apply pw_below_drewN | apply below_drew1) | exact HB.out)))); have n1_ := Aside0.mk (below_step (by repeat (first | (with_reducible first | exact HB.out | apply below_alloc | apply pw_below_drewN | apply below_drew1) | exact HB.out)) hb); clear HB; have HO170 := n0_; have HB := n1_; clear n0_ n1_; (try clear hb); (try clear hb2); (try clear hk); (try clear hi); (try clear ho0); have p51 : 0 ≤ (t171 : Int) := of_decide_eq_true (by first | (with_reducible assumption) | assumption); have q51 : t171 < (x4_1.size : Int) := of_decide_eq_true (by first | (with_reducible assumption) | assumption); have hx51 := bt_at x4_1 t171; replace p51 := eq_true p51; replace q51 := eq_true q51)); try go_wp2_with (first | (go_at_call 10; (with_reducible refine (lex_Tokens.calls x4_1 t168 t171 t172 _ A15.out).mono ?_); rintro e w60 ⟨v169, rfl, ho0, hb⟩; have n0_ := Aside0.mk (Kd.R_lower (Kd.R_mono (ok' := fun k_ => True) ho0 (fun _ hk_ => trivial)) (below_size (by repeat (first | (with_reducible first | exact HB.out | apply below_alloc | apply pw_below_drewN | apply below_drew1) | exact HB.out)))); have n1_ := Aside0.mk (below_step (by repeat (first | (with_reducible first | exact HB.out | apply below_alloc | apply pw_below_drewN | apply below_drew1) | exact HB.out)) hb); clear HB; have HO170 := n0_; have HB := n1_; clear n0_ n1_; (try clear hb); (try clear hb2); (try clear hk); (try clear hi); (try clear ho0); have p51 : 0 ≤ (t171 : Int) := of_decide_eq_true (by first | (with_reducible assumption) | assumption); have q51 : t171 < (x4_1.size : Int) := of_decide_eq_true (by first | (with_reducible assumption) | assumption); have hx51 := bt_at x4_1 t171; replace p51 := eq_true p51; replace q51 := eq_true q51)))
                      go_ret
                      exact ⟨by first | rfl | (simp [errW_none, errW_some] <;> rfl) | (simp [*, errW_none, errW_some] <;> rfl), by repeat (first | (with_reducible first | exact HB.out | apply below_alloc | apply pw_below_drewN | apply below_drew1) | exact HB.out)⟩
                  · rw [if_neg c50] at H
                    exact absurd H (by simp)
                · rw [if_neg c49] at H
                  have c49b0 : decide (t171 < (x4_1.size : Int)) = false := decide_eq_false c49
                  clear c49
                  obtain rfl := Option.some.inj H
                  go_wp2_with (first | (go_at_call 10; (with_reducible refine (lex_Tokens.calls x4_1 t168 t171 t172 _ A15.out).mono ?_); rintro e w61 ⟨v169, rfl, ho0, hb⟩; have n0_ := Aside0.mk (Kd.R_lower (Kd.R_mono (ok' := fun k_ => True) ho0 (fun _ hk_ => trivial)) (below_size (by repeat (first | (with_reducible first | exact HB.out | apply below_alloc | apply pw_below_drewN | apply below_drew1) | exact HB.out)))); have n1_ := Aside0.mk (below_step (by repeat (first | (with_reducible first | exact HB.out | apply below_alloc | apply pw_below_drewN | apply below_drew1) | exact HB.out)) hb); clear HB; have HO170 := n0_; have HB := n1_; clear n0_ n1_; (try clear hb); (try clear hb2); (try clear hk); (try clear hi); (try clear ho0)))
                  repeat (go_quiet (first | (go_at_call 10; (with_reducible refine (lex_Tokens.calls x4_1 t168 t171 t172 _ A15.out).mono ?_); rintro e w61 ⟨v169, rfl, ho0, hb⟩; have n0_ := Aside0.mk (Kd.R_lower (Kd.R_mono (ok' := fun k_ => True) ho0 (fun _ hk_ => trivial)) (below_size (by repeat (first | (with_reducible first | exact HB.out | apply below_alloc | apply pw_below_drewN | apply below_drew1) | exact HB.out)))); have n1_ := Aside0.mk (below_step (by repeat (first | (with_reducible first | exact HB.out | apply below_alloc | apply pw_below_drewN | apply below_drew1) | exact HB.out)) hb); clear HB; have HO170 := n0_; have HB := n1_; clear n0_ n1_; (try clear hb); (try clear hb2); (try clear hk); (try clear hi); (try clear ho0))); try go_wp2_with (first | (go_at_call 10; (with_reducible refine (lex_Tokens.calls x4_1 t168 t171 t172 _ A15.out).mono ?_); rintro e w61 ⟨v169, rfl, ho0, hb⟩; have n0_ := Aside0.mk (Kd.R_lower (Kd.R_mono (ok' := fun k_ => True) ho0 (fun _ hk_ => trivial)) (below_size (by repeat (first | (with_reducible first | exact HB.out | apply below_alloc | apply pw_below_drewN | apply below_drew1) | exact HB.out)))); have n1_ := Aside0.mk (below_step (by repeat (first | (with_reducible first | exact HB.out | apply below_alloc | apply pw_below_drewN | apply below_drew1) | exact HB.out)) hb); clear HB; have HO170 := n0_; have HB := n1_; clear n0_ n1_; (try clear hb); (try clear hb2); (try clear hk); (try clear hi); (try clear ho0))))
                  go_ret
                  exact ⟨by first | rfl | (simp [errW_none, errW_some] <;> rfl) | (simp [*, errW_none, errW_some] <;> rfl), by repeat (first | (with_reducible first | exact HB.out | apply below_alloc | apply pw_below_drewN | apply below_drew1) | exact HB.out)⟩
              · rw [if_neg c48] at H
                have c48b0 : (t172 == 51) = false := beq_eq_false_iff_ne.mpr c48
                have c48b1 : (t172 != 51) = true := bne_iff_ne.mpr c48
                obtain rfl := Option.some.inj H
                go_wp2_with (first | (go_at_call 10; (with_reducible refine (lex_Tokens.calls x4_1 t168 t171 t172 _ A15.out).mono ?_); rintro e w62 ⟨v169, rfl, ho0, hb⟩; have n0_ := Aside0.mk (Kd.R_lower (Kd.R_mono (ok' := fun k_ => True) ho0 (fun _ hk_ => trivial)) (below_size (by repeat (first | (with_reducible first | exact HB.out | apply below_alloc | apply pw_below_drewN | apply below_drew1) | exact HB.out)))); have n1_ := Aside0.mk (below_step (by repeat (first | (with_reducible first | exact HB.out | apply below_alloc | apply pw_below_drewN | apply below_drew1) | exact HB.out)) hb); clear HB; have HO170 := n0_; have HB := n1_; clear n0_ n1_; (try clear hb); (try clear hb2); (try clear hk); (try clear hi); (try clear ho0)))
                repeat (go_quiet (first | (go_at_call 10; (with_reducible refine (lex_Tokens.calls x4_1 t168 t171 t172 _ A15.out).mono ?_); rintro e w62 ⟨v169, rfl, ho0, hb⟩; have n0_ := Aside0.mk (Kd.R_lower (Kd.R_mono (ok' := fun k_ => True) ho0 (fun _ hk_ => trivial)) (below_size (by repeat (first | (with_reducible first | exact HB.out | apply below_alloc | apply pw_below_drewN | apply below_drew1) | exact HB.out)))); have n1_ := Aside0.mk (below_step (by repeat (first | (with_reducible first | exact HB.out | apply below_alloc | apply pw_below_drewN | apply below_drew1) | exact HB.out)) hb); clear HB; have HO170 := n0_; have HB := n1_; clear n0_ n1_; (try clear hb); (try clear hb2); (try clear hk); (try clear hi); (try clear ho0))); try go_wp2_with (first | (go_at_call 10; (with_reducible refine (lex_Tokens.calls x4_1 t168 t171 t172 _ A15.out).mono ?_); rintro e w62 ⟨v169, rfl, ho0, hb⟩; have n0_ := Aside0.mk (Kd.R_lower (Kd.R_mono (ok' := fun k_ => True) ho0 (fun _ hk_ => trivial)) (below_size (by repeat (first | (with_reducible first | exact HB.out | apply below_alloc | apply pw_below_drewN | apply below_drew1) | exact HB.out)))); have n1_ := Aside0.mk (below_step (by repeat (first | (with_reducible first | exact HB.out | apply below_alloc | apply pw_below_drewN | apply below_drew1) | exact HB.out)) hb); clear HB; have HO170 := n0_; have HB := n1_; clear n0_ n1_; (try clear hb); (try clear hb2); (try clear hk); (try clear hi); (try clear ho0))))
                go_ret
                exact ⟨by first | rfl | (simp [errW_none, errW_some] <;> rfl) | (simp [*, errW_none, errW_some] <;> rfl), by repeat (first | (with_reducible first | exact HB.out | apply below_alloc | apply pw_below_drewN | apply below_drew1) | exact HB.out)⟩
  · replace c3 := Bool.eq_false_iff.mpr c3
    subst c3
    have H1 : (some false) = some r := by rw [if_neg (show ¬ (false = true) by decide)] at H; exact H
    clear H
    have H := H1
    clear H1
    obtain rfl := Option.some.inj H
    go_enter Tryd.func6, Tryd.ntmps6
    go_wp2_with (first | (go_at_call 9; (with_reducible refine (windlasslaw5_known.calls  false _ A2.out).mono ?_); rintro e w63 ⟨rfl, hb⟩; have n0_ := Aside0.mk (below_step (by repeat (first | (with_reducible first | exact HB.out | apply below_alloc | apply pw_below_drewN | apply below_drew1) | exact HB.out)) hb); clear HB; have HB := n0_; clear n0_; (try clear hb); (try clear hb2); (try clear hk); (try clear hi)))
    repeat (go_quiet (first | (go_at_call 9; (with_reducible refine (windlasslaw5_known.calls  false _ A2.out).mono ?_); rintro e w63 ⟨rfl, hb⟩; have n0_ := Aside0.mk (below_step (by repeat (first | (with_reducible first | exact HB.out | apply below_alloc | apply pw_below_drewN | apply below_drew1) | exact HB.out)) hb); clear HB; have HB := n0_; clear n0_; (try clear hb); (try clear hb2); (try clear hk); (try clear hi))); try go_wp2_with (first | (go_at_call 9; (with_reducible refine (windlasslaw5_known.calls  false _ A2.out).mono ?_); rintro e w63 ⟨rfl, hb⟩; have n0_ := Aside0.mk (below_step (by repeat (first | (with_reducible first | exact HB.out | apply below_alloc | apply pw_below_drewN | apply below_drew1) | exact HB.out)) hb); clear HB; have HB := n0_; clear n0_; (try clear hb); (try clear hb2); (try clear hk); (try clear hi))))
    go_ret
    exact ⟨by first | rfl | (simp [errW_none, errW_some] <;> rfl) | (simp [*, errW_none, errW_some] <;> rfl), by repeat (first | (with_reducible first | exact HB.out | apply below_alloc | apply pw_below_drewN | apply below_drew1) | exact HB.out)⟩

/-- THE ONE PURE STATEMENT of windlasslaw5_LexLongest: yours. -/
def windlasslaw5_LexLongest.Pure : Prop := ∀ (x0 : List Int), (x0.length ≤ maxLen ∧ x0.length * 1 ≤ 140737488351232 ∧ ∀ y ∈ x0, (Lit.int .u8 y).wf = true) → ∃ k, windlasslaw5_LexLongest.f k x0 = some true
theorem windlasslaw5_LexLongest.walk (P : windlasslaw5_LexLongest.Pure) (x0 : List Int) (A0 : Option Addr) (c0 : Nat) (w : World) (w0 : (x0.length ≤ maxLen ∧ x0.length * 1 ≤ 140737488351232 ∧ ∀ y ∈ x0, (Lit.int .u8 y).wf = true)) (r0 : Kd.C (Kd.int .u8) w A0 x0.length x0) (m0 : x0.length ≤ c0) (mx : MX w) :
    Calls Tryd.prog 6 #[.slice A0 x0.length c0] w fun e w' => e = .returned (.bool true) ∧ Below w.heap.size w w' := by
  obtain ⟨k, h⟩ := P x0 w0
  refine (windlasslaw5_LexLongest.calls k _ _ x0 true w r0 m0 h mx).mono ?_
  rintro e w' ⟨rfl, hd⟩
  exact ⟨rfl, hd⟩

end Go.Proofs.YthnehdimjadliaaDoor.PAll
