-- Laid by a program of this seat (wip/xprint.py over the kit's print).
import Derived.Test.YthbnblmnamckmaaPAllx0
import Derived.Test.YthbnblmnamckmaaPAllx29
namespace Go.Proofs.Ythbnblmnamckmaa.PAll
open Go.RowKit Go.Proofs.YthbnblmnamckmaaW.PrintWords Go.Proofs.YthbnblmnamckmaaW.PrintLast Go.Proofs.YthbnblmnamckmaaW.PrintMore
attribute [local go_sem] max2_int min2_int max_two min_two max_three min_three max_four min_four   -- for this text's walks alone
set_option linter.unusedVariables false
set_option linter.unusedSimpArgs false

/-! ### windlassref2_text: function 40 -/
def windlassref2_text.f (k : Nat) (l0 : List Int) (a1 : Int) : Option (ByteArray × Int × Int) := (windlassref2_Uint.f k l0).bind fun bt481 => (if bt481.2.2 = 0 then (if bt481.1 > a1 then (some ((⟨#[]⟩ : ByteArray), 0, 21)) else (if bt481.1 > (IntKind.u64.wrap (wrap64 ((l0.length : Int) - bt481.2.1))) then (some ((⟨#[]⟩ : ByteArray), 0, 20)) else (if 0 ≤ bt481.2.1 then (if bt481.2.1 ≤ (wrap64 (bt481.2.1 + (wrap64 (bt481.1)))) then (if (wrap64 (bt481.2.1 + (wrap64 (bt481.1)))) ≤ (l0.length : Int) then (some (strOfNums ((l0.take ((wrap64 (bt481.2.1 + (wrap64 (bt481.1)))) : Int).toNat).drop (bt481.2.1 : Int).toNat), wrap64 (bt481.2.1 + (wrap64 (bt481.1))), 0)) else (none)) else (none)) else (none)))) else (some ((⟨#[]⟩ : ByteArray), 0, bt481.2.2)))
theorem windlassref2_text.mono : ∀ a0 a1 k, LeO (windlassref2_text.f k a0 a1) (windlassref2_text.f (k + 1) a0 a1) := by
  intro a0 a1 k
  unfold windlassref2_text.f
  repeat' first
      | (with_reducible exact windlassref2_Uint.mono _ _)
      | (with_reducible exact LeO.refl _)
      | (with_reducible exact LeO.none _)
      | (with_reducible refine LeO.ite ?_ ?_)
      | (with_reducible refine LeO.bind ?_ (fun _ => ?_))
      | exact windlassref2_Uint.mono _ _
      | exact LeO.none _
      | refine LeO.ite ?_ ?_
      | refine LeO.bind ?_ (fun _ => ?_)
set_option maxHeartbeats 8000000 in
set_option maxRecDepth 100000 in
theorem windlassref2_text.calls (k : Nat) (A0 : Option Addr) (c0 : Nat) (l0 : List Int) (a1 : Int) (r1 : ByteArray) (r2 : Int) (r3 : Int) (w : World) (hr0 : Kd.C (Kd.int .u8) w A0 l0.length l0) (hc0 : l0.length ≤ c0) (h : windlassref2_text.f k l0 a1 = some (r1, r2, r3)) :
    Calls Try.prog 40 #[.slice A0 l0.length c0, .int .u64 a1] w fun e w' => e = .returned (.tuple #[.string r1, .int .i64 r2, .int .i64 r3]) ∧ Drawn0 w w' := by
  have HR0 := Aside0.mk hr0
  have HC0 := Aside0.mk hc0
  clear hr0 hc0
  have H : ((windlassref2_Uint.f k l0).bind fun bt481 => (if bt481.2.2 = 0 then (if bt481.1 > a1 then (some ((⟨#[]⟩ : ByteArray), 0, 21)) else (if bt481.1 > (IntKind.u64.wrap (wrap64 ((l0.length : Int) - bt481.2.1))) then (some ((⟨#[]⟩ : ByteArray), 0, 20)) else (if 0 ≤ bt481.2.1 then (if bt481.2.1 ≤ (wrap64 (bt481.2.1 + (wrap64 (bt481.1)))) then (if (wrap64 (bt481.2.1 + (wrap64 (bt481.1)))) ≤ (l0.length : Int) then (some (strOfNums ((l0.take ((wrap64 (bt481.2.1 + (wrap64 (bt481.1)))) : Int).toNat).drop (bt481.2.1 : Int).toNat), wrap64 (bt481.2.1 + (wrap64 (bt481.1))), 0)) else (none)) else (none)) else (none)))) else (some ((⟨#[]⟩ : ByteArray), 0, bt481.2.2)))) = some (r1, r2, r3) := h
  clear h
  replace H := Option.bind_eq_some_iff.mp H
  obtain ⟨⟨t481, t482, t483⟩, A30, H⟩ := H
  replace H : (if t483 = 0 then (if t481 > a1 then (some ((⟨#[]⟩ : ByteArray), 0, 21)) else (if t481 > (IntKind.u64.wrap (wrap64 ((l0.length : Int) - t482))) then (some ((⟨#[]⟩ : ByteArray), 0, 20)) else (if 0 ≤ t482 then (if t482 ≤ (wrap64 (t482 + (wrap64 (t481)))) then (if (wrap64 (t482 + (wrap64 (t481)))) ≤ (l0.length : Int) then (some (strOfNums ((l0.take ((wrap64 (t482 + (wrap64 (t481)))) : Int).toNat).drop (t482 : Int).toNat), wrap64 (t482 + (wrap64 (t481))), 0)) else (none)) else (none)) else (none)))) else (some ((⟨#[]⟩ : ByteArray), 0, t483))) = some (r1, r2, r3) := H
  have A3 := Aside0.mk A30
  clear A30
  by_cases c4 : t483 = 0
  · rw [if_pos c4] at H
    have c4b0 : (t483 == 0) = true := beq_iff_eq.mpr c4
    have c4b1 : (t483 != 0) = false := bne_eq_false_iff_eq.mpr c4
    clear c4
    by_cases c5 : t481 > a1
    · rw [if_pos c5] at H
      have c5b0 : decide (a1 < t481) = true := decide_eq_true c5
      clear c5
      simp only [Option.some.injEq, Prod.mk.injEq] at H
      obtain ⟨rfl, rfl, rfl⟩ := H
      go_enter Try.func40, Try.ntmps40
      go_wp2_with (first | ((with_reducible refine gate_callee (f := 27) rfl ?_); refine goesL_ (some 12) rfl rfl Try.func27 (by kernel_rfl) rfl #[.slice A0 l0.length c0] rfl (by (try simp only [List.map_toArray, List.map_cons, List.map_nil]); first | done | rfl | (simp only [List.length_drop, List.length_take]; rfl)) ?_; (with_reducible refine (windlassref2_Uint.calls k _ _ l0 t481 t482 t483 _ ?side1 ?side2 A3.out).mono ?_); (case side1 => repeat (first | exact HR0.out | (with_reducible refine Kd.C_alloc ?_ _) | (with_reducible refine Kd.C_drewN ?_ _) | (with_reducible refine Kd.C_drew ?_))); (case side2 => exact HC0.out); rintro e w' ⟨rfl, ⟨nd, rfl⟩⟩; refine ⟨_, rfl, ?_⟩))
      go_ret3
      exact ⟨by first | rfl | (simp; done) | (simp [*]; done), by repeat (first | exact Drawn0.refl _ | apply Drawn0.step)⟩
    · rw [if_neg c5] at H
      have c5b0 : decide (a1 < t481) = false := decide_eq_false c5
      clear c5
      by_cases c6 : t481 > (IntKind.u64.wrap (wrap64 ((l0.length : Int) - t482)))
      · rw [if_pos c6] at H
        have c6b0 : decide ((IntKind.u64.wrap (wrap64 ((l0.length : Int) - t482))) < t481) = true := decide_eq_true c6
        clear c6
        simp only [Option.some.injEq, Prod.mk.injEq] at H
        obtain ⟨rfl, rfl, rfl⟩ := H
        go_enter Try.func40, Try.ntmps40
        go_wp2_with (first | ((with_reducible refine gate_callee (f := 27) rfl ?_); refine goesL_ (some 12) rfl rfl Try.func27 (by kernel_rfl) rfl #[.slice A0 l0.length c0] rfl (by (try simp only [List.map_toArray, List.map_cons, List.map_nil]); first | done | rfl | (simp only [List.length_drop, List.length_take]; rfl)) ?_; (with_reducible refine (windlassref2_Uint.calls k _ _ l0 t481 t482 t483 _ ?side1 ?side2 A3.out).mono ?_); (case side1 => repeat (first | exact HR0.out | (with_reducible refine Kd.C_alloc ?_ _) | (with_reducible refine Kd.C_drewN ?_ _) | (with_reducible refine Kd.C_drew ?_))); (case side2 => exact HC0.out); rintro e w' ⟨rfl, ⟨nd, rfl⟩⟩; refine ⟨_, rfl, ?_⟩))
        go_ret3
        exact ⟨by first | rfl | (simp; done) | (simp [*]; done), by repeat (first | exact Drawn0.refl _ | apply Drawn0.step)⟩
      · rw [if_neg c6] at H
        have c6b0 : decide ((IntKind.u64.wrap (wrap64 ((l0.length : Int) - t482))) < t481) = false := decide_eq_false c6
        clear c6
        by_cases c7 : 0 ≤ t482
        · rw [if_pos c7] at H
          have c7b0 := eq_true c7
          have c7b1 : decide (0 ≤ t482) = true := decide_eq_true c7
          clear c7
          by_cases c8 : t482 ≤ (wrap64 (t482 + (wrap64 (t481))))
          · rw [if_pos c8] at H
            have c8b0 := eq_true c8
            have c8b1 : decide (t482 ≤ (wrap64 (t482 + (wrap64 (t481))))) = true := decide_eq_true c8
            by_cases c9 : (wrap64 (t482 + (wrap64 (t481)))) ≤ (l0.length : Int)
            · rw [if_pos c9] at H
              have c9b0 := eq_true c9
              have c9b1 : decide ((wrap64 (t482 + (wrap64 (t481)))) ≤ (l0.length : Int)) = true := decide_eq_true c9
              simp only [Option.some.injEq, Prod.mk.injEq] at H
              obtain ⟨rfl, rfl, rfl⟩ := H
              go_enter Try.func40, Try.ntmps40
              go_wp2_with (first | ((with_reducible refine gate_callee (f := 27) rfl ?_); refine goesL_ (some 12) rfl rfl Try.func27 (by kernel_rfl) rfl #[.slice A0 l0.length c0] rfl (by (try simp only [List.map_toArray, List.map_cons, List.map_nil]); first | done | rfl | (simp only [List.length_drop, List.length_take]; rfl)) ?_; (with_reducible refine (windlassref2_Uint.calls k _ _ l0 t481 t482 t483 _ ?side1 ?side2 A3.out).mono ?_); (case side1 => repeat (first | exact HR0.out | (with_reducible refine Kd.C_alloc ?_ _) | (with_reducible refine Kd.C_drewN ?_ _) | (with_reducible refine Kd.C_drew ?_))); (case side2 => exact HC0.out); rintro e w' ⟨rfl, ⟨nd, rfl⟩⟩; refine ⟨_, rfl, ?_⟩; obtain ⟨i010, hi010, _, hsz10, _⟩ := info_parts info5; obtain ⟨A10, hcut10, hA10, hC10⟩ := print_mid_of (P := Try.prog) (Value.int .u8) 0 30 5 .i64 .i64 Try.underlying30 hi010 hsz10 A0 c0 l0 t482 (wrap64 (t482 + (wrap64 (t481)))) (of_decide_eq_true (by first | (with_reducible assumption) | assumption)) (by first | omega | exact of_decide_eq_true (by first | (with_reducible assumption) | assumption)) (of_decide_eq_true (by first | (with_reducible assumption) | assumption)) HC0.out; have HR484 := Aside0.mk (Kd.C_of_reads (h1 := fun _ => rfl) (hA10 _ (Kd.reads_of_C HR0.out))); have HC484 := Aside0.mk hC10; clear hA10 hC10 hi010 hsz10; have hcv13 := Kd.C_string (P := Try.prog) (A := A10) (c := (c0 - t482.toNat)) Try.underlying30 Try.underlying5 Try.underlying9  HR484.out; have hcv11 := fun nd_ : Nat => Kd.C_string (P := Try.prog) (A := A10) (c := (c0 - t482.toNat)) Try.underlying30 Try.underlying5 Try.underlying9  (Kd.C_drewN (HR484.out) nd_); have hcv12 := hcv11; (try (simp only [List.length_drop, List.length_take] at hcv12)); (try rw [Nat.min_eq_left (by omega)] at hcv12)))
              go_ret3
              exact ⟨by first | rfl | (simp; done) | (simp [*]; done), by repeat (first | exact Drawn0.refl _ | apply Drawn0.step)⟩
            · rw [if_neg c9] at H
              exact absurd H (by simp)
          · rw [if_neg c8] at H
            exact absurd H (by simp)
        · rw [if_neg c7] at H
          exact absurd H (by simp)
  · rw [if_neg c4] at H
    have c4b0 : (t483 == 0) = false := beq_eq_false_iff_ne.mpr c4
    have c4b1 : (t483 != 0) = true := bne_iff_ne.mpr c4
    simp only [Option.some.injEq, Prod.mk.injEq] at H
    obtain ⟨rfl, rfl, rfl⟩ := H
    go_enter Try.func40, Try.ntmps40
    go_wp2_with (first | ((with_reducible refine gate_callee (f := 27) rfl ?_); refine goesL_ (some 12) rfl rfl Try.func27 (by kernel_rfl) rfl #[.slice A0 l0.length c0] rfl (by (try simp only [List.map_toArray, List.map_cons, List.map_nil]); first | done | rfl | (simp only [List.length_drop, List.length_take]; rfl)) ?_; (with_reducible refine (windlassref2_Uint.calls k _ _ l0 t481 t482 t483 _ ?side1 ?side2 A3.out).mono ?_); (case side1 => repeat (first | exact HR0.out | (with_reducible refine Kd.C_alloc ?_ _) | (with_reducible refine Kd.C_drewN ?_ _) | (with_reducible refine Kd.C_drew ?_))); (case side2 => exact HC0.out); rintro e w' ⟨rfl, ⟨nd, rfl⟩⟩; refine ⟨_, rfl, ?_⟩))
    go_ret3
    exact ⟨by first | rfl | (simp; done) | (simp [*]; done), by repeat (first | exact Drawn0.refl _ | apply Drawn0.step)⟩

/-! ### windlassref2_Text: function 29 -/
def windlassref2_Text.f (k : Nat) (l0 : List Int) : Option (ByteArray × Int × Int) := (windlassref2_text.f k l0 64).bind fun bt485 => (some (bt485.1, bt485.2.1, bt485.2.2))
theorem windlassref2_Text.mono : ∀ a0 k, LeO (windlassref2_Text.f k a0) (windlassref2_Text.f (k + 1) a0) := by
  intro a0 k
  unfold windlassref2_Text.f
  repeat' first
      | (with_reducible exact windlassref2_text.mono _ _ _)
      | (with_reducible exact LeO.refl _)
      | (with_reducible exact LeO.none _)
      | (with_reducible refine LeO.ite ?_ ?_)
      | (with_reducible refine LeO.bind ?_ (fun _ => ?_))
      | exact windlassref2_text.mono _ _ _
      | exact LeO.none _
      | refine LeO.ite ?_ ?_
      | refine LeO.bind ?_ (fun _ => ?_)
set_option maxHeartbeats 8000000 in
set_option maxRecDepth 100000 in
theorem windlassref2_Text.calls (k : Nat) (A0 : Option Addr) (c0 : Nat) (l0 : List Int) (r1 : ByteArray) (r2 : Int) (r3 : Int) (w : World) (hr0 : Kd.C (Kd.int .u8) w A0 l0.length l0) (hc0 : l0.length ≤ c0) (h : windlassref2_Text.f k l0 = some (r1, r2, r3)) :
    Calls Try.prog 29 #[.slice A0 l0.length c0] w fun e w' => e = .returned (.tuple #[.string r1, .int .i64 r2, .int .i64 r3]) ∧ Drawn0 w w' := by
  have HR0 := Aside0.mk hr0
  have HC0 := Aside0.mk hc0
  clear hr0 hc0
  have H : ((windlassref2_text.f k l0 64).bind fun bt485 => (some (bt485.1, bt485.2.1, bt485.2.2))) = some (r1, r2, r3) := h
  clear h
  replace H := Option.bind_eq_some_iff.mp H
  obtain ⟨⟨t485, t486, t487⟩, A20, H⟩ := H
  replace H : (some (t485, t486, t487)) = some (r1, r2, r3) := H
  have A2 := Aside0.mk A20
  clear A20
  simp only [Option.some.injEq, Prod.mk.injEq] at H
  obtain ⟨rfl, rfl, rfl⟩ := H
  go_enter Try.func29, Try.ntmps29
  go_wp2_with (first | ((with_reducible refine gate_callee (f := 40) rfl ?_); refine goesL_ (some 6) rfl rfl Try.func40 (by kernel_rfl) rfl #[.slice A0 l0.length c0, .int .u64 64] rfl (by (try simp only [List.map_toArray, List.map_cons, List.map_nil]); first | done | rfl | (simp only [List.length_drop, List.length_take]; rfl)) ?_; (with_reducible refine (windlassref2_text.calls k _ _ l0 64 t485 t486 t487 _ ?side1 ?side2 A2.out).mono ?_); (case side1 => repeat (first | exact HR0.out | (with_reducible refine Kd.C_alloc ?_ _) | (with_reducible refine Kd.C_drewN ?_ _) | (with_reducible refine Kd.C_drew ?_))); (case side2 => exact HC0.out); rintro e w' ⟨rfl, ⟨nd, rfl⟩⟩; refine ⟨_, rfl, ?_⟩))
  go_ret3
  exact ⟨by first | rfl | (simp; done) | (simp [*]; done), by repeat (first | exact Drawn0.refl _ | apply Drawn0.step)⟩

end Go.Proofs.Ythbnblmnamckmaa.PAll
