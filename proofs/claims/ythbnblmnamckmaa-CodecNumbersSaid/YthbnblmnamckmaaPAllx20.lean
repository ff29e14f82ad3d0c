-- Laid by a program of this seat (wip/xprint.py over the kit's print).
import Derived.Test.YthbnblmnamckmaaPAllx0
import Derived.Test.YthbnblmnamckmaaPAllx17
import Derived.Test.YthbnblmnamckmaaPAllx19
namespace Go.Proofs.Ythbnblmnamckmaa.PAll
open Go.RowKit Go.Proofs.YthbnblmnamckmaaW.PrintWords Go.Proofs.YthbnblmnamckmaaW.PrintLast Go.Proofs.YthbnblmnamckmaaW.PrintMore
attribute [local go_sem] max2_int min2_int max_two min_two max_three min_three max_four min_four   -- for this text's walks alone
set_option linter.unusedVariables false
set_option linter.unusedSimpArgs false

/-! ### codec_Text: function 25 -/
def codec_Text.f (k : Nat) (l0 : List Int) : Option (ByteArray × Int × Int) := (codec_Uint.f k l0).bind fun bt340 => (if bt340.2.2 = 0 then (if bt340.1 > 64 then (some ((⟨#[]⟩ : ByteArray), 0, 21)) else (if (wrap64 (bt340.1)) > (wrap64 ((l0.length : Int) - bt340.2.1)) then (some ((⟨#[]⟩ : ByteArray), 0, 20)) else (if 0 ≤ (wrap64 ((wrap64 (bt340.2.1 + (wrap64 (bt340.1)))) - (wrap64 (bt340.1)))) then (if (wrap64 ((wrap64 (bt340.2.1 + (wrap64 (bt340.1)))) - (wrap64 (bt340.1)))) ≤ (wrap64 (bt340.2.1 + (wrap64 (bt340.1)))) then (if (wrap64 (bt340.2.1 + (wrap64 (bt340.1)))) ≤ (l0.length : Int) then ((strings_Clone.f (strOfNums ((l0.take ((wrap64 (bt340.2.1 + (wrap64 (bt340.1)))) : Int).toNat).drop ((wrap64 ((wrap64 (bt340.2.1 + (wrap64 (bt340.1)))) - (wrap64 (bt340.1)))) : Int).toNat))).bind fun t344 => (some (t344, wrap64 (bt340.2.1 + (wrap64 (bt340.1))), 0))) else (none)) else (none)) else (none)))) else (some ((⟨#[]⟩ : ByteArray), 0, bt340.2.2)))
theorem codec_Text.mono : ∀ a0 k, LeO (codec_Text.f k a0) (codec_Text.f (k + 1) a0) := by
  intro a0 k
  unfold codec_Text.f
  repeat' first
      | (with_reducible exact codec_Uint.mono _ _)
      | (with_reducible exact LeO.refl _)
      | (with_reducible exact LeO.none _)
      | (with_reducible refine LeO.ite ?_ ?_)
      | (with_reducible refine LeO.bind ?_ (fun _ => ?_))
      | exact codec_Uint.mono _ _
      | exact LeO.none _
      | refine LeO.ite ?_ ?_
      | refine LeO.bind ?_ (fun _ => ?_)
set_option maxHeartbeats 8000000 in
set_option maxRecDepth 100000 in
theorem codec_Text.calls (k : Nat) (A0 : Option Addr) (c0 : Nat) (l0 : List Int) (r1 : ByteArray) (r2 : Int) (r3 : Int) (w : World) (hr0 : Kd.C (Kd.int .u8) w A0 l0.length l0) (hc0 : l0.length ≤ c0) (h : codec_Text.f k l0 = some (r1, r2, r3)) :
    Calls Try.prog 25 #[.slice A0 l0.length c0] w fun e w' => e = .returned (.tuple #[.string r1, .int .i64 r2, .int .i64 r3]) ∧ Below w.heap.size w w' := by
  have HR0 := Aside0.mk hr0
  have HC0 := Aside0.mk hc0
  clear hr0 hc0
  have HB := Aside0.mk (Below.refl w.heap.size w)
  have H : ((codec_Uint.f k l0).bind fun bt340 => (if bt340.2.2 = 0 then (if bt340.1 > 64 then (some ((⟨#[]⟩ : ByteArray), 0, 21)) else (if (wrap64 (bt340.1)) > (wrap64 ((l0.length : Int) - bt340.2.1)) then (some ((⟨#[]⟩ : ByteArray), 0, 20)) else (if 0 ≤ (wrap64 ((wrap64 (bt340.2.1 + (wrap64 (bt340.1)))) - (wrap64 (bt340.1)))) then (if (wrap64 ((wrap64 (bt340.2.1 + (wrap64 (bt340.1)))) - (wrap64 (bt340.1)))) ≤ (wrap64 (bt340.2.1 + (wrap64 (bt340.1)))) then (if (wrap64 (bt340.2.1 + (wrap64 (bt340.1)))) ≤ (l0.length : Int) then ((strings_Clone.f (strOfNums ((l0.take ((wrap64 (bt340.2.1 + (wrap64 (bt340.1)))) : Int).toNat).drop ((wrap64 ((wrap64 (bt340.2.1 + (wrap64 (bt340.1)))) - (wrap64 (bt340.1)))) : Int).toNat))).bind fun t344 => (some (t344, wrap64 (bt340.2.1 + (wrap64 (bt340.1))), 0))) else (none)) else (none)) else (none)))) else (some ((⟨#[]⟩ : ByteArray), 0, bt340.2.2)))) = some (r1, r2, r3) := h
  clear h
  replace H := Option.bind_eq_some_iff.mp H
  obtain ⟨⟨t340, t341, t342⟩, A20, H⟩ := H
  replace H : (if t342 = 0 then (if t340 > 64 then (some ((⟨#[]⟩ : ByteArray), 0, 21)) else (if (wrap64 (t340)) > (wrap64 ((l0.length : Int) - t341)) then (some ((⟨#[]⟩ : ByteArray), 0, 20)) else (if 0 ≤ (wrap64 ((wrap64 (t341 + (wrap64 (t340)))) - (wrap64 (t340)))) then (if (wrap64 ((wrap64 (t341 + (wrap64 (t340)))) - (wrap64 (t340)))) ≤ (wrap64 (t341 + (wrap64 (t340)))) then (if (wrap64 (t341 + (wrap64 (t340)))) ≤ (l0.length : Int) then ((strings_Clone.f (strOfNums ((l0.take ((wrap64 (t341 + (wrap64 (t340)))) : Int).toNat).drop ((wrap64 ((wrap64 (t341 + (wrap64 (t340)))) - (wrap64 (t340)))) : Int).toNat))).bind fun t344 => (some (t344, wrap64 (t341 + (wrap64 (t340))), 0))) else (none)) else (none)) else (none)))) else (some ((⟨#[]⟩ : ByteArray), 0, t342))) = some (r1, r2, r3) := H
  have A2 := Aside0.mk A20
  clear A20
  by_cases c3 : t342 = 0
  · rw [if_pos c3] at H
    have c3b0 : (t342 == 0) = true := beq_iff_eq.mpr c3
    have c3b1 : (t342 != 0) = false := bne_eq_false_iff_eq.mpr c3
    clear c3
    by_cases c4 : t340 > 64
    · rw [if_pos c4] at H
      have c4b0 : decide (64 < t340) = true := decide_eq_true c4
      clear c4
      simp only [Option.some.injEq, Prod.mk.injEq] at H
      obtain ⟨rfl, rfl, rfl⟩ := H
      go_enter Try.func25, Try.ntmps25
      go_wp2_with (first | ((with_reducible refine gate_callee (f := 18) rfl ?_); refine goesL_ (some 10) rfl rfl Try.func18 (by kernel_rfl) rfl #[.slice A0 l0.length c0] rfl (by (try simp only [List.map_toArray, List.map_cons, List.map_nil]); first | done | rfl | (simp only [List.length_drop, List.length_take]; rfl)) ?_; (with_reducible refine (codec_Uint.calls k _ _ l0 t340 t341 t342 _ ?side1 ?side2 A2.out).mono ?_); (case side1 => repeat (first | exact HR0.out | (with_reducible refine Kd.C_alloc ?_ _) | (with_reducible refine Kd.C_drewN ?_ _) | (with_reducible refine Kd.C_drew ?_))); (case side2 => exact HC0.out); rintro e w' ⟨rfl, ⟨nd, rfl⟩⟩; refine ⟨_, rfl, ?_⟩))
      go_ret3
      exact ⟨by first | rfl | (simp [errW_none, errW_some] <;> rfl) | (simp [*, errW_none, errW_some] <;> rfl), by repeat (first | (with_reducible first | exact HB.out | apply below_alloc | apply pw_below_drewN | apply below_drew1) | exact HB.out)⟩
    · rw [if_neg c4] at H
      have c4b0 : decide (64 < t340) = false := decide_eq_false c4
      clear c4
      by_cases c5 : (wrap64 (t340)) > (wrap64 ((l0.length : Int) - t341))
      · rw [if_pos c5] at H
        have c5b0 : decide ((wrap64 ((l0.length : Int) - t341)) < (wrap64 (t340))) = true := decide_eq_true c5
        clear c5
        simp only [Option.some.injEq, Prod.mk.injEq] at H
        obtain ⟨rfl, rfl, rfl⟩ := H
        go_enter Try.func25, Try.ntmps25
        go_wp2_with (first | ((with_reducible refine gate_callee (f := 18) rfl ?_); refine goesL_ (some 10) rfl rfl Try.func18 (by kernel_rfl) rfl #[.slice A0 l0.length c0] rfl (by (try simp only [List.map_toArray, List.map_cons, List.map_nil]); first | done | rfl | (simp only [List.length_drop, List.length_take]; rfl)) ?_; (with_reducible refine (codec_Uint.calls k _ _ l0 t340 t341 t342 _ ?side1 ?side2 A2.out).mono ?_); (case side1 => repeat (first | exact HR0.out | (with_reducible refine Kd.C_alloc ?_ _) | (with_reducible refine Kd.C_drewN ?_ _) | (with_reducible refine Kd.C_drew ?_))); (case side2 => exact HC0.out); rintro e w' ⟨rfl, ⟨nd, rfl⟩⟩; refine ⟨_, rfl, ?_⟩))
        go_ret3
        exact ⟨by first | rfl | (simp [errW_none, errW_some] <;> rfl) | (simp [*, errW_none, errW_some] <;> rfl), by repeat (first | (with_reducible first | exact HB.out | apply below_alloc | apply pw_below_drewN | apply below_drew1) | exact HB.out)⟩
      · rw [if_neg c5] at H
        have c5b0 : decide ((wrap64 ((l0.length : Int) - t341)) < (wrap64 (t340))) = false := decide_eq_false c5
        clear c5
        obtain ⟨ji6, hji6⟩ : ∃ j_ : Int, (wrap64 ((wrap64 (t341 + (wrap64 (t340)))) - (wrap64 (t340)))) = j_ := ⟨_, rfl⟩
        replace H : (if 0 ≤ (ji6) then (if (ji6) ≤ (wrap64 (t341 + (wrap64 (t340)))) then (if (wrap64 (t341 + (wrap64 (t340)))) ≤ (l0.length : Int) then ((strings_Clone.f (strOfNums ((l0.take ((wrap64 (t341 + (wrap64 (t340)))) : Int).toNat).drop ((ji6) : Int).toNat))).bind fun t344 => (some (t344, wrap64 (t341 + (wrap64 (t340))), 0))) else (none)) else (none)) else (none)) = some (r1, r2, r3) := by first | (rw [hji6] at H; exact H) | (simp only [hji6] at H ⊢; exact H)
        (try rw [hji6] at A2)
        have hji6w : (IntKind.i64.wrap ((wrap64 (t341 + (wrap64 (t340)))) - (wrap64 (t340)))) = ji6 := (i64_w _).trans hji6
        by_cases c7 : 0 ≤ (ji6)
        · rw [if_pos c7] at H
          have c7b0 := eq_true c7
          have c7b1 : decide (0 ≤ (ji6)) = true := decide_eq_true c7
          clear c7
          by_cases c8 : (ji6) ≤ (wrap64 (t341 + (wrap64 (t340))))
          · rw [if_pos c8] at H
            have c8b0 := eq_true c8
            have c8b1 : decide ((ji6) ≤ (wrap64 (t341 + (wrap64 (t340))))) = true := decide_eq_true c8
            by_cases c9 : (wrap64 (t341 + (wrap64 (t340)))) ≤ (l0.length : Int)
            · rw [if_pos c9] at H
              have c9b0 := eq_true c9
              have c9b1 : decide ((wrap64 (t341 + (wrap64 (t340)))) ≤ (l0.length : Int)) = true := decide_eq_true c9
              replace H := Option.bind_eq_some_iff.mp H
              obtain ⟨t344, A100, H⟩ := H
              replace H : (some (t344, wrap64 (t341 + (wrap64 (t340))), 0)) = some (r1, r2, r3) := H
              have A10 := Aside0.mk A100
              clear A100
              simp only [Option.some.injEq, Prod.mk.injEq] at H
              obtain ⟨rfl, rfl, rfl⟩ := H
              go_enter Try.func25, Try.ntmps25
              go_wp2_with (first | ((with_reducible refine gate_callee (f := 18) rfl ?_); refine goesL_ (some 10) rfl rfl Try.func18 (by kernel_rfl) rfl #[.slice A0 l0.length c0] rfl (by (try simp only [List.map_toArray, List.map_cons, List.map_nil]); first | done | rfl | (simp only [List.length_drop, List.length_take]; rfl)) ?_; (with_reducible refine (codec_Uint.calls k _ _ l0 t340 t341 t342 _ ?side1 ?side2 A2.out).mono ?_); (case side1 => repeat (first | exact HR0.out | (with_reducible refine Kd.C_alloc ?_ _) | (with_reducible refine Kd.C_drewN ?_ _) | (with_reducible refine Kd.C_drew ?_))); (case side2 => exact HC0.out); rintro e w' ⟨rfl, ⟨nd, rfl⟩⟩; refine ⟨_, rfl, ?_⟩; obtain ⟨i011, hi011, _, hsz11, _⟩ := info_parts info5; obtain ⟨A11, hcut11, hA11, hC11⟩ := print_mid_of (P := Try.prog) (Value.int .u8) 0 30 5 .i64 .i64 Try.underlying30 hi011 hsz11 A0 c0 l0 (ji6) (wrap64 (t341 + (wrap64 (t340)))) (of_decide_eq_true (by first | (with_reducible assumption) | assumption)) (by first | omega | exact of_decide_eq_true (by first | (with_reducible assumption) | assumption)) (of_decide_eq_true (by first | (with_reducible assumption) | assumption)) HC0.out; have HR343 := Aside0.mk (Kd.C_of_reads (h1 := fun _ => rfl) (hA11 _ (Kd.reads_of_C HR0.out))); have HC343 := Aside0.mk hC11; clear hA11 hC11 hi011 hsz11; have hcv14 := Kd.C_string (P := Try.prog) (A := A11) (c := (c0 - (ji6).toNat)) Try.underlying30 Try.underlying5 Try.underlying9  HR343.out; have hcv12 := fun nd_ : Nat => Kd.C_string (P := Try.prog) (A := A11) (c := (c0 - (ji6).toNat)) Try.underlying30 Try.underlying5 Try.underlying9  (Kd.C_drewN (HR343.out) nd_); have hcv13 := hcv12; (try (simp only [List.length_drop, List.length_take] at hcv13)); (try rw [Nat.min_eq_left (by omega)] at hcv13)) | ((with_reducible refine gate_callee (f := 38) rfl ?_); refine goesL_ (some 41) rfl rfl Try.func38 (by kernel_rfl) rfl #[.string (strOfNums ((l0.take ((wrap64 (t341 + (wrap64 (t340)))) : Int).toNat).drop ((ji6) : Int).toNat))] rfl (by (try simp only [List.map_toArray, List.map_cons, List.map_nil]); first | done | (simp only [hji6]; rfl) | rfl | (simp only [List.length_drop, List.length_take]; rfl)) ?_; (with_reducible refine (strings_Clone.calls (strOfNums ((l0.take ((wrap64 (t341 + (wrap64 (t340)))) : Int).toNat).drop ((ji6) : Int).toNat)) t344 _ A10.out).mono ?_); rintro e w15 ⟨rfl, hb⟩; refine ⟨_, rfl, ?_⟩; have n0_ := Aside0.mk (below_step (by repeat (first | (with_reducible first | exact HB.out | apply below_alloc | apply pw_below_drewN | apply below_drew1) | exact HB.out)) hb); clear HB; have HB := n0_; clear n0_; (try clear hb); (try clear hb2); (try clear hk); (try clear hi)))
              go_ret3
              exact ⟨by first | rfl | (simp [errW_none, errW_some] <;> rfl) | (simp only [← hji6]; first | rfl | (simp [errW_none, errW_some] <;> rfl)) | (simp [*, errW_none, errW_some] <;> rfl), by repeat (first | (with_reducible first | exact HB.out | apply below_alloc | apply pw_below_drewN | apply below_drew1) | exact HB.out)⟩
            · rw [if_neg c9] at H
              exact absurd H (by simp)
          · rw [if_neg c8] at H
            exact absurd H (by simp)
        · rw [if_neg c7] at H
          exact absurd H (by simp)
  · rw [if_neg c3] at H
    have c3b0 : (t342 == 0) = false := beq_eq_false_iff_ne.mpr c3
    have c3b1 : (t342 != 0) = true := bne_iff_ne.mpr c3
    simp only [Option.some.injEq, Prod.mk.injEq] at H
    obtain ⟨rfl, rfl, rfl⟩ := H
    go_enter Try.func25, Try.ntmps25
    go_wp2_with (first | ((with_reducible refine gate_callee (f := 18) rfl ?_); refine goesL_ (some 10) rfl rfl Try.func18 (by kernel_rfl) rfl #[.slice A0 l0.length c0] rfl (by (try simp only [List.map_toArray, List.map_cons, List.map_nil]); first | done | rfl | (simp only [List.length_drop, List.length_take]; rfl)) ?_; (with_reducible refine (codec_Uint.calls k _ _ l0 t340 t341 t342 _ ?side1 ?side2 A2.out).mono ?_); (case side1 => repeat (first | exact HR0.out | (with_reducible refine Kd.C_alloc ?_ _) | (with_reducible refine Kd.C_drewN ?_ _) | (with_reducible refine Kd.C_drew ?_))); (case side2 => exact HC0.out); rintro e w' ⟨rfl, ⟨nd, rfl⟩⟩; refine ⟨_, rfl, ?_⟩))
    go_ret3
    exact ⟨by first | rfl | (simp [errW_none, errW_some] <;> rfl) | (simp [*, errW_none, errW_some] <;> rfl), by repeat (first | (with_reducible first | exact HB.out | apply below_alloc | apply pw_below_drewN | apply below_drew1) | exact HB.out)⟩

end Go.Proofs.Ythbnblmnamckmaa.PAll
