-- Laid by a program of this seat (wip/merge.py): PAllx17, PAllx20, PAllx21, PAllx22, PAllx23, PAllx24, PAllx25.
import Derived.Test.YthbnblmnamckmaaMCodecBack0
import Derived.Test.YthbnblmnamckmaaMCodecBack1
-- Laid by a program of this seat (wip/xprint.py over the kit's print).
namespace Go.Proofs.Ythbnblmnamckmaa.PAll
open Go.RowKit Go.Proofs.YthbnblmnamckmaaW.PrintWords Go.Proofs.YthbnblmnamckmaaW.PrintLast Go.Proofs.YthbnblmnamckmaaW.PrintMore
attribute [local go_sem] max2_int min2_int max_two min_two max_three min_three max_four min_four   -- for this text's walks alone
set_option linter.unusedVariables false
set_option linter.unusedSimpArgs false

/-! ### codec_Text: function 25 -/
def codec_Text.f (k : Nat) (l0 : List Int) : Option (ByteArray × Int × Int) := (codec_Uint.f k l0).bind fun bt220 => (if bt220.2.2 = 0 then (if bt220.1 > 64 then (some ((⟨#[]⟩ : ByteArray), 0, 21)) else (if (wrap64 (bt220.1)) > (wrap64 ((l0.length : Int) - bt220.2.1)) then (some ((⟨#[]⟩ : ByteArray), 0, 20)) else (if 0 ≤ (wrap64 ((wrap64 (bt220.2.1 + (wrap64 (bt220.1)))) - (wrap64 (bt220.1)))) then (if (wrap64 ((wrap64 (bt220.2.1 + (wrap64 (bt220.1)))) - (wrap64 (bt220.1)))) ≤ (wrap64 (bt220.2.1 + (wrap64 (bt220.1)))) then (if (wrap64 (bt220.2.1 + (wrap64 (bt220.1)))) ≤ (l0.length : Int) then ((strings_Clone.f (strOfNums ((l0.take ((wrap64 (bt220.2.1 + (wrap64 (bt220.1)))) : Int).toNat).drop ((wrap64 ((wrap64 (bt220.2.1 + (wrap64 (bt220.1)))) - (wrap64 (bt220.1)))) : Int).toNat))).bind fun t224 => (some (t224, wrap64 (bt220.2.1 + (wrap64 (bt220.1))), 0))) else (none)) else (none)) else (none)))) else (some ((⟨#[]⟩ : ByteArray), 0, bt220.2.2)))
theorem codec_Text.mono : ∀ a0 k, LeO (codec_Text.f k a0) (codec_Text.f (k + 1) a0) := by
  intro a0 k
  unfold codec_Text.f
  repeat' first
      | (with_reducible exact codec_Uint.mono _ _)
      | (with_reducible exact LeO.refl _)
      | (with_reducible exact LeO.none _)
      | (with_reducible refine LeO.ite ?_ ?_)
      | (with_reducible refine LeO.bind ?_ (fun _ => ?_))
      | exact codec_Uint.mono _ _
      | exact LeO.none _
      | refine LeO.ite ?_ ?_
      | refine LeO.bind ?_ (fun _ => ?_)
set_option maxHeartbeats 8000000 in
set_option maxRecDepth 100000 in
theorem codec_Text.calls (k : Nat) (A0 : Option Addr) (c0 : Nat) (l0 : List Int) (r1 : ByteArray) (r2 : Int) (r3 : Int) (w : World) (hr0 : Kd.C (Kd.int .u8) w A0 l0.length l0) (hc0 : l0.length ≤ c0) (h : codec_Text.f k l0 = some (r1, r2, r3)) :
    Calls Try.prog 25 #[.slice A0 l0.length c0] w fun e w' => e = .returned (.tuple #[.string r1, .int .i64 r2, .int .i64 r3]) ∧ Below w.heap.size w w' := by
  have HR0 := Aside0.mk hr0
  have HC0 := Aside0.mk hc0
  clear hr0 hc0
  have HB := Aside0.mk (Below.refl w.heap.size w)
  have H : ((codec_Uint.f k l0).bind fun bt220 => (if bt220.2.2 = 0 then (if bt220.1 > 64 then (some ((⟨#[]⟩ : ByteArray), 0, 21)) else (if (wrap64 (bt220.1)) > (wrap64 ((l0.length : Int) - bt220.2.1)) then (some ((⟨#[]⟩ : ByteArray), 0, 20)) else (if 0 ≤ (wrap64 ((wrap64 (bt220.2.1 + (wrap64 (bt220.1)))) - (wrap64 (bt220.1)))) then (if (wrap64 ((wrap64 (bt220.2.1 + (wrap64 (bt220.1)))) - (wrap64 (bt220.1)))) ≤ (wrap64 (bt220.2.1 + (wrap64 (bt220.1)))) then (if (wrap64 (bt220.2.1 + (wrap64 (bt220.1)))) ≤ (l0.length : Int) then ((strings_Clone.f (strOfNums ((l0.take ((wrap64 (bt220.2.1 + (wrap64 (bt220.1)))) : Int).toNat).drop ((wrap64 ((wrap64 (bt220.2.1 + (wrap64 (bt220.1)))) - (wrap64 (bt220.1)))) : Int).toNat))).bind fun t224 => (some (t224, wrap64 (bt220.2.1 + (wrap64 (bt220.1))), 0))) else (none)) else (none)) else (none)))) else (some ((⟨#[]⟩ : ByteArray), 0, bt220.2.2)))) = some (r1, r2, r3) := h
  clear h
  replace H := Option.bind_eq_some_iff.mp H
  obtain ⟨⟨t220, t221, t222⟩, A20, H⟩ := H
  replace H : (if t222 = 0 then (if t220 > 64 then (some ((⟨#[]⟩ : ByteArray), 0, 21)) else (if (wrap64 (t220)) > (wrap64 ((l0.length : Int) - t221)) then (some ((⟨#[]⟩ : ByteArray), 0, 20)) else (if 0 ≤ (wrap64 ((wrap64 (t221 + (wrap64 (t220)))) - (wrap64 (t220)))) then (if (wrap64 ((wrap64 (t221 + (wrap64 (t220)))) - (wrap64 (t220)))) ≤ (wrap64 (t221 + (wrap64 (t220)))) then (if (wrap64 (t221 + (wrap64 (t220)))) ≤ (l0.length : Int) then ((strings_Clone.f (strOfNums ((l0.take ((wrap64 (t221 + (wrap64 (t220)))) : Int).toNat).drop ((wrap64 ((wrap64 (t221 + (wrap64 (t220)))) - (wrap64 (t220)))) : Int).toNat))).bind fun t224 => (some (t224, wrap64 (t221 + (wrap64 (t220))), 0))) else (none)) else (none)) else (none)))) else (some ((⟨#[]⟩ : ByteArray), 0, t222))) = some (r1, r2, r3) := H
  have A2 := Aside0.mk A20
  clear A20
  by_cases c3 : t222 = 0
  · rw [if_pos c3] at H
    have c3b0 : (t222 == 0) = true := beq_iff_eq.mpr c3
    have c3b1 : (t222 != 0) = false := bne_eq_false_iff_eq.mpr c3
    clear c3
    by_cases c4 : t220 > 64
    · rw [if_pos c4] at H
      have c4b0 : decide (64 < t220) = true := decide_eq_true c4
      clear c4
      simp only [Option.some.injEq, Prod.mk.injEq] at H
      obtain ⟨rfl, rfl, rfl⟩ := H
      go_enter Try.func25, Try.ntmps25
      go_wp2_with (first | ((with_reducible refine gate_callee (f := 18) rfl ?_); refine goesL_ (some 10) rfl rfl Try.func18 (by kernel_rfl) rfl #[.slice A0 l0.length c0] rfl (by (try simp only [List.map_toArray, List.map_cons, List.map_nil]); first | done | rfl | (simp only [List.length_drop, List.length_take]; rfl) | (go_simp; done) | (go_simp; simp; done)) ?_; (with_reducible refine (codec_Uint.calls k _ _ l0 t220 t221 t222 _ ?side1 ?side2 A2.out).mono ?_); (case side1 => repeat (first | exact HR0.out | (with_reducible refine Kd.C_alloc ?_ _) | (with_reducible refine Kd.C_drewN ?_ _) | (with_reducible refine Kd.C_drew ?_))); (case side2 => exact HC0.out); rintro e w' ⟨rfl, ⟨nd, rfl⟩⟩; refine ⟨_, rfl, ?_⟩))
      go_ret3
      exact ⟨by first | rfl | (simp [errW_none, errW_some] <;> rfl) | (simp [*, errW_none, errW_some] <;> rfl), by repeat (first | (with_reducible first | exact HB.out | apply below_alloc | apply pw_below_drewN | apply below_drew1) | exact HB.out)⟩
    · rw [if_neg c4] at H
      have c4b0 : decide (64 < t220) = false := decide_eq_false c4
      clear c4
      by_cases c5 : (wrap64 (t220)) > (wrap64 ((l0.length : Int) - t221))
      · rw [if_pos c5] at H
        have c5b0 : decide ((wrap64 ((l0.length : Int) - t221)) < (wrap64 (t220))) = true := decide_eq_true c5
        clear c5
        simp only [Option.some.injEq, Prod.mk.injEq] at H
        obtain ⟨rfl, rfl, rfl⟩ := H
        go_enter Try.func25, Try.ntmps25
        go_wp2_with (first | ((with_reducible refine gate_callee (f := 18) rfl ?_); refine goesL_ (some 10) rfl rfl Try.func18 (by kernel_rfl) rfl #[.slice A0 l0.length c0] rfl (by (try simp only [List.map_toArray, List.map_cons, List.map_nil]); first | done | rfl | (simp only [List.length_drop, List.length_take]; rfl) | (go_simp; done) | (go_simp; simp; done)) ?_; (with_reducible refine (codec_Uint.calls k _ _ l0 t220 t221 t222 _ ?side1 ?side2 A2.out).mono ?_); (case side1 => repeat (first | exact HR0.out | (with_reducible refine Kd.C_alloc ?_ _) | (with_reducible refine Kd.C_drewN ?_ _) | (with_reducible refine Kd.C_drew ?_))); (case side2 => exact HC0.out); rintro e w' ⟨rfl, ⟨nd, rfl⟩⟩; refine ⟨_, rfl, ?_⟩))
        go_ret3
        exact ⟨by first | rfl | (simp [errW_none, errW_some] <;> rfl) | (simp [*, errW_none, errW_some] <;> rfl), by repeat (first | (with_reducible first | exact HB.out | apply below_alloc | apply pw_below_drewN | apply below_drew1) | exact HB.out)⟩
      · rw [if_neg c5] at H
        have c5b0 : decide ((wrap64 ((l0.length : Int) - t221)) < (wrap64 (t220))) = false := decide_eq_false c5
        clear c5
        obtain ⟨ji6, hji6⟩ : ∃ j_ : Int, (wrap64 ((wrap64 (t221 + (wrap64 (t220)))) - (wrap64 (t220)))) = j_ := ⟨_, rfl⟩
        replace H : (if 0 ≤ (ji6) then (if (ji6) ≤ (wrap64 (t221 + (wrap64 (t220)))) then (if (wrap64 (t221 + (wrap64 (t220)))) ≤ (l0.length : Int) then ((strings_Clone.f (strOfNums ((l0.take ((wrap64 (t221 + (wrap64 (t220)))) : Int).toNat).drop ((ji6) : Int).toNat))).bind fun t224 => (some (t224, wrap64 (t221 + (wrap64 (t220))), 0))) else (none)) else (none)) else (none)) = some (r1, r2, r3) := by first | (rw [hji6] at H; exact H) | (simp only [hji6] at H ⊢; exact H)
        (try rw [hji6] at A2)
        have hji6w : (IntKind.i64.wrap ((wrap64 (t221 + (wrap64 (t220)))) - (wrap64 (t220)))) = ji6 := (i64_w _).trans hji6
        by_cases c7 : 0 ≤ (ji6)
        · rw [if_pos c7] at H
          have c7b0 := eq_true c7
          have c7b1 : decide (0 ≤ (ji6)) = true := decide_eq_true c7
          clear c7
          by_cases c8 : (ji6) ≤ (wrap64 (t221 + (wrap64 (t220))))
          · rw [if_pos c8] at H
            have c8b0 := eq_true c8
            have c8b1 : decide ((ji6) ≤ (wrap64 (t221 + (wrap64 (t220))))) = true := decide_eq_true c8
            by_cases c9 : (wrap64 (t221 + (wrap64 (t220)))) ≤ (l0.length : Int)
            · rw [if_pos c9] at H
              have c9b0 := eq_true c9
              have c9b1 : decide ((wrap64 (t221 + (wrap64 (t220)))) ≤ (l0.length : Int)) = true := decide_eq_true c9
              replace H := Option.bind_eq_some_iff.mp H
              obtain ⟨t224, A100, H⟩ := H
              replace H : (some (t224, wrap64 (t221 + (wrap64 (t220))), 0)) = some (r1, r2, r3) := H
              have A10 := Aside0.mk A100
              clear A100
              simp only [Option.some.injEq, Prod.mk.injEq] at H
              obtain ⟨rfl, rfl, rfl⟩ := H
              go_enter Try.func25, Try.ntmps25
              go_wp2_with (first | ((with_reducible refine gate_callee (f := 18) rfl ?_); refine goesL_ (some 10) rfl rfl Try.func18 (by kernel_rfl) rfl #[.slice A0 l0.length c0] rfl (by (try simp only [List.map_toArray, List.map_cons, List.map_nil]); first | done | rfl | (simp only [List.length_drop, List.length_take]; rfl) | (go_simp; done) | (go_simp; simp; done)) ?_; (with_reducible refine (codec_Uint.calls k _ _ l0 t220 t221 t222 _ ?side1 ?side2 A2.out).mono ?_); (case side1 => repeat (first | exact HR0.out | (with_reducible refine Kd.C_alloc ?_ _) | (with_reducible refine Kd.C_drewN ?_ _) | (with_reducible refine Kd.C_drew ?_))); (case side2 => exact HC0.out); rintro e w' ⟨rfl, ⟨nd, rfl⟩⟩; refine ⟨_, rfl, ?_⟩; obtain ⟨i011, hi011, _, hsz11, _⟩ := info_parts info5; obtain ⟨A11, hcut11, hA11, hC11⟩ := print_mid_of (P := Try.prog) (Value.int .u8) 0 30 5 .i64 .i64 Try.underlying30 hi011 hsz11 A0 c0 l0 (ji6) (wrap64 (t221 + (wrap64 (t220)))) (of_decide_eq_true (by first | (with_reducible assumption) | assumption)) (by first | omega | exact of_decide_eq_true (by first | (with_reducible assumption) | assumption)) (of_decide_eq_true (by first | (with_reducible assumption) | assumption)) HC0.out; have HR223 := Aside0.mk (Kd.C_of_reads (h1 := fun _ => rfl) (hA11 _ (Kd.reads_of_C HR0.out))); have HC223 := Aside0.mk hC11; clear hA11 hC11 hi011 hsz11; have hcv14 := Kd.C_string (P := Try.prog) (A := A11) (c := (c0 - (ji6).toNat)) Try.underlying30 Try.underlying5 Try.underlying9  HR223.out; have hcv12 := fun nd_ : Nat => Kd.C_string (P := Try.prog) (A := A11) (c := (c0 - (ji6).toNat)) Try.underlying30 Try.underlying5 Try.underlying9  (Kd.C_drewN (HR223.out) nd_); have hcv13 := hcv12; (try (simp only [List.length_drop, List.length_take] at hcv13)); (try rw [Nat.min_eq_left (by omega)] at hcv13)) | ((with_reducible refine gate_callee (f := 38) rfl ?_); refine goesL_ (some 41) rfl rfl Try.func38 (by kernel_rfl) rfl #[.string (strOfNums ((l0.take ((wrap64 (t221 + (wrap64 (t220)))) : Int).toNat).drop ((ji6) : Int).toNat))] rfl (by (try simp only [List.map_toArray, List.map_cons, List.map_nil]); first | done | (simp only [hji6]; rfl) | rfl | (simp only [List.length_drop, List.length_take]; rfl) | (go_simp; done) | (go_simp; simp; done)) ?_; (with_reducible refine (strings_Clone.calls (strOfNums ((l0.take ((wrap64 (t221 + (wrap64 (t220)))) : Int).toNat).drop ((ji6) : Int).toNat)) t224 _ A10.out).mono ?_); rintro e w15 ⟨rfl, hb⟩; refine ⟨_, rfl, ?_⟩; have n0_ := Aside0.mk (below_step (by repeat (first | (with_reducible first | exact HB.out | apply below_alloc | apply pw_below_drewN | apply below_drew1) | exact HB.out)) hb); clear HB; have HB := n0_; clear n0_; (try clear hb); (try clear hb2); (try clear hk); (try clear hi)))
              go_ret3
              exact ⟨by first | rfl | (simp [errW_none, errW_some] <;> rfl) | (simp only [← hji6]; first | rfl | (simp [errW_none, errW_some] <;> rfl)) | (simp [*, errW_none, errW_some] <;> rfl), by repeat (first | (with_reducible first | exact HB.out | apply below_alloc | apply pw_below_drewN | apply below_drew1) | exact HB.out)⟩
            · rw [if_neg c9] at H
              exact absurd H (by simp)
          · rw [if_neg c8] at H
            exact absurd H (by simp)
        · rw [if_neg c7] at H
          exact absurd H (by simp)
  · rw [if_neg c3] at H
    have c3b0 : (t222 == 0) = false := beq_eq_false_iff_ne.mpr c3
    have c3b1 : (t222 != 0) = true := bne_iff_ne.mpr c3
    simp only [Option.some.injEq, Prod.mk.injEq] at H
    obtain ⟨rfl, rfl, rfl⟩ := H
    go_enter Try.func25, Try.ntmps25
    go_wp2_with (first | ((with_reducible refine gate_callee (f := 18) rfl ?_); refine goesL_ (some 10) rfl rfl Try.func18 (by kernel_rfl) rfl #[.slice A0 l0.length c0] rfl (by (try simp only [List.map_toArray, List.map_cons, List.map_nil]); first | done | rfl | (simp only [List.length_drop, List.length_take]; rfl) | (go_simp; done) | (go_simp; simp; done)) ?_; (with_reducible refine (codec_Uint.calls k _ _ l0 t220 t221 t222 _ ?side1 ?side2 A2.out).mono ?_); (case side1 => repeat (first | exact HR0.out | (with_reducible refine Kd.C_alloc ?_ _) | (with_reducible refine Kd.C_drewN ?_ _) | (with_reducible refine Kd.C_drew ?_))); (case side2 => exact HC0.out); rintro e w' ⟨rfl, ⟨nd, rfl⟩⟩; refine ⟨_, rfl, ?_⟩))
    go_ret3
    exact ⟨by first | rfl | (simp [errW_none, errW_some] <;> rfl) | (simp [*, errW_none, errW_some] <;> rfl), by repeat (first | (with_reducible first | exact HB.out | apply below_alloc | apply pw_below_drewN | apply below_drew1) | exact HB.out)⟩

end Go.Proofs.Ythbnblmnamckmaa.PAll
-- Laid by a program of this seat (wip/xprint.py over the kit's print).
namespace Go.Proofs.Ythbnblmnamckmaa.PAll
open Go.RowKit Go.Proofs.YthbnblmnamckmaaW.PrintWords Go.Proofs.YthbnblmnamckmaaW.PrintLast Go.Proofs.YthbnblmnamckmaaW.PrintMore
attribute [local go_sem] max2_int min2_int max_two min_two max_three min_three max_four min_four   -- for this text's walks alone
set_option linter.unusedVariables false
set_option linter.unusedSimpArgs false

/-! ### codec_reader_text: function 43 -/
def codec_reader_text.f (k : Nat) (s0_0 : List Int) (s0_1 : Int) (s0_2 : Bool) : Option (ByteArray × List Int × Int × Bool) := (codec_Text.f k s0_0).bind fun bt225 => ((codec_reader_takes.f s0_0 s0_1 s0_2 bt225.2.1 bt225.2.2).bind fun bt228 => (some (bt225.1, bt228.1, bt228.2.1, bt228.2.2)))
theorem codec_reader_text.mono : ∀ a0 a1 a2 k, LeO (codec_reader_text.f k a0 a1 a2) (codec_reader_text.f (k + 1) a0 a1 a2) := by
  intro a0 a1 a2 k
  unfold codec_reader_text.f
  repeat' first
      | (with_reducible exact codec_Text.mono _ _)
      | (with_reducible exact LeO.refl _)
      | (with_reducible exact LeO.none _)
      | (with_reducible refine LeO.ite ?_ ?_)
      | (with_reducible refine LeO.bind ?_ (fun _ => ?_))
      | exact codec_Text.mono _ _
      | exact LeO.none _
      | refine LeO.ite ?_ ?_
      | refine LeO.bind ?_ (fun _ => ?_)
set_option maxHeartbeats 8000000 in
set_option maxRecDepth 100000 in
theorem codec_reader_text.calls (k : Nat) (g : Nat) (s0_0 : List Int) (s0_1 : Int) (s0_2 : Bool) (r1 : ByteArray) (r2 : List Int) (r3 : Int) (r4 : Bool) (w0 w : World) (hI : IsS76 w0 w g s0_0 s0_1 s0_2) (hB : Below w0.heap.size w0 w) (h : codec_reader_text.f k s0_0 s0_1 s0_2 = some (r1, r2, r3, r4)) :
    Calls Try.prog 43 #[.pointer (some ⟨g, 0, none⟩)] w fun e w' => e = .returned (.string r1) ∧ IsS76 w0 w' g r2 r3 r4 ∧ Below w0.heap.size w0 w' ∧ KeepBut w w' g none := by
  have HI0 := Aside0.mk hI
  have HK := Aside0.mk (KeepBut.refl w g none)
  have HL := Aside0.mk hB.size
  clear hI
  have HW0 := Aside0.mk hB.size
  have HB := Aside0.mk hB
  clear hB
  have H : ((codec_Text.f k s0_0).bind fun bt225 => ((codec_reader_takes.f s0_0 s0_1 s0_2 bt225.2.1 bt225.2.2).bind fun bt228 => (some (bt225.1, bt228.1, bt228.2.1, bt228.2.2)))) = some (r1, r2, r3, r4) := h
  clear h
  replace H := Option.bind_eq_some_iff.mp H
  obtain ⟨⟨t225, t226, t227⟩, A20, H⟩ := H
  replace H : ((codec_reader_takes.f s0_0 s0_1 s0_2 t226 t227).bind fun bt228 => (some (t225, bt228.1, bt228.2.1, bt228.2.2))) = some (r1, r2, r3, r4) := H
  have A2 := Aside0.mk A20
  clear A20
  replace H := Option.bind_eq_some_iff.mp H
  obtain ⟨⟨t228, t229, t230⟩, A30, H⟩ := H
  replace H : (some (t225, t228, t229, t230)) = some (r1, r2, r3, r4) := H
  have A3 := Aside0.mk A30
  clear A30
  simp only [Option.some.injEq, Prod.mk.injEq] at H
  obtain ⟨rfl, rfl, rfl, rfl⟩ := H
  obtain ⟨ASz4_0, cSz4_0, HGz4, hgz4, HSz4_0, hlSz4_0⟩ := HI0.out
  have hcz4_0 := cellS76_0 HGz4
  have hcz4_1 := cellS76_1 HGz4
  have hcz4_2 := cellS76_2 HGz4
  have hfz4_0 := blk_frozen HGz4 0
  have hfz4_1 := blk_frozen HGz4 1
  have hfz4_2 := blk_frozen HGz4 2
  clear HGz4 hgz4
  go_enter Try.func43, Try.ntmps43
  go_wp2_with (first | ((with_reducible refine gate_callee (f := 25) rfl ?_); refine goesL_ (some 11) rfl rfl Try.func25 (by kernel_rfl) rfl #[.slice ASz4_0 s0_0.length cSz4_0] rfl (by (try simp only [List.map_toArray, List.map_cons, List.map_nil]); first | done | rfl | (simp only [List.length_drop, List.length_take]; rfl) | (go_simp; done) | (go_simp; simp; done)) ?_; (with_reducible refine (codec_Text.calls k _ _ s0_0 t225 t226 t227 _ ?side1 ?side2 A2.out).mono ?_); (case side1 => exact Kd.C_below HSz4_0 (by repeat (first | (with_reducible first | exact HB.out | apply below_alloc | apply pw_below_drewN | apply below_drew1 | refine below_set ?_ (IsS76.ge HI0.out)) | exact HB.out))); (case side2 => exact hlSz4_0); rintro e w5 ⟨rfl, hb⟩; refine ⟨_, rfl, ?_⟩; have n0_ := Aside0.mk (IsS76.below (by first | ((repeat (first | (with_reducible first | exact HI0.out | apply IsS76.alloc | apply IsS76.drewN | apply IsS76.drew | apply IsS76.set_1 | apply IsS76.set_2) | exact HI0.out)); done) | ((simp only [*]); (repeat (first | (with_reducible first | exact HI0.out | apply IsS76.alloc | apply IsS76.drewN | apply IsS76.drew | apply IsS76.set_1 | apply IsS76.set_2) | exact HI0.out)))) hb); have n1_ := Aside0.mk (KeepBut.trans (by repeat (first | (with_reducible first | exact HK.out | apply KeepBut.set_ | apply keep_drewN | apply keep_drew | apply keep_alloc) | exact HK.out)) (KeepBut.of_below hb g none) (.inl rfl)); have n2_ := Aside0.mk (below_step (by repeat (first | (with_reducible first | exact HB.out | apply below_alloc | apply pw_below_drewN | apply below_drew1 | refine below_set ?_ (IsS76.ge HI0.out)) | exact HB.out)) hb); clear HI0; clear HK; clear HB; have HI0 := n0_; have HK := n1_; have HB := n2_; clear n0_ n1_ n2_; (try clear hb); (try clear hb2); (try clear hk); (try clear hi)) | ((with_reducible refine gate_callee (f := 47) rfl ?_); refine goesL_ (some 18) rfl rfl Try.func47 (by kernel_rfl) rfl #[.pointer (some ⟨g, 0, none⟩), .int .i64 t226, .int .i64 t227] rfl (by (try simp only [List.map_toArray, List.map_cons, List.map_nil]); first | done | rfl | (simp only [List.length_drop, List.length_take]; rfl) | (go_simp; done) | (go_simp; simp; done)) ?_; (with_reducible refine (codec_reader_takes.calls g s0_0 s0_1 s0_2 t226 t227 t228 t229 t230 w0 _ ?side1 ?side2 A3.out).mono ?_); (case side1 => first | ((repeat (first | (with_reducible first | exact HI0.out | apply IsS76.alloc | apply IsS76.drewN | apply IsS76.drew | apply IsS76.set_1 | apply IsS76.set_2) | exact HI0.out)); done) | ((simp only [*]); (repeat (first | (with_reducible first | exact HI0.out | apply IsS76.alloc | apply IsS76.drewN | apply IsS76.drew | apply IsS76.set_1 | apply IsS76.set_2) | exact HI0.out)))); (case side2 => repeat (first | (with_reducible first | exact HB.out | apply below_alloc | apply pw_below_drewN | apply below_drew1 | refine below_set ?_ (IsS76.ge HI0.out)) | exact HB.out)); rintro e w6 ⟨rfl, hi, hb, hk⟩; refine ⟨_, rfl, ?_⟩; have n0_ := Aside0.mk (KeepBut.trans (by repeat (first | (with_reducible first | exact HK.out | apply KeepBut.set_ | apply keep_drewN | apply keep_drew | apply keep_alloc) | exact HK.out)) hk (.inl rfl)); have n1_ := Aside0.mk (hb); have n2_ := Aside0.mk (hi); clear HK; clear HB; clear HI0; have HK := n0_; have HB := n1_; have HI0 := n2_; clear n0_ n1_ n2_; (try clear hb); (try clear hb2); (try clear hk); (try clear hi)))
  go_ret
  exact ⟨by first | rfl | (simp [errW_none, errW_some] <;> rfl) | (simp [*, errW_none, errW_some] <;> rfl), by first | ((repeat (first | (with_reducible first | exact HI0.out | apply IsS76.alloc | apply IsS76.drewN | apply IsS76.drew | apply IsS76.set_1 | apply IsS76.set_2) | exact HI0.out)); done) | ((simp only [*]); (repeat (first | (with_reducible first | exact HI0.out | apply IsS76.alloc | apply IsS76.drewN | apply IsS76.drew | apply IsS76.set_1 | apply IsS76.set_2) | exact HI0.out))), by repeat (first | (with_reducible first | exact HB.out | apply below_alloc | apply pw_below_drewN | apply below_drew1 | refine below_set ?_ (IsS76.ge HI0.out)) | exact HB.out), by repeat (first | (with_reducible first | exact HK.out | apply KeepBut.set_ | apply keep_drewN | apply keep_drew | apply keep_alloc) | exact HK.out)⟩

end Go.Proofs.Ythbnblmnamckmaa.PAll
-- Laid by a program of this seat (wip/xprint.py over the kit's print).
namespace Go.Proofs.Ythbnblmnamckmaa.PAll
open Go.RowKit Go.Proofs.YthbnblmnamckmaaW.PrintWords Go.Proofs.YthbnblmnamckmaaW.PrintLast Go.Proofs.YthbnblmnamckmaaW.PrintMore
attribute [local go_sem] max2_int min2_int max_two min_two max_three min_three max_four min_four   -- for this text's walks alone
set_option linter.unusedVariables false
set_option linter.unusedSimpArgs false

/-! ### codec_reader_count: function 44 -/
def codec_reader_count.f (k : Nat) (s0_0 : List Int) (s0_1 : Int) (s0_2 : Bool) (a1 : Int) : Option (Int × List Int × Int × Bool) := (codec_Uint.f k s0_0).bind fun bt231 => ((codec_reader_takes.f s0_0 s0_1 s0_2 bt231.2.1 bt231.2.2).bind fun bt234 => (if bt234.2.2 = true then (some (0, bt234.1, bt234.2.1, true)) else (if bt231.1 > a1 then (some (0, bt234.1, bt234.2.1, decide (bt231.1 > a1))) else (some (wrap64 (bt231.1), bt234.1, bt234.2.1, decide (bt231.1 > a1))))))
theorem codec_reader_count.mono : ∀ a0 a1 a2 a3 k, LeO (codec_reader_count.f k a0 a1 a2 a3) (codec_reader_count.f (k + 1) a0 a1 a2 a3) := by
  intro a0 a1 a2 a3 k
  unfold codec_reader_count.f
  repeat' first
      | (with_reducible exact codec_Uint.mono _ _)
      | (with_reducible exact LeO.refl _)
      | (with_reducible exact LeO.none _)
      | (with_reducible refine LeO.ite ?_ ?_)
      | (with_reducible refine LeO.bind ?_ (fun _ => ?_))
      | exact codec_Uint.mono _ _
      | exact LeO.none _
      | refine LeO.ite ?_ ?_
      | refine LeO.bind ?_ (fun _ => ?_)
set_option maxHeartbeats 8000000 in
set_option maxRecDepth 100000 in
theorem codec_reader_count.calls (k : Nat) (g : Nat) (s0_0 : List Int) (s0_1 : Int) (s0_2 : Bool) (a1 : Int) (r1 : Int) (r2 : List Int) (r3 : Int) (r4 : Bool) (w0 w : World) (hI : IsS76 w0 w g s0_0 s0_1 s0_2) (hB : Below w0.heap.size w0 w) (h : codec_reader_count.f k s0_0 s0_1 s0_2 a1 = some (r1, r2, r3, r4)) :
    Calls Try.prog 44 #[.pointer (some ⟨g, 0, none⟩), .int .u64 a1] w fun e w' => e = .returned (.int .i64 r1) ∧ IsS76 w0 w' g r2 r3 r4 ∧ Below w0.heap.size w0 w' ∧ KeepBut w w' g none := by
  have HI0 := Aside0.mk hI
  have HK := Aside0.mk (KeepBut.refl w g none)
  have HL := Aside0.mk hB.size
  clear hI
  have HW0 := Aside0.mk hB.size
  have HB := Aside0.mk hB
  clear hB
  have H : ((codec_Uint.f k s0_0).bind fun bt231 => ((codec_reader_takes.f s0_0 s0_1 s0_2 bt231.2.1 bt231.2.2).bind fun bt234 => (if bt234.2.2 = true then (some (0, bt234.1, bt234.2.1, true)) else (if bt231.1 > a1 then (some (0, bt234.1, bt234.2.1, decide (bt231.1 > a1))) else (some (wrap64 (bt231.1), bt234.1, bt234.2.1, decide (bt231.1 > a1))))))) = some (r1, r2, r3, r4) := h
  clear h
  replace H := Option.bind_eq_some_iff.mp H
  obtain ⟨⟨t231, t232, t233⟩, A30, H⟩ := H
  replace H : ((codec_reader_takes.f s0_0 s0_1 s0_2 t232 t233).bind fun bt234 => (if bt234.2.2 = true then (some (0, bt234.1, bt234.2.1, true)) else (if t231 > a1 then (some (0, bt234.1, bt234.2.1, decide (t231 > a1))) else (some (wrap64 (t231), bt234.1, bt234.2.1, decide (t231 > a1)))))) = some (r1, r2, r3, r4) := H
  have A3 := Aside0.mk A30
  clear A30
  replace H := Option.bind_eq_some_iff.mp H
  obtain ⟨⟨t234, t235, t236⟩, A40, H⟩ := H
  replace H : (if t236 = true then (some (0, t234, t235, true)) else (if t231 > a1 then (some (0, t234, t235, decide (t231 > a1))) else (some (wrap64 (t231), t234, t235, decide (t231 > a1))))) = some (r1, r2, r3, r4) := H
  have A4 := Aside0.mk A40
  clear A40
  by_cases c5 : t236 = true
  · subst c5
    have H1 : (some (0, t234, t235, true)) = some (r1, r2, r3, r4) := by rw [if_pos rfl] at H; exact H
    clear H
    have H := H1
    clear H1
    simp only [Option.some.injEq, Prod.mk.injEq] at H
    obtain ⟨rfl, rfl, rfl, rfl⟩ := H
    obtain ⟨ASz6_0, cSz6_0, HGz6, hgz6, HSz6_0, hlSz6_0⟩ := HI0.out
    have hcz6_0 := cellS76_0 HGz6
    have hcz6_1 := cellS76_1 HGz6
    have hcz6_2 := cellS76_2 HGz6
    have hfz6_0 := blk_frozen HGz6 0
    have hfz6_1 := blk_frozen HGz6 1
    have hfz6_2 := blk_frozen HGz6 2
    clear HGz6 hgz6
    go_enter Try.func44, Try.ntmps44
    go_wp2_with (first | ((with_reducible refine gate_callee (f := 18) rfl ?_); refine goesL_ (some 13) rfl rfl Try.func18 (by kernel_rfl) rfl #[.slice ASz6_0 s0_0.length cSz6_0] rfl (by (try simp only [List.map_toArray, List.map_cons, List.map_nil]); first | done | rfl | (simp only [List.length_drop, List.length_take]; rfl) | (go_simp; done) | (go_simp; simp; done)) ?_; (with_reducible refine (codec_Uint.calls k _ _ s0_0 t231 t232 t233 _ ?side1 ?side2 A3.out).mono ?_); (case side1 => exact Kd.C_below HSz6_0 (by repeat (first | (with_reducible first | exact HB.out | apply below_alloc | apply pw_below_drewN | apply below_drew1 | refine below_set ?_ (IsS76.ge HI0.out)) | exact HB.out))); (case side2 => exact hlSz6_0); rintro e w' ⟨rfl, ⟨nd, rfl⟩⟩; refine ⟨_, rfl, ?_⟩) | ((with_reducible refine gate_callee (f := 47) rfl ?_); refine goesL_ (some 20) rfl rfl Try.func47 (by kernel_rfl) rfl #[.pointer (some ⟨g, 0, none⟩), .int .i64 t232, .int .i64 t233] rfl (by (try simp only [List.map_toArray, List.map_cons, List.map_nil]); first | done | rfl | (simp only [List.length_drop, List.length_take]; rfl) | (go_simp; done) | (go_simp; simp; done)) ?_; (with_reducible refine (codec_reader_takes.calls g s0_0 s0_1 s0_2 t232 t233 t234 t235 true w0 _ ?side1 ?side2 A4.out).mono ?_); (case side1 => first | ((repeat (first | (with_reducible first | exact HI0.out | apply IsS76.alloc | apply IsS76.drewN | apply IsS76.drew | apply IsS76.set_1 | apply IsS76.set_2) | exact HI0.out)); done) | ((simp only [*]); (repeat (first | (with_reducible first | exact HI0.out | apply IsS76.alloc | apply IsS76.drewN | apply IsS76.drew | apply IsS76.set_1 | apply IsS76.set_2) | exact HI0.out)))); (case side2 => repeat (first | (with_reducible first | exact HB.out | apply below_alloc | apply pw_below_drewN | apply below_drew1 | refine below_set ?_ (IsS76.ge HI0.out)) | exact HB.out)); rintro e w7 ⟨rfl, hi, hb, hk⟩; refine ⟨_, rfl, ?_⟩; have n0_ := Aside0.mk (KeepBut.trans (by repeat (first | (with_reducible first | exact HK.out | apply KeepBut.set_ | apply keep_drewN | apply keep_drew | apply keep_alloc) | exact HK.out)) hk (.inl rfl)); have n1_ := Aside0.mk (hb); have n2_ := Aside0.mk (hi); clear HK; clear HB; clear HI0; have HK := n0_; have HB := n1_; have HI0 := n2_; clear n0_ n1_ n2_; (try clear hb); (try clear hb2); (try clear hk); (try clear hi); obtain ⟨ASz8_0, cSz8_0, HGz8, hgz8, HSz8_0, hlSz8_0⟩ := HI0.out; have hcz8_0 := cellS76_0 HGz8; have hcz8_1 := cellS76_1 HGz8; have hcz8_2 := cellS76_2 HGz8; have hfz8_0 := blk_frozen HGz8 0; have hfz8_1 := blk_frozen HGz8 1; have hfz8_2 := blk_frozen HGz8 2; clear HGz8 hgz8))
    go_ret
    exact ⟨by first | rfl | (simp [errW_none, errW_some] <;> rfl) | (simp [*, errW_none, errW_some] <;> rfl), by first | ((repeat (first | (with_reducible first | exact HI0.out | apply IsS76.alloc | apply IsS76.drewN | apply IsS76.drew | apply IsS76.set_1 | apply IsS76.set_2) | exact HI0.out)); done) | ((simp only [*]); (repeat (first | (with_reducible first | exact HI0.out | apply IsS76.alloc | apply IsS76.drewN | apply IsS76.drew | apply IsS76.set_1 | apply IsS76.set_2) | exact HI0.out))), by repeat (first | (with_reducible first | exact HB.out | apply below_alloc | apply pw_below_drewN | apply below_drew1 | refine below_set ?_ (IsS76.ge HI0.out)) | exact HB.out), by repeat (first | (with_reducible first | exact HK.out | apply KeepBut.set_ | apply keep_drewN | apply keep_drew | apply keep_alloc) | exact HK.out)⟩
  · replace c5 := Bool.eq_false_iff.mpr c5
    subst c5
    have H1 : (if t231 > a1 then (some (0, t234, t235, decide (t231 > a1))) else (some (wrap64 (t231), t234, t235, decide (t231 > a1)))) = some (r1, r2, r3, r4) := by rw [if_neg (show ¬ (false = true) by decide)] at H; exact H
    clear H
    have H := H1
    clear H1
    by_cases c9 : t231 > a1
    · rw [if_pos c9] at H
      have c9b0 : decide (a1 < t231) = true := decide_eq_true c9
      clear c9
      simp only [Option.some.injEq, Prod.mk.injEq] at H
      obtain ⟨rfl, rfl, rfl, rfl⟩ := H
      obtain ⟨ASz10_0, cSz10_0, HGz10, hgz10, HSz10_0, hlSz10_0⟩ := HI0.out
      have hcz10_0 := cellS76_0 HGz10
      have hcz10_1 := cellS76_1 HGz10
      have hcz10_2 := cellS76_2 HGz10
      have hfz10_0 := blk_frozen HGz10 0
      have hfz10_1 := blk_frozen HGz10 1
      have hfz10_2 := blk_frozen HGz10 2
      clear HGz10 hgz10
      go_enter Try.func44, Try.ntmps44
      go_wp2_with (first | ((with_reducible refine gate_callee (f := 18) rfl ?_); refine goesL_ (some 13) rfl rfl Try.func18 (by kernel_rfl) rfl #[.slice ASz10_0 s0_0.length cSz10_0] rfl (by (try simp only [List.map_toArray, List.map_cons, List.map_nil]); first | done | rfl | (simp only [List.length_drop, List.length_take]; rfl) | (go_simp; done) | (go_simp; simp; done)) ?_; (with_reducible refine (codec_Uint.calls k _ _ s0_0 t231 t232 t233 _ ?side1 ?side2 A3.out).mono ?_); (case side1 => exact Kd.C_below HSz10_0 (by repeat (first | (with_reducible first | exact HB.out | apply below_alloc | apply pw_below_drewN | apply below_drew1 | refine below_set ?_ (IsS76.ge HI0.out)) | exact HB.out))); (case side2 => exact hlSz10_0); rintro e w' ⟨rfl, ⟨nd, rfl⟩⟩; refine ⟨_, rfl, ?_⟩) | ((with_reducible refine gate_callee (f := 47) rfl ?_); refine goesL_ (some 20) rfl rfl Try.func47 (by kernel_rfl) rfl #[.pointer (some ⟨g, 0, none⟩), .int .i64 t232, .int .i64 t233] rfl (by (try simp only [List.map_toArray, List.map_cons, List.map_nil]); first | done | rfl | (simp only [List.length_drop, List.length_take]; rfl) | (go_simp; done) | (go_simp; simp; done)) ?_; (with_reducible refine (codec_reader_takes.calls g s0_0 s0_1 s0_2 t232 t233 t234 t235 false w0 _ ?side1 ?side2 A4.out).mono ?_); (case side1 => first | ((repeat (first | (with_reducible first | exact HI0.out | apply IsS76.alloc | apply IsS76.drewN | apply IsS76.drew | apply IsS76.set_1 | apply IsS76.set_2) | exact HI0.out)); done) | ((simp only [*]); (repeat (first | (with_reducible first | exact HI0.out | apply IsS76.alloc | apply IsS76.drewN | apply IsS76.drew | apply IsS76.set_1 | apply IsS76.set_2) | exact HI0.out)))); (case side2 => repeat (first | (with_reducible first | exact HB.out | apply below_alloc | apply pw_below_drewN | apply below_drew1 | refine below_set ?_ (IsS76.ge HI0.out)) | exact HB.out)); rintro e w11 ⟨rfl, hi, hb, hk⟩; refine ⟨_, rfl, ?_⟩; have n0_ := Aside0.mk (KeepBut.trans (by repeat (first | (with_reducible first | exact HK.out | apply KeepBut.set_ | apply keep_drewN | apply keep_drew | apply keep_alloc) | exact HK.out)) hk (.inl rfl)); have n1_ := Aside0.mk (hb); have n2_ := Aside0.mk (hi); clear HK; clear HB; clear HI0; have HK := n0_; have HB := n1_; have HI0 := n2_; clear n0_ n1_ n2_; (try clear hb); (try clear hb2); (try clear hk); (try clear hi); obtain ⟨ASz12_0, cSz12_0, HGz12, hgz12, HSz12_0, hlSz12_0⟩ := HI0.out; have hcz12_0 := cellS76_0 HGz12; have hcz12_1 := cellS76_1 HGz12; have hcz12_2 := cellS76_2 HGz12; have hfz12_0 := blk_frozen HGz12 0; have hfz12_1 := blk_frozen HGz12 1; have hfz12_2 := blk_frozen HGz12 2; clear HGz12 hgz12))
      go_ret
      exact ⟨by first | rfl | (simp [errW_none, errW_some] <;> rfl) | (simp [*, errW_none, errW_some] <;> rfl), by first | ((repeat (first | (with_reducible first | exact HI0.out | apply IsS76.alloc | apply IsS76.drewN | apply IsS76.drew | apply IsS76.set_1 | apply IsS76.set_2) | exact HI0.out)); done) | ((simp only [*]); (repeat (first | (with_reducible first | exact HI0.out | apply IsS76.alloc | apply IsS76.drewN | apply IsS76.drew | apply IsS76.set_1 | apply IsS76.set_2) | exact HI0.out))), by repeat (first | (with_reducible first | exact HB.out | apply below_alloc | apply pw_below_drewN | apply below_drew1 | refine below_set ?_ (IsS76.ge HI0.out)) | exact HB.out), by repeat (first | (with_reducible first | exact HK.out | apply KeepBut.set_ | apply keep_drewN | apply keep_drew | apply keep_alloc) | exact HK.out)⟩
    · rw [if_neg c9] at H
      have c9b0 : decide (a1 < t231) = false := decide_eq_false c9
      clear c9
      simp only [Option.some.injEq, Prod.mk.injEq] at H
      obtain ⟨rfl, rfl, rfl, rfl⟩ := H
      obtain ⟨ASz13_0, cSz13_0, HGz13, hgz13, HSz13_0, hlSz13_0⟩ := HI0.out
      have hcz13_0 := cellS76_0 HGz13
      have hcz13_1 := cellS76_1 HGz13
      have hcz13_2 := cellS76_2 HGz13
      have hfz13_0 := blk_frozen HGz13 0
      have hfz13_1 := blk_frozen HGz13 1
      have hfz13_2 := blk_frozen HGz13 2
      clear HGz13 hgz13
      go_enter Try.func44, Try.ntmps44
      go_wp2_with (first | ((with_reducible refine gate_callee (f := 18) rfl ?_); refine goesL_ (some 13) rfl rfl Try.func18 (by kernel_rfl) rfl #[.slice ASz13_0 s0_0.length cSz13_0] rfl (by (try simp only [List.map_toArray, List.map_cons, List.map_nil]); first | done | rfl | (simp only [List.length_drop, List.length_take]; rfl) | (go_simp; done) | (go_simp; simp; done)) ?_; (with_reducible refine (codec_Uint.calls k _ _ s0_0 t231 t232 t233 _ ?side1 ?side2 A3.out).mono ?_); (case side1 => exact Kd.C_below HSz13_0 (by repeat (first | (with_reducible first | exact HB.out | apply below_alloc | apply pw_below_drewN | apply below_drew1 | refine below_set ?_ (IsS76.ge HI0.out)) | exact HB.out))); (case side2 => exact hlSz13_0); rintro e w' ⟨rfl, ⟨nd, rfl⟩⟩; refine ⟨_, rfl, ?_⟩) | ((with_reducible refine gate_callee (f := 47) rfl ?_); refine goesL_ (some 20) rfl rfl Try.func47 (by kernel_rfl) rfl #[.pointer (some ⟨g, 0, none⟩), .int .i64 t232, .int .i64 t233] rfl (by (try simp only [List.map_toArray, List.map_cons, List.map_nil]); first | done | rfl | (simp only [List.length_drop, List.length_take]; rfl) | (go_simp; done) | (go_simp; simp; done)) ?_; (with_reducible refine (codec_reader_takes.calls g s0_0 s0_1 s0_2 t232 t233 t234 t235 false w0 _ ?side1 ?side2 A4.out).mono ?_); (case side1 => first | ((repeat (first | (with_reducible first | exact HI0.out | apply IsS76.alloc | apply IsS76.drewN | apply IsS76.drew | apply IsS76.set_1 | apply IsS76.set_2) | exact HI0.out)); done) | ((simp only [*]); (repeat (first | (with_reducible first | exact HI0.out | apply IsS76.alloc | apply IsS76.drewN | apply IsS76.drew | apply IsS76.set_1 | apply IsS76.set_2) | exact HI0.out)))); (case side2 => repeat (first | (with_reducible first | exact HB.out | apply below_alloc | apply pw_below_drewN | apply below_drew1 | refine below_set ?_ (IsS76.ge HI0.out)) | exact HB.out)); rintro e w14 ⟨rfl, hi, hb, hk⟩; refine ⟨_, rfl, ?_⟩; have n0_ := Aside0.mk (KeepBut.trans (by repeat (first | (with_reducible first | exact HK.out | apply KeepBut.set_ | apply keep_drewN | apply keep_drew | apply keep_alloc) | exact HK.out)) hk (.inl rfl)); have n1_ := Aside0.mk (hb); have n2_ := Aside0.mk (hi); clear HK; clear HB; clear HI0; have HK := n0_; have HB := n1_; have HI0 := n2_; clear n0_ n1_ n2_; (try clear hb); (try clear hb2); (try clear hk); (try clear hi); obtain ⟨ASz15_0, cSz15_0, HGz15, hgz15, HSz15_0, hlSz15_0⟩ := HI0.out; have hcz15_0 := cellS76_0 HGz15; have hcz15_1 := cellS76_1 HGz15; have hcz15_2 := cellS76_2 HGz15; have hfz15_0 := blk_frozen HGz15 0; have hfz15_1 := blk_frozen HGz15 1; have hfz15_2 := blk_frozen HGz15 2; clear HGz15 hgz15))
      go_ret
      exact ⟨by first | rfl | (simp [errW_none, errW_some] <;> rfl) | (simp [*, errW_none, errW_some] <;> rfl), by first | ((repeat (first | (with_reducible first | exact HI0.out | apply IsS76.alloc | apply IsS76.drewN | apply IsS76.drew | apply IsS76.set_1 | apply IsS76.set_2) | exact HI0.out)); done) | ((simp only [*]); (repeat (first | (with_reducible first | exact HI0.out | apply IsS76.alloc | apply IsS76.drewN | apply IsS76.drew | apply IsS76.set_1 | apply IsS76.set_2) | exact HI0.out))), by repeat (first | (with_reducible first | exact HB.out | apply below_alloc | apply pw_below_drewN | apply below_drew1 | refine below_set ?_ (IsS76.ge HI0.out)) | exact HB.out), by repeat (first | (with_reducible first | exact HK.out | apply KeepBut.set_ | apply keep_drewN | apply keep_drew | apply keep_alloc) | exact HK.out)⟩

end Go.Proofs.Ythbnblmnamckmaa.PAll
-- Laid by a program of this seat (wip/xprint.py over the kit's print).
namespace Go.Proofs.Ythbnblmnamckmaa.PAll
open Go.RowKit Go.Proofs.YthbnblmnamckmaaW.PrintWords Go.Proofs.YthbnblmnamckmaaW.PrintLast Go.Proofs.YthbnblmnamckmaaW.PrintMore
attribute [local go_sem] max2_int min2_int max_two min_two max_three min_three max_four min_four   -- for this text's walks alone
set_option linter.unusedVariables false
set_option linter.unusedSimpArgs false

/-! ### codec_reader_byte: function 46 -/
def codec_reader_byte.f (s0_0 : List Int) (s0_1 : Int) (s0_2 : Bool) : Option (Int × List Int × Int × Bool) := if s0_2 = true then (some (0, s0_0, s0_1, true)) else (if (s0_0.length : Int) < 1 then (some (0, s0_0, s0_1, decide ((s0_0.length : Int) < 1))) else (if 0 < (s0_0.length : Int) then ((codec_reader_takes.f s0_0 s0_1 (decide ((s0_0.length : Int) < 1)) 1 0).bind fun bt238 => (some (rd s0_0 0, bt238.1, bt238.2.1, bt238.2.2))) else (none)))
set_option maxHeartbeats 8000000 in
set_option maxRecDepth 100000 in
theorem codec_reader_byte.calls (g : Nat) (s0_0 : List Int) (s0_1 : Int) (s0_2 : Bool) (r1 : Int) (r2 : List Int) (r3 : Int) (r4 : Bool) (w0 w : World) (hI : IsS76 w0 w g s0_0 s0_1 s0_2) (hB : Below w0.heap.size w0 w) (h : codec_reader_byte.f s0_0 s0_1 s0_2 = some (r1, r2, r3, r4)) :
    Calls Try.prog 46 #[.pointer (some ⟨g, 0, none⟩)] w fun e w' => e = .returned (.int .u8 r1) ∧ IsS76 w0 w' g r2 r3 r4 ∧ Below w0.heap.size w0 w' ∧ KeepBut w w' g none := by
  have HI0 := Aside0.mk hI
  have HK := Aside0.mk (KeepBut.refl w g none)
  have HL := Aside0.mk hB.size
  clear hI
  have HW0 := Aside0.mk hB.size
  have HB := Aside0.mk hB
  clear hB
  have H : (if s0_2 = true then (some (0, s0_0, s0_1, true)) else (if (s0_0.length : Int) < 1 then (some (0, s0_0, s0_1, decide ((s0_0.length : Int) < 1))) else (if 0 < (s0_0.length : Int) then ((codec_reader_takes.f s0_0 s0_1 (decide ((s0_0.length : Int) < 1)) 1 0).bind fun bt238 => (some (rd s0_0 0, bt238.1, bt238.2.1, bt238.2.2))) else (none)))) = some (r1, r2, r3, r4) := h
  clear h
  by_cases c2 : s0_2 = true
  · subst c2
    have H1 : (some (0, s0_0, s0_1, true)) = some (r1, r2, r3, r4) := by rw [if_pos rfl] at H; exact H
    clear H
    have H := H1
    clear H1
    simp only [Option.some.injEq, Prod.mk.injEq] at H
    obtain ⟨rfl, rfl, rfl, rfl⟩ := H
    obtain ⟨ASz3_0, cSz3_0, HGz3, hgz3, HSz3_0, hlSz3_0⟩ := HI0.out
    have hcz3_0 := cellS76_0 HGz3
    have hcz3_1 := cellS76_1 HGz3
    have hcz3_2 := cellS76_2 HGz3
    have hfz3_0 := blk_frozen HGz3 0
    have hfz3_1 := blk_frozen HGz3 1
    have hfz3_2 := blk_frozen HGz3 2
    clear HGz3 hgz3
    go_enter Try.func46, Try.ntmps46
    go_wp2
    go_ret
    exact ⟨by first | rfl | (simp [errW_none, errW_some] <;> rfl) | (simp [*, errW_none, errW_some] <;> rfl), by first | ((repeat (first | (with_reducible first | exact HI0.out | apply IsS76.alloc | apply IsS76.drewN | apply IsS76.drew | apply IsS76.set_1 | apply IsS76.set_2) | exact HI0.out)); done) | ((simp only [*]); (repeat (first | (with_reducible first | exact HI0.out | apply IsS76.alloc | apply IsS76.drewN | apply IsS76.drew | apply IsS76.set_1 | apply IsS76.set_2) | exact HI0.out))), by repeat (first | (with_reducible first | exact HB.out | apply below_alloc | apply pw_below_drewN | apply below_drew1 | refine below_set ?_ (IsS76.ge HI0.out)) | exact HB.out), by repeat (first | (with_reducible first | exact HK.out | apply KeepBut.set_ | apply keep_drewN | apply keep_drew | apply keep_alloc) | exact HK.out)⟩
  · replace c2 := Bool.eq_false_iff.mpr c2
    subst c2
    have H1 : (if (s0_0.length : Int) < 1 then (some (0, s0_0, s0_1, decide ((s0_0.length : Int) < 1))) else (if 0 < (s0_0.length : Int) then ((codec_reader_takes.f s0_0 s0_1 (decide ((s0_0.length : Int) < 1)) 1 0).bind fun bt238 => (some (rd s0_0 0, bt238.1, bt238.2.1, bt238.2.2))) else (none))) = some (r1, r2, r3, r4) := by rw [if_neg (show ¬ (false = true) by decide)] at H; exact H
    clear H
    have H := H1
    clear H1
    by_cases c4 : (s0_0.length : Int) < 1
    · rw [if_pos c4] at H
      have c4b0 : decide ((s0_0.length : Int) < 1) = true := decide_eq_true c4
      have c4b1 : decide (s0_0.length < 1) = true := decide_eq_true (by omega)
      clear c4
      simp only [Option.some.injEq, Prod.mk.injEq] at H
      obtain ⟨rfl, rfl, rfl, rfl⟩ := H
      obtain ⟨ASz5_0, cSz5_0, HGz5, hgz5, HSz5_0, hlSz5_0⟩ := HI0.out
      have hcz5_0 := cellS76_0 HGz5
      have hcz5_1 := cellS76_1 HGz5
      have hcz5_2 := cellS76_2 HGz5
      have hfz5_0 := blk_frozen HGz5 0
      have hfz5_1 := blk_frozen HGz5 1
      have hfz5_2 := blk_frozen HGz5 2
      clear HGz5 hgz5
      go_enter Try.func46, Try.ntmps46
      go_wp2
      go_ret
      exact ⟨by first | rfl | (simp [errW_none, errW_some] <;> rfl) | (simp [*, errW_none, errW_some] <;> rfl), by first | ((repeat (first | (with_reducible first | exact HI0.out | apply IsS76.alloc | apply IsS76.drewN | apply IsS76.drew | apply IsS76.set_1 | apply IsS76.set_2) | exact HI0.out)); done) | ((simp only [*]); (repeat (first | (with_reducible first | exact HI0.out | apply IsS76.alloc | apply IsS76.drewN | apply IsS76.drew | apply IsS76.set_1 | apply IsS76.set_2) | exact HI0.out))), by repeat (first | (with_reducible first | exact HB.out | apply below_alloc | apply pw_below_drewN | apply below_drew1 | refine below_set ?_ (IsS76.ge HI0.out)) | exact HB.out), by repeat (first | (with_reducible first | exact HK.out | apply KeepBut.set_ | apply keep_drewN | apply keep_drew | apply keep_alloc) | exact HK.out)⟩
    · rw [if_neg c4] at H
      have c4b0 : decide ((s0_0.length : Int) < 1) = false := decide_eq_false c4
      have c4b1 : decide (s0_0.length < 1) = false := decide_eq_false (by omega)
      clear c4
      by_cases c6 : 0 < (s0_0.length : Int)
      · rw [if_pos c6] at H
        have c6b0 : decide (0 < (s0_0.length : Int)) = true := decide_eq_true c6
        have c6b1 : decide (0 < s0_0.length) = true := decide_eq_true (by omega)
        clear c6
        replace H := Option.bind_eq_some_iff.mp H
        obtain ⟨⟨t238, t239, t240⟩, A70, H⟩ := H
        replace H : (some (rd s0_0 0, t238, t239, t240)) = some (r1, r2, r3, r4) := H
        have A7 := Aside0.mk A70
        clear A70
        simp only [Option.some.injEq, Prod.mk.injEq] at H
        obtain ⟨rfl, rfl, rfl, rfl⟩ := H
        obtain ⟨ASz8_0, cSz8_0, HGz8, hgz8, HSz8_0, hlSz8_0⟩ := HI0.out
        have hcz8_0 := cellS76_0 HGz8
        have hcz8_1 := cellS76_1 HGz8
        have hcz8_2 := cellS76_2 HGz8
        have hfz8_0 := blk_frozen HGz8 0
        have hfz8_1 := blk_frozen HGz8 1
        have hfz8_2 := blk_frozen HGz8 2
        clear HGz8 hgz8
        have p237 : 0 ≤ (0 : Int) := (by omega)
        have q237 : 0 < (s0_0.length : Int) := of_decide_eq_true (by first | (with_reducible assumption) | assumption)
        obtain ⟨ad237, e237, hx237_0⟩ := Kd.at_int HSz8_0 0 p237 q237
        cases e237
        have qi237 : (0 < s0_0.length) = True := eq_true (by omega)
        (try rw [show ((0 : Int)).toNat = 0 from rfl] at hx237_0)
        (try rw [Addr.add_zero'] at hx237_0)
        have hn237_0 : ad237.block ≠ g := Nat.ne_of_lt (Nat.lt_of_lt_of_le (by have := World.block_lt_of_cell? _ _ hx237_0; first | rwa [add_block] at this | exact this) (IsS76.ge HI0.out))
        replace hx237_0 := pw_cell_below HB.out hx237_0
        replace hx237_0 := (cell_far (p := ⟨g, 2, none⟩) (by first | (rw [add_block]; exact hn237_0) | (show (Addr.add _ _).block ≠ _; rw [add_block]; exact hn237_0) | exact hn237_0) (.bool (decide ((s0_0.length : Int) < 1)))).trans hx237_0
        clear hn237_0
        replace p237 := eq_true p237
        replace q237 := eq_true q237
        (try simp only [c6b1, c6b0, c4b1, c4b0, c4b1, c4b0] at hx237_0)
        go_enter Try.func46, Try.ntmps46
        go_wp2_with (first | ((with_reducible refine gate_callee (f := 47) rfl ?_); refine goesL_ (some 30) rfl rfl Try.func47 (by kernel_rfl) rfl #[.pointer (some ⟨g, 0, none⟩), .int .i64 1, .int .i64 0] rfl (by (try simp only [List.map_toArray, List.map_cons, List.map_nil]); first | done | rfl | (simp only [List.length_drop, List.length_take]; rfl) | (go_simp; done) | (go_simp; simp; done)) ?_; (with_reducible refine (codec_reader_takes.calls g s0_0 s0_1 (decide ((s0_0.length : Int) < 1)) 1 0 t238 t239 t240 w0 _ ?side1 ?side2 A7.out).mono ?_); (case side1 => first | ((repeat (first | (with_reducible first | exact HI0.out | apply IsS76.alloc | apply IsS76.drewN | apply IsS76.drew | apply IsS76.set_1 | apply IsS76.set_2) | exact HI0.out)); done) | ((simp only [*]); (repeat (first | (with_reducible first | exact HI0.out | apply IsS76.alloc | apply IsS76.drewN | apply IsS76.drew | apply IsS76.set_1 | apply IsS76.set_2) | exact HI0.out)))); (case side2 => repeat (first | (with_reducible first | exact HB.out | apply below_alloc | apply pw_below_drewN | apply below_drew1 | refine below_set ?_ (IsS76.ge HI0.out)) | exact HB.out)); rintro e w9 ⟨rfl, hi, hb, hk⟩; refine ⟨_, rfl, ?_⟩; have n0_ := Aside0.mk (KeepBut.trans (by repeat (first | (with_reducible first | exact HK.out | apply KeepBut.set_ | apply keep_drewN | apply keep_drew | apply keep_alloc) | exact HK.out)) hk (.inl rfl)); have n1_ := Aside0.mk (hb); have n2_ := Aside0.mk (hi); clear HK; clear HB; clear HI0; have HK := n0_; have HB := n1_; have HI0 := n2_; clear n0_ n1_ n2_; (try clear hb); (try clear hb2); (try clear hk); (try clear hi)))
        go_ret
        exact ⟨by first | rfl | (simp [errW_none, errW_some] <;> rfl) | (simp [*, errW_none, errW_some] <;> rfl), by first | ((repeat (first | (with_reducible first | exact HI0.out | apply IsS76.alloc | apply IsS76.drewN | apply IsS76.drew | apply IsS76.set_1 | apply IsS76.set_2) | exact HI0.out)); done) | ((simp only [*]); (repeat (first | (with_reducible first | exact HI0.out | apply IsS76.alloc | apply IsS76.drewN | apply IsS76.drew | apply IsS76.set_1 | apply IsS76.set_2) | exact HI0.out))), by repeat (first | (with_reducible first | exact HB.out | apply below_alloc | apply pw_below_drewN | apply below_drew1 | refine below_set ?_ (IsS76.ge HI0.out)) | exact HB.out), by repeat (first | (with_reducible first | exact HK.out | apply KeepBut.set_ | apply keep_drewN | apply keep_drew | apply keep_alloc) | exact HK.out)⟩
      · rw [if_neg c6] at H
        exact absurd H (by simp)

end Go.Proofs.Ythbnblmnamckmaa.PAll
-- Laid by a program of this seat (wip/xprint.py over the kit's print).
namespace Go.Proofs.Ythbnblmnamckmaa.PAll
open Go.RowKit Go.Proofs.YthbnblmnamckmaaW.PrintWords Go.Proofs.YthbnblmnamckmaaW.PrintLast Go.Proofs.YthbnblmnamckmaaW.PrintMore
attribute [local go_sem] max2_int min2_int max_two min_two max_three min_three max_four min_four   -- for this text's walks alone
set_option linter.unusedVariables false
set_option linter.unusedSimpArgs false

/-! ### codec_reader_value: function 39 -/
mutual
def codec_reader_value.j0 : Nat → List Int → Int → Bool → Int → Int → ByteArray → Int → Option (Int × Int × ByteArray × Int × (List (S24)) × List Int × Int × Bool)
 | 0,_,_,_,_,_,_,_ => none
 | k + 1,x1000,x1001,x1002,x247000,x247001,x247002,x247003 => (codec_reader_count.f k x1000 x1001 x1002 15).bind fun bt261 => ((codec_reader_count.f k bt261.2.1 bt261.2.2.1 bt261.2.2.2 12).bind fun bt265 => (codec_reader_value.l0 k bt265.1 0 bt265.2.1 bt265.2.2.1 bt265.2.2.2 x247000 x247001 x247002 bt261.1 ([] : List (S24))))
def codec_reader_value.l0 : Nat → Int → Int → List Int → Int → Bool → Int → Int → ByteArray → Int → List (S24) → Option (Int × Int × ByteArray × Int × (List (S24)) × List Int × Int × Bool)
 | 0,_,_,_,_,_,_,_,_,_,_ => none
 | k + 1,x74,x75,x1000,x1001,x1002,x247000,x247001,x247002,x247003,x247004 => if x75 < x74 then ((codec_reader_value.f k x1000 x1001 x1002 true).bind fun bt269 => (if x247004.length < 2199023255552 then (codec_reader_value.l0 k x74 (wrap64 (x75 + 1)) bt269.2.2.2.2.2.1 bt269.2.2.2.2.2.2.1 bt269.2.2.2.2.2.2.2 x247000 x247001 x247002 x247003 (x247004 ++ [(⟨bt269.1,bt269.2.1,bt269.2.2.1,bt269.2.2.2.1,bt269.2.2.2.2.1⟩ : S24)])) else (none))) else (some (x247000,x247001,x247002,x247003,x247004,x1000,x1001,x1002))
def codec_reader_value.f : Nat → List Int → Int → Bool → Bool → Option (Int × Int × ByteArray × Int × (List (S24)) × List Int × Int × Bool)
 | 0,_,_,_,_ => none
 | k + 1,s0_0,s0_1,s0_2,a1 => (codec_reader_byte.f s0_0 s0_1 s0_2).bind fun bt242 => (if (wrap64 (bt242.1)) = 1 then ((codec_Int.f k bt242.2.1).bind fun bt247 => ((codec_reader_takes.f bt242.2.1 bt242.2.2.1 bt242.2.2.2 bt247.2.1 bt247.2.2).bind fun bt250 => (some (wrap64 (bt242.1),bt247.1,(⟨#[]⟩ : ByteArray),0,([] : List (S24)),bt250.1,bt250.2.1,bt250.2.2)))) else (if (wrap64 (bt242.1)) = 2 then ((codec_reader_text.f k bt242.2.1 bt242.2.2.1 bt242.2.2.2).bind fun bt253 => (some (wrap64 (bt242.1),0,bt253.1,0,([] : List (S24)),bt253.2.1,bt253.2.2.1,bt253.2.2.2))) else (if (wrap64 (bt242.1)) = 3 then ((codec_reader_byte.f bt242.2.1 bt242.2.2.1 bt242.2.2.2).bind fun bt257 => (if bt257.2.2.2 = true then (some (wrap64 (bt242.1),wrap64 (bt257.1),(⟨#[]⟩ : ByteArray),0,([] : List (S24)),bt257.2.1,bt257.2.2.1,true)) else (some (wrap64 (bt242.1),wrap64 (bt257.1),(⟨#[]⟩ : ByteArray),0,([] : List (S24)),bt257.2.1,bt257.2.2.1,decide ((wrap64 (bt257.1)) > 1))))) else (if (wrap64 (bt242.1)) = 4 then (if bt242.2.2.2 = true then (codec_reader_value.j0 k bt242.2.1 bt242.2.2.1 true (wrap64 (bt242.1)) 0 (⟨#[]⟩ : ByteArray) 0) else (codec_reader_value.j0 k bt242.2.1 bt242.2.2.1 a1 (wrap64 (bt242.1)) 0 (⟨#[]⟩ : ByteArray) 0)) else (some (wrap64 (bt242.1),0,(⟨#[]⟩ : ByteArray),0,([] : List (S24)),bt242.2.1,bt242.2.2.1,true))))))
end
theorem codec_reader_value.mono_l : ∀ k,(∀ y0 y1 y2 y3,LeO (codec_reader_value.f k y0 y1 y2 y3) (codec_reader_value.f (k + 1) y0 y1 y2 y3)) ∧ (∀ y0 y1 y2 y3 y4 y5 y6,LeO (codec_reader_value.j0 k y0 y1 y2 y3 y4 y5 y6) (codec_reader_value.j0 (k + 1) y0 y1 y2 y3 y4 y5 y6)) ∧ (∀ y0 y1 y2 y3 y4 y5 y6 y7 y8 y9,LeO (codec_reader_value.l0 k y0 y1 y2 y3 y4 y5 y6 y7 y8 y9) (codec_reader_value.l0 (k + 1) y0 y1 y2 y3 y4 y5 y6 y7 y8 y9))
 | 0 => ⟨fun _ _ _ _ r h => by simp [codec_reader_value.f] at h,fun _ _ _ _ _ _ _ r h => by simp [codec_reader_value.j0] at h,fun _ _ _ _ _ _ _ _ _ _ r h => by simp [codec_reader_value.l0] at h⟩
 | k + 1 => by
  obtain ⟨ih0,ih1,ih2⟩:=codec_reader_value.mono_l k
  refine ⟨?_,?_,?_⟩
  ·intro y0 y1 y2 y3
   unfold codec_reader_value.f
   repeat' first
   | (with_reducible exact ih0 _ _ _ _)
   | (with_reducible exact ih1 _ _ _ _ _ _ _)
   | (with_reducible exact ih2 _ _ _ _ _ _ _ _ _ _)
   | (with_reducible exact codec_Int.mono _ _)
   | (with_reducible exact codec_reader_count.mono _ _ _ _ _)
   | (with_reducible exact codec_reader_text.mono _ _ _ _)
   | (with_reducible exact LeO.refl _)
   | (with_reducible exact LeO.none _)
   | (with_reducible refine LeO.ite ?_ ?_)
   | (with_reducible refine LeO.bind ?_ (fun _ => ?_))
   | exact ih0 _ _ _ _
   | exact ih1 _ _ _ _ _ _ _
   | exact ih2 _ _ _ _ _ _ _ _ _ _
   | exact codec_Int.mono _ _
   | exact codec_reader_count.mono _ _ _ _ _
   | exact codec_reader_text.mono _ _ _ _
   | exact LeO.none _
   | refine LeO.ite ?_ ?_
   | refine LeO.bind ?_ (fun _ => ?_)
  ·intro y0 y1 y2 y3 y4 y5 y6
   unfold codec_reader_value.j0
   repeat' first
   | (with_reducible exact ih0 _ _ _ _)
   | (with_reducible exact ih1 _ _ _ _ _ _ _)
   | (with_reducible exact ih2 _ _ _ _ _ _ _ _ _ _)
   | (with_reducible exact codec_Int.mono _ _)
   | (with_reducible exact codec_reader_count.mono _ _ _ _ _)
   | (with_reducible exact codec_reader_text.mono _ _ _ _)
   | (with_reducible exact LeO.refl _)
   | (with_reducible exact LeO.none _)
   | (with_reducible refine LeO.ite ?_ ?_)
   | (with_reducible refine LeO.bind ?_ (fun _ => ?_))
   | exact ih0 _ _ _ _
   | exact ih1 _ _ _ _ _ _ _
   | exact ih2 _ _ _ _ _ _ _ _ _ _
   | exact codec_Int.mono _ _
   | exact codec_reader_count.mono _ _ _ _ _
   | exact codec_reader_text.mono _ _ _ _
   | exact LeO.none _
   | refine LeO.ite ?_ ?_
   | refine LeO.bind ?_ (fun _ => ?_)
  ·intro y0 y1 y2 y3 y4 y5 y6 y7 y8 y9
   unfold codec_reader_value.l0
   repeat' first
   | (with_reducible exact ih0 _ _ _ _)
   | (with_reducible exact ih1 _ _ _ _ _ _ _)
   | (with_reducible exact ih2 _ _ _ _ _ _ _ _ _ _)
   | (with_reducible exact codec_Int.mono _ _)
   | (with_reducible exact codec_reader_count.mono _ _ _ _ _)
   | (with_reducible exact codec_reader_text.mono _ _ _ _)
   | (with_reducible exact LeO.refl _)
   | (with_reducible exact LeO.none _)
   | (with_reducible refine LeO.ite ?_ ?_)
   | (with_reducible refine LeO.bind ?_ (fun _ => ?_))
   | exact ih0 _ _ _ _
   | exact ih1 _ _ _ _ _ _ _
   | exact ih2 _ _ _ _ _ _ _ _ _ _
   | exact codec_Int.mono _ _
   | exact codec_reader_count.mono _ _ _ _ _
   | exact codec_reader_text.mono _ _ _ _
   | exact LeO.none _
   | refine LeO.ite ?_ ?_
   | refine LeO.bind ?_ (fun _ => ?_)
theorem codec_reader_value.mono : ∀ a0 a1 a2 a3 k,LeO (codec_reader_value.f k a0 a1 a2 a3) (codec_reader_value.f (k + 1) a0 a1 a2 a3):=by
 intro a0 a1 a2 a3 k
 obtain ⟨ih0,ih1,ih2⟩:=codec_reader_value.mono_l k
 exact ih0 a0 a1 a2 a3
def codec_reader_value.T18 : Bool × List (List Nat × List Nat):=(true,[([],[]),([0],[0]),([],[]),([2],[2]),([3],[3]),([1,4,3],[1,4]),([0,1,2,3,4,5],[]),([6,5,5,0,1,2,3,4,5],[5,6])])
def codec_reader_value.B18 : List Nat:=[0,1,0,4,12,31,63,127]
theorem codec_reader_value.tab18 : rtab .any (opsOf Try.f39 18) = codec_reader_value.T18:=by kernel_rfl
theorem codec_reader_value.bits18 : waitsOk codec_reader_value.T18.2 codec_reader_value.B18 = true:=by kernel_rfl
set_option maxHeartbeats 8000000 in
set_option maxRecDepth 100000 in
theorem codec_reader_value.calls (k : Nat) : ∀ (g : Nat) (s0_0 : List Int) (s0_1 : Int) (s0_2 : Bool) (a1 : Bool) (r1 : Int) (r2 : Int) (r3 : ByteArray) (r4 : Int) (r5 : List (S24)) (r6 : List Int) (r7 : Int) (r8 : Bool) (w0 w : World) (hI : IsS76 w0 w g s0_0 s0_1 s0_2) (hB : Below w0.heap.size w0 w) (h : codec_reader_value.f k s0_0 s0_1 s0_2 a1 = some (r1,r2,r3,r4,r5,r6,r7,r8)),
  Calls Try.prog 39 #[.pointer (some ⟨g,0,none⟩), .bool a1] w fun e w' => ∃ v4_ : Value,e = .returned (.agg #[.int .i64 r1, .int .i64 r2, .string r3, .int .i64 r4,v4_]) ∧ Kd.R k24 24 w' w.heap.size (fun _ => True) v4_ r5 ∧ IsS76 w0 w' g r6 r7 r8 ∧ Below w0.heap.size w0 w' ∧ KeepBut w w' g none:=by
 induction k using Nat.strongRecOn with
 | _ k ih =>
 intro g s0_0 s0_1 s0_2 a1 r1 r2 r3 r4 r5 r6 r7 r8 w0 w hI hB h
 cases k with
 | zero => exact absurd h (by simp [codec_reader_value.f])
 | succ k =>
 simp only [codec_reader_value.f] at h
 have hu24:=Try.underlying24
 have HI0:=Aside0.mk hI
 have HK:=Aside0.mk (KeepBut.refl w g none)
 have HL:=Aside0.mk hB.size
 clear hI
 have HW0:=Aside0.mk hB.size
 have HB:=Aside0.mk hB
 clear hB
 have H : ((codec_reader_byte.f s0_0 s0_1 s0_2).bind fun bt242 => (if (wrap64 (bt242.1)) = 1 then ((codec_Int.f k bt242.2.1).bind fun bt247 => ((codec_reader_takes.f bt242.2.1 bt242.2.2.1 bt242.2.2.2 bt247.2.1 bt247.2.2).bind fun bt250 => (some (wrap64 (bt242.1),bt247.1,(⟨#[]⟩ : ByteArray),0,([] : List (S24)),bt250.1,bt250.2.1,bt250.2.2)))) else (if (wrap64 (bt242.1)) = 2 then ((codec_reader_text.f k bt242.2.1 bt242.2.2.1 bt242.2.2.2).bind fun bt253 => (some (wrap64 (bt242.1),0,bt253.1,0,([] : List (S24)),bt253.2.1,bt253.2.2.1,bt253.2.2.2))) else (if (wrap64 (bt242.1)) = 3 then ((codec_reader_byte.f bt242.2.1 bt242.2.2.1 bt242.2.2.2).bind fun bt257 => (if bt257.2.2.2 = true then (some (wrap64 (bt242.1),wrap64 (bt257.1),(⟨#[]⟩ : ByteArray),0,([] : List (S24)),bt257.2.1,bt257.2.2.1,true)) else (some (wrap64 (bt242.1),wrap64 (bt257.1),(⟨#[]⟩ : ByteArray),0,([] : List (S24)),bt257.2.1,bt257.2.2.1,decide ((wrap64 (bt257.1)) > 1))))) else (if (wrap64 (bt242.1)) = 4 then (if bt242.2.2.2 = true then (codec_reader_value.j0 k bt242.2.1 bt242.2.2.1 true (wrap64 (bt242.1)) 0 (⟨#[]⟩ : ByteArray) 0) else (codec_reader_value.j0 k bt242.2.1 bt242.2.2.1 a1 (wrap64 (bt242.1)) 0 (⟨#[]⟩ : ByteArray) 0)) else (some (wrap64 (bt242.1),0,(⟨#[]⟩ : ByteArray),0,([] : List (S24)),bt242.2.1,bt242.2.2.1,true))))))) = some (r1,r2,r3,r4,r5,r6,r7,r8):=h
 clear h
 replace H:=Option.bind_eq_some_iff.mp H
 obtain ⟨⟨t242,t243,t244,t245⟩,A30,H⟩:=H
 replace H : (if (wrap64 (t242)) = 1 then ((codec_Int.f k t243).bind fun bt247 => ((codec_reader_takes.f t243 t244 t245 bt247.2.1 bt247.2.2).bind fun bt250 => (some (wrap64 (t242),bt247.1,(⟨#[]⟩ : ByteArray),0,([] : List (S24)),bt250.1,bt250.2.1,bt250.2.2)))) else (if (wrap64 (t242)) = 2 then ((codec_reader_text.f k t243 t244 t245).bind fun bt253 => (some (wrap64 (t242),0,bt253.1,0,([] : List (S24)),bt253.2.1,bt253.2.2.1,bt253.2.2.2))) else (if (wrap64 (t242)) = 3 then ((codec_reader_byte.f t243 t244 t245).bind fun bt257 => (if bt257.2.2.2 = true then (some (wrap64 (t242),wrap64 (bt257.1),(⟨#[]⟩ : ByteArray),0,([] : List (S24)),bt257.2.1,bt257.2.2.1,true)) else (some (wrap64 (t242),wrap64 (bt257.1),(⟨#[]⟩ : ByteArray),0,([] : List (S24)),bt257.2.1,bt257.2.2.1,decide ((wrap64 (bt257.1)) > 1))))) else (if (wrap64 (t242)) = 4 then (if t245 = true then (codec_reader_value.j0 k t243 t244 true (wrap64 (t242)) 0 (⟨#[]⟩ : ByteArray) 0) else (codec_reader_value.j0 k t243 t244 a1 (wrap64 (t242)) 0 (⟨#[]⟩ : ByteArray) 0)) else (some (wrap64 (t242),0,(⟨#[]⟩ : ByteArray),0,([] : List (S24)),t243,t244,true)))))) = some (r1,r2,r3,r4,r5,r6,r7,r8):=H
 have A3:=Aside0.mk A30
 clear A30
 by_cases c4 : (wrap64 (t242)) = 1
 ·rw [if_pos c4] at H
  have c4b0 : ((wrap64 (t242)) == 1) = true:=beq_iff_eq.mpr c4
  have c4b1 : ((wrap64 (t242)) != 1) = false:=bne_eq_false_iff_eq.mpr c4
  clear c4
  replace H:=Option.bind_eq_some_iff.mp H
  obtain ⟨⟨t247,t248,t249⟩,A50,H⟩:=H
  replace H : ((codec_reader_takes.f t243 t244 t245 t248 t249).bind fun bt250 => (some (wrap64 (t242),t247,(⟨#[]⟩ : ByteArray),0,([] : List (S24)),bt250.1,bt250.2.1,bt250.2.2))) = some (r1,r2,r3,r4,r5,r6,r7,r8):=H
  have A5:=Aside0.mk A50
  clear A50
  replace H:=Option.bind_eq_some_iff.mp H
  obtain ⟨⟨t250,t251,t252⟩,A60,H⟩:=H
  replace H : (some (wrap64 (t242),t247,(⟨#[]⟩ : ByteArray),0,([] : List (S24)),t250,t251,t252)) = some (r1,r2,r3,r4,r5,r6,r7,r8):=H
  have A6:=Aside0.mk A60
  clear A60
  simp only [Option.some.injEq,Prod.mk.injEq] at H
  obtain ⟨rfl,rfl,rfl,rfl,rfl,rfl,rfl,rfl⟩:=H
  go_enter Try.func39,Try.ntmps39
  go_wp2_with (first|((with_reducible refine gate_dst (N:=4) rfl ?_);refine box_event ?hg (N:=4) ?hd (cs:=#[.int .i64 0, .int .i64 0, .string (⟨#[]⟩ : ByteArray), .int .i64 0, .slice none 0 0]) (t:=24) ?hr ?_;(case hd => rfl);(case hg => rfl);(case hr => first|(go_simp;done)|(go_simp;rfl));intro gb241 hg w7 hbox hb;have n0_:=Aside0.mk (IsS76.below (by first|((repeat (first|(with_reducible first|exact HI0.out|apply IsS76.alloc|apply IsS76.drewN|apply IsS76.drew|apply IsS76.set_1|apply IsS76.set_2)|exact HI0.out));done)|((simp only [*]);(repeat (first|(with_reducible first|exact HI0.out|apply IsS76.alloc|apply IsS76.drewN|apply IsS76.drew|apply IsS76.set_1|apply IsS76.set_2)|exact HI0.out)))) hb);have n1_:=Aside0.mk (KeepBut.trans (by repeat (first|(with_reducible first|exact HK.out|apply KeepBut.set_|apply keep_drewN|apply keep_drew|apply keep_alloc)|exact HK.out)) (KeepBut.of_below hb g none) (.inl rfl));have n2_:=Aside0.mk (below_step (by repeat (first|(with_reducible first|exact HB.out|apply below_alloc|apply pw_below_drewN|apply below_drew1|refine below_set ?_ (IsS76.ge HI0.out))|exact HB.out)) hb);have n3_:=Aside0.mk (hbox);have n4_:=Aside0.mk ((by rw [hg];exact (keep_size (w:=w) (g:=g) (row:=none) (by repeat (first|(with_reducible first|exact HK.out|apply KeepBut.set_|apply keep_drewN|apply keep_drew|apply keep_alloc)|exact HK.out))) : w.heap.size ≤ gb241));have n5_:=Aside0.mk ((Nat.le_trans HW0.out (by rw [hg];exact (keep_size (w:=w) (g:=g) (row:=none) (by repeat (first|(with_reducible first|exact HK.out|apply KeepBut.set_|apply keep_drewN|apply keep_drew|apply keep_alloc)|exact HK.out))) : w.heap.size ≤ gb241) : w0.heap.size ≤ gb241));have n6_:=Aside0.mk ((by rw [hg];exact Nat.ne_of_lt (IsS76.lt (show IsS76 w0 _ g s0_0 s0_1 s0_2 from by first|((repeat (first|(with_reducible first|exact HI0.out|apply IsS76.alloc|apply IsS76.drewN|apply IsS76.drew|apply IsS76.set_1|apply IsS76.set_2)|exact HI0.out));done)|((simp only [*]);(repeat (first|(with_reducible first|exact HI0.out|apply IsS76.alloc|apply IsS76.drewN|apply IsS76.drew|apply IsS76.set_1|apply IsS76.set_2)|exact HI0.out))))) : g ≠ gb241));have n7_:=Aside0.mk ((by rw [hg];exact Nat.ne_of_gt (IsS76.lt (show IsS76 w0 _ g s0_0 s0_1 s0_2 from by first|((repeat (first|(with_reducible first|exact HI0.out|apply IsS76.alloc|apply IsS76.drewN|apply IsS76.drew|apply IsS76.set_1|apply IsS76.set_2)|exact HI0.out));done)|((simp only [*]);(repeat (first|(with_reducible first|exact HI0.out|apply IsS76.alloc|apply IsS76.drewN|apply IsS76.drew|apply IsS76.set_1|apply IsS76.set_2)|exact HI0.out))))) : gb241 ≠ g));clear HI0;clear HK;clear HB;have HI0:=n0_;have HK:=n1_;have HB:=n2_;have BK241:=n3_;have GW241:=n4_;have GE241:=n5_;have NB0_241:=n6_;have NB241_0:=n7_;clear n0_ n1_ n2_ n3_ n4_ n5_ n6_ n7_;clear hb hbox hg)|((with_reducible refine gate_callee (f:=46) rfl ?_);refine goesL_ (some 10) rfl rfl Try.func46 (by kernel_rfl) rfl #[.pointer (some ⟨g,0,none⟩)] rfl (by (try simp only [List.map_toArray,List.map_cons,List.map_nil]);first|done|rfl|(simp only [List.length_drop,List.length_take];rfl)|(go_simp;done)|(go_simp;simp;done)) ?_;(with_reducible refine (codec_reader_byte.calls g s0_0 s0_1 s0_2 t242 t243 t244 t245 w0 _ ?side1 ?side2 A3.out).mono ?_);(case side1 => first|((repeat (first|(with_reducible first|exact HI0.out|apply IsS76.alloc|apply IsS76.drewN|apply IsS76.drew|apply IsS76.set_1|apply IsS76.set_2|refine IsS76.far ?_ NB0_241.out _|(apply IsS76.far;case hne => exact NB0_241.out))|exact HI0.out));done)|((simp only [*]);(repeat (first|(with_reducible first|exact HI0.out|apply IsS76.alloc|apply IsS76.drewN|apply IsS76.drew|apply IsS76.set_1|apply IsS76.set_2|refine IsS76.far ?_ NB0_241.out _|(apply IsS76.far;case hne => exact NB0_241.out))|exact HI0.out))));(case side2 => repeat (first|(with_reducible first|exact HB.out|apply below_alloc|apply pw_below_drewN|apply below_drew1|refine below_set ?_ (IsS76.ge HI0.out)|refine below_set ?_ GE241.out)|exact HB.out));rintro e w8 ⟨rfl,hi,hb,hk⟩;refine ⟨_,rfl,?_⟩;have n0_:=Aside0.mk (KeepBut.blk hk (g':=gb241) (o := .cells #[.int .i64 0, .int .i64 0, .string (⟨#[]⟩ : ByteArray), .int .i64 0, .slice none 0 0] 24 (0,0)) (by (with_reducible repeat (first|refine blk_drewN ?_ _|refine blk_drew ?_|refine blk_alloc ?_ _));exact BK241.out) NB241_0.out (by simp));have n1_:=Aside0.mk (KeepBut.trans (by repeat (first|(with_reducible first|exact HK.out|apply KeepBut.set_|apply keep_drewN|apply keep_drew|apply keep_alloc|refine keep_far ?_ GW241.out _)|exact HK.out)) hk (.inl rfl));have n2_:=Aside0.mk (hb);have n3_:=Aside0.mk (hi);clear BK241;clear HK;clear HB;clear HI0;have BK241:=n0_;have HK:=n1_;have HB:=n2_;have HI0:=n3_;clear n0_ n1_ n2_ n3_;(try clear hb);(try clear hb2);(try clear hk);(try clear hi))|((with_reducible refine gate_dst (N:=5) rfl ?_);refine box_event ?hg (N:=5) ?hd (cs:=#[.int .i64 0, .int .i64 0, .string (⟨#[]⟩ : ByteArray), .int .i64 0, .slice none 0 0]) (t:=24) ?hr ?_;(case hd => rfl);(case hg => rfl);(case hr => first|(go_simp;done)|(go_simp;rfl));intro gb246 hg w9 hbox hb;have n0_:=Aside0.mk (IsS76.below (by first|((repeat (first|(with_reducible first|exact HI0.out|apply IsS76.alloc|apply IsS76.drewN|apply IsS76.drew|apply IsS76.set_1|apply IsS76.set_2|refine IsS76.far ?_ NB0_241.out _|(apply IsS76.far;case hne => exact NB0_241.out))|exact HI0.out));done)|((simp only [*]);(repeat (first|(with_reducible first|exact HI0.out|apply IsS76.alloc|apply IsS76.drewN|apply IsS76.drew|apply IsS76.set_1|apply IsS76.set_2|refine IsS76.far ?_ NB0_241.out _|(apply IsS76.far;case hne => exact NB0_241.out))|exact HI0.out)))) hb);have n1_:=Aside0.mk (blk_below (g:=gb241) (o := .cells #[.int .i64 0, .int .i64 0, .string (⟨#[]⟩ : ByteArray), .int .i64 0, .slice none 0 0] 24 (0,0)) (by (with_reducible repeat (first|refine blk_drewN ?_ _|refine blk_drew ?_|refine blk_alloc ?_ _));exact BK241.out) hb);have n2_:=Aside0.mk (KeepBut.trans (by repeat (first|(with_reducible first|exact HK.out|apply KeepBut.set_|apply keep_drewN|apply keep_drew|apply keep_alloc|refine keep_far ?_ GW241.out _)|exact HK.out)) (KeepBut.of_below hb g none) (.inl rfl));have n3_:=Aside0.mk (below_step (by repeat (first|(with_reducible first|exact HB.out|apply below_alloc|apply pw_below_drewN|apply below_drew1|refine below_set ?_ (IsS76.ge HI0.out)|refine below_set ?_ GE241.out)|exact HB.out)) hb);have n4_:=Aside0.mk (hbox);have n5_:=Aside0.mk ((by rw [hg];exact (keep_size (w:=w) (g:=g) (row:=none) (by repeat (first|(with_reducible first|exact HK.out|apply KeepBut.set_|apply keep_drewN|apply keep_drew|apply keep_alloc|refine keep_far ?_ GW241.out _)|exact HK.out))) : w.heap.size ≤ gb246));have n6_:=Aside0.mk ((Nat.le_trans HW0.out (by rw [hg];exact (keep_size (w:=w) (g:=g) (row:=none) (by repeat (first|(with_reducible first|exact HK.out|apply KeepBut.set_|apply keep_drewN|apply keep_drew|apply keep_alloc|refine keep_far ?_ GW241.out _)|exact HK.out))) : w.heap.size ≤ gb246) : w0.heap.size ≤ gb246));have n7_:=Aside0.mk ((by rw [hg];exact Nat.ne_of_lt (blk_lt (g:=gb241) (o := .cells #[.int .i64 0, .int .i64 0, .string (⟨#[]⟩ : ByteArray), .int .i64 0, .slice none 0 0] 24 (0,0)) (by (with_reducible repeat (first|refine blk_drewN ?_ _|refine blk_drew ?_|refine blk_alloc ?_ _));exact BK241.out)) : gb241 ≠ gb246));have n8_:=Aside0.mk ((by rw [hg];exact Nat.ne_of_gt (blk_lt (g:=gb241) (o := .cells #[.int .i64 0, .int .i64 0, .string (⟨#[]⟩ : ByteArray), .int .i64 0, .slice none 0 0] 24 (0,0)) (by (with_reducible repeat (first|refine blk_drewN ?_ _|refine blk_drew ?_|refine blk_alloc ?_ _));exact BK241.out)) : gb246 ≠ gb241));have n9_:=Aside0.mk ((by rw [hg];exact Nat.ne_of_lt (IsS76.lt (show IsS76 w0 _ g t243 t244 t245 from by first|((repeat (first|(with_reducible first|exact HI0.out|apply IsS76.alloc|apply IsS76.drewN|apply IsS76.drew|apply IsS76.set_1|apply IsS76.set_2|refine IsS76.far ?_ NB0_241.out _|(apply IsS76.far;case hne => exact NB0_241.out))|exact HI0.out));done)|((simp only [*]);(repeat (first|(with_reducible first|exact HI0.out|apply IsS76.alloc|apply IsS76.drewN|apply IsS76.drew|apply IsS76.set_1|apply IsS76.set_2|refine IsS76.far ?_ NB0_241.out _|(apply IsS76.far;case hne => exact NB0_241.out))|exact HI0.out))))) : g ≠ gb246));have n10_:=Aside0.mk ((by rw [hg];exact Nat.ne_of_gt (IsS76.lt (show IsS76 w0 _ g t243 t244 t245 from by first|((repeat (first|(with_reducible first|exact HI0.out|apply IsS76.alloc|apply IsS76.drewN|apply IsS76.drew|apply IsS76.set_1|apply IsS76.set_2|refine IsS76.far ?_ NB0_241.out _|(apply IsS76.far;case hne => exact NB0_241.out))|exact HI0.out));done)|((simp only [*]);(repeat (first|(with_reducible first|exact HI0.out|apply IsS76.alloc|apply IsS76.drewN|apply IsS76.drew|apply IsS76.set_1|apply IsS76.set_2|refine IsS76.far ?_ NB0_241.out _|(apply IsS76.far;case hne => exact NB0_241.out))|exact HI0.out))))) : gb246 ≠ g));clear HI0;clear BK241;clear HK;clear HB;have HI0:=n0_;have BK241:=n1_;have HK:=n2_;have HB:=n3_;have BK246:=n4_;have GW246:=n5_;have GE246:=n6_;have NB241_246:=n7_;have NB246_241:=n8_;have NB0_246:=n9_;have NB246_0:=n10_;clear n0_ n1_ n2_ n3_ n4_ n5_ n6_ n7_ n8_ n9_ n10_;clear hb hbox hg;have hnb10:=NB246_241.out;have hnc10:=NB241_246.out;have hnb11:=NB246_0.out;have hnc11:=NB0_246.out;have hcz12_0 : w9.cell? ⟨gb246,0,none⟩ = some (.int .i64 0):=(blk_cell BK246.out 0).trans rfl;have hcz12_1 : w9.cell? ⟨gb246,1,none⟩ = some (.int .i64 0):=(blk_cell BK246.out 1).trans rfl;have hcz12_2 : w9.cell? ⟨gb246,2,none⟩ = some (.string (⟨#[]⟩ : ByteArray)):=(blk_cell BK246.out 2).trans rfl;have hcz12_3 : w9.cell? ⟨gb246,3,none⟩ = some (.int .i64 0):=(blk_cell BK246.out 3).trans rfl;have hcz12_4 : w9.cell? ⟨gb246,4,none⟩ = some (.slice none 0 0):=(blk_cell BK246.out 4).trans rfl;have hfz12_0:=blk_frozen BK246.out 0;have hfz12_1:=blk_frozen BK246.out 1;have hfz12_2:=blk_frozen BK246.out 2;have hfz12_3:=blk_frozen BK246.out 3;have hfz12_4:=blk_frozen BK246.out 4;obtain ⟨ASz13_0,cSz13_0,HGz13,hgz13,HSz13_0,hlSz13_0⟩:=HI0.out;have hcz13_0:=cellS76_0 HGz13;have hcz13_1:=cellS76_1 HGz13;have hcz13_2:=cellS76_2 HGz13;have hfz13_0:=blk_frozen HGz13 0;have hfz13_1:=blk_frozen HGz13 1;have hfz13_2:=blk_frozen HGz13 2;clear HGz13 hgz13)|((with_reducible refine gate_callee (f:=24) rfl ?_);refine goesL_ (some 25) rfl rfl Try.func24 (by kernel_rfl) rfl #[.slice ASz13_0 t243.length cSz13_0] rfl (by (try simp only [List.map_toArray,List.map_cons,List.map_nil]);first|done|rfl|(simp only [List.length_drop,List.length_take];rfl)|(go_simp;done)|(go_simp;simp;done)) ?_;(with_reducible refine (codec_Int.calls k _ _ t243 t247 t248 t249 _ ?side1 ?side2 A5.out).mono ?_);(case side1 => exact Kd.C_below HSz13_0 (by repeat (first|(with_reducible first|exact HB.out|apply below_alloc|apply pw_below_drewN|apply below_drew1|refine below_set ?_ (IsS76.ge HI0.out)|refine below_set ?_ GE241.out|refine below_set ?_ GE246.out)|exact HB.out)));(case side2 => exact hlSz13_0);rintro e w' ⟨rfl,⟨nd,rfl⟩⟩;refine ⟨_,rfl,?_⟩)|((with_reducible refine gate_callee (f:=47) rfl ?_);refine goesL_ (some 32) rfl rfl Try.func47 (by kernel_rfl) rfl #[.pointer (some ⟨g,0,none⟩), .int .i64 t248, .int .i64 t249] rfl (by (try simp only [List.map_toArray,List.map_cons,List.map_nil]);first|done|rfl|(simp only [List.length_drop,List.length_take];rfl)|(go_simp;done)|(go_simp;simp;done)) ?_;(with_reducible refine (codec_reader_takes.calls g t243 t244 t245 t248 t249 t250 t251 t252 w0 _ ?side1 ?side2 A6.out).mono ?_);(case side1 => first|((repeat (first|(with_reducible first|exact HI0.out|apply IsS76.alloc|apply IsS76.drewN|apply IsS76.drew|apply IsS76.set_1|apply IsS76.set_2|refine IsS76.far ?_ NB0_241.out _|(apply IsS76.far;case hne => exact NB0_241.out)|refine IsS76.far ?_ NB0_246.out _|(apply IsS76.far;case hne => exact NB0_246.out))|exact HI0.out));done)|((simp only [*]);(repeat (first|(with_reducible first|exact HI0.out|apply IsS76.alloc|apply IsS76.drewN|apply IsS76.drew|apply IsS76.set_1|apply IsS76.set_2|refine IsS76.far ?_ NB0_241.out _|(apply IsS76.far;case hne => exact NB0_241.out)|refine IsS76.far ?_ NB0_246.out _|(apply IsS76.far;case hne => exact NB0_246.out))|exact HI0.out))));(case side2 => repeat (first|(with_reducible first|exact HB.out|apply below_alloc|apply pw_below_drewN|apply below_drew1|refine below_set ?_ (IsS76.ge HI0.out)|refine below_set ?_ GE241.out|refine below_set ?_ GE246.out)|exact HB.out));rintro e w14 ⟨rfl,hi,hb,hk⟩;refine ⟨_,rfl,?_⟩;have n0_:=Aside0.mk (KeepBut.blk hk (g':=gb241) (o := .cells #[.int .i64 0, .int .i64 0, .string (⟨#[]⟩ : ByteArray), .int .i64 0, .slice none 0 0] 24 (0,0)) (by (with_reducible repeat (first|refine blk_drewN ?_ _|refine blk_drew ?_|refine blk_alloc ?_ _));refine blk_far ?_ NB241_246.out _;(with_reducible repeat (first|refine blk_drewN ?_ _|refine blk_drew ?_|refine blk_alloc ?_ _));refine blk_far ?_ NB241_246.out _;(with_reducible repeat (first|refine blk_drewN ?_ _|refine blk_drew ?_|refine blk_alloc ?_ _));refine blk_far ?_ NB241_246.out _;(with_reducible repeat (first|refine blk_drewN ?_ _|refine blk_drew ?_|refine blk_alloc ?_ _));refine blk_far ?_ NB241_246.out _;(with_reducible repeat (first|refine blk_drewN ?_ _|refine blk_drew ?_|refine blk_alloc ?_ _));refine blk_far ?_ NB241_246.out _;(with_reducible repeat (first|refine blk_drewN ?_ _|refine blk_drew ?_|refine blk_alloc ?_ _));exact BK241.out) NB241_0.out (by simp));have n1_:=Aside0.mk (KeepBut.blk hk (g':=gb246) (o := .cells #[.int .i64 (wrap64 (t242)), .int .i64 0, .string (⟨#[]⟩ : ByteArray), .int .i64 0, .slice none 0 0] 24 (0,0)) (by (with_reducible repeat (first|refine blk_drewN ?_ _|refine blk_drew ?_|refine blk_alloc ?_ _));refine blk_put (cs:=#[.int .i64 (wrap64 (t242)), .int .i64 0, .string (⟨#[]⟩ : ByteArray), .int .i64 0, .slice none 0 0]) ?_ 4 _ rfl;(with_reducible repeat (first|refine blk_drewN ?_ _|refine blk_drew ?_|refine blk_alloc ?_ _));refine blk_put (cs:=#[.int .i64 (wrap64 (t242)), .int .i64 0, .string (⟨#[]⟩ : ByteArray), .int .i64 0, .slice none 0 0]) ?_ 3 _ rfl;(with_reducible repeat (first|refine blk_drewN ?_ _|refine blk_drew ?_|refine blk_alloc ?_ _));refine blk_put (cs:=#[.int .i64 (wrap64 (t242)), .int .i64 0, .string (⟨#[]⟩ : ByteArray), .int .i64 0, .slice none 0 0]) ?_ 2 _ rfl;(with_reducible repeat (first|refine blk_drewN ?_ _|refine blk_drew ?_|refine blk_alloc ?_ _));refine blk_put (cs:=#[.int .i64 (wrap64 (t242)), .int .i64 0, .string (⟨#[]⟩ : ByteArray), .int .i64 0, .slice none 0 0]) ?_ 1 _ rfl;(with_reducible repeat (first|refine blk_drewN ?_ _|refine blk_drew ?_|refine blk_alloc ?_ _));refine blk_put (cs:=#[.int .i64 0, .int .i64 0, .string (⟨#[]⟩ : ByteArray), .int .i64 0, .slice none 0 0]) ?_ 0 _ rfl;(with_reducible repeat (first|refine blk_drewN ?_ _|refine blk_drew ?_|refine blk_alloc ?_ _));exact BK246.out) NB246_0.out (by simp));have n2_:=Aside0.mk (KeepBut.trans (by repeat (first|(with_reducible first|exact HK.out|apply KeepBut.set_|apply keep_drewN|apply keep_drew|apply keep_alloc|refine keep_far ?_ GW241.out _|refine keep_far ?_ GW246.out _)|exact HK.out)) hk (.inl rfl));have n3_:=Aside0.mk (hb);have n4_:=Aside0.mk (hi);clear BK241;clear BK246;clear HK;clear HB;clear HI0;have BK241:=n0_;have BK246:=n1_;have HK:=n2_;have HB:=n3_;have HI0:=n4_;clear n0_ n1_ n2_ n3_ n4_;(try clear hb);(try clear hb2);(try clear hk);(try clear hi);have hcz15_0 : w14.cell? ⟨gb246,0,none⟩ = some (.int .i64 (wrap64 (t242))):=(blk_cell BK246.out 0).trans rfl;have hcz15_1 : w14.cell? ⟨gb246,1,none⟩ = some (.int .i64 0):=(blk_cell BK246.out 1).trans rfl;have hcz15_2 : w14.cell? ⟨gb246,2,none⟩ = some (.string (⟨#[]⟩ : ByteArray)):=(blk_cell BK246.out 2).trans rfl;have hcz15_3 : w14.cell? ⟨gb246,3,none⟩ = some (.int .i64 0):=(blk_cell BK246.out 3).trans rfl;have hcz15_4 : w14.cell? ⟨gb246,4,none⟩ = some (.slice none 0 0):=(blk_cell BK246.out 4).trans rfl;have hfz15_0:=blk_frozen BK246.out 0;have hfz15_1:=blk_frozen BK246.out 1;have hfz15_2:=blk_frozen BK246.out 2;have hfz15_3:=blk_frozen BK246.out 3;have hfz15_4:=blk_frozen BK246.out 4;have hnb16:=NB241_0.out;have hnc16:=NB0_241.out;have hcz17_0 : w14.cell? ⟨gb241,0,none⟩ = some (.int .i64 0):=(blk_cell BK241.out 0).trans rfl;have hcz17_1 : w14.cell? ⟨gb241,1,none⟩ = some (.int .i64 0):=(blk_cell BK241.out 1).trans rfl;have hcz17_2 : w14.cell? ⟨gb241,2,none⟩ = some (.string (⟨#[]⟩ : ByteArray)):=(blk_cell BK241.out 2).trans rfl;have hcz17_3 : w14.cell? ⟨gb241,3,none⟩ = some (.int .i64 0):=(blk_cell BK241.out 3).trans rfl;have hcz17_4 : w14.cell? ⟨gb241,4,none⟩ = some (.slice none 0 0):=(blk_cell BK241.out 4).trans rfl;have hfz17_0:=blk_frozen BK241.out 0;have hfz17_1:=blk_frozen BK241.out 1;have hfz17_2:=blk_frozen BK241.out 2;have hfz17_3:=blk_frozen BK241.out 3;have hfz17_4:=blk_frozen BK241.out 4))
  refine bodyPost_ret (results_cell_row rfl _ _ gb241 24 #[.int .i64 (wrap64 (t242)), .int .i64 t247, .string (⟨#[]⟩ : ByteArray), .int .i64 0, .slice none 0 0] (0,0) _ rfl (by (with_reducible repeat (first|refine blk_drewN ?_ _|refine blk_drew ?_|refine blk_alloc ?_ _));refine blk_put (cs:=#[.int .i64 (wrap64 (t242)), .int .i64 t247, .string (⟨#[]⟩ : ByteArray), .int .i64 0, .slice none 0 0]) ?_ 4 _ rfl;(with_reducible repeat (first|refine blk_drewN ?_ _|refine blk_drew ?_|refine blk_alloc ?_ _));refine blk_put (cs:=#[.int .i64 (wrap64 (t242)), .int .i64 t247, .string (⟨#[]⟩ : ByteArray), .int .i64 0, .slice none 0 0]) ?_ 3 _ rfl;(with_reducible repeat (first|refine blk_drewN ?_ _|refine blk_drew ?_|refine blk_alloc ?_ _));refine blk_put (cs:=#[.int .i64 (wrap64 (t242)), .int .i64 t247, .string (⟨#[]⟩ : ByteArray), .int .i64 0, .slice none 0 0]) ?_ 2 _ rfl;(with_reducible repeat (first|refine blk_drewN ?_ _|refine blk_drew ?_|refine blk_alloc ?_ _));refine blk_put (cs:=#[.int .i64 (wrap64 (t242)), .int .i64 0, .string (⟨#[]⟩ : ByteArray), .int .i64 0, .slice none 0 0]) ?_ 1 _ rfl;(with_reducible repeat (first|refine blk_drewN ?_ _|refine blk_drew ?_|refine blk_alloc ?_ _));refine blk_put (cs:=#[.int .i64 0, .int .i64 0, .string (⟨#[]⟩ : ByteArray), .int .i64 0, .slice none 0 0]) ?_ 0 _ rfl;(with_reducible repeat (first|refine blk_drewN ?_ _|refine blk_drew ?_|refine blk_alloc ?_ _));refine blk_far ?_ NB241_246.out _;(with_reducible repeat (first|refine blk_drewN ?_ _|refine blk_drew ?_|refine blk_alloc ?_ _));exact BK241.out) Try.underlying24 rfl (by kernel_rfl)) rfl ?_
  exact ⟨_,by first|rfl|(simp [errW_none,errW_some] <;> rfl)|(simp [*,errW_none,errW_some] <;> rfl),by first|exact Kd.R_nil _ _ _ _ _|exact Kd.N_nil _ _ _ _ _|exact Kd.V_nil _ _ _ _ _|exact Kd.Q_nil _ _ _ _ _|exact Kd.S_nil _ _ _ _ _,by first|((repeat (first|(with_reducible first|exact HI0.out|apply IsS76.alloc|apply IsS76.drewN|apply IsS76.drew|apply IsS76.set_1|apply IsS76.set_2|refine IsS76.far ?_ NB0_241.out _|(apply IsS76.far;case hne => exact NB0_241.out)|refine IsS76.far ?_ NB0_246.out _|(apply IsS76.far;case hne => exact NB0_246.out))|exact HI0.out));done)|((simp only [*]);(repeat (first|(with_reducible first|exact HI0.out|apply IsS76.alloc|apply IsS76.drewN|apply IsS76.drew|apply IsS76.set_1|apply IsS76.set_2|refine IsS76.far ?_ NB0_241.out _|(apply IsS76.far;case hne => exact NB0_241.out)|refine IsS76.far ?_ NB0_246.out _|(apply IsS76.far;case hne => exact NB0_246.out))|exact HI0.out))),by repeat (first|(with_reducible first|exact HB.out|apply below_alloc|apply pw_below_drewN|apply below_drew1|refine below_set ?_ (IsS76.ge HI0.out)|refine below_set ?_ GE241.out|refine below_set ?_ GE246.out)|exact HB.out),by repeat (first|(with_reducible first|exact HK.out|apply KeepBut.set_|apply keep_drewN|apply keep_drew|apply keep_alloc|refine keep_far ?_ GW241.out _|refine keep_far ?_ GW246.out _)|exact HK.out)⟩
 ·rw [if_neg c4] at H
  have c4b0 : ((wrap64 (t242)) == 1) = false:=beq_eq_false_iff_ne.mpr c4
  have c4b1 : ((wrap64 (t242)) != 1) = true:=bne_iff_ne.mpr c4
  by_cases c18 : (wrap64 (t242)) = 2
  ·rw [if_pos c18] at H
   have c18b0 : ((wrap64 (t242)) == 2) = true:=beq_iff_eq.mpr c18
   have c18b1 : ((wrap64 (t242)) != 2) = false:=bne_eq_false_iff_eq.mpr c18
   clear c18
   replace H:=Option.bind_eq_some_iff.mp H
   obtain ⟨⟨t253,t254,t255,t256⟩,A190,H⟩:=H
   replace H : (some (wrap64 (t242),0,t253,0,([] : List (S24)),t254,t255,t256)) = some (r1,r2,r3,r4,r5,r6,r7,r8):=H
   have A19:=Aside0.mk A190
   clear A190
   simp only [Option.some.injEq,Prod.mk.injEq] at H
   obtain ⟨rfl,rfl,rfl,rfl,rfl,rfl,rfl,rfl⟩:=H
   go_enter Try.func39,Try.ntmps39
   go_wp2_with (first|((with_reducible refine gate_dst (N:=4) rfl ?_);refine box_event ?hg (N:=4) ?hd (cs:=#[.int .i64 0, .int .i64 0, .string (⟨#[]⟩ : ByteArray), .int .i64 0, .slice none 0 0]) (t:=24) ?hr ?_;(case hd => rfl);(case hg => rfl);(case hr => first|(go_simp;done)|(go_simp;rfl));intro gb241 hg w20 hbox hb;have n0_:=Aside0.mk (IsS76.below (by first|((repeat (first|(with_reducible first|exact HI0.out|apply IsS76.alloc|apply IsS76.drewN|apply IsS76.drew|apply IsS76.set_1|apply IsS76.set_2)|exact HI0.out));done)|((simp only [*]);(repeat (first|(with_reducible first|exact HI0.out|apply IsS76.alloc|apply IsS76.drewN|apply IsS76.drew|apply IsS76.set_1|apply IsS76.set_2)|exact HI0.out)))) hb);have n1_:=Aside0.mk (KeepBut.trans (by repeat (first|(with_reducible first|exact HK.out|apply KeepBut.set_|apply keep_drewN|apply keep_drew|apply keep_alloc)|exact HK.out)) (KeepBut.of_below hb g none) (.inl rfl));have n2_:=Aside0.mk (below_step (by repeat (first|(with_reducible first|exact HB.out|apply below_alloc|apply pw_below_drewN|apply below_drew1|refine below_set ?_ (IsS76.ge HI0.out))|exact HB.out)) hb);have n3_:=Aside0.mk (hbox);have n4_:=Aside0.mk ((by rw [hg];exact (keep_size (w:=w) (g:=g) (row:=none) (by repeat (first|(with_reducible first|exact HK.out|apply KeepBut.set_|apply keep_drewN|apply keep_drew|apply keep_alloc)|exact HK.out))) : w.heap.size ≤ gb241));have n5_:=Aside0.mk ((Nat.le_trans HW0.out (by rw [hg];exact (keep_size (w:=w) (g:=g) (row:=none) (by repeat (first|(with_reducible first|exact HK.out|apply KeepBut.set_|apply keep_drewN|apply keep_drew|apply keep_alloc)|exact HK.out))) : w.heap.size ≤ gb241) : w0.heap.size ≤ gb241));have n6_:=Aside0.mk ((by rw [hg];exact Nat.ne_of_lt (IsS76.lt (show IsS76 w0 _ g s0_0 s0_1 s0_2 from by first|((repeat (first|(with_reducible first|exact HI0.out|apply IsS76.alloc|apply IsS76.drewN|apply IsS76.drew|apply IsS76.set_1|apply IsS76.set_2)|exact HI0.out));done)|((simp only [*]);(repeat (first|(with_reducible first|exact HI0.out|apply IsS76.alloc|apply IsS76.drewN|apply IsS76.drew|apply IsS76.set_1|apply IsS76.set_2)|exact HI0.out))))) : g ≠ gb241));have n7_:=Aside0.mk ((by rw [hg];exact Nat.ne_of_gt (IsS76.lt (show IsS76 w0 _ g s0_0 s0_1 s0_2 from by first|((repeat (first|(with_reducible first|exact HI0.out|apply IsS76.alloc|apply IsS76.drewN|apply IsS76.drew|apply IsS76.set_1|apply IsS76.set_2)|exact HI0.out));done)|((simp only [*]);(repeat (first|(with_reducible first|exact HI0.out|apply IsS76.alloc|apply IsS76.drewN|apply IsS76.drew|apply IsS76.set_1|apply IsS76.set_2)|exact HI0.out))))) : gb241 ≠ g));clear HI0;clear HK;clear HB;have HI0:=n0_;have HK:=n1_;have HB:=n2_;have BK241:=n3_;have GW241:=n4_;have GE241:=n5_;have NB0_241:=n6_;have NB241_0:=n7_;clear n0_ n1_ n2_ n3_ n4_ n5_ n6_ n7_;clear hb hbox hg)|((with_reducible refine gate_callee (f:=46) rfl ?_);refine goesL_ (some 10) rfl rfl Try.func46 (by kernel_rfl) rfl #[.pointer (some ⟨g,0,none⟩)] rfl (by (try simp only [List.map_toArray,List.map_cons,List.map_nil]);first|done|rfl|(simp only [List.length_drop,List.length_take];rfl)|(go_simp;done)|(go_simp;simp;done)) ?_;(with_reducible refine (codec_reader_byte.calls g s0_0 s0_1 s0_2 t242 t243 t244 t245 w0 _ ?side1 ?side2 A3.out).mono ?_);(case side1 => first|((repeat (first|(with_reducible first|exact HI0.out|apply IsS76.alloc|apply IsS76.drewN|apply IsS76.drew|apply IsS76.set_1|apply IsS76.set_2|refine IsS76.far ?_ NB0_241.out _|(apply IsS76.far;case hne => exact NB0_241.out))|exact HI0.out));done)|((simp only [*]);(repeat (first|(with_reducible first|exact HI0.out|apply IsS76.alloc|apply IsS76.drewN|apply IsS76.drew|apply IsS76.set_1|apply IsS76.set_2|refine IsS76.far ?_ NB0_241.out _|(apply IsS76.far;case hne => exact NB0_241.out))|exact HI0.out))));(case side2 => repeat (first|(with_reducible first|exact HB.out|apply below_alloc|apply pw_below_drewN|apply below_drew1|refine below_set ?_ (IsS76.ge HI0.out)|refine below_set ?_ GE241.out)|exact HB.out));rintro e w21 ⟨rfl,hi,hb,hk⟩;refine ⟨_,rfl,?_⟩;have n0_:=Aside0.mk (KeepBut.blk hk (g':=gb241) (o := .cells #[.int .i64 0, .int .i64 0, .string (⟨#[]⟩ : ByteArray), .int .i64 0, .slice none 0 0] 24 (0,0)) (by (with_reducible repeat (first|refine blk_drewN ?_ _|refine blk_drew ?_|refine blk_alloc ?_ _));exact BK241.out) NB241_0.out (by simp));have n1_:=Aside0.mk (KeepBut.trans (by repeat (first|(with_reducible first|exact HK.out|apply KeepBut.set_|apply keep_drewN|apply keep_drew|apply keep_alloc|refine keep_far ?_ GW241.out _)|exact HK.out)) hk (.inl rfl));have n2_:=Aside0.mk (hb);have n3_:=Aside0.mk (hi);clear BK241;clear HK;clear HB;clear HI0;have BK241:=n0_;have HK:=n1_;have HB:=n2_;have HI0:=n3_;clear n0_ n1_ n2_ n3_;(try clear hb);(try clear hb2);(try clear hk);(try clear hi))|((with_reducible refine gate_dst (N:=5) rfl ?_);refine box_event ?hg (N:=5) ?hd (cs:=#[.int .i64 0, .int .i64 0, .string (⟨#[]⟩ : ByteArray), .int .i64 0, .slice none 0 0]) (t:=24) ?hr ?_;(case hd => rfl);(case hg => rfl);(case hr => first|(go_simp;done)|(go_simp;rfl));intro gb246 hg w22 hbox hb;have n0_:=Aside0.mk (IsS76.below (by first|((repeat (first|(with_reducible first|exact HI0.out|apply IsS76.alloc|apply IsS76.drewN|apply IsS76.drew|apply IsS76.set_1|apply IsS76.set_2|refine IsS76.far ?_ NB0_241.out _|(apply IsS76.far;case hne => exact NB0_241.out))|exact HI0.out));done)|((simp only [*]);(repeat (first|(with_reducible first|exact HI0.out|apply IsS76.alloc|apply IsS76.drewN|apply IsS76.drew|apply IsS76.set_1|apply IsS76.set_2|refine IsS76.far ?_ NB0_241.out _|(apply IsS76.far;case hne => exact NB0_241.out))|exact HI0.out)))) hb);have n1_:=Aside0.mk (blk_below (g:=gb241) (o := .cells #[.int .i64 0, .int .i64 0, .string (⟨#[]⟩ : ByteArray), .int .i64 0, .slice none 0 0] 24 (0,0)) (by (with_reducible repeat (first|refine blk_drewN ?_ _|refine blk_drew ?_|refine blk_alloc ?_ _));exact BK241.out) hb);have n2_:=Aside0.mk (KeepBut.trans (by repeat (first|(with_reducible first|exact HK.out|apply KeepBut.set_|apply keep_drewN|apply keep_drew|apply keep_alloc|refine keep_far ?_ GW241.out _)|exact HK.out)) (KeepBut.of_below hb g none) (.inl rfl));have n3_:=Aside0.mk (below_step (by repeat (first|(with_reducible first|exact HB.out|apply below_alloc|apply pw_below_drewN|apply below_drew1|refine below_set ?_ (IsS76.ge HI0.out)|refine below_set ?_ GE241.out)|exact HB.out)) hb);have n4_:=Aside0.mk (hbox);have n5_:=Aside0.mk ((by rw [hg];exact (keep_size (w:=w) (g:=g) (row:=none) (by repeat (first|(with_reducible first|exact HK.out|apply KeepBut.set_|apply keep_drewN|apply keep_drew|apply keep_alloc|refine keep_far ?_ GW241.out _)|exact HK.out))) : w.heap.size ≤ gb246));have n6_:=Aside0.mk ((Nat.le_trans HW0.out (by rw [hg];exact (keep_size (w:=w) (g:=g) (row:=none) (by repeat (first|(with_reducible first|exact HK.out|apply KeepBut.set_|apply keep_drewN|apply keep_drew|apply keep_alloc|refine keep_far ?_ GW241.out _)|exact HK.out))) : w.heap.size ≤ gb246) : w0.heap.size ≤ gb246));have n7_:=Aside0.mk ((by rw [hg];exact Nat.ne_of_lt (blk_lt (g:=gb241) (o := .cells #[.int .i64 0, .int .i64 0, .string (⟨#[]⟩ : ByteArray), .int .i64 0, .slice none 0 0] 24 (0,0)) (by (with_reducible repeat (first|refine blk_drewN ?_ _|refine blk_drew ?_|refine blk_alloc ?_ _));exact BK241.out)) : gb241 ≠ gb246));have n8_:=Aside0.mk ((by rw [hg];exact Nat.ne_of_gt (blk_lt (g:=gb241) (o := .cells #[.int .i64 0, .int .i64 0, .string (⟨#[]⟩ : ByteArray), .int .i64 0, .slice none 0 0] 24 (0,0)) (by (with_reducible repeat (first|refine blk_drewN ?_ _|refine blk_drew ?_|refine blk_alloc ?_ _));exact BK241.out)) : gb246 ≠ gb241));have n9_:=Aside0.mk ((by rw [hg];exact Nat.ne_of_lt (IsS76.lt (show IsS76 w0 _ g t243 t244 t245 from by first|((repeat (first|(with_reducible first|exact HI0.out|apply IsS76.alloc|apply IsS76.drewN|apply IsS76.drew|apply IsS76.set_1|apply IsS76.set_2|refine IsS76.far ?_ NB0_241.out _|(apply IsS76.far;case hne => exact NB0_241.out))|exact HI0.out));done)|((simp only [*]);(repeat (first|(with_reducible first|exact HI0.out|apply IsS76.alloc|apply IsS76.drewN|apply IsS76.drew|apply IsS76.set_1|apply IsS76.set_2|refine IsS76.far ?_ NB0_241.out _|(apply IsS76.far;case hne => exact NB0_241.out))|exact HI0.out))))) : g ≠ gb246));have n10_:=Aside0.mk ((by rw [hg];exact Nat.ne_of_gt (IsS76.lt (show IsS76 w0 _ g t243 t244 t245 from by first|((repeat (first|(with_reducible first|exact HI0.out|apply IsS76.alloc|apply IsS76.drewN|apply IsS76.drew|apply IsS76.set_1|apply IsS76.set_2|refine IsS76.far ?_ NB0_241.out _|(apply IsS76.far;case hne => exact NB0_241.out))|exact HI0.out));done)|((simp only [*]);(repeat (first|(with_reducible first|exact HI0.out|apply IsS76.alloc|apply IsS76.drewN|apply IsS76.drew|apply IsS76.set_1|apply IsS76.set_2|refine IsS76.far ?_ NB0_241.out _|(apply IsS76.far;case hne => exact NB0_241.out))|exact HI0.out))))) : gb246 ≠ g));clear HI0;clear BK241;clear HK;clear HB;have HI0:=n0_;have BK241:=n1_;have HK:=n2_;have HB:=n3_;have BK246:=n4_;have GW246:=n5_;have GE246:=n6_;have NB241_246:=n7_;have NB246_241:=n8_;have NB0_246:=n9_;have NB246_0:=n10_;clear n0_ n1_ n2_ n3_ n4_ n5_ n6_ n7_ n8_ n9_ n10_;clear hb hbox hg;have hnb23:=NB246_241.out;have hnc23:=NB241_246.out;have hnb24:=NB246_0.out;have hnc24:=NB0_246.out;have hcz25_0 : w22.cell? ⟨gb246,0,none⟩ = some (.int .i64 0):=(blk_cell BK246.out 0).trans rfl;have hcz25_1 : w22.cell? ⟨gb246,1,none⟩ = some (.int .i64 0):=(blk_cell BK246.out 1).trans rfl;have hcz25_2 : w22.cell? ⟨gb246,2,none⟩ = some (.string (⟨#[]⟩ : ByteArray)):=(blk_cell BK246.out 2).trans rfl;have hcz25_3 : w22.cell? ⟨gb246,3,none⟩ = some (.int .i64 0):=(blk_cell BK246.out 3).trans rfl;have hcz25_4 : w22.cell? ⟨gb246,4,none⟩ = some (.slice none 0 0):=(blk_cell BK246.out 4).trans rfl;have hfz25_0:=blk_frozen BK246.out 0;have hfz25_1:=blk_frozen BK246.out 1;have hfz25_2:=blk_frozen BK246.out 2;have hfz25_3:=blk_frozen BK246.out 3;have hfz25_4:=blk_frozen BK246.out 4)|((with_reducible refine gate_callee (f:=43) rfl ?_);refine goesL_ (some 38) rfl rfl Try.func43 (by kernel_rfl) rfl #[.pointer (some ⟨g,0,none⟩)] rfl (by (try simp only [List.map_toArray,List.map_cons,List.map_nil]);first|done|rfl|(simp only [List.length_drop,List.length_take];rfl)|(go_simp;done)|(go_simp;simp;done)) ?_;(with_reducible refine (codec_reader_text.calls k g t243 t244 t245 t253 t254 t255 t256 w0 _ ?side1 ?side2 A19.out).mono ?_);(case side1 => first|((repeat (first|(with_reducible first|exact HI0.out|apply IsS76.alloc|apply IsS76.drewN|apply IsS76.drew|apply IsS76.set_1|apply IsS76.set_2|refine IsS76.far ?_ NB0_241.out _|(apply IsS76.far;case hne => exact NB0_241.out)|refine IsS76.far ?_ NB0_246.out _|(apply IsS76.far;case hne => exact NB0_246.out))|exact HI0.out));done)|((simp only [*]);(repeat (first|(with_reducible first|exact HI0.out|apply IsS76.alloc|apply IsS76.drewN|apply IsS76.drew|apply IsS76.set_1|apply IsS76.set_2|refine IsS76.far ?_ NB0_241.out _|(apply IsS76.far;case hne => exact NB0_241.out)|refine IsS76.far ?_ NB0_246.out _|(apply IsS76.far;case hne => exact NB0_246.out))|exact HI0.out))));(case side2 => repeat (first|(with_reducible first|exact HB.out|apply below_alloc|apply pw_below_drewN|apply below_drew1|refine below_set ?_ (IsS76.ge HI0.out)|refine below_set ?_ GE241.out|refine below_set ?_ GE246.out)|exact HB.out));rintro e w26 ⟨rfl,hi,hb,hk⟩;refine ⟨_,rfl,?_⟩;have n0_:=Aside0.mk (KeepBut.blk hk (g':=gb241) (o := .cells #[.int .i64 0, .int .i64 0, .string (⟨#[]⟩ : ByteArray), .int .i64 0, .slice none 0 0] 24 (0,0)) (by (with_reducible repeat (first|refine blk_drewN ?_ _|refine blk_drew ?_|refine blk_alloc ?_ _));refine blk_far ?_ NB241_246.out _;(with_reducible repeat (first|refine blk_drewN ?_ _|refine blk_drew ?_|refine blk_alloc ?_ _));refine blk_far ?_ NB241_246.out _;(with_reducible repeat (first|refine blk_drewN ?_ _|refine blk_drew ?_|refine blk_alloc ?_ _));refine blk_far ?_ NB241_246.out _;(with_reducible repeat (first|refine blk_drewN ?_ _|refine blk_drew ?_|refine blk_alloc ?_ _));refine blk_far ?_ NB241_246.out _;(with_reducible repeat (first|refine blk_drewN ?_ _|refine blk_drew ?_|refine blk_alloc ?_ _));refine blk_far ?_ NB241_246.out _;(with_reducible repeat (first|refine blk_drewN ?_ _|refine blk_drew ?_|refine blk_alloc ?_ _));exact BK241.out) NB241_0.out (by simp));have n1_:=Aside0.mk (KeepBut.blk hk (g':=gb246) (o := .cells #[.int .i64 (wrap64 (t242)), .int .i64 0, .string (⟨#[]⟩ : ByteArray), .int .i64 0, .slice none 0 0] 24 (0,0)) (by (with_reducible repeat (first|refine blk_drewN ?_ _|refine blk_drew ?_|refine blk_alloc ?_ _));refine blk_put (cs:=#[.int .i64 (wrap64 (t242)), .int .i64 0, .string (⟨#[]⟩ : ByteArray), .int .i64 0, .slice none 0 0]) ?_ 4 _ rfl;(with_reducible repeat (first|refine blk_drewN ?_ _|refine blk_drew ?_|refine blk_alloc ?_ _));refine blk_put (cs:=#[.int .i64 (wrap64 (t242)), .int .i64 0, .string (⟨#[]⟩ : ByteArray), .int .i64 0, .slice none 0 0]) ?_ 3 _ rfl;(with_reducible repeat (first|refine blk_drewN ?_ _|refine blk_drew ?_|refine blk_alloc ?_ _));refine blk_put (cs:=#[.int .i64 (wrap64 (t242)), .int .i64 0, .string (⟨#[]⟩ : ByteArray), .int .i64 0, .slice none 0 0]) ?_ 2 _ rfl;(with_reducible repeat (first|refine blk_drewN ?_ _|refine blk_drew ?_|refine blk_alloc ?_ _));refine blk_put (cs:=#[.int .i64 (wrap64 (t242)), .int .i64 0, .string (⟨#[]⟩ : ByteArray), .int .i64 0, .slice none 0 0]) ?_ 1 _ rfl;(with_reducible repeat (first|refine blk_drewN ?_ _|refine blk_drew ?_|refine blk_alloc ?_ _));refine blk_put (cs:=#[.int .i64 0, .int .i64 0, .string (⟨#[]⟩ : ByteArray), .int .i64 0, .slice none 0 0]) ?_ 0 _ rfl;(with_reducible repeat (first|refine blk_drewN ?_ _|refine blk_drew ?_|refine blk_alloc ?_ _));exact BK246.out) NB246_0.out (by simp));have n2_:=Aside0.mk (KeepBut.trans (by repeat (first|(with_reducible first|exact HK.out|apply KeepBut.set_|apply keep_drewN|apply keep_drew|apply keep_alloc|refine keep_far ?_ GW241.out _|refine keep_far ?_ GW246.out _)|exact HK.out)) hk (.inl rfl));have n3_:=Aside0.mk (hb);have n4_:=Aside0.mk (hi);clear BK241;clear BK246;clear HK;clear HB;clear HI0;have BK241:=n0_;have BK246:=n1_;have HK:=n2_;have HB:=n3_;have HI0:=n4_;clear n0_ n1_ n2_ n3_ n4_;(try clear hb);(try clear hb2);(try clear hk);(try clear hi);have hcz27_0 : w26.cell? ⟨gb246,0,none⟩ = some (.int .i64 (wrap64 (t242))):=(blk_cell BK246.out 0).trans rfl;have hcz27_1 : w26.cell? ⟨gb246,1,none⟩ = some (.int .i64 0):=(blk_cell BK246.out 1).trans rfl;have hcz27_2 : w26.cell? ⟨gb246,2,none⟩ = some (.string (⟨#[]⟩ : ByteArray)):=(blk_cell BK246.out 2).trans rfl;have hcz27_3 : w26.cell? ⟨gb246,3,none⟩ = some (.int .i64 0):=(blk_cell BK246.out 3).trans rfl;have hcz27_4 : w26.cell? ⟨gb246,4,none⟩ = some (.slice none 0 0):=(blk_cell BK246.out 4).trans rfl;have hfz27_0:=blk_frozen BK246.out 0;have hfz27_1:=blk_frozen BK246.out 1;have hfz27_2:=blk_frozen BK246.out 2;have hfz27_3:=blk_frozen BK246.out 3;have hfz27_4:=blk_frozen BK246.out 4;have hnb28:=NB241_0.out;have hnc28:=NB0_241.out;have hcz29_0 : w26.cell? ⟨gb241,0,none⟩ = some (.int .i64 0):=(blk_cell BK241.out 0).trans rfl;have hcz29_1 : w26.cell? ⟨gb241,1,none⟩ = some (.int .i64 0):=(blk_cell BK241.out 1).trans rfl;have hcz29_2 : w26.cell? ⟨gb241,2,none⟩ = some (.string (⟨#[]⟩ : ByteArray)):=(blk_cell BK241.out 2).trans rfl;have hcz29_3 : w26.cell? ⟨gb241,3,none⟩ = some (.int .i64 0):=(blk_cell BK241.out 3).trans rfl;have hcz29_4 : w26.cell? ⟨gb241,4,none⟩ = some (.slice none 0 0):=(blk_cell BK241.out 4).trans rfl;have hfz29_0:=blk_frozen BK241.out 0;have hfz29_1:=blk_frozen BK241.out 1;have hfz29_2:=blk_frozen BK241.out 2;have hfz29_3:=blk_frozen BK241.out 3;have hfz29_4:=blk_frozen BK241.out 4))
   refine bodyPost_ret (results_cell_row rfl _ _ gb241 24 #[.int .i64 (wrap64 (t242)), .int .i64 0, .string t253, .int .i64 0, .slice none 0 0] (0,0) _ rfl (by (with_reducible repeat (first|refine blk_drewN ?_ _|refine blk_drew ?_|refine blk_alloc ?_ _));refine blk_put (cs:=#[.int .i64 (wrap64 (t242)), .int .i64 0, .string t253, .int .i64 0, .slice none 0 0]) ?_ 4 _ rfl;(with_reducible repeat (first|refine blk_drewN ?_ _|refine blk_drew ?_|refine blk_alloc ?_ _));refine blk_put (cs:=#[.int .i64 (wrap64 (t242)), .int .i64 0, .string t253, .int .i64 0, .slice none 0 0]) ?_ 3 _ rfl;(with_reducible repeat (first|refine blk_drewN ?_ _|refine blk_drew ?_|refine blk_alloc ?_ _));refine blk_put (cs:=#[.int .i64 (wrap64 (t242)), .int .i64 0, .string (⟨#[]⟩ : ByteArray), .int .i64 0, .slice none 0 0]) ?_ 2 _ rfl;(with_reducible repeat (first|refine blk_drewN ?_ _|refine blk_drew ?_|refine blk_alloc ?_ _));refine blk_put (cs:=#[.int .i64 (wrap64 (t242)), .int .i64 0, .string (⟨#[]⟩ : ByteArray), .int .i64 0, .slice none 0 0]) ?_ 1 _ rfl;(with_reducible repeat (first|refine blk_drewN ?_ _|refine blk_drew ?_|refine blk_alloc ?_ _));refine blk_put (cs:=#[.int .i64 0, .int .i64 0, .string (⟨#[]⟩ : ByteArray), .int .i64 0, .slice none 0 0]) ?_ 0 _ rfl;(with_reducible repeat (first|refine blk_drewN ?_ _|refine blk_drew ?_|refine blk_alloc ?_ _));refine blk_far ?_ NB241_246.out _;(with_reducible repeat (first|refine blk_drewN ?_ _|refine blk_drew ?_|refine blk_alloc ?_ _));exact BK241.out) Try.underlying24 rfl (by kernel_rfl)) rfl ?_
   exact ⟨_,by first|rfl|(simp [errW_none,errW_some] <;> rfl)|(simp [*,errW_none,errW_some] <;> rfl),by first|exact Kd.R_nil _ _ _ _ _|exact Kd.N_nil _ _ _ _ _|exact Kd.V_nil _ _ _ _ _|exact Kd.Q_nil _ _ _ _ _|exact Kd.S_nil _ _ _ _ _,by first|((repeat (first|(with_reducible first|exact HI0.out|apply IsS76.alloc|apply IsS76.drewN|apply IsS76.drew|apply IsS76.set_1|apply IsS76.set_2|refine IsS76.far ?_ NB0_241.out _|(apply IsS76.far;case hne => exact NB0_241.out)|refine IsS76.far ?_ NB0_246.out _|(apply IsS76.far;case hne => exact NB0_246.out))|exact HI0.out));done)|((simp only [*]);(repeat (first|(with_reducible first|exact HI0.out|apply IsS76.alloc|apply IsS76.drewN|apply IsS76.drew|apply IsS76.set_1|apply IsS76.set_2|refine IsS76.far ?_ NB0_241.out _|(apply IsS76.far;case hne => exact NB0_241.out)|refine IsS76.far ?_ NB0_246.out _|(apply IsS76.far;case hne => exact NB0_246.out))|exact HI0.out))),by repeat (first|(with_reducible first|exact HB.out|apply below_alloc|apply pw_below_drewN|apply below_drew1|refine below_set ?_ (IsS76.ge HI0.out)|refine below_set ?_ GE241.out|refine below_set ?_ GE246.out)|exact HB.out),by repeat (first|(with_reducible first|exact HK.out|apply KeepBut.set_|apply keep_drewN|apply keep_drew|apply keep_alloc|refine keep_far ?_ GW241.out _|refine keep_far ?_ GW246.out _)|exact HK.out)⟩
  ·rw [if_neg c18] at H
   have c18b0 : ((wrap64 (t242)) == 2) = false:=beq_eq_false_iff_ne.mpr c18
   have c18b1 : ((wrap64 (t242)) != 2) = true:=bne_iff_ne.mpr c18
   by_cases c30 : (wrap64 (t242)) = 3
   ·rw [if_pos c30] at H
    have c30b0 : ((wrap64 (t242)) == 3) = true:=beq_iff_eq.mpr c30
    have c30b1 : ((wrap64 (t242)) != 3) = false:=bne_eq_false_iff_eq.mpr c30
    clear c30
    replace H:=Option.bind_eq_some_iff.mp H
    obtain ⟨⟨t257,t258,t259,t260⟩,A310,H⟩:=H
    replace H : (if t260 = true then (some (wrap64 (t242),wrap64 (t257),(⟨#[]⟩ : ByteArray),0,([] : List (S24)),t258,t259,true)) else (some (wrap64 (t242),wrap64 (t257),(⟨#[]⟩ : ByteArray),0,([] : List (S24)),t258,t259,decide ((wrap64 (t257)) > 1)))) = some (r1,r2,r3,r4,r5,r6,r7,r8):=H
    have A31:=Aside0.mk A310
    clear A310
    by_cases c32 : t260 = true
    ·subst c32
     have H1 : (some (wrap64 (t242),wrap64 (t257),(⟨#[]⟩ : ByteArray),0,([] : List (S24)),t258,t259,true)) = some (r1,r2,r3,r4,r5,r6,r7,r8):=by rw [if_pos rfl] at H;exact H
     clear H
     have H:=H1
     clear H1
     simp only [Option.some.injEq,Prod.mk.injEq] at H
     obtain ⟨rfl,rfl,rfl,rfl,rfl,rfl,rfl,rfl⟩:=H
     go_enter Try.func39,Try.ntmps39
     go_wp2_with (first|((with_reducible refine gate_dst (N:=4) rfl ?_);refine box_event ?hg (N:=4) ?hd (cs:=#[.int .i64 0, .int .i64 0, .string (⟨#[]⟩ : ByteArray), .int .i64 0, .slice none 0 0]) (t:=24) ?hr ?_;(case hd => rfl);(case hg => rfl);(case hr => first|(go_simp;done)|(go_simp;rfl));intro gb241 hg w33 hbox hb;have n0_:=Aside0.mk (IsS76.below (by first|((repeat (first|(with_reducible first|exact HI0.out|apply IsS76.alloc|apply IsS76.drewN|apply IsS76.drew|apply IsS76.set_1|apply IsS76.set_2)|exact HI0.out));done)|((simp only [*]);(repeat (first|(with_reducible first|exact HI0.out|apply IsS76.alloc|apply IsS76.drewN|apply IsS76.drew|apply IsS76.set_1|apply IsS76.set_2)|exact HI0.out)))) hb);have n1_:=Aside0.mk (KeepBut.trans (by repeat (first|(with_reducible first|exact HK.out|apply KeepBut.set_|apply keep_drewN|apply keep_drew|apply keep_alloc)|exact HK.out)) (KeepBut.of_below hb g none) (.inl rfl));have n2_:=Aside0.mk (below_step (by repeat (first|(with_reducible first|exact HB.out|apply below_alloc|apply pw_below_drewN|apply below_drew1|refine below_set ?_ (IsS76.ge HI0.out))|exact HB.out)) hb);have n3_:=Aside0.mk (hbox);have n4_:=Aside0.mk ((by rw [hg];exact (keep_size (w:=w) (g:=g) (row:=none) (by repeat (first|(with_reducible first|exact HK.out|apply KeepBut.set_|apply keep_drewN|apply keep_drew|apply keep_alloc)|exact HK.out))) : w.heap.size ≤ gb241));have n5_:=Aside0.mk ((Nat.le_trans HW0.out (by rw [hg];exact (keep_size (w:=w) (g:=g) (row:=none) (by repeat (first|(with_reducible first|exact HK.out|apply KeepBut.set_|apply keep_drewN|apply keep_drew|apply keep_alloc)|exact HK.out))) : w.heap.size ≤ gb241) : w0.heap.size ≤ gb241));have n6_:=Aside0.mk ((by rw [hg];exact Nat.ne_of_lt (IsS76.lt (show IsS76 w0 _ g s0_0 s0_1 s0_2 from by first|((repeat (first|(with_reducible first|exact HI0.out|apply IsS76.alloc|apply IsS76.drewN|apply IsS76.drew|apply IsS76.set_1|apply IsS76.set_2)|exact HI0.out));done)|((simp only [*]);(repeat (first|(with_reducible first|exact HI0.out|apply IsS76.alloc|apply IsS76.drewN|apply IsS76.drew|apply IsS76.set_1|apply IsS76.set_2)|exact HI0.out))))) : g ≠ gb241));have n7_:=Aside0.mk ((by rw [hg];exact Nat.ne_of_gt (IsS76.lt (show IsS76 w0 _ g s0_0 s0_1 s0_2 from by first|((repeat (first|(with_reducible first|exact HI0.out|apply IsS76.alloc|apply IsS76.drewN|apply IsS76.drew|apply IsS76.set_1|apply IsS76.set_2)|exact HI0.out));done)|((simp only [*]);(repeat (first|(with_reducible first|exact HI0.out|apply IsS76.alloc|apply IsS76.drewN|apply IsS76.drew|apply IsS76.set_1|apply IsS76.set_2)|exact HI0.out))))) : gb241 ≠ g));clear HI0;clear HK;clear HB;have HI0:=n0_;have HK:=n1_;have HB:=n2_;have BK241:=n3_;have GW241:=n4_;have GE241:=n5_;have NB0_241:=n6_;have NB241_0:=n7_;clear n0_ n1_ n2_ n3_ n4_ n5_ n6_ n7_;clear hb hbox hg)|((with_reducible refine gate_callee (f:=46) rfl ?_);refine goesL_ (some 10) rfl rfl Try.func46 (by kernel_rfl) rfl #[.pointer (some ⟨g,0,none⟩)] rfl (by (try simp only [List.map_toArray,List.map_cons,List.map_nil]);first|done|rfl|(simp only [List.length_drop,List.length_take];rfl)|(go_simp;done)|(go_simp;simp;done)) ?_;(with_reducible refine (codec_reader_byte.calls g s0_0 s0_1 s0_2 t242 t243 t244 t245 w0 _ ?side1 ?side2 A3.out).mono ?_);(case side1 => first|((repeat (first|(with_reducible first|exact HI0.out|apply IsS76.alloc|apply IsS76.drewN|apply IsS76.drew|apply IsS76.set_1|apply IsS76.set_2|refine IsS76.far ?_ NB0_241.out _|(apply IsS76.far;case hne => exact NB0_241.out))|exact HI0.out));done)|((simp only [*]);(repeat (first|(with_reducible first|exact HI0.out|apply IsS76.alloc|apply IsS76.drewN|apply IsS76.drew|apply IsS76.set_1|apply IsS76.set_2|refine IsS76.far ?_ NB0_241.out _|(apply IsS76.far;case hne => exact NB0_241.out))|exact HI0.out))));(case side2 => repeat (first|(with_reducible first|exact HB.out|apply below_alloc|apply pw_below_drewN|apply below_drew1|refine below_set ?_ (IsS76.ge HI0.out)|refine below_set ?_ GE241.out)|exact HB.out));rintro e w34 ⟨rfl,hi,hb,hk⟩;refine ⟨_,rfl,?_⟩;have n0_:=Aside0.mk (KeepBut.blk hk (g':=gb241) (o := .cells #[.int .i64 0, .int .i64 0, .string (⟨#[]⟩ : ByteArray), .int .i64 0, .slice none 0 0] 24 (0,0)) (by (with_reducible repeat (first|refine blk_drewN ?_ _|refine blk_drew ?_|refine blk_alloc ?_ _));exact BK241.out) NB241_0.out (by simp));have n1_:=Aside0.mk (KeepBut.trans (by repeat (first|(with_reducible first|exact HK.out|apply KeepBut.set_|apply keep_drewN|apply keep_drew|apply keep_alloc|refine keep_far ?_ GW241.out _)|exact HK.out)) hk (.inl rfl));have n2_:=Aside0.mk (hb);have n3_:=Aside0.mk (hi);clear BK241;clear HK;clear HB;clear HI0;have BK241:=n0_;have HK:=n1_;have HB:=n2_;have HI0:=n3_;clear n0_ n1_ n2_ n3_;(try clear hb);(try clear hb2);(try clear hk);(try clear hi))|((with_reducible refine gate_dst (N:=5) rfl ?_);refine box_event ?hg (N:=5) ?hd (cs:=#[.int .i64 0, .int .i64 0, .string (⟨#[]⟩ : ByteArray), .int .i64 0, .slice none 0 0]) (t:=24) ?hr ?_;(case hd => rfl);(case hg => rfl);(case hr => first|(go_simp;done)|(go_simp;rfl));intro gb246 hg w35 hbox hb;have n0_:=Aside0.mk (IsS76.below (by first|((repeat (first|(with_reducible first|exact HI0.out|apply IsS76.alloc|apply IsS76.drewN|apply IsS76.drew|apply IsS76.set_1|apply IsS76.set_2|refine IsS76.far ?_ NB0_241.out _|(apply IsS76.far;case hne => exact NB0_241.out))|exact HI0.out));done)|((simp only [*]);(repeat (first|(with_reducible first|exact HI0.out|apply IsS76.alloc|apply IsS76.drewN|apply IsS76.drew|apply IsS76.set_1|apply IsS76.set_2|refine IsS76.far ?_ NB0_241.out _|(apply IsS76.far;case hne => exact NB0_241.out))|exact HI0.out)))) hb);have n1_:=Aside0.mk (blk_below (g:=gb241) (o := .cells #[.int .i64 0, .int .i64 0, .string (⟨#[]⟩ : ByteArray), .int .i64 0, .slice none 0 0] 24 (0,0)) (by (with_reducible repeat (first|refine blk_drewN ?_ _|refine blk_drew ?_|refine blk_alloc ?_ _));exact BK241.out) hb);have n2_:=Aside0.mk (KeepBut.trans (by repeat (first|(with_reducible first|exact HK.out|apply KeepBut.set_|apply keep_drewN|apply keep_drew|apply keep_alloc|refine keep_far ?_ GW241.out _)|exact HK.out)) (KeepBut.of_below hb g none) (.inl rfl));have n3_:=Aside0.mk (below_step (by repeat (first|(with_reducible first|exact HB.out|apply below_alloc|apply pw_below_drewN|apply below_drew1|refine below_set ?_ (IsS76.ge HI0.out)|refine below_set ?_ GE241.out)|exact HB.out)) hb);have n4_:=Aside0.mk (hbox);have n5_:=Aside0.mk ((by rw [hg];exact (keep_size (w:=w) (g:=g) (row:=none) (by repeat (first|(with_reducible first|exact HK.out|apply KeepBut.set_|apply keep_drewN|apply keep_drew|apply keep_alloc|refine keep_far ?_ GW241.out _)|exact HK.out))) : w.heap.size ≤ gb246));have n6_:=Aside0.mk ((Nat.le_trans HW0.out (by rw [hg];exact (keep_size (w:=w) (g:=g) (row:=none) (by repeat (first|(with_reducible first|exact HK.out|apply KeepBut.set_|apply keep_drewN|apply keep_drew|apply keep_alloc|refine keep_far ?_ GW241.out _)|exact HK.out))) : w.heap.size ≤ gb246) : w0.heap.size ≤ gb246));have n7_:=Aside0.mk ((by rw [hg];exact Nat.ne_of_lt (blk_lt (g:=gb241) (o := .cells #[.int .i64 0, .int .i64 0, .string (⟨#[]⟩ : ByteArray), .int .i64 0, .slice none 0 0] 24 (0,0)) (by (with_reducible repeat (first|refine blk_drewN ?_ _|refine blk_drew ?_|refine blk_alloc ?_ _));exact BK241.out)) : gb241 ≠ gb246));have n8_:=Aside0.mk ((by rw [hg];exact Nat.ne_of_gt (blk_lt (g:=gb241) (o := .cells #[.int .i64 0, .int .i64 0, .string (⟨#[]⟩ : ByteArray), .int .i64 0, .slice none 0 0] 24 (0,0)) (by (with_reducible repeat (first|refine blk_drewN ?_ _|refine blk_drew ?_|refine blk_alloc ?_ _));exact BK241.out)) : gb246 ≠ gb241));have n9_:=Aside0.mk ((by rw [hg];exact Nat.ne_of_lt (IsS76.lt (show IsS76 w0 _ g t243 t244 t245 from by first|((repeat (first|(with_reducible first|exact HI0.out|apply IsS76.alloc|apply IsS76.drewN|apply IsS76.drew|apply IsS76.set_1|apply IsS76.set_2|refine IsS76.far ?_ NB0_241.out _|(apply IsS76.far;case hne => exact NB0_241.out))|exact HI0.out));done)|((simp only [*]);(repeat (first|(with_reducible first|exact HI0.out|apply IsS76.alloc|apply IsS76.drewN|apply IsS76.drew|apply IsS76.set_1|apply IsS76.set_2|refine IsS76.far ?_ NB0_241.out _|(apply IsS76.far;case hne => exact NB0_241.out))|exact HI0.out))))) : g ≠ gb246));have n10_:=Aside0.mk ((by rw [hg];exact Nat.ne_of_gt (IsS76.lt (show IsS76 w0 _ g t243 t244 t245 from by first|((repeat (first|(with_reducible first|exact HI0.out|apply IsS76.alloc|apply IsS76.drewN|apply IsS76.drew|apply IsS76.set_1|apply IsS76.set_2|refine IsS76.far ?_ NB0_241.out _|(apply IsS76.far;case hne => exact NB0_241.out))|exact HI0.out));done)|((simp only [*]);(repeat (first|(with_reducible first|exact HI0.out|apply IsS76.alloc|apply IsS76.drewN|apply IsS76.drew|apply IsS76.set_1|apply IsS76.set_2|refine IsS76.far ?_ NB0_241.out _|(apply IsS76.far;case hne => exact NB0_241.out))|exact HI0.out))))) : gb246 ≠ g));clear HI0;clear BK241;clear HK;clear HB;have HI0:=n0_;have BK241:=n1_;have HK:=n2_;have HB:=n3_;have BK246:=n4_;have GW246:=n5_;have GE246:=n6_;have NB241_246:=n7_;have NB246_241:=n8_;have NB0_246:=n9_;have NB246_0:=n10_;clear n0_ n1_ n2_ n3_ n4_ n5_ n6_ n7_ n8_ n9_ n10_;clear hb hbox hg;have hnb36:=NB246_241.out;have hnc36:=NB241_246.out;have hnb37:=NB246_0.out;have hnc37:=NB0_246.out;have hcz38_0 : w35.cell? ⟨gb246,0,none⟩ = some (.int .i64 0):=(blk_cell BK246.out 0).trans rfl;have hcz38_1 : w35.cell? ⟨gb246,1,none⟩ = some (.int .i64 0):=(blk_cell BK246.out 1).trans rfl;have hcz38_2 : w35.cell? ⟨gb246,2,none⟩ = some (.string (⟨#[]⟩ : ByteArray)):=(blk_cell BK246.out 2).trans rfl;have hcz38_3 : w35.cell? ⟨gb246,3,none⟩ = some (.int .i64 0):=(blk_cell BK246.out 3).trans rfl;have hcz38_4 : w35.cell? ⟨gb246,4,none⟩ = some (.slice none 0 0):=(blk_cell BK246.out 4).trans rfl;have hfz38_0:=blk_frozen BK246.out 0;have hfz38_1:=blk_frozen BK246.out 1;have hfz38_2:=blk_frozen BK246.out 2;have hfz38_3:=blk_frozen BK246.out 3;have hfz38_4:=blk_frozen BK246.out 4)|((with_reducible refine gate_callee (f:=46) rfl ?_);refine goesL_ (some 43) rfl rfl Try.func46 (by kernel_rfl) rfl #[.pointer (some ⟨g,0,none⟩)] rfl (by (try simp only [List.map_toArray,List.map_cons,List.map_nil]);first|done|rfl|(simp only [List.length_drop,List.length_take];rfl)|(go_simp;done)|(go_simp;simp;done)) ?_;(with_reducible refine (codec_reader_byte.calls g t243 t244 t245 t257 t258 t259 true w0 _ ?side1 ?side2 A31.out).mono ?_);(case side1 => first|((repeat (first|(with_reducible first|exact HI0.out|apply IsS76.alloc|apply IsS76.drewN|apply IsS76.drew|apply IsS76.set_1|apply IsS76.set_2|refine IsS76.far ?_ NB0_241.out _|(apply IsS76.far;case hne => exact NB0_241.out)|refine IsS76.far ?_ NB0_246.out _|(apply IsS76.far;case hne => exact NB0_246.out))|exact HI0.out));done)|((simp only [*]);(repeat (first|(with_reducible first|exact HI0.out|apply IsS76.alloc|apply IsS76.drewN|apply IsS76.drew|apply IsS76.set_1|apply IsS76.set_2|refine IsS76.far ?_ NB0_241.out _|(apply IsS76.far;case hne => exact NB0_241.out)|refine IsS76.far ?_ NB0_246.out _|(apply IsS76.far;case hne => exact NB0_246.out))|exact HI0.out))));(case side2 => repeat (first|(with_reducible first|exact HB.out|apply below_alloc|apply pw_below_drewN|apply below_drew1|refine below_set ?_ (IsS76.ge HI0.out)|refine below_set ?_ GE241.out|refine below_set ?_ GE246.out)|exact HB.out));rintro e w39 ⟨rfl,hi,hb,hk⟩;refine ⟨_,rfl,?_⟩;have n0_:=Aside0.mk (KeepBut.blk hk (g':=gb241) (o := .cells #[.int .i64 0, .int .i64 0, .string (⟨#[]⟩ : ByteArray), .int .i64 0, .slice none 0 0] 24 (0,0)) (by (with_reducible repeat (first|refine blk_drewN ?_ _|refine blk_drew ?_|refine blk_alloc ?_ _));refine blk_far ?_ NB241_246.out _;(with_reducible repeat (first|refine blk_drewN ?_ _|refine blk_drew ?_|refine blk_alloc ?_ _));refine blk_far ?_ NB241_246.out _;(with_reducible repeat (first|refine blk_drewN ?_ _|refine blk_drew ?_|refine blk_alloc ?_ _));refine blk_far ?_ NB241_246.out _;(with_reducible repeat (first|refine blk_drewN ?_ _|refine blk_drew ?_|refine blk_alloc ?_ _));refine blk_far ?_ NB241_246.out _;(with_reducible repeat (first|refine blk_drewN ?_ _|refine blk_drew ?_|refine blk_alloc ?_ _));refine blk_far ?_ NB241_246.out _;(with_reducible repeat (first|refine blk_drewN ?_ _|refine blk_drew ?_|refine blk_alloc ?_ _));exact BK241.out) NB241_0.out (by simp));have n1_:=Aside0.mk (KeepBut.blk hk (g':=gb246) (o := .cells #[.int .i64 (wrap64 (t242)), .int .i64 0, .string (⟨#[]⟩ : ByteArray), .int .i64 0, .slice none 0 0] 24 (0,0)) (by (with_reducible repeat (first|refine blk_drewN ?_ _|refine blk_drew ?_|refine blk_alloc ?_ _));refine blk_put (cs:=#[.int .i64 (wrap64 (t242)), .int .i64 0, .string (⟨#[]⟩ : ByteArray), .int .i64 0, .slice none 0 0]) ?_ 4 _ rfl;(with_reducible repeat (first|refine blk_drewN ?_ _|refine blk_drew ?_|refine blk_alloc ?_ _));refine blk_put (cs:=#[.int .i64 (wrap64 (t242)), .int .i64 0, .string (⟨#[]⟩ : ByteArray), .int .i64 0, .slice none 0 0]) ?_ 3 _ rfl;(with_reducible repeat (first|refine blk_drewN ?_ _|refine blk_drew ?_|refine blk_alloc ?_ _));refine blk_put (cs:=#[.int .i64 (wrap64 (t242)), .int .i64 0, .string (⟨#[]⟩ : ByteArray), .int .i64 0, .slice none 0 0]) ?_ 2 _ rfl;(with_reducible repeat (first|refine blk_drewN ?_ _|refine blk_drew ?_|refine blk_alloc ?_ _));refine blk_put (cs:=#[.int .i64 (wrap64 (t242)), .int .i64 0, .string (⟨#[]⟩ : ByteArray), .int .i64 0, .slice none 0 0]) ?_ 1 _ rfl;(with_reducible repeat (first|refine blk_drewN ?_ _|refine blk_drew ?_|refine blk_alloc ?_ _));refine blk_put (cs:=#[.int .i64 0, .int .i64 0, .string (⟨#[]⟩ : ByteArray), .int .i64 0, .slice none 0 0]) ?_ 0 _ rfl;(with_reducible repeat (first|refine blk_drewN ?_ _|refine blk_drew ?_|refine blk_alloc ?_ _));exact BK246.out) NB246_0.out (by simp));have n2_:=Aside0.mk (KeepBut.trans (by repeat (first|(with_reducible first|exact HK.out|apply KeepBut.set_|apply keep_drewN|apply keep_drew|apply keep_alloc|refine keep_far ?_ GW241.out _|refine keep_far ?_ GW246.out _)|exact HK.out)) hk (.inl rfl));have n3_:=Aside0.mk (hb);have n4_:=Aside0.mk (hi);clear BK241;clear BK246;clear HK;clear HB;clear HI0;have BK241:=n0_;have BK246:=n1_;have HK:=n2_;have HB:=n3_;have HI0:=n4_;clear n0_ n1_ n2_ n3_ n4_;(try clear hb);(try clear hb2);(try clear hk);(try clear hi);have hcz40_0 : w39.cell? ⟨gb246,0,none⟩ = some (.int .i64 (wrap64 (t242))):=(blk_cell BK246.out 0).trans rfl;have hcz40_1 : w39.cell? ⟨gb246,1,none⟩ = some (.int .i64 0):=(blk_cell BK246.out 1).trans rfl;have hcz40_2 : w39.cell? ⟨gb246,2,none⟩ = some (.string (⟨#[]⟩ : ByteArray)):=(blk_cell BK246.out 2).trans rfl;have hcz40_3 : w39.cell? ⟨gb246,3,none⟩ = some (.int .i64 0):=(blk_cell BK246.out 3).trans rfl;have hcz40_4 : w39.cell? ⟨gb246,4,none⟩ = some (.slice none 0 0):=(blk_cell BK246.out 4).trans rfl;have hfz40_0:=blk_frozen BK246.out 0;have hfz40_1:=blk_frozen BK246.out 1;have hfz40_2:=blk_frozen BK246.out 2;have hfz40_3:=blk_frozen BK246.out 3;have hfz40_4:=blk_frozen BK246.out 4;obtain ⟨ASz41_0,cSz41_0,HGz41,hgz41,HSz41_0,hlSz41_0⟩:=HI0.out;have hcz41_0:=cellS76_0 HGz41;have hcz41_1:=cellS76_1 HGz41;have hcz41_2:=cellS76_2 HGz41;have hfz41_0:=blk_frozen HGz41 0;have hfz41_1:=blk_frozen HGz41 1;have hfz41_2:=blk_frozen HGz41 2;clear HGz41 hgz41;have hnb42:=NB241_0.out;have hnc42:=NB0_241.out;have hcz43_0 : w39.cell? ⟨gb241,0,none⟩ = some (.int .i64 0):=(blk_cell BK241.out 0).trans rfl;have hcz43_1 : w39.cell? ⟨gb241,1,none⟩ = some (.int .i64 0):=(blk_cell BK241.out 1).trans rfl;have hcz43_2 : w39.cell? ⟨gb241,2,none⟩ = some (.string (⟨#[]⟩ : ByteArray)):=(blk_cell BK241.out 2).trans rfl;have hcz43_3 : w39.cell? ⟨gb241,3,none⟩ = some (.int .i64 0):=(blk_cell BK241.out 3).trans rfl;have hcz43_4 : w39.cell? ⟨gb241,4,none⟩ = some (.slice none 0 0):=(blk_cell BK241.out 4).trans rfl;have hfz43_0:=blk_frozen BK241.out 0;have hfz43_1:=blk_frozen BK241.out 1;have hfz43_2:=blk_frozen BK241.out 2;have hfz43_3:=blk_frozen BK241.out 3;have hfz43_4:=blk_frozen BK241.out 4))
     refine bodyPost_ret (results_cell_row rfl _ _ gb241 24 #[.int .i64 (wrap64 (t242)), .int .i64 (wrap64 (t257)), .string (⟨#[]⟩ : ByteArray), .int .i64 0, .slice none 0 0] (0,0) _ rfl (by (with_reducible repeat (first|refine blk_drewN ?_ _|refine blk_drew ?_|refine blk_alloc ?_ _));refine blk_put (cs:=#[.int .i64 (wrap64 (t242)), .int .i64 (wrap64 (t257)), .string (⟨#[]⟩ : ByteArray), .int .i64 0, .slice none 0 0]) ?_ 4 _ rfl;(with_reducible repeat (first|refine blk_drewN ?_ _|refine blk_drew ?_|refine blk_alloc ?_ _));refine blk_put (cs:=#[.int .i64 (wrap64 (t242)), .int .i64 (wrap64 (t257)), .string (⟨#[]⟩ : ByteArray), .int .i64 0, .slice none 0 0]) ?_ 3 _ rfl;(with_reducible repeat (first|refine blk_drewN ?_ _|refine blk_drew ?_|refine blk_alloc ?_ _));refine blk_put (cs:=#[.int .i64 (wrap64 (t242)), .int .i64 (wrap64 (t257)), .string (⟨#[]⟩ : ByteArray), .int .i64 0, .slice none 0 0]) ?_ 2 _ rfl;(with_reducible repeat (first|refine blk_drewN ?_ _|refine blk_drew ?_|refine blk_alloc ?_ _));refine blk_put (cs:=#[.int .i64 (wrap64 (t242)), .int .i64 0, .string (⟨#[]⟩ : ByteArray), .int .i64 0, .slice none 0 0]) ?_ 1 _ rfl;(with_reducible repeat (first|refine blk_drewN ?_ _|refine blk_drew ?_|refine blk_alloc ?_ _));refine blk_put (cs:=#[.int .i64 0, .int .i64 0, .string (⟨#[]⟩ : ByteArray), .int .i64 0, .slice none 0 0]) ?_ 0 _ rfl;(with_reducible repeat (first|refine blk_drewN ?_ _|refine blk_drew ?_|refine blk_alloc ?_ _));refine blk_far ?_ NB241_0.out _;(with_reducible repeat (first|refine blk_drewN ?_ _|refine blk_drew ?_|refine blk_alloc ?_ _));refine blk_far ?_ NB241_246.out _;(with_reducible repeat (first|refine blk_drewN ?_ _|refine blk_drew ?_|refine blk_alloc ?_ _));exact BK241.out) Try.underlying24 rfl (by kernel_rfl)) rfl ?_
     exact ⟨_,by first|rfl|(simp [errW_none,errW_some] <;> rfl)|(simp [*,errW_none,errW_some] <;> rfl),by first|exact Kd.R_nil _ _ _ _ _|exact Kd.N_nil _ _ _ _ _|exact Kd.V_nil _ _ _ _ _|exact Kd.Q_nil _ _ _ _ _|exact Kd.S_nil _ _ _ _ _,by first|((repeat (first|(with_reducible first|exact HI0.out|apply IsS76.alloc|apply IsS76.drewN|apply IsS76.drew|apply IsS76.set_1|apply IsS76.set_2|refine IsS76.far ?_ NB0_241.out _|(apply IsS76.far;case hne => exact NB0_241.out)|refine IsS76.far ?_ NB0_246.out _|(apply IsS76.far;case hne => exact NB0_246.out))|exact HI0.out));done)|((simp only [*]);(repeat (first|(with_reducible first|exact HI0.out|apply IsS76.alloc|apply IsS76.drewN|apply IsS76.drew|apply IsS76.set_1|apply IsS76.set_2|refine IsS76.far ?_ NB0_241.out _|(apply IsS76.far;case hne => exact NB0_241.out)|refine IsS76.far ?_ NB0_246.out _|(apply IsS76.far;case hne => exact NB0_246.out))|exact HI0.out))),by repeat (first|(with_reducible first|exact HB.out|apply below_alloc|apply pw_below_drewN|apply below_drew1|refine below_set ?_ (IsS76.ge HI0.out)|refine below_set ?_ GE241.out|refine below_set ?_ GE246.out)|exact HB.out),by repeat (first|(with_reducible first|exact HK.out|apply KeepBut.set_|apply keep_drewN|apply keep_drew|apply keep_alloc|refine keep_far ?_ GW241.out _|refine keep_far ?_ GW246.out _)|exact HK.out)⟩
    ·replace c32:=Bool.eq_false_iff.mpr c32
     subst c32
     have H1 : (some (wrap64 (t242),wrap64 (t257),(⟨#[]⟩ : ByteArray),0,([] : List (S24)),t258,t259,decide ((wrap64 (t257)) > 1))) = some (r1,r2,r3,r4,r5,r6,r7,r8):=by rw [if_neg (show ¬ (false = true) by decide)] at H;exact H
     clear H
     have H:=H1
     clear H1
     simp only [Option.some.injEq,Prod.mk.injEq] at H
     obtain ⟨rfl,rfl,rfl,rfl,rfl,rfl,rfl,rfl⟩:=H
     go_enter Try.func39,Try.ntmps39
     go_wp2_with (first|((with_reducible refine gate_dst (N:=4) rfl ?_);refine box_event ?hg (N:=4) ?hd (cs:=#[.int .i64 0, .int .i64 0, .string (⟨#[]⟩ : ByteArray), .int .i64 0, .slice none 0 0]) (t:=24) ?hr ?_;(case hd => rfl);(case hg => rfl);(case hr => first|(go_simp;done)|(go_simp;rfl));intro gb241 hg w44 hbox hb;have n0_:=Aside0.mk (IsS76.below (by first|((repeat (first|(with_reducible first|exact HI0.out|apply IsS76.alloc|apply IsS76.drewN|apply IsS76.drew|apply IsS76.set_1|apply IsS76.set_2)|exact HI0.out));done)|((simp only [*]);(repeat (first|(with_reducible first|exact HI0.out|apply IsS76.alloc|apply IsS76.drewN|apply IsS76.drew|apply IsS76.set_1|apply IsS76.set_2)|exact HI0.out)))) hb);have n1_:=Aside0.mk (KeepBut.trans (by repeat (first|(with_reducible first|exact HK.out|apply KeepBut.set_|apply keep_drewN|apply keep_drew|apply keep_alloc)|exact HK.out)) (KeepBut.of_below hb g none) (.inl rfl));have n2_:=Aside0.mk (below_step (by repeat (first|(with_reducible first|exact HB.out|apply below_alloc|apply pw_below_drewN|apply below_drew1|refine below_set ?_ (IsS76.ge HI0.out))|exact HB.out)) hb);have n3_:=Aside0.mk (hbox);have n4_:=Aside0.mk ((by rw [hg];exact (keep_size (w:=w) (g:=g) (row:=none) (by repeat (first|(with_reducible first|exact HK.out|apply KeepBut.set_|apply keep_drewN|apply keep_drew|apply keep_alloc)|exact HK.out))) : w.heap.size ≤ gb241));have n5_:=Aside0.mk ((Nat.le_trans HW0.out (by rw [hg];exact (keep_size (w:=w) (g:=g) (row:=none) (by repeat (first|(with_reducible first|exact HK.out|apply KeepBut.set_|apply keep_drewN|apply keep_drew|apply keep_alloc)|exact HK.out))) : w.heap.size ≤ gb241) : w0.heap.size ≤ gb241));have n6_:=Aside0.mk ((by rw [hg];exact Nat.ne_of_lt (IsS76.lt (show IsS76 w0 _ g s0_0 s0_1 s0_2 from by first|((repeat (first|(with_reducible first|exact HI0.out|apply IsS76.alloc|apply IsS76.drewN|apply IsS76.drew|apply IsS76.set_1|apply IsS76.set_2)|exact HI0.out));done)|((simp only [*]);(repeat (first|(with_reducible first|exact HI0.out|apply IsS76.alloc|apply IsS76.drewN|apply IsS76.drew|apply IsS76.set_1|apply IsS76.set_2)|exact HI0.out))))) : g ≠ gb241));have n7_:=Aside0.mk ((by rw [hg];exact Nat.ne_of_gt (IsS76.lt (show IsS76 w0 _ g s0_0 s0_1 s0_2 from by first|((repeat (first|(with_reducible first|exact HI0.out|apply IsS76.alloc|apply IsS76.drewN|apply IsS76.drew|apply IsS76.set_1|apply IsS76.set_2)|exact HI0.out));done)|((simp only [*]);(repeat (first|(with_reducible first|exact HI0.out|apply IsS76.alloc|apply IsS76.drewN|apply IsS76.drew|apply IsS76.set_1|apply IsS76.set_2)|exact HI0.out))))) : gb241 ≠ g));clear HI0;clear HK;clear HB;have HI0:=n0_;have HK:=n1_;have HB:=n2_;have BK241:=n3_;have GW241:=n4_;have GE241:=n5_;have NB0_241:=n6_;have NB241_0:=n7_;clear n0_ n1_ n2_ n3_ n4_ n5_ n6_ n7_;clear hb hbox hg)|((with_reducible refine gate_callee (f:=46) rfl ?_);refine goesL_ (some 10) rfl rfl Try.func46 (by kernel_rfl) rfl #[.pointer (some ⟨g,0,none⟩)] rfl (by (try simp only [List.map_toArray,List.map_cons,List.map_nil]);first|done|rfl|(simp only [List.length_drop,List.length_take];rfl)|(go_simp;done)|(go_simp;simp;done)) ?_;(with_reducible refine (codec_reader_byte.calls g s0_0 s0_1 s0_2 t242 t243 t244 t245 w0 _ ?side1 ?side2 A3.out).mono ?_);(case side1 => first|((repeat (first|(with_reducible first|exact HI0.out|apply IsS76.alloc|apply IsS76.drewN|apply IsS76.drew|apply IsS76.set_1|apply IsS76.set_2|refine IsS76.far ?_ NB0_241.out _|(apply IsS76.far;case hne => exact NB0_241.out))|exact HI0.out));done)|((simp only [*]);(repeat (first|(with_reducible first|exact HI0.out|apply IsS76.alloc|apply IsS76.drewN|apply IsS76.drew|apply IsS76.set_1|apply IsS76.set_2|refine IsS76.far ?_ NB0_241.out _|(apply IsS76.far;case hne => exact NB0_241.out))|exact HI0.out))));(case side2 => repeat (first|(with_reducible first|exact HB.out|apply below_alloc|apply pw_below_drewN|apply below_drew1|refine below_set ?_ (IsS76.ge HI0.out)|refine below_set ?_ GE241.out)|exact HB.out));rintro e w45 ⟨rfl,hi,hb,hk⟩;refine ⟨_,rfl,?_⟩;have n0_:=Aside0.mk (KeepBut.blk hk (g':=gb241) (o := .cells #[.int .i64 0, .int .i64 0, .string (⟨#[]⟩ : ByteArray), .int .i64 0, .slice none 0 0] 24 (0,0)) (by (with_reducible repeat (first|refine blk_drewN ?_ _|refine blk_drew ?_|refine blk_alloc ?_ _));exact BK241.out) NB241_0.out (by simp));have n1_:=Aside0.mk (KeepBut.trans (by repeat (first|(with_reducible first|exact HK.out|apply KeepBut.set_|apply keep_drewN|apply keep_drew|apply keep_alloc|refine keep_far ?_ GW241.out _)|exact HK.out)) hk (.inl rfl));have n2_:=Aside0.mk (hb);have n3_:=Aside0.mk (hi);clear BK241;clear HK;clear HB;clear HI0;have BK241:=n0_;have HK:=n1_;have HB:=n2_;have HI0:=n3_;clear n0_ n1_ n2_ n3_;(try clear hb);(try clear hb2);(try clear hk);(try clear hi))|((with_reducible refine gate_dst (N:=5) rfl ?_);refine box_event ?hg (N:=5) ?hd (cs:=#[.int .i64 0, .int .i64 0, .string (⟨#[]⟩ : ByteArray), .int .i64 0, .slice none 0 0]) (t:=24) ?hr ?_;(case hd => rfl);(case hg => rfl);(case hr => first|(go_simp;done)|(go_simp;rfl));intro gb246 hg w46 hbox hb;have n0_:=Aside0.mk (IsS76.below (by first|((repeat (first|(with_reducible first|exact HI0.out|apply IsS76.alloc|apply IsS76.drewN|apply IsS76.drew|apply IsS76.set_1|apply IsS76.set_2|refine IsS76.far ?_ NB0_241.out _|(apply IsS76.far;case hne => exact NB0_241.out))|exact HI0.out));done)|((simp only [*]);(repeat (first|(with_reducible first|exact HI0.out|apply IsS76.alloc|apply IsS76.drewN|apply IsS76.drew|apply IsS76.set_1|apply IsS76.set_2|refine IsS76.far ?_ NB0_241.out _|(apply IsS76.far;case hne => exact NB0_241.out))|exact HI0.out)))) hb);have n1_:=Aside0.mk (blk_below (g:=gb241) (o := .cells #[.int .i64 0, .int .i64 0, .string (⟨#[]⟩ : ByteArray), .int .i64 0, .slice none 0 0] 24 (0,0)) (by (with_reducible repeat (first|refine blk_drewN ?_ _|refine blk_drew ?_|refine blk_alloc ?_ _));exact BK241.out) hb);have n2_:=Aside0.mk (KeepBut.trans (by repeat (first|(with_reducible first|exact HK.out|apply KeepBut.set_|apply keep_drewN|apply keep_drew|apply keep_alloc|refine keep_far ?_ GW241.out _)|exact HK.out)) (KeepBut.of_below hb g none) (.inl rfl));have n3_:=Aside0.mk (below_step (by repeat (first|(with_reducible first|exact HB.out|apply below_alloc|apply pw_below_drewN|apply below_drew1|refine below_set ?_ (IsS76.ge HI0.out)|refine below_set ?_ GE241.out)|exact HB.out)) hb);have n4_:=Aside0.mk (hbox);have n5_:=Aside0.mk ((by rw [hg];exact (keep_size (w:=w) (g:=g) (row:=none) (by repeat (first|(with_reducible first|exact HK.out|apply KeepBut.set_|apply keep_drewN|apply keep_drew|apply keep_alloc|refine keep_far ?_ GW241.out _)|exact HK.out))) : w.heap.size ≤ gb246));have n6_:=Aside0.mk ((Nat.le_trans HW0.out (by rw [hg];exact (keep_size (w:=w) (g:=g) (row:=none) (by repeat (first|(with_reducible first|exact HK.out|apply KeepBut.set_|apply keep_drewN|apply keep_drew|apply keep_alloc|refine keep_far ?_ GW241.out _)|exact HK.out))) : w.heap.size ≤ gb246) : w0.heap.size ≤ gb246));have n7_:=Aside0.mk ((by rw [hg];exact Nat.ne_of_lt (blk_lt (g:=gb241) (o := .cells #[.int .i64 0, .int .i64 0, .string (⟨#[]⟩ : ByteArray), .int .i64 0, .slice none 0 0] 24 (0,0)) (by (with_reducible repeat (first|refine blk_drewN ?_ _|refine blk_drew ?_|refine blk_alloc ?_ _));exact BK241.out)) : gb241 ≠ gb246));have n8_:=Aside0.mk ((by rw [hg];exact Nat.ne_of_gt (blk_lt (g:=gb241) (o := .cells #[.int .i64 0, .int .i64 0, .string (⟨#[]⟩ : ByteArray), .int .i64 0, .slice none 0 0] 24 (0,0)) (by (with_reducible repeat (first|refine blk_drewN ?_ _|refine blk_drew ?_|refine blk_alloc ?_ _));exact BK241.out)) : gb246 ≠ gb241));have n9_:=Aside0.mk ((by rw [hg];exact Nat.ne_of_lt (IsS76.lt (show IsS76 w0 _ g t243 t244 t245 from by first|((repeat (first|(with_reducible first|exact HI0.out|apply IsS76.alloc|apply IsS76.drewN|apply IsS76.drew|apply IsS76.set_1|apply IsS76.set_2|refine IsS76.far ?_ NB0_241.out _|(apply IsS76.far;case hne => exact NB0_241.out))|exact HI0.out));done)|((simp only [*]);(repeat (first|(with_reducible first|exact HI0.out|apply IsS76.alloc|apply IsS76.drewN|apply IsS76.drew|apply IsS76.set_1|apply IsS76.set_2|refine IsS76.far ?_ NB0_241.out _|(apply IsS76.far;case hne => exact NB0_241.out))|exact HI0.out))))) : g ≠ gb246));have n10_:=Aside0.mk ((by rw [hg];exact Nat.ne_of_gt (IsS76.lt (show IsS76 w0 _ g t243 t244 t245 from by first|((repeat (first|(with_reducible first|exact HI0.out|apply IsS76.alloc|apply IsS76.drewN|apply IsS76.drew|apply IsS76.set_1|apply IsS76.set_2|refine IsS76.far ?_ NB0_241.out _|(apply IsS76.far;case hne => exact NB0_241.out))|exact HI0.out));done)|((simp only [*]);(repeat (first|(with_reducible first|exact HI0.out|apply IsS76.alloc|apply IsS76.drewN|apply IsS76.drew|apply IsS76.set_1|apply IsS76.set_2|refine IsS76.far ?_ NB0_241.out _|(apply IsS76.far;case hne => exact NB0_241.out))|exact HI0.out))))) : gb246 ≠ g));clear HI0;clear BK241;clear HK;clear HB;have HI0:=n0_;have BK241:=n1_;have HK:=n2_;have HB:=n3_;have BK246:=n4_;have GW246:=n5_;have GE246:=n6_;have NB241_246:=n7_;have NB246_241:=n8_;have NB0_246:=n9_;have NB246_0:=n10_;clear n0_ n1_ n2_ n3_ n4_ n5_ n6_ n7_ n8_ n9_ n10_;clear hb hbox hg;have hnb47:=NB246_241.out;have hnc47:=NB241_246.out;have hnb48:=NB246_0.out;have hnc48:=NB0_246.out;have hcz49_0 : w46.cell? ⟨gb246,0,none⟩ = some (.int .i64 0):=(blk_cell BK246.out 0).trans rfl;have hcz49_1 : w46.cell? ⟨gb246,1,none⟩ = some (.int .i64 0):=(blk_cell BK246.out 1).trans rfl;have hcz49_2 : w46.cell? ⟨gb246,2,none⟩ = some (.string (⟨#[]⟩ : ByteArray)):=(blk_cell BK246.out 2).trans rfl;have hcz49_3 : w46.cell? ⟨gb246,3,none⟩ = some (.int .i64 0):=(blk_cell BK246.out 3).trans rfl;have hcz49_4 : w46.cell? ⟨gb246,4,none⟩ = some (.slice none 0 0):=(blk_cell BK246.out 4).trans rfl;have hfz49_0:=blk_frozen BK246.out 0;have hfz49_1:=blk_frozen BK246.out 1;have hfz49_2:=blk_frozen BK246.out 2;have hfz49_3:=blk_frozen BK246.out 3;have hfz49_4:=blk_frozen BK246.out 4)|((with_reducible refine gate_callee (f:=46) rfl ?_);refine goesL_ (some 43) rfl rfl Try.func46 (by kernel_rfl) rfl #[.pointer (some ⟨g,0,none⟩)] rfl (by (try simp only [List.map_toArray,List.map_cons,List.map_nil]);first|done|rfl|(simp only [List.length_drop,List.length_take];rfl)|(go_simp;done)|(go_simp;simp;done)) ?_;(with_reducible refine (codec_reader_byte.calls g t243 t244 t245 t257 t258 t259 false w0 _ ?side1 ?side2 A31.out).mono ?_);(case side1 => first|((repeat (first|(with_reducible first|exact HI0.out|apply IsS76.alloc|apply IsS76.drewN|apply IsS76.drew|apply IsS76.set_1|apply IsS76.set_2|refine IsS76.far ?_ NB0_241.out _|(apply IsS76.far;case hne => exact NB0_241.out)|refine IsS76.far ?_ NB0_246.out _|(apply IsS76.far;case hne => exact NB0_246.out))|exact HI0.out));done)|((simp only [*]);(repeat (first|(with_reducible first|exact HI0.out|apply IsS76.alloc|apply IsS76.drewN|apply IsS76.drew|apply IsS76.set_1|apply IsS76.set_2|refine IsS76.far ?_ NB0_241.out _|(apply IsS76.far;case hne => exact NB0_241.out)|refine IsS76.far ?_ NB0_246.out _|(apply IsS76.far;case hne => exact NB0_246.out))|exact HI0.out))));(case side2 => repeat (first|(with_reducible first|exact HB.out|apply below_alloc|apply pw_below_drewN|apply below_drew1|refine below_set ?_ (IsS76.ge HI0.out)|refine below_set ?_ GE241.out|refine below_set ?_ GE246.out)|exact HB.out));rintro e w50 ⟨rfl,hi,hb,hk⟩;refine ⟨_,rfl,?_⟩;have n0_:=Aside0.mk (KeepBut.blk hk (g':=gb241) (o := .cells #[.int .i64 0, .int .i64 0, .string (⟨#[]⟩ : ByteArray), .int .i64 0, .slice none 0 0] 24 (0,0)) (by (with_reducible repeat (first|refine blk_drewN ?_ _|refine blk_drew ?_|refine blk_alloc ?_ _));refine blk_far ?_ NB241_246.out _;(with_reducible repeat (first|refine blk_drewN ?_ _|refine blk_drew ?_|refine blk_alloc ?_ _));refine blk_far ?_ NB241_246.out _;(with_reducible repeat (first|refine blk_drewN ?_ _|refine blk_drew ?_|refine blk_alloc ?_ _));refine blk_far ?_ NB241_246.out _;(with_reducible repeat (first|refine blk_drewN ?_ _|refine blk_drew ?_|refine blk_alloc ?_ _));refine blk_far ?_ NB241_246.out _;(with_reducible repeat (first|refine blk_drewN ?_ _|refine blk_drew ?_|refine blk_alloc ?_ _));refine blk_far ?_ NB241_246.out _;(with_reducible repeat (first|refine blk_drewN ?_ _|refine blk_drew ?_|refine blk_alloc ?_ _));exact BK241.out) NB241_0.out (by simp));have n1_:=Aside0.mk (KeepBut.blk hk (g':=gb246) (o := .cells #[.int .i64 (wrap64 (t242)), .int .i64 0, .string (⟨#[]⟩ : ByteArray), .int .i64 0, .slice none 0 0] 24 (0,0)) (by (with_reducible repeat (first|refine blk_drewN ?_ _|refine blk_drew ?_|refine blk_alloc ?_ _));refine blk_put (cs:=#[.int .i64 (wrap64 (t242)), .int .i64 0, .string (⟨#[]⟩ : ByteArray), .int .i64 0, .slice none 0 0]) ?_ 4 _ rfl;(with_reducible repeat (first|refine blk_drewN ?_ _|refine blk_drew ?_|refine blk_alloc ?_ _));refine blk_put (cs:=#[.int .i64 (wrap64 (t242)), .int .i64 0, .string (⟨#[]⟩ : ByteArray), .int .i64 0, .slice none 0 0]) ?_ 3 _ rfl;(with_reducible repeat (first|refine blk_drewN ?_ _|refine blk_drew ?_|refine blk_alloc ?_ _));refine blk_put (cs:=#[.int .i64 (wrap64 (t242)), .int .i64 0, .string (⟨#[]⟩ : ByteArray), .int .i64 0, .slice none 0 0]) ?_ 2 _ rfl;(with_reducible repeat (first|refine blk_drewN ?_ _|refine blk_drew ?_|refine blk_alloc ?_ _));refine blk_put (cs:=#[.int .i64 (wrap64 (t242)), .int .i64 0, .string (⟨#[]⟩ : ByteArray), .int .i64 0, .slice none 0 0]) ?_ 1 _ rfl;(with_reducible repeat (first|refine blk_drewN ?_ _|refine blk_drew ?_|refine blk_alloc ?_ _));refine blk_put (cs:=#[.int .i64 0, .int .i64 0, .string (⟨#[]⟩ : ByteArray), .int .i64 0, .slice none 0 0]) ?_ 0 _ rfl;(with_reducible repeat (first|refine blk_drewN ?_ _|refine blk_drew ?_|refine blk_alloc ?_ _));exact BK246.out) NB246_0.out (by simp));have n2_:=Aside0.mk (KeepBut.trans (by repeat (first|(with_reducible first|exact HK.out|apply KeepBut.set_|apply keep_drewN|apply keep_drew|apply keep_alloc|refine keep_far ?_ GW241.out _|refine keep_far ?_ GW246.out _)|exact HK.out)) hk (.inl rfl));have n3_:=Aside0.mk (hb);have n4_:=Aside0.mk (hi);clear BK241;clear BK246;clear HK;clear HB;clear HI0;have BK241:=n0_;have BK246:=n1_;have HK:=n2_;have HB:=n3_;have HI0:=n4_;clear n0_ n1_ n2_ n3_ n4_;(try clear hb);(try clear hb2);(try clear hk);(try clear hi);have hcz51_0 : w50.cell? ⟨gb246,0,none⟩ = some (.int .i64 (wrap64 (t242))):=(blk_cell BK246.out 0).trans rfl;have hcz51_1 : w50.cell? ⟨gb246,1,none⟩ = some (.int .i64 0):=(blk_cell BK246.out 1).trans rfl;have hcz51_2 : w50.cell? ⟨gb246,2,none⟩ = some (.string (⟨#[]⟩ : ByteArray)):=(blk_cell BK246.out 2).trans rfl;have hcz51_3 : w50.cell? ⟨gb246,3,none⟩ = some (.int .i64 0):=(blk_cell BK246.out 3).trans rfl;have hcz51_4 : w50.cell? ⟨gb246,4,none⟩ = some (.slice none 0 0):=(blk_cell BK246.out 4).trans rfl;have hfz51_0:=blk_frozen BK246.out 0;have hfz51_1:=blk_frozen BK246.out 1;have hfz51_2:=blk_frozen BK246.out 2;have hfz51_3:=blk_frozen BK246.out 3;have hfz51_4:=blk_frozen BK246.out 4;obtain ⟨ASz52_0,cSz52_0,HGz52,hgz52,HSz52_0,hlSz52_0⟩:=HI0.out;have hcz52_0:=cellS76_0 HGz52;have hcz52_1:=cellS76_1 HGz52;have hcz52_2:=cellS76_2 HGz52;have hfz52_0:=blk_frozen HGz52 0;have hfz52_1:=blk_frozen HGz52 1;have hfz52_2:=blk_frozen HGz52 2;clear HGz52 hgz52;have hnb53:=NB241_0.out;have hnc53:=NB0_241.out;have hcz54_0 : w50.cell? ⟨gb241,0,none⟩ = some (.int .i64 0):=(blk_cell BK241.out 0).trans rfl;have hcz54_1 : w50.cell? ⟨gb241,1,none⟩ = some (.int .i64 0):=(blk_cell BK241.out 1).trans rfl;have hcz54_2 : w50.cell? ⟨gb241,2,none⟩ = some (.string (⟨#[]⟩ : ByteArray)):=(blk_cell BK241.out 2).trans rfl;have hcz54_3 : w50.cell? ⟨gb241,3,none⟩ = some (.int .i64 0):=(blk_cell BK241.out 3).trans rfl;have hcz54_4 : w50.cell? ⟨gb241,4,none⟩ = some (.slice none 0 0):=(blk_cell BK241.out 4).trans rfl;have hfz54_0:=blk_frozen BK241.out 0;have hfz54_1:=blk_frozen BK241.out 1;have hfz54_2:=blk_frozen BK241.out 2;have hfz54_3:=blk_frozen BK241.out 3;have hfz54_4:=blk_frozen BK241.out 4))
     refine bodyPost_ret (results_cell_row rfl _ _ gb241 24 #[.int .i64 (wrap64 (t242)), .int .i64 (wrap64 (t257)), .string (⟨#[]⟩ : ByteArray), .int .i64 0, .slice none 0 0] (0,0) _ rfl (by (with_reducible repeat (first|refine blk_drewN ?_ _|refine blk_drew ?_|refine blk_alloc ?_ _));refine blk_put (cs:=#[.int .i64 (wrap64 (t242)), .int .i64 (wrap64 (t257)), .string (⟨#[]⟩ : ByteArray), .int .i64 0, .slice none 0 0]) ?_ 4 _ rfl;(with_reducible repeat (first|refine blk_drewN ?_ _|refine blk_drew ?_|refine blk_alloc ?_ _));refine blk_put (cs:=#[.int .i64 (wrap64 (t242)), .int .i64 (wrap64 (t257)), .string (⟨#[]⟩ : ByteArray), .int .i64 0, .slice none 0 0]) ?_ 3 _ rfl;(with_reducible repeat (first|refine blk_drewN ?_ _|refine blk_drew ?_|refine blk_alloc ?_ _));refine blk_put (cs:=#[.int .i64 (wrap64 (t242)), .int .i64 (wrap64 (t257)), .string (⟨#[]⟩ : ByteArray), .int .i64 0, .slice none 0 0]) ?_ 2 _ rfl;(with_reducible repeat (first|refine blk_drewN ?_ _|refine blk_drew ?_|refine blk_alloc ?_ _));refine blk_put (cs:=#[.int .i64 (wrap64 (t242)), .int .i64 0, .string (⟨#[]⟩ : ByteArray), .int .i64 0, .slice none 0 0]) ?_ 1 _ rfl;(with_reducible repeat (first|refine blk_drewN ?_ _|refine blk_drew ?_|refine blk_alloc ?_ _));refine blk_put (cs:=#[.int .i64 0, .int .i64 0, .string (⟨#[]⟩ : ByteArray), .int .i64 0, .slice none 0 0]) ?_ 0 _ rfl;(with_reducible repeat (first|refine blk_drewN ?_ _|refine blk_drew ?_|refine blk_alloc ?_ _));refine blk_far ?_ NB241_0.out _;(with_reducible repeat (first|refine blk_drewN ?_ _|refine blk_drew ?_|refine blk_alloc ?_ _));refine blk_far ?_ NB241_246.out _;(with_reducible repeat (first|refine blk_drewN ?_ _|refine blk_drew ?_|refine blk_alloc ?_ _));exact BK241.out) Try.underlying24 rfl (by kernel_rfl)) rfl ?_
     exact ⟨_,by first|rfl|(simp [errW_none,errW_some] <;> rfl)|(simp [*,errW_none,errW_some] <;> rfl),by first|exact Kd.R_nil _ _ _ _ _|exact Kd.N_nil _ _ _ _ _|exact Kd.V_nil _ _ _ _ _|exact Kd.Q_nil _ _ _ _ _|exact Kd.S_nil _ _ _ _ _,by first|((repeat (first|(with_reducible first|exact HI0.out|apply IsS76.alloc|apply IsS76.drewN|apply IsS76.drew|apply IsS76.set_1|apply IsS76.set_2|refine IsS76.far ?_ NB0_241.out _|(apply IsS76.far;case hne => exact NB0_241.out)|refine IsS76.far ?_ NB0_246.out _|(apply IsS76.far;case hne => exact NB0_246.out))|exact HI0.out));done)|((simp only [*]);(repeat (first|(with_reducible first|exact HI0.out|apply IsS76.alloc|apply IsS76.drewN|apply IsS76.drew|apply IsS76.set_1|apply IsS76.set_2|refine IsS76.far ?_ NB0_241.out _|(apply IsS76.far;case hne => exact NB0_241.out)|refine IsS76.far ?_ NB0_246.out _|(apply IsS76.far;case hne => exact NB0_246.out))|exact HI0.out))),by repeat (first|(with_reducible first|exact HB.out|apply below_alloc|apply pw_below_drewN|apply below_drew1|refine below_set ?_ (IsS76.ge HI0.out)|refine below_set ?_ GE241.out|refine below_set ?_ GE246.out)|exact HB.out),by repeat (first|(with_reducible first|exact HK.out|apply KeepBut.set_|apply keep_drewN|apply keep_drew|apply keep_alloc|refine keep_far ?_ GW241.out _|refine keep_far ?_ GW246.out _)|exact HK.out)⟩
   ·rw [if_neg c30] at H
    have c30b0 : ((wrap64 (t242)) == 3) = false:=beq_eq_false_iff_ne.mpr c30
    have c30b1 : ((wrap64 (t242)) != 3) = true:=bne_iff_ne.mpr c30
    by_cases c55 : (wrap64 (t242)) = 4
    ·rw [if_pos c55] at H
     have c55b0 : ((wrap64 (t242)) == 4) = true:=beq_iff_eq.mpr c55
     have c55b1 : ((wrap64 (t242)) != 4) = false:=bne_eq_false_iff_eq.mpr c55
     clear c55
     have HC56:=Aside0.mk H
     clear H
     go_enter Try.func39,Try.ntmps39
     go_upto_region 14 with (first|((with_reducible refine gate_dst (N:=4) rfl ?_);refine box_event ?hg (N:=4) ?hd (cs:=#[.int .i64 0, .int .i64 0, .string (⟨#[]⟩ : ByteArray), .int .i64 0, .slice none 0 0]) (t:=24) ?hr ?_;(case hd => rfl);(case hg => rfl);(case hr => first|(go_simp;done)|(go_simp;rfl));intro gb241 hg w57 hbox hb;have n0_:=Aside0.mk (IsS76.below (by first|((repeat (first|(with_reducible first|exact HI0.out|apply IsS76.alloc|apply IsS76.drewN|apply IsS76.drew|apply IsS76.set_1|apply IsS76.set_2)|exact HI0.out));done)|((simp only [*]);(repeat (first|(with_reducible first|exact HI0.out|apply IsS76.alloc|apply IsS76.drewN|apply IsS76.drew|apply IsS76.set_1|apply IsS76.set_2)|exact HI0.out)))) hb);have n1_:=Aside0.mk (KeepBut.trans (by repeat (first|(with_reducible first|exact HK.out|apply KeepBut.set_|apply keep_drewN|apply keep_drew|apply keep_alloc)|exact HK.out)) (KeepBut.of_below hb g none) (.inl rfl));have n2_:=Aside0.mk (below_step (by repeat (first|(with_reducible first|exact HB.out|apply below_alloc|apply pw_below_drewN|apply below_drew1|refine below_set ?_ (IsS76.ge HI0.out))|exact HB.out)) hb);have n3_:=Aside0.mk (hbox);have n4_:=Aside0.mk ((by rw [hg];exact (keep_size (w:=w) (g:=g) (row:=none) (by repeat (first|(with_reducible first|exact HK.out|apply KeepBut.set_|apply keep_drewN|apply keep_drew|apply keep_alloc)|exact HK.out))) : w.heap.size ≤ gb241));have n5_:=Aside0.mk ((Nat.le_trans HW0.out (by rw [hg];exact (keep_size (w:=w) (g:=g) (row:=none) (by repeat (first|(with_reducible first|exact HK.out|apply KeepBut.set_|apply keep_drewN|apply keep_drew|apply keep_alloc)|exact HK.out))) : w.heap.size ≤ gb241) : w0.heap.size ≤ gb241));have n6_:=Aside0.mk ((by rw [hg];exact Nat.ne_of_lt (IsS76.lt (show IsS76 w0 _ g s0_0 s0_1 s0_2 from by first|((repeat (first|(with_reducible first|exact HI0.out|apply IsS76.alloc|apply IsS76.drewN|apply IsS76.drew|apply IsS76.set_1|apply IsS76.set_2)|exact HI0.out));done)|((simp only [*]);(repeat (first|(with_reducible first|exact HI0.out|apply IsS76.alloc|apply IsS76.drewN|apply IsS76.drew|apply IsS76.set_1|apply IsS76.set_2)|exact HI0.out))))) : g ≠ gb241));have n7_:=Aside0.mk ((by rw [hg];exact Nat.ne_of_gt (IsS76.lt (show IsS76 w0 _ g s0_0 s0_1 s0_2 from by first|((repeat (first|(with_reducible first|exact HI0.out|apply IsS76.alloc|apply IsS76.drewN|apply IsS76.drew|apply IsS76.set_1|apply IsS76.set_2)|exact HI0.out));done)|((simp only [*]);(repeat (first|(with_reducible first|exact HI0.out|apply IsS76.alloc|apply IsS76.drewN|apply IsS76.drew|apply IsS76.set_1|apply IsS76.set_2)|exact HI0.out))))) : gb241 ≠ g));clear HI0;clear HK;clear HB;have HI0:=n0_;have HK:=n1_;have HB:=n2_;have BK241:=n3_;have GW241:=n4_;have GE241:=n5_;have NB0_241:=n6_;have NB241_0:=n7_;clear n0_ n1_ n2_ n3_ n4_ n5_ n6_ n7_;clear hb hbox hg)|((with_reducible refine gate_callee (f:=46) rfl ?_);refine goesL_ (some 10) rfl rfl Try.func46 (by kernel_rfl) rfl #[.pointer (some ⟨g,0,none⟩)] rfl (by (try simp only [List.map_toArray,List.map_cons,List.map_nil]);first|done|rfl|(simp only [List.length_drop,List.length_take];rfl)|(go_simp;done)|(go_simp;simp;done)) ?_;(with_reducible refine (codec_reader_byte.calls g s0_0 s0_1 s0_2 t242 t243 t244 t245 w0 _ ?side1 ?side2 A3.out).mono ?_);(case side1 => first|((repeat (first|(with_reducible first|exact HI0.out|apply IsS76.alloc|apply IsS76.drewN|apply IsS76.drew|apply IsS76.set_1|apply IsS76.set_2|refine IsS76.far ?_ NB0_241.out _|(apply IsS76.far;case hne => exact NB0_241.out))|exact HI0.out));done)|((simp only [*]);(repeat (first|(with_reducible first|exact HI0.out|apply IsS76.alloc|apply IsS76.drewN|apply IsS76.drew|apply IsS76.set_1|apply IsS76.set_2|refine IsS76.far ?_ NB0_241.out _|(apply IsS76.far;case hne => exact NB0_241.out))|exact HI0.out))));(case side2 => repeat (first|(with_reducible first|exact HB.out|apply below_alloc|apply pw_below_drewN|apply below_drew1|refine below_set ?_ (IsS76.ge HI0.out)|refine below_set ?_ GE241.out)|exact HB.out));rintro e w58 ⟨rfl,hi,hb,hk⟩;refine ⟨_,rfl,?_⟩;have n0_:=Aside0.mk (KeepBut.blk hk (g':=gb241) (o := .cells #[.int .i64 0, .int .i64 0, .string (⟨#[]⟩ : ByteArray), .int .i64 0, .slice none 0 0] 24 (0,0)) (by (with_reducible repeat (first|refine blk_drewN ?_ _|refine blk_drew ?_|refine blk_alloc ?_ _));exact BK241.out) NB241_0.out (by simp));have n1_:=Aside0.mk (KeepBut.trans (by repeat (first|(with_reducible first|exact HK.out|apply KeepBut.set_|apply keep_drewN|apply keep_drew|apply keep_alloc|refine keep_far ?_ GW241.out _)|exact HK.out)) hk (.inl rfl));have n2_:=Aside0.mk (hb);have n3_:=Aside0.mk (hi);clear BK241;clear HK;clear HB;clear HI0;have BK241:=n0_;have HK:=n1_;have HB:=n2_;have HI0:=n3_;clear n0_ n1_ n2_ n3_;(try clear hb);(try clear hb2);(try clear hk);(try clear hi))|((with_reducible refine gate_dst (N:=5) rfl ?_);refine box_event ?hg (N:=5) ?hd (cs:=#[.int .i64 0, .int .i64 0, .string (⟨#[]⟩ : ByteArray), .int .i64 0, .slice none 0 0]) (t:=24) ?hr ?_;(case hd => rfl);(case hg => rfl);(case hr => first|(go_simp;done)|(go_simp;rfl));intro gb246 hg w59 hbox hb;have n0_:=Aside0.mk (IsS76.below (by first|((repeat (first|(with_reducible first|exact HI0.out|apply IsS76.alloc|apply IsS76.drewN|apply IsS76.drew|apply IsS76.set_1|apply IsS76.set_2|refine IsS76.far ?_ NB0_241.out _|(apply IsS76.far;case hne => exact NB0_241.out))|exact HI0.out));done)|((simp only [*]);(repeat (first|(with_reducible first|exact HI0.out|apply IsS76.alloc|apply IsS76.drewN|apply IsS76.drew|apply IsS76.set_1|apply IsS76.set_2|refine IsS76.far ?_ NB0_241.out _|(apply IsS76.far;case hne => exact NB0_241.out))|exact HI0.out)))) hb);have n1_:=Aside0.mk (blk_below (g:=gb241) (o := .cells #[.int .i64 0, .int .i64 0, .string (⟨#[]⟩ : ByteArray), .int .i64 0, .slice none 0 0] 24 (0,0)) (by (with_reducible repeat (first|refine blk_drewN ?_ _|refine blk_drew ?_|refine blk_alloc ?_ _));exact BK241.out) hb);have n2_:=Aside0.mk (KeepBut.trans (by repeat (first|(with_reducible first|exact HK.out|apply KeepBut.set_|apply keep_drewN|apply keep_drew|apply keep_alloc|refine keep_far ?_ GW241.out _)|exact HK.out)) (KeepBut.of_below hb g none) (.inl rfl));have n3_:=Aside0.mk (below_step (by repeat (first|(with_reducible first|exact HB.out|apply below_alloc|apply pw_below_drewN|apply below_drew1|refine below_set ?_ (IsS76.ge HI0.out)|refine below_set ?_ GE241.out)|exact HB.out)) hb);have n4_:=Aside0.mk (hbox);have n5_:=Aside0.mk ((by rw [hg];exact (keep_size (w:=w) (g:=g) (row:=none) (by repeat (first|(with_reducible first|exact HK.out|apply KeepBut.set_|apply keep_drewN|apply keep_drew|apply keep_alloc|refine keep_far ?_ GW241.out _)|exact HK.out))) : w.heap.size ≤ gb246));have n6_:=Aside0.mk ((Nat.le_trans HW0.out (by rw [hg];exact (keep_size (w:=w) (g:=g) (row:=none) (by repeat (first|(with_reducible first|exact HK.out|apply KeepBut.set_|apply keep_drewN|apply keep_drew|apply keep_alloc|refine keep_far ?_ GW241.out _)|exact HK.out))) : w.heap.size ≤ gb246) : w0.heap.size ≤ gb246));have n7_:=Aside0.mk ((by rw [hg];exact Nat.ne_of_lt (blk_lt (g:=gb241) (o := .cells #[.int .i64 0, .int .i64 0, .string (⟨#[]⟩ : ByteArray), .int .i64 0, .slice none 0 0] 24 (0,0)) (by (with_reducible repeat (first|refine blk_drewN ?_ _|refine blk_drew ?_|refine blk_alloc ?_ _));exact BK241.out)) : gb241 ≠ gb246));have n8_:=Aside0.mk ((by rw [hg];exact Nat.ne_of_gt (blk_lt (g:=gb241) (o := .cells #[.int .i64 0, .int .i64 0, .string (⟨#[]⟩ : ByteArray), .int .i64 0, .slice none 0 0] 24 (0,0)) (by (with_reducible repeat (first|refine blk_drewN ?_ _|refine blk_drew ?_|refine blk_alloc ?_ _));exact BK241.out)) : gb246 ≠ gb241));have n9_:=Aside0.mk ((by rw [hg];exact Nat.ne_of_lt (IsS76.lt (show IsS76 w0 _ g t243 t244 t245 from by first|((repeat (first|(with_reducible first|exact HI0.out|apply IsS76.alloc|apply IsS76.drewN|apply IsS76.drew|apply IsS76.set_1|apply IsS76.set_2|refine IsS76.far ?_ NB0_241.out _|(apply IsS76.far;case hne => exact NB0_241.out))|exact HI0.out));done)|((simp only [*]);(repeat (first|(with_reducible first|exact HI0.out|apply IsS76.alloc|apply IsS76.drewN|apply IsS76.drew|apply IsS76.set_1|apply IsS76.set_2|refine IsS76.far ?_ NB0_241.out _|(apply IsS76.far;case hne => exact NB0_241.out))|exact HI0.out))))) : g ≠ gb246));have n10_:=Aside0.mk ((by rw [hg];exact Nat.ne_of_gt (IsS76.lt (show IsS76 w0 _ g t243 t244 t245 from by first|((repeat (first|(with_reducible first|exact HI0.out|apply IsS76.alloc|apply IsS76.drewN|apply IsS76.drew|apply IsS76.set_1|apply IsS76.set_2|refine IsS76.far ?_ NB0_241.out _|(apply IsS76.far;case hne => exact NB0_241.out))|exact HI0.out));done)|((simp only [*]);(repeat (first|(with_reducible first|exact HI0.out|apply IsS76.alloc|apply IsS76.drewN|apply IsS76.drew|apply IsS76.set_1|apply IsS76.set_2|refine IsS76.far ?_ NB0_241.out _|(apply IsS76.far;case hne => exact NB0_241.out))|exact HI0.out))))) : gb246 ≠ g));clear HI0;clear BK241;clear HK;clear HB;have HI0:=n0_;have BK241:=n1_;have HK:=n2_;have HB:=n3_;have BK246:=n4_;have GW246:=n5_;have GE246:=n6_;have NB241_246:=n7_;have NB246_241:=n8_;have NB0_246:=n9_;have NB246_0:=n10_;clear n0_ n1_ n2_ n3_ n4_ n5_ n6_ n7_ n8_ n9_ n10_;clear hb hbox hg;have hnb60:=NB246_241.out;have hnc60:=NB241_246.out;have hnb61:=NB246_0.out;have hnc61:=NB0_246.out;have hcz62_0 : w59.cell? ⟨gb246,0,none⟩ = some (.int .i64 0):=(blk_cell BK246.out 0).trans rfl;have hcz62_1 : w59.cell? ⟨gb246,1,none⟩ = some (.int .i64 0):=(blk_cell BK246.out 1).trans rfl;have hcz62_2 : w59.cell? ⟨gb246,2,none⟩ = some (.string (⟨#[]⟩ : ByteArray)):=(blk_cell BK246.out 2).trans rfl;have hcz62_3 : w59.cell? ⟨gb246,3,none⟩ = some (.int .i64 0):=(blk_cell BK246.out 3).trans rfl;have hcz62_4 : w59.cell? ⟨gb246,4,none⟩ = some (.slice none 0 0):=(blk_cell BK246.out 4).trans rfl;have hfz62_0:=blk_frozen BK246.out 0;have hfz62_1:=blk_frozen BK246.out 1;have hfz62_2:=blk_frozen BK246.out 2;have hfz62_3:=blk_frozen BK246.out 3;have hfz62_4:=blk_frozen BK246.out 4))
     (try simp only [Act.put,List.setIfInBounds_toArray,List.set_cons_zero,List.set_cons_succ])
     go_cut [] (fun wc => ∃ (kq : Nat) (x1002_55 : Bool),Aside0 (codec_reader_value.j0 kq t243 t244 x1002_55 (wrap64 (t242)) 0 (⟨#[]⟩ : ByteArray) 0 = some (r1,r2,r3,r4,r5,r6,r7,r8)) ∧ Aside0 (kq ≤ k) ∧ Aside0 (wc.heap[gb241]? = some (.cells #[.int .i64 0, .int .i64 0, .string (⟨#[]⟩ : ByteArray), .int .i64 0,(.slice none 0 0)] 24 (0,0))) ∧ Aside0 (wc.heap[gb246]? = some (.cells #[.int .i64 (wrap64 (t242)), .int .i64 0, .string (⟨#[]⟩ : ByteArray), .int .i64 0,(.slice none 0 0)] 24 (0,0))) ∧ Aside0 (IsS76 w0 wc g t243 t244 x1002_55) ∧ Aside0 (KeepBut w wc g none) ∧ Aside0 (Below w0.heap.size w0 wc))
     case first =>
      have H:=HC56.out
      clear HC56
      by_cases c63 : t245 = true
      ·subst c63
       have H1 : (codec_reader_value.j0 k t243 t244 true (wrap64 (t242)) 0 (⟨#[]⟩ : ByteArray) 0) = some (r1,r2,r3,r4,r5,r6,r7,r8):=by rw [if_pos rfl] at H;exact H
       clear H
       have H:=H1
       clear H1
       have H':=Aside0.mk H
       clear H
       obtain ⟨ASz64_0,cSz64_0,HGz64,hgz64,HSz64_0,hlSz64_0⟩:=HI0.out
       have hcz64_0:=cellS76_0 HGz64
       have hcz64_1:=cellS76_1 HGz64
       have hcz64_2:=cellS76_2 HGz64
       have hfz64_0:=blk_frozen HGz64 0
       have hfz64_1:=blk_frozen HGz64 1
       have hfz64_2:=blk_frozen HGz64 2
       clear HGz64 hgz64
       go_wp2
       go_meet
       case rel => exact ⟨_,(true),H',⟨by first|omega|exact Nat.le_refl _⟩,⟨by (with_reducible repeat (first|refine blk_drewN ?_ _|refine blk_drew ?_|refine blk_alloc ?_ _));refine blk_far ?_ NB241_0.out _;(with_reducible repeat (first|refine blk_drewN ?_ _|refine blk_drew ?_|refine blk_alloc ?_ _));refine blk_far ?_ NB241_246.out _;(with_reducible repeat (first|refine blk_drewN ?_ _|refine blk_drew ?_|refine blk_alloc ?_ _));refine blk_far ?_ NB241_246.out _;(with_reducible repeat (first|refine blk_drewN ?_ _|refine blk_drew ?_|refine blk_alloc ?_ _));refine blk_far ?_ NB241_246.out _;(with_reducible repeat (first|refine blk_drewN ?_ _|refine blk_drew ?_|refine blk_alloc ?_ _));refine blk_far ?_ NB241_246.out _;(with_reducible repeat (first|refine blk_drewN ?_ _|refine blk_drew ?_|refine blk_alloc ?_ _));refine blk_far ?_ NB241_246.out _;(with_reducible repeat (first|refine blk_drewN ?_ _|refine blk_drew ?_|refine blk_alloc ?_ _));exact BK241.out⟩,⟨by (with_reducible repeat (first|refine blk_drewN ?_ _|refine blk_drew ?_|refine blk_alloc ?_ _));refine blk_far ?_ NB246_0.out _;(with_reducible repeat (first|refine blk_drewN ?_ _|refine blk_drew ?_|refine blk_alloc ?_ _));refine blk_put (cs:=#[.int .i64 (wrap64 (t242)), .int .i64 0, .string (⟨#[]⟩ : ByteArray), .int .i64 0, .slice none 0 0]) ?_ 4 _ rfl;(with_reducible repeat (first|refine blk_drewN ?_ _|refine blk_drew ?_|refine blk_alloc ?_ _));refine blk_put (cs:=#[.int .i64 (wrap64 (t242)), .int .i64 0, .string (⟨#[]⟩ : ByteArray), .int .i64 0, .slice none 0 0]) ?_ 3 _ rfl;(with_reducible repeat (first|refine blk_drewN ?_ _|refine blk_drew ?_|refine blk_alloc ?_ _));refine blk_put (cs:=#[.int .i64 (wrap64 (t242)), .int .i64 0, .string (⟨#[]⟩ : ByteArray), .int .i64 0, .slice none 0 0]) ?_ 2 _ rfl;(with_reducible repeat (first|refine blk_drewN ?_ _|refine blk_drew ?_|refine blk_alloc ?_ _));refine blk_put (cs:=#[.int .i64 (wrap64 (t242)), .int .i64 0, .string (⟨#[]⟩ : ByteArray), .int .i64 0, .slice none 0 0]) ?_ 1 _ rfl;(with_reducible repeat (first|refine blk_drewN ?_ _|refine blk_drew ?_|refine blk_alloc ?_ _));refine blk_put (cs:=#[.int .i64 0, .int .i64 0, .string (⟨#[]⟩ : ByteArray), .int .i64 0, .slice none 0 0]) ?_ 0 _ rfl;(with_reducible repeat (first|refine blk_drewN ?_ _|refine blk_drew ?_|refine blk_alloc ?_ _));exact BK246.out⟩,⟨by first|((repeat (first|(with_reducible first|exact HI0.out|apply IsS76.alloc|apply IsS76.drewN|apply IsS76.drew|apply IsS76.set_1|apply IsS76.set_2|refine IsS76.far ?_ NB0_241.out _|(apply IsS76.far;case hne => exact NB0_241.out)|refine IsS76.far ?_ NB0_246.out _|(apply IsS76.far;case hne => exact NB0_246.out))|exact HI0.out));done)|((simp only [*]);(repeat (first|(with_reducible first|exact HI0.out|apply IsS76.alloc|apply IsS76.drewN|apply IsS76.drew|apply IsS76.set_1|apply IsS76.set_2|refine IsS76.far ?_ NB0_241.out _|(apply IsS76.far;case hne => exact NB0_241.out)|refine IsS76.far ?_ NB0_246.out _|(apply IsS76.far;case hne => exact NB0_246.out))|exact HI0.out)))⟩,⟨by repeat (first|(with_reducible first|exact HK.out|apply KeepBut.set_|apply keep_drewN|apply keep_drew|apply keep_alloc|refine keep_far ?_ GW241.out _|refine keep_far ?_ GW246.out _)|exact HK.out)⟩,⟨by repeat (first|(with_reducible first|exact HB.out|apply below_alloc|apply pw_below_drewN|apply below_drew1|refine below_set ?_ (IsS76.ge HI0.out)|refine below_set ?_ GE241.out|refine below_set ?_ GE246.out)|exact HB.out)⟩⟩
      ·replace c63:=Bool.eq_false_iff.mpr c63
       subst c63
       have H1 : (codec_reader_value.j0 k t243 t244 a1 (wrap64 (t242)) 0 (⟨#[]⟩ : ByteArray) 0) = some (r1,r2,r3,r4,r5,r6,r7,r8):=by rw [if_neg (show ¬ (false = true) by decide)] at H;exact H
       clear H
       have H:=H1
       clear H1
       have H':=Aside0.mk H
       clear H
       obtain ⟨ASz65_0,cSz65_0,HGz65,hgz65,HSz65_0,hlSz65_0⟩:=HI0.out
       have hcz65_0:=cellS76_0 HGz65
       have hcz65_1:=cellS76_1 HGz65
       have hcz65_2:=cellS76_2 HGz65
       have hfz65_0:=blk_frozen HGz65 0
       have hfz65_1:=blk_frozen HGz65 1
       have hfz65_2:=blk_frozen HGz65 2
       clear HGz65 hgz65
       go_wp2
       go_meet
       case rel => exact ⟨_,(a1),H',⟨by first|omega|exact Nat.le_refl _⟩,⟨by (with_reducible repeat (first|refine blk_drewN ?_ _|refine blk_drew ?_|refine blk_alloc ?_ _));refine blk_far ?_ NB241_0.out _;(with_reducible repeat (first|refine blk_drewN ?_ _|refine blk_drew ?_|refine blk_alloc ?_ _));refine blk_far ?_ NB241_246.out _;(with_reducible repeat (first|refine blk_drewN ?_ _|refine blk_drew ?_|refine blk_alloc ?_ _));refine blk_far ?_ NB241_246.out _;(with_reducible repeat (first|refine blk_drewN ?_ _|refine blk_drew ?_|refine blk_alloc ?_ _));refine blk_far ?_ NB241_246.out _;(with_reducible repeat (first|refine blk_drewN ?_ _|refine blk_drew ?_|refine blk_alloc ?_ _));refine blk_far ?_ NB241_246.out _;(with_reducible repeat (first|refine blk_drewN ?_ _|refine blk_drew ?_|refine blk_alloc ?_ _));refine blk_far ?_ NB241_246.out _;(with_reducible repeat (first|refine blk_drewN ?_ _|refine blk_drew ?_|refine blk_alloc ?_ _));exact BK241.out⟩,⟨by (with_reducible repeat (first|refine blk_drewN ?_ _|refine blk_drew ?_|refine blk_alloc ?_ _));refine blk_far ?_ NB246_0.out _;(with_reducible repeat (first|refine blk_drewN ?_ _|refine blk_drew ?_|refine blk_alloc ?_ _));refine blk_put (cs:=#[.int .i64 (wrap64 (t242)), .int .i64 0, .string (⟨#[]⟩ : ByteArray), .int .i64 0, .slice none 0 0]) ?_ 4 _ rfl;(with_reducible repeat (first|refine blk_drewN ?_ _|refine blk_drew ?_|refine blk_alloc ?_ _));refine blk_put (cs:=#[.int .i64 (wrap64 (t242)), .int .i64 0, .string (⟨#[]⟩ : ByteArray), .int .i64 0, .slice none 0 0]) ?_ 3 _ rfl;(with_reducible repeat (first|refine blk_drewN ?_ _|refine blk_drew ?_|refine blk_alloc ?_ _));refine blk_put (cs:=#[.int .i64 (wrap64 (t242)), .int .i64 0, .string (⟨#[]⟩ : ByteArray), .int .i64 0, .slice none 0 0]) ?_ 2 _ rfl;(with_reducible repeat (first|refine blk_drewN ?_ _|refine blk_drew ?_|refine blk_alloc ?_ _));refine blk_put (cs:=#[.int .i64 (wrap64 (t242)), .int .i64 0, .string (⟨#[]⟩ : ByteArray), .int .i64 0, .slice none 0 0]) ?_ 1 _ rfl;(with_reducible repeat (first|refine blk_drewN ?_ _|refine blk_drew ?_|refine blk_alloc ?_ _));refine blk_put (cs:=#[.int .i64 0, .int .i64 0, .string (⟨#[]⟩ : ByteArray), .int .i64 0, .slice none 0 0]) ?_ 0 _ rfl;(with_reducible repeat (first|refine blk_drewN ?_ _|refine blk_drew ?_|refine blk_alloc ?_ _));exact BK246.out⟩,⟨by first|((repeat (first|(with_reducible first|exact HI0.out|apply IsS76.alloc|apply IsS76.drewN|apply IsS76.drew|apply IsS76.set_1|apply IsS76.set_2|refine IsS76.far ?_ NB0_241.out _|(apply IsS76.far;case hne => exact NB0_241.out)|refine IsS76.far ?_ NB0_246.out _|(apply IsS76.far;case hne => exact NB0_246.out))|exact HI0.out));done)|((simp only [*]);(repeat (first|(with_reducible first|exact HI0.out|apply IsS76.alloc|apply IsS76.drewN|apply IsS76.drew|apply IsS76.set_1|apply IsS76.set_2|refine IsS76.far ?_ NB0_241.out _|(apply IsS76.far;case hne => exact NB0_241.out)|refine IsS76.far ?_ NB0_246.out _|(apply IsS76.far;case hne => exact NB0_246.out))|exact HI0.out)))⟩,⟨by repeat (first|(with_reducible first|exact HK.out|apply KeepBut.set_|apply keep_drewN|apply keep_drew|apply keep_alloc|refine keep_far ?_ GW241.out _|refine keep_far ?_ GW246.out _)|exact HK.out)⟩,⟨by repeat (first|(with_reducible first|exact HB.out|apply below_alloc|apply pw_below_drewN|apply below_drew1|refine below_set ?_ (IsS76.ge HI0.out)|refine below_set ?_ GE241.out|refine below_set ?_ GE246.out)|exact HB.out)⟩⟩
     case rest =>
      clear HC56
      try clear c1
      try clear c2
      try clear p2
      try clear c3
      try clear c4
      try clear c4b0
      try clear c4b1
      try clear c5
      try clear c6
      try clear p6
      try clear c10
      try clear c11
      try clear c16
      try clear c18
      try clear c18b0
      try clear c18b1
      try clear c23
      try clear c24
      try clear c28
      try clear c30
      try clear c30b0
      try clear c30b1
      try clear c32
      try clear c36
      try clear c37
      try clear c39
      try clear c42
      try clear c43
      try clear c46
      try clear c47
      try clear c48
      try clear c53
      try clear c55
      try clear c55b0
      try clear c55b1
      try clear c60
      try clear c61
      try clear c63
      try clear p64
      try clear hcz12_0
      try clear hcz12_1
      try clear hcz12_2
      try clear hcz12_3
      try clear hcz12_4
      try clear hcz13_0
      try clear hcz13_1
      try clear hcz13_2
      try clear hcz15_0
      try clear hcz15_1
      try clear hcz15_2
      try clear hcz15_3
      try clear hcz15_4
      try clear hcz17_0
      try clear hcz17_1
      try clear hcz17_2
      try clear hcz17_3
      try clear hcz17_4
      try clear hcz25_0
      try clear hcz25_1
      try clear hcz25_2
      try clear hcz25_3
      try clear hcz25_4
      try clear hcz27_0
      try clear hcz27_1
      try clear hcz27_2
      try clear hcz27_3
      try clear hcz27_4
      try clear hcz29_0
      try clear hcz29_1
      try clear hcz29_2
      try clear hcz29_3
      try clear hcz29_4
      try clear hcz38_0
      try clear hcz38_1
      try clear hcz38_2
      try clear hcz38_3
      try clear hcz38_4
      try clear hcz40_0
      try clear hcz40_1
      try clear hcz40_2
      try clear hcz40_3
      try clear hcz40_4
      try clear hcz41_0
      try clear hcz41_1
      try clear hcz41_2
      try clear hcz43_0
      try clear hcz43_1
      try clear hcz43_2
      try clear hcz43_3
      try clear hcz43_4
      try clear hcz49_0
      try clear hcz49_1
      try clear hcz49_2
      try clear hcz49_3
      try clear hcz49_4
      try clear hcz51_0
      try clear hcz51_1
      try clear hcz51_2
      try clear hcz51_3
      try clear hcz51_4
      try clear hcz52_0
      try clear hcz52_1
      try clear hcz52_2
      try clear hcz54_0
      try clear hcz54_1
      try clear hcz54_2
      try clear hcz54_3
      try clear hcz54_4
      try clear hcz62_0
      try clear hcz62_1
      try clear hcz62_2
      try clear hcz62_3
      try clear hcz62_4
      try clear hcz64_0
      try clear hcz64_1
      try clear hcz64_2
      try clear hcz65_0
      try clear hcz65_1
      try clear hcz65_2
      try clear hfz12_0
      try clear hfz12_1
      try clear hfz12_2
      try clear hfz12_3
      try clear hfz12_4
      try clear hfz13_0
      try clear hfz13_1
      try clear hfz13_2
      try clear hfz15_0
      try clear hfz15_1
      try clear hfz15_2
      try clear hfz15_3
      try clear hfz15_4
      try clear hfz17_0
      try clear hfz17_1
      try clear hfz17_2
      try clear hfz17_3
      try clear hfz17_4
      try clear hfz25_0
      try clear hfz25_1
      try clear hfz25_2
      try clear hfz25_3
      try clear hfz25_4
      try clear hfz27_0
      try clear hfz27_1
      try clear hfz27_2
      try clear hfz27_3
      try clear hfz27_4
      try clear hfz29_0
      try clear hfz29_1
      try clear hfz29_2
      try clear hfz29_3
      try clear hfz29_4
      try clear hfz38_0
      try clear hfz38_1
      try clear hfz38_2
      try clear hfz38_3
      try clear hfz38_4
      try clear hfz40_0
      try clear hfz40_1
      try clear hfz40_2
      try clear hfz40_3
      try clear hfz40_4
      try clear hfz41_0
      try clear hfz41_1
      try clear hfz41_2
      try clear hfz43_0
      try clear hfz43_1
      try clear hfz43_2
      try clear hfz43_3
      try clear hfz43_4
      try clear hfz49_0
      try clear hfz49_1
      try clear hfz49_2
      try clear hfz49_3
      try clear hfz49_4
      try clear hfz51_0
      try clear hfz51_1
      try clear hfz51_2
      try clear hfz51_3
      try clear hfz51_4
      try clear hfz52_0
      try clear hfz52_1
      try clear hfz52_2
      try clear hfz54_0
      try clear hfz54_1
      try clear hfz54_2
      try clear hfz54_3
      try clear hfz54_4
      try clear hfz62_0
      try clear hfz62_1
      try clear hfz62_2
      try clear hfz62_3
      try clear hfz62_4
      try clear hfz64_0
      try clear hfz64_1
      try clear hfz64_2
      try clear hfz65_0
      try clear hfz65_1
      try clear hfz65_2
      obtain ⟨kq,x1002_55,HA,HJ55,BK241,BK246,HI0,HK,HB⟩:=hcut
      cases kq with
      | zero => exact absurd HA.out (by simp [codec_reader_value.j0])
      | succ kj55 =>
       have H:=HA.out
       clear HA
       simp only [codec_reader_value.j0] at H
       replace H:=Option.bind_eq_some_iff.mp H
       obtain ⟨⟨t261,t262,t263,t264⟩,A660,H⟩:=H
       replace H : ((codec_reader_count.f kj55 t262 t263 t264 12).bind fun bt265 => (codec_reader_value.l0 kj55 bt265.1 0 bt265.2.1 bt265.2.2.1 bt265.2.2.2 (wrap64 (t242)) 0 (⟨#[]⟩ : ByteArray) t261 ([] : List (S24)))) = some (r1,r2,r3,r4,r5,r6,r7,r8):=H
       have A66:=Aside0.mk A660
       clear A660
       replace H:=Option.bind_eq_some_iff.mp H
       obtain ⟨⟨t265,t266,t267,t268⟩,A670,H⟩:=H
       replace H : (codec_reader_value.l0 kj55 t265 0 t266 t267 t268 (wrap64 (t242)) 0 (⟨#[]⟩ : ByteArray) t261 ([] : List (S24))) = some (r1,r2,r3,r4,r5,r6,r7,r8):=H
       have A67:=Aside0.mk A670
       clear A670
       have H':=Aside0.mk H
       clear H
       go_wp2_with (first|((with_reducible refine gate_callee (f:=44) rfl ?_);refine goesL_ (some 71) rfl rfl Try.func44 (by kernel_rfl) rfl #[.pointer (some ⟨g,0,none⟩), .int .u64 15] rfl (by (try simp only [List.map_toArray,List.map_cons,List.map_nil]);first|done|rfl|(simp only [List.length_drop,List.length_take];rfl)|(go_simp;done)|(go_simp;simp;done)) ?_;(with_reducible refine (codec_reader_count.calls kj55 g t243 t244 x1002_55 15 t261 t262 t263 t264 w0 _ ?side1 ?side2 A66.out).mono ?_);(case side1 => first|((repeat (first|(with_reducible first|exact HI0.out|apply IsS76.alloc|apply IsS76.drewN|apply IsS76.drew|apply IsS76.set_1|apply IsS76.set_2|refine IsS76.far ?_ NB0_241.out _|(apply IsS76.far;case hne => exact NB0_241.out)|refine IsS76.far ?_ NB0_246.out _|(apply IsS76.far;case hne => exact NB0_246.out))|exact HI0.out));done)|((simp only [*]);(repeat (first|(with_reducible first|exact HI0.out|apply IsS76.alloc|apply IsS76.drewN|apply IsS76.drew|apply IsS76.set_1|apply IsS76.set_2|refine IsS76.far ?_ NB0_241.out _|(apply IsS76.far;case hne => exact NB0_241.out)|refine IsS76.far ?_ NB0_246.out _|(apply IsS76.far;case hne => exact NB0_246.out))|exact HI0.out))));(case side2 => repeat (first|(with_reducible first|exact HB.out|apply below_alloc|apply pw_below_drewN|apply below_drew1|refine below_set ?_ (IsS76.ge HI0.out)|refine below_set ?_ GE241.out|refine below_set ?_ GE246.out)|exact HB.out));rintro e w68 ⟨rfl,hi,hb,hk⟩;refine ⟨_,rfl,?_⟩;have n0_:=Aside0.mk (KeepBut.blk hk (g':=gb241) (o := .cells #[.int .i64 0, .int .i64 0, .string (⟨#[]⟩ : ByteArray), .int .i64 0, .slice none 0 0] 24 (0,0)) (by (with_reducible repeat (first|refine blk_drewN ?_ _|refine blk_drew ?_|refine blk_alloc ?_ _));exact BK241.out) NB241_0.out (by simp));have n1_:=Aside0.mk (KeepBut.blk hk (g':=gb246) (o := .cells #[.int .i64 (wrap64 (t242)), .int .i64 0, .string (⟨#[]⟩ : ByteArray), .int .i64 0, .slice none 0 0] 24 (0,0)) (by (with_reducible repeat (first|refine blk_drewN ?_ _|refine blk_drew ?_|refine blk_alloc ?_ _));exact BK246.out) NB246_0.out (by simp));have n2_:=Aside0.mk (KeepBut.trans (by repeat (first|(with_reducible first|exact HK.out|apply KeepBut.set_|apply keep_drewN|apply keep_drew|apply keep_alloc|refine keep_far ?_ GW241.out _|refine keep_far ?_ GW246.out _)|exact HK.out)) hk (.inl rfl));have n3_:=Aside0.mk (hb);have n4_:=Aside0.mk (hi);clear BK241;clear BK246;clear HK;clear HB;clear HI0;have BK241:=n0_;have BK246:=n1_;have HK:=n2_;have HB:=n3_;have HI0:=n4_;clear n0_ n1_ n2_ n3_ n4_;(try clear hb);(try clear hb2);(try clear hk);(try clear hi);have hnb69:=NB246_241.out;have hnc69:=NB241_246.out;have hnb70:=NB246_0.out;have hnc70:=NB0_246.out;have hcz71_0 : w68.cell? ⟨gb246,0,none⟩ = some (.int .i64 (wrap64 (t242))):=(blk_cell BK246.out 0).trans rfl;have hcz71_1 : w68.cell? ⟨gb246,1,none⟩ = some (.int .i64 0):=(blk_cell BK246.out 1).trans rfl;have hcz71_2 : w68.cell? ⟨gb246,2,none⟩ = some (.string (⟨#[]⟩ : ByteArray)):=(blk_cell BK246.out 2).trans rfl;have hcz71_3 : w68.cell? ⟨gb246,3,none⟩ = some (.int .i64 0):=(blk_cell BK246.out 3).trans rfl;have hcz71_4 : w68.cell? ⟨gb246,4,none⟩ = some (.slice none 0 0):=(blk_cell BK246.out 4).trans rfl;have hfz71_0:=blk_frozen BK246.out 0;have hfz71_1:=blk_frozen BK246.out 1;have hfz71_2:=blk_frozen BK246.out 2;have hfz71_3:=blk_frozen BK246.out 3;have hfz71_4:=blk_frozen BK246.out 4)|((with_reducible refine gate_callee (f:=44) rfl ?_);refine goesL_ (some 74) rfl rfl Try.func44 (by kernel_rfl) rfl #[.pointer (some ⟨g,0,none⟩), .int .u64 12] rfl (by (try simp only [List.map_toArray,List.map_cons,List.map_nil]);first|done|rfl|(simp only [List.length_drop,List.length_take];rfl)|(go_simp;done)|(go_simp;simp;done)) ?_;(with_reducible refine (codec_reader_count.calls kj55 g t262 t263 t264 12 t265 t266 t267 t268 w0 _ ?side1 ?side2 A67.out).mono ?_);(case side1 => first|((repeat (first|(with_reducible first|exact HI0.out|apply IsS76.alloc|apply IsS76.drewN|apply IsS76.drew|apply IsS76.set_1|apply IsS76.set_2|refine IsS76.far ?_ NB0_241.out _|(apply IsS76.far;case hne => exact NB0_241.out)|refine IsS76.far ?_ NB0_246.out _|(apply IsS76.far;case hne => exact NB0_246.out))|exact HI0.out));done)|((simp only [*]);(repeat (first|(with_reducible first|exact HI0.out|apply IsS76.alloc|apply IsS76.drewN|apply IsS76.drew|apply IsS76.set_1|apply IsS76.set_2|refine IsS76.far ?_ NB0_241.out _|(apply IsS76.far;case hne => exact NB0_241.out)|refine IsS76.far ?_ NB0_246.out _|(apply IsS76.far;case hne => exact NB0_246.out))|exact HI0.out))));(case side2 => repeat (first|(with_reducible first|exact HB.out|apply below_alloc|apply pw_below_drewN|apply below_drew1|refine below_set ?_ (IsS76.ge HI0.out)|refine below_set ?_ GE241.out|refine below_set ?_ GE246.out)|exact HB.out));rintro e w72 ⟨rfl,hi,hb,hk⟩;refine ⟨_,rfl,?_⟩;have n0_:=Aside0.mk (KeepBut.blk hk (g':=gb241) (o := .cells #[.int .i64 0, .int .i64 0, .string (⟨#[]⟩ : ByteArray), .int .i64 0, .slice none 0 0] 24 (0,0)) (by (with_reducible repeat (first|refine blk_drewN ?_ _|refine blk_drew ?_|refine blk_alloc ?_ _));refine blk_far ?_ NB241_246.out _;(with_reducible repeat (first|refine blk_drewN ?_ _|refine blk_drew ?_|refine blk_alloc ?_ _));exact BK241.out) NB241_0.out (by simp));have n1_:=Aside0.mk (KeepBut.blk hk (g':=gb246) (o := .cells #[.int .i64 (wrap64 (t242)), .int .i64 0, .string (⟨#[]⟩ : ByteArray), .int .i64 t261, .slice none 0 0] 24 (0,0)) (by (with_reducible repeat (first|refine blk_drewN ?_ _|refine blk_drew ?_|refine blk_alloc ?_ _));refine blk_put (cs:=#[.int .i64 (wrap64 (t242)), .int .i64 0, .string (⟨#[]⟩ : ByteArray), .int .i64 0, .slice none 0 0]) ?_ 3 _ rfl;(with_reducible repeat (first|refine blk_drewN ?_ _|refine blk_drew ?_|refine blk_alloc ?_ _));exact BK246.out) NB246_0.out (by simp));have n2_:=Aside0.mk (KeepBut.trans (by repeat (first|(with_reducible first|exact HK.out|apply KeepBut.set_|apply keep_drewN|apply keep_drew|apply keep_alloc|refine keep_far ?_ GW241.out _|refine keep_far ?_ GW246.out _)|exact HK.out)) hk (.inl rfl));have n3_:=Aside0.mk (hb);have n4_:=Aside0.mk (hi);clear BK241;clear BK246;clear HK;clear HB;clear HI0;have BK241:=n0_;have BK246:=n1_;have HK:=n2_;have HB:=n3_;have HI0:=n4_;clear n0_ n1_ n2_ n3_ n4_;(try clear hb);(try clear hb2);(try clear hk);(try clear hi)))
       go_loopg [75] kj55 (fun kq v75 w' => ∃ (x75_2 : Int) (x1000_2 : List Int) (x1001_2 : Int) (x1002_2 : Bool) (x247004_2 : List (S24)) (u247004 : Value),v75 = .int .i64 x75_2 ∧ Aside0 (codec_reader_value.l0 kq t265 x75_2 x1000_2 x1001_2 x1002_2 (wrap64 (t242)) 0 (⟨#[]⟩ : ByteArray) t261 x247004_2 = some (r1,r2,r3,r4,r5,r6,r7,r8)) ∧ Aside0 (kq ≤ kj55) ∧ Aside0 (Kd.R k24 24 w' w.heap.size (fun k_ => k_ ≠ gb241 ∧ k_ ≠ gb246) u247004 x247004_2) ∧ Aside0 (w'.heap[gb241]? = some (.cells #[.int .i64 0, .int .i64 0, .string (⟨#[]⟩ : ByteArray), .int .i64 0,(.slice none 0 0)] 24 (0,0))) ∧ Aside0 (w'.heap[gb246]? = some (.cells #[.int .i64 (wrap64 (t242)), .int .i64 0, .string (⟨#[]⟩ : ByteArray), .int .i64 t261,u247004] 24 (0,0))) ∧ Aside0 (IsS76 w0 w' g x1000_2 x1001_2 x1002_2) ∧ Aside0 (KeepBut w w' g none) ∧ Aside0 (Below w0.heap.size w0 w'))
       case atStart => exact ⟨(0),(t266),(t267),(t268),(([] : List (S24))),(.slice none 0 0),(by first|rfl|(simp;done)|(simp [*];done)),H',⟨Nat.le_refl _⟩,⟨by first|exact Kd.R_nil _ _ _ _ _|exact Kd.N_nil _ _ _ _ _|exact Kd.V_nil _ _ _ _ _|exact Kd.Q_nil _ _ _ _ _|exact Kd.S_nil _ _ _ _ _⟩,⟨by (with_reducible repeat (first|refine blk_drewN ?_ _|refine blk_drew ?_|refine blk_alloc ?_ _));exact BK241.out⟩,⟨by (with_reducible repeat (first|refine blk_drewN ?_ _|refine blk_drew ?_|refine blk_alloc ?_ _));exact BK246.out⟩,⟨by first|((repeat (first|(with_reducible first|exact HI0.out|apply IsS76.alloc|apply IsS76.drewN|apply IsS76.drew|apply IsS76.set_1|apply IsS76.set_2|refine IsS76.far ?_ NB0_241.out _|(apply IsS76.far;case hne => exact NB0_241.out)|refine IsS76.far ?_ NB0_246.out _|(apply IsS76.far;case hne => exact NB0_246.out))|exact HI0.out));done)|((simp only [*]);(repeat (first|(with_reducible first|exact HI0.out|apply IsS76.alloc|apply IsS76.drewN|apply IsS76.drew|apply IsS76.set_1|apply IsS76.set_2|refine IsS76.far ?_ NB0_241.out _|(apply IsS76.far;case hne => exact NB0_241.out)|refine IsS76.far ?_ NB0_246.out _|(apply IsS76.far;case hne => exact NB0_246.out))|exact HI0.out)))⟩,⟨by repeat (first|(with_reducible first|exact HK.out|apply KeepBut.set_|apply keep_drewN|apply keep_drew|apply keep_alloc|refine keep_far ?_ GW241.out _|refine keep_far ?_ GW246.out _)|exact HK.out)⟩,⟨by repeat (first|(with_reducible first|exact HB.out|apply below_alloc|apply pw_below_drewN|apply below_drew1|refine below_set ?_ (IsS76.ge HI0.out)|refine below_set ?_ GE241.out|refine below_set ?_ GE246.out)|exact HB.out)⟩⟩
       case round =>
        clear H'
        try clear c1
        try clear c2
        try clear p2
        try clear c3
        try clear c4
        try clear c4b0
        try clear c4b1
        try clear c5
        try clear c6
        try clear p6
        try clear c7
        try clear c10
        try clear c11
        try clear c16
        try clear c18
        try clear c18b0
        try clear c18b1
        try clear c23
        try clear c24
        try clear c28
        try clear c30
        try clear c30b0
        try clear c30b1
        try clear c32
        try clear c36
        try clear c37
        try clear c39
        try clear c42
        try clear c43
        try clear c44
        try clear c46
        try clear c47
        try clear c48
        try clear c53
        try clear c55
        try clear c55b0
        try clear c55b1
        try clear c60
        try clear c61
        try clear c63
        try clear p64
        try clear c69
        try clear c70
        try clear hcz12_0
        try clear hcz12_1
        try clear hcz12_2
        try clear hcz12_3
        try clear hcz12_4
        try clear hcz13_0
        try clear hcz13_1
        try clear hcz13_2
        try clear hcz15_0
        try clear hcz15_1
        try clear hcz15_2
        try clear hcz15_3
        try clear hcz15_4
        try clear hcz17_0
        try clear hcz17_1
        try clear hcz17_2
        try clear hcz17_3
        try clear hcz17_4
        try clear hcz25_0
        try clear hcz25_1
        try clear hcz25_2
        try clear hcz25_3
        try clear hcz25_4
        try clear hcz27_0
        try clear hcz27_1
        try clear hcz27_2
        try clear hcz27_3
        try clear hcz27_4
        try clear hcz29_0
        try clear hcz29_1
        try clear hcz29_2
        try clear hcz29_3
        try clear hcz29_4
        try clear hcz38_0
        try clear hcz38_1
        try clear hcz38_2
        try clear hcz38_3
        try clear hcz38_4
        try clear hcz40_0
        try clear hcz40_1
        try clear hcz40_2
        try clear hcz40_3
        try clear hcz40_4
        try clear hcz41_0
        try clear hcz41_1
        try clear hcz41_2
        try clear hcz43_0
        try clear hcz43_1
        try clear hcz43_2
        try clear hcz43_3
        try clear hcz43_4
        try clear hcz49_0
        try clear hcz49_1
        try clear hcz49_2
        try clear hcz49_3
        try clear hcz49_4
        try clear hcz51_0
        try clear hcz51_1
        try clear hcz51_2
        try clear hcz51_3
        try clear hcz51_4
        try clear hcz52_0
        try clear hcz52_1
        try clear hcz52_2
        try clear hcz54_0
        try clear hcz54_1
        try clear hcz54_2
        try clear hcz54_3
        try clear hcz54_4
        try clear hcz62_0
        try clear hcz62_1
        try clear hcz62_2
        try clear hcz62_3
        try clear hcz62_4
        try clear hcz64_0
        try clear hcz64_1
        try clear hcz64_2
        try clear hcz65_0
        try clear hcz65_1
        try clear hcz65_2
        try clear hcz71_0
        try clear hcz71_1
        try clear hcz71_2
        try clear hcz71_3
        try clear hcz71_4
        try clear hfz12_0
        try clear hfz12_1
        try clear hfz12_2
        try clear hfz12_3
        try clear hfz12_4
        try clear hfz13_0
        try clear hfz13_1
        try clear hfz13_2
        try clear hfz15_0
        try clear hfz15_1
        try clear hfz15_2
        try clear hfz15_3
        try clear hfz15_4
        try clear hfz17_0
        try clear hfz17_1
        try clear hfz17_2
        try clear hfz17_3
        try clear hfz17_4
        try clear hfz25_0
        try clear hfz25_1
        try clear hfz25_2
        try clear hfz25_3
        try clear hfz25_4
        try clear hfz27_0
        try clear hfz27_1
        try clear hfz27_2
        try clear hfz27_3
        try clear hfz27_4
        try clear hfz29_0
        try clear hfz29_1
        try clear hfz29_2
        try clear hfz29_3
        try clear hfz29_4
        try clear hfz38_0
        try clear hfz38_1
        try clear hfz38_2
        try clear hfz38_3
        try clear hfz38_4
        try clear hfz40_0
        try clear hfz40_1
        try clear hfz40_2
        try clear hfz40_3
        try clear hfz40_4
        try clear hfz41_0
        try clear hfz41_1
        try clear hfz41_2
        try clear hfz43_0
        try clear hfz43_1
        try clear hfz43_2
        try clear hfz43_3
        try clear hfz43_4
        try clear hfz49_0
        try clear hfz49_1
        try clear hfz49_2
        try clear hfz49_3
        try clear hfz49_4
        try clear hfz51_0
        try clear hfz51_1
        try clear hfz51_2
        try clear hfz51_3
        try clear hfz51_4
        try clear hfz52_0
        try clear hfz52_1
        try clear hfz52_2
        try clear hfz54_0
        try clear hfz54_1
        try clear hfz54_2
        try clear hfz54_3
        try clear hfz54_4
        try clear hfz62_0
        try clear hfz62_1
        try clear hfz62_2
        try clear hfz62_3
        try clear hfz62_4
        try clear hfz64_0
        try clear hfz64_1
        try clear hfz64_2
        try clear hfz65_0
        try clear hfz65_1
        try clear hfz65_2
        try clear hfz71_0
        try clear hfz71_1
        try clear hfz71_2
        try clear hfz71_3
        try clear hfz71_4
        try clear p2
        try clear p6
        try clear p64
        obtain ⟨x75_2,x1000_2,x1001_2,x1002_2,x247004_2,u247004,rfl,HA,HK2,HO_247004,BK241,BK246,HI0,HK,HB⟩:=hrel
        cases gk with
        | zero => exact absurd HA.out (by simp [codec_reader_value.l0])
        | succ k2 =>
         have H:=HA.out
         clear HA
         simp only [codec_reader_value.l0] at H
         by_cases c73 : x75_2 < t265
         ·rw [if_pos c73] at H
          have c73b0 : decide (x75_2 < t265) = true:=decide_eq_true c73
          clear c73
          replace H:=Option.bind_eq_some_iff.mp H
          obtain ⟨⟨t269,t270,t271,t272,t273,t276,t277,t278⟩,A740,H⟩:=H
          replace H : (if x247004_2.length < 2199023255552 then (codec_reader_value.l0 k2 t265 (wrap64 (x75_2 + 1)) t276 t277 t278 (wrap64 (t242)) 0 (⟨#[]⟩ : ByteArray) t261 (x247004_2 ++ [(⟨t269,t270,t271,t272,t273⟩ : S24)])) else (none)) = some (r1,r2,r3,r4,r5,r6,r7,r8):=H
          have A74:=Aside0.mk A740
          clear A740
          by_cases c75 : x247004_2.length < 2199023255552
          ·rw [if_pos c75] at H
           have LMc75:=Aside0.mk c75
           clear c75
           obtain ⟨y279,hy279⟩ : ∃ y_ : List (S24),y_ = (x247004_2 ++ [(⟨t269,t270,t271,t272,t273⟩ : S24)]):=⟨_,rfl⟩
           replace H : (codec_reader_value.l0 k2 t265 (wrap64 (x75_2 + 1)) t276 t277 t278 (wrap64 (t242)) 0 (⟨#[]⟩ : ByteArray) t261 y279) = some (r1,r2,r3,r4,r5,r6,r7,r8):=by first|(rw [hy279];with_reducible exact H)|(have H2_:=(Option.bind_some _ _).symm.trans H;rw [hy279];with_reducible exact H2_)|(have H2_:=(Option.bind_some _ _).symm.trans H;with_reducible exact H2_)|with_reducible exact H|(rw [hy279];exact H)|exact H
           have Ny279:=Aside0.mk hy279
           clear hy279
           have H':=Aside0.mk H
           clear H
           try go_wp2
           have n0_:=Aside0.mk (Kd.R_drew HO_247004.out)
           have n1_:=Aside0.mk (blk_drew BK241.out)
           have n2_:=Aside0.mk (blk_drew BK246.out)
           have n3_:=Aside0.mk (IsS76.drew HI0.out)
           have n4_:=Aside0.mk (keep_drew HK.out)
           have n5_:=Aside0.mk (below_drew1 HB.out)
           clear HO_247004
           clear BK241
           clear BK246
           clear HI0
           clear HK
           clear HB
           have HO_247004:=n0_
           have BK241:=n1_
           have BK246:=n2_
           have HI0:=n3_
           have HK:=n4_
           have HB:=n5_
           clear n0_ n1_ n2_ n3_ n4_ n5_
           refine start_ (n:=8) (S:=fun w' => w'.cell? ⟨gb246,0,none⟩ = some (.int .i64 (wrap64 (t242))) ∧ w'.cell? ⟨gb246,1,none⟩ = some (.int .i64 0) ∧ w'.cell? ⟨gb246,2,none⟩ = some (.string (⟨#[]⟩ : ByteArray)) ∧ w'.cell? ⟨gb246,3,none⟩ = some (.int .i64 t261) ∧ w'.cell? ⟨gb246,4,none⟩ = some (u247004)) (ds:=[7]) #[false,false,false,false,false,false,false,false] (by kernel_rfl) rfl rfl ⟨(blk_cell BK246.out 0).trans rfl,(blk_cell BK246.out 1).trans rfl,(blk_cell BK246.out 2).trans rfl,(blk_cell BK246.out 3).trans rfl,(blk_cell BK246.out 4).trans rfl⟩ (fun hHeld => ?_);refine with_tabW codec_reader_value.tab18 codec_reader_value.bits18 (fun HT_ HW_ => ?_)
           generalize wr.drew = w76 at HO_247004 BK241 BK246 HI0 HK HB hHeld ⊢
           refine pure_ (i:=0) (N:=some 77) (v:=?_) (a':=?_) #[true,false,false,false,false,false,false,false] rfl rfl (any_of HT_.out (by kernel_rfl)) (fun _ _ _ h => h) (Or.inl ⟨by rfl,?_⟩) ?_ ?_
           rotate_left
           ·intro w'
            go_simp
            with_reducible rfl
           rotate_left
           ·simp only [Act.put,List.setIfInBounds_toArray,List.set_cons_zero,List.set_cons_succ,i64_w,i32_w]
            rfl
           refine pure_ (i:=2) (N:=some 79) (v:=?_) (a':=?_) #[true,false,true,false,false,false,false,false] rfl rfl (any_of HT_.out (by kernel_rfl)) (fun _ _ _ h => h) (Or.inl ⟨by rfl,?_⟩) ?_ ?_
           rotate_left
           ·intro w'
            go_simp
            with_reducible rfl
           rotate_left
           ·simp only [Act.put,List.setIfInBounds_toArray,List.set_cons_zero,List.set_cons_succ,i64_w,i32_w]
            rfl
           refine take_ (i:=1) (N:=some 78) (v:=?_) (a':=?_) #[true,true,true,false,false,false,false,false] rfl rfl (take_ofW HT_.out HW_.out (by kernel_rfl)) (fun _ _ _ h => h) (Or.inl ⟨by rfl,?_⟩) hHeld ?_ ?_
           rotate_left
           ·rintro w' ⟨s0,s1,s2,s3,s4⟩
            go_simp
            with_reducible rfl
           rotate_left
           ·simp only [Act.put,List.setIfInBounds_toArray,List.set_cons_zero,List.set_cons_succ,i64_w,i32_w]
            rfl
           refine one_ (i:=3) (N:=some 80) #[true,true,true,true,false,false,false,false] rfl rfl (one_of HT_.out (by kernel_rfl)) (by decide) (fun K hK => ?_)
           refine goes_ Try.func39 (by kernel_rfl) rfl #[.pointer (some ⟨g,0,none⟩), .bool true] (by rfl) rfl rfl (by (try simp only [List.map_toArray,List.map_cons,List.map_nil]);first|done|rfl|(simp only [List.length_drop,List.length_take];rfl)|(go_simp;done)|(go_simp;simp;done)) ?_
           with_reducible refine (ih k2 (by have:=HJ55.out;have:=HK2.out;omega) g x1000_2 x1001_2 x1002_2 true t269 t270 t271 t272 t273 t276 t277 t278 w0 _ ?side1 ?side2 A74.out).mono ?_
           (case side1 => first|((repeat (first|(with_reducible first|exact HI0.out|apply IsS76.alloc|apply IsS76.drewN|apply IsS76.drew|apply IsS76.set_1|apply IsS76.set_2|refine IsS76.far ?_ NB0_241.out _|(apply IsS76.far;case hne => exact NB0_241.out)|refine IsS76.far ?_ NB0_246.out _|(apply IsS76.far;case hne => exact NB0_246.out))|exact HI0.out));done)|((simp only [*]);(repeat (first|(with_reducible first|exact HI0.out|apply IsS76.alloc|apply IsS76.drewN|apply IsS76.drew|apply IsS76.set_1|apply IsS76.set_2|refine IsS76.far ?_ NB0_241.out _|(apply IsS76.far;case hne => exact NB0_241.out)|refine IsS76.far ?_ NB0_246.out _|(apply IsS76.far;case hne => exact NB0_246.out))|exact HI0.out))))
           (case side2 => repeat (first|(with_reducible first|exact HB.out|apply below_alloc|apply pw_below_drewN|apply below_drew1|refine below_set ?_ (IsS76.ge HI0.out)|refine below_set ?_ GE241.out|refine below_set ?_ GE246.out)|exact HB.out))
           rintro e w77 ⟨v274,rfl,ho0,hi,hb,hk⟩
           refine ⟨_,rfl,?_⟩
           have n0_:=Aside0.mk (Kd.R_mono (Kd.R_told (Kd.R_oldK (IsS76.apart (show IsS76 w0 _ g x1000_2 x1001_2 x1002_2 from by first|((repeat (first|(with_reducible first|exact HI0.out|apply IsS76.alloc|apply IsS76.drewN|apply IsS76.drew|apply IsS76.set_1|apply IsS76.set_2|refine IsS76.far ?_ NB0_241.out _|(apply IsS76.far;case hne => exact NB0_241.out)|refine IsS76.far ?_ NB0_246.out _|(apply IsS76.far;case hne => exact NB0_246.out))|exact HI0.out));done)|((simp only [*]);(repeat (first|(with_reducible first|exact HI0.out|apply IsS76.alloc|apply IsS76.drewN|apply IsS76.drew|apply IsS76.set_1|apply IsS76.set_2|refine IsS76.far ?_ NB0_241.out _|(apply IsS76.far;case hne => exact NB0_241.out)|refine IsS76.far ?_ NB0_246.out _|(apply IsS76.far;case hne => exact NB0_246.out))|exact HI0.out)))) (by (with_reducible repeat (first|apply Kd.R_alloc|apply Kd.R_drewN|apply Kd.R_drew));exact HO_247004.out) (by decide)) hk) (Kd.R_base ho0)) (fun _ h_ => h_.1))
           have n1_:=Aside0.mk (KeepBut.blk hk (g':=gb241) (o := .cells #[.int .i64 0, .int .i64 0, .string (⟨#[]⟩ : ByteArray), .int .i64 0, .slice none 0 0] 24 (0,0)) (by (with_reducible repeat (first|refine blk_drewN ?_ _|refine blk_drew ?_|refine blk_alloc ?_ _));exact BK241.out) NB241_0.out (by simp))
           have n2_:=Aside0.mk (KeepBut.blk hk (g':=gb246) (o := .cells #[.int .i64 (wrap64 (t242)), .int .i64 0, .string (⟨#[]⟩ : ByteArray), .int .i64 t261,u247004] 24 (0,0)) (by (with_reducible repeat (first|refine blk_drewN ?_ _|refine blk_drew ?_|refine blk_alloc ?_ _));exact BK246.out) NB246_0.out (by simp))
           have n3_:=Aside0.mk (Kd.R_lower (Kd.R_newB (Kd.R_newB (Kd.R_new' ho0 (Kd.R_lt (by (with_reducible repeat (first|apply Kd.R_alloc|apply Kd.R_drewN|apply Kd.R_drew));exact HO_247004.out))) (g:=gb241) (o := .cells #[.int .i64 0, .int .i64 0, .string (⟨#[]⟩ : ByteArray), .int .i64 0, .slice none 0 0] 24 (0,0)) (by (with_reducible repeat (first|refine blk_drewN ?_ _|refine blk_drew ?_|refine blk_alloc ?_ _));exact BK241.out)) (g:=gb246) (o := .cells #[.int .i64 (wrap64 (t242)), .int .i64 0, .string (⟨#[]⟩ : ByteArray), .int .i64 t261,u247004] 24 (0,0)) (by (with_reducible repeat (first|refine blk_drewN ?_ _|refine blk_drew ?_|refine blk_alloc ?_ _));exact BK246.out)) (keep_size (w:=w) (g:=g) (row:=none) (by repeat (first|(with_reducible first|exact HK.out|apply KeepBut.set_|apply keep_drewN|apply keep_drew|apply keep_alloc|refine keep_far ?_ GW241.out _|refine keep_far ?_ GW246.out _)|exact HK.out))))
           have n4_:=Aside0.mk (KeepBut.trans (by repeat (first|(with_reducible first|exact HK.out|apply KeepBut.set_|apply keep_drewN|apply keep_drew|apply keep_alloc|refine keep_far ?_ GW241.out _|refine keep_far ?_ GW246.out _)|exact HK.out)) hk (.inl rfl))
           have n5_:=Aside0.mk (hb)
           have n6_:=Aside0.mk (hi)
           clear HO_247004
           clear BK241
           clear BK246
           clear HK
           clear HB
           clear HI0
           have HO_247004:=n0_
           have BK241:=n1_
           have BK246:=n2_
           have HO275:=n3_
           have HK:=n4_
           have HB:=n5_
           have HI0:=n6_
           clear n0_ n1_ n2_ n3_ n4_ n5_ n6_
           (try clear hb)
           (try clear hb2)
           (try clear hk)
           (try clear hi)
           (try clear ho0)
           obtain ⟨Ao79,co79,eo79⟩:=Kd.R_slice HO275.out
           (first|subst eo79|(injection eo79 with f1_ f2_ f3_;have f4_:=f1_.symm;have f5_:=f3_.symm;clear f1_ f2_ f3_;subst f4_;subst f5_))
           refine hK.out _ _ ⟨(blk_cell BK246.out 0).trans rfl,(blk_cell BK246.out 1).trans rfl,(blk_cell BK246.out 2).trans rfl,(blk_cell BK246.out 3).trans rfl,(blk_cell BK246.out 4).trans rfl⟩ (fun hHeld => ?_)
           clear hK K
           refine norm_ (a':=?_) ?_ ?_
           rotate_left
           ·show Act.put _ (some 80) _ = _
            simp only [Act.put,List.setIfInBounds_toArray,List.set_cons_zero,List.set_cons_succ,i64_w,i32_w]
            rfl
           refine one_ (i:=4) (N:=some 81) #[true,true,true,true,true,false,false,false] rfl rfl (one_of HT_.out (by kernel_rfl)) (by decide) (fun K hK => ?_)
           refine value_ (w1:=?_) (v:=?_) (by rfl) rfl ?_ ?_
           rotate_left 2
           ·go_simp
            constructor
            ·rfl
            ·rfl
           refine hK.out _ _ ⟨(blk_cell (blk_alloc BK246.out _) 0).trans rfl,(blk_cell (blk_alloc BK246.out _) 1).trans rfl,(blk_cell (blk_alloc BK246.out _) 2).trans rfl,(blk_cell (blk_alloc BK246.out _) 3).trans rfl,(blk_cell (blk_alloc BK246.out _) 4).trans rfl⟩ (fun hHeld => ?_)
           clear hK K
           refine norm_ (a':=?_) ?_ ?_
           rotate_left
           ·show Act.put _ (some 81) _ = _
            simp only [Act.put,List.setIfInBounds_toArray,List.set_cons_zero,List.set_cons_succ,i64_w,i32_w]
            rfl
           refine one_ (i:=5) (N:=some 82) #[true,true,true,true,true,true,false,false] rfl rfl (one_of HT_.out (by kernel_rfl)) (by decide) (fun K hK => ?_)
           refine Kd.R_append_step k24 w.heap.size (by rfl) (.tmp 78) (.tmp 81) 22 24 (.agg #[(.int .i64 0),(.int .i64 0),(.string ⟨#[]⟩),(.int .i64 0),(.slice none 0 0)]) 64 rfl Try.underlying22 info24 rfl (by decide) (by omega) u247004 x247004_2 (⟨t269,t270,t271,t272,t273⟩ : S24) [.int .i64 t269, .int .i64 t270, .string t271, .int .i64 t272, .slice Ao79 t273.length co79] (fun k_ => k_ ≠ gb241 ∧ k_ ≠ gb246) (fun k_ => ((fun k_ => k_ ≠ gb241 ∧ k_ ≠ gb246)) k_ ∧ some k_ ≠ (u247004 : Value).ownBlock) rfl rfl ?aP (fun _ hk => hk) ?aF ?aO (Below.refl _ _) ?aS ?aL ?_
           (case aP => exact k24_mkM _ _ _ (⟨t269,t270,t271,t272,t273⟩ : S24) (Kd.R_mono (HO275.out) (fun k_ hk => ⟨⟨hk.1.2,hk.2⟩,hk.1.1.2⟩)))
           (case aF => exact (fun k_ hk => ⟨Kd.freshB (g:=gb241) (o := .cells #[.int .i64 0, .int .i64 0, .string (⟨#[]⟩ : ByteArray), .int .i64 0, .slice none 0 0] 24 (0,0)) (by (with_reducible repeat (first|refine blk_drewN ?_ _|refine blk_drew ?_|refine blk_alloc ?_ _));exact BK241.out) k_ hk,Kd.freshB (g:=gb246) (o := .cells #[.int .i64 (wrap64 (t242)), .int .i64 0, .string (⟨#[]⟩ : ByteArray), .int .i64 t261,u247004] 24 (0,0)) (by (with_reducible repeat (first|refine blk_drewN ?_ _|refine blk_drew ?_|refine blk_alloc ?_ _));exact BK246.out) k_ hk⟩))
           (case aO => exact (by (with_reducible repeat (first|apply Kd.R_alloc|apply Kd.R_drewN|apply Kd.R_drew));exact Kd.R_mono HO_247004.out (fun _ hk => ⟨hk.1.1,hk.1.2⟩)))
           (case aS => exact (keep_size (w:=w) (g:=g) (row:=none) (by repeat (first|(with_reducible first|exact HK.out|apply KeepBut.set_|apply keep_drewN|apply keep_drew|apply keep_alloc|refine keep_far ?_ GW241.out _|refine keep_far ?_ GW246.out _)|exact HK.out))))
           (case aL => have:=LMc75.out;omega)
           intro v280 w78 ho hb hg hat
           rw [← Ny279.out] at ho
           have n0_:=Aside0.mk (blk_grown (g:=gb241) (o := .cells #[.int .i64 0, .int .i64 0, .string (⟨#[]⟩ : ByteArray), .int .i64 0, .slice none 0 0] 24 (0,0)) (by (with_reducible repeat (first|refine blk_drewN ?_ _|refine blk_drew ?_|refine blk_alloc ?_ _));exact BK241.out) hg (Kd.R_away HO_247004.out (fun _ hk => hk.1.1)))
           have n1_:=Aside0.mk (blk_grown (g:=gb246) (o := .cells #[.int .i64 (wrap64 (t242)), .int .i64 0, .string (⟨#[]⟩ : ByteArray), .int .i64 t261,u247004] 24 (0,0)) (by (with_reducible repeat (first|refine blk_drewN ?_ _|refine blk_drew ?_|refine blk_alloc ?_ _));exact BK246.out) hg (Kd.R_away HO_247004.out (fun _ hk => hk.1.2)))
           have n2_:=Aside0.mk (IsS76.grown (by first|((repeat (first|(with_reducible first|exact HI0.out|apply IsS76.alloc|apply IsS76.drewN|apply IsS76.drew|apply IsS76.set_1|apply IsS76.set_2|refine IsS76.far ?_ NB0_241.out _|(apply IsS76.far;case hne => exact NB0_241.out)|refine IsS76.far ?_ NB0_246.out _|(apply IsS76.far;case hne => exact NB0_246.out))|exact HI0.out));done)|((simp only [*]);(repeat (first|(with_reducible first|exact HI0.out|apply IsS76.alloc|apply IsS76.drewN|apply IsS76.drew|apply IsS76.set_1|apply IsS76.set_2|refine IsS76.far ?_ NB0_241.out _|(apply IsS76.far;case hne => exact NB0_241.out)|refine IsS76.far ?_ NB0_246.out _|(apply IsS76.far;case hne => exact NB0_246.out))|exact HI0.out)))) hg (IsS76.own_ne HI0.out HO_247004.out (by decide)))
           have n3_:=Aside0.mk (below_weaken (by repeat (first|(with_reducible first|exact HB.out|apply below_alloc|apply pw_below_drewN|apply below_drew1|refine below_set ?_ (IsS76.ge HI0.out)|refine below_set ?_ GE241.out|refine below_set ?_ GE246.out)|exact HB.out)) HL.out hb)
           have n4_:=Aside0.mk (KeepBut.trans (by repeat (first|(with_reducible first|exact HK.out|apply KeepBut.set_|apply keep_drewN|apply keep_drew|apply keep_alloc|refine keep_far ?_ GW241.out _|refine keep_far ?_ GW246.out _)|exact HK.out)) (KeepBut.of_grown hg g) (Kd.R_base2 HO_247004.out))
           have n5_:=Aside0.mk (ho)
           clear BK241
           clear BK246
           clear HI0
           clear HB
           clear HK
           clear HO_247004
           clear HO275
           have BK241:=n0_
           have BK246:=n1_
           have HI0:=n2_
           have HB:=n3_
           have HK:=n4_
           have HO281:=n5_
           clear n0_ n1_ n2_ n3_ n4_ n5_
           clear ho hb hg hat
           obtain ⟨Ao80,co80,eo80⟩:=Kd.R_slice HO281.out
           (first|subst eo80|(injection eo80 with f1_ f2_ f3_;have f4_:=f1_.symm;have f5_:=f3_.symm;clear f1_ f2_ f3_;subst f4_;subst f5_))
           refine hK.out _ _ ⟨(blk_cell BK246.out 0).trans rfl,(blk_cell BK246.out 1).trans rfl,(blk_cell BK246.out 2).trans rfl,(blk_cell BK246.out 3).trans rfl,(blk_cell BK246.out 4).trans rfl⟩ (fun hHeld => ?_)
           clear hK K
           refine norm_ (a':=?_) ?_ ?_
           rotate_left
           ·show Act.put _ (some 82) _ = _
            simp only [Act.put,List.setIfInBounds_toArray,List.set_cons_zero,List.set_cons_succ,i64_w,i32_w]
            rfl
           refine pure_ (i:=6) (N:=some 83) (v:=?_) (a':=?_) #[true,true,true,true,true,true,true,false] rfl rfl (any_of HT_.out (by kernel_rfl)) (fun _ _ _ h => h) (Or.inl ⟨by rfl,?_⟩) ?_ ?_
           rotate_left
           ·intro w'
            go_simp
            with_reducible rfl
           rotate_left
           ·simp only [Act.put,List.setIfInBounds_toArray,List.set_cons_zero,List.set_cons_succ,i64_w,i32_w]
            rfl
           refine last_ (i:=7) (N:=none) #[true,true,true,true,true,true,true,true] rfl rfl (one_of HT_.out (by kernel_rfl)) (by decide) (fun K hK => ?_)
           have hs81 : w78.cell? ⟨gb246,4,none⟩ = some (u247004):=(blk_cell BK246.out 4).trans rfl
           have hfs81:=blk_frozen BK246.out 4
           have hns81_0:=NB241_246.out
           have hms81_0:=NB246_241.out
           refine skip_ (w1:=?_) (by rfl) rfl ?_ ?_
           rotate_left
           ·go_simp
            rfl
           refine hK.out _ _ ?_
           clear hK K
           refine done_ (done_of HT_.out (by kernel_rfl)) ?_
           try go_wp2
           go_roundg k2
           case measure => have:=HJ55.out;have:=HK2.out;omega
           case rel => exact ⟨(wrap64 (x75_2 + 1)),(t276),(t277),(t278),(y279),(.slice Ao80 y279.length co80),(by first|rfl|(simp;done)|(simp [*];done)),H',⟨by have:=HJ55.out;have:=HK2.out;omega⟩,⟨by (with_reducible repeat (first|apply Kd.R_alloc|apply Kd.R_drewN|apply Kd.R_drew));exact Kd.R_mono (Kd.R_far (p:=⟨gb246,4,none⟩) (Kd.R_mono HO281.out (fun k_ hk => (⟨hk,hk.2⟩ : _ ∧ k_ ≠ gb246))) (fun _ hk => hk.2) (.slice Ao80 y279.length co80)) (fun _ hk => ⟨hk.1.1,hk.1.2⟩)⟩,⟨by (with_reducible repeat (first|refine blk_drewN ?_ _|refine blk_drew ?_|refine blk_alloc ?_ _));refine blk_far ?_ NB241_246.out _;(with_reducible repeat (first|refine blk_drewN ?_ _|refine blk_drew ?_|refine blk_alloc ?_ _));exact BK241.out⟩,⟨by (with_reducible repeat (first|refine blk_drewN ?_ _|refine blk_drew ?_|refine blk_alloc ?_ _));refine blk_put (cs:=#[.int .i64 (wrap64 (t242)), .int .i64 0, .string (⟨#[]⟩ : ByteArray), .int .i64 t261,u247004]) ?_ 4 _ rfl;(with_reducible repeat (first|refine blk_drewN ?_ _|refine blk_drew ?_|refine blk_alloc ?_ _));exact BK246.out⟩,⟨by first|((repeat (first|(with_reducible first|exact HI0.out|apply IsS76.alloc|apply IsS76.drewN|apply IsS76.drew|apply IsS76.set_1|apply IsS76.set_2|refine IsS76.far ?_ NB0_241.out _|(apply IsS76.far;case hne => exact NB0_241.out)|refine IsS76.far ?_ NB0_246.out _|(apply IsS76.far;case hne => exact NB0_246.out))|exact HI0.out));done)|((simp only [*]);(repeat (first|(with_reducible first|exact HI0.out|apply IsS76.alloc|apply IsS76.drewN|apply IsS76.drew|apply IsS76.set_1|apply IsS76.set_2|refine IsS76.far ?_ NB0_241.out _|(apply IsS76.far;case hne => exact NB0_241.out)|refine IsS76.far ?_ NB0_246.out _|(apply IsS76.far;case hne => exact NB0_246.out))|exact HI0.out)))⟩,⟨by repeat (first|(with_reducible first|exact HK.out|apply KeepBut.set_|apply keep_drewN|apply keep_drew|apply keep_alloc|refine keep_far ?_ GW241.out _|refine keep_far ?_ GW246.out _)|exact HK.out)⟩,⟨by repeat (first|(with_reducible first|exact HB.out|apply below_alloc|apply pw_below_drewN|apply below_drew1|refine below_set ?_ (IsS76.ge HI0.out)|refine below_set ?_ GE241.out|refine below_set ?_ GE246.out)|exact HB.out)⟩⟩
          ·rw [if_neg c75] at H
           exact absurd H (by simp)
         ·rw [if_neg c73] at H
          have c73b0 : decide (x75_2 < t265) = false:=decide_eq_false c73
          clear c73
          simp only [Option.some.injEq,Prod.mk.injEq] at H
          obtain ⟨rfl,rfl,rfl,rfl,rfl,rfl,rfl,rfl⟩:=H
          have hnb82:=NB246_241.out
          have hnc82:=NB241_246.out
          have hnb83:=NB246_0.out
          have hnc83:=NB0_246.out
          have hcz84_0 : wr.cell? ⟨gb246,0,none⟩ = some (.int .i64 (wrap64 (t242))):=(blk_cell BK246.out 0).trans rfl
          have hcz84_1 : wr.cell? ⟨gb246,1,none⟩ = some (.int .i64 0):=(blk_cell BK246.out 1).trans rfl
          have hcz84_2 : wr.cell? ⟨gb246,2,none⟩ = some (.string (⟨#[]⟩ : ByteArray)):=(blk_cell BK246.out 2).trans rfl
          have hcz84_3 : wr.cell? ⟨gb246,3,none⟩ = some (.int .i64 t261):=(blk_cell BK246.out 3).trans rfl
          have hcz84_4 : wr.cell? ⟨gb246,4,none⟩ = some (u247004):=(blk_cell BK246.out 4).trans rfl
          have hfz84_0:=blk_frozen BK246.out 0
          have hfz84_1:=blk_frozen BK246.out 1
          have hfz84_2:=blk_frozen BK246.out 2
          have hfz84_3:=blk_frozen BK246.out 3
          have hfz84_4:=blk_frozen BK246.out 4
          have hnb85:=NB241_0.out
          have hnc85:=NB0_241.out
          have hcz86_0 : wr.cell? ⟨gb241,0,none⟩ = some (.int .i64 0):=(blk_cell BK241.out 0).trans rfl
          have hcz86_1 : wr.cell? ⟨gb241,1,none⟩ = some (.int .i64 0):=(blk_cell BK241.out 1).trans rfl
          have hcz86_2 : wr.cell? ⟨gb241,2,none⟩ = some (.string (⟨#[]⟩ : ByteArray)):=(blk_cell BK241.out 2).trans rfl
          have hcz86_3 : wr.cell? ⟨gb241,3,none⟩ = some (.int .i64 0):=(blk_cell BK241.out 3).trans rfl
          have hcz86_4 : wr.cell? ⟨gb241,4,none⟩ = some (.slice none 0 0):=(blk_cell BK241.out 4).trans rfl
          have hfz86_0:=blk_frozen BK241.out 0
          have hfz86_1:=blk_frozen BK241.out 1
          have hfz86_2:=blk_frozen BK241.out 2
          have hfz86_3:=blk_frozen BK241.out 3
          have hfz86_4:=blk_frozen BK241.out 4
          obtain ⟨Ao87,co87,eo87⟩:=Kd.R_slice HO_247004.out
          subst eo87
          go_wp2
          refine bodyPost_ret (results_cell_row rfl _ _ gb241 24 #[.int .i64 (wrap64 (t242)), .int .i64 0, .string (⟨#[]⟩ : ByteArray), .int .i64 t261, .slice Ao87 x247004_2.length co87] (0,0) _ rfl (by (with_reducible repeat (first|refine blk_drewN ?_ _|refine blk_drew ?_|refine blk_alloc ?_ _));refine blk_put (cs:=#[.int .i64 (wrap64 (t242)), .int .i64 0, .string (⟨#[]⟩ : ByteArray), .int .i64 t261, .slice none 0 0]) ?_ 4 _ rfl;(with_reducible repeat (first|refine blk_drewN ?_ _|refine blk_drew ?_|refine blk_alloc ?_ _));refine blk_put (cs:=#[.int .i64 (wrap64 (t242)), .int .i64 0, .string (⟨#[]⟩ : ByteArray), .int .i64 0, .slice none 0 0]) ?_ 3 _ rfl;(with_reducible repeat (first|refine blk_drewN ?_ _|refine blk_drew ?_|refine blk_alloc ?_ _));refine blk_put (cs:=#[.int .i64 (wrap64 (t242)), .int .i64 0, .string (⟨#[]⟩ : ByteArray), .int .i64 0, .slice none 0 0]) ?_ 2 _ rfl;(with_reducible repeat (first|refine blk_drewN ?_ _|refine blk_drew ?_|refine blk_alloc ?_ _));refine blk_put (cs:=#[.int .i64 (wrap64 (t242)), .int .i64 0, .string (⟨#[]⟩ : ByteArray), .int .i64 0, .slice none 0 0]) ?_ 1 _ rfl;(with_reducible repeat (first|refine blk_drewN ?_ _|refine blk_drew ?_|refine blk_alloc ?_ _));refine blk_put (cs:=#[.int .i64 0, .int .i64 0, .string (⟨#[]⟩ : ByteArray), .int .i64 0, .slice none 0 0]) ?_ 0 _ rfl;(with_reducible repeat (first|refine blk_drewN ?_ _|refine blk_drew ?_|refine blk_alloc ?_ _));exact BK241.out) Try.underlying24 rfl (by kernel_rfl)) rfl ?_
          exact ⟨_,by first|rfl|(simp [errW_none,errW_some] <;> rfl)|(simp [*,errW_none,errW_some] <;> rfl),by (with_reducible repeat (first|apply Kd.R_alloc|apply Kd.R_drewN|apply Kd.R_drew));exact Kd.R_mono (Kd.R_far (p:=⟨gb241,4,none⟩) (Kd.R_far (p:=⟨gb241,3,none⟩) (Kd.R_far (p:=⟨gb241,2,none⟩) (Kd.R_far (p:=⟨gb241,1,none⟩) (Kd.R_far (p:=⟨gb241,0,none⟩) (Kd.R_mono HO_247004.out (fun k_ hk => (⟨hk,hk.1⟩ : _ ∧ k_ ≠ gb241))) (fun _ hk => hk.2) (.int .i64 (wrap64 (t242)))) (fun _ hk => hk.2) (.int .i64 0)) (fun _ hk => hk.2) (.string (⟨#[]⟩ : ByteArray))) (fun _ hk => hk.2) (.int .i64 t261)) (fun _ hk => hk.2) (.slice Ao87 x247004_2.length co87)) (fun _ hk => trivial),by first|((repeat (first|(with_reducible first|exact HI0.out|apply IsS76.alloc|apply IsS76.drewN|apply IsS76.drew|apply IsS76.set_1|apply IsS76.set_2|refine IsS76.far ?_ NB0_241.out _|(apply IsS76.far;case hne => exact NB0_241.out)|refine IsS76.far ?_ NB0_246.out _|(apply IsS76.far;case hne => exact NB0_246.out))|exact HI0.out));done)|((simp only [*]);(repeat (first|(with_reducible first|exact HI0.out|apply IsS76.alloc|apply IsS76.drewN|apply IsS76.drew|apply IsS76.set_1|apply IsS76.set_2|refine IsS76.far ?_ NB0_241.out _|(apply IsS76.far;case hne => exact NB0_241.out)|refine IsS76.far ?_ NB0_246.out _|(apply IsS76.far;case hne => exact NB0_246.out))|exact HI0.out))),by repeat (first|(with_reducible first|exact HB.out|apply below_alloc|apply pw_below_drewN|apply below_drew1|refine below_set ?_ (IsS76.ge HI0.out)|refine below_set ?_ GE241.out|refine below_set ?_ GE246.out)|exact HB.out),by repeat (first|(with_reducible first|exact HK.out|apply KeepBut.set_|apply keep_drewN|apply keep_drew|apply keep_alloc|refine keep_far ?_ GW241.out _|refine keep_far ?_ GW246.out _)|exact HK.out)⟩
    ·rw [if_neg c55] at H
     have c55b0 : ((wrap64 (t242)) == 4) = false:=beq_eq_false_iff_ne.mpr c55
     have c55b1 : ((wrap64 (t242)) != 4) = true:=bne_iff_ne.mpr c55
     simp only [Option.some.injEq,Prod.mk.injEq] at H
     obtain ⟨rfl,rfl,rfl,rfl,rfl,rfl,rfl,rfl⟩:=H
     go_enter Try.func39,Try.ntmps39
     go_wp2_with (first|((with_reducible refine gate_dst (N:=4) rfl ?_);refine box_event ?hg (N:=4) ?hd (cs:=#[.int .i64 0, .int .i64 0, .string (⟨#[]⟩ : ByteArray), .int .i64 0, .slice none 0 0]) (t:=24) ?hr ?_;(case hd => rfl);(case hg => rfl);(case hr => first|(go_simp;done)|(go_simp;rfl));intro gb241 hg w88 hbox hb;have n0_:=Aside0.mk (IsS76.below (by first|((repeat (first|(with_reducible first|exact HI0.out|apply IsS76.alloc|apply IsS76.drewN|apply IsS76.drew|apply IsS76.set_1|apply IsS76.set_2)|exact HI0.out));done)|((simp only [*]);(repeat (first|(with_reducible first|exact HI0.out|apply IsS76.alloc|apply IsS76.drewN|apply IsS76.drew|apply IsS76.set_1|apply IsS76.set_2)|exact HI0.out)))) hb);have n1_:=Aside0.mk (KeepBut.trans (by repeat (first|(with_reducible first|exact HK.out|apply KeepBut.set_|apply keep_drewN|apply keep_drew|apply keep_alloc)|exact HK.out)) (KeepBut.of_below hb g none) (.inl rfl));have n2_:=Aside0.mk (below_step (by repeat (first|(with_reducible first|exact HB.out|apply below_alloc|apply pw_below_drewN|apply below_drew1|refine below_set ?_ (IsS76.ge HI0.out))|exact HB.out)) hb);have n3_:=Aside0.mk (hbox);have n4_:=Aside0.mk ((by rw [hg];exact (keep_size (w:=w) (g:=g) (row:=none) (by repeat (first|(with_reducible first|exact HK.out|apply KeepBut.set_|apply keep_drewN|apply keep_drew|apply keep_alloc)|exact HK.out))) : w.heap.size ≤ gb241));have n5_:=Aside0.mk ((Nat.le_trans HW0.out (by rw [hg];exact (keep_size (w:=w) (g:=g) (row:=none) (by repeat (first|(with_reducible first|exact HK.out|apply KeepBut.set_|apply keep_drewN|apply keep_drew|apply keep_alloc)|exact HK.out))) : w.heap.size ≤ gb241) : w0.heap.size ≤ gb241));have n6_:=Aside0.mk ((by rw [hg];exact Nat.ne_of_lt (IsS76.lt (show IsS76 w0 _ g s0_0 s0_1 s0_2 from by first|((repeat (first|(with_reducible first|exact HI0.out|apply IsS76.alloc|apply IsS76.drewN|apply IsS76.drew|apply IsS76.set_1|apply IsS76.set_2)|exact HI0.out));done)|((simp only [*]);(repeat (first|(with_reducible first|exact HI0.out|apply IsS76.alloc|apply IsS76.drewN|apply IsS76.drew|apply IsS76.set_1|apply IsS76.set_2)|exact HI0.out))))) : g ≠ gb241));have n7_:=Aside0.mk ((by rw [hg];exact Nat.ne_of_gt (IsS76.lt (show IsS76 w0 _ g s0_0 s0_1 s0_2 from by first|((repeat (first|(with_reducible first|exact HI0.out|apply IsS76.alloc|apply IsS76.drewN|apply IsS76.drew|apply IsS76.set_1|apply IsS76.set_2)|exact HI0.out));done)|((simp only [*]);(repeat (first|(with_reducible first|exact HI0.out|apply IsS76.alloc|apply IsS76.drewN|apply IsS76.drew|apply IsS76.set_1|apply IsS76.set_2)|exact HI0.out))))) : gb241 ≠ g));clear HI0;clear HK;clear HB;have HI0:=n0_;have HK:=n1_;have HB:=n2_;have BK241:=n3_;have GW241:=n4_;have GE241:=n5_;have NB0_241:=n6_;have NB241_0:=n7_;clear n0_ n1_ n2_ n3_ n4_ n5_ n6_ n7_;clear hb hbox hg)|((with_reducible refine gate_callee (f:=46) rfl ?_);refine goesL_ (some 10) rfl rfl Try.func46 (by kernel_rfl) rfl #[.pointer (some ⟨g,0,none⟩)] rfl (by (try simp only [List.map_toArray,List.map_cons,List.map_nil]);first|done|rfl|(simp only [List.length_drop,List.length_take];rfl)|(go_simp;done)|(go_simp;simp;done)) ?_;(with_reducible refine (codec_reader_byte.calls g s0_0 s0_1 s0_2 t242 t243 t244 t245 w0 _ ?side1 ?side2 A3.out).mono ?_);(case side1 => first|((repeat (first|(with_reducible first|exact HI0.out|apply IsS76.alloc|apply IsS76.drewN|apply IsS76.drew|apply IsS76.set_1|apply IsS76.set_2|refine IsS76.far ?_ NB0_241.out _|(apply IsS76.far;case hne => exact NB0_241.out))|exact HI0.out));done)|((simp only [*]);(repeat (first|(with_reducible first|exact HI0.out|apply IsS76.alloc|apply IsS76.drewN|apply IsS76.drew|apply IsS76.set_1|apply IsS76.set_2|refine IsS76.far ?_ NB0_241.out _|(apply IsS76.far;case hne => exact NB0_241.out))|exact HI0.out))));(case side2 => repeat (first|(with_reducible first|exact HB.out|apply below_alloc|apply pw_below_drewN|apply below_drew1|refine below_set ?_ (IsS76.ge HI0.out)|refine below_set ?_ GE241.out)|exact HB.out));rintro e w89 ⟨rfl,hi,hb,hk⟩;refine ⟨_,rfl,?_⟩;have n0_:=Aside0.mk (KeepBut.blk hk (g':=gb241) (o := .cells #[.int .i64 0, .int .i64 0, .string (⟨#[]⟩ : ByteArray), .int .i64 0, .slice none 0 0] 24 (0,0)) (by (with_reducible repeat (first|refine blk_drewN ?_ _|refine blk_drew ?_|refine blk_alloc ?_ _));exact BK241.out) NB241_0.out (by simp));have n1_:=Aside0.mk (KeepBut.trans (by repeat (first|(with_reducible first|exact HK.out|apply KeepBut.set_|apply keep_drewN|apply keep_drew|apply keep_alloc|refine keep_far ?_ GW241.out _)|exact HK.out)) hk (.inl rfl));have n2_:=Aside0.mk (hb);have n3_:=Aside0.mk (hi);clear BK241;clear HK;clear HB;clear HI0;have BK241:=n0_;have HK:=n1_;have HB:=n2_;have HI0:=n3_;clear n0_ n1_ n2_ n3_;(try clear hb);(try clear hb2);(try clear hk);(try clear hi))|((with_reducible refine gate_dst (N:=5) rfl ?_);refine box_event ?hg (N:=5) ?hd (cs:=#[.int .i64 0, .int .i64 0, .string (⟨#[]⟩ : ByteArray), .int .i64 0, .slice none 0 0]) (t:=24) ?hr ?_;(case hd => rfl);(case hg => rfl);(case hr => first|(go_simp;done)|(go_simp;rfl));intro gb246 hg w90 hbox hb;have n0_:=Aside0.mk (IsS76.below (by first|((repeat (first|(with_reducible first|exact HI0.out|apply IsS76.alloc|apply IsS76.drewN|apply IsS76.drew|apply IsS76.set_1|apply IsS76.set_2|refine IsS76.far ?_ NB0_241.out _|(apply IsS76.far;case hne => exact NB0_241.out))|exact HI0.out));done)|((simp only [*]);(repeat (first|(with_reducible first|exact HI0.out|apply IsS76.alloc|apply IsS76.drewN|apply IsS76.drew|apply IsS76.set_1|apply IsS76.set_2|refine IsS76.far ?_ NB0_241.out _|(apply IsS76.far;case hne => exact NB0_241.out))|exact HI0.out)))) hb);have n1_:=Aside0.mk (blk_below (g:=gb241) (o := .cells #[.int .i64 0, .int .i64 0, .string (⟨#[]⟩ : ByteArray), .int .i64 0, .slice none 0 0] 24 (0,0)) (by (with_reducible repeat (first|refine blk_drewN ?_ _|refine blk_drew ?_|refine blk_alloc ?_ _));exact BK241.out) hb);have n2_:=Aside0.mk (KeepBut.trans (by repeat (first|(with_reducible first|exact HK.out|apply KeepBut.set_|apply keep_drewN|apply keep_drew|apply keep_alloc|refine keep_far ?_ GW241.out _)|exact HK.out)) (KeepBut.of_below hb g none) (.inl rfl));have n3_:=Aside0.mk (below_step (by repeat (first|(with_reducible first|exact HB.out|apply below_alloc|apply pw_below_drewN|apply below_drew1|refine below_set ?_ (IsS76.ge HI0.out)|refine below_set ?_ GE241.out)|exact HB.out)) hb);have n4_:=Aside0.mk (hbox);have n5_:=Aside0.mk ((by rw [hg];exact (keep_size (w:=w) (g:=g) (row:=none) (by repeat (first|(with_reducible first|exact HK.out|apply KeepBut.set_|apply keep_drewN|apply keep_drew|apply keep_alloc|refine keep_far ?_ GW241.out _)|exact HK.out))) : w.heap.size ≤ gb246));have n6_:=Aside0.mk ((Nat.le_trans HW0.out (by rw [hg];exact (keep_size (w:=w) (g:=g) (row:=none) (by repeat (first|(with_reducible first|exact HK.out|apply KeepBut.set_|apply keep_drewN|apply keep_drew|apply keep_alloc|refine keep_far ?_ GW241.out _)|exact HK.out))) : w.heap.size ≤ gb246) : w0.heap.size ≤ gb246));have n7_:=Aside0.mk ((by rw [hg];exact Nat.ne_of_lt (blk_lt (g:=gb241) (o := .cells #[.int .i64 0, .int .i64 0, .string (⟨#[]⟩ : ByteArray), .int .i64 0, .slice none 0 0] 24 (0,0)) (by (with_reducible repeat (first|refine blk_drewN ?_ _|refine blk_drew ?_|refine blk_alloc ?_ _));exact BK241.out)) : gb241 ≠ gb246));have n8_:=Aside0.mk ((by rw [hg];exact Nat.ne_of_gt (blk_lt (g:=gb241) (o := .cells #[.int .i64 0, .int .i64 0, .string (⟨#[]⟩ : ByteArray), .int .i64 0, .slice none 0 0] 24 (0,0)) (by (with_reducible repeat (first|refine blk_drewN ?_ _|refine blk_drew ?_|refine blk_alloc ?_ _));exact BK241.out)) : gb246 ≠ gb241));have n9_:=Aside0.mk ((by rw [hg];exact Nat.ne_of_lt (IsS76.lt (show IsS76 w0 _ g t243 t244 t245 from by first|((repeat (first|(with_reducible first|exact HI0.out|apply IsS76.alloc|apply IsS76.drewN|apply IsS76.drew|apply IsS76.set_1|apply IsS76.set_2|refine IsS76.far ?_ NB0_241.out _|(apply IsS76.far;case hne => exact NB0_241.out))|exact HI0.out));done)|((simp only [*]);(repeat (first|(with_reducible first|exact HI0.out|apply IsS76.alloc|apply IsS76.drewN|apply IsS76.drew|apply IsS76.set_1|apply IsS76.set_2|refine IsS76.far ?_ NB0_241.out _|(apply IsS76.far;case hne => exact NB0_241.out))|exact HI0.out))))) : g ≠ gb246));have n10_:=Aside0.mk ((by rw [hg];exact Nat.ne_of_gt (IsS76.lt (show IsS76 w0 _ g t243 t244 t245 from by first|((repeat (first|(with_reducible first|exact HI0.out|apply IsS76.alloc|apply IsS76.drewN|apply IsS76.drew|apply IsS76.set_1|apply IsS76.set_2|refine IsS76.far ?_ NB0_241.out _|(apply IsS76.far;case hne => exact NB0_241.out))|exact HI0.out));done)|((simp only [*]);(repeat (first|(with_reducible first|exact HI0.out|apply IsS76.alloc|apply IsS76.drewN|apply IsS76.drew|apply IsS76.set_1|apply IsS76.set_2|refine IsS76.far ?_ NB0_241.out _|(apply IsS76.far;case hne => exact NB0_241.out))|exact HI0.out))))) : gb246 ≠ g));clear HI0;clear BK241;clear HK;clear HB;have HI0:=n0_;have BK241:=n1_;have HK:=n2_;have HB:=n3_;have BK246:=n4_;have GW246:=n5_;have GE246:=n6_;have NB241_246:=n7_;have NB246_241:=n8_;have NB0_246:=n9_;have NB246_0:=n10_;clear n0_ n1_ n2_ n3_ n4_ n5_ n6_ n7_ n8_ n9_ n10_;clear hb hbox hg;have hnb91:=NB246_241.out;have hnc91:=NB241_246.out;have hnb92:=NB246_0.out;have hnc92:=NB0_246.out;have hcz93_0 : w90.cell? ⟨gb246,0,none⟩ = some (.int .i64 0):=(blk_cell BK246.out 0).trans rfl;have hcz93_1 : w90.cell? ⟨gb246,1,none⟩ = some (.int .i64 0):=(blk_cell BK246.out 1).trans rfl;have hcz93_2 : w90.cell? ⟨gb246,2,none⟩ = some (.string (⟨#[]⟩ : ByteArray)):=(blk_cell BK246.out 2).trans rfl;have hcz93_3 : w90.cell? ⟨gb246,3,none⟩ = some (.int .i64 0):=(blk_cell BK246.out 3).trans rfl;have hcz93_4 : w90.cell? ⟨gb246,4,none⟩ = some (.slice none 0 0):=(blk_cell BK246.out 4).trans rfl;have hfz93_0:=blk_frozen BK246.out 0;have hfz93_1:=blk_frozen BK246.out 1;have hfz93_2:=blk_frozen BK246.out 2;have hfz93_3:=blk_frozen BK246.out 3;have hfz93_4:=blk_frozen BK246.out 4;obtain ⟨ASz94_0,cSz94_0,HGz94,hgz94,HSz94_0,hlSz94_0⟩:=HI0.out;have hcz94_0:=cellS76_0 HGz94;have hcz94_1:=cellS76_1 HGz94;have hcz94_2:=cellS76_2 HGz94;have hfz94_0:=blk_frozen HGz94 0;have hfz94_1:=blk_frozen HGz94 1;have hfz94_2:=blk_frozen HGz94 2;clear HGz94 hgz94;have hnb95:=NB241_0.out;have hnc95:=NB0_241.out;have hcz96_0 : w90.cell? ⟨gb241,0,none⟩ = some (.int .i64 0):=(blk_cell BK241.out 0).trans rfl;have hcz96_1 : w90.cell? ⟨gb241,1,none⟩ = some (.int .i64 0):=(blk_cell BK241.out 1).trans rfl;have hcz96_2 : w90.cell? ⟨gb241,2,none⟩ = some (.string (⟨#[]⟩ : ByteArray)):=(blk_cell BK241.out 2).trans rfl;have hcz96_3 : w90.cell? ⟨gb241,3,none⟩ = some (.int .i64 0):=(blk_cell BK241.out 3).trans rfl;have hcz96_4 : w90.cell? ⟨gb241,4,none⟩ = some (.slice none 0 0):=(blk_cell BK241.out 4).trans rfl;have hfz96_0:=blk_frozen BK241.out 0;have hfz96_1:=blk_frozen BK241.out 1;have hfz96_2:=blk_frozen BK241.out 2;have hfz96_3:=blk_frozen BK241.out 3;have hfz96_4:=blk_frozen BK241.out 4))
     refine bodyPost_ret (results_cell_row rfl _ _ gb241 24 #[.int .i64 (wrap64 (t242)), .int .i64 0, .string (⟨#[]⟩ : ByteArray), .int .i64 0, .slice none 0 0] (0,0) _ rfl (by (with_reducible repeat (first|refine blk_drewN ?_ _|refine blk_drew ?_|refine blk_alloc ?_ _));refine blk_put (cs:=#[.int .i64 (wrap64 (t242)), .int .i64 0, .string (⟨#[]⟩ : ByteArray), .int .i64 0, .slice none 0 0]) ?_ 4 _ rfl;(with_reducible repeat (first|refine blk_drewN ?_ _|refine blk_drew ?_|refine blk_alloc ?_ _));refine blk_put (cs:=#[.int .i64 (wrap64 (t242)), .int .i64 0, .string (⟨#[]⟩ : ByteArray), .int .i64 0, .slice none 0 0]) ?_ 3 _ rfl;(with_reducible repeat (first|refine blk_drewN ?_ _|refine blk_drew ?_|refine blk_alloc ?_ _));refine blk_put (cs:=#[.int .i64 (wrap64 (t242)), .int .i64 0, .string (⟨#[]⟩ : ByteArray), .int .i64 0, .slice none 0 0]) ?_ 2 _ rfl;(with_reducible repeat (first|refine blk_drewN ?_ _|refine blk_drew ?_|refine blk_alloc ?_ _));refine blk_put (cs:=#[.int .i64 (wrap64 (t242)), .int .i64 0, .string (⟨#[]⟩ : ByteArray), .int .i64 0, .slice none 0 0]) ?_ 1 _ rfl;(with_reducible repeat (first|refine blk_drewN ?_ _|refine blk_drew ?_|refine blk_alloc ?_ _));refine blk_put (cs:=#[.int .i64 0, .int .i64 0, .string (⟨#[]⟩ : ByteArray), .int .i64 0, .slice none 0 0]) ?_ 0 _ rfl;(with_reducible repeat (first|refine blk_drewN ?_ _|refine blk_drew ?_|refine blk_alloc ?_ _));refine blk_far ?_ NB241_0.out _;(with_reducible repeat (first|refine blk_drewN ?_ _|refine blk_drew ?_|refine blk_alloc ?_ _));refine blk_far ?_ NB241_246.out _;(with_reducible repeat (first|refine blk_drewN ?_ _|refine blk_drew ?_|refine blk_alloc ?_ _));refine blk_far ?_ NB241_246.out _;(with_reducible repeat (first|refine blk_drewN ?_ _|refine blk_drew ?_|refine blk_alloc ?_ _));refine blk_far ?_ NB241_246.out _;(with_reducible repeat (first|refine blk_drewN ?_ _|refine blk_drew ?_|refine blk_alloc ?_ _));refine blk_far ?_ NB241_246.out _;(with_reducible repeat (first|refine blk_drewN ?_ _|refine blk_drew ?_|refine blk_alloc ?_ _));refine blk_far ?_ NB241_246.out _;(with_reducible repeat (first|refine blk_drewN ?_ _|refine blk_drew ?_|refine blk_alloc ?_ _));exact BK241.out) Try.underlying24 rfl (by kernel_rfl)) rfl ?_
     exact ⟨_,by first|rfl|(simp [errW_none,errW_some] <;> rfl)|(simp [*,errW_none,errW_some] <;> rfl),by first|exact Kd.R_nil _ _ _ _ _|exact Kd.N_nil _ _ _ _ _|exact Kd.V_nil _ _ _ _ _|exact Kd.Q_nil _ _ _ _ _|exact Kd.S_nil _ _ _ _ _,by first|((repeat (first|(with_reducible first|exact HI0.out|apply IsS76.alloc|apply IsS76.drewN|apply IsS76.drew|apply IsS76.set_1|apply IsS76.set_2|refine IsS76.far ?_ NB0_241.out _|(apply IsS76.far;case hne => exact NB0_241.out)|refine IsS76.far ?_ NB0_246.out _|(apply IsS76.far;case hne => exact NB0_246.out))|exact HI0.out));done)|((simp only [*]);(repeat (first|(with_reducible first|exact HI0.out|apply IsS76.alloc|apply IsS76.drewN|apply IsS76.drew|apply IsS76.set_1|apply IsS76.set_2|refine IsS76.far ?_ NB0_241.out _|(apply IsS76.far;case hne => exact NB0_241.out)|refine IsS76.far ?_ NB0_246.out _|(apply IsS76.far;case hne => exact NB0_246.out))|exact HI0.out))),by repeat (first|(with_reducible first|exact HB.out|apply below_alloc|apply pw_below_drewN|apply below_drew1|refine below_set ?_ (IsS76.ge HI0.out)|refine below_set ?_ GE241.out|refine below_set ?_ GE246.out)|exact HB.out),by repeat (first|(with_reducible first|exact HK.out|apply KeepBut.set_|apply keep_drewN|apply keep_drew|apply keep_alloc|refine keep_far ?_ GW241.out _|refine keep_far ?_ GW246.out _)|exact HK.out)⟩

end Go.Proofs.Ythbnblmnamckmaa.PAll
-- Laid by a program of this seat (wip/xprint.py over the kit's print).
namespace Go.Proofs.Ythbnblmnamckmaa.PAll
open Go.RowKit Go.Proofs.YthbnblmnamckmaaW.PrintWords Go.Proofs.YthbnblmnamckmaaW.PrintLast Go.Proofs.YthbnblmnamckmaaW.PrintMore
attribute [local go_sem] max2_int min2_int max_two min_two max_three min_three max_four min_four   -- for this text's walks alone
set_option linter.unusedVariables false
set_option linter.unusedSimpArgs false

/-! ### codec_Value: function 26 -/
def codec_Value.f (k : Nat) (l0 : List Int) : Option (Int × Int × ByteArray × Int × (List (S24)) × Int × Int):=(codec_reader_value.f k l0 0 false false).bind fun bt284 => (if bt284.2.2.2.2.2.2.2 = true then (some (0,0,(⟨#[]⟩ : ByteArray),0,([] : List (S24)),0,20)) else (some (bt284.1,bt284.2.1,bt284.2.2.1,bt284.2.2.2.1,bt284.2.2.2.2.1,bt284.2.2.2.2.2.2.1,0)))
theorem codec_Value.mono : ∀ a0 k,LeO (codec_Value.f k a0) (codec_Value.f (k + 1) a0):=by
 intro a0 k
 unfold codec_Value.f
 repeat' first
   | (with_reducible exact codec_reader_value.mono _ _ _ _ _)
   | (with_reducible exact LeO.refl _)
   | (with_reducible exact LeO.none _)
   | (with_reducible refine LeO.ite ?_ ?_)
   | (with_reducible refine LeO.bind ?_ (fun _ => ?_))
   | exact codec_reader_value.mono _ _ _ _ _
   | exact LeO.none _
   | refine LeO.ite ?_ ?_
   | refine LeO.bind ?_ (fun _ => ?_)
def codec_Value.T5 : Bool × List (List Nat × List Nat):=(true,[([],[]),([],[]),([1],[1]),([2],[2]),([3],[3]),([0,0],[0]),([4,5,0,1,2,3,4,5],[4]),([6,0,1,2,3,4,5,6],[])])
def codec_Value.B5 : List Nat:=[0,0,2,6,14,1,63,127]
theorem codec_Value.tab5 : rtab .any (opsOf Try.f26 5) = codec_Value.T5:=by kernel_rfl
theorem codec_Value.bits5 : waitsOk codec_Value.T5.2 codec_Value.B5 = true:=by kernel_rfl
set_option maxHeartbeats 8000000 in
set_option maxRecDepth 100000 in
theorem codec_Value.calls (k : Nat) (A0 : Option Addr) (c0 : Nat) (l0 : List Int) (r1 : Int) (r2 : Int) (r3 : ByteArray) (r4 : Int) (r5 : List (S24)) (r6 : Int) (r7 : Int) (w : World) (hr0 : Kd.C (Kd.int .u8) w A0 l0.length l0) (hc0 : l0.length ≤ c0) (h : codec_Value.f k l0 = some (r1,r2,r3,r4,r5,r6,r7)) :
  Calls Try.prog 26 #[.slice A0 l0.length c0] w fun e w' => ∃ v4_ : Value,e = .returned (.tuple #[.agg #[.int .i64 r1, .int .i64 r2, .string r3, .int .i64 r4,v4_], .int .i64 r6, .int .i64 r7]) ∧ Kd.R k24 24 w' w.heap.size (fun _ => True) v4_ r5 ∧ Below w.heap.size w w':=by
 have hu24:=Try.underlying24
 have hu76:=Try.underlying76
 have HR0:=Aside0.mk hr0
 have HC0:=Aside0.mk hc0
 clear hr0 hc0
 have HB:=Aside0.mk (Below.refl w.heap.size w)
 have H : ((codec_reader_value.f k l0 0 false false).bind fun bt284 => (if bt284.2.2.2.2.2.2.2 = true then (some (0,0,(⟨#[]⟩ : ByteArray),0,([] : List (S24)),0,20)) else (some (bt284.1,bt284.2.1,bt284.2.2.1,bt284.2.2.2.1,bt284.2.2.2.2.1,bt284.2.2.2.2.2.2.1,0)))) = some (r1,r2,r3,r4,r5,r6,r7):=h
 clear h
 replace H:=Option.bind_eq_some_iff.mp H
 obtain ⟨⟨t284,t285,t286,t287,t288,t291,t292,t293⟩,A20,H⟩:=H
 replace H : (if t293 = true then (some (0,0,(⟨#[]⟩ : ByteArray),0,([] : List (S24)),0,20)) else (some (t284,t285,t286,t287,t288,t292,0))) = some (r1,r2,r3,r4,r5,r6,r7):=H
 have A2:=Aside0.mk A20
 clear A20
 by_cases c3 : t293 = true
 ·subst c3
  have H1 : (some (0,0,(⟨#[]⟩ : ByteArray),0,([] : List (S24)),0,20)) = some (r1,r2,r3,r4,r5,r6,r7):=by rw [if_pos rfl] at H;exact H
  clear H
  have H:=H1
  clear H1
  simp only [Option.some.injEq,Prod.mk.injEq] at H
  obtain ⟨rfl,rfl,rfl,rfl,rfl,rfl,rfl⟩:=H
  go_enter Try.func26,Try.ntmps26
  go_wp2_with (first|((with_reducible refine gate_dst (N:=2) rfl ?_);refine box_event ?hg (N:=2) ?hd (cs:=#[.int .i64 0, .int .i64 0, .string (⟨#[]⟩ : ByteArray), .int .i64 0, .slice none 0 0]) (t:=24) ?hr ?_;(case hd => rfl);(case hg => rfl);(case hr => first|(go_simp;done)|(go_simp;rfl));intro gb282 hg w4 hbox hb;have n0_:=Aside0.mk (below_step (by repeat (first|(with_reducible first|exact HB.out|apply below_alloc|apply pw_below_drewN|apply below_drew1)|exact HB.out)) hb);have n1_:=Aside0.mk (hbox);have n2_:=Aside0.mk ((by rw [hg];exact (below_size (by repeat (first|(with_reducible first|exact HB.out|apply below_alloc|apply pw_below_drewN|apply below_drew1)|exact HB.out))) : w.heap.size ≤ gb282));have n3_:=Aside0.mk ((by rw [hg];exact (below_size (by repeat (first|(with_reducible first|exact HB.out|apply below_alloc|apply pw_below_drewN|apply below_drew1)|exact HB.out))) : w.heap.size ≤ gb282));clear HB;have HB:=n0_;have BK282:=n1_;have GW282:=n2_;have GE282:=n3_;clear n0_ n1_ n2_ n3_;clear hb hbox hg)|((with_reducible refine gate_dst (N:=9) rfl ?_);refine box_event ?hg (N:=9) ?hd (cs:=#[.slice A0 l0.length c0, .int .i64 0, .bool false]) (t:=76) ?hr ?_;(case hd => rfl);(case hg => rfl);(case hr => first|(go_simp;done)|(go_simp;rfl));intro gb283 hg w5 hbox hb;have n0_:=Aside0.mk (blk_below (g:=gb282) (o := .cells #[.int .i64 0, .int .i64 0, .string (⟨#[]⟩ : ByteArray), .int .i64 0, .slice none 0 0] 24 (0,0)) (by (with_reducible repeat (first|refine blk_drewN ?_ _|refine blk_drew ?_|refine blk_alloc ?_ _));exact BK282.out) hb);have n1_:=Aside0.mk (below_step (by repeat (first|(with_reducible first|exact HB.out|apply below_alloc|apply pw_below_drewN|apply below_drew1|refine below_set ?_ GE282.out)|exact HB.out)) hb);have n2_:=Aside0.mk (hbox);have n3_:=Aside0.mk ((by rw [hg];exact (below_size (by repeat (first|(with_reducible first|exact HB.out|apply below_alloc|apply pw_below_drewN|apply below_drew1|refine below_set ?_ GE282.out)|exact HB.out))) : w.heap.size ≤ gb283));have n4_:=Aside0.mk ((by rw [hg];exact (below_size (by repeat (first|(with_reducible first|exact HB.out|apply below_alloc|apply pw_below_drewN|apply below_drew1|refine below_set ?_ GE282.out)|exact HB.out))) : w.heap.size ≤ gb283));have n5_:=Aside0.mk ((by rw [hg];exact Nat.ne_of_lt (blk_lt (g:=gb282) (o := .cells #[.int .i64 0, .int .i64 0, .string (⟨#[]⟩ : ByteArray), .int .i64 0, .slice none 0 0] 24 (0,0)) (by (with_reducible repeat (first|refine blk_drewN ?_ _|refine blk_drew ?_|refine blk_alloc ?_ _));exact BK282.out)) : gb282 ≠ gb283));have n6_:=Aside0.mk ((by rw [hg];exact Nat.ne_of_gt (blk_lt (g:=gb282) (o := .cells #[.int .i64 0, .int .i64 0, .string (⟨#[]⟩ : ByteArray), .int .i64 0, .slice none 0 0] 24 (0,0)) (by (with_reducible repeat (first|refine blk_drewN ?_ _|refine blk_drew ?_|refine blk_alloc ?_ _));exact BK282.out)) : gb283 ≠ gb282));clear BK282;clear HB;have BK282:=n0_;have HB:=n1_;have BK283:=n2_;have GW283:=n3_;have GE283:=n4_;have NB282_283:=n5_;have NB283_282:=n6_;clear n0_ n1_ n2_ n3_ n4_ n5_ n6_;clear hb hbox hg;have HI283:=Aside0.mk (show IsS76 w _ gb283 l0 0 false from ⟨_,_,BK283.out,GE283.out,HR0.out,HC0.out⟩);clear BK283)|((with_reducible refine gate_callee (f:=39) rfl ?_);refine goesL_ (some 11) rfl rfl Try.func39 (by kernel_rfl) rfl #[.pointer (some ⟨gb283,0,none⟩), .bool false] rfl (by (try simp only [List.map_toArray,List.map_cons,List.map_nil]);first|done|rfl|(simp only [List.length_drop,List.length_take];rfl)|(go_simp;done)|(go_simp;simp;done)) ?_;(with_reducible refine (codec_reader_value.calls k gb283 l0 0 false false t284 t285 t286 t287 t288 t291 t292 true w _ ?side1 ?side2 A2.out).mono ?_);(case side1 => first|((repeat (first|(with_reducible first|exact HI283.out|apply IsS76.alloc|apply IsS76.drewN|apply IsS76.drew|apply IsS76.set_1|apply IsS76.set_2|refine IsS76.far ?_ NB283_282.out _|(apply IsS76.far;case hne => exact NB283_282.out))|exact HI283.out));done)|((simp only [*]);(repeat (first|(with_reducible first|exact HI283.out|apply IsS76.alloc|apply IsS76.drewN|apply IsS76.drew|apply IsS76.set_1|apply IsS76.set_2|refine IsS76.far ?_ NB283_282.out _|(apply IsS76.far;case hne => exact NB283_282.out))|exact HI283.out))));(case side2 => repeat (first|(with_reducible first|exact HB.out|apply below_alloc|apply pw_below_drewN|apply below_drew1|refine below_set ?_ (IsS76.ge HI283.out)|refine below_set ?_ GE282.out)|exact HB.out));rintro e w6 ⟨v289,rfl,ho0,hi,hb,hk⟩;refine ⟨_,rfl,?_⟩;have n0_:=Aside0.mk (KeepBut.blk hk (g':=gb282) (o := .cells #[.int .i64 0, .int .i64 0, .string (⟨#[]⟩ : ByteArray), .int .i64 0, .slice none 0 0] 24 (0,0)) (by (with_reducible repeat (first|refine blk_drewN ?_ _|refine blk_drew ?_|refine blk_alloc ?_ _));exact BK282.out) NB282_283.out (by simp));have n1_:=Aside0.mk (Kd.R_lower (Kd.R_newB ho0 (g:=gb282) (o := .cells #[.int .i64 0, .int .i64 0, .string (⟨#[]⟩ : ByteArray), .int .i64 0, .slice none 0 0] 24 (0,0)) (by (with_reducible repeat (first|refine blk_drewN ?_ _|refine blk_drew ?_|refine blk_alloc ?_ _));exact BK282.out)) (below_size (by repeat (first|(with_reducible first|exact HB.out|apply below_alloc|apply pw_below_drewN|apply below_drew1|refine below_set ?_ (IsS76.ge HI283.out)|refine below_set ?_ GE282.out)|exact HB.out))));have n2_:=Aside0.mk (hb);have n3_:=Aside0.mk (hi);clear BK282;clear HB;clear HI283;have BK282:=n0_;have HO290:=n1_;have HB:=n2_;have HI283:=n3_;clear n0_ n1_ n2_ n3_;(try clear hb);(try clear hb2);(try clear hk);(try clear hi);(try clear ho0))|((with_reducible refine gate_dst (N:=6) rfl ?_);refine box_event ?hg (N:=6) ?hd (cs:=#[.int .i64 0, .int .i64 0, .string (⟨#[]⟩ : ByteArray), .int .i64 0, .slice none 0 0]) (t:=24) ?hr ?_;(case hd => rfl);(case hg => rfl);(case hr => first|(go_simp;done)|(go_simp;rfl));intro gb294 hg w7 hbox hb;have n0_:=Aside0.mk (Kd.R_below (Kd.R_elderB (by (with_reducible repeat (first|apply Kd.R_alloc|apply Kd.R_drewN|apply Kd.R_drew));exact HO290.out) gb294 (Nat.le_of_eq hg.symm)) hb);have n1_:=Aside0.mk (blk_below (g:=gb282) (o := .cells #[.int .i64 0, .int .i64 0, .string (⟨#[]⟩ : ByteArray), .int .i64 0, .slice none 0 0] 24 (0,0)) (by (with_reducible repeat (first|refine blk_drewN ?_ _|refine blk_drew ?_|refine blk_alloc ?_ _));exact BK282.out) hb);have n2_:=Aside0.mk (IsS76.below (by first|((repeat (first|(with_reducible first|exact HI283.out|apply IsS76.alloc|apply IsS76.drewN|apply IsS76.drew|apply IsS76.set_1|apply IsS76.set_2|refine IsS76.far ?_ NB283_282.out _|(apply IsS76.far;case hne => exact NB283_282.out))|exact HI283.out));done)|((simp only [*]);(repeat (first|(with_reducible first|exact HI283.out|apply IsS76.alloc|apply IsS76.drewN|apply IsS76.drew|apply IsS76.set_1|apply IsS76.set_2|refine IsS76.far ?_ NB283_282.out _|(apply IsS76.far;case hne => exact NB283_282.out))|exact HI283.out)))) hb);have n3_:=Aside0.mk (below_step (by repeat (first|(with_reducible first|exact HB.out|apply below_alloc|apply pw_below_drewN|apply below_drew1|refine below_set ?_ (IsS76.ge HI283.out)|refine below_set ?_ GE282.out)|exact HB.out)) hb);have n4_:=Aside0.mk (hbox);have n5_:=Aside0.mk ((by rw [hg];exact (below_size (by repeat (first|(with_reducible first|exact HB.out|apply below_alloc|apply pw_below_drewN|apply below_drew1|refine below_set ?_ (IsS76.ge HI283.out)|refine below_set ?_ GE282.out)|exact HB.out))) : w.heap.size ≤ gb294));have n6_:=Aside0.mk ((by rw [hg];exact (below_size (by repeat (first|(with_reducible first|exact HB.out|apply below_alloc|apply pw_below_drewN|apply below_drew1|refine below_set ?_ (IsS76.ge HI283.out)|refine below_set ?_ GE282.out)|exact HB.out))) : w.heap.size ≤ gb294));have n7_:=Aside0.mk ((by rw [hg];exact Nat.ne_of_lt (blk_lt (g:=gb282) (o := .cells #[.int .i64 0, .int .i64 0, .string (⟨#[]⟩ : ByteArray), .int .i64 0, .slice none 0 0] 24 (0,0)) (by (with_reducible repeat (first|refine blk_drewN ?_ _|refine blk_drew ?_|refine blk_alloc ?_ _));exact BK282.out)) : gb282 ≠ gb294));have n8_:=Aside0.mk ((by rw [hg];exact Nat.ne_of_gt (blk_lt (g:=gb282) (o := .cells #[.int .i64 0, .int .i64 0, .string (⟨#[]⟩ : ByteArray), .int .i64 0, .slice none 0 0] 24 (0,0)) (by (with_reducible repeat (first|refine blk_drewN ?_ _|refine blk_drew ?_|refine blk_alloc ?_ _));exact BK282.out)) : gb294 ≠ gb282));have n9_:=Aside0.mk ((by rw [hg];exact Nat.ne_of_lt (IsS76.lt (show IsS76 w _ gb283 t291 t292 true from by first|((repeat (first|(with_reducible first|exact HI283.out|apply IsS76.alloc|apply IsS76.drewN|apply IsS76.drew|apply IsS76.set_1|apply IsS76.set_2|refine IsS76.far ?_ NB283_282.out _|(apply IsS76.far;case hne => exact NB283_282.out))|exact HI283.out));done)|((simp only [*]);(repeat (first|(with_reducible first|exact HI283.out|apply IsS76.alloc|apply IsS76.drewN|apply IsS76.drew|apply IsS76.set_1|apply IsS76.set_2|refine IsS76.far ?_ NB283_282.out _|(apply IsS76.far;case hne => exact NB283_282.out))|exact HI283.out))))) : gb283 ≠ gb294));have n10_:=Aside0.mk ((by rw [hg];exact Nat.ne_of_gt (IsS76.lt (show IsS76 w _ gb283 t291 t292 true from by first|((repeat (first|(with_reducible first|exact HI283.out|apply IsS76.alloc|apply IsS76.drewN|apply IsS76.drew|apply IsS76.set_1|apply IsS76.set_2|refine IsS76.far ?_ NB283_282.out _|(apply IsS76.far;case hne => exact NB283_282.out))|exact HI283.out));done)|((simp only [*]);(repeat (first|(with_reducible first|exact HI283.out|apply IsS76.alloc|apply IsS76.drewN|apply IsS76.drew|apply IsS76.set_1|apply IsS76.set_2|refine IsS76.far ?_ NB283_282.out _|(apply IsS76.far;case hne => exact NB283_282.out))|exact HI283.out))))) : gb294 ≠ gb283));clear HO290;clear BK282;clear HI283;clear HB;have HO290:=n0_;have BK282:=n1_;have HI283:=n2_;have HB:=n3_;have BK294:=n4_;have GW294:=n5_;have GE294:=n6_;have NB282_294:=n7_;have NB294_282:=n8_;have NB283_294:=n9_;have NB294_283:=n10_;clear n0_ n1_ n2_ n3_ n4_ n5_ n6_ n7_ n8_ n9_ n10_;clear hb hbox hg;have hnb8:=NB294_282.out;have hnc8:=NB282_294.out;have hnb9:=NB294_283.out;have hnc9:=NB283_294.out;have hcz10_0 : w7.cell? ⟨gb294,0,none⟩ = some (.int .i64 0):=(blk_cell BK294.out 0).trans rfl;have hcz10_1 : w7.cell? ⟨gb294,1,none⟩ = some (.int .i64 0):=(blk_cell BK294.out 1).trans rfl;have hcz10_2 : w7.cell? ⟨gb294,2,none⟩ = some (.string (⟨#[]⟩ : ByteArray)):=(blk_cell BK294.out 2).trans rfl;have hcz10_3 : w7.cell? ⟨gb294,3,none⟩ = some (.int .i64 0):=(blk_cell BK294.out 3).trans rfl;have hcz10_4 : w7.cell? ⟨gb294,4,none⟩ = some (.slice none 0 0):=(blk_cell BK294.out 4).trans rfl;have hfz10_0:=blk_frozen BK294.out 0;have hfz10_1:=blk_frozen BK294.out 1;have hfz10_2:=blk_frozen BK294.out 2;have hfz10_3:=blk_frozen BK294.out 3;have hfz10_4:=blk_frozen BK294.out 4;obtain ⟨Ao11,co11,eo11⟩:=Kd.R_slice HO290.out;subst eo11;obtain ⟨ASz12_0,cSz12_0,HGz12,hgz12,HSz12_0,hlSz12_0⟩:=HI283.out;have hcz12_0:=cellS76_0 HGz12;have hcz12_1:=cellS76_1 HGz12;have hcz12_2:=cellS76_2 HGz12;have hfz12_0:=blk_frozen HGz12 0;have hfz12_1:=blk_frozen HGz12 1;have hfz12_2:=blk_frozen HGz12 2;clear HGz12 hgz12;have hnb13:=NB282_283.out;have hnc13:=NB283_282.out;have hcz14_0 : w7.cell? ⟨gb282,0,none⟩ = some (.int .i64 0):=(blk_cell BK282.out 0).trans rfl;have hcz14_1 : w7.cell? ⟨gb282,1,none⟩ = some (.int .i64 0):=(blk_cell BK282.out 1).trans rfl;have hcz14_2 : w7.cell? ⟨gb282,2,none⟩ = some (.string (⟨#[]⟩ : ByteArray)):=(blk_cell BK282.out 2).trans rfl;have hcz14_3 : w7.cell? ⟨gb282,3,none⟩ = some (.int .i64 0):=(blk_cell BK282.out 3).trans rfl;have hcz14_4 : w7.cell? ⟨gb282,4,none⟩ = some (.slice none 0 0):=(blk_cell BK282.out 4).trans rfl;have hfz14_0:=blk_frozen BK282.out 0;have hfz14_1:=blk_frozen BK282.out 1;have hfz14_2:=blk_frozen BK282.out 2;have hfz14_3:=blk_frozen BK282.out 3;have hfz14_4:=blk_frozen BK282.out 4))
  refine bodyPost_ret (results_ctt rfl _ _ gb282 24 #[.int .i64 0, .int .i64 0, .string (⟨#[]⟩ : ByteArray), .int .i64 0, .slice none 0 0] (0,0) _ rfl (by (with_reducible repeat (first|refine blk_drewN ?_ _|refine blk_drew ?_|refine blk_alloc ?_ _));refine blk_put (cs:=#[.int .i64 0, .int .i64 0, .string (⟨#[]⟩ : ByteArray), .int .i64 0, .slice none 0 0]) ?_ 4 _ rfl;(with_reducible repeat (first|refine blk_drewN ?_ _|refine blk_drew ?_|refine blk_alloc ?_ _));refine blk_put (cs:=#[.int .i64 0, .int .i64 0, .string (⟨#[]⟩ : ByteArray), .int .i64 0, .slice none 0 0]) ?_ 3 _ rfl;(with_reducible repeat (first|refine blk_drewN ?_ _|refine blk_drew ?_|refine blk_alloc ?_ _));refine blk_put (cs:=#[.int .i64 0, .int .i64 0, .string (⟨#[]⟩ : ByteArray), .int .i64 0, .slice none 0 0]) ?_ 2 _ rfl;(with_reducible repeat (first|refine blk_drewN ?_ _|refine blk_drew ?_|refine blk_alloc ?_ _));refine blk_put (cs:=#[.int .i64 0, .int .i64 0, .string (⟨#[]⟩ : ByteArray), .int .i64 0, .slice none 0 0]) ?_ 1 _ rfl;(with_reducible repeat (first|refine blk_drewN ?_ _|refine blk_drew ?_|refine blk_alloc ?_ _));refine blk_put (cs:=#[.int .i64 0, .int .i64 0, .string (⟨#[]⟩ : ByteArray), .int .i64 0, .slice none 0 0]) ?_ 0 _ rfl;(with_reducible repeat (first|refine blk_drewN ?_ _|refine blk_drew ?_|refine blk_alloc ?_ _));refine blk_far ?_ NB282_294.out _;(with_reducible repeat (first|refine blk_drewN ?_ _|refine blk_drew ?_|refine blk_alloc ?_ _));refine blk_far ?_ NB282_294.out _;(with_reducible repeat (first|refine blk_drewN ?_ _|refine blk_drew ?_|refine blk_alloc ?_ _));refine blk_far ?_ NB282_294.out _;(with_reducible repeat (first|refine blk_drewN ?_ _|refine blk_drew ?_|refine blk_alloc ?_ _));refine blk_far ?_ NB282_294.out _;(with_reducible repeat (first|refine blk_drewN ?_ _|refine blk_drew ?_|refine blk_alloc ?_ _));refine blk_far ?_ NB282_294.out _;(with_reducible repeat (first|refine blk_drewN ?_ _|refine blk_drew ?_|refine blk_alloc ?_ _));exact BK282.out) Try.underlying24 rfl (by kernel_rfl)) rfl ?_
  exact ⟨_,by first|rfl|(simp [errW_none,errW_some] <;> rfl)|(simp [*,errW_none,errW_some] <;> rfl),by first|exact Kd.R_nil _ _ _ _ _|exact Kd.N_nil _ _ _ _ _|exact Kd.V_nil _ _ _ _ _|exact Kd.Q_nil _ _ _ _ _|exact Kd.S_nil _ _ _ _ _,by repeat (first|(with_reducible first|exact HB.out|apply below_alloc|apply pw_below_drewN|apply below_drew1|refine below_set ?_ (IsS76.ge HI283.out)|refine below_set ?_ GE282.out|refine below_set ?_ GE294.out)|exact HB.out)⟩
 ·replace c3:=Bool.eq_false_iff.mpr c3
  subst c3
  have H1 : (some (t284,t285,t286,t287,t288,t292,0)) = some (r1,r2,r3,r4,r5,r6,r7):=by rw [if_neg (show ¬ (false = true) by decide)] at H;exact H
  clear H
  have H:=H1
  clear H1
  simp only [Option.some.injEq,Prod.mk.injEq] at H
  obtain ⟨rfl,rfl,rfl,rfl,rfl,rfl,rfl⟩:=H
  go_enter Try.func26,Try.ntmps26
  try go_wp2_with (first|((with_reducible refine gate_dst (N:=2) rfl ?_);refine box_event ?hg (N:=2) ?hd (cs:=#[.int .i64 0, .int .i64 0, .string (⟨#[]⟩ : ByteArray), .int .i64 0, .slice none 0 0]) (t:=24) ?hr ?_;(case hd => rfl);(case hg => rfl);(case hr => first|(go_simp;done)|(go_simp;rfl));intro gb282 hg w15 hbox hb;have n0_:=Aside0.mk (below_step (by repeat (first|(with_reducible first|exact HB.out|apply below_alloc|apply pw_below_drewN|apply below_drew1)|exact HB.out)) hb);have n1_:=Aside0.mk (hbox);have n2_:=Aside0.mk ((by rw [hg];exact (below_size (by repeat (first|(with_reducible first|exact HB.out|apply below_alloc|apply pw_below_drewN|apply below_drew1)|exact HB.out))) : w.heap.size ≤ gb282));have n3_:=Aside0.mk ((by rw [hg];exact (below_size (by repeat (first|(with_reducible first|exact HB.out|apply below_alloc|apply pw_below_drewN|apply below_drew1)|exact HB.out))) : w.heap.size ≤ gb282));clear HB;have HB:=n0_;have BK282:=n1_;have GW282:=n2_;have GE282:=n3_;clear n0_ n1_ n2_ n3_;clear hb hbox hg)|((with_reducible refine gate_dst (N:=9) rfl ?_);refine box_event ?hg (N:=9) ?hd (cs:=#[.slice A0 l0.length c0, .int .i64 0, .bool false]) (t:=76) ?hr ?_;(case hd => rfl);(case hg => rfl);(case hr => first|(go_simp;done)|(go_simp;rfl));intro gb283 hg w16 hbox hb;have n0_:=Aside0.mk (blk_below (g:=gb282) (o := .cells #[.int .i64 0, .int .i64 0, .string (⟨#[]⟩ : ByteArray), .int .i64 0, .slice none 0 0] 24 (0,0)) (by (with_reducible repeat (first|refine blk_drewN ?_ _|refine blk_drew ?_|refine blk_alloc ?_ _));exact BK282.out) hb);have n1_:=Aside0.mk (below_step (by repeat (first|(with_reducible first|exact HB.out|apply below_alloc|apply pw_below_drewN|apply below_drew1|refine below_set ?_ GE282.out)|exact HB.out)) hb);have n2_:=Aside0.mk (hbox);have n3_:=Aside0.mk ((by rw [hg];exact (below_size (by repeat (first|(with_reducible first|exact HB.out|apply below_alloc|apply pw_below_drewN|apply below_drew1|refine below_set ?_ GE282.out)|exact HB.out))) : w.heap.size ≤ gb283));have n4_:=Aside0.mk ((by rw [hg];exact (below_size (by repeat (first|(with_reducible first|exact HB.out|apply below_alloc|apply pw_below_drewN|apply below_drew1|refine below_set ?_ GE282.out)|exact HB.out))) : w.heap.size ≤ gb283));have n5_:=Aside0.mk ((by rw [hg];exact Nat.ne_of_lt (blk_lt (g:=gb282) (o := .cells #[.int .i64 0, .int .i64 0, .string (⟨#[]⟩ : ByteArray), .int .i64 0, .slice none 0 0] 24 (0,0)) (by (with_reducible repeat (first|refine blk_drewN ?_ _|refine blk_drew ?_|refine blk_alloc ?_ _));exact BK282.out)) : gb282 ≠ gb283));have n6_:=Aside0.mk ((by rw [hg];exact Nat.ne_of_gt (blk_lt (g:=gb282) (o := .cells #[.int .i64 0, .int .i64 0, .string (⟨#[]⟩ : ByteArray), .int .i64 0, .slice none 0 0] 24 (0,0)) (by (with_reducible repeat (first|refine blk_drewN ?_ _|refine blk_drew ?_|refine blk_alloc ?_ _));exact BK282.out)) : gb283 ≠ gb282));clear BK282;clear HB;have BK282:=n0_;have HB:=n1_;have BK283:=n2_;have GW283:=n3_;have GE283:=n4_;have NB282_283:=n5_;have NB283_282:=n6_;clear n0_ n1_ n2_ n3_ n4_ n5_ n6_;clear hb hbox hg;have HI283:=Aside0.mk (show IsS76 w _ gb283 l0 0 false from ⟨_,_,BK283.out,GE283.out,HR0.out,HC0.out⟩);clear BK283)|((with_reducible refine gate_callee (f:=39) rfl ?_);refine goesL_ (some 11) rfl rfl Try.func39 (by kernel_rfl) rfl #[.pointer (some ⟨gb283,0,none⟩), .bool false] rfl (by (try simp only [List.map_toArray,List.map_cons,List.map_nil]);first|done|rfl|(simp only [List.length_drop,List.length_take];rfl)|(go_simp;done)|(go_simp;simp;done)) ?_;(with_reducible refine (codec_reader_value.calls k gb283 l0 0 false false t284 t285 t286 t287 t288 t291 t292 false w _ ?side1 ?side2 A2.out).mono ?_);(case side1 => first|((repeat (first|(with_reducible first|exact HI283.out|apply IsS76.alloc|apply IsS76.drewN|apply IsS76.drew|apply IsS76.set_1|apply IsS76.set_2|refine IsS76.far ?_ NB283_282.out _|(apply IsS76.far;case hne => exact NB283_282.out))|exact HI283.out));done)|((simp only [*]);(repeat (first|(with_reducible first|exact HI283.out|apply IsS76.alloc|apply IsS76.drewN|apply IsS76.drew|apply IsS76.set_1|apply IsS76.set_2|refine IsS76.far ?_ NB283_282.out _|(apply IsS76.far;case hne => exact NB283_282.out))|exact HI283.out))));(case side2 => repeat (first|(with_reducible first|exact HB.out|apply below_alloc|apply pw_below_drewN|apply below_drew1|refine below_set ?_ (IsS76.ge HI283.out)|refine below_set ?_ GE282.out)|exact HB.out));rintro e w17 ⟨v289,rfl,ho0,hi,hb,hk⟩;refine ⟨_,rfl,?_⟩;have n0_:=Aside0.mk (KeepBut.blk hk (g':=gb282) (o := .cells #[.int .i64 0, .int .i64 0, .string (⟨#[]⟩ : ByteArray), .int .i64 0, .slice none 0 0] 24 (0,0)) (by (with_reducible repeat (first|refine blk_drewN ?_ _|refine blk_drew ?_|refine blk_alloc ?_ _));exact BK282.out) NB282_283.out (by simp));have n1_:=Aside0.mk (Kd.R_lower (Kd.R_newB ho0 (g:=gb282) (o := .cells #[.int .i64 0, .int .i64 0, .string (⟨#[]⟩ : ByteArray), .int .i64 0, .slice none 0 0] 24 (0,0)) (by (with_reducible repeat (first|refine blk_drewN ?_ _|refine blk_drew ?_|refine blk_alloc ?_ _));exact BK282.out)) (below_size (by repeat (first|(with_reducible first|exact HB.out|apply below_alloc|apply pw_below_drewN|apply below_drew1|refine below_set ?_ (IsS76.ge HI283.out)|refine below_set ?_ GE282.out)|exact HB.out))));have n2_:=Aside0.mk (hb);have n3_:=Aside0.mk (hi);clear BK282;clear HB;clear HI283;have BK282:=n0_;have HO290:=n1_;have HB:=n2_;have HI283:=n3_;clear n0_ n1_ n2_ n3_;(try clear hb);(try clear hb2);(try clear hk);(try clear hi);(try clear ho0))|((with_reducible refine gate_dst (N:=6) rfl ?_);refine box_event ?hg (N:=6) ?hd (cs:=#[.int .i64 0, .int .i64 0, .string (⟨#[]⟩ : ByteArray), .int .i64 0, .slice none 0 0]) (t:=24) ?hr ?_;(case hd => rfl);(case hg => rfl);(case hr => first|(go_simp;done)|(go_simp;rfl));intro gb294 hg w18 hbox hb;have n0_:=Aside0.mk (Kd.R_below (Kd.R_elderB (by (with_reducible repeat (first|apply Kd.R_alloc|apply Kd.R_drewN|apply Kd.R_drew));exact HO290.out) gb294 (Nat.le_of_eq hg.symm)) hb);have n1_:=Aside0.mk (blk_below (g:=gb282) (o := .cells #[.int .i64 0, .int .i64 0, .string (⟨#[]⟩ : ByteArray), .int .i64 0, .slice none 0 0] 24 (0,0)) (by (with_reducible repeat (first|refine blk_drewN ?_ _|refine blk_drew ?_|refine blk_alloc ?_ _));exact BK282.out) hb);have n2_:=Aside0.mk (IsS76.below (by first|((repeat (first|(with_reducible first|exact HI283.out|apply IsS76.alloc|apply IsS76.drewN|apply IsS76.drew|apply IsS76.set_1|apply IsS76.set_2|refine IsS76.far ?_ NB283_282.out _|(apply IsS76.far;case hne => exact NB283_282.out))|exact HI283.out));done)|((simp only [*]);(repeat (first|(with_reducible first|exact HI283.out|apply IsS76.alloc|apply IsS76.drewN|apply IsS76.drew|apply IsS76.set_1|apply IsS76.set_2|refine IsS76.far ?_ NB283_282.out _|(apply IsS76.far;case hne => exact NB283_282.out))|exact HI283.out)))) hb);have n3_:=Aside0.mk (below_step (by repeat (first|(with_reducible first|exact HB.out|apply below_alloc|apply pw_below_drewN|apply below_drew1|refine below_set ?_ (IsS76.ge HI283.out)|refine below_set ?_ GE282.out)|exact HB.out)) hb);have n4_:=Aside0.mk (hbox);have n5_:=Aside0.mk ((by rw [hg];exact (below_size (by repeat (first|(with_reducible first|exact HB.out|apply below_alloc|apply pw_below_drewN|apply below_drew1|refine below_set ?_ (IsS76.ge HI283.out)|refine below_set ?_ GE282.out)|exact HB.out))) : w.heap.size ≤ gb294));have n6_:=Aside0.mk ((by rw [hg];exact (below_size (by repeat (first|(with_reducible first|exact HB.out|apply below_alloc|apply pw_below_drewN|apply below_drew1|refine below_set ?_ (IsS76.ge HI283.out)|refine below_set ?_ GE282.out)|exact HB.out))) : w.heap.size ≤ gb294));have n7_:=Aside0.mk ((by rw [hg];exact Nat.ne_of_lt (blk_lt (g:=gb282) (o := .cells #[.int .i64 0, .int .i64 0, .string (⟨#[]⟩ : ByteArray), .int .i64 0, .slice none 0 0] 24 (0,0)) (by (with_reducible repeat (first|refine blk_drewN ?_ _|refine blk_drew ?_|refine blk_alloc ?_ _));exact BK282.out)) : gb282 ≠ gb294));have n8_:=Aside0.mk ((by rw [hg];exact Nat.ne_of_gt (blk_lt (g:=gb282) (o := .cells #[.int .i64 0, .int .i64 0, .string (⟨#[]⟩ : ByteArray), .int .i64 0, .slice none 0 0] 24 (0,0)) (by (with_reducible repeat (first|refine blk_drewN ?_ _|refine blk_drew ?_|refine blk_alloc ?_ _));exact BK282.out)) : gb294 ≠ gb282));have n9_:=Aside0.mk ((by rw [hg];exact Nat.ne_of_lt (IsS76.lt (show IsS76 w _ gb283 t291 t292 false from by first|((repeat (first|(with_reducible first|exact HI283.out|apply IsS76.alloc|apply IsS76.drewN|apply IsS76.drew|apply IsS76.set_1|apply IsS76.set_2|refine IsS76.far ?_ NB283_282.out _|(apply IsS76.far;case hne => exact NB283_282.out))|exact HI283.out));done)|((simp only [*]);(repeat (first|(with_reducible first|exact HI283.out|apply IsS76.alloc|apply IsS76.drewN|apply IsS76.drew|apply IsS76.set_1|apply IsS76.set_2|refine IsS76.far ?_ NB283_282.out _|(apply IsS76.far;case hne => exact NB283_282.out))|exact HI283.out))))) : gb283 ≠ gb294));have n10_:=Aside0.mk ((by rw [hg];exact Nat.ne_of_gt (IsS76.lt (show IsS76 w _ gb283 t291 t292 false from by first|((repeat (first|(with_reducible first|exact HI283.out|apply IsS76.alloc|apply IsS76.drewN|apply IsS76.drew|apply IsS76.set_1|apply IsS76.set_2|refine IsS76.far ?_ NB283_282.out _|(apply IsS76.far;case hne => exact NB283_282.out))|exact HI283.out));done)|((simp only [*]);(repeat (first|(with_reducible first|exact HI283.out|apply IsS76.alloc|apply IsS76.drewN|apply IsS76.drew|apply IsS76.set_1|apply IsS76.set_2|refine IsS76.far ?_ NB283_282.out _|(apply IsS76.far;case hne => exact NB283_282.out))|exact HI283.out))))) : gb294 ≠ gb283));clear HO290;clear BK282;clear HI283;clear HB;have HO290:=n0_;have BK282:=n1_;have HI283:=n2_;have HB:=n3_;have BK294:=n4_;have GW294:=n5_;have GE294:=n6_;have NB282_294:=n7_;have NB294_282:=n8_;have NB283_294:=n9_;have NB294_283:=n10_;clear n0_ n1_ n2_ n3_ n4_ n5_ n6_ n7_ n8_ n9_ n10_;clear hb hbox hg;have hnb19:=NB294_282.out;have hnc19:=NB282_294.out;have hnb20:=NB294_283.out;have hnc20:=NB283_294.out;have hcz21_0 : w18.cell? ⟨gb294,0,none⟩ = some (.int .i64 0):=(blk_cell BK294.out 0).trans rfl;have hcz21_1 : w18.cell? ⟨gb294,1,none⟩ = some (.int .i64 0):=(blk_cell BK294.out 1).trans rfl;have hcz21_2 : w18.cell? ⟨gb294,2,none⟩ = some (.string (⟨#[]⟩ : ByteArray)):=(blk_cell BK294.out 2).trans rfl;have hcz21_3 : w18.cell? ⟨gb294,3,none⟩ = some (.int .i64 0):=(blk_cell BK294.out 3).trans rfl;have hcz21_4 : w18.cell? ⟨gb294,4,none⟩ = some (.slice none 0 0):=(blk_cell BK294.out 4).trans rfl;have hfz21_0:=blk_frozen BK294.out 0;have hfz21_1:=blk_frozen BK294.out 1;have hfz21_2:=blk_frozen BK294.out 2;have hfz21_3:=blk_frozen BK294.out 3;have hfz21_4:=blk_frozen BK294.out 4;obtain ⟨Ao22,co22,eo22⟩:=Kd.R_slice HO290.out;subst eo22;obtain ⟨ASz23_0,cSz23_0,HGz23,hgz23,HSz23_0,hlSz23_0⟩:=HI283.out;have hcz23_0:=cellS76_0 HGz23;have hcz23_1:=cellS76_1 HGz23;have hcz23_2:=cellS76_2 HGz23;have hfz23_0:=blk_frozen HGz23 0;have hfz23_1:=blk_frozen HGz23 1;have hfz23_2:=blk_frozen HGz23 2;clear HGz23 hgz23))
  have n0_ : Aside0 (Kd.R k24 24 (((((w18.setCell ⟨gb294,0,none⟩ (.int .i64 t284)).setCell ⟨gb294,1,none⟩ (.int .i64 t285)).setCell ⟨gb294,2,none⟩ (.string t286)).setCell ⟨gb294,3,none⟩ (.int .i64 t287)).setCell ⟨gb294,4,none⟩ (.slice Ao22 t288.length co22)) w.heap.size (fun k_ => k_ ≠ gb282 ∧ k_ ≠ gb294) (.slice Ao22 t288.length co22) t288):=⟨by (with_reducible repeat (first|apply Kd.R_alloc|apply Kd.R_drewN|apply Kd.R_drew));exact Kd.R_mono (Kd.R_far (p:=⟨gb294,4,none⟩) (Kd.R_far (p:=⟨gb294,3,none⟩) (Kd.R_far (p:=⟨gb294,2,none⟩) (Kd.R_far (p:=⟨gb294,1,none⟩) (Kd.R_far (p:=⟨gb294,0,none⟩) (Kd.R_mono HO290.out (fun k_ hk => (⟨hk,hk.2⟩ : _ ∧ k_ ≠ gb294))) (fun _ hk => hk.2) (.int .i64 t284)) (fun _ hk => hk.2) (.int .i64 t285)) (fun _ hk => hk.2) (.string t286)) (fun _ hk => hk.2) (.int .i64 t287)) (fun _ hk => hk.2) (.slice Ao22 t288.length co22)) (fun _ hk => ⟨hk.1.1.2,hk.1.2⟩)⟩
  have n1_ : Aside0 ((((((w18.setCell ⟨gb294,0,none⟩ (.int .i64 t284)).setCell ⟨gb294,1,none⟩ (.int .i64 t285)).setCell ⟨gb294,2,none⟩ (.string t286)).setCell ⟨gb294,3,none⟩ (.int .i64 t287)).setCell ⟨gb294,4,none⟩ (.slice Ao22 t288.length co22)).heap[gb282]? = some (.cells #[.int .i64 0, .int .i64 0, .string (⟨#[]⟩ : ByteArray), .int .i64 0, .slice none 0 0] 24 (0,0))):=⟨by (with_reducible repeat (first|refine blk_drewN ?_ _|refine blk_drew ?_|refine blk_alloc ?_ _));refine blk_far ?_ NB282_294.out _;(with_reducible repeat (first|refine blk_drewN ?_ _|refine blk_drew ?_|refine blk_alloc ?_ _));refine blk_far ?_ NB282_294.out _;(with_reducible repeat (first|refine blk_drewN ?_ _|refine blk_drew ?_|refine blk_alloc ?_ _));refine blk_far ?_ NB282_294.out _;(with_reducible repeat (first|refine blk_drewN ?_ _|refine blk_drew ?_|refine blk_alloc ?_ _));refine blk_far ?_ NB282_294.out _;(with_reducible repeat (first|refine blk_drewN ?_ _|refine blk_drew ?_|refine blk_alloc ?_ _));refine blk_far ?_ NB282_294.out _;(with_reducible repeat (first|refine blk_drewN ?_ _|refine blk_drew ?_|refine blk_alloc ?_ _));exact BK282.out⟩
  have n2_ : Aside0 ((((((w18.setCell ⟨gb294,0,none⟩ (.int .i64 t284)).setCell ⟨gb294,1,none⟩ (.int .i64 t285)).setCell ⟨gb294,2,none⟩ (.string t286)).setCell ⟨gb294,3,none⟩ (.int .i64 t287)).setCell ⟨gb294,4,none⟩ (.slice Ao22 t288.length co22)).heap[gb294]? = some (.cells #[.int .i64 t284, .int .i64 t285, .string t286, .int .i64 t287, .slice Ao22 t288.length co22] 24 (0,0))):=⟨by (with_reducible repeat (first|refine blk_drewN ?_ _|refine blk_drew ?_|refine blk_alloc ?_ _));refine blk_put (cs:=#[.int .i64 t284, .int .i64 t285, .string t286, .int .i64 t287, .slice none 0 0]) ?_ 4 _ rfl;(with_reducible repeat (first|refine blk_drewN ?_ _|refine blk_drew ?_|refine blk_alloc ?_ _));refine blk_put (cs:=#[.int .i64 t284, .int .i64 t285, .string t286, .int .i64 0, .slice none 0 0]) ?_ 3 _ rfl;(with_reducible repeat (first|refine blk_drewN ?_ _|refine blk_drew ?_|refine blk_alloc ?_ _));refine blk_put (cs:=#[.int .i64 t284, .int .i64 t285, .string (⟨#[]⟩ : ByteArray), .int .i64 0, .slice none 0 0]) ?_ 2 _ rfl;(with_reducible repeat (first|refine blk_drewN ?_ _|refine blk_drew ?_|refine blk_alloc ?_ _));refine blk_put (cs:=#[.int .i64 t284, .int .i64 0, .string (⟨#[]⟩ : ByteArray), .int .i64 0, .slice none 0 0]) ?_ 1 _ rfl;(with_reducible repeat (first|refine blk_drewN ?_ _|refine blk_drew ?_|refine blk_alloc ?_ _));refine blk_put (cs:=#[.int .i64 0, .int .i64 0, .string (⟨#[]⟩ : ByteArray), .int .i64 0, .slice none 0 0]) ?_ 0 _ rfl;(with_reducible repeat (first|refine blk_drewN ?_ _|refine blk_drew ?_|refine blk_alloc ?_ _));exact BK294.out⟩
  have n3_ : Aside0 (IsS76 w (((((w18.setCell ⟨gb294,0,none⟩ (.int .i64 t284)).setCell ⟨gb294,1,none⟩ (.int .i64 t285)).setCell ⟨gb294,2,none⟩ (.string t286)).setCell ⟨gb294,3,none⟩ (.int .i64 t287)).setCell ⟨gb294,4,none⟩ (.slice Ao22 t288.length co22)) gb283 t291 t292 false):=⟨by first|((repeat (first|(with_reducible first|exact HI283.out|apply IsS76.alloc|apply IsS76.drewN|apply IsS76.drew|apply IsS76.set_1|apply IsS76.set_2|refine IsS76.far ?_ NB283_282.out _|(apply IsS76.far;case hne => exact NB283_282.out)|refine IsS76.far ?_ NB283_294.out _|(apply IsS76.far;case hne => exact NB283_294.out))|exact HI283.out));done)|((simp only [*]);(repeat (first|(with_reducible first|exact HI283.out|apply IsS76.alloc|apply IsS76.drewN|apply IsS76.drew|apply IsS76.set_1|apply IsS76.set_2|refine IsS76.far ?_ NB283_282.out _|(apply IsS76.far;case hne => exact NB283_282.out)|refine IsS76.far ?_ NB283_294.out _|(apply IsS76.far;case hne => exact NB283_294.out))|exact HI283.out)))⟩
  have n4_ : Aside0 (Below w.heap.size w (((((w18.setCell ⟨gb294,0,none⟩ (.int .i64 t284)).setCell ⟨gb294,1,none⟩ (.int .i64 t285)).setCell ⟨gb294,2,none⟩ (.string t286)).setCell ⟨gb294,3,none⟩ (.int .i64 t287)).setCell ⟨gb294,4,none⟩ (.slice Ao22 t288.length co22))):=⟨by repeat (first|(with_reducible first|exact HB.out|apply below_alloc|apply pw_below_drewN|apply below_drew1|refine below_set ?_ (IsS76.ge HI283.out)|refine below_set ?_ GE282.out|refine below_set ?_ GE294.out)|exact HB.out)⟩
  (try clear HO290)
  (try clear BK282)
  (try clear BK294)
  (try clear HI283)
  (try clear HB)
  generalize (((((w18.setCell ⟨gb294,0,none⟩ (.int .i64 t284)).setCell ⟨gb294,1,none⟩ (.int .i64 t285)).setCell ⟨gb294,2,none⟩ (.string t286)).setCell ⟨gb294,3,none⟩ (.int .i64 t287)).setCell ⟨gb294,4,none⟩ (.slice Ao22 t288.length co22)) = w24 at n0_ n1_ n2_ n3_ n4_ ⊢
  have HO290:=n0_
  have BK282:=n1_
  have BK294:=n2_
  have HI283:=n3_
  have HB:=n4_
  clear n0_ n1_ n2_ n3_ n4_
  obtain ⟨AT283_0,cT283_0,HGT_,hgT_,hrT_0,hlT_0⟩:=HI283.out
  have BK283:=Aside0.mk HGT_
  clear HGT_ hgT_ HI283
  have n0_:=Aside0.mk (Kd.R_drew HO290.out)
  have n1_:=Aside0.mk (blk_drew BK282.out)
  have n2_:=Aside0.mk (blk_drew BK283.out)
  have n3_:=Aside0.mk (blk_drew BK294.out)
  have n4_:=Aside0.mk (below_drew1 HB.out)
  clear HO290
  clear BK282
  clear BK283
  clear BK294
  clear HB
  have HO290:=n0_
  have BK282:=n1_
  have BK283:=n2_
  have BK294:=n3_
  have HB:=n4_
  clear n0_ n1_ n2_ n3_ n4_
  refine start_ (n:=8) (S:=fun w' => w'.cell? ⟨gb294,0,none⟩ = some (.int .i64 t284) ∧ w'.cell? ⟨gb294,1,none⟩ = some (.int .i64 t285) ∧ w'.cell? ⟨gb294,2,none⟩ = some (.string t286) ∧ w'.cell? ⟨gb294,3,none⟩ = some (.int .i64 t287) ∧ w'.cell? ⟨gb294,4,none⟩ = some (.slice Ao22 t288.length co22) ∧ w'.cell? ⟨gb283,0,none⟩ = some (.slice AT283_0 t291.length cT283_0) ∧ w'.cell? ⟨gb283,1,none⟩ = some (.int .i64 t292) ∧ w'.cell? ⟨gb283,2,none⟩ = some (.bool false)) (ds:=[]) #[false,false,false,false,false,false,false,false] (by kernel_rfl) rfl rfl ⟨(blk_cell BK294.out 0).trans rfl,(blk_cell BK294.out 1).trans rfl,(blk_cell BK294.out 2).trans rfl,(blk_cell BK294.out 3).trans rfl,(blk_cell BK294.out 4).trans rfl,(blk_cell BK283.out 0).trans rfl,(blk_cell BK283.out 1).trans rfl,(blk_cell BK283.out 2).trans rfl⟩ (fun hHeld => ?_);refine with_tabW codec_Value.tab5 codec_Value.bits5 (fun HT_ HW_ => ?_)
  generalize w24.drew = w25 at HO290 BK282 BK283 BK294 HB hHeld ⊢
  refine pure_ (i:=1) (N:=some 18) (v:=?_) (a':=?_) #[false,true,false,false,false,false,false,false] rfl rfl (any_of HT_.out (by kernel_rfl)) (fun _ _ _ h => h) (Or.inl ⟨by rfl,?_⟩) ?_ ?_
  rotate_left
  ·intro w'
   go_simp
   with_reducible rfl
  rotate_left
  ·simp only [Act.put,List.setIfInBounds_toArray,List.set_cons_zero,List.set_cons_succ,i64_w,i32_w]
   rfl
  refine pure_ (i:=2) (N:=some 19) (v:=?_) (a':=?_) #[false,true,true,false,false,false,false,false] rfl rfl (any_of HT_.out (by kernel_rfl)) (fun _ _ _ h => h) (Or.inl ⟨by rfl,?_⟩) ?_ ?_
  rotate_left
  ·intro w'
   go_simp
   with_reducible rfl
  rotate_left
  ·simp only [Act.put,List.setIfInBounds_toArray,List.set_cons_zero,List.set_cons_succ,i64_w,i32_w]
   rfl
  refine pure_ (i:=3) (N:=some 20) (v:=?_) (a':=?_) #[false,true,true,true,false,false,false,false] rfl rfl (any_of HT_.out (by kernel_rfl)) (fun _ _ _ h => h) (Or.inl ⟨by rfl,?_⟩) ?_ ?_
  rotate_left
  ·intro w'
   go_simp
   with_reducible rfl
  rotate_left
  ·simp only [Act.put,List.setIfInBounds_toArray,List.set_cons_zero,List.set_cons_succ,i64_w,i32_w]
   rfl
  refine take_ (i:=0) (N:=some 17) (v:=?_) (a':=?_) #[true,true,true,true,false,false,false,false] rfl rfl (take_ofW HT_.out HW_.out (by kernel_rfl)) (fun _ _ _ h => h) (Or.inl ⟨by rfl,?_⟩) hHeld ?_ ?_
  rotate_left
  ·rintro w' ⟨s0,s1,s2,s3,s4,s5,s6,s7⟩
   go_simp
   with_reducible rfl
  rotate_left
  ·simp only [Act.put,List.setIfInBounds_toArray,List.set_cons_zero,List.set_cons_succ,i64_w,i32_w]
   rfl
  refine take_ (i:=4) (N:=some 21) (v:=?_) (a':=?_) #[true,true,true,true,true,false,false,false] rfl rfl (take_ofW HT_.out HW_.out (by kernel_rfl)) (fun _ _ _ h => h) (Or.inl ⟨by rfl,?_⟩) hHeld ?_ ?_
  rotate_left
  ·rintro w' ⟨s0,s1,s2,s3,s4,s5,s6,s7⟩
   go_simp
   with_reducible rfl
  rotate_left
  ·simp only [Act.put,List.setIfInBounds_toArray,List.set_cons_zero,List.set_cons_succ,i64_w,i32_w]
   rfl
  refine one_ (i:=5) (N:=none) #[true,true,true,true,true,true,false,false] rfl rfl (one_of HT_.out (by kernel_rfl)) (by decide) (fun K hK => ?_)
  have hs26 : w25.cell? ⟨gb282,0,none⟩ = some (.int .i64 0):=(blk_cell BK282.out 0).trans rfl
  have hfs26:=blk_frozen BK282.out 0
  have hns26_1:=NB283_282.out
  have hns26_2:=NB294_282.out
  have hms26_1:=NB282_283.out
  have hms26_2:=NB282_294.out
  have hs27 : w25.cell? ⟨gb282,1,none⟩ = some (.int .i64 0):=(blk_cell BK282.out 1).trans rfl
  have hfs27:=blk_frozen BK282.out 1
  have hns27_1:=NB283_282.out
  have hns27_2:=NB294_282.out
  have hms27_1:=NB282_283.out
  have hms27_2:=NB282_294.out
  have hs28 : w25.cell? ⟨gb282,2,none⟩ = some (.string (⟨#[]⟩ : ByteArray)):=(blk_cell BK282.out 2).trans rfl
  have hfs28:=blk_frozen BK282.out 2
  have hns28_1:=NB283_282.out
  have hns28_2:=NB294_282.out
  have hms28_1:=NB282_283.out
  have hms28_2:=NB282_294.out
  have hs29 : w25.cell? ⟨gb282,3,none⟩ = some (.int .i64 0):=(blk_cell BK282.out 3).trans rfl
  have hfs29:=blk_frozen BK282.out 3
  have hns29_1:=NB283_282.out
  have hns29_2:=NB294_282.out
  have hms29_1:=NB282_283.out
  have hms29_2:=NB282_294.out
  have hs30 : w25.cell? ⟨gb282,4,none⟩ = some (.slice none 0 0):=(blk_cell BK282.out 4).trans rfl
  have hfs30:=blk_frozen BK282.out 4
  have hns30_1:=NB283_282.out
  have hns30_2:=NB294_282.out
  have hms30_1:=NB282_283.out
  have hms30_2:=NB282_294.out
  refine skip_ (w1:=?_) (by rfl) rfl ?_ ?_
  rotate_left
  ·go_simp
   rfl
  refine hK.out _ _ ⟨((cell_far (p:=⟨gb282,_,none⟩) NB294_282.out _).trans (((cell_far (p:=⟨gb282,_,none⟩) NB294_282.out _).trans (((cell_far (p:=⟨gb282,_,none⟩) NB294_282.out _).trans (((cell_far (p:=⟨gb282,_,none⟩) NB294_282.out _).trans (((cell_far (p:=⟨gb282,_,none⟩) NB294_282.out _).trans (hHeld.1)))))))))),((cell_far (p:=⟨gb282,_,none⟩) NB294_282.out _).trans (((cell_far (p:=⟨gb282,_,none⟩) NB294_282.out _).trans (((cell_far (p:=⟨gb282,_,none⟩) NB294_282.out _).trans (((cell_far (p:=⟨gb282,_,none⟩) NB294_282.out _).trans (((cell_far (p:=⟨gb282,_,none⟩) NB294_282.out _).trans (hHeld.2.1)))))))))),((cell_far (p:=⟨gb282,_,none⟩) NB294_282.out _).trans (((cell_far (p:=⟨gb282,_,none⟩) NB294_282.out _).trans (((cell_far (p:=⟨gb282,_,none⟩) NB294_282.out _).trans (((cell_far (p:=⟨gb282,_,none⟩) NB294_282.out _).trans (((cell_far (p:=⟨gb282,_,none⟩) NB294_282.out _).trans (hHeld.2.2.1)))))))))),((cell_far (p:=⟨gb282,_,none⟩) NB294_282.out _).trans (((cell_far (p:=⟨gb282,_,none⟩) NB294_282.out _).trans (((cell_far (p:=⟨gb282,_,none⟩) NB294_282.out _).trans (((cell_far (p:=⟨gb282,_,none⟩) NB294_282.out _).trans (((cell_far (p:=⟨gb282,_,none⟩) NB294_282.out _).trans (hHeld.2.2.2.1)))))))))),((cell_far (p:=⟨gb282,_,none⟩) NB294_282.out _).trans (((cell_far (p:=⟨gb282,_,none⟩) NB294_282.out _).trans (((cell_far (p:=⟨gb282,_,none⟩) NB294_282.out _).trans (((cell_far (p:=⟨gb282,_,none⟩) NB294_282.out _).trans (((cell_far (p:=⟨gb282,_,none⟩) NB294_282.out _).trans (hHeld.2.2.2.2.1)))))))))),((cell_far (p:=⟨gb282,_,none⟩) NB283_282.out _).trans (((cell_far (p:=⟨gb282,_,none⟩) NB283_282.out _).trans (((cell_far (p:=⟨gb282,_,none⟩) NB283_282.out _).trans (((cell_far (p:=⟨gb282,_,none⟩) NB283_282.out _).trans (((cell_far (p:=⟨gb282,_,none⟩) NB283_282.out _).trans (hHeld.2.2.2.2.2.1)))))))))),((cell_far (p:=⟨gb282,_,none⟩) NB283_282.out _).trans (((cell_far (p:=⟨gb282,_,none⟩) NB283_282.out _).trans (((cell_far (p:=⟨gb282,_,none⟩) NB283_282.out _).trans (((cell_far (p:=⟨gb282,_,none⟩) NB283_282.out _).trans (((cell_far (p:=⟨gb282,_,none⟩) NB283_282.out _).trans (hHeld.2.2.2.2.2.2.1)))))))))),((cell_far (p:=⟨gb282,_,none⟩) NB283_282.out _).trans (((cell_far (p:=⟨gb282,_,none⟩) NB283_282.out _).trans (((cell_far (p:=⟨gb282,_,none⟩) NB283_282.out _).trans (((cell_far (p:=⟨gb282,_,none⟩) NB283_282.out _).trans (((cell_far (p:=⟨gb282,_,none⟩) NB283_282.out _).trans (hHeld.2.2.2.2.2.2.2))))))))))⟩ (fun hHeld => ?_)
  clear hK K
  refine pure_ (i:=6) (N:=some 3) (v:=?_) (a':=?_) #[true,true,true,true,true,true,true,false] rfl rfl (any_of HT_.out (by kernel_rfl)) (fun _ _ _ h => h) (Or.inl ⟨by rfl,?_⟩) ?_ ?_
  rotate_left
  ·intro w'
   go_simp
   with_reducible rfl
  rotate_left
  ·simp only [Act.put,List.setIfInBounds_toArray,List.set_cons_zero,List.set_cons_succ,i64_w,i32_w]
   rfl
  refine pure_ (i:=7) (N:=some 4) (v:=?_) (a':=?_) #[true,true,true,true,true,true,true,true] rfl rfl (any_of HT_.out (by kernel_rfl)) (fun _ _ _ h => h) (Or.inl ⟨by rfl,?_⟩) ?_ ?_
  rotate_left
  ·intro w'
   go_simp
   with_reducible rfl
  rotate_left
  ·simp only [Act.put,List.setIfInBounds_toArray,List.set_cons_zero,List.set_cons_succ,i64_w,i32_w]
   rfl
  refine done_ (done_of HT_.out (by kernel_rfl)) ?_
  try go_wp2
  refine bodyPost_ret (results_ctt rfl _ _ gb282 24 #[.int .i64 t284, .int .i64 t285, .string t286, .int .i64 t287, .slice Ao22 t288.length co22] (0,0) _ rfl (by (with_reducible repeat (first|refine blk_drewN ?_ _|refine blk_drew ?_|refine blk_alloc ?_ _));refine blk_put (cs:=#[.int .i64 t284, .int .i64 t285, .string t286, .int .i64 t287, .slice none 0 0]) ?_ 4 _ rfl;(with_reducible repeat (first|refine blk_drewN ?_ _|refine blk_drew ?_|refine blk_alloc ?_ _));refine blk_put (cs:=#[.int .i64 t284, .int .i64 t285, .string t286, .int .i64 0, .slice none 0 0]) ?_ 3 _ rfl;(with_reducible repeat (first|refine blk_drewN ?_ _|refine blk_drew ?_|refine blk_alloc ?_ _));refine blk_put (cs:=#[.int .i64 t284, .int .i64 t285, .string (⟨#[]⟩ : ByteArray), .int .i64 0, .slice none 0 0]) ?_ 2 _ rfl;(with_reducible repeat (first|refine blk_drewN ?_ _|refine blk_drew ?_|refine blk_alloc ?_ _));refine blk_put (cs:=#[.int .i64 t284, .int .i64 0, .string (⟨#[]⟩ : ByteArray), .int .i64 0, .slice none 0 0]) ?_ 1 _ rfl;(with_reducible repeat (first|refine blk_drewN ?_ _|refine blk_drew ?_|refine blk_alloc ?_ _));refine blk_put (cs:=#[.int .i64 0, .int .i64 0, .string (⟨#[]⟩ : ByteArray), .int .i64 0, .slice none 0 0]) ?_ 0 _ rfl;(with_reducible repeat (first|refine blk_drewN ?_ _|refine blk_drew ?_|refine blk_alloc ?_ _));exact BK282.out) Try.underlying24 rfl (by kernel_rfl)) rfl ?_
  exact ⟨_,by first|rfl|(simp [errW_none,errW_some] <;> rfl)|(simp [*,errW_none,errW_some] <;> rfl),by (with_reducible repeat (first|apply Kd.R_alloc|apply Kd.R_drewN|apply Kd.R_drew));exact Kd.R_mono (Kd.R_far (p:=⟨gb282,4,none⟩) (Kd.R_far (p:=⟨gb282,3,none⟩) (Kd.R_far (p:=⟨gb282,2,none⟩) (Kd.R_far (p:=⟨gb282,1,none⟩) (Kd.R_far (p:=⟨gb282,0,none⟩) (Kd.R_mono HO290.out (fun k_ hk => (⟨hk,hk.1⟩ : _ ∧ k_ ≠ gb282))) (fun _ hk => hk.2) (.int .i64 t284)) (fun _ hk => hk.2) (.int .i64 t285)) (fun _ hk => hk.2) (.string t286)) (fun _ hk => hk.2) (.int .i64 t287)) (fun _ hk => hk.2) (.slice Ao22 t288.length co22)) (fun _ hk => trivial),by repeat (first|(with_reducible first|exact HB.out|apply below_alloc|apply pw_below_drewN|apply below_drew1|refine below_set ?_ GE282.out|refine below_set ?_ GE283.out|refine below_set ?_ GE294.out)|exact HB.out)⟩

end Go.Proofs.Ythbnblmnamckmaa.PAll
-- Laid by a program of this seat (wip/xprint.py over the kit's print).
namespace Go.Proofs.Ythbnblmnamckmaa.PAll
open Go.RowKit Go.Proofs.YthbnblmnamckmaaW.PrintWords Go.Proofs.YthbnblmnamckmaaW.PrintLast Go.Proofs.YthbnblmnamckmaaW.PrintMore
attribute [local go_sem] max2_int min2_int max_two min_two max_three min_three max_four min_four   -- for this text's walks alone
set_option linter.unusedVariables false
set_option linter.unusedSimpArgs false

/-! ### windlassref3_order: function 48 -/
def windlassref3_order.f (a0 : Bool) (a1 : Bool) : Option (Int) := if a0 = true then (some (-1)) else (if a1 = true then (some 1) else (some 0))
set_option maxHeartbeats 8000000 in
set_option maxRecDepth 100000 in
theorem windlassref3_order.calls (a0 : Bool) (a1 : Bool) (r : Int) (w : World) (h : windlassref3_order.f a0 a1 = some r) :
    Calls Try.prog 48 #[.bool a0, .bool a1] w fun e w' => e = .returned (.int .i64 r) ∧ Drawn0 w w' := by
  have H : (if a0 = true then (some (-1)) else (if a1 = true then (some 1) else (some 0))) = some r := h
  clear h
  by_cases c3 : a0 = true
  · subst c3
    have H1 : (some (-1)) = some r := by rw [if_pos rfl] at H; exact H
    clear H
    have H := H1
    clear H1
    obtain rfl := Option.some.inj H
    go_enter Try.func48, Try.ntmps48
    go_wp2
    go_ret
    exact ⟨by first | rfl | (simp; done) | (simp [*]; done), by repeat (first | exact Drawn0.refl _ | apply Drawn0.step)⟩
  · replace c3 := Bool.eq_false_iff.mpr c3
    subst c3
    have H1 : (if a1 = true then (some 1) else (some 0)) = some r := by rw [if_neg (show ¬ (false = true) by decide)] at H; exact H
    clear H
    have H := H1
    clear H1
    by_cases c4 : a1 = true
    · subst c4
      have H1 : (some 1) = some r := by rw [if_pos rfl] at H; exact H
      clear H
      have H := H1
      clear H1
      obtain rfl := Option.some.inj H
      go_enter Try.func48, Try.ntmps48
      go_wp2
      go_ret
      exact ⟨by first | rfl | (simp; done) | (simp [*]; done), by repeat (first | exact Drawn0.refl _ | apply Drawn0.step)⟩
    · replace c4 := Bool.eq_false_iff.mpr c4
      subst c4
      have H1 : (some 0) = some r := by rw [if_neg (show ¬ (false = true) by decide)] at H; exact H
      clear H
      have H := H1
      clear H1
      obtain rfl := Option.some.inj H
      go_enter Try.func48, Try.ntmps48
      go_wp2
      go_ret
      exact ⟨by first | rfl | (simp; done) | (simp [*]; done), by repeat (first | exact Drawn0.refl _ | apply Drawn0.step)⟩

end Go.Proofs.Ythbnblmnamckmaa.PAll
