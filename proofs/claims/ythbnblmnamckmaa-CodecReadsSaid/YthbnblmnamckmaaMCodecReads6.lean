-- Laid by a program of this seat (wip/merge.py): PAllx12, PAllx13, Qbr, Qtr, Qr, PureCodecReads.
import Derived.Test.YthbnblmnamckmaaMCodecReads0
import Derived.Test.YthbnblmnamckmaaMCodecReads2
import Derived.Test.YthbnblmnamckmaaMCodecReads5
import Derived.Test.YthbnblmnamckmaaMCodecReads3
import Derived.Test.YthbnblmnamckmaaMCodecReads4
-- Laid by a program of this seat (wip/xprint.py over the kit's print).
namespace Go.Proofs.Ythbnblmnamckmaa.PAll
open Go.RowKit Go.Proofs.YthbnblmnamckmaaW.PrintWords Go.Proofs.YthbnblmnamckmaaW.PrintLast Go.Proofs.YthbnblmnamckmaaW.PrintMore
attribute [local go_sem] max2_int min2_int max_two min_two max_three min_three max_four min_four   -- for this text's walks alone
set_option linter.unusedVariables false
set_option linter.unusedSimpArgs false

/-! ### windlassref2_PutUint: function 21 -/
def windlassref2_PutUint.l0 : Nat → Int → List Int → Option (List Int)
  | 0, _, _ => none
  | k + 1, x0, x3 => if x0 ≥ 128 then (if x3.length < 140737488355328 then (windlassref2_PutUint.l0 k (IntKind.u64.wrap (Int.tdiv x0 128)) (x3 ++ [((Int.tmod x0 128) + 128) % 256])) else (none)) else (if x3.length < 140737488355328 then (some (x3 ++ [(x0) % 256])) else (none))
def windlassref2_PutUint.f (k : Nat) (a0 : Int) : Option (List Int) := windlassref2_PutUint.l0 k a0 ([] : List Int)
theorem windlassref2_PutUint.mono_l : ∀ k, (∀ y0 y1, LeO (windlassref2_PutUint.l0 k y0 y1) (windlassref2_PutUint.l0 (k + 1) y0 y1))
  | 0 => fun _ _ r h => by simp [windlassref2_PutUint.l0] at h
  | k + 1 => by
    have ih0 := windlassref2_PutUint.mono_l k
    · intro y0 y1
      unfold windlassref2_PutUint.l0
      repeat' first
      | (with_reducible exact ih0 _ _)
      | (with_reducible exact LeO.refl _)
      | (with_reducible exact LeO.none _)
      | (with_reducible refine LeO.ite ?_ ?_)
      | (with_reducible refine LeO.bind ?_ (fun _ => ?_))
      | exact ih0 _ _
      | exact LeO.none _
      | refine LeO.ite ?_ ?_
      | refine LeO.bind ?_ (fun _ => ?_)
theorem windlassref2_PutUint.mono : ∀ a0 k, LeO (windlassref2_PutUint.f k a0) (windlassref2_PutUint.f (k + 1) a0) := by
  intro a0 k
  have ih0 := windlassref2_PutUint.mono_l k
  unfold windlassref2_PutUint.f
  repeat' first
      | (with_reducible exact ih0 _ _)
      | (with_reducible exact LeO.refl _)
      | (with_reducible exact LeO.none _)
      | (with_reducible refine LeO.ite ?_ ?_)
      | (with_reducible refine LeO.bind ?_ (fun _ => ?_))
      | exact ih0 _ _
      | exact LeO.none _
      | refine LeO.ite ?_ ?_
      | refine LeO.bind ?_ (fun _ => ?_)
set_option maxHeartbeats 8000000 in
set_option maxRecDepth 100000 in
theorem windlassref2_PutUint.calls (k : Nat) (a0 : Int) (r : List Int) (w : World) (h : windlassref2_PutUint.f k a0 = some r) :
    Calls Try.prog 21 #[.int .u64 a0] w fun e w' => ∃ v0_ : Value, e = .returned (v0_) ∧ Kd.R (Kd.int .u8) 5 w' w.heap.size (fun _ => True) v0_ r ∧ Below w.heap.size w w' := by
  have HB := Aside0.mk (Below.refl w.heap.size w)
  have H : (windlassref2_PutUint.l0 k a0 ([] : List Int)) = some r := h
  clear h
  have H' := Aside0.mk H
  clear H
  go_enter Try.func21, Try.ntmps21
  go_wp2
  go_loopg [0, 3] k (fun kq v0 v3 w' => ∃ (x0_1 : Int) (x3_1 : List Int), v0 = .int .u64 x0_1 ∧ Aside0 (windlassref2_PutUint.l0 kq x0_1 x3_1 = some r) ∧ Aside0 (kq ≤ k) ∧ Aside0 (Kd.R (Kd.int .u8) 5 w' w.heap.size (fun _ => True) v3 x3_1) ∧ Aside0 (Below w.heap.size w w'))
  case atStart => exact ⟨(a0), (([] : List Int)), (by first | rfl | (simp; done) | (simp [*]; done)), H', ⟨Nat.le_refl _⟩, ⟨by first | exact Kd.R_nil _ _ _ _ _ | exact Kd.N_nil _ _ _ _ _ | exact Kd.V_nil _ _ _ _ _ | exact Kd.Q_nil _ _ _ _ _ | exact Kd.S_nil _ _ _ _ _⟩, ⟨by repeat (first | (with_reducible first | exact HB.out | apply below_alloc | apply pw_below_drewN | apply below_drew1) | exact HB.out)⟩⟩
  case round =>
    clear H'
    obtain ⟨x0_1, x3_1, rfl, HA, HK1, HO_3, HB⟩ := hrel
    cases gk with
    | zero => exact absurd HA.out (by simp [windlassref2_PutUint.l0])
    | succ k1 =>
      have H := HA.out
      clear HA
      simp only [windlassref2_PutUint.l0] at H
      by_cases c2 : x0_1 ≥ 128
      · rw [if_pos c2] at H
        have c2b0 : decide (128 ≤ x0_1) = true := decide_eq_true c2
        clear c2
        by_cases c3 : x3_1.length < 140737488355328
        · rw [if_pos c3] at H
          have LMc3 := Aside0.mk c3
          clear c3
          obtain ⟨y196, hy196⟩ : ∃ y_ : List Int, y_ = (x3_1 ++ [((Int.tmod x0_1 128) + 128) % 256]) := ⟨_, rfl⟩
          replace H : (windlassref2_PutUint.l0 k1 (IntKind.u64.wrap (Int.tdiv x0_1 128)) y196) = some r := by first | (rw [hy196]; with_reducible exact H) | (have H2_ := (Option.bind_some _ _).symm.trans H; rw [hy196]; with_reducible exact H2_) | (have H2_ := (Option.bind_some _ _).symm.trans H; with_reducible exact H2_) | with_reducible exact H | (rw [hy196]; exact H) | exact H
          have Ny196 := Aside0.mk hy196
          clear hy196
          have H' := Aside0.mk H
          clear H
          go_wp2_with (first | ((with_reducible refine gate_builtin (b := .append) (xs := #[.tmp 6, .tmp 11]) rfl ?_); at_builtin; refine Kd.R_append (Kd.int .u8) (w0 := w) w.heap.size rfl (.tmp 6) (.tmp 11) 30 5 (.int .u8 0) 1 rfl Try.underlying30 info5 rfl (by decide) (by omega) u3 x3_1 (((Int.tmod x0_1 128) + 128) % 256) [.int .u8 (((Int.tmod x0_1 128) + 128) % 256)] (fun _ => True) (fun _ => False) rfl rfl ?aP (fun _ hk => hk.elim) ?aF ?aO ?aB ?aS ?aL ?_; (case aP => exact rfl); (case aB => exact (by repeat (first | (with_reducible first | exact HB.out | apply below_alloc | apply pw_below_drewN | apply below_drew1) | exact HB.out))); (case aF => exact (fun _ _ => trivial)); (case aO => exact (by (with_reducible repeat (first | apply Kd.R_alloc | apply Kd.R_drewN | apply Kd.R_drew)); exact HO_3.out)); (case aS => exact (below_size (by repeat (first | (with_reducible first | exact HB.out | apply below_alloc | apply pw_below_drewN | apply below_drew1) | exact HB.out)))); (case aL => have := LMc3.out; omega); intro v197 w4 ho hb hg hat; rw [← Ny196.out] at ho; have n0_ := Aside0.mk (hb); have n1_ := Aside0.mk (ho); clear HB; clear HO_3; have HB := n0_; have HO198 := n1_; clear n0_ n1_; clear ho hb hg hat))
          go_roundg k1
          case measure => have := HK1.out; omega
          case rel => exact ⟨(IntKind.u64.wrap (Int.tdiv x0_1 128)), (y196), (by first | rfl | (simp; done) | (simp [*]; done)), H', ⟨by have := HK1.out; omega⟩, ⟨by (with_reducible repeat (first | apply Kd.R_alloc | apply Kd.R_drewN | apply Kd.R_drew)); exact HO198.out⟩, ⟨by repeat (first | (with_reducible first | exact HB.out | apply below_alloc | apply pw_below_drewN | apply below_drew1) | exact HB.out)⟩⟩
        · rw [if_neg c3] at H
          exact absurd H (by simp)
      · rw [if_neg c2] at H
        have c2b0 : decide (128 ≤ x0_1) = false := decide_eq_false c2
        clear c2
        by_cases c5 : x3_1.length < 140737488355328
        · rw [if_pos c5] at H
          have LMc5 := Aside0.mk c5
          clear c5
          obtain ⟨y199, hy199⟩ : ∃ y_ : List Int, y_ = (x3_1 ++ [(x0_1) % 256]) := ⟨_, rfl⟩
          replace H : (some y199) = some r := by first | (rw [hy199]; with_reducible exact H) | (have H2_ := (Option.bind_some _ _).symm.trans H; rw [hy199]; with_reducible exact H2_) | (have H2_ := (Option.bind_some _ _).symm.trans H; with_reducible exact H2_) | with_reducible exact H | (rw [hy199]; exact H) | exact H
          have Ny199 := Aside0.mk hy199
          clear hy199
          obtain rfl := Option.some.inj H
          go_wp2_with (first | ((with_reducible refine gate_builtin (b := .append) (xs := #[.tmp 15, .tmp 18]) rfl ?_); at_builtin; refine Kd.R_append (Kd.int .u8) (w0 := w) w.heap.size rfl (.tmp 15) (.tmp 18) 30 5 (.int .u8 0) 1 rfl Try.underlying30 info5 rfl (by decide) (by omega) u3 x3_1 ((x0_1) % 256) [.int .u8 ((x0_1) % 256)] (fun _ => True) (fun _ => False) rfl rfl ?aP (fun _ hk => hk.elim) ?aF ?aO ?aB ?aS ?aL ?_; (case aP => exact rfl); (case aB => exact (by repeat (first | (with_reducible first | exact HB.out | apply below_alloc | apply pw_below_drewN | apply below_drew1) | exact HB.out))); (case aF => exact (fun _ _ => trivial)); (case aO => exact (by (with_reducible repeat (first | apply Kd.R_alloc | apply Kd.R_drewN | apply Kd.R_drew)); exact HO_3.out)); (case aS => exact (below_size (by repeat (first | (with_reducible first | exact HB.out | apply below_alloc | apply pw_below_drewN | apply below_drew1) | exact HB.out)))); (case aL => have := LMc5.out; omega); intro v200 w6 ho hb hg hat; rw [← Ny199.out] at ho; have n0_ := Aside0.mk (hb); have n1_ := Aside0.mk (ho); clear HB; clear HO_3; have HB := n0_; have HO201 := n1_; clear n0_ n1_; clear ho hb hg hat))
          go_ret
          exact ⟨_, by first | rfl | (simp [errW_none, errW_some] <;> rfl) | (simp [*, errW_none, errW_some] <;> rfl), by (with_reducible repeat (first | apply Kd.R_alloc | apply Kd.R_drewN | apply Kd.R_drew)); exact HO201.out, by repeat (first | (with_reducible first | exact HB.out | apply below_alloc | apply pw_below_drewN | apply below_drew1) | exact HB.out)⟩
        · rw [if_neg c5] at H
          exact absurd H (by simp)

end Go.Proofs.Ythbnblmnamckmaa.PAll
-- Laid by a program of this seat (wip/xprint.py over the kit's print).
namespace Go.Proofs.Ythbnblmnamckmaa.PAll
open Go.RowKit Go.Proofs.YthbnblmnamckmaaW.PrintWords Go.Proofs.YthbnblmnamckmaaW.PrintLast Go.Proofs.YthbnblmnamckmaaW.PrintMore
attribute [local go_sem] max2_int min2_int max_two min_two max_three min_three max_four min_four   -- for this text's walks alone
set_option linter.unusedVariables false
set_option linter.unusedSimpArgs false

/-! ### windlassref2_PutInt: function 22 -/
def windlassref2_PutInt.f (k : Nat) (a0 : Int) : Option (List Int) := if a0 < 0 then ((windlassref2_PutUint.f k (IntKind.u64.wrap ((IntKind.u64.wrap (2 * (IntKind.u64.wrap (wrap64 (-(wrap64 (a0 + 1))))))) + 1))).bind fun t202 => (some t202)) else ((windlassref2_PutUint.f k (IntKind.u64.wrap (2 * (IntKind.u64.wrap (a0))))).bind fun t205 => (some t205))
theorem windlassref2_PutInt.mono : ∀ a0 k, LeO (windlassref2_PutInt.f k a0) (windlassref2_PutInt.f (k + 1) a0) := by
  intro a0 k
  unfold windlassref2_PutInt.f
  repeat' first
      | (with_reducible exact windlassref2_PutUint.mono _ _)
      | (with_reducible exact LeO.refl _)
      | (with_reducible exact LeO.none _)
      | (with_reducible refine LeO.ite ?_ ?_)
      | (with_reducible refine LeO.bind ?_ (fun _ => ?_))
      | exact windlassref2_PutUint.mono _ _
      | exact LeO.none _
      | refine LeO.ite ?_ ?_
      | refine LeO.bind ?_ (fun _ => ?_)
set_option maxHeartbeats 8000000 in
set_option maxRecDepth 100000 in
theorem windlassref2_PutInt.calls (k : Nat) (a0 : Int) (r : List Int) (w : World) (h : windlassref2_PutInt.f k a0 = some r) :
    Calls Try.prog 22 #[.int .i64 a0] w fun e w' => ∃ v0_ : Value, e = .returned (v0_) ∧ Kd.R (Kd.int .u8) 5 w' w.heap.size (fun _ => True) v0_ r ∧ Below w.heap.size w w' := by
  have HB := Aside0.mk (Below.refl w.heap.size w)
  have H : (if a0 < 0 then ((windlassref2_PutUint.f k (IntKind.u64.wrap ((IntKind.u64.wrap (2 * (IntKind.u64.wrap (wrap64 (-(wrap64 (a0 + 1))))))) + 1))).bind fun t202 => (some t202)) else ((windlassref2_PutUint.f k (IntKind.u64.wrap (2 * (IntKind.u64.wrap (a0))))).bind fun t205 => (some t205))) = some r := h
  clear h
  by_cases c2 : a0 < 0
  · rw [if_pos c2] at H
    have c2b0 : decide (a0 < 0) = true := decide_eq_true c2
    clear c2
    replace H := Option.bind_eq_some_iff.mp H
    obtain ⟨t202, A30, H⟩ := H
    replace H : (some t202) = some r := H
    have A3 := Aside0.mk A30
    clear A30
    obtain rfl := Option.some.inj H
    go_enter Try.func22, Try.ntmps22
    go_wp2_with (first | ((with_reducible refine gate_callee (f := 21) rfl ?_); refine goesL_ (some 11) rfl rfl Try.func21 (by kernel_rfl) rfl #[.int .u64 (IntKind.u64.wrap ((IntKind.u64.wrap (2 * (IntKind.u64.wrap (wrap64 (-(wrap64 (a0 + 1))))))) + 1))] rfl (by (try simp only [List.map_toArray, List.map_cons, List.map_nil]); first | done | rfl | (simp only [List.length_drop, List.length_take]; rfl) | (go_simp; done) | (go_simp; simp; done)) ?_; (with_reducible refine (windlassref2_PutUint.calls k (IntKind.u64.wrap ((IntKind.u64.wrap (2 * (IntKind.u64.wrap (wrap64 (-(wrap64 (a0 + 1))))))) + 1)) t202 _ A3.out).mono ?_); rintro e w4 ⟨v203, rfl, ho0, hb⟩; refine ⟨_, rfl, ?_⟩; have n0_ := Aside0.mk (Kd.R_lower ho0 (below_size (by repeat (first | (with_reducible first | exact HB.out | apply below_alloc | apply pw_below_drewN | apply below_drew1) | exact HB.out)))); have n1_ := Aside0.mk (below_step (by repeat (first | (with_reducible first | exact HB.out | apply below_alloc | apply pw_below_drewN | apply below_drew1) | exact HB.out)) hb); clear HB; have HO204 := n0_; have HB := n1_; clear n0_ n1_; (try clear hb); (try clear hb2); (try clear hk); (try clear hi); (try clear ho0)))
    go_ret
    exact ⟨_, by first | rfl | (simp [errW_none, errW_some] <;> rfl) | (simp [*, errW_none, errW_some] <;> rfl), by (with_reducible repeat (first | apply Kd.R_alloc | apply Kd.R_drewN | apply Kd.R_drew)); exact HO204.out, by repeat (first | (with_reducible first | exact HB.out | apply below_alloc | apply pw_below_drewN | apply below_drew1) | exact HB.out)⟩
  · rw [if_neg c2] at H
    have c2b0 : decide (a0 < 0) = false := decide_eq_false c2
    clear c2
    replace H := Option.bind_eq_some_iff.mp H
    obtain ⟨t205, A50, H⟩ := H
    replace H : (some t205) = some r := H
    have A5 := Aside0.mk A50
    clear A50
    obtain rfl := Option.some.inj H
    go_enter Try.func22, Try.ntmps22
    go_wp2_with (first | ((with_reducible refine gate_callee (f := 21) rfl ?_); refine goesL_ (some 15) rfl rfl Try.func21 (by kernel_rfl) rfl #[.int .u64 (IntKind.u64.wrap (2 * (IntKind.u64.wrap (a0))))] rfl (by (try simp only [List.map_toArray, List.map_cons, List.map_nil]); first | done | rfl | (simp only [List.length_drop, List.length_take]; rfl) | (go_simp; done) | (go_simp; simp; done)) ?_; (with_reducible refine (windlassref2_PutUint.calls k (IntKind.u64.wrap (2 * (IntKind.u64.wrap (a0)))) t205 _ A5.out).mono ?_); rintro e w6 ⟨v206, rfl, ho0, hb⟩; refine ⟨_, rfl, ?_⟩; have n0_ := Aside0.mk (Kd.R_lower ho0 (below_size (by repeat (first | (with_reducible first | exact HB.out | apply below_alloc | apply pw_below_drewN | apply below_drew1) | exact HB.out)))); have n1_ := Aside0.mk (below_step (by repeat (first | (with_reducible first | exact HB.out | apply below_alloc | apply pw_below_drewN | apply below_drew1) | exact HB.out)) hb); clear HB; have HO207 := n0_; have HB := n1_; clear n0_ n1_; (try clear hb); (try clear hb2); (try clear hk); (try clear hi); (try clear ho0)))
    go_ret
    exact ⟨_, by first | rfl | (simp [errW_none, errW_some] <;> rfl) | (simp [*, errW_none, errW_some] <;> rfl), by (with_reducible repeat (first | apply Kd.R_alloc | apply Kd.R_drewN | apply Kd.R_drew)); exact HO207.out, by repeat (first | (with_reducible first | exact HB.out | apply below_alloc | apply pw_below_drewN | apply below_drew1) | exact HB.out)⟩

end Go.Proofs.Ythbnblmnamckmaa.PAll
/-
  What the code's and the reference's PutUint, Uint, PutInt, Int compute: the bytes of a number, and back. Conditions: the numbers are of their kinds, the bytes are bytes.
-/
namespace Go.Proofs.Ythbnblmnamckmaa.Q
open Go.RowKit Go.Proofs.Ythbnblmnamckmaa.PAll Go.Proofs.YthbnblmnamckmaaW.PrintWords Go.Proofs.YthbnblmnamckmaaW.PrintLast Go.Proofs.YthbnblmnamckmaaW.PrintMore
set_option linter.unusedVariables false
set_option linter.unusedSimpArgs false

theorem ev_ref_PutUint_l0 (j : Nat) : ∀ (n : Nat) (acc : List Int), n < 18446744073709551616 → n < 128 ^ (j + 1) → acc.length + j < 140737488355328 → Ev (fun k => windlassref2_PutUint.l0 k (n : Int) acc) (acc ++ putU n) := by
  induction j with
  | zero =>
    intro n acc h64 hn ha
    have hs : n < 128 := by simpa using hn
    refine Ev.step (fun k => rfl) ?_
    simp only [windlassref2_PutUint.l0]
    simp only [if_neg (show ¬ ((n : Int) ≥ 128) by omega), if_pos (show acc.length < 140737488355328 by omega)]
    have e : (n : Int) % 256 = n := by omega
    rw [e, putU_small hs]
    exact Ev.now _
  | succ j ih =>
    intro n acc h64 hn ha
    by_cases hs : n < 128
    · refine Ev.step (fun k => rfl) ?_
      simp only [windlassref2_PutUint.l0]
      simp only [if_neg (show ¬ ((n : Int) ≥ 128) by omega), if_pos (show acc.length < 140737488355328 by omega)]
      have e : (n : Int) % 256 = n := by omega
      rw [e, putU_small hs]
      exact Ev.now _
    · refine Ev.step (fun k => rfl) ?_
      simp only [windlassref2_PutUint.l0]
      simp only [if_pos (show ((n : Int) ≥ 128) by omega), if_pos (show acc.length < 140737488355328 by omega)]
      have e : ((Int.tmod (n : Int) 128) + 128) % 256 = ((n % 128 + 128 : Nat) : Int) := by rw [Int.tmod_eq_emod_of_nonneg (by omega)]; omega
      have e2 : IntKind.u64.wrap (Int.tdiv (n : Int) 128) = ((n / 128 : Nat) : Int) := by rw [Int.tdiv_eq_ediv_of_nonneg (by omega), u64_id (by omega) (by omega)]; omega
      rw [e, e2, putU_big hs]
      have := ih (n / 128) (acc ++ [((n % 128 + 128 : Nat) : Int)]) (by omega) (Nat.div_lt_of_lt_mul (by rw [Nat.mul_comm, ← Nat.pow_succ]; exact hn)) (by simp; omega)
      rw [List.append_assoc] at this
      exact this
theorem ev_ref_PutUint {n : Nat} (h : n < 18446744073709551616) : Ev (fun k => windlassref2_PutUint.f k (n : Int)) (putU n) :=
  ev_ref_PutUint_l0 9 n [] h (by rw [pow10]; omega) (by simp)
theorem ev_ref_PutUint' {a : Int} (h0 : 0 ≤ a) (h : a < 18446744073709551616) : Ev (fun k => windlassref2_PutUint.f k a) (putU a.toNat) := by
  have := ev_ref_PutUint (n := a.toNat) (by omega)
  rwa [Int.toNat_of_nonneg h0] at this

theorem ev_ref_PutInt {a : Int} (h0 : -9223372036854775808 ≤ a) (h1 : a ≤ 9223372036854775807) : Ev (fun k => windlassref2_PutInt.f k a) (putU (zig a)) := by
  unfold windlassref2_PutInt.f
  by_cases h : a < 0
  · simp only [if_pos h]
    have e : IntKind.u64.wrap ((IntKind.u64.wrap (2 * (IntKind.u64.wrap (wrap64 (-(wrap64 (a + 1))))))) + 1) = (zig a : Int) := by
      rw [w64_id (n := a + 1) (by omega) (by omega), w64_id (by omega) (by omega), u64_id (n := -(a + 1)) (by omega) (by omega), u64_id (n := 2 * -(a + 1)) (by omega) (by omega), u64_id (by omega) (by omega)]
      unfold zig
      rw [if_neg (by omega)]
      omega
    rw [e]
    exact Ev.bind (ev_ref_PutUint (zig_lt h0 h1)) (Ev.now _)
  · simp only [if_neg h]
    have e : IntKind.u64.wrap (2 * (IntKind.u64.wrap a)) = (zig a : Int) := by
      rw [u64_id (n := a) (by omega) (by omega), u64_id (by omega) (by omega)]
      unfold zig
      rw [if_pos (by omega)]
      omega
    rw [e]
    exact Ev.bind (ev_ref_PutUint (zig_lt h0 h1)) (Ev.now _)

theorem ev_ref_Uint_l0 (l : List Int) (hb : Bytes l) (d : Nat) : ∀ (i : Nat) (acc : Int), i + d = 10 → i ≤ l.length → (i ≤ 9 → 0 ≤ acc ∧ acc < 128 ^ i) → Ev (fun k => windlassref2_Uint.l0 k l acc (i : Int)) (resU acc i (decU i (l.drop i))) := by
  induction d with
  | zero =>
    intro i acc hi hl h0
    obtain rfl : i = 10 := by omega
    rw [decU_ten]
    refine Ev.step (fun k => rfl) ?_
    simp only [windlassref2_Uint.l0]
    by_cases he : (10 : Nat) = l.length
    · simp only [if_neg (show ¬ (((10 : Nat) : Int) < (l.length : Int)) by omega)]
      exact Ev.now _
    · simp only [if_pos (show (((10 : Nat) : Int) < (l.length : Int)) by omega), if_pos (show (0 : Int) ≤ ((10 : Nat) : Int) by omega), if_pos (show ((10 : Nat) : Int) = 10 by omega)]
      refine Ev.step (fun k => rfl) ?_
      simp only [windlassref2_Uint.j1, if_true]
      exact Ev.now _
  | succ d ih =>
    intro i acc hi hl h01
    obtain ⟨h0, h1⟩ := h01 (by omega)
    refine Ev.step (fun k => rfl) ?_
    simp only [windlassref2_Uint.l0]
    by_cases he : i = l.length
    · simp only [if_neg (show ¬ ((i : Int) < (l.length : Int)) by omega)]
      rw [List.drop_eq_nil_of_le (by omega)]
      exact Ev.now _
    · have hlt : i < l.length := by omega
      have hc := rd_byte hb hlt
      have e7 : wrap64 (7 * (i : Int)) = 7 * (i : Int) := w64_id (by omega) (by omega)
      have ei : wrap64 ((i : Int) + 1) = ((i + 1 : Nat) : Int) := by rw [w64_id (by omega) (by omega)]; omega
      simp only [if_pos (show (0 : Int) ≤ (i : Int) by omega), if_pos (show ((i : Int) < (l.length : Int)) by omega), if_neg (show ¬ ((i : Int) = 10) by omega)]
      rw [rd_drop hlt]
      have main : ∀ c, rd l (i : Int) = c → 0 ≤ c ∧ c ≤ 255 → (i = 9 → c % 128 ≤ 1) → Ev (fun k => windlassref2_Uint.j1 k l acc (i : Int) (c % 128) false) (resU acc i (if c < 128 then some (c, 1) else (decU (i + 1) (l.drop (i + 1))).map fun r => (c % 128 + 128 * r.1, r.2 + 1))) := by
        intro c hcc hc h9
        refine Ev.step (fun k => rfl) ?_
        simp only [windlassref2_Uint.j1]
        simp only [if_neg (show ¬ (false = true) by decide), e7, ei, if_pos (show (0 : Int) ≤ 7 * (i : Int) by omega), if_pos (show (0 : Int) ≤ (i : Int) by omega), if_pos (show ((i : Int) < (l.length : Int)) by omega), hcc]
        rw [or_digit (by omega) h0 h1 (by omega) (by omega) h9 rfl]
        by_cases hbig : c < 128
        · simp only [if_pos hbig]
          have e2 : c % 128 = c := by omega
          rw [e2]
          exact Ev.now _
        · simp only [if_neg hbig]
          have := ih (i + 1) (acc + (c % 128) * 128 ^ i) (by omega) (by omega) (fun _ => acc_next h0 h1 (by omega) (by omega))
          rw [resU_step] at this
          exact this
      have em : IntKind.u64.wrap (Int.tmod (rd l (i : Int)) 128) = rd l (i : Int) % 128 := by rw [Int.tmod_eq_emod_of_nonneg hc.1, u64_id (by omega) (by omega)]
      simp only [em, decU]
      generalize hcc : rd l (i : Int) = c at hc
      by_cases h9 : i = 9
      · simp only [if_pos (show ((i : Int) = 9) by omega)]
        by_cases hgt : c % 128 > 1
        · simp only [if_pos hgt]
          rw [if_pos (by omega)]
          refine Ev.step (fun k => rfl) ?_
          simp only [windlassref2_Uint.j1, if_true]
          exact Ev.now _
        · simp only [if_neg hgt, if_pos (show ((i : Int) > 0) by omega)]
          by_cases hz : c = 0
          · rw [if_pos (by omega)]
            have : (c == 0) = true := by simp [hz]
            simp only [this]
            refine Ev.step (fun k => rfl) ?_
            simp only [windlassref2_Uint.j1, if_true]
            exact Ev.now _
          · rw [if_neg (by omega)]
            have : (c == 0) = false := by simp [hz]
            simp only [this]
            exact main c hcc hc (fun _ => by omega)
      · simp only [if_neg (show ¬ ((i : Int) = 9) by omega)]
        by_cases hp : i = 0
        · simp only [if_neg (show ¬ ((i : Int) > 0) by omega)]
          rw [if_neg (by omega)]
          exact main c hcc hc (fun h => absurd h h9)
        · simp only [if_pos (show ((i : Int) > 0) by omega)]
          by_cases hz : c = 0
          · rw [if_pos (by omega)]
            have : (c == 0) = true := by simp [hz]
            simp only [this]
            refine Ev.step (fun k => rfl) ?_
            simp only [windlassref2_Uint.j1, if_true]
            exact Ev.now _
          · rw [if_neg (by omega)]
            have : (c == 0) = false := by simp [hz]
            simp only [this]
            exact main c hcc hc (fun h => absurd h h9)
theorem ev_ref_Uint {l : List Int} (hb : Bytes l) : Ev (fun k => windlassref2_Uint.f k l) (resU 0 0 (decU 0 l)) := ev_ref_Uint_l0 l hb 10 0 0 rfl (Nat.zero_le _) (fun _ => ⟨by decide, by decide⟩)

theorem ev_ref_Int {l : List Int} (hb : Bytes l) : Ev (fun k => windlassref2_Int.f k l) (resI (decU 0 l)) := by
  unfold windlassref2_Int.f
  refine Ev.bind (ev_ref_Uint hb) ?_
  cases h : decU 0 l with
  | none =>
    simp only [resU_none, if_neg (show ¬ ((20 : Int) = 0) by decide)]
    exact Ev.now _
  | some r =>
    obtain ⟨n, len⟩ := r
    have hbd := decU_top hb h
    simp only [resU_some, if_true, Int.tmod_eq_emod_of_nonneg hbd.1, Int.tdiv_eq_ediv_of_nonneg hbd.1]
    have e : IntKind.u64.wrap (n / 2) = n / 2 := u64_id (by omega) (by omega)
    simp only [e, w64_id (n := n / 2) (by omega) (by omega), w64_id (n := -(n / 2)) (by omega) (by omega), w64_id (n := -(n / 2) - 1) (by omega) (by omega)]
    unfold resI zag
    by_cases h2 : n % 2 = 0
    · simp only [if_neg (show ¬ (n % 2 = 1) by omega), if_pos h2]
      exact Ev.now _
    · simp only [if_pos (show n % 2 = 1 by omega), if_neg h2]
      exact Ev.now _
end Go.Proofs.Ythbnblmnamckmaa.Q
/-
  What the code's and the reference's Text compute. Conditions: the bytes are bytes, and no more than a slice may have.
-/
namespace Go.Proofs.Ythbnblmnamckmaa.Q
open Go.RowKit Go.Proofs.Ythbnblmnamckmaa.PAll Go.Proofs.YthbnblmnamckmaaW.PrintWords Go.Proofs.YthbnblmnamckmaaW.PrintLast Go.Proofs.YthbnblmnamckmaaW.PrintMore
set_option linter.unusedVariables false
set_option linter.unusedSimpArgs false

theorem ev_ref_text {l : List Int} (hb : Bytes l) (hl : l.length ≤ 140737488351232) {most : Int} (hm : most ≤ 1000) : Ev (fun k => windlassref2_text.f k l most) (resT most l (decU 0 l)) := by
  unfold windlassref2_text.f
  refine Ev.bind (ev_ref_Uint hb) ?_
  cases h : decU 0 l with
  | none =>
    simp only [resU_none, if_neg (show ¬ ((20 : Int) = 0) by decide)]
    exact Ev.now _
  | some r =>
    obtain ⟨n, len⟩ := r
    have hbd := decU_top hb h
    simp only [resU_some, if_true]
    unfold resT
    by_cases h1 : n > most
    · simp only [if_pos h1]; exact Ev.now _
    · simp only [if_neg h1, w64_id (n := n) (by omega) (by omega), w64_id (n := (l.length : Int) - (len : Int)) (by omega) (by omega), u64_id (n := (l.length : Int) - (len : Int)) (by omega) (by omega), w64_id (n := (len : Int) + n) (by omega) (by omega)]
      by_cases h2 : n > (l.length : Int) - len
      · simp only [if_pos h2]; exact Ev.now _
      · have e1 : ((len : Int) + n).toNat = len + n.toNat := by omega
        have e2 : ((len : Nat) : Int).toNat = len := by omega
        simp only [if_neg h2, if_pos (show (0 : Int) ≤ (len : Int) by omega), if_pos (show (len : Int) ≤ (len : Int) + n by omega), if_pos (show (len : Int) + n ≤ (l.length : Int) by omega), e1, e2]
        exact Ev.now _
end Go.Proofs.Ythbnblmnamckmaa.Q
/-
  What the reference's readers of values and events compute: the same as the code's. Conditions: the bytes are bytes, and no more than a slice may have.
-/
namespace Go.Proofs.Ythbnblmnamckmaa.Q
open Go.RowKit Go.Proofs.Ythbnblmnamckmaa.PAll Go.Proofs.YthbnblmnamckmaaW.PrintWords Go.Proofs.YthbnblmnamckmaaW.PrintLast Go.Proofs.YthbnblmnamckmaaW.PrintMore
set_option linter.unusedVariables false
set_option linter.unusedSimpArgs false

theorem rv_j4_ok {n : Int} (h0 : 0 ≤ n) (h1 : n ≤ 1000000000000000) (a b : Int) (c : ByteArray) (d : Int) (f : List V) : Ev (fun k => windlassref2_value.j4 k n 0 a b c d f) (a, b, c, d, f, 1 + n, 0) := by
  refine Ev.step (fun k => rfl) ?_
  simp only [windlassref2_value.j4, if_true, w64_id (n := 1 + n) (by omega) (by omega)]
  exact Ev.now _
theorem rv_j4_bad {n e : Int} (he : e ≠ 0) (a b : Int) (c : ByteArray) (d : Int) (f : List V) : Ev (fun k => windlassref2_value.j4 k n e a b c d f) (0, 0, e0, 0, [], 0, 20) := by
  refine Ev.step (fun k => rfl) ?_
  simp only [windlassref2_value.j4, if_neg he]
  exact Ev.now _
/-- The part of a record. -/
def rvR (k : Nat) (t : List Int) (rec : Bool) : Option (Int × Int × ByteArray × Int × List V × Int × Int) :=
  ((windlassref2_Uint.f k t).bind fun bt538 => (if bt538.2.2 = 0 then (if 0 ≤ (wrap64 (1 + bt538.2.1)) then (if (wrap64 (1 + bt538.2.1)) ≤ (((4 :: t : List Int).length : Nat) : Int) then ((windlassref2_Uint.f k ((4 :: t).drop ((wrap64 (1 + bt538.2.1)) : Int).toNat)).bind fun bt542 => (windlassref2_value.j1 k (4 :: t) rec bt538.2.1 bt542.2.1 bt542.2.2 bt538.1 bt542.1 4 0 (⟨#[]⟩ : ByteArray) 0)) else (none)) else (none)) else (windlassref2_value.j1 k (4 :: t) rec bt538.2.1 0 bt538.2.2 bt538.1 0 4 0 (⟨#[]⟩ : ByteArray) 0)))
theorem rv_from (rec : Bool) {b : List Int} (hb : Bytes b) (hl : b.length ≤ 140737488351232)
    (hrec : ∀ t, b = 4 :: t → Ev (fun k => rvR k t rec) (resV (if rec = true then decR t else none))) :
    Ev (fun k => windlassref2_value.f k b rec) (resV (decV rec b)) := by
  cases b with
  | nil =>
    refine Ev.step (fun k => rfl) ?_
    simp only [windlassref2_value.f, List.length_nil]
    exact Ev.now _
  | cons c t =>
    have hc := hb.head
    have hbt := hb.tail
    simp only [List.length_cons] at hl
    have e1 : wrap64 (rd (c :: t) 0) = c := w64_id (n := c) (by omega) (by omega)
    have e2 : (c :: t).drop 1 = t := rfl
    have n0 : ¬ (((c :: t).length : Int) = 0) := by simp only [List.length_cons]; omega
    have n1 : (0 : Int) < ((c :: t).length : Int) := by simp only [List.length_cons]; omega
    have n2 : (1 : Int) ≤ ((c :: t).length : Int) := by simp only [List.length_cons]; omega
    refine Ev.step (fun k => rfl) ?_
    simp only [windlassref2_value.f, if_neg n0, if_pos n1, e1, if_pos n2, e2]
    simp only [decV]
    by_cases k4 : c = 4
    · subst k4
      simp only [if_neg (show ¬ ((4 : Int) = 1) by decide), if_neg (show ¬ ((4 : Int) = 2) by decide), if_neg (show ¬ ((4 : Int) = 3) by decide), if_true]
      exact hrec t rfl
    · rw [if_neg k4]
      simp only [decL]
      by_cases k1 : c = 1
      · simp only [if_pos k1]
        refine Ev.bind (ev_ref_Int hbt) ?_
        cases hd : decU 0 t with
        | none =>
          simp only [resI, Option.map_none, resV]
          exact rv_j4_bad (by decide) _ _ _ _ _
        | some r =>
          obtain ⟨n, len⟩ := r
          have hbd := decU_top hbt hd
          simp only [resI, Option.map_some, resV]
          refine ev_val (rv_j4_ok (by omega) (by omega) _ _ _ _ _) ?_
          simp only [k1, Prod.mk.injEq, and_true, true_and]
          omega
      · simp only [if_neg k1]
        by_cases k2 : c = 2
        · simp only [if_pos k2]
          refine Ev.bind (ev_ref_text hbt (by omega) (by decide)) ?_
          cases hd : decT 64 t with
          | none =>
            obtain ⟨e, he, hr⟩ := resT_none t hd
            rw [hr]
            simp only [Option.map_none, resV]
            exact rv_j4_bad he _ _ _ _ _
          | some r =>
            obtain ⟨s, m⟩ := r
            have hm := decT_len hbt hd
            rw [resT_some t hbt hd]
            simp only [Option.map_some, resV]
            refine ev_val (rv_j4_ok (by omega) (by omega) _ _ _ _ _) ?_
            simp only [k2, Prod.mk.injEq, and_true, true_and]
            omega
        · simp only [if_neg k2]
          by_cases k3 : c = 3
          · simp only [if_pos k3]
            cases t with
            | nil =>
              simp only [List.length_cons, List.length_nil]
              refine Ev.step (fun k => rfl) ?_
              simp only [windlassref2_value.j0, if_true, resV]
              exact Ev.now _
            | cons d t =>
              have hd := hbt.head
              simp only [List.length_cons] at hl
              have m1 : ¬ (((c :: d :: t).length : Int) < 2) := by simp only [List.length_cons]; omega
              have m2 : (1 : Int) < ((c :: d :: t).length : Int) := by simp only [List.length_cons]; omega
              have e3 : rd (c :: d :: t) 1 = d := rfl
              have e4 : wrap64 d = d := w64_id (by omega) (by omega)
              simp only [if_neg m1, if_pos m2, e3]
              refine Ev.step (fun k => rfl) ?_
              simp only [windlassref2_value.j0]
              by_cases h1 : d > 1
              · simp only [if_pos h1, decide_eq_true h1, if_true, resV]
                exact Ev.now _
              · simp only [if_neg h1, decide_eq_false h1, if_neg (show ¬ (false = true) by decide), if_pos m2, e3, e4, resV]
                refine ev_val (rv_j4_ok (by decide) (by decide) _ _ _ _ _) ?_
                simp only [k3]
                rfl
          · simp only [if_neg k3, if_neg k4, resV]
            exact Ev.now _
theorem rv_fail {k0 : List Int} {rec : Bool} {x8 x9 x10 x11 x12 a b : Int} {c : ByteArray} {d : Int} (h : x10 ≠ 0 ∨ rec = false ∨ x11 > 15 ∨ x12 > 12) : Ev (fun k => windlassref2_value.j1 k k0 rec x8 x9 x10 x11 x12 a b c d) (0, 0, e0, 0, [], 0, 20) := by
  have h2 : Ev (fun k => windlassref2_value.j2 k k0 x8 x9 x10 x11 x12 true a b c d) (0, 0, e0, 0, [], 0, 20) := by
    refine Ev.step (fun k => rfl) ?_
    simp only [windlassref2_value.j2, if_true]
    exact Ev.now _
  refine Ev.step (fun k => rfl) ?_
  simp only [windlassref2_value.j1]
  by_cases h10 : x10 = 0
  · simp only [if_pos h10]
    cases rec with
    | false => simp only [if_neg (show ¬ (false = true) by decide)]; exact h2
    | true =>
      simp only [if_true]
      by_cases h11 : x11 > 15
      · simp only [if_pos h11]; exact h2
      · simp only [if_neg h11]
        have h12 : x12 > 12 := by
          rcases h with h | h | h | h
          · exact absurd h10 h
          · simp at h
          · exact absurd h h11
          · exact h
        simp only [decide_eq_true h12]
        exact h2
  · simp only [if_neg h10]; exact h2
/-- Where no record may stand. -/
theorem ev_rv_leaf {b : List Int} (hb : Bytes b) (hl : b.length ≤ 140737488351232) : Ev (fun k => windlassref2_value.f k b false) (resV (decL b)) := by
  rw [← decV_false]
  refine rv_from false hb hl (fun t ht => ?_)
  subst ht
  have hbt := hb.tail
  simp only [List.length_cons] at hl
  unfold rvR
  simp only [if_neg (show ¬ (false = true) by decide), resV]
  refine Ev.bind (ev_ref_Uint hbt) ?_
  cases hd : decU 0 t with
  | none =>
    rw [resU_none]
    simp only [if_neg (show ¬ ((20 : Int) = 0) by decide)]
    exact rv_fail (.inr (.inl rfl))
  | some r =>
    obtain ⟨n, len⟩ := r
    have hbd := decU_top hbt hd
    have e1 : wrap64 (1 + (len : Int)) = ((len + 1 : Nat) : Int) := by rw [w64_id (by omega) (by omega)]; omega
    rw [resU_some]
    simp only [if_true, e1, if_pos (show (0 : Int) ≤ ((len + 1 : Nat) : Int) by omega), if_pos (show ((len + 1 : Nat) : Int) ≤ (((4 :: t : List Int).length : Nat) : Int) by simp only [List.length_cons]; omega), Int.toNat_natCast, List.drop_succ_cons]
    refine Ev.bind (ev_ref_Uint (hbt.drop len)) ?_
    exact rv_fail (.inr (.inl rfl))
theorem ev_rv_l0 (t : List Int) (hb : Bytes t) (hl : t.length + 1 ≤ 140737488351232) (a b : Int) (c : ByteArray) (e : Int) : ∀ (d i n : Nat) (x8 : Nat) (acc : List V), i + d = n → n ≤ 1000 → acc.length ≤ i → x8 ≤ t.length →
    Ev (fun k => windlassref2_value.l0 k (4 :: t) (x8 : Int) 0 (n : Int) (i : Int) a b c e acc) (match decFs d (t.drop x8) with | some q => (a, b, c, e, acc ++ q.1, ((1 + x8 + q.2 : Nat) : Int), 0) | none => (0, 0, e0, 0, [], 0, 20)) := by
  intro d
  induction d with
  | zero =>
    intro i n x8 acc hi hn ha hx
    refine Ev.step (fun k => rfl) ?_
    simp only [windlassref2_value.l0]
    simp only [if_neg (show ¬ ((i : Int) < (n : Int)) by omega), decFs]
    refine ev_val (rv_j4_ok (by omega) (by omega) _ _ _ _ _) ?_
    simp only [List.append_nil, Prod.mk.injEq, and_true, true_and]
    omega
  | succ d ih =>
    intro i n x8 acc hi hn ha hx
    have e1 : wrap64 (1 + (x8 : Int)) = ((x8 + 1 : Nat) : Int) := by rw [w64_id (by omega) (by omega)]; omega
    have e2 : IntKind.u64.wrap ((i : Int) + 1) = ((i + 1 : Nat) : Int) := by rw [u64_id (by omega) (by omega)]; omega
    refine Ev.step (fun k => rfl) ?_
    simp only [windlassref2_value.l0]
    simp only [if_pos (show ((i : Int) < (n : Int)) by omega), e1, e2, if_pos (show (0 : Int) ≤ ((x8 + 1 : Nat) : Int) by omega), if_pos (show ((x8 + 1 : Nat) : Int) ≤ (((4 :: t : List Int).length : Nat) : Int) by simp only [List.length_cons]; omega), Int.toNat_natCast, List.drop_succ_cons]
    refine Ev.bind (ev_rv_leaf (hb.drop x8) (by simp only [List.length_drop]; omega)) ?_
    simp only [decFs]
    cases hd : decL (t.drop x8) with
    | none =>
      simp only [resV, if_neg (show ¬ ((20 : Int) = 0) by decide)]
      exact Ev.now _
    | some r =>
      obtain ⟨⟨p0, p1, p2, p3, p4⟩, m⟩ := r
      have hm := decL_len (hb.drop x8) hd
      simp only [List.length_drop] at hm
      have e3 : wrap64 ((x8 : Int) + (m : Int)) = ((x8 + m : Nat) : Int) := by rw [w64_id (by omega) (by omega)]; omega
      simp only [resV, if_true, if_pos (show acc.length < 2199023255552 by omega), e3]
      have h21 : (i + 1) + d = n := by clear hl e1 e2 e3; omega
      have h22 : (acc ++ [(⟨p0, p1, p2, p3, p4⟩ : V)]).length ≤ i + 1 := by rw [List.length_append, List.length_singleton]; clear hl e1 e2 e3; omega
      have h23 : x8 + m ≤ t.length := by clear hl e1 e2 e3; omega
      have h2 := ih (i + 1) n (x8 + m) (acc ++ [(⟨p0, p1, p2, p3, p4⟩ : V)]) h21 hn h22 h23
      refine ev_val h2 ?_
      rw [List.drop_drop]
      cases hq : decFs d (t.drop (x8 + m)) with
      | none => rfl
      | some q =>
        simp only [Option.map_some, List.append_assoc, List.cons_append, List.nil_append, Prod.mk.injEq, and_true, true_and]
        omega
theorem ev_rv {b : List Int} (hb : Bytes b) (hl : b.length ≤ 140737488351232) : Ev (fun k => windlassref2_value.f k b true) (resV (decV true b)) := by
  refine rv_from true hb hl (fun t ht => ?_)
  subst ht
  have hbt := hb.tail
  simp only [List.length_cons] at hl
  unfold rvR decR
  simp only [if_true]
  refine Ev.bind (ev_ref_Uint hbt) ?_
  cases hd : decU 0 t with
  | none =>
    rw [resU_none]
    simp only [if_neg (show ¬ ((20 : Int) = 0) by decide), resV]
    exact rv_fail (.inl (by decide))
  | some r =>
    obtain ⟨n, len⟩ := r
    have hbd := decU_top hbt hd
    have e1 : wrap64 (1 + (len : Int)) = ((len + 1 : Nat) : Int) := by rw [w64_id (by omega) (by omega)]; omega
    rw [resU_some]
    simp only [if_true, e1, if_pos (show (0 : Int) ≤ ((len + 1 : Nat) : Int) by omega), if_pos (show ((len + 1 : Nat) : Int) ≤ (((4 :: t : List Int).length : Nat) : Int) by simp only [List.length_cons]; omega), Int.toNat_natCast, List.drop_succ_cons]
    refine Ev.bind (ev_ref_Uint (hbt.drop len)) ?_
    cases hc : decU 0 (t.drop len) with
    | none =>
      rw [resU_none]
      simp only
      have : resV (if n > 15 then none else none) = (0, 0, e0, 0, [], 0, 20) := by split <;> rfl
      rw [this]
      exact rv_fail (.inl (by decide))
    | some r =>
      obtain ⟨m, len2⟩ := r
      have hbd2 := decU_top (hbt.drop len) hc
      have hlen2 := hbd2.2.2.2.2
      simp only [List.length_drop] at hlen2
      rw [resU_some]
      simp only
      by_cases h1 : n > 15
      · rw [if_pos h1]
        exact rv_fail (.inr (.inr (.inl h1)))
      · rw [if_neg h1]
        by_cases h2 : m > 12
        · rw [if_pos h2]
          exact rv_fail (.inr (.inr (.inr h2)))
        · rw [if_neg h2]
          refine Ev.step (fun k => rfl) ?_
          simp only [windlassref2_value.j1, if_true, if_neg h1, decide_eq_false h2]
          refine Ev.step (fun k => rfl) ?_
          have e3 : wrap64 ((len : Int) + (len2 : Int)) = ((len + len2 : Nat) : Int) := by rw [w64_id (by omega) (by omega)]; omega
          have e4 : wrap64 n = n := w64_id (by omega) (by omega)
          have e5 : ((m.toNat : Nat) : Int) = m := Int.toNat_of_nonneg hbd2.1
          simp only [windlassref2_value.j2, if_neg (show ¬ (false = true) by decide), e3, e4]
          have h3 := ev_rv_l0 t hbt hl 4 0 e0 n m.toNat 0 m.toNat (len + len2) [] (by omega) (by omega) (by simp) (by omega)
          rw [e5] at h3
          refine ev_val h3 ?_
          cases decFs m.toNat (t.drop (len + len2)) with
          | none => rfl
          | some q =>
            simp only [Option.map_some, List.nil_append, resV, Prod.mk.injEq, and_true, true_and]
            omega
theorem ev_ref_Value {b : List Int} (hb : Bytes b) (hl : b.length ≤ 140737488351232) : Ev (fun k => windlassref2_Value.f k b) (resV (decV true b)) := by
  unfold windlassref2_Value.f
  refine Ev.bind (ev_rv hb hl) ?_
  exact ev_eq rfl

/-! ### an event -/
theorem resT_20 (l : List Int) (hb : Bytes l) : (∃ s m, decT 64 l = some (s, m) ∧ s.size ≤ 20 ∧ resT 20 l (decU 0 l) = (s, (m : Int), 0)) ∨ ((decT 64 l = none ∨ ∃ s m, decT 64 l = some (s, m) ∧ s.size > 20) ∧ ∃ e : Int, e ≠ 0 ∧ resT 20 l (decU 0 l) = (e0, 0, e)) := by
  unfold decT
  cases hd : decU 0 l with
  | none => exact .inr ⟨.inl rfl, 20, by decide, rfl⟩
  | some r =>
    obtain ⟨n, len⟩ := r
    have hbd := decU_top hb hd
    unfold resT
    simp only
    by_cases h1 : n > 64
    · rw [if_pos h1, if_pos (show n > 20 by omega)]
      exact .inr ⟨.inl rfl, 21, by decide, rfl⟩
    · rw [if_neg h1]
      by_cases h2 : n > (l.length : Int) - len
      · rw [if_pos h2]
        refine .inr ⟨.inl rfl, ?_⟩
        split
        · exact ⟨21, by decide, rfl⟩
        · exact ⟨20, by decide, rfl⟩
      · rw [if_neg h2]
        have hs : (strOfNums ((l.take (len + n.toNat)).drop len)).size = n.toNat := by
          rw [strOf_size, List.length_drop, List.length_take]
          omega
        by_cases h3 : n > 20
        · rw [if_pos h3]
          exact .inr ⟨.inr ⟨_, _, rfl, by rw [hs]; omega⟩, 21, by decide, rfl⟩
        · rw [if_neg h3, if_neg h2]
          refine .inl ⟨_, _, rfl, by rw [hs]; omega, ?_⟩
          simp only [Prod.mk.injEq, and_true, true_and]
          omega
theorem ev_rE_l0 (b : List Int) (hb : Bytes b) (hl : b.length ≤ 140737488351232) (s : ByteArray) : ∀ (d i n : Nat) (x6 : Nat) (acc : List V), i + d = n → n ≤ 1000 → acc.length ≤ i → x6 ≤ b.length →
    Ev (fun k => windlassref2_Event.l0 k b (x6 : Int) (n : Int) (i : Int) s acc) (match decVs d (b.drop x6) with | some q => (s, acc ++ q.1, ((x6 + q.2 : Nat) : Int), 0) | none => (e0, [], 0, 20)) := by
  intro d
  induction d with
  | zero =>
    intro i n x6 acc hi hn ha hx
    refine Ev.step (fun k => rfl) ?_
    simp only [windlassref2_Event.l0]
    simp only [if_neg (show ¬ ((i : Int) < (n : Int)) by omega), decVs]
    exact ev_eq (by simp)
  | succ d ih =>
    intro i n x6 acc hi hn ha hx
    have e2 : IntKind.u64.wrap ((i : Int) + 1) = ((i + 1 : Nat) : Int) := by rw [u64_id (by omega) (by omega)]; omega
    refine Ev.step (fun k => rfl) ?_
    simp only [windlassref2_Event.l0]
    simp only [if_pos (show ((i : Int) < (n : Int)) by omega), e2, if_pos (show (0 : Int) ≤ (x6 : Int) by omega), if_pos (show (x6 : Int) ≤ (b.length : Int) by omega), Int.toNat_natCast]
    refine Ev.bind (ev_ref_Value (hb.drop x6) (by simp only [List.length_drop]; omega)) ?_
    simp only [decVs]
    cases hd : decV true (b.drop x6) with
    | none =>
      simp only [resV, if_neg (show ¬ ((20 : Int) = 0) by decide)]
      exact Ev.now _
    | some r =>
      obtain ⟨⟨p0, p1, p2, p3, p4⟩, m⟩ := r
      have hm := decV_len (hb.drop x6) hd
      simp only [List.length_drop] at hm
      have e3 : wrap64 ((x6 : Int) + (m : Int)) = ((x6 + m : Nat) : Int) := by rw [w64_id (by omega) (by omega)]; omega
      simp only [resV, if_true, if_pos (show acc.length < 2199023255552 by omega), e3]
      have h2 := ih (i + 1) n (x6 + m) (acc ++ [(⟨p0, p1, p2, p3, p4⟩ : V)]) (by omega) hn (by simp; omega) (by omega)
      refine ev_val h2 ?_
      rw [List.drop_drop]
      cases hq : decVs d (b.drop (x6 + m)) with
      | none => rfl
      | some q =>
        simp only [Option.map_some, List.append_assoc, List.cons_append, List.nil_append, Prod.mk.injEq, and_true, true_and]
        omega
theorem rE_bad (b : List Int) (s : ByteArray) (n : Int) : Ev (fun k => windlassref2_Event.j0 k b s n true) (e0, [], 0, 20) := by
  refine Ev.step (fun k => rfl) ?_
  simp only [windlassref2_Event.j0, if_true]
  exact Ev.now _
theorem rE_bad1 (b : List Int) (s : ByteArray) (x6 x8 x9 : Int) : Ev (fun k => windlassref2_Event.j1 k b s x6 x8 x9 true) (e0, [], 0, 20) := by
  refine Ev.step (fun k => rfl) ?_
  simp only [windlassref2_Event.j1, if_true]
  exact Ev.now _
theorem ev_ref_Event {b : List Int} (hb : Bytes b) (hl : b.length ≤ 140737488351232) : Ev (fun k => windlassref2_Event.f k b) (resE (decE b)) := by
  unfold windlassref2_Event.f
  have ht := ev_ref_text hb hl (show (20 : Int) ≤ 1000 by decide)
  rcases resT_20 b hb with ⟨s, m, hd, hs, hr⟩ | ⟨hd, e, he, hr⟩
  · rw [hr] at ht
    unfold decE
    rw [hd]
    refine Ev.bind ht ?_
    have hm := decT_len hb hd
    simp only [if_true]
    by_cases h1 : s.size < 1
    · have hz : s.toList = [] := by
        rw [Lib.toList_data]
        have : s.data.size = 0 := by have h5 : s.data.size < 1 := h1; omega
        exact Array.toList_eq_nil_iff.2 (Array.size_eq_zero_iff.1 this)
      rw [if_pos (.inl h1), hz, beq_self_eq_true]
      exact rE_bad _ _ _
    · have hz : (s.toList == []) = false := text_no (fun h => h1 (by rw [ext_empty h]; decide))
      rw [if_neg (by omega), hz]
      refine Ev.step (fun k => rfl) ?_
      simp only [windlassref2_Event.j0, if_neg (show ¬ (false = true) by decide), if_pos (show (0 : Int) ≤ (m : Int) by omega), if_pos (show (m : Int) ≤ (b.length : Int) by omega), Int.toNat_natCast]
      refine Ev.bind (ev_ref_Uint (hb.drop m)) ?_
      cases hc : decU 0 (b.drop m) with
      | none =>
        rw [resU_none]
        simp only [if_neg (show ¬ ((20 : Int) = 0) by decide), resE]
        exact rE_bad1 _ _ _ _ _
      | some r =>
        obtain ⟨n, len⟩ := r
        have hbd := decU_top (hb.drop m) hc
        have hlen := hbd.2.2.2.2
        simp only [List.length_drop] at hlen
        rw [resU_some]
        simp only [if_true]
        by_cases h2 : n > 12
        · rw [if_pos h2, decide_eq_true h2]
          exact rE_bad1 _ _ _ _ _
        · rw [if_neg h2, decide_eq_false h2]
          refine Ev.step (fun k => rfl) ?_
          have e3 : wrap64 ((m : Int) + (len : Int)) = ((m + len : Nat) : Int) := by rw [w64_id (by omega) (by omega)]; omega
          have e5 : ((n.toNat : Nat) : Int) = n := Int.toNat_of_nonneg hbd.1
          simp only [windlassref2_Event.j1, if_neg (show ¬ (false = true) by decide), e3]
          have h3 := ev_rE_l0 b hb hl s n.toNat 0 n.toNat (m + len) [] (by omega) (by omega) (by simp) (by omega)
          rw [e5] at h3
          refine ev_val h3 ?_
          cases decVs n.toNat (b.drop (m + len)) with
          | none => rfl
          | some q => rfl
  · rw [hr] at ht
    refine Ev.bind ht ?_
    simp only [if_neg he]
    have hde : decE b = none := by
      unfold decE
      rcases hd with hd | ⟨s, m, hd, hs⟩
      · rw [hd]
      · rw [hd]
        simp only
        rw [if_pos (.inr hs)]
    rw [hde]
    exact rE_bad _ _ _
end Go.Proofs.Ythbnblmnamckmaa.Q
/-
  CodecReads, without Go and memory: every bytes are read as a number, a text, a value, an event, or refused, as the reference does it. Conditions: the bytes are bytes.
-/
namespace Go.Proofs.Ythbnblmnamckmaa.Pure
open Go.RowKit Go.Proofs.Ythbnblmnamckmaa.PAll Go.Proofs.YthbnblmnamckmaaW.PrintWords Go.Proofs.YthbnblmnamckmaaW.PrintLast Go.Proofs.YthbnblmnamckmaaW.PrintMore Go.Proofs.Ythbnblmnamckmaa.Q
set_option linter.unusedVariables false
set_option linter.unusedSimpArgs false
theorem plain_len' {v : V} (h : plainB v = true) : v.f4.length ≤ 12 := by
  by_cases h4 : v.f0 = 4
  · exact (plain_rec h h4).2.2.1
  · unfold plainB at h
    rw [if_neg h4] at h
    rw [(leaf_is h).2.1]
    simp
theorem reads_same {l : List Int} (hb : Bytes l) : Ev (fun k => windlassref3_Same.f k (resV (decV true l)).1 (resV (decV true l)).2.1 (resV (decV true l)).2.2.1 (resV (decV true l)).2.2.2.1 (resV (decV true l)).2.2.2.2.1 (resV (decV true l)).1 (resV (decV true l)).2.1 (resV (decV true l)).2.2.1 (resV (decV true l)).2.2.2.1 (resV (decV true l)).2.2.2.2.1) true := by
  cases h : decV true l with
  | none =>
    have := ev_same (v := (⟨0, 0, e0, 0, []⟩ : V)) (fun x hx => by simp at hx) (by simp)
    exact this
  | some r =>
    obtain ⟨v, m⟩ := r
    have h1 := decV_back hb h
    have h2 := plain_len' h1.1
    exact ev_same (v := v) h1.2.2.2 (by omega)
theorem reads_all {l : List Int} (hb : Bytes l) : Ev (fun k => windlassref3_All.f k (resE (decE l)).2.1 (resE (decE l)).2.1) true := by
  cases h : decE l with
  | none => exact ev_all (by simp [resE]) (by simp [resE])
  | some r =>
    obtain ⟨⟨s, vs⟩, m⟩ := r
    obtain ⟨h1, h2, h3, h4, h5, h6, h7⟩ := decE_back hb h
    have h8 : (pe s vs).2 = 0 := by rw [h7]
    have h9 := (pe_ok h8).2.2.2.1
    exact ev_all (l := vs) (by omega) (fun v hv => ⟨h5 v hv, by have := plain_len' (List.all_eq_true.1 h9 v hv); omega⟩)
theorem CodecReads : windlasslaw2_CodecReads.Pure := by
  intro l hl
  have hb : Bytes l := fun x hx => bounds_u8 (hl.2.2 x hx)
  have j3 : l.length ≤ 1500 → Ev (fun k => windlasslaw2_CodecReads.j3 k l false) true := by
    intro hn
    refine Ev.step (fun k => rfl) ?_
    simp only [windlasslaw2_CodecReads.j3, if_neg (show ¬ (false = true) by decide)]
    refine Ev.bind (ev_codec_Event hb (by omega)) ?_
    refine Ev.bind (ev_ref_Event hb (by omega)) ?_
    simp only [if_true]
    refine Ev.bind (reads_all hb) ?_
    simp only [if_true]
    exact ev_eq (beq_self_eq_true _)
  have j2 : l.length ≤ 1500 → Ev (fun k => windlasslaw2_CodecReads.j2 k l false) true := by
    intro hn
    refine Ev.step (fun k => rfl) ?_
    simp only [windlasslaw2_CodecReads.j2, if_neg (show ¬ (false = true) by decide)]
    refine Ev.bind (ev_codec_Value hb (by omega)) ?_
    refine Ev.bind (ev_ref_Value hb (by omega)) ?_
    refine Ev.bind (reads_same hb) ?_
    simp only [if_true, bne_self_eq_false]
    exact j3 hn
  have j1 : l.length ≤ 1500 → Ev (fun k => windlasslaw2_CodecReads.j1 k l false) true := by
    intro hn
    refine Ev.step (fun k => rfl) ?_
    simp only [windlasslaw2_CodecReads.j1, if_neg (show ¬ (false = true) by decide)]
    refine Ev.bind (ev_codec_Text hb (by omega)) ?_
    have ht : Ev (fun k => windlassref2_Text.f k l) (resT 64 l (decU 0 l)) := by
      unfold windlassref2_Text.f
      refine Ev.bind (ev_ref_text hb (by omega) (by decide)) ?_
      exact ev_eq rfl
    refine Ev.bind ht ?_
    simp only [if_true, bne_self_eq_false]
    exact j2 hn
  have j0 : l.length ≤ 1500 → Ev (fun k => windlasslaw2_CodecReads.j0 k l false) true := by
    intro hn
    refine Ev.step (fun k => rfl) ?_
    simp only [windlasslaw2_CodecReads.j0, if_neg (show ¬ (false = true) by decide)]
    refine Ev.bind (ev_codec_Int hb) ?_
    refine Ev.bind (ev_ref_Int hb) ?_
    simp only [if_true, bne_self_eq_false]
    exact j1 hn
  refine Ev.rounds ?_
  unfold windlasslaw2_CodecReads.f
  refine Ev.bind ev_known ?_
  simp only [if_true]
  by_cases c : (l.length : Int) > 1500
  · simp only [if_pos c]
    exact Ev.now _
  · simp only [if_neg c]
    refine Ev.bind (ev_codec_Uint hb) ?_
    refine Ev.bind (ev_ref_Uint hb) ?_
    simp only [if_true, bne_self_eq_false]
    exact j0 (by omega)
end Go.Proofs.Ythbnblmnamckmaa.Pure
