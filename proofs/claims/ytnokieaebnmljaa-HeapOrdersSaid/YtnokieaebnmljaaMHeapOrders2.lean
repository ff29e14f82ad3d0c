-- Laid by a program of this seat (wip/merge.py): HGet, HSt, HInv, HO2.
import Derived.Test.YtnokieaebnmljaaMHeapOrders1
-- Laid by a program of this seat (wip/xprint.py over the kit's print).
namespace Go.Proofs.Ytnokieaebnmljaa.PAll
open Go.RowKit Go.Proofs.YtnokieaebnmljaaW.PrintWords Go.Proofs.YtnokieaebnmljaaW.PrintLast Go.Proofs.YtnokieaebnmljaaW.PrintMore
attribute [local go_sem] max2_int min2_int max_two min_two max_three min_three max_four min_four   -- for this text's walks alone
set_option linter.unusedVariables false
set_option linter.unusedSimpArgs false

/-! ### heap_Del: function 12: its contract lies in a text of its own -/

/-! ### heap_Get: function 14 -/
noncomputable def heap_Get.f (k : Nat) (l0_0 : List (List (S82))) (a1 : Int) (a2_0 : Int) (a2_1 : Int) (a2_2 : ByteArray) (a2_3 : Int) (l2_4 : List (S35)) : Option (Int × Int × ByteArray × Int × (List (S35)) × Bool) := (heap_place.f k l0_0 a1 a2_0 a2_1 a2_2 a2_3 l2_4).bind fun bt186 => (if bt186.2 = true then (if 0 ≤ a1 then (if a1 < (l0_0.length : Int) then (if 0 ≤ bt186.1 then (if bt186.1 < ((rd_L5 l0_0 a1).length : Int) then (some ((rd_T82 (rd_L5 l0_0 a1) bt186.1).f1.f0, (rd_T82 (rd_L5 l0_0 a1) bt186.1).f1.f1, (rd_T82 (rd_L5 l0_0 a1) bt186.1).f1.f2, (rd_T82 (rd_L5 l0_0 a1) bt186.1).f1.f3, (rd_T82 (rd_L5 l0_0 a1) bt186.1).f1.f4, true)) else (none)) else (none)) else (none)) else (none)) else (some (0, 0, (⟨#[]⟩ : ByteArray), 0, ([] : List (S35)), false)))
theorem heap_Get.mono : ∀ a0 a1 a2 a3 a4 a5 a6 k, LeO (heap_Get.f k a0 a1 a2 a3 a4 a5 a6) (heap_Get.f (k + 1) a0 a1 a2 a3 a4 a5 a6) := by
  intro a0 a1 a2 a3 a4 a5 a6 k
  unfold heap_Get.f
  repeat' first
      | (with_reducible exact heap_place.mono _ _ _ _ _ _ _ _)
      | (with_reducible exact LeO.refl _)
      | (with_reducible exact LeO.none _)
      | (with_reducible refine LeO.ite ?_ ?_)
      | (with_reducible refine LeO.bind ?_ (fun _ => ?_))
      | exact heap_place.mono _ _ _ _ _ _ _ _
      | exact LeO.none _
      | refine LeO.ite ?_ ?_
      | refine LeO.bind ?_ (fun _ => ?_)
set_option maxHeartbeats 8000000 in
set_option maxRecDepth 100000 in
theorem heap_Get.calls (k : Nat) (P0_0_ : Nat → Prop) (A0_0 : Option Addr) (c0_0 : Nat) (l0_0 : List (List (S82))) (a1 : Int) (a2_0 : Int) (a2_1 : Int) (a2_2 : ByteArray) (a2_3 : Int) (A2_4 : Option Addr) (c2_4 : Nat) (l2_4 : List (S35)) (r1 : Int) (r2 : Int) (r3 : ByteArray) (r4 : Int) (r5 : List (S35)) (r6 : Bool) (w : World) (hs0_0 : Kd.V (Kd.slice 82 k82) 41 w w.heap.size (fun k_ => P0_0_ k_) (.slice A0_0 l0_0.length c0_0) l0_0) (hr2_4 : Kd.C k35 w A2_4 l2_4.length l2_4) (hc2_4 : l2_4.length ≤ c2_4) (h : heap_Get.f k l0_0 a1 a2_0 a2_1 a2_2 a2_3 l2_4 = some (r1, r2, r3, r4, r5, r6)) :
    Calls Try.prog 14 #[.agg #[.slice A0_0 l0_0.length c0_0], .int .i64 a1, .agg #[.int .i64 a2_0, .int .i64 a2_1, .string a2_2, .int .i64 a2_3, .slice A2_4 l2_4.length c2_4]] w fun e w' => ∃ v4_ : Value, e = .returned (.tuple #[.agg #[.int .i64 r1, .int .i64 r2, .string r3, .int .i64 r4, v4_], .bool r6]) ∧ Kd.V k35 35 w' w.heap.size (fun k_ => (P0_0_ k_ ∨ w.heap.size ≤ k_)) v4_ r5 ∧ Below w.heap.size w w' := by
  have hu27 := Try.underlying27
  have hu35 := Try.underlying35
  have HO0_0 := Aside0.mk (show Kd.V (Kd.slice 82 k82) 41 w w.heap.size (fun k_ => (P0_0_ k_ ∨ w.heap.size ≤ k_)) (.slice A0_0 l0_0.length c0_0) l0_0 from Kd.V_mono hs0_0 (fun k_ hk => .inl hk))
  have HR2_4 := Aside0.mk hr2_4
  have HC2_4 := Aside0.mk hc2_4
  clear hr2_4 hc2_4
  have HB := Aside0.mk (Below.refl w.heap.size w)
  have H : ((heap_place.f k l0_0 a1 a2_0 a2_1 a2_2 a2_3 l2_4).bind fun bt186 => (if bt186.2 = true then (if 0 ≤ a1 then (if a1 < (l0_0.length : Int) then (if 0 ≤ bt186.1 then (if bt186.1 < ((rd_L5 l0_0 a1).length : Int) then (some ((rd_T82 (rd_L5 l0_0 a1) bt186.1).f1.f0, (rd_T82 (rd_L5 l0_0 a1) bt186.1).f1.f1, (rd_T82 (rd_L5 l0_0 a1) bt186.1).f1.f2, (rd_T82 (rd_L5 l0_0 a1) bt186.1).f1.f3, (rd_T82 (rd_L5 l0_0 a1) bt186.1).f1.f4, true)) else (none)) else (none)) else (none)) else (none)) else (some (0, 0, (⟨#[]⟩ : ByteArray), 0, ([] : List (S35)), false)))) = some (r1, r2, r3, r4, r5, r6) := h
  clear h
  replace H := Option.bind_eq_some_iff.mp H
  obtain ⟨⟨t186, t187⟩, A40, H⟩ := H
  replace H : (if t187 = true then (if 0 ≤ a1 then (if a1 < (l0_0.length : Int) then (if 0 ≤ t186 then (if t186 < ((rd_L5 l0_0 a1).length : Int) then (some ((rd_T82 (rd_L5 l0_0 a1) t186).f1.f0, (rd_T82 (rd_L5 l0_0 a1) t186).f1.f1, (rd_T82 (rd_L5 l0_0 a1) t186).f1.f2, (rd_T82 (rd_L5 l0_0 a1) t186).f1.f3, (rd_T82 (rd_L5 l0_0 a1) t186).f1.f4, true)) else (none)) else (none)) else (none)) else (none)) else (some (0, 0, (⟨#[]⟩ : ByteArray), 0, ([] : List (S35)), false))) = some (r1, r2, r3, r4, r5, r6) := H
  have A4 := Aside0.mk A40
  clear A40
  by_cases c5 : t187 = true
  · subst c5
    have H1 : (if 0 ≤ a1 then (if a1 < (l0_0.length : Int) then (if 0 ≤ t186 then (if t186 < ((rd_L5 l0_0 a1).length : Int) then (some ((rd_T82 (rd_L5 l0_0 a1) t186).f1.f0, (rd_T82 (rd_L5 l0_0 a1) t186).f1.f1, (rd_T82 (rd_L5 l0_0 a1) t186).f1.f2, (rd_T82 (rd_L5 l0_0 a1) t186).f1.f3, (rd_T82 (rd_L5 l0_0 a1) t186).f1.f4, true)) else (none)) else (none)) else (none)) else (none)) = some (r1, r2, r3, r4, r5, r6) := by rw [if_pos rfl] at H; exact H
    clear H
    have H := H1
    clear H1
    by_cases c6 : 0 ≤ a1
    · rw [if_pos c6] at H
      have c6b0 : decide (0 ≤ a1) = true := decide_eq_true c6
      clear c6
      by_cases c7 : a1 < (l0_0.length : Int)
      · rw [if_pos c7] at H
        have c7b0 : decide (a1 < (l0_0.length : Int)) = true := decide_eq_true c7
        clear c7
        by_cases c8 : 0 ≤ t186
        · rw [if_pos c8] at H
          have c8b0 : decide (0 ≤ t186) = true := decide_eq_true c8
          clear c8
          by_cases c9 : t186 < ((rd_L5 l0_0 a1).length : Int)
          · rw [if_pos c9] at H
            have c9b0 : decide (t186 < ((rd_L5 l0_0 a1).length : Int)) = true := decide_eq_true c9
            clear c9
            simp only [Option.some.injEq, Prod.mk.injEq] at H
            obtain ⟨rfl, rfl, rfl, rfl, rfl, rfl⟩ := H
            go_enter Try.func14, Try.ntmps14
            go_wp2_with (first | ((with_reducible refine gate_dst (N := 3) rfl ?_); refine box_event ?hg (N := 3) ?hd (cs := #[.slice A0_0 l0_0.length c0_0]) (t := 27) ?hr ?_; (case hd => rfl); (case hg => rfl); (case hr => first | (go_simp; done) | (go_simp; rfl)); intro gb183 hg w10 hbox hb; have n0_ := Aside0.mk (Kd.V_below (Kd.V_elderB (by (with_reducible repeat (first | apply Kd.V_alloc | apply Kd.V_drewN | apply Kd.V_drew)); exact HO0_0.out) gb183 (Nat.le_of_eq hg.symm)) hb); have n1_ := Aside0.mk (below_step (by repeat (first | (with_reducible first | exact HB.out | apply below_alloc | apply pw_below_drewN | apply below_drew1) | exact HB.out)) hb); have n2_ := Aside0.mk (hbox); have n3_ := Aside0.mk ((by rw [hg]; exact (below_size (by repeat (first | (with_reducible first | exact HB.out | apply below_alloc | apply pw_below_drewN | apply below_drew1) | exact HB.out))) : w.heap.size ≤ gb183)); have n4_ := Aside0.mk ((by rw [hg]; exact (below_size (by repeat (first | (with_reducible first | exact HB.out | apply below_alloc | apply pw_below_drewN | apply below_drew1) | exact HB.out))) : w.heap.size ≤ gb183)); clear HO0_0; clear HB; have HO0_0 := n0_; have HB := n1_; have BK183 := n2_; have GW183 := n3_; have GE183 := n4_; clear n0_ n1_ n2_ n3_ n4_; clear hb hbox hg) | ((with_reducible refine gate_dst (N := 5) rfl ?_); refine box_event ?hg (N := 5) ?hd (cs := #[.int .i64 a2_0, .int .i64 a2_1, .string a2_2, .int .i64 a2_3, .slice A2_4 l2_4.length c2_4]) (t := 35) ?hr ?_; (case hd => rfl); (case hg => rfl); (case hr => first | (go_simp; done) | (go_simp; rfl)); intro gb184 hg w11 hbox hb; have n0_ := Aside0.mk (Kd.V_below (Kd.V_elderB (by (with_reducible repeat (first | apply Kd.V_alloc | apply Kd.V_drewN | apply Kd.V_drew)); exact HO0_0.out) gb184 (Nat.le_of_eq hg.symm)) hb); have n1_ := Aside0.mk (blk_below (g := gb183) (o := .cells #[.slice A0_0 l0_0.length c0_0] 27 (0, 0)) (by (with_reducible repeat (first | refine blk_drewN ?_ _ | refine blk_drew ?_ | refine blk_alloc ?_ _)); exact BK183.out) hb); have n2_ := Aside0.mk (below_step (by repeat (first | (with_reducible first | exact HB.out | apply below_alloc | apply pw_below_drewN | apply below_drew1 | refine below_set ?_ GE183.out) | exact HB.out)) hb); have n3_ := Aside0.mk (hbox); have n4_ := Aside0.mk ((by rw [hg]; exact (below_size (by repeat (first | (with_reducible first | exact HB.out | apply below_alloc | apply pw_below_drewN | apply below_drew1 | refine below_set ?_ GE183.out) | exact HB.out))) : w.heap.size ≤ gb184)); have n5_ := Aside0.mk ((by rw [hg]; exact (below_size (by repeat (first | (with_reducible first | exact HB.out | apply below_alloc | apply pw_below_drewN | apply below_drew1 | refine below_set ?_ GE183.out) | exact HB.out))) : w.heap.size ≤ gb184)); have n6_ := Aside0.mk ((by rw [hg]; exact Nat.ne_of_lt (blk_lt (g := gb183) (o := .cells #[.slice A0_0 l0_0.length c0_0] 27 (0, 0)) (by (with_reducible repeat (first | refine blk_drewN ?_ _ | refine blk_drew ?_ | refine blk_alloc ?_ _)); exact BK183.out)) : gb183 ≠ gb184)); have n7_ := Aside0.mk ((by rw [hg]; exact Nat.ne_of_gt (blk_lt (g := gb183) (o := .cells #[.slice A0_0 l0_0.length c0_0] 27 (0, 0)) (by (with_reducible repeat (first | refine blk_drewN ?_ _ | refine blk_drew ?_ | refine blk_alloc ?_ _)); exact BK183.out)) : gb184 ≠ gb183)); clear HO0_0; clear BK183; clear HB; have HO0_0 := n0_; have BK183 := n1_; have HB := n2_; have BK184 := n3_; have GW184 := n4_; have GE184 := n5_; have NB183_184 := n6_; have NB184_183 := n7_; clear n0_ n1_ n2_ n3_ n4_ n5_ n6_ n7_; clear hb hbox hg) | ((with_reducible refine gate_dst (N := 6) rfl ?_); refine box_event ?hg (N := 6) ?hd (cs := #[.int .i64 0, .int .i64 0, .string (⟨#[]⟩ : ByteArray), .int .i64 0, .slice none 0 0]) (t := 35) ?hr ?_; (case hd => rfl); (case hg => rfl); (case hr => first | (go_simp; done) | (go_simp; rfl)); intro gb185 hg w12 hbox hb; have n0_ := Aside0.mk (Kd.V_below (Kd.V_elderB (by (with_reducible repeat (first | apply Kd.V_alloc | apply Kd.V_drewN | apply Kd.V_drew)); exact HO0_0.out) gb185 (Nat.le_of_eq hg.symm)) hb); have n1_ := Aside0.mk (blk_below (g := gb183) (o := .cells #[.slice A0_0 l0_0.length c0_0] 27 (0, 0)) (by (with_reducible repeat (first | refine blk_drewN ?_ _ | refine blk_drew ?_ | refine blk_alloc ?_ _)); exact BK183.out) hb); have n2_ := Aside0.mk (blk_below (g := gb184) (o := .cells #[.int .i64 a2_0, .int .i64 a2_1, .string a2_2, .int .i64 a2_3, .slice A2_4 l2_4.length c2_4] 35 (0, 0)) (by (with_reducible repeat (first | refine blk_drewN ?_ _ | refine blk_drew ?_ | refine blk_alloc ?_ _)); exact BK184.out) hb); have n3_ := Aside0.mk (below_step (by repeat (first | (with_reducible first | exact HB.out | apply below_alloc | apply pw_below_drewN | apply below_drew1 | refine below_set ?_ GE183.out | refine below_set ?_ GE184.out) | exact HB.out)) hb); have n4_ := Aside0.mk (hbox); have n5_ := Aside0.mk ((by rw [hg]; exact (below_size (by repeat (first | (with_reducible first | exact HB.out | apply below_alloc | apply pw_below_drewN | apply below_drew1 | refine below_set ?_ GE183.out | refine below_set ?_ GE184.out) | exact HB.out))) : w.heap.size ≤ gb185)); have n6_ := Aside0.mk ((by rw [hg]; exact (below_size (by repeat (first | (with_reducible first | exact HB.out | apply below_alloc | apply pw_below_drewN | apply below_drew1 | refine below_set ?_ GE183.out | refine below_set ?_ GE184.out) | exact HB.out))) : w.heap.size ≤ gb185)); have n7_ := Aside0.mk ((by rw [hg]; exact Nat.ne_of_lt (blk_lt (g := gb183) (o := .cells #[.slice A0_0 l0_0.length c0_0] 27 (0, 0)) (by (with_reducible repeat (first | refine blk_drewN ?_ _ | refine blk_drew ?_ | refine blk_alloc ?_ _)); exact BK183.out)) : gb183 ≠ gb185)); have n8_ := Aside0.mk ((by rw [hg]; exact Nat.ne_of_gt (blk_lt (g := gb183) (o := .cells #[.slice A0_0 l0_0.length c0_0] 27 (0, 0)) (by (with_reducible repeat (first | refine blk_drewN ?_ _ | refine blk_drew ?_ | refine blk_alloc ?_ _)); exact BK183.out)) : gb185 ≠ gb183)); have n9_ := Aside0.mk ((by rw [hg]; exact Nat.ne_of_lt (blk_lt (g := gb184) (o := .cells #[.int .i64 a2_0, .int .i64 a2_1, .string a2_2, .int .i64 a2_3, .slice A2_4 l2_4.length c2_4] 35 (0, 0)) (by (with_reducible repeat (first | refine blk_drewN ?_ _ | refine blk_drew ?_ | refine blk_alloc ?_ _)); exact BK184.out)) : gb184 ≠ gb185)); have n10_ := Aside0.mk ((by rw [hg]; exact Nat.ne_of_gt (blk_lt (g := gb184) (o := .cells #[.int .i64 a2_0, .int .i64 a2_1, .string a2_2, .int .i64 a2_3, .slice A2_4 l2_4.length c2_4] 35 (0, 0)) (by (with_reducible repeat (first | refine blk_drewN ?_ _ | refine blk_drew ?_ | refine blk_alloc ?_ _)); exact BK184.out)) : gb185 ≠ gb184)); clear HO0_0; clear BK183; clear BK184; clear HB; have HO0_0 := n0_; have BK183 := n1_; have BK184 := n2_; have HB := n3_; have BK185 := n4_; have GW185 := n5_; have GE185 := n6_; have NB183_185 := n7_; have NB185_183 := n8_; have NB184_185 := n9_; have NB185_184 := n10_; clear n0_ n1_ n2_ n3_ n4_ n5_ n6_ n7_ n8_ n9_ n10_; clear hb hbox hg; have hnb13 := NB183_184.out; have hnc13 := NB184_183.out; have hnb14 := NB183_185.out; have hnc14 := NB185_183.out; have hcz15_0 : w12.cell? ⟨gb183, 0, none⟩ = some (.slice A0_0 l0_0.length c0_0) := (blk_cell BK183.out 0).trans rfl; have hfz15_0 := blk_frozen BK183.out 0; have hnb16 := NB184_185.out; have hnc16 := NB185_184.out; have hcz17_0 : w12.cell? ⟨gb184, 0, none⟩ = some (.int .i64 a2_0) := (blk_cell BK184.out 0).trans rfl; have hcz17_1 : w12.cell? ⟨gb184, 1, none⟩ = some (.int .i64 a2_1) := (blk_cell BK184.out 1).trans rfl; have hcz17_2 : w12.cell? ⟨gb184, 2, none⟩ = some (.string a2_2) := (blk_cell BK184.out 2).trans rfl; have hcz17_3 : w12.cell? ⟨gb184, 3, none⟩ = some (.int .i64 a2_3) := (blk_cell BK184.out 3).trans rfl; have hcz17_4 : w12.cell? ⟨gb184, 4, none⟩ = some (.slice A2_4 l2_4.length c2_4) := (blk_cell BK184.out 4).trans rfl; have hfz17_0 := blk_frozen BK184.out 0; have hfz17_1 := blk_frozen BK184.out 1; have hfz17_2 := blk_frozen BK184.out 2; have hfz17_3 := blk_frozen BK184.out 3; have hfz17_4 := blk_frozen BK184.out 4) | ((with_reducible refine gate_callee (f := 37) rfl ?_); refine goesL_ (some 14) rfl rfl Try.func37 (by kernel_rfl) rfl #[.agg #[.slice A0_0 l0_0.length c0_0], .int .i64 a1, .agg #[.int .i64 a2_0, .int .i64 a2_1, .string a2_2, .int .i64 a2_3, .slice A2_4 l2_4.length c2_4]] rfl (by (try simp only [List.map_toArray, List.map_cons, List.map_nil]); first | done | rfl | (simp only [List.length_drop, List.length_take]; rfl) | (go_simp; done) | (go_simp; simp; done)) ?_; (with_reducible refine (heap_place.calls k _ _ l0_0 a1 a2_0 a2_1 a2_2 a2_3 _ _ l2_4 t186 true _ ?side1 ?side2 ?side3 ?side4 A4.out).mono ?_); (case side1 => repeat (first | exact (Kd.V_reads' HO0_0.out).2.2 | (with_reducible refine Kd.C_alloc ?_ _) | (with_reducible refine Kd.C_drewN ?_ _) | (with_reducible refine Kd.C_drew ?_))); (case side2 => exact (Kd.V_reads' HO0_0.out).2.1); (case side3 => repeat (first | exact (Kd.C_below HR2_4.out HB.out) | (with_reducible refine Kd.C_alloc ?_ _) | (with_reducible refine Kd.C_drewN ?_ _) | (with_reducible refine Kd.C_drew ?_))); (case side4 => exact HC2_4.out); rintro e w18 ⟨rfl, hb⟩; refine ⟨_, rfl, ?_⟩; have n0_ := Aside0.mk (Kd.V_below (by (with_reducible repeat (first | apply Kd.V_alloc | apply Kd.V_drewN | apply Kd.V_drew)); exact HO0_0.out) hb); have n1_ := Aside0.mk (blk_below (g := gb183) (o := .cells #[.slice A0_0 l0_0.length c0_0] 27 (0, 0)) (by (with_reducible repeat (first | refine blk_drewN ?_ _ | refine blk_drew ?_ | refine blk_alloc ?_ _)); exact BK183.out) hb); have n2_ := Aside0.mk (blk_below (g := gb184) (o := .cells #[.int .i64 a2_0, .int .i64 a2_1, .string a2_2, .int .i64 a2_3, .slice A2_4 l2_4.length c2_4] 35 (0, 0)) (by (with_reducible repeat (first | refine blk_drewN ?_ _ | refine blk_drew ?_ | refine blk_alloc ?_ _)); exact BK184.out) hb); have n3_ := Aside0.mk (blk_below (g := gb185) (o := .cells #[.int .i64 0, .int .i64 0, .string (⟨#[]⟩ : ByteArray), .int .i64 0, .slice none 0 0] 35 (0, 0)) (by (with_reducible repeat (first | refine blk_drewN ?_ _ | refine blk_drew ?_ | refine blk_alloc ?_ _)); exact BK185.out) hb); have n4_ := Aside0.mk (below_step (by repeat (first | (with_reducible first | exact HB.out | apply below_alloc | apply pw_below_drewN | apply below_drew1 | refine below_set ?_ GE183.out | refine below_set ?_ GE184.out | refine below_set ?_ GE185.out) | exact HB.out)) hb); clear HO0_0; clear BK183; clear BK184; clear BK185; clear HB; have HO0_0 := n0_; have BK183 := n1_; have BK184 := n2_; have BK185 := n3_; have HB := n4_; clear n0_ n1_ n2_ n3_ n4_; (try clear hb); (try clear hb2); (try clear hk); (try clear hi); have hcz19_0 : w18.cell? ⟨gb183, 0, none⟩ = some (.slice A0_0 l0_0.length c0_0) := (blk_cell BK183.out 0).trans rfl; have hfz19_0 := blk_frozen BK183.out 0; have p188 : 0 ≤ (a1 : Int) := of_decide_eq_true (by first | (with_reducible assumption) | assumption); have q188 : a1 < (l0_0.length : Int) := of_decide_eq_true (by first | (with_reducible assumption) | assumption); obtain ⟨ad188, A188_0, c188_0, e188, hx188_0, hl188_0, hi188_0⟩ := at_L5 (Kd.V_reads' HO0_0.out).2.2 a1 p188 q188; cases e188; obtain ⟨ce188, hce188, hMe188, hcc188⟩ := Kd.V_get HO0_0.out [] a1 p188 (by first | exact q188 | exact of_decide_eq_true (by first | (with_reducible assumption) | assumption) | (have e_ := (Kd.V_reads' HO0_0.out).1; omega)); obtain ⟨ua188_0, uc188_0, rfl, ul188_0, ge188_0⟩ := Kd.FK_slice_open hMe188; have hv188_0 := hcc188 0 _ rfl; rw [Nat.add_zero, show ((Kd.slice 82 k82)).sz = 1 from rfl, Nat.mul_one] at hv188_0; replace hv188_0 := Option.some.inj (hv188_0.symm.trans hx188_0); injection hv188_0 with hva_ hvn_ hvc_; rw [hva_] at ge188_0; rw [hvc_] at ul188_0; have HL188_0 := Aside0.mk (show Kd.V k82 82 _ w.heap.size _ _ (rd_L5 l0_0 a1) from Kd.V_mk ul188_0 ge188_0); clear hva_ hvn_ hvc_ ge188_0 ul188_0; clear hcc188 hce188; have HR188_0 := Aside0.mk hi188_0; have HC188_0 := Aside0.mk hl188_0; clear hi188_0 hl188_0; replace p188 := eq_true p188; replace q188 := eq_true q188; have p189 : 0 ≤ (t186 : Int) := of_decide_eq_true (by first | (with_reducible assumption) | assumption); have q189 : t186 < ((rd_L5 l0_0 a1).length : Int) := of_decide_eq_true (by first | (with_reducible assumption) | assumption); obtain ⟨ad189, A189_4, c189_4, A189_9, c189_9, e189, hx189_0, hx189_1, hx189_2, hx189_3, hx189_4, hx189_5, hx189_6, hx189_7, hx189_8, hx189_9, hl189_4, hi189_4, hl189_9, hi189_9⟩ := at_T82 (by repeat (first | (with_reducible exact HR188_0.out) | (with_reducible refine Kd.C_alloc ?_ _) | (with_reducible refine Kd.C_drewN ?_ _) | (with_reducible refine Kd.C_drew ?_) | exact HR188_0.out)) t186 p189 q189; cases e189; obtain ⟨ce189, hce189, hMe189, hcc189⟩ := Kd.V_get HL188_0.out z82 t186 p189 (by first | exact q189 | exact of_decide_eq_true (by first | (with_reducible assumption) | assumption) | (have e_ := (Kd.V_reads' HL188_0.out).1; omega)); obtain ⟨ua189_4, uc189_4, ua189_9, uc189_9, rfl, ul189_4, ge189_4, ul189_9, ge189_9⟩ := k82_openF hMe189; have hv189_4 := hcc189 4 _ rfl; rw [add_field _ _ 4 (by omega)] at hv189_4; replace hv189_4 := Option.some.inj (hv189_4.symm.trans hx189_4); injection hv189_4 with hva_ hvn_ hvc_; rw [hva_] at ge189_4; rw [hvc_] at ul189_4; have HL189_4 := Aside0.mk (show Kd.V k35 35 _ w.heap.size _ _ ((rd_T82 (rd_L5 l0_0 a1) t186).f0.f4) from Kd.V_mk ul189_4 ge189_4); clear hva_ hvn_ hvc_ ge189_4 ul189_4; have hv189_9 := hcc189 9 _ rfl; rw [add_field _ _ 9 (by omega)] at hv189_9; replace hv189_9 := Option.some.inj (hv189_9.symm.trans hx189_9); injection hv189_9 with hva_ hvn_ hvc_; rw [hva_] at ge189_9; rw [hvc_] at ul189_9; have HL189_9 := Aside0.mk (show Kd.V k35 35 _ w.heap.size _ _ ((rd_T82 (rd_L5 l0_0 a1) t186).f1.f4) from Kd.V_mk ul189_9 ge189_9); clear hva_ hvn_ hvc_ ge189_9 ul189_9; clear hcc189 hce189; have HR189_4 := Aside0.mk hi189_4; have HC189_4 := Aside0.mk hl189_4; clear hi189_4 hl189_4; have HR189_9 := Aside0.mk hi189_9; have HC189_9 := Aside0.mk hl189_9; clear hi189_9 hl189_9; replace p189 := eq_true p189; replace q189 := eq_true q189; have hcz20_0 : w18.cell? ⟨gb185, 0, none⟩ = some (.int .i64 0) := (blk_cell BK185.out 0).trans rfl; have hcz20_1 : w18.cell? ⟨gb185, 1, none⟩ = some (.int .i64 0) := (blk_cell BK185.out 1).trans rfl; have hcz20_2 : w18.cell? ⟨gb185, 2, none⟩ = some (.string (⟨#[]⟩ : ByteArray)) := (blk_cell BK185.out 2).trans rfl; have hcz20_3 : w18.cell? ⟨gb185, 3, none⟩ = some (.int .i64 0) := (blk_cell BK185.out 3).trans rfl; have hcz20_4 : w18.cell? ⟨gb185, 4, none⟩ = some (.slice none 0 0) := (blk_cell BK185.out 4).trans rfl; have hfz20_0 := blk_frozen BK185.out 0; have hfz20_1 := blk_frozen BK185.out 1; have hfz20_2 := blk_frozen BK185.out 2; have hfz20_3 := blk_frozen BK185.out 3; have hfz20_4 := blk_frozen BK185.out 4))
            refine bodyPost_ret (results_ct rfl _ _ gb185 35 #[.int .i64 ((rd_T82 (rd_L5 l0_0 a1) t186).f1.f0), .int .i64 ((rd_T82 (rd_L5 l0_0 a1) t186).f1.f1), .string ((rd_T82 (rd_L5 l0_0 a1) t186).f1.f2), .int .i64 ((rd_T82 (rd_L5 l0_0 a1) t186).f1.f3), .slice A189_9 ((rd_T82 (rd_L5 l0_0 a1) t186).f1.f4).length c189_9] (0, 0) _ rfl (by (with_reducible repeat (first | refine blk_drewN ?_ _ | refine blk_drew ?_ | refine blk_alloc ?_ _)); refine blk_put (cs := #[.int .i64 ((rd_T82 (rd_L5 l0_0 a1) t186).f1.f0), .int .i64 ((rd_T82 (rd_L5 l0_0 a1) t186).f1.f1), .string ((rd_T82 (rd_L5 l0_0 a1) t186).f1.f2), .int .i64 ((rd_T82 (rd_L5 l0_0 a1) t186).f1.f3), .slice none 0 0]) ?_ 4 _ rfl; (with_reducible repeat (first | refine blk_drewN ?_ _ | refine blk_drew ?_ | refine blk_alloc ?_ _)); refine blk_put (cs := #[.int .i64 ((rd_T82 (rd_L5 l0_0 a1) t186).f1.f0), .int .i64 ((rd_T82 (rd_L5 l0_0 a1) t186).f1.f1), .string ((rd_T82 (rd_L5 l0_0 a1) t186).f1.f2), .int .i64 0, .slice none 0 0]) ?_ 3 _ rfl; (with_reducible repeat (first | refine blk_drewN ?_ _ | refine blk_drew ?_ | refine blk_alloc ?_ _)); refine blk_put (cs := #[.int .i64 ((rd_T82 (rd_L5 l0_0 a1) t186).f1.f0), .int .i64 ((rd_T82 (rd_L5 l0_0 a1) t186).f1.f1), .string (⟨#[]⟩ : ByteArray), .int .i64 0, .slice none 0 0]) ?_ 2 _ rfl; (with_reducible repeat (first | refine blk_drewN ?_ _ | refine blk_drew ?_ | refine blk_alloc ?_ _)); refine blk_put (cs := #[.int .i64 ((rd_T82 (rd_L5 l0_0 a1) t186).f1.f0), .int .i64 0, .string (⟨#[]⟩ : ByteArray), .int .i64 0, .slice none 0 0]) ?_ 1 _ rfl; (with_reducible repeat (first | refine blk_drewN ?_ _ | refine blk_drew ?_ | refine blk_alloc ?_ _)); refine blk_put (cs := #[.int .i64 0, .int .i64 0, .string (⟨#[]⟩ : ByteArray), .int .i64 0, .slice none 0 0]) ?_ 0 _ rfl; (with_reducible repeat (first | refine blk_drewN ?_ _ | refine blk_drew ?_ | refine blk_alloc ?_ _)); exact BK185.out) Try.underlying35 rfl (by kernel_rfl)) rfl ?_
            exact ⟨_, by first | rfl | (simp [errW_none, errW_some] <;> rfl) | (simp [*, errW_none, errW_some] <;> rfl), by (with_reducible repeat (first | apply Kd.V_alloc | apply Kd.V_drewN | apply Kd.V_drew)); exact Kd.V_mono (Kd.V_far (p := ⟨gb185, 4, none⟩) (Kd.V_far (p := ⟨gb185, 3, none⟩) (Kd.V_far (p := ⟨gb185, 2, none⟩) (Kd.V_far (p := ⟨gb185, 1, none⟩) (Kd.V_far (p := ⟨gb185, 0, none⟩) (Kd.V_mono HL189_9.out (fun k_ hk => (⟨hk, hk.2⟩ : _ ∧ k_ ≠ gb185))) (fun _ hk => hk.2) (.int .i64 ((rd_T82 (rd_L5 l0_0 a1) t186).f1.f0))) (fun _ hk => hk.2) (.int .i64 ((rd_T82 (rd_L5 l0_0 a1) t186).f1.f1))) (fun _ hk => hk.2) (.string ((rd_T82 (rd_L5 l0_0 a1) t186).f1.f2))) (fun _ hk => hk.2) (.int .i64 ((rd_T82 (rd_L5 l0_0 a1) t186).f1.f3))) (fun _ hk => hk.2) (.slice A189_9 ((rd_T82 (rd_L5 l0_0 a1) t186).f1.f4).length c189_9)) (fun _ hk => hk.1.1.1.1), by repeat (first | (with_reducible first | exact HB.out | apply below_alloc | apply pw_below_drewN | apply below_drew1 | refine below_set ?_ GE183.out | refine below_set ?_ GE184.out | refine below_set ?_ GE185.out) | exact HB.out)⟩
          · rw [if_neg c9] at H
            exact absurd H (by simp)
        · rw [if_neg c8] at H
          exact absurd H (by simp)
      · rw [if_neg c7] at H
        exact absurd H (by simp)
    · rw [if_neg c6] at H
      exact absurd H (by simp)
  · replace c5 := Bool.eq_false_iff.mpr c5
    subst c5
    have H1 : (some (0, 0, (⟨#[]⟩ : ByteArray), 0, ([] : List (S35)), false)) = some (r1, r2, r3, r4, r5, r6) := by rw [if_neg (show ¬ (false = true) by decide)] at H; exact H
    clear H
    have H := H1
    clear H1
    simp only [Option.some.injEq, Prod.mk.injEq] at H
    obtain ⟨rfl, rfl, rfl, rfl, rfl, rfl⟩ := H
    go_enter Try.func14, Try.ntmps14
    go_wp2_with (first | ((with_reducible refine gate_dst (N := 3) rfl ?_); refine box_event ?hg (N := 3) ?hd (cs := #[.slice A0_0 l0_0.length c0_0]) (t := 27) ?hr ?_; (case hd => rfl); (case hg => rfl); (case hr => first | (go_simp; done) | (go_simp; rfl)); intro gb183 hg w21 hbox hb; have n0_ := Aside0.mk (Kd.V_below (Kd.V_elderB (by (with_reducible repeat (first | apply Kd.V_alloc | apply Kd.V_drewN | apply Kd.V_drew)); exact HO0_0.out) gb183 (Nat.le_of_eq hg.symm)) hb); have n1_ := Aside0.mk (below_step (by repeat (first | (with_reducible first | exact HB.out | apply below_alloc | apply pw_below_drewN | apply below_drew1) | exact HB.out)) hb); have n2_ := Aside0.mk (hbox); have n3_ := Aside0.mk ((by rw [hg]; exact (below_size (by repeat (first | (with_reducible first | exact HB.out | apply below_alloc | apply pw_below_drewN | apply below_drew1) | exact HB.out))) : w.heap.size ≤ gb183)); have n4_ := Aside0.mk ((by rw [hg]; exact (below_size (by repeat (first | (with_reducible first | exact HB.out | apply below_alloc | apply pw_below_drewN | apply below_drew1) | exact HB.out))) : w.heap.size ≤ gb183)); clear HO0_0; clear HB; have HO0_0 := n0_; have HB := n1_; have BK183 := n2_; have GW183 := n3_; have GE183 := n4_; clear n0_ n1_ n2_ n3_ n4_; clear hb hbox hg) | ((with_reducible refine gate_dst (N := 5) rfl ?_); refine box_event ?hg (N := 5) ?hd (cs := #[.int .i64 a2_0, .int .i64 a2_1, .string a2_2, .int .i64 a2_3, .slice A2_4 l2_4.length c2_4]) (t := 35) ?hr ?_; (case hd => rfl); (case hg => rfl); (case hr => first | (go_simp; done) | (go_simp; rfl)); intro gb184 hg w22 hbox hb; have n0_ := Aside0.mk (Kd.V_below (Kd.V_elderB (by (with_reducible repeat (first | apply Kd.V_alloc | apply Kd.V_drewN | apply Kd.V_drew)); exact HO0_0.out) gb184 (Nat.le_of_eq hg.symm)) hb); have n1_ := Aside0.mk (blk_below (g := gb183) (o := .cells #[.slice A0_0 l0_0.length c0_0] 27 (0, 0)) (by (with_reducible repeat (first | refine blk_drewN ?_ _ | refine blk_drew ?_ | refine blk_alloc ?_ _)); exact BK183.out) hb); have n2_ := Aside0.mk (below_step (by repeat (first | (with_reducible first | exact HB.out | apply below_alloc | apply pw_below_drewN | apply below_drew1 | refine below_set ?_ GE183.out) | exact HB.out)) hb); have n3_ := Aside0.mk (hbox); have n4_ := Aside0.mk ((by rw [hg]; exact (below_size (by repeat (first | (with_reducible first | exact HB.out | apply below_alloc | apply pw_below_drewN | apply below_drew1 | refine below_set ?_ GE183.out) | exact HB.out))) : w.heap.size ≤ gb184)); have n5_ := Aside0.mk ((by rw [hg]; exact (below_size (by repeat (first | (with_reducible first | exact HB.out | apply below_alloc | apply pw_below_drewN | apply below_drew1 | refine below_set ?_ GE183.out) | exact HB.out))) : w.heap.size ≤ gb184)); have n6_ := Aside0.mk ((by rw [hg]; exact Nat.ne_of_lt (blk_lt (g := gb183) (o := .cells #[.slice A0_0 l0_0.length c0_0] 27 (0, 0)) (by (with_reducible repeat (first | refine blk_drewN ?_ _ | refine blk_drew ?_ | refine blk_alloc ?_ _)); exact BK183.out)) : gb183 ≠ gb184)); have n7_ := Aside0.mk ((by rw [hg]; exact Nat.ne_of_gt (blk_lt (g := gb183) (o := .cells #[.slice A0_0 l0_0.length c0_0] 27 (0, 0)) (by (with_reducible repeat (first | refine blk_drewN ?_ _ | refine blk_drew ?_ | refine blk_alloc ?_ _)); exact BK183.out)) : gb184 ≠ gb183)); clear HO0_0; clear BK183; clear HB; have HO0_0 := n0_; have BK183 := n1_; have HB := n2_; have BK184 := n3_; have GW184 := n4_; have GE184 := n5_; have NB183_184 := n6_; have NB184_183 := n7_; clear n0_ n1_ n2_ n3_ n4_ n5_ n6_ n7_; clear hb hbox hg) | ((with_reducible refine gate_dst (N := 6) rfl ?_); refine box_event ?hg (N := 6) ?hd (cs := #[.int .i64 0, .int .i64 0, .string (⟨#[]⟩ : ByteArray), .int .i64 0, .slice none 0 0]) (t := 35) ?hr ?_; (case hd => rfl); (case hg => rfl); (case hr => first | (go_simp; done) | (go_simp; rfl)); intro gb185 hg w23 hbox hb; have n0_ := Aside0.mk (Kd.V_below (Kd.V_elderB (by (with_reducible repeat (first | apply Kd.V_alloc | apply Kd.V_drewN | apply Kd.V_drew)); exact HO0_0.out) gb185 (Nat.le_of_eq hg.symm)) hb); have n1_ := Aside0.mk (blk_below (g := gb183) (o := .cells #[.slice A0_0 l0_0.length c0_0] 27 (0, 0)) (by (with_reducible repeat (first | refine blk_drewN ?_ _ | refine blk_drew ?_ | refine blk_alloc ?_ _)); exact BK183.out) hb); have n2_ := Aside0.mk (blk_below (g := gb184) (o := .cells #[.int .i64 a2_0, .int .i64 a2_1, .string a2_2, .int .i64 a2_3, .slice A2_4 l2_4.length c2_4] 35 (0, 0)) (by (with_reducible repeat (first | refine blk_drewN ?_ _ | refine blk_drew ?_ | refine blk_alloc ?_ _)); exact BK184.out) hb); have n3_ := Aside0.mk (below_step (by repeat (first | (with_reducible first | exact HB.out | apply below_alloc | apply pw_below_drewN | apply below_drew1 | refine below_set ?_ GE183.out | refine below_set ?_ GE184.out) | exact HB.out)) hb); have n4_ := Aside0.mk (hbox); have n5_ := Aside0.mk ((by rw [hg]; exact (below_size (by repeat (first | (with_reducible first | exact HB.out | apply below_alloc | apply pw_below_drewN | apply below_drew1 | refine below_set ?_ GE183.out | refine below_set ?_ GE184.out) | exact HB.out))) : w.heap.size ≤ gb185)); have n6_ := Aside0.mk ((by rw [hg]; exact (below_size (by repeat (first | (with_reducible first | exact HB.out | apply below_alloc | apply pw_below_drewN | apply below_drew1 | refine below_set ?_ GE183.out | refine below_set ?_ GE184.out) | exact HB.out))) : w.heap.size ≤ gb185)); have n7_ := Aside0.mk ((by rw [hg]; exact Nat.ne_of_lt (blk_lt (g := gb183) (o := .cells #[.slice A0_0 l0_0.length c0_0] 27 (0, 0)) (by (with_reducible repeat (first | refine blk_drewN ?_ _ | refine blk_drew ?_ | refine blk_alloc ?_ _)); exact BK183.out)) : gb183 ≠ gb185)); have n8_ := Aside0.mk ((by rw [hg]; exact Nat.ne_of_gt (blk_lt (g := gb183) (o := .cells #[.slice A0_0 l0_0.length c0_0] 27 (0, 0)) (by (with_reducible repeat (first | refine blk_drewN ?_ _ | refine blk_drew ?_ | refine blk_alloc ?_ _)); exact BK183.out)) : gb185 ≠ gb183)); have n9_ := Aside0.mk ((by rw [hg]; exact Nat.ne_of_lt (blk_lt (g := gb184) (o := .cells #[.int .i64 a2_0, .int .i64 a2_1, .string a2_2, .int .i64 a2_3, .slice A2_4 l2_4.length c2_4] 35 (0, 0)) (by (with_reducible repeat (first | refine blk_drewN ?_ _ | refine blk_drew ?_ | refine blk_alloc ?_ _)); exact BK184.out)) : gb184 ≠ gb185)); have n10_ := Aside0.mk ((by rw [hg]; exact Nat.ne_of_gt (blk_lt (g := gb184) (o := .cells #[.int .i64 a2_0, .int .i64 a2_1, .string a2_2, .int .i64 a2_3, .slice A2_4 l2_4.length c2_4] 35 (0, 0)) (by (with_reducible repeat (first | refine blk_drewN ?_ _ | refine blk_drew ?_ | refine blk_alloc ?_ _)); exact BK184.out)) : gb185 ≠ gb184)); clear HO0_0; clear BK183; clear BK184; clear HB; have HO0_0 := n0_; have BK183 := n1_; have BK184 := n2_; have HB := n3_; have BK185 := n4_; have GW185 := n5_; have GE185 := n6_; have NB183_185 := n7_; have NB185_183 := n8_; have NB184_185 := n9_; have NB185_184 := n10_; clear n0_ n1_ n2_ n3_ n4_ n5_ n6_ n7_ n8_ n9_ n10_; clear hb hbox hg; have hnb24 := NB183_184.out; have hnc24 := NB184_183.out; have hnb25 := NB183_185.out; have hnc25 := NB185_183.out; have hcz26_0 : w23.cell? ⟨gb183, 0, none⟩ = some (.slice A0_0 l0_0.length c0_0) := (blk_cell BK183.out 0).trans rfl; have hfz26_0 := blk_frozen BK183.out 0; have hnb27 := NB184_185.out; have hnc27 := NB185_184.out; have hcz28_0 : w23.cell? ⟨gb184, 0, none⟩ = some (.int .i64 a2_0) := (blk_cell BK184.out 0).trans rfl; have hcz28_1 : w23.cell? ⟨gb184, 1, none⟩ = some (.int .i64 a2_1) := (blk_cell BK184.out 1).trans rfl; have hcz28_2 : w23.cell? ⟨gb184, 2, none⟩ = some (.string a2_2) := (blk_cell BK184.out 2).trans rfl; have hcz28_3 : w23.cell? ⟨gb184, 3, none⟩ = some (.int .i64 a2_3) := (blk_cell BK184.out 3).trans rfl; have hcz28_4 : w23.cell? ⟨gb184, 4, none⟩ = some (.slice A2_4 l2_4.length c2_4) := (blk_cell BK184.out 4).trans rfl; have hfz28_0 := blk_frozen BK184.out 0; have hfz28_1 := blk_frozen BK184.out 1; have hfz28_2 := blk_frozen BK184.out 2; have hfz28_3 := blk_frozen BK184.out 3; have hfz28_4 := blk_frozen BK184.out 4) | ((with_reducible refine gate_callee (f := 37) rfl ?_); refine goesL_ (some 14) rfl rfl Try.func37 (by kernel_rfl) rfl #[.agg #[.slice A0_0 l0_0.length c0_0], .int .i64 a1, .agg #[.int .i64 a2_0, .int .i64 a2_1, .string a2_2, .int .i64 a2_3, .slice A2_4 l2_4.length c2_4]] rfl (by (try simp only [List.map_toArray, List.map_cons, List.map_nil]); first | done | rfl | (simp only [List.length_drop, List.length_take]; rfl) | (go_simp; done) | (go_simp; simp; done)) ?_; (with_reducible refine (heap_place.calls k _ _ l0_0 a1 a2_0 a2_1 a2_2 a2_3 _ _ l2_4 t186 false _ ?side1 ?side2 ?side3 ?side4 A4.out).mono ?_); (case side1 => repeat (first | exact (Kd.V_reads' HO0_0.out).2.2 | (with_reducible refine Kd.C_alloc ?_ _) | (with_reducible refine Kd.C_drewN ?_ _) | (with_reducible refine Kd.C_drew ?_))); (case side2 => exact (Kd.V_reads' HO0_0.out).2.1); (case side3 => repeat (first | exact (Kd.C_below HR2_4.out HB.out) | (with_reducible refine Kd.C_alloc ?_ _) | (with_reducible refine Kd.C_drewN ?_ _) | (with_reducible refine Kd.C_drew ?_))); (case side4 => exact HC2_4.out); rintro e w29 ⟨rfl, hb⟩; refine ⟨_, rfl, ?_⟩; have n0_ := Aside0.mk (Kd.V_below (by (with_reducible repeat (first | apply Kd.V_alloc | apply Kd.V_drewN | apply Kd.V_drew)); exact HO0_0.out) hb); have n1_ := Aside0.mk (blk_below (g := gb183) (o := .cells #[.slice A0_0 l0_0.length c0_0] 27 (0, 0)) (by (with_reducible repeat (first | refine blk_drewN ?_ _ | refine blk_drew ?_ | refine blk_alloc ?_ _)); exact BK183.out) hb); have n2_ := Aside0.mk (blk_below (g := gb184) (o := .cells #[.int .i64 a2_0, .int .i64 a2_1, .string a2_2, .int .i64 a2_3, .slice A2_4 l2_4.length c2_4] 35 (0, 0)) (by (with_reducible repeat (first | refine blk_drewN ?_ _ | refine blk_drew ?_ | refine blk_alloc ?_ _)); exact BK184.out) hb); have n3_ := Aside0.mk (blk_below (g := gb185) (o := .cells #[.int .i64 0, .int .i64 0, .string (⟨#[]⟩ : ByteArray), .int .i64 0, .slice none 0 0] 35 (0, 0)) (by (with_reducible repeat (first | refine blk_drewN ?_ _ | refine blk_drew ?_ | refine blk_alloc ?_ _)); exact BK185.out) hb); have n4_ := Aside0.mk (below_step (by repeat (first | (with_reducible first | exact HB.out | apply below_alloc | apply pw_below_drewN | apply below_drew1 | refine below_set ?_ GE183.out | refine below_set ?_ GE184.out | refine below_set ?_ GE185.out) | exact HB.out)) hb); clear HO0_0; clear BK183; clear BK184; clear BK185; clear HB; have HO0_0 := n0_; have BK183 := n1_; have BK184 := n2_; have BK185 := n3_; have HB := n4_; clear n0_ n1_ n2_ n3_ n4_; (try clear hb); (try clear hb2); (try clear hk); (try clear hi); have hcz30_0 : w29.cell? ⟨gb185, 0, none⟩ = some (.int .i64 0) := (blk_cell BK185.out 0).trans rfl; have hcz30_1 : w29.cell? ⟨gb185, 1, none⟩ = some (.int .i64 0) := (blk_cell BK185.out 1).trans rfl; have hcz30_2 : w29.cell? ⟨gb185, 2, none⟩ = some (.string (⟨#[]⟩ : ByteArray)) := (blk_cell BK185.out 2).trans rfl; have hcz30_3 : w29.cell? ⟨gb185, 3, none⟩ = some (.int .i64 0) := (blk_cell BK185.out 3).trans rfl; have hcz30_4 : w29.cell? ⟨gb185, 4, none⟩ = some (.slice none 0 0) := (blk_cell BK185.out 4).trans rfl; have hfz30_0 := blk_frozen BK185.out 0; have hfz30_1 := blk_frozen BK185.out 1; have hfz30_2 := blk_frozen BK185.out 2; have hfz30_3 := blk_frozen BK185.out 3; have hfz30_4 := blk_frozen BK185.out 4))
    refine bodyPost_ret (results_ct rfl _ _ gb185 35 #[.int .i64 0, .int .i64 0, .string (⟨#[]⟩ : ByteArray), .int .i64 0, .slice none 0 0] (0, 0) _ rfl (by (with_reducible repeat (first | refine blk_drewN ?_ _ | refine blk_drew ?_ | refine blk_alloc ?_ _)); refine blk_put (cs := #[.int .i64 0, .int .i64 0, .string (⟨#[]⟩ : ByteArray), .int .i64 0, .slice none 0 0]) ?_ 4 _ rfl; (with_reducible repeat (first | refine blk_drewN ?_ _ | refine blk_drew ?_ | refine blk_alloc ?_ _)); refine blk_put (cs := #[.int .i64 0, .int .i64 0, .string (⟨#[]⟩ : ByteArray), .int .i64 0, .slice none 0 0]) ?_ 3 _ rfl; (with_reducible repeat (first | refine blk_drewN ?_ _ | refine blk_drew ?_ | refine blk_alloc ?_ _)); refine blk_put (cs := #[.int .i64 0, .int .i64 0, .string (⟨#[]⟩ : ByteArray), .int .i64 0, .slice none 0 0]) ?_ 2 _ rfl; (with_reducible repeat (first | refine blk_drewN ?_ _ | refine blk_drew ?_ | refine blk_alloc ?_ _)); refine blk_put (cs := #[.int .i64 0, .int .i64 0, .string (⟨#[]⟩ : ByteArray), .int .i64 0, .slice none 0 0]) ?_ 1 _ rfl; (with_reducible repeat (first | refine blk_drewN ?_ _ | refine blk_drew ?_ | refine blk_alloc ?_ _)); refine blk_put (cs := #[.int .i64 0, .int .i64 0, .string (⟨#[]⟩ : ByteArray), .int .i64 0, .slice none 0 0]) ?_ 0 _ rfl; (with_reducible repeat (first | refine blk_drewN ?_ _ | refine blk_drew ?_ | refine blk_alloc ?_ _)); exact BK185.out) Try.underlying35 rfl (by kernel_rfl)) rfl ?_
    exact ⟨_, by first | rfl | (simp [errW_none, errW_some] <;> rfl) | (simp [*, errW_none, errW_some] <;> rfl), Kd.V_nil _ _ _ _ _, by repeat (first | (with_reducible first | exact HB.out | apply below_alloc | apply pw_below_drewN | apply below_drew1 | refine below_set ?_ GE183.out | refine below_set ?_ GE184.out | refine below_set ?_ GE185.out) | exact HB.out)⟩

end Go.Proofs.Ytnokieaebnmljaa.PAll
namespace Go.Proofs.Ytnokieaebnmljaa.PAll
open Go Go.Proofs Go.RowKit Go.Shelf Go.Proofs.YtnokieaebnmljaaW.PrintWords Go.Proofs.YtnokieaebnmljaaW.PrintLast Go.Proofs.YtnokieaebnmljaaW.PrintMore
set_option linter.unusedVariables false
set_option linter.unusedSimpArgs false
/-- The heap of HeapOrders: the state in its box (gs), the rows of keys and of values. -/
structure St (w0 W : World) (gs : Nat) (vs v6 v7 : Value) (L : List (Int × Int)) (T V : List Int) : Prop where
  below : Below w0.heap.size w0 W
  gsb : w0.heap.size ≤ gs
  box : W.heap[gs]? = some (.cells #[vs] 27 (0, 0))
  hs : Kd.V (Kd.slice 82 k82) 41 W w0.heap.size (fun k => k ≠ gs ∧ some k ≠ v6.ownBlock ∧ some k ≠ v7.ownBlock) vs [[], L.map ent]
  h6 : OI W w0.heap.size v6 T
  h7 : OI W w0.heap.size v7 V
  n67 : ∀ k, v6.ownBlock = some k → v7.ownBlock ≠ some k
section
variable {w0 W W1 : World} {gs : Nat} {vs v6 v7 : Value} {L : List (Int × Int)} {T V : List Int}
theorem St.base (h : St w0 W gs vs v6 v7 L T V) : w0.heap.size ≤ W.heap.size := h.below.size
theorem St.far (h : St w0 W gs vs v6 v7 L T V) (hb : Below W.heap.size W W1) : St w0 W1 gs vs v6 v7 L T V :=
  ⟨h.below.trans (hb.mono h.base), h.gsb, blk_below h.box hb, Kd.V_below h.hs hb, h.h6.move (fun k hk => hb.block k (h.h6.lt k hk).1), h.h7.move (fun k hk => hb.block k (h.h7.lt k hk).1), h.n67⟩
theorem St.slice (h : St w0 W gs vs v6 v7 L T V) : ∃ A c, vs = .slice A 2 c := by
  obtain ⟨A, c, e⟩ := Kd.V_slice h.hs
  exact ⟨A, c, e⟩
theorem St.ne6 (h : St w0 W gs vs v6 v7 L T V) : some gs ≠ v6.ownBlock := h.h6.ne h.box (by decide)
theorem St.ne7 (h : St w0 W gs vs v6 v7 L T V) : some gs ≠ v7.ownBlock := h.h7.ne h.box (by decide)
/-- A number is written over another in the row of values. -/
theorem St.put7 {g n c : Nat} (h : St w0 W gs vs v6 (.slice (some ⟨g, 0, none⟩) n c) L T V) (i : Nat) (x : Int) : St w0 (W.setCell ⟨g, i, none⟩ (.int .i64 x)) gs vs v6 (.slice (some ⟨g, 0, none⟩) n c) L T (V.set i x) := by
  have hne : gs ≠ g := fun e => h.ne7 (by rw [e]; rfl)
  have hg := (h.h7.lt g rfl)
  refine ⟨h.below.setCell (p := ⟨g, i, none⟩) hg.2 _, h.gsb, blk_far h.box (p := ⟨g, i, none⟩) hne _, Kd.V_far (p := ⟨g, i, none⟩) h.hs (fun k hk e => hk.2.2 (by rw [e]; rfl)) _, h.h6.move (fun k hk => Below.heap_setCell W ⟨g, i, none⟩ _ k (fun e => h.n67 k hk (by rw [e]; rfl))), h.h7.put i x, h.n67⟩
/-- Another state is laid into the box. -/
theorem St.sets (h : St w0 W gs vs v6 v7 L T V) {W' : World} (hb : Below W.heap.size W W') {vs' : Value} {ok : Nat → Prop} {L' : List (Int × Int)} (hv : Kd.V (Kd.slice 82 k82) 41 W' w0.heap.size ok vs' [[], L'.map ent]) (hok : ∀ k, ok k → (k ≠ gs ∧ some k ≠ v6.ownBlock ∧ some k ≠ v7.ownBlock) ∨ W.heap.size ≤ k) : St w0 (W'.setCell ⟨gs, 0, none⟩ vs') gs vs' v6 v7 L' T V := by
  have h' := h.far hb
  have hok' : ∀ k, ok k → k ≠ gs ∧ some k ≠ v6.ownBlock ∧ some k ≠ v7.ownBlock := by
    intro k hk
    rcases hok k hk with h1 | h1
    · exact h1
    · refine ⟨fun e => ?_, fun e => ?_, fun e => ?_⟩
      · have := blk_lt h.box
        omega
      · have := (h.h6.lt k e.symm).1
        omega
      · have := (h.h7.lt k e.symm).1
        omega
  have hv' := Kd.V_far (p := ⟨gs, 0, none⟩) hv (fun k hk => (hok' k hk).1) vs'
  refine ⟨h'.below.setCell (p := ⟨gs, 0, none⟩) h.gsb _, h.gsb, ?_, Kd.V_mono hv' hok', h'.h6.move (fun k hk => Below.heap_setCell W' ⟨gs, 0, none⟩ _ k (fun e => h.ne6 (by rw [hk]; exact congrArg some e.symm))), h'.h7.move (fun k hk => Below.heap_setCell W' ⟨gs, 0, none⟩ _ k (fun e => h.ne7 (by rw [hk]; exact congrArg some e.symm))), h.n67⟩
  exact blk_set h'.box 0 vs'
/-- What a growth of one row leaves of all. -/
theorem St.grow6 (h : St w0 W gs vs v6 v7 L T V) {row : Option Nat} {v1 : Value} {T' : List Int} (hrow : row = v6.ownBlock ∨ row = none) (hg : W.grownBy W1 row) (ho : OI W1 w0.heap.size v1 T') (hat : v1.ownBlock = v6.ownBlock ∨ ∃ k, v1.ownBlock = some k ∧ W.heap.size ≤ k) : St w0 W1 gs vs v1 v7 L T' V := by
  have hr : ∀ k, some k ≠ v6.ownBlock → some k ≠ row := by
    intro k hk
    rcases hrow with rfl | rfl
    · exact hk
    · simp
  have hV := Kd.V_grown (Kd.V_bound h.hs) hg (fun k hk => hr k hk.1.2.1)
  refine ⟨h.below.grown hg h.base (fun k hk => ?_), h.gsb, blk_grown h.box hg (hr _ h.ne6), Kd.V_mono hV (fun k hk => ⟨hk.1.1, ?_, hk.1.2.2⟩), ho, h.h7.move (fun k hk => hg.block k (h.h7.lt k hk).1 (hr k (fun e => h.n67 k e.symm hk))), fun k hk => ?_⟩
  · rcases hrow with rfl | rfl
    · exact (h.h6.lt k hk).2
    · cases hk
  · rcases hat with e | ⟨b, e, hb⟩
    · rw [e]
      exact hk.1.2.1
    · rw [e]
      intro he
      injection he with he
      have := hk.2
      omega
  · rcases hat with e | ⟨b, e, hb⟩
    · exact h.n67 k (e ▸ hk)
    · intro h7
      have := (h.h7.lt k h7).1
      rw [e] at hk
      injection hk with hk
      omega
theorem St.grow7 (h : St w0 W gs vs v6 v7 L T V) {row : Option Nat} {v1 : Value} {V' : List Int} (hrow : row = v7.ownBlock ∨ row = none) (hg : W.grownBy W1 row) (ho : OI W1 w0.heap.size v1 V') (hat : v1.ownBlock = v7.ownBlock ∨ ∃ k, v1.ownBlock = some k ∧ W.heap.size ≤ k) : St w0 W1 gs vs v6 v1 L T V' := by
  have hr : ∀ k, some k ≠ v7.ownBlock → some k ≠ row := by
    intro k hk
    rcases hrow with rfl | rfl
    · exact hk
    · simp
  have hV := Kd.V_grown (Kd.V_bound h.hs) hg (fun k hk => hr k hk.1.2.2)
  refine ⟨h.below.grown hg h.base (fun k hk => ?_), h.gsb, blk_grown h.box hg (hr _ h.ne7), Kd.V_mono hV (fun k hk => ⟨hk.1.1, hk.1.2.1, ?_⟩), h.h6.move (fun k hk => hg.block k (h.h6.lt k hk).1 (hr k (fun e => h.n67 k hk e.symm))), ho, fun k hk => ?_⟩
  · rcases hrow with rfl | rfl
    · exact (h.h7.lt k hk).2
    · cases hk
  · rcases hat with e | ⟨b, e, hb⟩
    · rw [e]
      exact hk.1.2.2
    · rw [e]
      intro he
      injection he with he
      have := hk.2
      omega
  · rcases hat with e | ⟨b, e, hb⟩
    · rw [e]
      exact h.n67 k hk
    · intro h7
      have := (h.h6.lt k hk).1
      rw [e] at h7
      injection h7 with h7
      omega
theorem St.app6 (h : St w0 W gs vs v6 v7 L T V) {P : Program} (hu : P.underlying 28 = some (.slice 2)) (hinfo : (P.info? 2).map (fun i => (i.zero, i.size, i.bytes)) = some (some (.int .i64 0), 1, 8)) (ad : Addr) (c1 : Nat) (y : Int) (hc : W.cell? ad = some (.int .i64 y)) (hl : T.length ≤ 1000) (ty : TypeId) :
    ∃ v1 w1, (Builtin.append_ #[28, 28] ty #[v6, .slice (some ad) 1 c1]).run P W = .ok v1 w1 ∧ St w0 w1 gs vs v1 v7 L (T ++ [y]) V := by
  obtain ⟨v1, w1, hr, ho, hg, hat⟩ := h.h6.append hu hinfo ad c1 y hc h.base hl ty
  exact ⟨v1, w1, hr, h.grow6 (.inl rfl) hg ho hat⟩
theorem St.app7 (h : St w0 W gs vs v6 v7 L T V) {P : Program} (hu : P.underlying 28 = some (.slice 2)) (hinfo : (P.info? 2).map (fun i => (i.zero, i.size, i.bytes)) = some (some (.int .i64 0), 1, 8)) (ad : Addr) (c1 : Nat) (y : Int) (hc : W.cell? ad = some (.int .i64 y)) (hl : V.length ≤ 1000) (ty : TypeId) :
    ∃ v1 w1, (Builtin.append_ #[28, 28] ty #[v7, .slice (some ad) 1 c1]).run P W = .ok v1 w1 ∧ St w0 w1 gs vs v6 v1 L T (V ++ [y]) := by
  obtain ⟨v1, w1, hr, ho, hg, hat⟩ := h.h7.append hu hinfo ad c1 y hc h.base hl ty
  exact ⟨v1, w1, hr, h.grow7 (.inl rfl) hg ho hat⟩
theorem St.del6 {A : Option Addr} {n c : Nat} (h : St w0 W gs vs (.slice A n c) v7 L T V) {P : Program} (hu : P.underlying 28 = some (.slice 2)) (hinfo : (P.info? 2).map (fun i => (i.zero, i.size, i.bytes)) = some (some (.int .i64 0), 1, 8)) (k : Nat) (hk : k < T.length) (hl : T.length ≤ 1000) (ty : TypeId) :
    ∃ v1 w1, (Builtin.append_ #[28, 28] ty #[.slice A k k, .slice (if c = k + 1 then A else A.map (·.add ((k + 1) * 1))) (n - (k + 1)) (c - (k + 1))]).run P W = .ok v1 w1 ∧ St w0 w1 gs vs v1 v7 L (T.take k ++ T.drop (k + 1)) V := by
  obtain ⟨v1, w1, hr, ho, hg, hat⟩ := h.h6.del hu hinfo k hk h.base hl ty
  exact ⟨v1, w1, hr, h.grow6 (.inr rfl) hg ho hat⟩
theorem St.del7 {A : Option Addr} {n c : Nat} (h : St w0 W gs vs v6 (.slice A n c) L T V) {P : Program} (hu : P.underlying 28 = some (.slice 2)) (hinfo : (P.info? 2).map (fun i => (i.zero, i.size, i.bytes)) = some (some (.int .i64 0), 1, 8)) (k : Nat) (hk : k < V.length) (hl : V.length ≤ 1000) (ty : TypeId) :
    ∃ v1 w1, (Builtin.append_ #[28, 28] ty #[.slice A k k, .slice (if c = k + 1 then A else A.map (·.add ((k + 1) * 1))) (n - (k + 1)) (c - (k + 1))]).run P W = .ok v1 w1 ∧ St w0 w1 gs vs v6 v1 L T (V.take k ++ V.drop (k + 1)) := by
  obtain ⟨v1, w1, hr, ho, hg, hat⟩ := h.h7.del hu hinfo k hk h.base hl ty
  exact ⟨v1, w1, hr, h.grow7 (.inr rfl) hg ho hat⟩
/-- A box for a state, beside all. -/
structure Gd (w0 W : World) (gs g : Nat) (vs v6 v7 : Value) (L : List (Int × Int)) : Prop where
  hv : Kd.V (Kd.slice 82 k82) 41 W w0.heap.size (fun k => (k ≠ gs ∧ some k ≠ v6.ownBlock ∧ some k ≠ v7.ownBlock) ∧ k ≠ g) vs [[], L.map ent]
  hb : W.heap[g]? = some (.cells #[.slice none 0 0] 27 (0, 0))
  gb : w0.heap.size ≤ g
  ne : g ≠ gs
theorem St.gd (h : St w0 W gs vs v6 v7 L T V) : Gd w0 (W.alloc (.cells #[.slice none 0 0] 27)) gs W.heap.size vs v6 v7 L :=
  ⟨Kd.V_mono (Kd.V_alloc (Kd.V_bound h.hs) _) (fun k hk => ⟨hk.1, by have := hk.2; omega⟩), heap_alloc_new W _, h.base, by have := blk_lt h.box; omega⟩
theorem Gd.far {g : Nat} (h : Gd w0 W gs g vs v6 v7 L) (hb : Below W.heap.size W W1) : Gd w0 W1 gs g vs v6 v7 L :=
  ⟨Kd.V_below h.hv hb, blk_below h.hb hb, h.gb, h.ne⟩
theorem Gd.lt {g : Nat} (h : Gd w0 W gs g vs v6 v7 L) : g < W.heap.size := blk_lt h.hb
theorem St.fresh (h : St w0 W gs vs v6 v7 L T V) (k : Nat) (hk : W.heap.size ≤ k) : k ≠ gs ∧ some k ≠ v6.ownBlock ∧ some k ≠ v7.ownBlock := by
  refine ⟨fun e => ?_, fun e => ?_, fun e => ?_⟩
  · have := blk_lt h.box
    omega
  · have := (h.h6.lt k e.symm).1
    omega
  · have := (h.h7.lt k e.symm).1
    omega
theorem St.put_a (h : St w0 W gs vs v6 v7 L T V) {W' : World} {v0 : Value} {r1 : List (List S82)} (hN : Kd.N (Kd.slice 82 k82) 41 W' W.heap.size (fun k => (((k ≠ gs ∧ some k ≠ v6.ownBlock ∧ some k ≠ v7.ownBlock) ∨ False ∨ False) ∨ W.heap.size ≤ k)) v0 r1) : Kd.N (Kd.slice 82 k82) 41 W' w0.heap.size (fun k => (k ≠ gs ∧ some k ≠ v6.ownBlock ∧ some k ≠ v7.ownBlock)) v0 r1 :=
  Kd.N_mono (Kd.N_lower hN h.base) (fun k hk => by
    rcases hk with (hk | hk | hk) | hk
    · exact hk
    · exact hk.elim
    · exact hk.elim
    · exact h.fresh k hk)
theorem St.put_b (h : St w0 W gs vs v6 v7 L T V) {g : Nat} (hg : Gd w0 W gs g vs v6 v7 L) {W' : World} {v0 : Value} {r1 : List (List S82)} (hN : Kd.N (Kd.slice 82 k82) 41 W' W.heap.size (fun k => ((((k ≠ gs ∧ some k ≠ v6.ownBlock ∧ some k ≠ v7.ownBlock) ∧ k ≠ g) ∨ False ∨ False) ∨ W.heap.size ≤ k)) v0 r1) : Kd.N (Kd.slice 82 k82) 41 W' w0.heap.size (fun k => (k ≠ gs ∧ some k ≠ v6.ownBlock ∧ some k ≠ v7.ownBlock) ∧ k ≠ g) v0 r1 :=
  Kd.N_mono (Kd.N_lower hN h.base) (fun k hk => by
    rcases hk with (hk | hk | hk) | hk
    · exact hk
    · exact hk.elim
    · exact hk.elim
    · exact ⟨h.fresh k hk, by have := hg.lt; omega⟩)
theorem put_alloc {b : Nat} {ok : Nat → Prop} {v0 : Value} {r1 : List (List S82)} (hN : Kd.N (Kd.slice 82 k82) 41 W b ok v0 r1) (o : Obj) : Kd.N (Kd.slice 82 k82) 41 (W.alloc o) b (fun k => ok k ∧ k ≠ W.heap.size) v0 r1 :=
  Kd.N_alloc (Kd.N_mono (Kd.N_bound hN) (fun k hk => ⟨hk.1, by have := hk.2; omega⟩)) o
/-- What was put is stored into the box. -/
theorem St.boxed (h : St w0 W gs vs v6 v7 L T V) {g : Nat} (hg : Gd w0 W gs g vs v6 v7 L) {v0 : Value} {r1 : List (List S82)} (hN : Kd.N (Kd.slice 82 k82) 41 W w0.heap.size (fun k => (k ≠ gs ∧ some k ≠ v6.ownBlock ∧ some k ≠ v7.ownBlock) ∧ k ≠ g) v0 r1) :
    St w0 (W.setCell ⟨g, 0, none⟩ v0) gs vs v6 v7 L T V ∧ (W.setCell ⟨g, 0, none⟩ v0).heap[g]? = some (.cells #[v0] 27 (0, 0)) ∧ Kd.V (Kd.slice 82 k82) 41 (W.setCell ⟨g, 0, none⟩ v0) w0.heap.size (fun k => k ≠ gs ∧ some k ≠ v6.ownBlock ∧ some k ≠ v7.ownBlock) v0 r1 := by
  have n6 := h.h6.ne hg.hb (by decide)
  have n7 := h.h7.ne hg.hb (by decide)
  refine ⟨⟨h.below.setCell (p := ⟨g, 0, none⟩) hg.gb _, h.gsb, blk_far h.box (p := ⟨g, 0, none⟩) (Ne.symm hg.ne) _, ?_, h.h6.move (fun k hk => Below.heap_setCell W ⟨g, 0, none⟩ _ k (fun e => n6 (by rw [hk]; exact congrArg some e.symm))), h.h7.move (fun k hk => Below.heap_setCell W ⟨g, 0, none⟩ _ k (fun e => n7 (by rw [hk]; exact congrArg some e.symm))), h.n67⟩, blk_set hg.hb 0 v0, ?_⟩
  · exact Kd.V_mono (Kd.V_far (p := ⟨g, 0, none⟩) hg.hv (fun k hk => hk.2) _) (fun k hk => hk.1)
  · exact Kd.N_V (Kd.N_mono (Kd.N_far (p := ⟨g, 0, none⟩) hN (fun k hk => hk.2) _) (fun k hk => hk.1))
theorem V_empty (W : World) (b : Nat) (ok : Nat → Prop) (A : Option Addr) (c : Nat) : Kd.V k35 35 W b ok (.slice A ([] : List S35).length c) [] :=
  Kd.V_mk (Nat.zero_le _) (fun W' _ => ⟨rfl, by simp, fun h => absurd h (by simp)⟩)
theorem St.old (h : St w0 W gs vs v6 v7 L T V) {a : Addr} {u : Value} (hc : w0.cell? a = some u) : W.cell? a = some u := (h.below.cell (World.block_lt_of_cell? w0 _ hc)).trans hc
theorem num_v (x : Int) (W : World) : Calls Try.prog 11 #[.int .i64 x] W fun e w' => ∃ A c, e = .returned (.agg #[.int .i64 1, .int .i64 x, .string ⟨#[]⟩, .int .i64 0, .slice A ([] : List S35).length c]) ∧ Below W.heap.size W w' := by
  refine (windlasslaw4_num.calls x 1 x ⟨#[]⟩ 0 [] W rfl).mono ?_
  rintro e w' ⟨v, rfl, h, hb⟩
  obtain ⟨A, c, rfl⟩ := Kd.R_slice h
  exact ⟨A, c, rfl, hb⟩
theorem num_w {x : Int} (hx : wrap64 x = x) (W : World) : Calls Try.prog 11 #[.int .i64 (wrap64 x)] W fun e w' => ∃ A c, e = .returned (.agg #[.int .i64 1, .int .i64 x, .string ⟨#[]⟩, .int .i64 0, .slice A ([] : List S35).length c]) ∧ Below W.heap.size W w' := by
  rw [hx]
  exact num_v x W
end
theorem put_two {w0 W : World} {ok : Nat → Prop} {As : Option Addr} {cs : Nat} {L : List (Int × Int)} (hv : Kd.V (Kd.slice 82 k82) 41 W w0.heap.size ok (.slice As 2 cs) [[], L.map ent]) {ky i : Int} {Ak Av : Option Addr} {ck cv : Nat} {r1 : List (List S82)} {r2 : Int} (h : heap_Put.f 10 [[], L.map ent] 1 1 ky ⟨#[]⟩ 0 [] 1 i ⟨#[]⟩ 0 [] = some (r1, r2)) :
    Calls Try.prog 10 #[.agg #[.slice As 2 cs], .int .i64 1, .agg #[.int .i64 1, .int .i64 ky, .string ⟨#[]⟩, .int .i64 0, .slice Ak ([] : List S35).length ck], .agg #[.int .i64 1, .int .i64 i, .string ⟨#[]⟩, .int .i64 0, .slice Av ([] : List S35).length cv]] W fun e w' => ∃ v0_ : Value, e = .returned (.tuple #[.agg #[v0_], .int .i64 r2]) ∧ Kd.N (Kd.slice 82 k82) 41 w' W.heap.size (fun k_ => ((ok k_ ∨ False ∨ False) ∨ W.heap.size ≤ k_)) v0_ r1 ∧ Below W.heap.size W w' :=
  heap_Put.calls 10 ok As cs [[], L.map ent] 1 1 ky ⟨#[]⟩ 0 (fun _ => False) Ak ck [] 1 i ⟨#[]⟩ 0 (fun _ => False) Av cv [] r1 r2 W hv (V_empty _ _ _ _ _) (V_empty _ _ _ _ _) h
theorem del_two {w0 W : World} {ok : Nat → Prop} {As : Option Addr} {cs : Nat} {L : List (Int × Int)} (hv : Kd.V (Kd.slice 82 k82) 41 W w0.heap.size ok (.slice As 2 cs) [[], L.map ent]) {ky : Int} {Ak : Option Addr} {ck : Nat} {r : List (List S82)} (h : heap_Del.f 10 [[], L.map ent] 1 1 ky ⟨#[]⟩ 0 [] = some r) :
    Calls Try.prog 12 #[.agg #[.slice As 2 cs], .int .i64 1, .agg #[.int .i64 1, .int .i64 ky, .string ⟨#[]⟩, .int .i64 0, .slice Ak ([] : List S35).length ck]] W fun e w' => ∃ v0_ : Value, e = .returned (.agg #[v0_]) ∧ Kd.V (Kd.slice 82 k82) 41 w' W.heap.size (fun k_ => (ok k_ ∨ W.heap.size ≤ k_)) v0_ r ∧ Below W.heap.size W w' :=
  heap_Del.calls 10 ok As cs [[], L.map ent] 1 1 ky ⟨#[]⟩ 0 Ak ck [] r W hv (Kd.V_reads' (V_empty W W.heap.size ok Ak ck)).2.2 (Nat.zero_le _) h
theorem first_two {w0 W : World} {ok : Nat → Prop} {As : Option Addr} {cs : Nat} {L : List (Int × Int)} (hv : Kd.V (Kd.slice 82 k82) 41 W w0.heap.size ok (.slice As 2 cs) [[], L.map ent]) {r1 r2 : Int} {r3 : ByteArray} {r4 : Int} {r5 : List S35} {r6 : Bool} (h : heap_First.f [[], L.map ent] 1 = some (r1, r2, r3, r4, r5, r6)) :
    Calls Try.prog 13 #[.agg #[.slice As 2 cs], .int .i64 1] W fun e w' => ∃ v4_ : Value, e = .returned (.tuple #[.agg #[.int .i64 r1, .int .i64 r2, .string r3, .int .i64 r4, v4_], .bool r6]) ∧ Kd.V k35 35 w' W.heap.size (fun k_ => (ok k_ ∨ W.heap.size ≤ k_)) v4_ r5 ∧ Below W.heap.size W w' :=
  heap_First.calls ok As cs [[], L.map ent] 1 r1 r2 r3 r4 r5 r6 W hv h
theorem next_two {w0 W : World} {ok : Nat → Prop} {As : Option Addr} {cs : Nat} {L : List (Int × Int)} (hv : Kd.V (Kd.slice 82 k82) 41 W w0.heap.size ok (.slice As 2 cs) [[], L.map ent]) {ky : Int} {Ak : Option Addr} {ck : Nat} {r1 r2 : Int} {r3 : ByteArray} {r4 : Int} {r5 : List S35} {r6 : Bool} (h : heap_Next.f 10 [[], L.map ent] 1 1 ky ⟨#[]⟩ 0 [] = some (r1, r2, r3, r4, r5, r6)) :
    Calls Try.prog 15 #[.agg #[.slice As 2 cs], .int .i64 1, .agg #[.int .i64 1, .int .i64 ky, .string ⟨#[]⟩, .int .i64 0, .slice Ak ([] : List S35).length ck]] W fun e w' => ∃ v4_ : Value, e = .returned (.tuple #[.agg #[.int .i64 r1, .int .i64 r2, .string r3, .int .i64 r4, v4_], .bool r6]) ∧ Kd.V k35 35 w' W.heap.size (fun k_ => (ok k_ ∨ W.heap.size ≤ k_)) v4_ r5 ∧ Below W.heap.size W w' :=
  heap_Next.calls 10 ok As cs [[], L.map ent] 1 1 ky ⟨#[]⟩ 0 Ak ck [] r1 r2 r3 r4 r5 r6 W hv (Kd.V_reads' (V_empty W W.heap.size ok Ak ck)).2.2 (Nat.zero_le _) h
theorem get_two {w0 W : World} {ok : Nat → Prop} {As : Option Addr} {cs : Nat} {L : List (Int × Int)} (hv : Kd.V (Kd.slice 82 k82) 41 W w0.heap.size ok (.slice As 2 cs) [[], L.map ent]) {ky : Int} {Ak : Option Addr} {ck : Nat} {r1 r2 : Int} {r3 : ByteArray} {r4 : Int} {r5 : List S35} {r6 : Bool} (h : heap_Get.f 10 [[], L.map ent] 1 1 ky ⟨#[]⟩ 0 [] = some (r1, r2, r3, r4, r5, r6)) :
    Calls Try.prog 14 #[.agg #[.slice As 2 cs], .int .i64 1, .agg #[.int .i64 1, .int .i64 ky, .string ⟨#[]⟩, .int .i64 0, .slice Ak ([] : List S35).length ck]] W fun e w' => ∃ v4_ : Value, e = .returned (.tuple #[.agg #[.int .i64 r1, .int .i64 r2, .string r3, .int .i64 r4, v4_], .bool r6]) ∧ Kd.V k35 35 w' W.heap.size (fun k_ => (ok k_ ∨ W.heap.size ≤ k_)) v4_ r5 ∧ Below W.heap.size W w' :=
  heap_Get.calls 10 ok As cs [[], L.map ent] 1 1 ky ⟨#[]⟩ 0 Ak ck [] r1 r2 r3 r4 r5 r6 W hv (Kd.V_reads' (V_empty W W.heap.size ok Ak ck)).2.2 (Nat.zero_le _) h
section
variable {w0 W : World} {gs : Nat} {vs v6 v7 : Value} {L : List (Int × Int)} {T V : List Int}
variable {ops : Array Oper} {rest : List Oper} {o : Oper} {a : Act} {Q : Exit → Act → World → Prop} {Kc : Act → World → Prop}
theorem append_w (hgd : o.guard = none) (s x : Operand) (ho : o.op = .call { callee := .builtin .append, args := #[s, x], argTypes := #[28, 28] }) {v1 u u' : Value} {w1 : World} (hs : a.eval s = u) (hx : a.eval x = u') (hr : (Builtin.append_ #[28, 28] o.type #[u, u']).run Try.prog W = .ok v1 w1)
    (hk : wpList Try.prog ops Q rest (a.put o.dst v1) w1) : wpList Try.prog ops Q (o :: rest) a W := by
  refine wpList_plain hgd fun K hK => ?_
  unfold Oper.wp execOp
  simp only [ho, resolve, invoke, builtin, Sem.run_bind, Sem.run_pure, Result.andThen_ok, List.map_toArray, List.map_cons, List.map_nil, hs, hx, hr]
  exact hK _ _ hk
theorem append_s (hw : Region.wanted o (yielded ops a.tmps) = true) (s x : Operand) (ho : o.op = .call { callee := .builtin .append, args := #[s, x], argTypes := #[28, 28] }) {v1 u u' : Value} {w1 : World} (hs : a.eval s = u) (hx : a.eval x = u') (hr : (Builtin.append_ #[28, 28] o.type #[u, u']).run Try.prog W = .ok v1 w1)
    (hk : Kc (a.put o.dst v1) w1) : if Region.wanted o (yielded ops a.tmps) = true then Oper.wp Try.prog o a W Kc Q else Kc (a.put o.dst undef) W := by
  rw [if_pos hw]
  unfold Oper.wp execOp
  simp only [ho, resolve, invoke, builtin, Sem.run_bind, Sem.run_pure, Result.andThen_ok, List.map_toArray, List.map_cons, List.map_nil, hs, hx, hr]
  exact hk
theorem St.app6_w (h : St w0 W gs vs v6 v7 L T V) (hgd : o.guard = none) (s x : Operand) (ho : o.op = .call { callee := .builtin .append, args := #[s, x], argTypes := #[28, 28] }) (hs : a.eval s = v6) {y : Int} {n : Nat} (hx : a.eval x = .slice (some ⟨n, 0, none⟩) 1 1) (hn : n = W.heap.size) (hl : T.length ≤ 1000)
    (hk : ∀ v1 w1, St w0 w1 gs vs v1 v7 L (T ++ [y]) V → wpList Try.prog ops Q rest (a.put o.dst v1) w1) : wpList Try.prog ops Q (o :: rest) a (W.alloc (.cells #[.int .i64 y] 2)) := by
  subst hn
  obtain ⟨v1, w1, hr, hs1⟩ := (h.far (below_alloc (Below.refl _ _) (.cells #[.int .i64 y] 2))).app6 Try.underlying28 info2 ⟨W.heap.size, 0, none⟩ 1 y ((blk_cell (heap_alloc_new W _) 0).trans rfl) hl o.type
  exact append_w hgd s x ho hs hx hr (hk v1 w1 hs1)
theorem St.app7_w (h : St w0 W gs vs v6 v7 L T V) (hgd : o.guard = none) (s x : Operand) (ho : o.op = .call { callee := .builtin .append, args := #[s, x], argTypes := #[28, 28] }) (hs : a.eval s = v7) {y : Int} {n : Nat} (hx : a.eval x = .slice (some ⟨n, 0, none⟩) 1 1) (hn : n = W.heap.size) (hl : V.length ≤ 1000)
    (hk : ∀ v1 w1, St w0 w1 gs vs v6 v1 L T (V ++ [y]) → wpList Try.prog ops Q rest (a.put o.dst v1) w1) : wpList Try.prog ops Q (o :: rest) a (W.alloc (.cells #[.int .i64 y] 2)) := by
  subst hn
  obtain ⟨v1, w1, hr, hs1⟩ := (h.far (below_alloc (Below.refl _ _) (.cells #[.int .i64 y] 2))).app7 Try.underlying28 info2 ⟨W.heap.size, 0, none⟩ 1 y ((blk_cell (heap_alloc_new W _) 0).trans rfl) hl o.type
  exact append_w hgd s x ho hs hx hr (hk v1 w1 hs1)
end
theorem cut_a (A : Option Addr) (n c k : Nat) (hk : k < n) (hc : n ≤ c) (W : World) : (Instr.slice 28 (.slice A n c) none (some (.int .i64 (k : Int))) (some (.int .i64 (k : Int)))).run Try.prog W = .ok (.slice A k k) W := by
  obtain ⟨i02, hi02, _, hsz02, _⟩ := info_parts info2
  have h_ := cut_full (P := Try.prog) 28 2 .i64 .i64 Try.underlying28 hi02 A n c (k : Int) (by omega) (by omega) hc W
  simpa using h_
theorem cut_b (A : Option Addr) (n c k : Nat) (hk : k < n) : ∃ B : Option Addr, B = (if c = k + 1 then A else A.map (·.add ((k + 1) * 1))) ∧ ∀ W : World, (Instr.slice 28 (.slice A n c) (some (.int .i64 ((k : Int) + 1))) none none).run Try.prog W = .ok (.slice B (n - (k + 1)) (c - (k + 1))) W := by
  obtain ⟨i02, hi02, _, hsz02, _⟩ := info_parts info2
  refine ⟨_, rfl, fun W => ?_⟩
  have h_ := cut_from (P := Try.prog) 28 2 .i64 Try.underlying28 hi02 1 hsz02 A n c ((k : Int) + 1) (by omega) (by omega) W
  rw [show ((k : Int) + 1).toNat = k + 1 from by omega] at h_
  exact h_
theorem St.init {w0 w1 : World} (hb : Below w0.heap.size w0 w1) : St w0 ((w1.alloc (.cells #[.slice none 0 0, .slice none 0 0] 41)).alloc (.cells #[.slice (some ⟨w1.heap.size, 0, none⟩) 2 2] 27)) (w1.heap.size + 1) (.slice (some ⟨w1.heap.size, 0, none⟩) 2 2) (.slice none 0 0) (.slice none 0 0) [] [] [] := by
  have h1 : ((w1.alloc (.cells #[.slice none 0 0, .slice none 0 0] 41)).alloc (.cells #[.slice (some ⟨w1.heap.size, 0, none⟩) 2 2] 27)).heap[w1.heap.size]? = some (.cells #[.slice none 0 0, .slice none 0 0] 41 (0, 0)) := blk_alloc (World.alloc_heap_new w1 _) _
  refine ⟨(hb.alloc hb.size _).alloc (by have := hb.size; simp; omega) _, by have := hb.size; omega, ?_, ?_, .inl ⟨rfl, rfl⟩, .inl ⟨rfl, rfl⟩, fun k hk => by simp [Value.ownBlock] at hk⟩
  · have h_ := World.alloc_heap_new (w1.alloc (.cells #[.slice none 0 0, .slice none 0 0] 41)) (.cells #[.slice (some ⟨w1.heap.size, 0, none⟩) 2 2] 27)
    rwa [World.size_alloc] at h_
  · have e0 : SE ((w1.alloc (.cells #[.slice none 0 0, .slice none 0 0] 41)).alloc (.cells #[.slice (some ⟨w1.heap.size, 0, none⟩) 2 2] 27)) (fun _ => False) := ⟨[], none, 0, Nat.le_refl _, Kd.F_nil _ _ _⟩
    exact Kd.N_V (N_of_se (ok := fun k => k ≠ w1.heap.size + 1 ∧ some k ≠ (Value.slice none 0 0).ownBlock ∧ some k ≠ (Value.slice none 0 0).ownBlock) [(⟨[], none, 0, Nat.le_refl _, Kd.F_nil _ _ _⟩ : SE ((w1.alloc (.cells #[.slice none 0 0, .slice none 0 0] 41)).alloc (.cells #[.slice (some ⟨w1.heap.size, 0, none⟩) 2 2] 27)) (fun _ => False)), ⟨[], none, 0, Nat.le_refl _, Kd.F_nil _ _ _⟩] _ h1 rfl rfl hb.size ⟨by omega, by simp [Value.ownBlock], by simp [Value.ownBlock]⟩ (Nat.le_refl _) (by simp [maxLen]) (fun k hk => hk.elim))
/-- The box of the key that is looked at. -/
structure Kb (w0 W : World) (gs bk : Nat) (vs v6 v7 : Value) (L : List (Int × Int)) (cells : Array Value) : Prop where
  hv : Kd.V (Kd.slice 82 k82) 41 W w0.heap.size (fun k => (k ≠ gs ∧ some k ≠ v6.ownBlock ∧ some k ≠ v7.ownBlock) ∧ k ≠ bk) vs [[], L.map ent]
  hb : W.heap[bk]? = some (.cells cells 35 (0, 0))
  bb : w0.heap.size ≤ bk
section
variable {w0 W W1 : World} {gs bk : Nat} {vs v6 v7 : Value} {L : List (Int × Int)} {T V : List Int}
theorem St.kb (h : St w0 W gs vs v6 v7 L T V) (hbk : bk = W.heap.size) (hb : Below W.heap.size W W1) {cells : Array Value} (hbox : W1.heap[bk]? = some (.cells cells 35 (0, 0))) : Kb w0 W1 gs bk vs v6 v7 L cells :=
  ⟨Kd.V_mono (Kd.V_below (Kd.V_bound h.hs) hb) (fun k hk => ⟨hk.1, by have := hk.2; omega⟩), hbox, by rw [hbk]; exact h.base⟩
theorem Kb.far {cells : Array Value} (h : Kb w0 W gs bk vs v6 v7 L cells) (hb : Below W.heap.size W W1) : Kb w0 W1 gs bk vs v6 v7 L cells := ⟨Kd.V_below h.hv hb, blk_below h.hb hb, h.bb⟩
theorem set5_at {W : World} {g k : Nat} (hne : k ≠ g) (v0 v1 v2 v3 v4 : Value) : (set5 W g v0 v1 v2 v3 v4).heap[k]? = W.heap[k]? := by
  have hs := fun (X : World) (p : Addr) (u : Value) (hp : p.block = g) => Below.heap_setCell X p u k (by rw [hp]; exact hne)
  rw [hs _ _ _ rfl, hs _ _ _ rfl, hs _ _ _ rfl, hs _ _ _ rfl, hs _ _ _ rfl]
theorem Kb.put5 {u0 u1 u2 u3 u4 : Value} (hk : Kb w0 W gs bk vs v6 v7 L #[u0, u1, u2, u3, u4]) (h : St w0 W gs vs v6 v7 L T V) (x0 x1 x2 x3 x4 : Value) : St w0 (set5 W bk x0 x1 x2 x3 x4) gs vs v6 v7 L T V ∧ Kb w0 (set5 W bk x0 x1 x2 x3 x4) gs bk vs v6 v7 L #[x0, x1, x2, x3, x4] := by
  have n6 := h.h6.ne hk.hb (by decide)
  have n7 := h.h7.ne hk.hb (by decide)
  have ng : gs ≠ bk := by
    intro e
    have h1 := h.box
    rw [e, hk.hb] at h1
    injection h1 with h1
    injection h1 with _ h1
    exact absurd h1 (by decide)
  have hV := Kd.V_step hk.hv (w1 := set5 W bk x0 x1 x2 x3 x4) (fun k hk _ => set5_at hk.2 x0 x1 x2 x3 x4)
  refine ⟨⟨set5_below h.below hk.bb _ _ _ _ _, h.gsb, set5_far h.box ng _ _ _ _ _, Kd.V_mono hV (fun k hk => hk.1), h.h6.move (fun k hk => set5_at (fun e => n6 (by rw [hk, e])) _ _ _ _ _), h.h7.move (fun k hk => set5_at (fun e => n7 (by rw [hk, e])) _ _ _ _ _), h.n67⟩, hV, set5_blk hk.hb _ _ _ _ _, hk.bb⟩
theorem St.first (h : St w0 W gs vs v6 v7 L T V) {ad : Addr} {cs : Nat} (hvs : vs = .slice (some ad) 2 cs) : ∃ A c, W.cell? ad = some (.slice A 0 c) := by
  subst hvs
  obtain ⟨_, _, hF⟩ := Kd.V_at h.hs
  obtain ⟨ad', cs', e, hcl, hK, hcc, _⟩ := Kd.F_get hF ([] : List S82) 0 (by omega) (by simp)
  injection e with e
  subst e
  obtain ⟨Am, cm, rfl, hle, hFm⟩ := Kd.FK_slice_open hK
  have h0 := hcc 0 _ rfl
  refine ⟨Am, cm, ?_⟩
  simpa [Addr.add] using h0
end
end Go.Proofs.Ytnokieaebnmljaa.PAll
namespace Go.Proofs.Ytnokieaebnmljaa.PAll
open Go Go.Proofs Go.RowKit Go.Shelf Go.Proofs.YtnokieaebnmljaaW.PrintWords Go.Proofs.YtnokieaebnmljaaW.PrintLast Go.Proofs.YtnokieaebnmljaaW.PrintMore
set_option linter.unusedVariables false
set_option linter.unusedSimpArgs false
/-- What HeapOrders' rows of keys and of values say of the map. -/
structure Inv (L : List (Int × Int)) (T V : List Int) : Prop where
  rises : Rises L
  lt : T.length = L.length
  lv : V.length = L.length
  le : L.length ≤ 24
  nodup : T.Nodup
  mem : ∀ a b, (a, b) ∈ L ↔ ∃ j : Nat, T[j]? = some a ∧ V[j]? = some b
section
variable {L : List (Int × Int)} {T V : List Int}
theorem Inv.nil : Inv [] [] [] := ⟨trivial, rfl, rfl, by simp, List.nodup_nil, by simp⟩
theorem Inv.key (h : Inv L T V) (k : Int) : hasL L k ↔ k ∈ T := by
  constructor
  · rintro ⟨⟨a, b⟩, hp, rfl⟩
    obtain ⟨j, h1, _⟩ := (h.mem a b).1 hp
    exact List.mem_of_getElem? h1
  · intro hk
    obtain ⟨j, hj, rfl⟩ := List.mem_iff_getElem.1 hk
    have hv : j < V.length := by rw [h.lv, ← h.lt]; exact hj
    exact ⟨(T[j], V[j]), (h.mem _ _).2 ⟨j, List.getElem?_eq_getElem hj, List.getElem?_eq_getElem hv⟩, rfl⟩
theorem Inv.idx (h : Inv L T V) {i j : Nat} {a : Int} (hi : T[i]? = some a) (hj : T[j]? = some a) : i = j := by
  obtain ⟨h1, h2⟩ := List.getElem?_eq_some_iff.1 hi
  obtain ⟨h3, h4⟩ := List.getElem?_eq_some_iff.1 hj
  have hp := List.pairwise_iff_getElem.1 h.nodup
  rcases Nat.lt_trichotomy i j with hij | hij | hij
  · exact absurd (h2.trans h4.symm) (hp i j h1 h3 hij)
  · exact hij
  · exact absurd (h4.trans h2.symm) (hp j i h3 h1 hij)
/-- A new key is put in. -/
theorem Inv.new (h : Inv L T V) (k v : Int) (hk : k ∉ T) (hl : T.length < 24) : Inv (putL L k v) (T ++ [k]) (V ++ [v]) := by
  have hno : ¬ ∃ p ∈ L, p.1 = k := fun hh => hk ((h.key k).1 hh)
  have hlen : (putL L k v).length = L.length + 1 := by rw [len_putL k v L h.rises, if_neg hno]
  refine ⟨rises_putL k v L h.rises, by simp [hlen, h.lt], by simp [hlen, h.lv], by rw [hlen, ← h.lt]; omega, ?_, ?_⟩
  · rw [List.nodup_append]
    exact ⟨h.nodup, by simp, by
      intro a ha b hb
      rw [List.mem_singleton] at hb
      subst hb
      intro e
      subst e
      exact hk ha⟩
  · intro a b
    rw [mem_putL k v L h.rises]
    have hTV : T.length = V.length := by rw [h.lt, h.lv]
    constructor
    · rintro (h1 | ⟨h1, h2⟩)
      · injection h1 with h1 h2
        subst h1
        subst h2
        exact ⟨T.length, by simp, by rw [hTV]; simp⟩
      · obtain ⟨j, h3, h4⟩ := (h.mem a b).1 h1
        have hj := (List.getElem?_eq_some_iff.1 h3).1
        exact ⟨j, by rw [List.getElem?_append_left hj]; exact h3, by rw [List.getElem?_append_left (by omega)]; exact h4⟩
    · rintro ⟨j, h3, h4⟩
      by_cases hj : j < T.length
      · rw [List.getElem?_append_left hj] at h3
        rw [List.getElem?_append_left (by omega)] at h4
        refine .inr ⟨(h.mem a b).2 ⟨j, h3, h4⟩, ?_⟩
        intro e
        simp only at e
        subst e
        exact hk (List.mem_of_getElem? h3)
      · rw [List.getElem?_append_right (by omega)] at h3
        rw [List.getElem?_append_right (by omega)] at h4
        obtain ⟨h5, h6⟩ := List.getElem?_eq_some_iff.1 h3
        simp at h5
        have h5' : j - T.length = 0 := by omega
        rw [h5'] at h3
        rw [show j - V.length = 0 by omega] at h4
        simp at h3 h4
        subst h3
        subst h4
        exact .inl rfl
/-- A key that is there is put in again. -/
theorem Inv.again (h : Inv L T V) (k v : Int) (m : Nat) (hm : T[m]? = some k) : Inv (putL L k v) T (V.set m v) := by
  have hyes : ∃ p ∈ L, p.1 = k := (h.key k).2 (List.mem_of_getElem? hm)
  have hlen : (putL L k v).length = L.length := by rw [len_putL k v L h.rises, if_pos hyes]
  have hml := (List.getElem?_eq_some_iff.1 hm).1
  have hmv : m < V.length := by rw [h.lv, ← h.lt]; exact hml
  refine ⟨rises_putL k v L h.rises, by rw [hlen, h.lt], by rw [hlen, List.length_set, h.lv], by rw [hlen]; exact h.le, h.nodup, ?_⟩
  intro a b
  rw [mem_putL k v L h.rises]
  constructor
  · rintro (h1 | ⟨h1, h2⟩)
    · injection h1 with h1 h2
      subst h1
      subst h2
      exact ⟨m, hm, by simp [hmv]⟩
    · obtain ⟨j, h3, h4⟩ := (h.mem a b).1 h1
      have hne : m ≠ j := by
        intro e
        subst e
        rw [hm] at h3
        injection h3 with h3
        exact h2 h3.symm
      exact ⟨j, h3, by rw [List.getElem?_set_ne hne]; exact h4⟩
  · rintro ⟨j, h3, h4⟩
    by_cases hmj : m = j
    · subst hmj
      rw [hm] at h3
      injection h3 with h3
      simp [hmv] at h4
      subst h3
      subst h4
      exact .inl rfl
    · rw [List.getElem?_set_ne hmj] at h4
      refine .inr ⟨(h.mem a b).2 ⟨j, h3, h4⟩, ?_⟩
      intro e
      simp only at e
      subst e
      exact hmj (h.idx hm h3)
/-- One is taken out. -/
theorem Inv.out (h : Inv L T V) (k : Nat) {x : Int} (hk : T[k]? = some x) : Inv (delL L x) (T.take k ++ T.drop (k + 1)) (V.take k ++ V.drop (k + 1)) := by
  have hyes : hasL L x := (h.key x).2 (List.mem_of_getElem? hk)
  have hlen := len_delL x L hyes
  have hkl := (List.getElem?_eq_some_iff.1 hk).1
  have hkv : k < V.length := by rw [h.lv, ← h.lt]; exact hkl
  rw [← List.eraseIdx_eq_take_drop_succ, ← List.eraseIdx_eq_take_drop_succ]
  have e1 : (T.eraseIdx k).length = T.length - 1 := List.length_eraseIdx_of_lt hkl
  have e2 : (V.eraseIdx k).length = V.length - 1 := List.length_eraseIdx_of_lt hkv
  refine ⟨rises_delL x L h.rises, by rw [e1, h.lt]; omega, by rw [e2, h.lv]; omega, by have := h.le; omega, h.nodup.sublist (List.eraseIdx_sublist _ _), ?_⟩
  intro a b
  rw [mem_delL x L h.rises]
  constructor
  · rintro ⟨h1, h2⟩
    obtain ⟨j, h3, h4⟩ := (h.mem a b).1 h1
    rcases Nat.lt_trichotomy j k with hj | hj | hj
    · exact ⟨j, by rw [List.getElem?_eraseIdx_of_lt hj]; exact h3, by rw [List.getElem?_eraseIdx_of_lt hj]; exact h4⟩
    · subst hj
      rw [hk] at h3
      injection h3 with h3
      exact absurd h3.symm h2
    · refine ⟨j - 1, ?_, ?_⟩
      · rw [List.getElem?_eraseIdx_of_ge (by omega), show j - 1 + 1 = j by omega]; exact h3
      · rw [List.getElem?_eraseIdx_of_ge (by omega), show j - 1 + 1 = j by omega]; exact h4
  · rintro ⟨j, h3, h4⟩
    by_cases hj : j < k
    · rw [List.getElem?_eraseIdx_of_lt hj] at h3 h4
      refine ⟨(h.mem a b).2 ⟨j, h3, h4⟩, ?_⟩
      intro e
      simp only at e
      subst e
      have := h.idx hk h3
      omega
    · rw [List.getElem?_eraseIdx_of_ge (by omega)] at h3 h4
      refine ⟨(h.mem a b).2 ⟨j + 1, h3, h4⟩, ?_⟩
      intro e
      simp only at e
      subst e
      have := h.idx hk h3
      omega
end
/-- What the search for a key has found among the first k. -/
def Found (T : List Int) (x : Int) (k : Nat) (m : Int) : Prop := (m = -1 ∧ ∀ j < k, T[j]? ≠ some x) ∨ (∃ j : Nat, m = (j : Int) ∧ j < k ∧ T[j]? = some x)
theorem Found.zero (T : List Int) (x : Int) : Found T x 0 (-1) := .inl ⟨rfl, by simp⟩
theorem Found.hit {T : List Int} {x : Int} {k : Nat} (hk : T[k]? = some x) : Found T x (k + 1) (k : Int) := .inr ⟨k, rfl, by omega, hk⟩
theorem Found.miss {T : List Int} {x : Int} {k : Nat} {m : Int} (h : Found T x k m) {y : Int} (hk : T[k]? = some y) (hne : y ≠ x) : Found T x (k + 1) m := by
  rcases h with ⟨h1, h2⟩ | ⟨j, h1, h2, h3⟩
  · refine .inl ⟨h1, fun j hj => ?_⟩
    rcases Nat.lt_or_ge j k with h | h
    · exact h2 j h
    · obtain rfl : j = k := by omega
      rw [hk]
      intro e
      injection e with e
      exact hne e
  · exact .inr ⟨j, h1, by omega, h3⟩
theorem Found.done {T : List Int} {x : Int} {m : Int} (h : Found T x T.length m) : (m = -1 ∧ x ∉ T) ∨ ∃ j : Nat, m = (j : Int) ∧ j < T.length ∧ T[j]? = some x := by
  rcases h with ⟨h1, h2⟩ | h
  · refine .inl ⟨h1, fun hx => ?_⟩
    obtain ⟨j, hj, e⟩ := List.mem_iff_getElem.1 hx
    exact h2 j hj (by rw [List.getElem?_eq_getElem hj, e])
  · exact .inr h
theorem next_i (j : Nat) (h : j ≤ 1000) : Value.int .i64 (wrap64 ((j : Int) + 1)) = .int .i64 ((j + 1 : Nat) : Int) := by
  rw [wrap_in _ (by omega)]
  rfl
theorem tmod_nat (x : Int) (n : Nat) (h0 : 0 ≤ x) (hn : 0 < n) : ∃ k : Nat, x.tmod (n : Int) = (k : Int) ∧ k < n := by
  refine ⟨(x.tmod (n : Int)).toNat, ?_, ?_⟩
  · have := Int.tmod_nonneg (n : Int) h0
    omega
  · have h1 := Int.tmod_lt_of_pos x (b := (n : Int)) (by omega)
    have h2 := Int.tmod_nonneg (n : Int) h0
    omega
theorem Inv.wraps {L : List (Int × Int)} {T V : List Int} (h : Inv L T V) {k : Nat} (hk : k < T.length) : wrap64 (k : Int) = (k : Int) ∧ wrap64 ((k : Int) + 1) = (k : Int) + 1 := by
  have h1_ := h.le
  have h2_ := h.lt
  exact ⟨wrap_in _ (by omega), wrap_in _ (by omega)⟩
theorem Inv.kv {L : List (Int × Int)} {T V : List Int} (h : Inv L T V) {k : Nat} (hk : k < T.length) : k < V.length := by
  have h1_ := h.lv
  have h2_ := h.lt
  omega
theorem Inv.t1000 {L : List (Int × Int)} {T V : List Int} (h : Inv L T V) : T.length ≤ 1000 ∧ V.length ≤ 1000 := by
  have h0_ := h.le
  have h1_ := h.lv
  have h2_ := h.lt
  omega
theorem nz_beq {n : Nat} (h : 0 < n) : ((n : Int) == 0) = false ∧ (n == 0) = false := by
  rw [beq_eq_false_iff_ne, beq_eq_false_iff_ne]
  omega
theorem rd_mem (x : List Int) (i : Nat) (h : i < x.length) : rd x (i : Int) ∈ x := by
  unfold rd
  rw [Int.toNat_natCast, List.getD_eq_getElem?_getD, List.getElem?_eq_getElem h]
  exact List.getElem_mem h
theorem wf16 (y : Int) (h : (Lit.int .i16 y).wf = true) : -32768 ≤ y ∧ y ≤ 32767 := by
  simp [Lit.wf] at h
  exact ⟨Int.le_trans (by decide) h.1, Int.le_trans h.2 (by decide)⟩
theorem wf8 (y : Int) (h : (Lit.int .u8 y).wf = true) : 0 ≤ y ∧ y ≤ 255 := by
  simp [Lit.wf] at h
  exact ⟨Int.le_trans (by decide) h.1, Int.le_trans h.2 (by decide)⟩
theorem put_step {L : List (Int × Int)} {T V : List Int} (h : Inv L T V) {ky m : Int} (hm : Found T ky T.length m) (i : Int) :
    (m = -1 ∧ ky ∉ T ∧ T.length = 24 ∧ heap_Put.f 10 [[], L.map ent] 1 1 ky ⟨#[]⟩ 0 [] 1 i ⟨#[]⟩ 0 [] = some ([], 41)) ∨
    (m = -1 ∧ ky ∉ T ∧ T.length < 24 ∧ heap_Put.f 10 [[], L.map ent] 1 1 ky ⟨#[]⟩ 0 [] 1 i ⟨#[]⟩ 0 [] = some ([[], (putL L ky i).map ent], 0)) ∨
    (∃ j : Nat, m = (j : Int) ∧ j < T.length ∧ T[j]? = some ky ∧ heap_Put.f 10 [[], L.map ent] 1 1 ky ⟨#[]⟩ 0 [] 1 i ⟨#[]⟩ 0 [] = some ([[], (putL L ky i).map ent], 0)) := by
  obtain ⟨p1, p2⟩ := put_f L ky i h.rises h.le
  rcases hm.done with ⟨h1, h2⟩ | ⟨j, h1, h2, h3⟩
  · have hn : ¬ hasL L ky := fun hh => h2 ((h.key ky).1 hh)
    by_cases h24 : T.length = 24
    · exact .inl ⟨h1, h2, h24, p2 hn (by rw [← h.lt]; exact h24)⟩
    · have hl : T.length < 24 := by have h1_ := h.lt; have h2_ := h.le; omega
      exact .inr (.inl ⟨h1, h2, hl, p1 (.inr (by rw [← h.lt]; exact hl))⟩)
  · exact .inr (.inr ⟨j, h1, h2, h3, p1 (.inl ((h.key ky).2 (List.mem_of_getElem? h3)))⟩)
theorem wrap8 (y : Int) (h : 0 ≤ y ∧ y ≤ 255) : wrap64 y = y := wrap_in _ (by omega)
/-- The second walk: what stands from a place on. -/
def restOf (B : List (Int × Int)) : Int × Int × ByteArray × Int × List S35 × Bool :=
  match B with
  | [] => (0, 0, ⟨#[]⟩, 0, [], false)
  | p :: _ => (1, p.1, ⟨#[]⟩, 0, [], true)
theorem rises_mid {p : Int × Int} {B : List (Int × Int)} : ∀ {A : List (Int × Int)}, Rises (A ++ p :: B) → (∀ q ∈ A, q.1 < p.1) ∧ (∀ q ∈ B, p.1 < q.1)
  | [], h => ⟨by simp, h.1⟩
  | a :: A, h => by
    obtain ⟨h1, h2⟩ := rises_mid (A := A) h.2
    refine ⟨fun q hq => ?_, h2⟩
    rcases List.mem_cons.1 hq with rfl | hq
    · exact h.1 p (by simp)
    · exact h1 q hq
theorem first_rest (L : List (Int × Int)) : heap_First.f [[], L.map ent] 1 = some (restOf L) := by
  unfold heap_First.f
  cases L with
  | nil => simp [mapOf, rd_L5, restOf]
  | cons p t => simp [mapOf, rd_L5, restOf, ent, numS]
theorem next_rest {A B : List (Int × Int)} {p : Int × Int} (h : Rises (A ++ p :: B)) : heap_Next.f 10 [[], (A ++ p :: B).map ent] 1 1 p.1 ⟨#[]⟩ 0 [] = some (restOf B) := by
  obtain ⟨h1, h2⟩ := rises_mid h
  rw [next_f, show A ++ p :: B = (A ++ [p]) ++ B by simp, next_num p.1 (A ++ [p]) B (by
    intro q hq
    rcases List.mem_append.1 hq with hq | hq
    · have := h1 q hq; omega
    · simp at hq; subst hq; omega)]
  cases B with
  | nil => rfl
  | cons b t =>
    have hb := h2 b (by simp)
    simp only [List.map_cons, nextOf, cval_num, restOf]
    rw [if_pos (by simp only [sg]; rw [if_neg (by omega), if_pos (by omega)]; omega)]
    rfl
theorem rises_inj {p q : Int × Int} : ∀ {L : List (Int × Int)}, Rises L → p ∈ L → q ∈ L → p.1 = q.1 → p = q
  | [], _, hp, _, _ => by simp at hp
  | a :: L, h, hp, hq, e => by
    rcases List.mem_cons.1 hp with h1 | h1
    · rcases List.mem_cons.1 hq with h2 | h2
      · rw [h1, h2]
      · have := h.1 q h2
        rw [← h1] at this
        omega
    · rcases List.mem_cons.1 hq with h2 | h2
      · have := h.1 p h1
        rw [← h2] at this
        omega
      · exact rises_inj h.2 h1 h2 e
theorem get_f {L : List (Int × Int)} {p : Int × Int} (hr : Rises L) (hp : p ∈ L) : heap_Get.f 10 [[], L.map ent] 1 1 p.1 ⟨#[]⟩ 0 [] = some (1, p.2, ⟨#[]⟩, 0, [], true) := by
  obtain ⟨ix, ok, e1, e2, e3, e4, e5⟩ := place_f L p.1 hr
  have ho := e3.2 ⟨p, hp, rfl⟩
  subst ho
  obtain ⟨h1, h2⟩ := e5 rfl
  have hL : L = L.take ix ++ L[ix] :: L.drop (ix + 1) := by
    rw [List.getElem_cons_drop, List.take_append_drop]
  have hk : L[ix] = p := by
    rw [hL] at hp
    have hnot : p ∉ delL L p.1 := fun h => ((mem_delL p.1 L hr p).1 h).2 rfl
    rw [h2] at hnot
    rcases List.mem_append.1 hp with hp | hp
    · exact absurd (List.mem_append.2 (.inl hp)) hnot
    · rcases List.mem_cons.1 hp with hp | hp
      · exact hp.symm
      · exact absurd (List.mem_append.2 (.inr hp)) hnot
  have hrd : rd_T82 (rd_L5 [[], L.map ent] 1) (ix : Int) = ent p := by
    simp [rd_L5, rd_T82, h1, hk]
  unfold heap_Get.f
  rw [e1]
  simp only [Option.bind_some, if_true]
  rw [if_pos (by omega), if_pos (by simp), if_pos (by omega), if_pos (by simp [rd_L5]; exact h1), hrd]
  rfl
/-- Whether an entry has been found among the first places. -/
def Fnd (T V : List Int) (a b : Int) (i : Nat) (f : Bool) : Prop := f = true ↔ ∃ j : Nat, j < i ∧ T[j]? = some a ∧ V[j]? = some b
theorem Fnd.zero (T V : List Int) (a b : Int) : Fnd T V a b 0 false := by simp [Fnd]
theorem Fnd.keep {T V : List Int} {a b : Int} {i : Nat} (h : Fnd T V a b i true) : Fnd T V a b (i + 1) true := by
  obtain ⟨j, h1, h2⟩ := h.1 rfl
  exact ⟨fun _ => ⟨j, by omega, h2⟩, fun _ => rfl⟩
theorem Fnd.hit {T V : List Int} {a b : Int} {i : Nat} {f : Bool} (h1 : T[i]? = some a) (h2 : V[i]? = some b) : Fnd T V a b (i + 1) true := ⟨fun _ => ⟨i, by omega, h1, h2⟩, fun _ => rfl⟩
theorem Fnd.miss {T V : List Int} {a b x y : Int} {i : Nat} (h : Fnd T V a b i false) (h1 : T[i]? = some x) (h2 : V[i]? = some y) (hne : x ≠ a ∨ y ≠ b) : Fnd T V a b (i + 1) false := by
  refine ⟨fun e => (by cases e), fun ⟨j, hj, h3, h4⟩ => ?_⟩
  by_cases hji : j = i
  · subst hji
    rw [h1] at h3
    rw [h2] at h4
    injection h3 with h3
    injection h4 with h4
    rcases hne with hne | hne
    · exact absurd h3 hne
    · exact absurd h4 hne
  · exact h.2 ⟨j, by omega, h3, h4⟩
theorem Fnd.all {L : List (Int × Int)} {T V : List Int} (hi : Inv L T V) {p : Int × Int} (hp : p ∈ L) {f : Bool} (h : Fnd T V p.1 p.2 T.length f) : f = true := by
  obtain ⟨j, h1, h2⟩ := (hi.mem p.1 p.2).1 hp
  exact h.2 ⟨j, (List.getElem?_eq_some_iff.1 h1).1, h1, h2⟩
theorem next_len (A : List (Int × Int)) (p : Int × Int) (h : A.length ≤ 1000) : Value.int .i64 (wrap64 ((A.length : Int) + 1)) = .int .i64 ((A ++ [p]).length : Int) := by
  rw [next_i _ h]
  simp
theorem stop_ {P : Prop} (h : Go.Proofs.YtnokieaebnmljaaW.PrintWords.Aside0 P) : P := h.out
theorem Inv.part {L : List (Int × Int)} {T V : List Int} (h : Inv L T V) {A B : List (Int × Int)} (e : L = A ++ B) : A.length ≤ T.length ∧ A.length ≤ 1000 ∧ T.length ≤ 1000 ∧ decide ((A.length : Int) > (T.length : Int)) = false ∧ decide (T.length < A.length) = false := by
  have h1 := h.lt
  have h2 := h.le
  have h3 : L.length = A.length + B.length := by rw [e, List.length_append]
  refine ⟨by omega, by omega, by omega, decide_eq_false (by omega), decide_eq_false (by omega)⟩
theorem Inv.done {L : List (Int × Int)} {T V : List Int} (h : Inv L T V) {A : List (Int × Int)} (e : L = A ++ []) : ((A.length : Int) == (T.length : Int)) = true ∧ (A.length == T.length) = true := by
  have h1 := h.lt
  have h3 : L.length = A.length := by rw [e, List.append_nil]
  rw [beq_iff_eq, beq_iff_eq]
  omega
theorem next_gt {A B : List (Int × Int)} {p q : Int × Int} (h : Rises (A ++ p :: q :: B)) : decide (q.1 ≤ p.1) = false := by
  have := (rises_mid h).2 q (by simp)
  exact decide_eq_false (by omega)
end Go.Proofs.Ytnokieaebnmljaa.PAll
namespace Go.Proofs.Ytnokieaebnmljaa.PAll
open Go Go.Proofs Go.RowKit Go.Shelf Go.Proofs.YtnokieaebnmljaaW.PrintWords Go.Proofs.YtnokieaebnmljaaW.PrintLast Go.Proofs.YtnokieaebnmljaaW.PrintMore
attribute [local go_sem] Oper.semAt_some
set_option linter.unusedVariables false
set_option linter.unusedSimpArgs false
def ho.T30 : Bool × List (List Nat × List Nat):=(true,[([],[]),([],[]),([],[]),([1,2],[1,2]),([3],[3]),([4],[4]),([0,5,5],[0,5]),([6,6,0,1,2,3,4,5,6],[6])])
def ho.B30 : List Nat:=[0,0,0,6,14,30,63,127]
theorem ho.tab30 : rtab .any (opsOf Try.f3 30) = ho.T30:=by kernel_rfl
theorem ho.bits30 : waitsOk ho.T30.2 ho.B30 = true:=by kernel_rfl
def ho.T31 : Bool × List (List Nat × List Nat):=(true,[([],[]),([],[]),([],[]),([0,1,2],[0,1,2]),([],[]),([],[]),([5],[5]),([4,6],[4,6]),([3,7],[3,7]),([8,8,0,1,2,3,4,5,6,7,8],[0,4,8])])
def ho.B31 : List Nat:=[0,0,0,7,0,0,32,112,255,511]
theorem ho.tab31 : rtab .any (opsOf Try.f3 31) = ho.T31:=by kernel_rfl
theorem ho.bits31 : waitsOk ho.T31.2 ho.B31 = true:=by kernel_rfl
def ho.T32 : Bool × List (List Nat × List Nat):=(true,[([],[]),([],[]),([],[]),([0,1,2],[0,1,2]),([],[]),([],[]),([5],[5]),([4,6],[4,6]),([3,7],[3,7]),([8,8,0,1,2,3,4,5,6,7,8],[0,4,8])])
def ho.B32 : List Nat:=[0,0,0,7,0,0,32,112,255,511]
theorem ho.tab32 : rtab .any (opsOf Try.f3 32) = ho.T32:=by kernel_rfl
theorem ho.bits32 : waitsOk ho.T32.2 ho.B32 = true:=by kernel_rfl
def ho.T17 : Bool × List (List Nat × List Nat):=(true,[([],[]),([],[]),([],[]),([1,2],[1,2]),([3],[3]),([4],[4]),([5],[5]),([],[]),([7,6],[7]),([0,6,8,8],[0,6,8]),([9],[9]),([10],[10]),([10],[10]),([],[]),([13,11,9,0,1,2,3,4,5,6,7,8,9,10,11,13],[11,13]),([12,14,0,1,2,3,4,5,6,7,8,9,10,11,12,13,14],[12])])
def ho.B17 : List Nat:=[0,0,0,6,14,30,62,0,254,511,1023,2047,2047,0,12287,32767]
theorem ho.tab17 : rtab .any (opsOf Try.f3 17) = ho.T17:=by kernel_rfl
theorem ho.bits17 : waitsOk ho.T17.2 ho.B17 = true:=by kernel_rfl
def ho.T41 : Bool × List (List Nat × List Nat):=(true,[([],[]),([0],[0]),([1],[1]),([1],[1]),([2,3,1],[1,2,3]),([4,1],[1,4]),([1],[1]),([6,1],[1,6]),([5,7,1],[1,5,7]),([8,1,1],[1,8]),([9],[9]),([9],[9]),([10,11,9],[9,10,11]),([12,9],[9,12]),([9],[9]),([14,9],[9,14]),([13,15,9],[9,13,15]),([9,16,1],[1,9,16]),([1,17],[1,17]),([18,9,0,1,2,3,4,5,6,7,8,9,10,11,12,13,14,15,16,17,18],[0,18])])
def ho.B41 : List Nat:=[0,1,3,3,15,31,3,67,255,511,1023,1023,4095,8191,1023,17407,65535,131071,262143,524287]
theorem ho.tab41 : rtab .any (opsOf Try.f3 41) = ho.T41:=by kernel_rfl
theorem ho.bits41 : waitsOk ho.T41.2 ho.B41 = true:=by kernel_rfl
set_option pp.deepTerms true in
set_option pp.maxSteps 1000000 in
set_option maxHeartbeats 16000000 in
set_option maxRecDepth 100000 in
theorem ho_walk (hknown : ∀ w,Calls Try.prog 9 #[] w fun e w' => e = .returned (.bool true) ∧ Below w.heap.size w w') (x0 x1 : List Int) (A0 A1 : Option Addr) (c0 c1 : Nat) (w : World)
  (hw0 : ∀ y ∈ x0,(Lit.int .i16 y).wf = true) (hw1 : ∀ y ∈ x1,(Lit.int .u8 y).wf = true) (r0 : Kd.C (Kd.int .i16) w A0 x0.length x0) (m0 : x0.length ≤ c0) (r1 : Kd.C (Kd.int .u8) w A1 x1.length x1) (m1 : x1.length ≤ c1) :
  Calls Try.prog 3 #[.slice A0 x0.length c0, .slice A1 x1.length c1] w fun e w' => e = .returned (.bool true) ∧ Below w.heap.size w w':=by
 have hu27:=Try.underlying27
 have hu35:=Try.underlying35
 have hu82:=Try.underlying82
 have R0:=Aside0.mk r0
 have R1:=Aside0.mk r1
 have W0:=Aside0.mk hw0
 have W1:=Aside0.mk hw1
 clear r0 r1 hw0 hw1
 obtain ⟨i0,hi,hz0,hz1,hz2⟩:=info_parts info41
 have hmk : ∀ W : World,(Instr.makeSlice 25 (.int .i64 2) (.int .i64 2)).run Try.prog W = .ok (.slice (some ⟨W.heap.size,0,none⟩) 2 2) (W.alloc (.cells #[.slice none 0 0, .slice none 0 0] 41)):=fun W => by
  have h:=run_make (P:=Try.prog) W 25 41 i0 (.slice none 0 0) Try.underlying25 hi hz0 .i64 .i64 2 2 (by omega) (by omega) (by rw [hz2];omega) (by omega)
  rw [hz1] at h
  have e : madeCells (Value.slice none 0 0).cells ((2 : Int).toNat * 1) = #[.slice none 0 0, .slice none 0 0]:=Array.toList_inj.1 (by simp [madeCells,Value.cells,List.range,List.range.loop])
  rw [e] at h
  exact h
 clear hi hz0 hz1 hz2
 go_enter Try.func3,Try.ntmps3
 go_wp2_with (fail)
 refine (hknown _).mono ?_
 rintro e_ w1 ⟨rfl,hb1⟩
 dsimp only
 by_cases hbig : x0.length ≤ 60 ∧ x1.length ≤ 60
 case neg =>
  by_cases h60 : (x0.length : Int) > 60
  ·have hd1 : decide ((x0.length : Int) > 60) = true:=decide_eq_true h60
   have hd2 : decide ((60 : Int) < (x0.length : Int)) = true:=decide_eq_true h60
   have hd3 : decide (60 < x0.length) = true:=decide_eq_true (by omega)
   have HB:=Aside0.mk hb1
   clear hbig h60 hb1
   go_wp2
   refine bodyPost_ret (results_tmp rfl _ _ _) rfl ?_
   exact ⟨rfl,HB.out⟩
  ·have hd1 : decide ((x0.length : Int) > 60) = false:=decide_eq_false h60
   have hd2 : decide ((60 : Int) < (x0.length : Int)) = false:=decide_eq_false h60
   have hd3 : decide (60 < x0.length) = false:=decide_eq_false (by omega)
   have hd4 : decide ((x1.length : Int) > 60) = true:=decide_eq_true (by omega)
   have hd5 : decide (60 < x1.length) = true:=decide_eq_true (by omega)
   have HB:=Aside0.mk hb1
   clear hbig h60 hb1
   go_wp2
   refine bodyPost_ret (results_tmp rfl _ _ _) rfl ?_
   exact ⟨rfl,HB.out⟩
 obtain ⟨hl0,hl1⟩:=hbig
 have hd1 : decide ((x0.length : Int) > 60) = false:=decide_eq_false (by omega)
 have hd3 : decide (60 < x0.length) = false:=decide_eq_false (by omega)
 have hd4 : decide ((x1.length : Int) > 60) = false:=decide_eq_false (by omega)
 have hd5 : decide (60 < x1.length) = false:=decide_eq_false (by omega)
 have HB:=Aside0.mk hb1
 have HL0:=Aside0.mk hl0
 have HL1:=Aside0.mk hl1
 clear hb1 hl0 hl1
 go_wp2
 obtain ⟨gs,hgs⟩ : ∃ gs,gs = w1.heap.size + 1:=⟨_,rfl⟩
 have HS0 : Aside0 (St w ((w1.alloc (Obj.cells #[Value.slice none 0 0,Value.slice none 0 0] 41)).alloc (Obj.cells #[.slice (some ⟨w1.heap.size,0,none⟩) 2 2] 27)) gs (.slice (some ⟨w1.heap.size,0,none⟩) 2 2) (.slice none 0 0) (.slice none 0 0) [] [] []):=⟨hgs ▸ St.init HB.out⟩
 rw [← hgs]
 go_loopg [6,7,8] x0.length (fun kq v6 v7 v8 w' => ∃ (i : Nat) (vs : Value) (L : List (Int × Int)) (T V : List Int),v8 = .int .i64 (i : Int) ∧ Aside0 (i + kq = x0.length) ∧ Aside0 (St w w' gs vs v6 v7 L T V) ∧ Aside0 (Inv L T V))
 case atStart => exact ⟨0,_,[],[],[],rfl,⟨by omega⟩,HS0,⟨Inv.nil⟩⟩
 case round =>
  clear HS0 HB hgs
  obtain ⟨i,vs,L,T,V,rfl,HI,HS,HV⟩:=hrel
  by_cases hlt : i < x0.length
  ·obtain ⟨k1,rfl⟩ : ∃ k1,gk = k1 + 1:=⟨gk - 1,by have:=HI.out;omega⟩
   have HI1 : Aside0 (i ≤ 1000):=⟨by have:=HL0.out;omega⟩
   have HI2 : Aside0 (i + 1 + k1 = x0.length):=⟨by have:=HI.out;omega⟩
   have hdi : decide ((i : Int) < (x0.length : Int)) = true:=decide_eq_true (by omega)
   have hdj : decide (i < x0.length) = true:=decide_eq_true hlt
   obtain ⟨adk,ek,hxk⟩:=Kd.at_int R0.out (i : Int) (by omega) (by omega)
   cases ek
   obtain ⟨ky,hky⟩ : ∃ ky,ky = rd x0 (i : Int):=⟨_,rfl⟩
   rw [← hky,Int.toNat_natCast] at hxk
   have hwk : wrap64 ky = ky:=by
    have h1_:=wf16 ky (W0.out ky (by rw [hky];exact rd_mem x0 i hlt))
    exact wrap_in _ (by omega)
   have HKY:=Aside0.mk hky
   clear hky
   have HKC:=Aside0.mk hxk
   have hkc : wr.cell? (adk.add i) = some (.int .i16 ky):=(HS.out.below.cell (World.block_lt_of_cell? w _ hxk)).trans hxk
   clear hxk
   obtain ⟨A6,c6,e6,hl6,hn6⟩:=HS.out.h6.form
   subst e6
   have HL6:=Aside0.mk hl6
   clear hl6 hn6
   go_wp2
   go_loopg [9,10] T.length (fun kq v9 v10 w' => ∃ (j : Nat) (m : Int),v10 = .int .i64 (j : Int) ∧ v9 = .int .i64 m ∧ Aside0 (j + kq = T.length) ∧ Aside0 (Found T ky j m) ∧ Aside0 (St w w' gs vs (.slice A6 T.length c6) u7 L T V))
   case atStart => exact ⟨0,-1,rfl,rfl,⟨by omega⟩,⟨Found.zero T ky⟩,HS⟩
   case round =>
    clear HS hkc
    obtain ⟨j,m,rfl,rfl,HJ,HF,HS⟩:=hrel
    have hkc : wr.cell? (adk.add i) = some (.int .i16 ky):=(HS.out.below.cell (World.block_lt_of_cell? w _ HKC.out)).trans HKC.out
    by_cases hjt : j < T.length
    ·obtain ⟨k2,rfl⟩ : ∃ k2,gk = k2 + 1:=⟨gk - 1,by have:=HJ.out;omega⟩
     have hd6 : decide ((j : Int) < (T.length : Int)) = true:=decide_eq_true (by omega)
     have hd7 : decide (j < T.length) = true:=decide_eq_true hjt
     obtain ⟨tj,htj⟩ : ∃ tj,T[j]? = some tj:=⟨_,List.getElem?_eq_getElem hjt⟩
     obtain ⟨g6,e6⟩:=HS.out.h6.head (by omega)
     subst e6
     have hct:=(HS.out.h6.cell j htj).1
     have HTJ:=Aside0.mk htj
     clear htj
     go_wp2
     go_region
     by_cases heq : tj = ky
     ·have hd8 : (tj == ky) = true:=by rw [heq];simp
      have HEQ:=Aside0.mk heq
      clear heq
      go_wp2
      go_roundg k2
      case measure => omega
      case rel =>
       refine ⟨j + 1,(j : Int),?_,rfl,⟨by have:=HJ.out;omega⟩,⟨Found.hit (by rw [← HEQ.out];exact HTJ.out)⟩,⟨HS.out.far (below_drew (Below.refl _ _))⟩⟩
       exact next_i j (by have h1_:=HV.out.lt;have h2_:=HV.out.le;omega)
     ·have hd8 : (tj == ky) = false:=by simpa using heq
      have HEQ:=Aside0.mk heq
      clear heq
      go_wp2
      go_roundg k2
      case measure => omega
      case rel =>
       refine ⟨j + 1,m,?_,rfl,⟨by have:=HJ.out;omega⟩,⟨HF.out.miss HTJ.out HEQ.out⟩,⟨HS.out.far (below_drew (Below.refl _ _))⟩⟩
       exact next_i j (by have h1_:=HV.out.lt;have h2_:=HV.out.le;omega)
    ·have hd6 : decide ((j : Int) < (T.length : Int)) = false:=decide_eq_false (by omega)
     have hd7 : decide (j < T.length) = false:=decide_eq_false hjt
     go_wp2
     obtain ⟨As,cs,es⟩:=HS.out.slice
     subst es
     obtain rfl : j = T.length:=by have:=HJ.out;omega
     obtain ⟨r1,r2,HP⟩ : ∃ r1 r2,Aside0 (heap_Put.f 10 [[],L.map ent] 1 1 ky ⟨#[]⟩ 0 [] 1 (i : Int) ⟨#[]⟩ 0 [] = some (r1,r2)):=by
      rcases put_step HV.out HF.out (i : Int) with ⟨_,_,_,h_⟩ | ⟨_,_,_,h_⟩ | ⟨_,_,_,_,h_⟩ <;> exact ⟨_,_,⟨h_⟩⟩
     have n_:=Aside0.mk (HS.out.far (below_drew (Below.refl _ _)))
     clear HS
     have HS:=n_
     clear n_ hkc
     refine start_ (n:=16) (S:=fun w' => w'.cell? ⟨gs,0,none⟩ = some (.slice As 2 cs) ∧ w'.cell? (adk.add i) = some (.int .i16 ky)) (ds:=[]) #[false,false,false,false,false,false,false,false,false,false,false,false,false,false,false,false] (by kernel_rfl) rfl rfl ⟨(blk_cell HS.out.box 0).trans rfl,HS.out.old HKC.out⟩ (fun hHeld => ?_)
     refine with_tabW ho.tab17 ho.bits17 (fun HT_ HW_ => ?_)
     generalize wr.drew = wq at HS hHeld ⊢
     refine pure_ (i:=1) (N:=some 60) (v:=?_) (a':=?_) #[false,true,false,false,false,false,false,false,false,false,false,false,false,false,false,false] rfl rfl (any_of HT_.out (by kernel_rfl)) (fun _ _ _ h => h) (Or.inl ⟨by rfl,?_⟩) ?_ ?_
     rotate_left
     ·intro w'
      go_simp
      with_reducible rfl
     rotate_left
     ·simp only [Act.put,List.setIfInBounds_toArray,List.set_cons_zero,List.set_cons_succ,i64_w,i32_w]
      rfl
     refine pure_ (i:=2) (N:=some 61) (v:=?_) (a':=?_) #[false,true,true,false,false,false,false,false,false,false,false,false,false,false,false,false] rfl rfl (any_of HT_.out (by kernel_rfl)) (fun _ _ _ h => h) (Or.inl ⟨by rfl,?_⟩) ?_ ?_
     rotate_left
     ·intro w'
      go_simp
      with_reducible rfl
     rotate_left
     ·simp only [Act.put,List.setIfInBounds_toArray,List.set_cons_zero,List.set_cons_succ,i64_w,i32_w]
      rfl
     refine pure_ (i:=3) (N:=some 62) (v:=?_) (a':=?_) #[false,true,true,true,false,false,false,false,false,false,false,false,false,false,false,false] rfl rfl (any_of HT_.out (by kernel_rfl)) (fun _ _ _ h => h) (Or.inl ⟨by rfl,?_⟩) ?_ ?_
     rotate_left
     ·intro w'
      go_simp
      with_reducible rfl
     rotate_left
     ·simp only [Act.put,List.setIfInBounds_toArray,List.set_cons_zero,List.set_cons_succ,i64_w,i32_w]
      rfl
     refine pure_ (i:=7) (N:=some 66) (v:=?_) (a':=?_) #[false,true,true,true,false,false,false,true,false,false,false,false,false,false,false,false] rfl rfl (any_of HT_.out (by kernel_rfl)) (fun _ _ _ h => h) (Or.inl ⟨by rfl,?_⟩) ?_ ?_
     rotate_left
     ·intro w'
      go_simp
      with_reducible rfl
     rotate_left
     ·simp only [Act.put,List.setIfInBounds_toArray,List.set_cons_zero,List.set_cons_succ,i64_w,i32_w]
      rfl
     refine take_ (i:=0) (N:=some 59) (v:=?_) (a':=?_) #[true,true,true,true,false,false,false,true,false,false,false,false,false,false,false,false] rfl rfl (take_ofW HT_.out HW_.out (by kernel_rfl)) (fun _ _ _ h => h) (Or.inl ⟨by rfl,?_⟩) hHeld ?_ ?_
     rotate_left
     ·rintro w' ⟨s0,s1⟩
      go_simp
      with_reducible rfl
     rotate_left
     ·simp only [Act.put,List.setIfInBounds_toArray,List.set_cons_zero,List.set_cons_succ,i64_w,i32_w]
      rfl
     refine take_ (i:=4) (N:=some 63) (v:=?_) (a':=?_) #[true,true,true,true,true,false,false,true,false,false,false,false,false,false,false,false] rfl rfl (take_ofW HT_.out HW_.out (by kernel_rfl)) (fun _ _ _ h => h) (Or.inl ⟨by rfl,?_⟩) hHeld ?_ ?_
     rotate_left
     ·rintro w' ⟨s0,s1⟩
      go_simp
      with_reducible rfl
     rotate_left
     ·simp only [Act.put,List.setIfInBounds_toArray,List.set_cons_zero,List.set_cons_succ,i64_w,i32_w]
      rfl
     refine pure_ (i:=5) (N:=some 64) (v:=?_) (a':=?_) #[true,true,true,true,true,true,false,true,false,false,false,false,false,false,false,false] rfl rfl (any_of HT_.out (by kernel_rfl)) (fun _ _ _ h => h) (Or.inl ⟨by rfl,?_⟩) ?_ ?_
     rotate_left
     ·intro w'
      go_simp
      with_reducible rfl
     rotate_left
     ·simp only [Act.put,List.setIfInBounds_toArray,List.set_cons_zero,List.set_cons_succ,i64_w,i32_w]
      rfl
     refine join_ (σ:=(Option Addr × Nat) × (Option Addr × Nat) × Value × Nat) 2 #[true,true,true,true,true,true,true,true,true,true,true,true,true,true,false,false] (fun s => [(65, .agg #[.int .i64 1, .int .i64 ky, .string ⟨#[]⟩, .int .i64 0, .slice s.1.1 ([] : List S35).length s.1.2]),(67, .agg #[.int .i64 1, .int .i64 (i : Int), .string ⟨#[]⟩, .int .i64 0, .slice s.2.1.1 ([] : List S35).length s.2.1.2]),(68, .tuple #[.agg #[s.2.2.1], .int .i64 r2]),(58, .tuple #[.agg #[s.2.2.1], .int .i64 r2]),(69, .agg #[s.2.2.1]),(70, .int .i64 r2),(11, .pointer (some ⟨s.2.2.2,0,none⟩))]) (fun s w' => St w w' gs (.slice As 2 cs) (.slice A6 T.length c6) u7 L T V ∧ Gd w w' gs s.2.2.2 (.slice As 2 cs) (.slice A6 T.length c6) u7 L ∧ Kd.N (Kd.slice 82 k82) 41 w' w.heap.size (fun k => (k ≠ gs ∧ some k ≠ (Value.slice A6 T.length c6).ownBlock ∧ some k ≠ u7.ownBlock) ∧ k ≠ s.2.2.2) s.2.2.1 r1) ?_ ?_
     rotate_left
     ·intro hCont
      refine two_ (i:=6) (j:=13) (Ni:=some 65) (Nj:=some 11) #[true,true,true,true,true,true,true,true,false,false,false,false,false,false,false,false] #[true,true,true,true,true,true,false,true,false,false,false,false,false,true,false,false] rfl rfl rfl rfl (two_of HT_.out (by kernel_rfl)) (by decide) (by decide) (fun K hK => ?_) (fun K hK => ?_)
      ·skip
       refine goes_ Try.func11 (by kernel_rfl) rfl #[.int .i64 (wrap64 ky)] (by rfl) rfl rfl (by simp only [List.map_toArray,List.map_cons,List.map_nil];rfl) ?_
       with_reducible refine (num_w hwk _).mono ?_
       rintro e_ wk ⟨Ak,ck,rfl,hbk⟩
       refine ⟨_,rfl,?_⟩
       have n_:=Aside0.mk (HS.out.far hbk)
       clear HS
       have HS:=n_
       clear n_
       refine hK.out _ _ ⟨(blk_cell HS.out.box 0).trans rfl,HS.out.old HKC.out⟩ (fun hHeld => ?_)
       clear hK K
       refine norm_ (a':=?_) ?_ ?_
       rotate_left
       ·show Act.put _ (some 65) _ = _
        simp only [Act.put,List.setIfInBounds_toArray,List.set_cons_zero,List.set_cons_succ,i64_w,i32_w]
        rfl
       refine two_ (i:=8) (j:=13) (Ni:=some 67) (Nj:=some 11) #[true,true,true,true,true,true,true,true,true,false,false,false,false,false,false,false] #[true,true,true,true,true,true,true,true,false,false,false,false,false,true,false,false] rfl rfl rfl rfl (two_of HT_.out (by kernel_rfl)) (by decide) (by decide) (fun K hK => ?_) (fun K hK => ?_)
       ·skip
        refine goes_ Try.func11 (by kernel_rfl) rfl #[.int .i64 (i : Int)] (by rfl) rfl rfl (by simp only [List.map_toArray,List.map_cons,List.map_nil];rfl) ?_
        with_reducible refine (num_v (i : Int) _).mono ?_
        rintro e_ wv ⟨Av,cv,rfl,hbv⟩
        refine ⟨_,rfl,?_⟩
        have n_:=Aside0.mk (HS.out.far hbv)
        clear HS
        have HS:=n_
        clear n_
        refine hK.out _ _ ⟨(blk_cell HS.out.box 0).trans rfl,HS.out.old HKC.out⟩ (fun hHeld => ?_)
        clear hK K
        refine norm_ (a':=?_) ?_ ?_
        rotate_left
        ·show Act.put _ (some 67) _ = _
         simp only [Act.put,List.setIfInBounds_toArray,List.set_cons_zero,List.set_cons_succ,i64_w,i32_w]
         rfl
        refine two_ (i:=9) (j:=13) (Ni:=some 68) (Nj:=some 11) #[true,true,true,true,true,true,true,true,true,true,false,false,false,false,false,false] #[true,true,true,true,true,true,true,true,true,false,false,false,false,true,false,false] rfl rfl rfl rfl (two_of HT_.out (by kernel_rfl)) (by decide) (by decide) (fun K hK => ?_) (fun K hK => ?_)
        ·skip
         refine goes_ Try.func10 (by kernel_rfl) rfl #[.agg #[.slice As 2 cs], .int .i64 1, .agg #[.int .i64 1, .int .i64 ky, .string ⟨#[]⟩, .int .i64 0, .slice Ak ([] : List S35).length ck], .agg #[.int .i64 1, .int .i64 (i : Int), .string ⟨#[]⟩, .int .i64 0, .slice Av ([] : List S35).length cv]] (by rfl) rfl rfl (by simp only [List.map_toArray,List.map_cons,List.map_nil];rfl) ?_
         with_reducible refine (put_two HS.out.hs HP.out).mono ?_
         rintro e_ wp ⟨v0,rfl,hN,hbp⟩
         refine ⟨_,rfl,?_⟩
         have HN:=Aside0.mk (HS.out.put_a hN)
         have n_:=Aside0.mk (HS.out.far hbp)
         clear HS
         have HS:=n_
         clear n_
         refine hK.out _ _ ⟨(blk_cell HS.out.box 0).trans rfl,HS.out.old HKC.out⟩ (fun hHeld => ?_)
         clear hK K
         refine norm_ (a':=?_) ?_ ?_
         rotate_left
         ·show Act.put _ (some 68) _ = _
          simp only [Act.put,List.setIfInBounds_toArray,List.set_cons_zero,List.set_cons_succ,i64_w,i32_w]
          rfl
         refine pure_ (i:=10) (N:=some 58) (v:=?_) (a':=?_) #[true,true,true,true,true,true,true,true,true,true,true,false,false,false,false,false] rfl rfl (any_of HT_.out (by kernel_rfl)) (fun _ _ _ h => h) (Or.inl ⟨by rfl,?_⟩) ?_ ?_
         rotate_left
         ·intro w'
          go_simp
          with_reducible rfl
         rotate_left
         ·simp only [Act.put,List.setIfInBounds_toArray,List.set_cons_zero,List.set_cons_succ,i64_w,i32_w]
          rfl
         refine pure_ (i:=11) (N:=some 69) (v:=?_) (a':=?_) #[true,true,true,true,true,true,true,true,true,true,true,true,false,false,false,false] rfl rfl (any_of HT_.out (by kernel_rfl)) (fun _ _ _ h => h) (Or.inl ⟨by rfl,?_⟩) ?_ ?_
         rotate_left
         ·intro w'
          go_simp
          with_reducible rfl
         rotate_left
         ·simp only [Act.put,List.setIfInBounds_toArray,List.set_cons_zero,List.set_cons_succ,i64_w,i32_w]
          rfl
         refine pure_ (i:=12) (N:=some 70) (v:=?_) (a':=?_) #[true,true,true,true,true,true,true,true,true,true,true,true,true,false,false,false] rfl rfl (any_of HT_.out (by kernel_rfl)) (fun _ _ _ h => h) (Or.inl ⟨by rfl,?_⟩) ?_ ?_
         rotate_left
         ·intro w'
          go_simp
          with_reducible rfl
         rotate_left
         ·simp only [Act.put,List.setIfInBounds_toArray,List.set_cons_zero,List.set_cons_succ,i64_w,i32_w]
          rfl
         refine one_ (i:=13) (N:=some 11) #[true,true,true,true,true,true,true,true,true,true,true,true,true,true,false,false] rfl rfl (one_of HT_.out (by kernel_rfl)) (by decide) (fun K hK => ?_)
         refine value_ (w1:=?_) (v:=?_) (by rfl) rfl ?_ ?_
         rotate_left 2
         ·go_simp
          constructor
          ·rfl
          ·rfl
         have HG:=Aside0.mk HS.out.gd
         have n_:=Aside0.mk (put_alloc HN.out (.cells #[.slice none 0 0] 27))
         clear HN
         have HN:=n_
         clear n_
         have n_:=Aside0.mk (HS.out.far (below_alloc (Below.refl _ _) (.cells #[.slice none 0 0] 27)))
         clear HS
         have HS:=n_
         clear n_
         refine hK.out _ _ ⟨(blk_cell HS.out.box 0).trans rfl,HS.out.old HKC.out⟩ (fun hHeld => ?_)
         clear hK K
         refine norm_ (a':=?_) ?_ ?_
         rotate_left
         ·show Act.put _ (some 11) _ = _
          simp only [Act.put,List.setIfInBounds_toArray,List.set_cons_zero,List.set_cons_succ,i64_w,i32_w]
          rfl
         exact norm_ (by simp only [putAll,Act.put,List.setIfInBounds_toArray,List.set_cons_zero,List.set_cons_succ]) (hCont ((Ak,ck),(Av,cv),v0,wp.heap.size) _ ⟨HS.out,HG.out,HN.out⟩)
        ·skip
         refine value_ (w1:=?_) (v:=?_) (by rfl) rfl ?_ ?_
         rotate_left 2
         ·go_simp
          constructor
          ·rfl
          ·rfl
         have HG:=Aside0.mk HS.out.gd
         have n_:=Aside0.mk (HS.out.far (below_alloc (Below.refl _ _) (.cells #[.slice none 0 0] 27)))
         clear HS
         have HS:=n_
         clear n_
         refine hK.out _ _ ⟨(blk_cell HS.out.box 0).trans rfl,HS.out.old HKC.out⟩ (fun hHeld => ?_)
         clear hK K
         refine norm_ (a':=?_) ?_ ?_
         rotate_left
         ·show Act.put _ (some 11) _ = _
          simp only [Act.put,List.setIfInBounds_toArray,List.set_cons_zero,List.set_cons_succ,i64_w,i32_w]
          rfl
         refine one_ (i:=9) (N:=some 68) #[true,true,true,true,true,true,true,true,true,true,false,false,false,true,false,false] rfl rfl (one_of HT_.out (by kernel_rfl)) (by decide) (fun K hK => ?_)
         refine goes_ Try.func10 (by kernel_rfl) rfl #[.agg #[.slice As 2 cs], .int .i64 1, .agg #[.int .i64 1, .int .i64 ky, .string ⟨#[]⟩, .int .i64 0, .slice Ak ([] : List S35).length ck], .agg #[.int .i64 1, .int .i64 (i : Int), .string ⟨#[]⟩, .int .i64 0, .slice Av ([] : List S35).length cv]] (by rfl) rfl rfl (by simp only [List.map_toArray,List.map_cons,List.map_nil];rfl) ?_
         with_reducible refine (put_two HG.out.hv HP.out).mono ?_
         rintro e_ wp ⟨v0,rfl,hN,hbp⟩
         refine ⟨_,rfl,?_⟩
         have HN:=Aside0.mk (HS.out.put_b HG.out hN)
         have n_:=Aside0.mk (HS.out.far hbp)
         clear HS
         have HS:=n_
         clear n_
         have n_:=Aside0.mk (HG.out.far hbp)
         clear HG
         have HG:=n_
         clear n_
         refine hK.out _ _ ⟨(blk_cell HS.out.box 0).trans rfl,HS.out.old HKC.out⟩ (fun hHeld => ?_)
         clear hK K
         refine norm_ (a':=?_) ?_ ?_
         rotate_left
         ·show Act.put _ (some 68) _ = _
          simp only [Act.put,List.setIfInBounds_toArray,List.set_cons_zero,List.set_cons_succ,i64_w,i32_w]
          rfl
         refine pure_ (i:=10) (N:=some 58) (v:=?_) (a':=?_) #[true,true,true,true,true,true,true,true,true,true,true,false,false,true,false,false] rfl rfl (any_of HT_.out (by kernel_rfl)) (fun _ _ _ h => h) (Or.inl ⟨by rfl,?_⟩) ?_ ?_
         rotate_left
         ·intro w'
          go_simp
          with_reducible rfl
         rotate_left
         ·simp only [Act.put,List.setIfInBounds_toArray,List.set_cons_zero,List.set_cons_succ,i64_w,i32_w]
          rfl
         refine pure_ (i:=11) (N:=some 69) (v:=?_) (a':=?_) #[true,true,true,true,true,true,true,true,true,true,true,true,false,true,false,false] rfl rfl (any_of HT_.out (by kernel_rfl)) (fun _ _ _ h => h) (Or.inl ⟨by rfl,?_⟩) ?_ ?_
         rotate_left
         ·intro w'
          go_simp
          with_reducible rfl
         rotate_left
         ·simp only [Act.put,List.setIfInBounds_toArray,List.set_cons_zero,List.set_cons_succ,i64_w,i32_w]
          rfl
         refine pure_ (i:=12) (N:=some 70) (v:=?_) (a':=?_) #[true,true,true,true,true,true,true,true,true,true,true,true,true,true,false,false] rfl rfl (any_of HT_.out (by kernel_rfl)) (fun _ _ _ h => h) (Or.inl ⟨by rfl,?_⟩) ?_ ?_
         rotate_left
         ·intro w'
          go_simp
          with_reducible rfl
         rotate_left
         ·simp only [Act.put,List.setIfInBounds_toArray,List.set_cons_zero,List.set_cons_succ,i64_w,i32_w]
          rfl
         exact norm_ (by simp only [putAll,Act.put,List.setIfInBounds_toArray,List.set_cons_zero,List.set_cons_succ]) (hCont ((Ak,ck),(Av,cv),v0,wv.heap.size) _ ⟨HS.out,HG.out,HN.out⟩)
       ·skip
        refine value_ (w1:=?_) (v:=?_) (by rfl) rfl ?_ ?_
        rotate_left 2
        ·go_simp
         constructor
         ·rfl
         ·rfl
        have HG:=Aside0.mk HS.out.gd
        have n_:=Aside0.mk (HS.out.far (below_alloc (Below.refl _ _) (.cells #[.slice none 0 0] 27)))
        clear HS
        have HS:=n_
        clear n_
        refine hK.out _ _ ⟨(blk_cell HS.out.box 0).trans rfl,HS.out.old HKC.out⟩ (fun hHeld => ?_)
        clear hK K
        refine norm_ (a':=?_) ?_ ?_
        rotate_left
        ·show Act.put _ (some 11) _ = _
         simp only [Act.put,List.setIfInBounds_toArray,List.set_cons_zero,List.set_cons_succ,i64_w,i32_w]
         rfl
        refine one_ (i:=8) (N:=some 67) #[true,true,true,true,true,true,true,true,true,false,false,false,false,true,false,false] rfl rfl (one_of HT_.out (by kernel_rfl)) (by decide) (fun K hK => ?_)
        refine goes_ Try.func11 (by kernel_rfl) rfl #[.int .i64 (i : Int)] (by rfl) rfl rfl (by simp only [List.map_toArray,List.map_cons,List.map_nil];rfl) ?_
        with_reducible refine (num_v (i : Int) _).mono ?_
        rintro e_ wv ⟨Av,cv,rfl,hbv⟩
        refine ⟨_,rfl,?_⟩
        have n_:=Aside0.mk (HS.out.far hbv)
        clear HS
        have HS:=n_
        clear n_
        have n_:=Aside0.mk (HG.out.far hbv)
        clear HG
        have HG:=n_
        clear n_
        refine hK.out _ _ ⟨(blk_cell HS.out.box 0).trans rfl,HS.out.old HKC.out⟩ (fun hHeld => ?_)
        clear hK K
        refine norm_ (a':=?_) ?_ ?_
        rotate_left
        ·show Act.put _ (some 67) _ = _
         simp only [Act.put,List.setIfInBounds_toArray,List.set_cons_zero,List.set_cons_succ,i64_w,i32_w]
         rfl
        refine one_ (i:=9) (N:=some 68) #[true,true,true,true,true,true,true,true,true,true,false,false,false,true,false,false] rfl rfl (one_of HT_.out (by kernel_rfl)) (by decide) (fun K hK => ?_)
        refine goes_ Try.func10 (by kernel_rfl) rfl #[.agg #[.slice As 2 cs], .int .i64 1, .agg #[.int .i64 1, .int .i64 ky, .string ⟨#[]⟩, .int .i64 0, .slice Ak ([] : List S35).length ck], .agg #[.int .i64 1, .int .i64 (i : Int), .string ⟨#[]⟩, .int .i64 0, .slice Av ([] : List S35).length cv]] (by rfl) rfl rfl (by simp only [List.map_toArray,List.map_cons,List.map_nil];rfl) ?_
        with_reducible refine (put_two HG.out.hv HP.out).mono ?_
        rintro e_ wp ⟨v0,rfl,hN,hbp⟩
        refine ⟨_,rfl,?_⟩
        have HN:=Aside0.mk (HS.out.put_b HG.out hN)
        have n_:=Aside0.mk (HS.out.far hbp)
        clear HS
        have HS:=n_
        clear n_
        have n_:=Aside0.mk (HG.out.far hbp)
        clear HG
        have HG:=n_
        clear n_
        refine hK.out _ _ ⟨(blk_cell HS.out.box 0).trans rfl,HS.out.old HKC.out⟩ (fun hHeld => ?_)
        clear hK K
        refine norm_ (a':=?_) ?_ ?_
        rotate_left
        ·show Act.put _ (some 68) _ = _
         simp only [Act.put,List.setIfInBounds_toArray,List.set_cons_zero,List.set_cons_succ,i64_w,i32_w]
         rfl
        refine pure_ (i:=10) (N:=some 58) (v:=?_) (a':=?_) #[true,true,true,true,true,true,true,true,true,true,true,false,false,true,false,false] rfl rfl (any_of HT_.out (by kernel_rfl)) (fun _ _ _ h => h) (Or.inl ⟨by rfl,?_⟩) ?_ ?_
        rotate_left
        ·intro w'
         go_simp
         with_reducible rfl
        rotate_left
        ·simp only [Act.put,List.setIfInBounds_toArray,List.set_cons_zero,List.set_cons_succ,i64_w,i32_w]
         rfl
        refine pure_ (i:=11) (N:=some 69) (v:=?_) (a':=?_) #[true,true,true,true,true,true,true,true,true,true,true,true,false,true,false,false] rfl rfl (any_of HT_.out (by kernel_rfl)) (fun _ _ _ h => h) (Or.inl ⟨by rfl,?_⟩) ?_ ?_
        rotate_left
        ·intro w'
         go_simp
         with_reducible rfl
        rotate_left
        ·simp only [Act.put,List.setIfInBounds_toArray,List.set_cons_zero,List.set_cons_succ,i64_w,i32_w]
         rfl
        refine pure_ (i:=12) (N:=some 70) (v:=?_) (a':=?_) #[true,true,true,true,true,true,true,true,true,true,true,true,true,true,false,false] rfl rfl (any_of HT_.out (by kernel_rfl)) (fun _ _ _ h => h) (Or.inl ⟨by rfl,?_⟩) ?_ ?_
        rotate_left
        ·intro w'
         go_simp
         with_reducible rfl
        rotate_left
        ·simp only [Act.put,List.setIfInBounds_toArray,List.set_cons_zero,List.set_cons_succ,i64_w,i32_w]
         rfl
        exact norm_ (by simp only [putAll,Act.put,List.setIfInBounds_toArray,List.set_cons_zero,List.set_cons_succ]) (hCont ((Ak,ck),(Av,cv),v0,wk.heap.size) _ ⟨HS.out,HG.out,HN.out⟩)
      ·skip
       refine value_ (w1:=?_) (v:=?_) (by rfl) rfl ?_ ?_
       rotate_left 2
       ·go_simp
        constructor
        ·rfl
        ·rfl
       have HG:=Aside0.mk HS.out.gd
       have n_:=Aside0.mk (HS.out.far (below_alloc (Below.refl _ _) (.cells #[.slice none 0 0] 27)))
       clear HS
       have HS:=n_
       clear n_
       refine hK.out _ _ ⟨(blk_cell HS.out.box 0).trans rfl,HS.out.old HKC.out⟩ (fun hHeld => ?_)
       clear hK K
       refine norm_ (a':=?_) ?_ ?_
       rotate_left
       ·show Act.put _ (some 11) _ = _
        simp only [Act.put,List.setIfInBounds_toArray,List.set_cons_zero,List.set_cons_succ,i64_w,i32_w]
        rfl
       refine one_ (i:=6) (N:=some 65) #[true,true,true,true,true,true,true,true,false,false,false,false,false,true,false,false] rfl rfl (one_of HT_.out (by kernel_rfl)) (by decide) (fun K hK => ?_)
       refine goes_ Try.func11 (by kernel_rfl) rfl #[.int .i64 (wrap64 ky)] (by rfl) rfl rfl (by simp only [List.map_toArray,List.map_cons,List.map_nil];rfl) ?_
       with_reducible refine (num_w hwk _).mono ?_
       rintro e_ wk ⟨Ak,ck,rfl,hbk⟩
       refine ⟨_,rfl,?_⟩
       have n_:=Aside0.mk (HS.out.far hbk)
       clear HS
       have HS:=n_
       clear n_
       have n_:=Aside0.mk (HG.out.far hbk)
       clear HG
       have HG:=n_
       clear n_
       refine hK.out _ _ ⟨(blk_cell HS.out.box 0).trans rfl,HS.out.old HKC.out⟩ (fun hHeld => ?_)
       clear hK K
       refine norm_ (a':=?_) ?_ ?_
       rotate_left
       ·show Act.put _ (some 65) _ = _
        simp only [Act.put,List.setIfInBounds_toArray,List.set_cons_zero,List.set_cons_succ,i64_w,i32_w]
        rfl
       refine one_ (i:=8) (N:=some 67) #[true,true,true,true,true,true,true,true,true,false,false,false,false,true,false,false] rfl rfl (one_of HT_.out (by kernel_rfl)) (by decide) (fun K hK => ?_)
       refine goes_ Try.func11 (by kernel_rfl) rfl #[.int .i64 (i : Int)] (by rfl) rfl rfl (by simp only [List.map_toArray,List.map_cons,List.map_nil];rfl) ?_
       with_reducible refine (num_v (i : Int) _).mono ?_
       rintro e_ wv ⟨Av,cv,rfl,hbv⟩
       refine ⟨_,rfl,?_⟩
       have n_:=Aside0.mk (HS.out.far hbv)
       clear HS
       have HS:=n_
       clear n_
       have n_:=Aside0.mk (HG.out.far hbv)
       clear HG
       have HG:=n_
       clear n_
       refine hK.out _ _ ⟨(blk_cell HS.out.box 0).trans rfl,HS.out.old HKC.out⟩ (fun hHeld => ?_)
       clear hK K
       refine norm_ (a':=?_) ?_ ?_
       rotate_left
       ·show Act.put _ (some 67) _ = _
        simp only [Act.put,List.setIfInBounds_toArray,List.set_cons_zero,List.set_cons_succ,i64_w,i32_w]
        rfl
       refine one_ (i:=9) (N:=some 68) #[true,true,true,true,true,true,true,true,true,true,false,false,false,true,false,false] rfl rfl (one_of HT_.out (by kernel_rfl)) (by decide) (fun K hK => ?_)
       refine goes_ Try.func10 (by kernel_rfl) rfl #[.agg #[.slice As 2 cs], .int .i64 1, .agg #[.int .i64 1, .int .i64 ky, .string ⟨#[]⟩, .int .i64 0, .slice Ak ([] : List S35).length ck], .agg #[.int .i64 1, .int .i64 (i : Int), .string ⟨#[]⟩, .int .i64 0, .slice Av ([] : List S35).length cv]] (by rfl) rfl rfl (by simp only [List.map_toArray,List.map_cons,List.map_nil];rfl) ?_
       with_reducible refine (put_two HG.out.hv HP.out).mono ?_
       rintro e_ wp ⟨v0,rfl,hN,hbp⟩
       refine ⟨_,rfl,?_⟩
       have HN:=Aside0.mk (HS.out.put_b HG.out hN)
       have n_:=Aside0.mk (HS.out.far hbp)
       clear HS
       have HS:=n_
       clear n_
       have n_:=Aside0.mk (HG.out.far hbp)
       clear HG
       have HG:=n_
       clear n_
       refine hK.out _ _ ⟨(blk_cell HS.out.box 0).trans rfl,HS.out.old HKC.out⟩ (fun hHeld => ?_)
       clear hK K
       refine norm_ (a':=?_) ?_ ?_
       rotate_left
       ·show Act.put _ (some 68) _ = _
        simp only [Act.put,List.setIfInBounds_toArray,List.set_cons_zero,List.set_cons_succ,i64_w,i32_w]
        rfl
       refine pure_ (i:=10) (N:=some 58) (v:=?_) (a':=?_) #[true,true,true,true,true,true,true,true,true,true,true,false,false,true,false,false] rfl rfl (any_of HT_.out (by kernel_rfl)) (fun _ _ _ h => h) (Or.inl ⟨by rfl,?_⟩) ?_ ?_
       rotate_left
       ·intro w'
        go_simp
        with_reducible rfl
       rotate_left
       ·simp only [Act.put,List.setIfInBounds_toArray,List.set_cons_zero,List.set_cons_succ,i64_w,i32_w]
        rfl
       refine pure_ (i:=11) (N:=some 69) (v:=?_) (a':=?_) #[true,true,true,true,true,true,true,true,true,true,true,true,false,true,false,false] rfl rfl (any_of HT_.out (by kernel_rfl)) (fun _ _ _ h => h) (Or.inl ⟨by rfl,?_⟩) ?_ ?_
       rotate_left
       ·intro w'
        go_simp
        with_reducible rfl
       rotate_left
       ·simp only [Act.put,List.setIfInBounds_toArray,List.set_cons_zero,List.set_cons_succ,i64_w,i32_w]
        rfl
       refine pure_ (i:=12) (N:=some 70) (v:=?_) (a':=?_) #[true,true,true,true,true,true,true,true,true,true,true,true,true,true,false,false] rfl rfl (any_of HT_.out (by kernel_rfl)) (fun _ _ _ h => h) (Or.inl ⟨by rfl,?_⟩) ?_ ?_
       rotate_left
       ·intro w'
        go_simp
        with_reducible rfl
       rotate_left
       ·simp only [Act.put,List.setIfInBounds_toArray,List.set_cons_zero,List.set_cons_succ,i64_w,i32_w]
        rfl
       exact norm_ (by simp only [putAll,Act.put,List.setIfInBounds_toArray,List.set_cons_zero,List.set_cons_succ]) (hCont ((Ak,ck),(Av,cv),v0,wq.heap.size) _ ⟨HS.out,HG.out,HN.out⟩)
     clear HS hHeld
     rintro ⟨⟨Ak,ck⟩,⟨Av,cv⟩,v0,g⟩ w9 ⟨hs9,hg9,hn9⟩
     dsimp only at hg9 hn9
     obtain ⟨Ap,np,cp,rfl⟩ : ∃ A n c,v0 = Value.slice A n c:=by obtain ⟨A,c,e⟩:=Kd.N_slice hn9;exact ⟨A,_,c,e⟩
     have HS:=Aside0.mk hs9
     have HG:=Aside0.mk hg9
     have HN:=Aside0.mk hn9
     clear hs9 hg9 hn9
     have hHeld : w9.cell? ⟨gs,0,none⟩ = some (.slice As 2 cs) ∧ w9.cell? (adk.add i) = some (.int .i16 ky):=⟨(blk_cell HS.out.box 0).trans rfl,HS.out.old HKC.out⟩
     refine norm_ (a':=?_) ?_ ?_
     rotate_left
     ·simp only [putAll,Act.put,List.setIfInBounds_toArray,List.set_cons_zero,List.set_cons_succ]
      rfl
     refine one_ (i:=14) (N:=none) #[true,true,true,true,true,true,true,true,true,true,true,true,true,true,true,false] rfl rfl (one_of HT_.out (by kernel_rfl)) (by decide) (fun K hK => ?_)
     have hc14 : w9.cell? ⟨g,0,none⟩ = some (.slice none 0 0):=(blk_cell HG.out.hb 0).trans rfl
     have hf14:=blk_frozen HG.out.hb 0
     refine skip_ (w1:=?_) (by rfl) rfl ?_ ?_
     rotate_left
     ·go_simp
      rfl
     obtain ⟨b1_,b2_,b3_⟩:=HS.out.boxed HG.out HN.out
     clear HS HG HN hc14 hf14
     have HS:=Aside0.mk b1_
     have HBX:=Aside0.mk b2_
     have HVP:=Aside0.mk b3_
     clear b1_ b2_ b3_
     refine hK.out _ _ ⟨(blk_cell HS.out.box 0).trans rfl,HS.out.old HKC.out⟩ (fun hHeld => ?_)
     clear hK K
     refine pure_ (i:=15) (N:=some 12) (v:=?_) (a':=?_) #[true,true,true,true,true,true,true,true,true,true,true,true,true,true,true,true] rfl rfl (any_of HT_.out (by kernel_rfl)) (fun _ _ _ h => h) (Or.inl ⟨by rfl,?_⟩) ?_ ?_
     rotate_left
     ·intro w'
      go_simp
      with_reducible rfl
     rotate_left
     ·simp only [Act.put,List.setIfInBounds_toArray,List.set_cons_zero,List.set_cons_succ,i64_w,i32_w]
      rfl
     refine done_ (done_of HT_.out (by kernel_rfl)) ?_
     
     have hmn:=fun (h_ : Found T ky T.length m) => put_step HV.out h_ (i : Int)
     generalize (w9.setCell ⟨g,0,none⟩ (.slice Ap np cp)) = wb at HS HBX HVP ⊢
     obtain ⟨A7,c7,e7,hl7,hn7⟩:=HS.out.h7.form
     subst e7
     have HL7:=Aside0.mk hl7
     clear hl7 hn7
     have hcg : wb.cell? ⟨g,0,none⟩ = some (.slice Ap np cp):=(blk_cell HBX.out 0).trans rfl
     have hcs : wb.cell? ⟨gs,0,none⟩ = some (.slice As 2 cs):=(blk_cell HS.out.box 0).trans rfl
     have hfs:=blk_frozen HS.out.box 0
     rcases hmn HF.out with ⟨hm,hno,h24,hpf⟩ | ⟨hm,hno,h24,hpf⟩ | ⟨jm,hm,hjm,hjk,hpf⟩
     ·subst hm
      have hp:=HP.out
      rw [hpf] at hp
      injection hp with hp
      injection hp with hp1 hp2
      subst hp1
      subst hp2
      have hd9 : ((T.length : Int) == 24) = true:=by rw [h24];rfl
      have hd10 : (T.length == 24) = true:=by rw [h24];rfl
      have hd11 : decide (-1 < (0 : Int)) = true:=by decide
      clear hmn hno h24 hpf hcg hcs hfs
      go_wp2
      go_roundg k1
      case measure => omega
      case rel => exact ⟨i + 1, .slice As 2 cs,L,T,V,next_i i (by have:=HL0.out;omega),⟨by have:=HI.out;omega⟩,HS,HV⟩
     ·subst hm
      have hp:=HP.out
      rw [hpf] at hp
      injection hp with hp
      injection hp with hp1 hp2
      subst hp1
      subst hp2
      obtain rfl : np = 2:=by rw [(Kd.V_at HVP.out).1];rfl
      have hd9 : ((T.length : Int) == 24) = false:=by simp;omega
      have hd10 : (T.length == 24) = false:=by simp;omega
      have hd11 : decide (-1 < (0 : Int)) = true:=by decide
      have HS2:=Aside0.mk (HS.out.sets (Below.refl _ _) (L':=putL L ky (i : Int)) HVP.out (fun k hk => .inl hk))
      have hkc : (wb.setCell ⟨gs,0,none⟩ (.slice Ap 2 cp)).cell? (adk.add i) = some (.int .i16 ky):=HS2.out.old HKC.out
      have HV2:=Aside0.mk (HV.out.new ky (i : Int) hno h24)
      have HT:=Aside0.mk h24
      clear hmn hno hpf HS h24
      by_cases hgl : i < x1.length
      case neg =>
       have hdg : decide ((i : Int) < (x1.length : Int)) = false:=decide_eq_false (by omega)
       have hdh : decide (i < x1.length) = false:=decide_eq_false hgl
       go_wp2_with (first|((with_reducible refine gate_builtin (b := .append) (xs:=#[.tmp 85, .tmp 91]) rfl ?_);at_builtin;refine HS2.out.app6_w rfl (.tmp 85) (.tmp 91) rfl rfl rfl ?hn (by have:=HT.out;omega) ?_;(case hn => first|rfl|(simp;done));intro v6 wd hs_;(try rw [hwk] at hs_);have HS3:=Aside0.mk hs_;clear HS2 hs_)|((with_reducible refine gate_builtin (b := .append) (xs:=#[.tmp 93, .tmp 95]) rfl ?_);at_builtin;refine HS3.out.app7_w rfl (.tmp 93) (.tmp 95) rfl rfl rfl ?hn (by have h1_:=HV.out.lv;have h2_:=HV.out.le;omega) ?_;(case hn => first|rfl|(simp;done));intro v7 we hs_;have HS:=Aside0.mk hs_;clear HS3 hs_))
       go_roundg k1
       case measure => exact Nat.lt_succ_self _
       case rel => exact ⟨i + 1,_,_,_,_,next_i i HI1.out,HI2,HS,HV2⟩
      case pos =>
       have hdg : decide ((i : Int) < (x1.length : Int)) = true:=decide_eq_true (by omega)
       have hdh : decide (i < x1.length) = true:=decide_eq_true hgl
       obtain ⟨adg,eg,hxg⟩:=Kd.at_int R1.out (i : Int) (by omega) (by omega)
       cases eg
       obtain ⟨gy,hgy⟩ : ∃ gy,gy = rd x1 (i : Int):=⟨_,rfl⟩
       rw [← hgy,Int.toNat_natCast] at hxg
       have HG8:=Aside0.mk (wf8 gy (W1.out gy (by rw [hgy];exact rd_mem x1 i hgl)))
       have HGC:=Aside0.mk hxg
       clear hxg hgy
       by_cases hrm : gy.tmod 3 = 0
       case neg =>
        have hrb : (gy.tmod 3 == 0) = false:=by simpa using hrm
        clear hrm
        go_wp2_with (first|((with_reducible refine gate_builtin (b := .append) (xs:=#[.tmp 85, .tmp 91]) rfl ?_);at_builtin;refine HS2.out.app6_w rfl (.tmp 85) (.tmp 91) rfl rfl rfl ?hn (by have:=HT.out;omega) ?_;(case hn => first|rfl|(simp;done));intro v6 wd hs_;(try rw [hwk] at hs_);have HS3:=Aside0.mk hs_;clear HS2 hs_)|((with_reducible refine gate_builtin (b := .append) (xs:=#[.tmp 93, .tmp 95]) rfl ?_);at_builtin;refine HS3.out.app7_w rfl (.tmp 93) (.tmp 95) rfl rfl rfl ?hn (by have h1_:=HV.out.lv;have h2_:=HV.out.le;omega) ?_;(case hn => first|rfl|(simp;done));intro v7 we hs_;have HS:=Aside0.mk hs_;clear HS3 hs_;have hgc:=HS.out.old HGC.out))
        go_roundg k1
        case measure => exact Nat.lt_succ_self _
        case rel => exact ⟨i + 1,_,_,_,_,next_i i HI1.out,HI2,HS,HV2⟩
       case pos =>
        have hrb : (gy.tmod 3 == 0) = true:=by simpa using hrm
        clear hrm
        have hwg : wrap64 gy = gy:=wrap8 gy HG8.out
        obtain ⟨Lt,hLt⟩ : ∃ l,l = putL L ky (i : Int):=⟨_,rfl⟩
        obtain ⟨Tt,hTt⟩ : ∃ t,t = T ++ [ky]:=⟨_,rfl⟩
        obtain ⟨Vt,hVt⟩ : ∃ t,t = V ++ [(i : Int)]:=⟨_,rfl⟩
        rw [← hLt,← hTt,← hVt] at HV2
        have HLt:=Aside0.mk hLt
        have HTt:=Aside0.mk hTt
        have HVt:=Aside0.mk hVt
        clear hLt hTt hVt
        have hpos : 0 < Tt.length:=by rw [HTt.out];simp
        obtain ⟨kk,hkk,hkl⟩ : ∃ kk : Nat,gy.tmod (Tt.length : Int) = (kk : Int) ∧ kk < Tt.length:=tmod_nat gy Tt.length HG8.out.1 hpos
        have hnz:=(nz_beq hpos).1
        have hnz2:=(nz_beq hpos).2
        have hwk1:=(HV2.out.wraps hkl).2
        have hwk0:=(HV2.out.wraps hkl).1
        have HNV:=Aside0.mk (HV2.out.kv hkl)
        go_wp2_with (first|((with_reducible refine gate_builtin (b := .append) (xs:=#[.tmp 85, .tmp 91]) rfl ?_);at_builtin;refine HS2.out.app6_w rfl (.tmp 85) (.tmp 91) rfl rfl rfl ?hn (by have:=HT.out;omega) ?_;(case hn => first|rfl|(simp;done));intro v6 wd hs_;(try rw [hwk] at hs_);rw [← HTt.out] at hs_;have HS3:=Aside0.mk hs_;clear HS2 hs_)|((with_reducible refine gate_builtin (b := .append) (xs:=#[.tmp 93, .tmp 95]) rfl ?_);at_builtin;refine HS3.out.app7_w rfl (.tmp 93) (.tmp 95) rfl rfl rfl ?hn (by have h1_:=HV.out.lv;have h2_:=HV.out.le;omega) ?_;(case hn => first|rfl|(simp;done));intro v7 we hs_;rw [← HVt.out,← HLt.out] at hs_;obtain ⟨A6t,c6t,e6t,hc6t,_⟩:=hs_.h6.form;obtain ⟨A7t,c7t,e7t,hc7t,_⟩:=hs_.h7.form;subst e6t;subst e7t;have HC6:=Aside0.mk hc6t;have HC7:=Aside0.mk hc7t;have HS:=Aside0.mk hs_;have hgc:=HS.out.old HGC.out;clear HS3 hs_ hc6t hc7t))
        have HN6:=Aside0.mk hkl
        have HN7:=HNV
        obtain ⟨tk,htk⟩ : ∃ tk,Tt[kk]? = some tk:=⟨_,List.getElem?_eq_getElem hkl⟩
        obtain ⟨g6t,e6t⟩:=HS.out.h6.head hpos
        subst e6t
        have HTK:=Aside0.mk htk
        clear htk
        have HD : Aside0 (heap_Del.f 10 [[],Lt.map ent] 1 1 tk ⟨#[]⟩ 0 [] = some [[],(delL Lt tk).map ent]):=⟨del_f Lt tk HV2.out.rises ((HV2.out.key tk).2 (List.mem_of_getElem? HTK.out)) HV2.out.le⟩
        have n_:=Aside0.mk (HS.out.far (below_drew (Below.refl _ _)))
        clear HS
        have HS:=n_
        clear n_
        refine start_ (n:=8) (S:=fun w' => w'.cell? ⟨gs,0,none⟩ = some (.slice Ap 2 cp) ∧ w'.cell? ⟨g6t,kk,none⟩ = some (.int .i64 tk)) (ds:=[7]) #[false,false,false,false,false,false,false,false] (by kernel_rfl) rfl rfl ⟨(blk_cell HS.out.box 0).trans rfl,(HS.out.h6.cell kk HTK.out).1⟩ (fun hHeld => ?_)
        refine with_tabW ho.tab30 ho.bits30 (fun HT_ HW_ => ?_)
        generalize we.drew = wq2 at HS hHeld ⊢
        refine pure_ (i:=1) (N:=some 122) (v:=?_) (a':=?_) #[false,true,false,false,false,false,false,false] rfl rfl (any_of HT_.out (by kernel_rfl)) (fun _ _ _ h => h) (Or.inl ⟨by rfl,?_⟩) ?_ ?_
        rotate_left
        ·intro w'
         go_simp
         with_reducible rfl
        rotate_left
        ·simp only [Act.put,List.setIfInBounds_toArray,List.set_cons_zero,List.set_cons_succ,i64_w,i32_w]
         rfl
        refine pure_ (i:=2) (N:=some 123) (v:=?_) (a':=?_) #[false,true,true,false,false,false,false,false] rfl rfl (any_of HT_.out (by kernel_rfl)) (fun _ _ _ h => h) (Or.inl ⟨by rfl,?_⟩) ?_ ?_
        rotate_left
        ·intro w'
         go_simp
         with_reducible rfl
        rotate_left
        ·simp only [Act.put,List.setIfInBounds_toArray,List.set_cons_zero,List.set_cons_succ,i64_w,i32_w]
         rfl
        refine pure_ (i:=3) (N:=some 124) (v:=?_) (a':=?_) #[false,true,true,true,false,false,false,false] rfl rfl (any_of HT_.out (by kernel_rfl)) (fun _ _ _ h => h) (Or.inl ⟨by rfl,?_⟩) ?_ ?_
        rotate_left
        ·intro w'
         go_simp
         with_reducible rfl
        rotate_left
        ·simp only [Act.put,List.setIfInBounds_toArray,List.set_cons_zero,List.set_cons_succ,i64_w,i32_w]
         rfl
        refine take_ (i:=0) (N:=some 121) (v:=?_) (a':=?_) #[true,true,true,true,false,false,false,false] rfl rfl (take_ofW HT_.out HW_.out (by kernel_rfl)) (fun _ _ _ h => h) (Or.inl ⟨by rfl,?_⟩) hHeld ?_ ?_
        rotate_left
        ·rintro w' ⟨s0,s1⟩
         go_simp
         with_reducible rfl
        rotate_left
        ·simp only [Act.put,List.setIfInBounds_toArray,List.set_cons_zero,List.set_cons_succ,i64_w,i32_w]
         rfl
        refine take_ (i:=4) (N:=some 125) (v:=?_) (a':=?_) #[true,true,true,true,true,false,false,false] rfl rfl (take_ofW HT_.out HW_.out (by kernel_rfl)) (fun _ _ _ h => h) (Or.inl ⟨by rfl,?_⟩) hHeld ?_ ?_
        rotate_left
        ·rintro w' ⟨s0,s1⟩
         go_simp
         with_reducible rfl
        rotate_left
        ·simp only [Act.put,List.setIfInBounds_toArray,List.set_cons_zero,List.set_cons_succ,i64_w,i32_w]
         rfl
        refine one_ (i:=5) (N:=some 126) #[true,true,true,true,true,true,false,false] rfl rfl (one_of HT_.out (by kernel_rfl)) (by decide) (fun K hK => ?_)
        refine goes_ Try.func11 (by kernel_rfl) rfl #[.int .i64 tk] (by rfl) rfl rfl (by simp only [List.map_toArray,List.map_cons,List.map_nil];rfl) ?_
        with_reducible refine (num_v tk _).mono ?_
        rintro e_ wk2 ⟨Ak2,ck2,rfl,hbk⟩
        refine ⟨_,rfl,?_⟩
        have n_:=Aside0.mk (HS.out.far hbk)
        clear HS
        have HS:=n_
        clear n_
        refine hK.out _ _ ⟨(blk_cell HS.out.box 0).trans rfl,(HS.out.h6.cell kk HTK.out).1⟩ (fun hHeld => ?_)
        clear hK K
        refine norm_ (a':=?_) ?_ ?_
        rotate_left
        ·show Act.put _ (some 126) _ = _
         simp only [Act.put,List.setIfInBounds_toArray,List.set_cons_zero,List.set_cons_succ,i64_w,i32_w]
         rfl
        refine one_ (i:=6) (N:=some 127) #[true,true,true,true,true,true,true,false] rfl rfl (one_of HT_.out (by kernel_rfl)) (by decide) (fun K hK => ?_)
        refine goes_ Try.func12 (by kernel_rfl) rfl #[.agg #[.slice Ap 2 cp], .int .i64 1, .agg #[.int .i64 1, .int .i64 tk, .string ⟨#[]⟩, .int .i64 0, .slice Ak2 ([] : List S35).length ck2]] (by rfl) rfl rfl (by simp only [List.map_toArray,List.map_cons,List.map_nil];rfl) ?_
        with_reducible refine (del_two HS.out.hs HD.out).mono ?_
        rintro e_ wd2 ⟨v0,rfl,hV,hbd⟩
        refine ⟨_,rfl,?_⟩
        have HSd:=Aside0.mk (HS.out.far hbd)
        obtain ⟨Ad,nd,cd,rfl⟩ : ∃ A n c,v0 = Value.slice A n c:=by obtain ⟨A,c,e⟩:=Kd.V_slice hV;exact ⟨A,_,c,e⟩
        have HSn:=Aside0.mk (HS.out.sets hbd (L':=delL Lt tk) hV (fun k hk => hk))
        clear HS hV hbd
        refine hK.out _ _ ⟨(blk_cell HSd.out.box 0).trans rfl,(HSd.out.h6.cell kk HTK.out).1⟩ (fun hHeld => ?_)
        clear hK K
        refine norm_ (a':=?_) ?_ ?_
        rotate_left
        ·show Act.put _ (some 127) _ = _
         simp only [Act.put,List.setIfInBounds_toArray,List.set_cons_zero,List.set_cons_succ,i64_w,i32_w]
         rfl
        refine last_ (i:=7) (N:=none) #[true,true,true,true,true,true,true,true] rfl rfl (one_of HT_.out (by kernel_rfl)) (by decide) (fun K hK => ?_)
        have hc7_ : wd2.cell? ⟨gs,0,none⟩ = some (.slice Ap 2 cp):=(blk_cell HSd.out.box 0).trans rfl
        have hf7_:=blk_frozen HSd.out.box 0
        refine skip_ (w1:=?_) (by rfl) rfl ?_ ?_
        rotate_left
        ·go_simp
         rfl
        refine hK.out _ _ ?_
        clear hK K
        refine done_ (done_of HT_.out (by kernel_rfl)) ?_
        
        generalize (wd2.setCell ⟨gs,0,none⟩ (.slice Ad nd cd)) = wf at HSn ⊢
        clear hc7_ hf7_ HSd hHeld
        go_wp2
        have hca:=cut_a (some ⟨g6t,0,none⟩) Tt.length c6t kk HN6.out HC6.out
        obtain ⟨Bx6,hBx,hcb⟩:=cut_b (some ⟨g6t,0,none⟩) Tt.length c6t kk HN6.out
        have HBX6:=Aside0.mk hBx
        clear hBx
        have n_:=Aside0.mk (HSn.out.far (below_drew (Below.refl _ _)))
        clear HSn
        have HSn:=n_
        clear n_
        refine start_ (n:=10) (S:=fun w' => True) (ds:=[]) #[false,false,false,false,false,false,false,false,false,false] (by kernel_rfl) rfl rfl trivial (fun hHeld => ?_)
        refine with_tabW ho.tab31 ho.bits31 (fun HT_ HW_ => ?_)
        refine pure_ (i:=0) (N:=some 128) (v:=?_) (a':=?_) #[true,false,false,false,false,false,false,false,false,false] rfl rfl (any_of HT_.out (by kernel_rfl)) (fun _ _ _ h => h) (Or.inl ⟨by rfl,?_⟩) ?_ ?_
        rotate_left
        ·intro w'
         go_simp
         with_reducible rfl
        rotate_left
        ·simp only [Act.put,List.setIfInBounds_toArray,List.set_cons_zero,List.set_cons_succ,i64_w,i32_w]
         rfl
        refine pure_ (i:=1) (N:=some 129) (v:=?_) (a':=?_) #[true,true,false,false,false,false,false,false,false,false] rfl rfl (any_of HT_.out (by kernel_rfl)) (fun _ _ _ h => h) (Or.inl ⟨by rfl,?_⟩) ?_ ?_
        rotate_left
        ·intro w'
         go_simp
         with_reducible rfl
        rotate_left
        ·simp only [Act.put,List.setIfInBounds_toArray,List.set_cons_zero,List.set_cons_succ,i64_w,i32_w]
         rfl
        refine pure_ (i:=2) (N:=some 130) (v:=?_) (a':=?_) #[true,true,true,false,false,false,false,false,false,false] rfl rfl (any_of HT_.out (by kernel_rfl)) (fun _ _ _ h => h) (Or.inl ⟨by rfl,?_⟩) ?_ ?_
        rotate_left
        ·intro w'
         go_simp
         with_reducible rfl
        rotate_left
        ·simp only [Act.put,List.setIfInBounds_toArray,List.set_cons_zero,List.set_cons_succ,i64_w,i32_w]
         rfl
        refine pure_ (i:=3) (N:=some 131) (v:=?_) (a':=?_) #[true,true,true,true,false,false,false,false,false,false] rfl rfl (any_of HT_.out (by kernel_rfl)) (fun _ _ _ h => h) (Or.inl ⟨by rfl,?_⟩) ?_ ?_
        rotate_left
        ·intro w'
         go_simp
         with_reducible rfl
        rotate_left
        ·simp only [Act.put,List.setIfInBounds_toArray,List.set_cons_zero,List.set_cons_succ,i64_w,i32_w]
         rfl
        refine pure_ (i:=4) (N:=some 132) (v:=?_) (a':=?_) #[true,true,true,true,true,false,false,false,false,false] rfl rfl (any_of HT_.out (by kernel_rfl)) (fun _ _ _ h => h) (Or.inl ⟨by rfl,?_⟩) ?_ ?_
        rotate_left
        ·intro w'
         go_simp
         with_reducible rfl
        rotate_left
        ·simp only [Act.put,List.setIfInBounds_toArray,List.set_cons_zero,List.set_cons_succ,i64_w,i32_w]
         rfl
        refine pure_ (i:=5) (N:=some 133) (v:=?_) (a':=?_) #[true,true,true,true,true,true,false,false,false,false] rfl rfl (any_of HT_.out (by kernel_rfl)) (fun _ _ _ h => h) (Or.inl ⟨by rfl,?_⟩) ?_ ?_
        rotate_left
        ·intro w'
         go_simp
         with_reducible rfl
        rotate_left
        ·simp only [Act.put,List.setIfInBounds_toArray,List.set_cons_zero,List.set_cons_succ,i64_w,i32_w]
         rfl
        refine pure_ (i:=6) (N:=some 134) (v:=?_) (a':=?_) #[true,true,true,true,true,true,true,false,false,false] rfl rfl (any_of HT_.out (by kernel_rfl)) (fun _ _ _ h => h) (Or.inl ⟨by rfl,?_⟩) ?_ ?_
        rotate_left
        ·intro w'
         go_simp
         with_reducible rfl
        rotate_left
        ·simp only [Act.put,List.setIfInBounds_toArray,List.set_cons_zero,List.set_cons_succ,i64_w,i32_w]
         rfl
        refine pure_ (i:=7) (N:=some 135) (v:=?_) (a':=?_) #[true,true,true,true,true,true,true,true,false,false] rfl rfl (any_of HT_.out (by kernel_rfl)) (fun _ _ _ h => h) (Or.inl ⟨by rfl,?_⟩) ?_ ?_
        rotate_left
        ·intro w'
         go_simp
         with_reducible rfl
        rotate_left
        ·simp only [Act.put,List.setIfInBounds_toArray,List.set_cons_zero,List.set_cons_succ,i64_w,i32_w]
         rfl
        refine one_ (i:=8) (N:=some 136) #[true,true,true,true,true,true,true,true,true,false] rfl rfl (one_of HT_.out (by kernel_rfl)) (by decide) (fun K hK => ?_)
        obtain ⟨v6n,wg,hr_,hs_⟩:=HSn.out.del6 Try.underlying28 info2 kk HN6.out HV2.out.t1000.1 28
        rw [← HBX6.out] at hr_
        have HSo:=Aside0.mk hs_
        clear hs_ HSn
        refine append_s rfl (.tmp 131) (.tmp 135) rfl rfl rfl hr_ ?_
        clear hr_
        refine hK.out _ _ trivial (fun hHeld => ?_)
        clear hK K
        refine norm_ (a':=?_) ?_ ?_
        rotate_left
        ·show Act.put _ (some 136) _ = _
         simp only [Act.put,List.setIfInBounds_toArray,List.set_cons_zero,List.set_cons_succ,i64_w,i32_w]
         rfl
        refine pure_ (i:=9) (N:=some 6) (v:=?_) (a':=?_) #[true,true,true,true,true,true,true,true,true,true] rfl rfl (any_of HT_.out (by kernel_rfl)) (fun _ _ _ h => h) (Or.inl ⟨by rfl,?_⟩) ?_ ?_
        rotate_left
        ·intro w'
         go_simp
         with_reducible rfl
        rotate_left
        ·simp only [Act.put,List.setIfInBounds_toArray,List.set_cons_zero,List.set_cons_succ,i64_w,i32_w]
         rfl
        refine done_ (done_of HT_.out (by kernel_rfl)) ?_
        
        clear hca hcb
        go_wp2
        have hca:=cut_a A7t Vt.length c7t kk HN7.out HC7.out
        obtain ⟨Bx7,hBx,hcb⟩:=cut_b A7t Vt.length c7t kk HN7.out
        have HBX7:=Aside0.mk hBx
        clear hBx
        have n_:=Aside0.mk (HSo.out.far (below_drew (Below.refl _ _)))
        clear HSo
        have HSo:=n_
        clear n_
        refine start_ (n:=10) (S:=fun w' => True) (ds:=[]) #[false,false,false,false,false,false,false,false,false,false] (by kernel_rfl) rfl rfl trivial (fun hHeld => ?_)
        refine with_tabW ho.tab32 ho.bits32 (fun HT_ HW_ => ?_)
        refine pure_ (i:=0) (N:=some 137) (v:=?_) (a':=?_) #[true,false,false,false,false,false,false,false,false,false] rfl rfl (any_of HT_.out (by kernel_rfl)) (fun _ _ _ h => h) (Or.inl ⟨by rfl,?_⟩) ?_ ?_
        rotate_left
        ·intro w'
         go_simp
         with_reducible rfl
        rotate_left
        ·simp only [Act.put,List.setIfInBounds_toArray,List.set_cons_zero,List.set_cons_succ,i64_w,i32_w]
         rfl
        refine pure_ (i:=1) (N:=some 138) (v:=?_) (a':=?_) #[true,true,false,false,false,false,false,false,false,false] rfl rfl (any_of HT_.out (by kernel_rfl)) (fun _ _ _ h => h) (Or.inl ⟨by rfl,?_⟩) ?_ ?_
        rotate_left
        ·intro w'
         go_simp
         with_reducible rfl
        rotate_left
        ·simp only [Act.put,List.setIfInBounds_toArray,List.set_cons_zero,List.set_cons_succ,i64_w,i32_w]
         rfl
        refine pure_ (i:=2) (N:=some 139) (v:=?_) (a':=?_) #[true,true,true,false,false,false,false,false,false,false] rfl rfl (any_of HT_.out (by kernel_rfl)) (fun _ _ _ h => h) (Or.inl ⟨by rfl,?_⟩) ?_ ?_
        rotate_left
        ·intro w'
         go_simp
         with_reducible rfl
        rotate_left
        ·simp only [Act.put,List.setIfInBounds_toArray,List.set_cons_zero,List.set_cons_succ,i64_w,i32_w]
         rfl
        refine pure_ (i:=3) (N:=some 140) (v:=?_) (a':=?_) #[true,true,true,true,false,false,false,false,false,false] rfl rfl (any_of HT_.out (by kernel_rfl)) (fun _ _ _ h => h) (Or.inl ⟨by rfl,?_⟩) ?_ ?_
        rotate_left
        ·intro w'
         go_simp
         with_reducible rfl
        rotate_left
        ·simp only [Act.put,List.setIfInBounds_toArray,List.set_cons_zero,List.set_cons_succ,i64_w,i32_w]
         rfl
        refine pure_ (i:=4) (N:=some 141) (v:=?_) (a':=?_) #[true,true,true,true,true,false,false,false,false,false] rfl rfl (any_of HT_.out (by kernel_rfl)) (fun _ _ _ h => h) (Or.inl ⟨by rfl,?_⟩) ?_ ?_
        rotate_left
        ·intro w'
         go_simp
         with_reducible rfl
        rotate_left
        ·simp only [Act.put,List.setIfInBounds_toArray,List.set_cons_zero,List.set_cons_succ,i64_w,i32_w]
         rfl
        refine pure_ (i:=5) (N:=some 142) (v:=?_) (a':=?_) #[true,true,true,true,true,true,false,false,false,false] rfl rfl (any_of HT_.out (by kernel_rfl)) (fun _ _ _ h => h) (Or.inl ⟨by rfl,?_⟩) ?_ ?_
        rotate_left
        ·intro w'
         go_simp
         with_reducible rfl
        rotate_left
        ·simp only [Act.put,List.setIfInBounds_toArray,List.set_cons_zero,List.set_cons_succ,i64_w,i32_w]
         rfl
        refine pure_ (i:=6) (N:=some 143) (v:=?_) (a':=?_) #[true,true,true,true,true,true,true,false,false,false] rfl rfl (any_of HT_.out (by kernel_rfl)) (fun _ _ _ h => h) (Or.inl ⟨by rfl,?_⟩) ?_ ?_
        rotate_left
        ·intro w'
         go_simp
         with_reducible rfl
        rotate_left
        ·simp only [Act.put,List.setIfInBounds_toArray,List.set_cons_zero,List.set_cons_succ,i64_w,i32_w]
         rfl
        refine pure_ (i:=7) (N:=some 144) (v:=?_) (a':=?_) #[true,true,true,true,true,true,true,true,false,false] rfl rfl (any_of HT_.out (by kernel_rfl)) (fun _ _ _ h => h) (Or.inl ⟨by rfl,?_⟩) ?_ ?_
        rotate_left
        ·intro w'
         go_simp
         with_reducible rfl
        rotate_left
        ·simp only [Act.put,List.setIfInBounds_toArray,List.set_cons_zero,List.set_cons_succ,i64_w,i32_w]
         rfl
        refine one_ (i:=8) (N:=some 145) #[true,true,true,true,true,true,true,true,true,false] rfl rfl (one_of HT_.out (by kernel_rfl)) (by decide) (fun K hK => ?_)
        obtain ⟨v7n,wh,hr_,hs_⟩:=HSo.out.del7 Try.underlying28 info2 kk HNV.out HV2.out.t1000.2 28
        rw [← HBX7.out] at hr_
        have HSz:=Aside0.mk hs_
        clear hs_ HSo
        refine append_s rfl (.tmp 140) (.tmp 144) rfl rfl rfl hr_ ?_
        clear hr_
        refine hK.out _ _ trivial (fun hHeld => ?_)
        clear hK K
        refine norm_ (a':=?_) ?_ ?_
        rotate_left
        ·show Act.put _ (some 145) _ = _
         simp only [Act.put,List.setIfInBounds_toArray,List.set_cons_zero,List.set_cons_succ,i64_w,i32_w]
         rfl
        refine pure_ (i:=9) (N:=some 7) (v:=?_) (a':=?_) #[true,true,true,true,true,true,true,true,true,true] rfl rfl (any_of HT_.out (by kernel_rfl)) (fun _ _ _ h => h) (Or.inl ⟨by rfl,?_⟩) ?_ ?_
        rotate_left
        ·intro w'
         go_simp
         with_reducible rfl
        rotate_left
        ·simp only [Act.put,List.setIfInBounds_toArray,List.set_cons_zero,List.set_cons_succ,i64_w,i32_w]
         rfl
        refine done_ (done_of HT_.out (by kernel_rfl)) ?_
        
        clear hca hcb
        go_wp2
        go_roundg k1
        case measure => exact Nat.lt_succ_self _
        case rel => exact ⟨i + 1,_,_,_,_,next_i i HI1.out,HI2,HSz,⟨HV2.out.out kk HTK.out⟩⟩
     ·subst hm
      have hp:=HP.out
      rw [hpf] at hp
      injection hp with hp
      injection hp with hp1 hp2
      subst hp1
      subst hp2
      obtain rfl : np = 2:=by rw [(Kd.V_at HVP.out).1];rfl
      have hd11 : decide ((jm : Int) < (0 : Int)) = false:=decide_eq_false (by omega)
      have hjv : jm < V.length:=by have h1_:=HV.out.lv;have h2_:=HV.out.lt;omega
      obtain ⟨g7,e7⟩:=HS.out.h7.head (by omega)
      subst e7
      have HS2:=Aside0.mk (HS.out.sets (Below.refl _ _) (L':=putL L ky (i : Int)) HVP.out (fun k hk => .inl hk))
      obtain ⟨hc7,hf7⟩:=HS2.out.h7.cell jm (List.getElem?_eq_getElem hjv)
      have HS:=Aside0.mk (HS2.out.put7 jm (i : Int))
      have HV2:=Aside0.mk (HV.out.again ky (i : Int) jm hjk)
      clear hmn hjk hpf
      by_cases hgl : i < x1.length
      case neg =>
       have hdg : decide ((i : Int) < (x1.length : Int)) = false:=decide_eq_false (by omega)
       have hdh : decide (i < x1.length) = false:=decide_eq_false hgl
       go_wp2
       go_roundg k1
       case measure => exact Nat.lt_succ_self _
       case rel => exact ⟨i + 1,_,_,_,_,next_i i HI1.out,HI2,HS,HV2⟩
      case pos =>
       have hdg : decide ((i : Int) < (x1.length : Int)) = true:=decide_eq_true (by omega)
       have hdh : decide (i < x1.length) = true:=decide_eq_true hgl
       obtain ⟨adg,eg,hxg⟩:=Kd.at_int R1.out (i : Int) (by omega) (by omega)
       cases eg
       obtain ⟨gy,hgy⟩ : ∃ gy,gy = rd x1 (i : Int):=⟨_,rfl⟩
       rw [← hgy,Int.toNat_natCast] at hxg
       have HG8:=Aside0.mk (wf8 gy (W1.out gy (by rw [hgy];exact rd_mem x1 i hgl)))
       have HGC:=Aside0.mk hxg
       clear hxg hgy
       by_cases hrm : gy.tmod 3 = 0
       case neg =>
        have hrb : (gy.tmod 3 == 0) = false:=by simpa using hrm
        clear hrm
        have hgc:=HS.out.old HGC.out
        go_wp2
        go_roundg k1
        case measure => exact Nat.lt_succ_self _
        case rel => exact ⟨i + 1,_,_,_,_,next_i i HI1.out,HI2,HS,HV2⟩
       case pos =>
        have hrb : (gy.tmod 3 == 0) = true:=by simpa using hrm
        clear hrm
        have hwg : wrap64 gy = gy:=wrap8 gy HG8.out
        obtain ⟨Lt,hLt⟩ : ∃ l,l = putL L ky (i : Int):=⟨_,rfl⟩
        obtain ⟨Vt,hVt⟩ : ∃ t,t = V.set jm (i : Int):=⟨_,rfl⟩
        rw [← hLt,← hVt] at HV2 HS
        have HN7_:=Aside0.mk (show V.length = Vt.length by rw [hVt,List.length_set])
        clear hLt hVt
        have hpos : 0 < T.length:=by exact Nat.lt_of_le_of_lt (Nat.zero_le _) hjm
        obtain ⟨kk,hkk,hkl⟩ : ∃ kk : Nat,gy.tmod (T.length : Int) = (kk : Int) ∧ kk < T.length:=tmod_nat gy T.length HG8.out.1 hpos
        have hnz:=(nz_beq hpos).1
        have hnz2:=(nz_beq hpos).2
        have hwk1:=(HV2.out.wraps hkl).2
        have hwk0:=(HV2.out.wraps hkl).1
        have HNV:=Aside0.mk (HV2.out.kv hkl)
        have hgc:=HS.out.old HGC.out
        go_wp2
        clear hgc
        generalize ((wb.setCell ⟨gs,0,none⟩ (.slice Ap 2 cp)).setCell ⟨g7,jm,none⟩ (.int .i64 (i : Int))) = we at HS ⊢
        have HC6:=HL6
        have HC7:=HL7
        have HN6:=Aside0.mk hkl
        have HN7:=Aside0.mk (show kk < V.length from HN7_.out ▸ HNV.out)
        obtain ⟨tk,htk⟩ : ∃ tk,T[kk]? = some tk:=⟨_,List.getElem?_eq_getElem hkl⟩
        obtain ⟨g6t,e6t⟩:=HS.out.h6.head hpos
        subst e6t
        have HTK:=Aside0.mk htk
        clear htk
        have HD : Aside0 (heap_Del.f 10 [[],Lt.map ent] 1 1 tk ⟨#[]⟩ 0 [] = some [[],(delL Lt tk).map ent]):=⟨del_f Lt tk HV2.out.rises ((HV2.out.key tk).2 (List.mem_of_getElem? HTK.out)) HV2.out.le⟩
        have n_:=Aside0.mk (HS.out.far (below_drew (Below.refl _ _)))
        clear HS
        have HS:=n_
        clear n_
        refine start_ (n:=8) (S:=fun w' => w'.cell? ⟨gs,0,none⟩ = some (.slice Ap 2 cp) ∧ w'.cell? ⟨g6t,kk,none⟩ = some (.int .i64 tk)) (ds:=[7]) #[false,false,false,false,false,false,false,false] (by kernel_rfl) rfl rfl ⟨(blk_cell HS.out.box 0).trans rfl,(HS.out.h6.cell kk HTK.out).1⟩ (fun hHeld => ?_)
        refine with_tabW ho.tab30 ho.bits30 (fun HT_ HW_ => ?_)
        generalize we.drew = wq2 at HS hHeld ⊢
        refine pure_ (i:=1) (N:=some 122) (v:=?_) (a':=?_) #[false,true,false,false,false,false,false,false] rfl rfl (any_of HT_.out (by kernel_rfl)) (fun _ _ _ h => h) (Or.inl ⟨by rfl,?_⟩) ?_ ?_
        rotate_left
        ·intro w'
         go_simp
         with_reducible rfl
        rotate_left
        ·simp only [Act.put,List.setIfInBounds_toArray,List.set_cons_zero,List.set_cons_succ,i64_w,i32_w]
         rfl
        refine pure_ (i:=2) (N:=some 123) (v:=?_) (a':=?_) #[false,true,true,false,false,false,false,false] rfl rfl (any_of HT_.out (by kernel_rfl)) (fun _ _ _ h => h) (Or.inl ⟨by rfl,?_⟩) ?_ ?_
        rotate_left
        ·intro w'
         go_simp
         with_reducible rfl
        rotate_left
        ·simp only [Act.put,List.setIfInBounds_toArray,List.set_cons_zero,List.set_cons_succ,i64_w,i32_w]
         rfl
        refine pure_ (i:=3) (N:=some 124) (v:=?_) (a':=?_) #[false,true,true,true,false,false,false,false] rfl rfl (any_of HT_.out (by kernel_rfl)) (fun _ _ _ h => h) (Or.inl ⟨by rfl,?_⟩) ?_ ?_
        rotate_left
        ·intro w'
         go_simp
         with_reducible rfl
        rotate_left
        ·simp only [Act.put,List.setIfInBounds_toArray,List.set_cons_zero,List.set_cons_succ,i64_w,i32_w]
         rfl
        refine take_ (i:=0) (N:=some 121) (v:=?_) (a':=?_) #[true,true,true,true,false,false,false,false] rfl rfl (take_ofW HT_.out HW_.out (by kernel_rfl)) (fun _ _ _ h => h) (Or.inl ⟨by rfl,?_⟩) hHeld ?_ ?_
        rotate_left
        ·rintro w' ⟨s0,s1⟩
         go_simp
         with_reducible rfl
        rotate_left
        ·simp only [Act.put,List.setIfInBounds_toArray,List.set_cons_zero,List.set_cons_succ,i64_w,i32_w]
         rfl
        refine take_ (i:=4) (N:=some 125) (v:=?_) (a':=?_) #[true,true,true,true,true,false,false,false] rfl rfl (take_ofW HT_.out HW_.out (by kernel_rfl)) (fun _ _ _ h => h) (Or.inl ⟨by rfl,?_⟩) hHeld ?_ ?_
        rotate_left
        ·rintro w' ⟨s0,s1⟩
         go_simp
         with_reducible rfl
        rotate_left
        ·simp only [Act.put,List.setIfInBounds_toArray,List.set_cons_zero,List.set_cons_succ,i64_w,i32_w]
         rfl
        refine one_ (i:=5) (N:=some 126) #[true,true,true,true,true,true,false,false] rfl rfl (one_of HT_.out (by kernel_rfl)) (by decide) (fun K hK => ?_)
        refine goes_ Try.func11 (by kernel_rfl) rfl #[.int .i64 tk] (by rfl) rfl rfl (by simp only [List.map_toArray,List.map_cons,List.map_nil];rfl) ?_
        with_reducible refine (num_v tk _).mono ?_
        rintro e_ wk2 ⟨Ak2,ck2,rfl,hbk⟩
        refine ⟨_,rfl,?_⟩
        have n_:=Aside0.mk (HS.out.far hbk)
        clear HS
        have HS:=n_
        clear n_
        refine hK.out _ _ ⟨(blk_cell HS.out.box 0).trans rfl,(HS.out.h6.cell kk HTK.out).1⟩ (fun hHeld => ?_)
        clear hK K
        refine norm_ (a':=?_) ?_ ?_
        rotate_left
        ·show Act.put _ (some 126) _ = _
         simp only [Act.put,List.setIfInBounds_toArray,List.set_cons_zero,List.set_cons_succ,i64_w,i32_w]
         rfl
        refine one_ (i:=6) (N:=some 127) #[true,true,true,true,true,true,true,false] rfl rfl (one_of HT_.out (by kernel_rfl)) (by decide) (fun K hK => ?_)
        refine goes_ Try.func12 (by kernel_rfl) rfl #[.agg #[.slice Ap 2 cp], .int .i64 1, .agg #[.int .i64 1, .int .i64 tk, .string ⟨#[]⟩, .int .i64 0, .slice Ak2 ([] : List S35).length ck2]] (by rfl) rfl rfl (by simp only [List.map_toArray,List.map_cons,List.map_nil];rfl) ?_
        with_reducible refine (del_two HS.out.hs HD.out).mono ?_
        rintro e_ wd2 ⟨v0,rfl,hV,hbd⟩
        refine ⟨_,rfl,?_⟩
        have HSd:=Aside0.mk (HS.out.far hbd)
        obtain ⟨Ad,nd,cd,rfl⟩ : ∃ A n c,v0 = Value.slice A n c:=by obtain ⟨A,c,e⟩:=Kd.V_slice hV;exact ⟨A,_,c,e⟩
        have HSn:=Aside0.mk (HS.out.sets hbd (L':=delL Lt tk) hV (fun k hk => hk))
        clear HS hV hbd
        refine hK.out _ _ ⟨(blk_cell HSd.out.box 0).trans rfl,(HSd.out.h6.cell kk HTK.out).1⟩ (fun hHeld => ?_)
        clear hK K
        refine norm_ (a':=?_) ?_ ?_
        rotate_left
        ·show Act.put _ (some 127) _ = _
         simp only [Act.put,List.setIfInBounds_toArray,List.set_cons_zero,List.set_cons_succ,i64_w,i32_w]
         rfl
        refine last_ (i:=7) (N:=none) #[true,true,true,true,true,true,true,true] rfl rfl (one_of HT_.out (by kernel_rfl)) (by decide) (fun K hK => ?_)
        have hc7_ : wd2.cell? ⟨gs,0,none⟩ = some (.slice Ap 2 cp):=(blk_cell HSd.out.box 0).trans rfl
        have hf7_:=blk_frozen HSd.out.box 0
        refine skip_ (w1:=?_) (by rfl) rfl ?_ ?_
        rotate_left
        ·go_simp
         rfl
        refine hK.out _ _ ?_
        clear hK K
        refine done_ (done_of HT_.out (by kernel_rfl)) ?_
        
        generalize (wd2.setCell ⟨gs,0,none⟩ (.slice Ad nd cd)) = wf at HSn ⊢
        clear hc7_ hf7_ HSd hHeld
        go_wp2
        have hca:=cut_a (some ⟨g6t,0,none⟩) T.length c6 kk HN6.out HC6.out
        obtain ⟨Bx6,hBx,hcb⟩:=cut_b (some ⟨g6t,0,none⟩) T.length c6 kk HN6.out
        have HBX6:=Aside0.mk hBx
        clear hBx
        have n_:=Aside0.mk (HSn.out.far (below_drew (Below.refl _ _)))
        clear HSn
        have HSn:=n_
        clear n_
        refine start_ (n:=10) (S:=fun w' => True) (ds:=[]) #[false,false,false,false,false,false,false,false,false,false] (by kernel_rfl) rfl rfl trivial (fun hHeld => ?_)
        refine with_tabW ho.tab31 ho.bits31 (fun HT_ HW_ => ?_)
        refine pure_ (i:=0) (N:=some 128) (v:=?_) (a':=?_) #[true,false,false,false,false,false,false,false,false,false] rfl rfl (any_of HT_.out (by kernel_rfl)) (fun _ _ _ h => h) (Or.inl ⟨by rfl,?_⟩) ?_ ?_
        rotate_left
        ·intro w'
         go_simp
         with_reducible rfl
        rotate_left
        ·simp only [Act.put,List.setIfInBounds_toArray,List.set_cons_zero,List.set_cons_succ,i64_w,i32_w]
         rfl
        refine pure_ (i:=1) (N:=some 129) (v:=?_) (a':=?_) #[true,true,false,false,false,false,false,false,false,false] rfl rfl (any_of HT_.out (by kernel_rfl)) (fun _ _ _ h => h) (Or.inl ⟨by rfl,?_⟩) ?_ ?_
        rotate_left
        ·intro w'
         go_simp
         with_reducible rfl
        rotate_left
        ·simp only [Act.put,List.setIfInBounds_toArray,List.set_cons_zero,List.set_cons_succ,i64_w,i32_w]
         rfl
        refine pure_ (i:=2) (N:=some 130) (v:=?_) (a':=?_) #[true,true,true,false,false,false,false,false,false,false] rfl rfl (any_of HT_.out (by kernel_rfl)) (fun _ _ _ h => h) (Or.inl ⟨by rfl,?_⟩) ?_ ?_
        rotate_left
        ·intro w'
         go_simp
         with_reducible rfl
        rotate_left
        ·simp only [Act.put,List.setIfInBounds_toArray,List.set_cons_zero,List.set_cons_succ,i64_w,i32_w]
         rfl
        refine pure_ (i:=3) (N:=some 131) (v:=?_) (a':=?_) #[true,true,true,true,false,false,false,false,false,false] rfl rfl (any_of HT_.out (by kernel_rfl)) (fun _ _ _ h => h) (Or.inl ⟨by rfl,?_⟩) ?_ ?_
        rotate_left
        ·intro w'
         go_simp
         with_reducible rfl
        rotate_left
        ·simp only [Act.put,List.setIfInBounds_toArray,List.set_cons_zero,List.set_cons_succ,i64_w,i32_w]
         rfl
        refine pure_ (i:=4) (N:=some 132) (v:=?_) (a':=?_) #[true,true,true,true,true,false,false,false,false,false] rfl rfl (any_of HT_.out (by kernel_rfl)) (fun _ _ _ h => h) (Or.inl ⟨by rfl,?_⟩) ?_ ?_
        rotate_left
        ·intro w'
         go_simp
         with_reducible rfl
        rotate_left
        ·simp only [Act.put,List.setIfInBounds_toArray,List.set_cons_zero,List.set_cons_succ,i64_w,i32_w]
         rfl
        refine pure_ (i:=5) (N:=some 133) (v:=?_) (a':=?_) #[true,true,true,true,true,true,false,false,false,false] rfl rfl (any_of HT_.out (by kernel_rfl)) (fun _ _ _ h => h) (Or.inl ⟨by rfl,?_⟩) ?_ ?_
        rotate_left
        ·intro w'
         go_simp
         with_reducible rfl
        rotate_left
        ·simp only [Act.put,List.setIfInBounds_toArray,List.set_cons_zero,List.set_cons_succ,i64_w,i32_w]
         rfl
        refine pure_ (i:=6) (N:=some 134) (v:=?_) (a':=?_) #[true,true,true,true,true,true,true,false,false,false] rfl rfl (any_of HT_.out (by kernel_rfl)) (fun _ _ _ h => h) (Or.inl ⟨by rfl,?_⟩) ?_ ?_
        rotate_left
        ·intro w'
         go_simp
         with_reducible rfl
        rotate_left
        ·simp only [Act.put,List.setIfInBounds_toArray,List.set_cons_zero,List.set_cons_succ,i64_w,i32_w]
         rfl
        refine pure_ (i:=7) (N:=some 135) (v:=?_) (a':=?_) #[true,true,true,true,true,true,true,true,false,false] rfl rfl (any_of HT_.out (by kernel_rfl)) (fun _ _ _ h => h) (Or.inl ⟨by rfl,?_⟩) ?_ ?_
        rotate_left
        ·intro w'
         go_simp
         with_reducible rfl
        rotate_left
        ·simp only [Act.put,List.setIfInBounds_toArray,List.set_cons_zero,List.set_cons_succ,i64_w,i32_w]
         rfl
        refine one_ (i:=8) (N:=some 136) #[true,true,true,true,true,true,true,true,true,false] rfl rfl (one_of HT_.out (by kernel_rfl)) (by decide) (fun K hK => ?_)
        obtain ⟨v6n,wg,hr_,hs_⟩:=HSn.out.del6 Try.underlying28 info2 kk HN6.out HV2.out.t1000.1 28
        rw [← HBX6.out] at hr_
        have HSo:=Aside0.mk hs_
        clear hs_ HSn
        refine append_s rfl (.tmp 131) (.tmp 135) rfl rfl rfl hr_ ?_
        clear hr_
        refine hK.out _ _ trivial (fun hHeld => ?_)
        clear hK K
        refine norm_ (a':=?_) ?_ ?_
        rotate_left
        ·show Act.put _ (some 136) _ = _
         simp only [Act.put,List.setIfInBounds_toArray,List.set_cons_zero,List.set_cons_succ,i64_w,i32_w]
         rfl
        refine pure_ (i:=9) (N:=some 6) (v:=?_) (a':=?_) #[true,true,true,true,true,true,true,true,true,true] rfl rfl (any_of HT_.out (by kernel_rfl)) (fun _ _ _ h => h) (Or.inl ⟨by rfl,?_⟩) ?_ ?_
        rotate_left
        ·intro w'
         go_simp
         with_reducible rfl
        rotate_left
        ·simp only [Act.put,List.setIfInBounds_toArray,List.set_cons_zero,List.set_cons_succ,i64_w,i32_w]
         rfl
        refine done_ (done_of HT_.out (by kernel_rfl)) ?_
        
        clear hca hcb
        go_wp2
        have hca:=cut_a (some ⟨g7,0,none⟩) V.length c7 kk HN7.out HC7.out
        obtain ⟨Bx7,hBx,hcb⟩:=cut_b (some ⟨g7,0,none⟩) V.length c7 kk HN7.out
        have HBX7:=Aside0.mk hBx
        clear hBx
        have n_:=Aside0.mk (HSo.out.far (below_drew (Below.refl _ _)))
        clear HSo
        have HSo:=n_
        clear n_
        refine start_ (n:=10) (S:=fun w' => True) (ds:=[]) #[false,false,false,false,false,false,false,false,false,false] (by kernel_rfl) rfl rfl trivial (fun hHeld => ?_)
        refine with_tabW ho.tab32 ho.bits32 (fun HT_ HW_ => ?_)
        refine pure_ (i:=0) (N:=some 137) (v:=?_) (a':=?_) #[true,false,false,false,false,false,false,false,false,false] rfl rfl (any_of HT_.out (by kernel_rfl)) (fun _ _ _ h => h) (Or.inl ⟨by rfl,?_⟩) ?_ ?_
        rotate_left
        ·intro w'
         go_simp
         with_reducible rfl
        rotate_left
        ·simp only [Act.put,List.setIfInBounds_toArray,List.set_cons_zero,List.set_cons_succ,i64_w,i32_w]
         rfl
        refine pure_ (i:=1) (N:=some 138) (v:=?_) (a':=?_) #[true,true,false,false,false,false,false,false,false,false] rfl rfl (any_of HT_.out (by kernel_rfl)) (fun _ _ _ h => h) (Or.inl ⟨by rfl,?_⟩) ?_ ?_
        rotate_left
        ·intro w'
         go_simp
         with_reducible rfl
        rotate_left
        ·simp only [Act.put,List.setIfInBounds_toArray,List.set_cons_zero,List.set_cons_succ,i64_w,i32_w]
         rfl
        refine pure_ (i:=2) (N:=some 139) (v:=?_) (a':=?_) #[true,true,true,false,false,false,false,false,false,false] rfl rfl (any_of HT_.out (by kernel_rfl)) (fun _ _ _ h => h) (Or.inl ⟨by rfl,?_⟩) ?_ ?_
        rotate_left
        ·intro w'
         go_simp
         with_reducible rfl
        rotate_left
        ·simp only [Act.put,List.setIfInBounds_toArray,List.set_cons_zero,List.set_cons_succ,i64_w,i32_w]
         rfl
        refine pure_ (i:=3) (N:=some 140) (v:=?_) (a':=?_) #[true,true,true,true,false,false,false,false,false,false] rfl rfl (any_of HT_.out (by kernel_rfl)) (fun _ _ _ h => h) (Or.inl ⟨by rfl,?_⟩) ?_ ?_
        rotate_left
        ·intro w'
         go_simp
         with_reducible rfl
        rotate_left
        ·simp only [Act.put,List.setIfInBounds_toArray,List.set_cons_zero,List.set_cons_succ,i64_w,i32_w]
         rfl
        refine pure_ (i:=4) (N:=some 141) (v:=?_) (a':=?_) #[true,true,true,true,true,false,false,false,false,false] rfl rfl (any_of HT_.out (by kernel_rfl)) (fun _ _ _ h => h) (Or.inl ⟨by rfl,?_⟩) ?_ ?_
        rotate_left
        ·intro w'
         go_simp
         with_reducible rfl
        rotate_left
        ·simp only [Act.put,List.setIfInBounds_toArray,List.set_cons_zero,List.set_cons_succ,i64_w,i32_w]
         rfl
        refine pure_ (i:=5) (N:=some 142) (v:=?_) (a':=?_) #[true,true,true,true,true,true,false,false,false,false] rfl rfl (any_of HT_.out (by kernel_rfl)) (fun _ _ _ h => h) (Or.inl ⟨by rfl,?_⟩) ?_ ?_
        rotate_left
        ·intro w'
         go_simp
         with_reducible rfl
        rotate_left
        ·simp only [Act.put,List.setIfInBounds_toArray,List.set_cons_zero,List.set_cons_succ,i64_w,i32_w]
         rfl
        refine pure_ (i:=6) (N:=some 143) (v:=?_) (a':=?_) #[true,true,true,true,true,true,true,false,false,false] rfl rfl (any_of HT_.out (by kernel_rfl)) (fun _ _ _ h => h) (Or.inl ⟨by rfl,?_⟩) ?_ ?_
        rotate_left
        ·intro w'
         go_simp
         with_reducible rfl
        rotate_left
        ·simp only [Act.put,List.setIfInBounds_toArray,List.set_cons_zero,List.set_cons_succ,i64_w,i32_w]
         rfl
        refine pure_ (i:=7) (N:=some 144) (v:=?_) (a':=?_) #[true,true,true,true,true,true,true,true,false,false] rfl rfl (any_of HT_.out (by kernel_rfl)) (fun _ _ _ h => h) (Or.inl ⟨by rfl,?_⟩) ?_ ?_
        rotate_left
        ·intro w'
         go_simp
         with_reducible rfl
        rotate_left
        ·simp only [Act.put,List.setIfInBounds_toArray,List.set_cons_zero,List.set_cons_succ,i64_w,i32_w]
         rfl
        refine one_ (i:=8) (N:=some 145) #[true,true,true,true,true,true,true,true,true,false] rfl rfl (one_of HT_.out (by kernel_rfl)) (by decide) (fun K hK => ?_)
        obtain ⟨v7n,wh,hr_,hs_⟩:=HSo.out.del7 Try.underlying28 info2 kk HNV.out HV2.out.t1000.2 28
        rw [← HBX7.out] at hr_
        have HSz:=Aside0.mk hs_
        clear hs_ HSo
        refine append_s rfl (.tmp 140) (.tmp 144) rfl rfl rfl hr_ ?_
        clear hr_
        refine hK.out _ _ trivial (fun hHeld => ?_)
        clear hK K
        refine norm_ (a':=?_) ?_ ?_
        rotate_left
        ·show Act.put _ (some 145) _ = _
         simp only [Act.put,List.setIfInBounds_toArray,List.set_cons_zero,List.set_cons_succ,i64_w,i32_w]
         rfl
        refine pure_ (i:=9) (N:=some 7) (v:=?_) (a':=?_) #[true,true,true,true,true,true,true,true,true,true] rfl rfl (any_of HT_.out (by kernel_rfl)) (fun _ _ _ h => h) (Or.inl ⟨by rfl,?_⟩) ?_ ?_
        rotate_left
        ·intro w'
         go_simp
         with_reducible rfl
        rotate_left
        ·simp only [Act.put,List.setIfInBounds_toArray,List.set_cons_zero,List.set_cons_succ,i64_w,i32_w]
         rfl
        refine done_ (done_of HT_.out (by kernel_rfl)) ?_
        
        clear hca hcb
        go_wp2
        go_roundg k1
        case measure => exact Nat.lt_succ_self _
        case rel => exact ⟨i + 1,_,_,_,_,next_i i HI1.out,HI2,HSz,⟨HV2.out.out kk HTK.out⟩⟩
  ·
   have hdi : decide ((i : Int) < (x0.length : Int)) = false:=decide_eq_false (by omega)
   have hdj : decide (i < x0.length) = false:=decide_eq_false hlt
   obtain ⟨As,cs,es⟩:=HS.out.slice
   subst es
   obtain ⟨A6,c6,e6,hl6,hn6⟩:=HS.out.h6.form
   subst e6
   obtain ⟨A7,c7,e7,hl7,hn7⟩:=HS.out.h7.form
   subst e7
   clear hl6 hn6 hl7 hn7
   obtain ⟨q1,q2,q3,q4,q5,q6,hq⟩ : ∃ q1 q2 q3 q4 q5 q6,restOf L = (q1,q2,q3,q4,q5,q6):=⟨_,_,_,_,_,_,rfl⟩
   have HQ:=Aside0.mk hq
   have HFS : Aside0 (heap_First.f [[],L.map ent] 1 = some (q1,q2,q3,q4,q5,q6)):=⟨by rw [first_rest,hq]⟩
   have hcs : wr.cell? ⟨gs,0,none⟩ = some (.slice As 2 cs):=(blk_cell HS.out.box 0).trans rfl
   clear hq
   go_wp2_with (fail)
   refine (first_two HS.out.hs HFS.out).mono ?_
   rintro e_ wf ⟨v4,rfl,hV,hbf⟩
   obtain ⟨Ak,ck,rfl⟩:=Kd.V_slice hV
   clear hcs hV HFS
   have n_:=Aside0.mk (HS.out.far hbf)
   clear HS hbf
   have HS:=n_
   clear n_
   dsimp only
   go_wp2_with (first|((with_reducible refine gate_dst (N:=15) rfl ?_);refine box_event ?hg (N:=15) ?hd (cs:=#[.int .i64 0, .int .i64 0, .string (⟨#[]⟩ : ByteArray), .int .i64 0, .slice none 0 0]) (t:=35) ?hr ?_;(case hd => rfl);(case hg => rfl);(case hr => first|(go_simp;done)|(go_simp;rfl));intro bk hbk_ wg hbox_ hb_;have HBX:=Aside0.mk hbox_;have HBB:=Aside0.mk hb_;have HBK:=Aside0.mk hbk_;clear hbox_ hb_ hbk_;have hz0 : wg.cell? ⟨bk,0,none⟩ = some (.int .i64 0):=(blk_cell HBX.out 0).trans rfl;have hz1 : wg.cell? ⟨bk,1,none⟩ = some (.int .i64 0):=(blk_cell HBX.out 1).trans rfl;have hz2 : wg.cell? ⟨bk,2,none⟩ = some (.string (⟨#[]⟩ : ByteArray)):=(blk_cell HBX.out 2).trans rfl;have hz3 : wg.cell? ⟨bk,3,none⟩ = some (.int .i64 0):=(blk_cell HBX.out 3).trans rfl;have hz4 : wg.cell? ⟨bk,4,none⟩ = some (.slice none 0 0):=(blk_cell HBX.out 4).trans rfl;have hf0:=blk_frozen HBX.out 0;have hf1:=blk_frozen HBX.out 1;have hf2:=blk_frozen HBX.out 2;have hf3:=blk_frozen HBX.out 3;have hf4:=blk_frozen HBX.out 4))
   generalize hwz_ : (((((wg.setCell ⟨bk,0,none⟩ (.int .i64 q1)).setCell ⟨bk,1,none⟩ (.int .i64 q2)).setCell ⟨bk,2,none⟩ (.string q3)).setCell ⟨bk,3,none⟩ (.int .i64 q4)).setCell ⟨bk,4,none⟩ (.slice Ak q5.length ck)) = wz
   have hB2 : Below wf.heap.size wf wz:=hwz_ ▸ set5_below HBB.out (Nat.le_of_eq HBK.out.symm) _ _ _ _ _
   have hX2 : wz.heap[bk]? = some (.cells #[.int .i64 q1, .int .i64 q2, .string q3, .int .i64 q4, .slice Ak q5.length ck] 35 (0,0)):=hwz_ ▸ set5_blk HBX.out _ _ _ _ _
   have HK:=Aside0.mk (HS.out.kb HBK.out hB2 hX2)
   have n_:=Aside0.mk (HS.out.far hB2)
   clear HS HBX HBB HBK hB2 hX2 hwz_
   clear hz0 hz1 hz2 hz3 hz4 hf0 hf1 hf2 hf3 hf4
   have HS:=n_
   clear n_
   go_loopg [14,16] L.length (fun kq v14 v16 w' => ∃ (A B : List (Int × Int)) (q1 q2 : Int) (q3 : ByteArray) (q4 : Int) (q5 : List S35) (q6 : Bool) (Ak : Option Addr) (ck : Nat),v14 = .int .i64 (A.length : Int) ∧ v16 = .bool q6 ∧ Aside0 (restOf B = (q1,q2,q3,q4,q5,q6)) ∧ Aside0 (L = A ++ B ∧ kq = B.length) ∧ Aside0 (St w w' gs (.slice As 2 cs) (.slice A6 T.length c6) (.slice A7 V.length c7) L T V) ∧ Aside0 (Kb w w' gs bk (.slice As 2 cs) (.slice A6 T.length c6) (.slice A7 V.length c7) L #[.int .i64 q1, .int .i64 q2, .string q3, .int .i64 q4, .slice Ak q5.length ck]))
   case atStart => exact ⟨[],L,q1,q2,q3,q4,q5,q6,Ak,ck,rfl,rfl,HQ,⟨rfl,rfl⟩,HS,HK⟩
   case round =>
    clear HS HK HQ
    obtain ⟨A,B,q1,q2,q3,q4,q5,q6,Ak,ck,rfl,rfl,HQ,HAB,HS,HK⟩:=hrel
    cases B with
    | nil =>
     have hq:=HQ.out
     simp only [restOf,Prod.mk.injEq] at hq
     obtain ⟨rfl,rfl,rfl,rfl,rfl,rfl⟩:=hq
     have hcs : wr.cell? ⟨gs,0,none⟩ = some (.slice As 2 cs):=(blk_cell HS.out.box 0).trans rfl
     obtain ⟨hdn,hdm⟩:=HV.out.done HAB.out.1
     obtain ⟨ads,eas⟩ : ∃ ad,As = some ad:=by
      obtain ⟨_,_,hF⟩:=Kd.V_at HS.out.hs
      obtain ⟨ad,ha,_⟩:=(Kd.F_now hF).2.2 (by simp)
      exact ⟨ad,ha⟩
     subst eas
     obtain ⟨Am,cm,hcm⟩:=HS.out.first rfl
     go_wp2
     refine bodyPost_ret (results_tmp rfl _ _ _) rfl ?_
     exact ⟨rfl,HS.out.below⟩
    | cons p t =>
     have hq:=HQ.out
     simp only [restOf,Prod.mk.injEq] at hq
     obtain ⟨rfl,rfl,rfl,rfl,rfl,rfl⟩:=hq
     obtain ⟨k1,rfl⟩ : ∃ k1,gk = k1 + 1:=⟨t.length,HAB.out.2⟩
     have HMEM : Aside0 (p ∈ L):=⟨by rw [HAB.out.1];simp⟩
     have hcs : wr.cell? ⟨gs,0,none⟩ = some (.slice As 2 cs):=(blk_cell HS.out.box 0).trans rfl
     have hk0 : wr.cell? ⟨bk,0,none⟩ = some (.int .i64 1):=(blk_cell HK.out.hb 0).trans rfl
     have hk1 : wr.cell? ⟨bk,1,none⟩ = some (.int .i64 p.1):=(blk_cell HK.out.hb 1).trans rfl
     have hk2 : wr.cell? ⟨bk,2,none⟩ = some (.string (⟨#[]⟩ : ByteArray)):=(blk_cell HK.out.hb 2).trans rfl
     have hk3 : wr.cell? ⟨bk,3,none⟩ = some (.int .i64 0):=(blk_cell HK.out.hb 3).trans rfl
     have hk4 : wr.cell? ⟨bk,4,none⟩ = some (.slice Ak ([] : List S35).length ck):=(blk_cell HK.out.hb 4).trans rfl
     go_wp2_with (fail)
     refine (get_two HS.out.hs (get_f HV.out.rises HMEM.out)).mono ?_
     rintro e_ wf ⟨v4,rfl,hV,hbf⟩
     obtain ⟨Av,cv,rfl⟩:=Kd.V_slice hV
     clear hcs hV hk0 hk1 hk2 hk3 hk4
     have n_:=Aside0.mk (HS.out.far hbf)
     clear HS
     have HS:=n_
     clear n_
     have n_:=Aside0.mk (HK.out.far hbf)
     clear HK
     have HK:=n_
     clear n_
     clear hbf
     dsimp only
     go_wp2_with (first|((with_reducible refine gate_dst (N:=17) rfl ?_);refine box_event ?hg (N:=17) ?hd (cs:=#[.int .i64 0, .int .i64 0, .string (⟨#[]⟩ : ByteArray), .int .i64 0, .slice none 0 0]) (t:=35) ?hr ?_;(case hd => rfl);(case hg => rfl);(case hr => first|(go_simp;done)|(go_simp;rfl));intro bv hbk_ wg hbox_ hb_;have HBX:=Aside0.mk hbox_;have HBB:=Aside0.mk hb_;have HBK:=Aside0.mk hbk_;clear hbox_ hb_ hbk_;have hz0 : wg.cell? ⟨bv,0,none⟩ = some (.int .i64 0):=(blk_cell HBX.out 0).trans rfl;have hz1 : wg.cell? ⟨bv,1,none⟩ = some (.int .i64 0):=(blk_cell HBX.out 1).trans rfl;have hz2 : wg.cell? ⟨bv,2,none⟩ = some (.string (⟨#[]⟩ : ByteArray)):=(blk_cell HBX.out 2).trans rfl;have hz3 : wg.cell? ⟨bv,3,none⟩ = some (.int .i64 0):=(blk_cell HBX.out 3).trans rfl;have hz4 : wg.cell? ⟨bv,4,none⟩ = some (.slice none 0 0):=(blk_cell HBX.out 4).trans rfl;have hf0:=blk_frozen HBX.out 0;have hf1:=blk_frozen HBX.out 1;have hf2:=blk_frozen HBX.out 2;have hf3:=blk_frozen HBX.out 3;have hf4:=blk_frozen HBX.out 4))
     generalize hwz_ : (((((wg.setCell ⟨bv,0,none⟩ (.int .i64 1)).setCell ⟨bv,1,none⟩ (.int .i64 p.2)).setCell ⟨bv,2,none⟩ (.string (⟨#[]⟩ : ByteArray))).setCell ⟨bv,3,none⟩ (.int .i64 0)).setCell ⟨bv,4,none⟩ (.slice Av ([] : List S35).length cv)) = wz
     have hB2 : Below wf.heap.size wf wz:=hwz_ ▸ set5_below HBB.out (Nat.le_of_eq HBK.out.symm) _ _ _ _ _
     have hX2 : wz.heap[bv]? = some (.cells #[.int .i64 1, .int .i64 p.2, .string (⟨#[]⟩ : ByteArray), .int .i64 0, .slice Av ([] : List S35).length cv] 35 (0,0)):=hwz_ ▸ set5_blk HBX.out _ _ _ _ _
     have HVB:=Aside0.mk hX2
     have n_:=Aside0.mk (HS.out.far hB2)
     clear HS
     have HS:=n_
     clear n_
     have n_:=Aside0.mk (HK.out.far hB2)
     clear HK
     have HK:=n_
     clear n_
     clear HBX HBB HBK hB2 hX2 hwz_
     clear hz0 hz1 hz2 hz3 hz4 hf0 hf1 hf2 hf3 hf4
     go_loopg [19,20] T.length (fun kq v19 v20 w' => ∃ (j : Nat) (f : Bool),v20 = .int .i64 (j : Int) ∧ v19 = .bool f ∧ Aside0 (j + kq = T.length) ∧ Aside0 (Fnd T V p.1 p.2 j f) ∧ Aside0 (St w w' gs (.slice As 2 cs) (.slice A6 T.length c6) (.slice A7 V.length c7) L T V) ∧ Aside0 (Kb w w' gs bk (.slice As 2 cs) (.slice A6 T.length c6) (.slice A7 V.length c7) L #[.int .i64 1, .int .i64 p.1, .string (⟨#[]⟩ : ByteArray), .int .i64 0, .slice Ak ([] : List S35).length ck]) ∧ Aside0 (w'.heap[bv]? = some (.cells #[.int .i64 1, .int .i64 p.2, .string (⟨#[]⟩ : ByteArray), .int .i64 0, .slice Av ([] : List S35).length cv] 35 (0,0))))
     case atStart => exact ⟨0,false,rfl,rfl,⟨by omega⟩,⟨Fnd.zero T V p.1 p.2⟩,HS,HK,HVB⟩
     case round =>
      clear HS HK HVB
      obtain ⟨j,f,rfl,rfl,HJ,HF,HS,HK,HVB⟩:=hrel
      by_cases hjt : j < T.length
      case pos =>
       obtain ⟨k2,rfl⟩ : ∃ k2,gk = k2 + 1:=⟨gk - 1,by have:=HJ.out;omega⟩
       have HJ1 : Aside0 (j ≤ 1000):=⟨by have:=(HV.out.part HAB.out.1).2.2.1;omega⟩
       have HJ2 : Aside0 (j + 1 + k2 = T.length):=⟨by have:=HJ.out;omega⟩
       have hd6 : decide ((j : Int) < (T.length : Int)) = true:=decide_eq_true (by omega)
       have hd7 : decide (j < T.length) = true:=decide_eq_true hjt
       have hjv : j < V.length:=HV.out.kv hjt
       obtain ⟨tj,htj⟩ : ∃ tj,T[j]? = some tj:=⟨_,List.getElem?_eq_getElem hjt⟩
       obtain ⟨vj,hvj⟩ : ∃ vj,V[j]? = some vj:=⟨_,List.getElem?_eq_getElem hjv⟩
       obtain ⟨g6,e6⟩:=HS.out.h6.head (Nat.lt_of_le_of_lt (Nat.zero_le _) hjt)
       subst e6
       obtain ⟨g7,e7⟩:=HS.out.h7.head (Nat.lt_of_le_of_lt (Nat.zero_le _) hjv)
       subst e7
       have hct:=(HS.out.h6.cell j htj).1
       have hcv:=(HS.out.h7.cell j hvj).1
       have hck : wr.cell? ⟨bk,1,none⟩ = some (.int .i64 p.1):=(blk_cell HK.out.hb 1).trans rfl
       have hcw : wr.cell? ⟨bv,1,none⟩ = some (.int .i64 p.2):=(blk_cell HVB.out 1).trans rfl
       have HTJ:=Aside0.mk htj
       have HVJ:=Aside0.mk hvj
       have hdv1 : decide ((j : Int) < (V.length : Int)) = true:=decide_eq_true (by omega)
       have hdv2 : decide (j < V.length) = true:=decide_eq_true hjv
       clear htj hvj
       have HSd:=Aside0.mk (HS.out.far (below_drew (Below.refl _ _)))
       have HKd:=Aside0.mk (HK.out.far (below_drew (Below.refl _ _)))
       have HVd:=Aside0.mk (blk_drew HVB.out)
       cases f with
       | true =>
        go_wp2
        refine start_ (n:=20) (S:=fun w' => w'.cell? ⟨g6,j,none⟩ = some (.int .i64 tj) ∧ w'.cell? ⟨g7,j,none⟩ = some (.int .i64 vj) ∧ w'.cell? ⟨bk,1,none⟩ = some (.int .i64 p.1) ∧ w'.cell? ⟨bv,1,none⟩ = some (.int .i64 p.2)) (ds:=[]) #[false,false,false,false,false,false,false,false,false,false,false,false,false,false,false,false,false,false,false,false] (by kernel_rfl) rfl rfl ⟨(HSd.out.h6.cell j HTJ.out).1,(HSd.out.h7.cell j HVJ.out).1,(blk_cell HKd.out.hb 1).trans rfl,(blk_cell HVd.out 1).trans rfl⟩ (fun hHeld => ?_)
        refine with_tabW ho.tab41 ho.bits41 (fun HT_ HW_ => ?_)
        generalize wr.drew = wq at HSd HKd HVd hHeld ⊢
        refine pure_ (i:=0) (N:=some 164) (v:=?_) (a':=?_) #[true,false,false,false,false,false,false,false,false,false,false,false,false,false,false,false,false,false,false,false] rfl rfl (any_of HT_.out (by kernel_rfl)) (fun _ _ _ h => h) (Or.inl ⟨by rfl,?_⟩) ?_ ?_
        rotate_left
        ·intro w'
         go_simp
         with_reducible rfl
        rotate_left
        ·simp only [Act.put,List.setIfInBounds_toArray,List.set_cons_zero,List.set_cons_succ,i64_w,i32_w]
         rfl
        refine pure_ (i:=1) (N:=some 165) (v:=?_) (a':=?_) #[true,true,false,false,false,false,false,false,false,false,false,false,false,false,false,false,false,false,false,false] rfl rfl (any_of HT_.out (by kernel_rfl)) (fun _ _ _ h => h) (Or.inl ⟨by rfl,?_⟩) ?_ ?_
        rotate_left
        ·intro w'
         go_simp
         with_reducible rfl
        rotate_left
        ·simp only [Act.put,List.setIfInBounds_toArray,List.set_cons_zero,List.set_cons_succ,i64_w,i32_w]
         rfl
        refine pure_ (i:=2) (N:=some 166) (v:=undef) (a':=?_) #[true,true,true,false,false,false,false,false,false,false,false,false,false,false,false,false,false,false,false,false] rfl rfl (any_of HT_.out (by kernel_rfl)) (fun _ _ _ h => h) (Or.inr ⟨by rfl,rfl⟩) ?_ ?_
        rotate_left
        ·simp only [Act.put,List.setIfInBounds_toArray,List.set_cons_zero,List.set_cons_succ,i64_w,i32_w]
         rfl
        refine pure_ (i:=3) (N:=some 167) (v:=undef) (a':=?_) #[true,true,true,true,false,false,false,false,false,false,false,false,false,false,false,false,false,false,false,false] rfl rfl (any_of HT_.out (by kernel_rfl)) (fun _ _ _ h => h) (Or.inr ⟨by rfl,rfl⟩) ?_ ?_
        rotate_left
        ·simp only [Act.put,List.setIfInBounds_toArray,List.set_cons_zero,List.set_cons_succ,i64_w,i32_w]
         rfl
        refine pure_ (i:=4) (N:=some 168) (v:=undef) (a':=?_) #[true,true,true,true,true,false,false,false,false,false,false,false,false,false,false,false,false,false,false,false] rfl rfl (any_of HT_.out (by kernel_rfl)) (fun _ _ _ h => h) (Or.inr ⟨by rfl,rfl⟩) ?_ ?_
        rotate_left
        ·simp only [Act.put,List.setIfInBounds_toArray,List.set_cons_zero,List.set_cons_succ,i64_w,i32_w]
         rfl
        refine pure_ (i:=5) (N:=some 169) (v:=undef) (a':=?_) #[true,true,true,true,true,true,false,false,false,false,false,false,false,false,false,false,false,false,false,false] rfl rfl (any_of HT_.out (by kernel_rfl)) (fun _ _ _ h => h) (Or.inr ⟨by rfl,rfl⟩) ?_ ?_
        rotate_left
        ·simp only [Act.put,List.setIfInBounds_toArray,List.set_cons_zero,List.set_cons_succ,i64_w,i32_w]
         rfl
        refine pure_ (i:=6) (N:=some 170) (v:=undef) (a':=?_) #[true,true,true,true,true,true,true,false,false,false,false,false,false,false,false,false,false,false,false,false] rfl rfl (any_of HT_.out (by kernel_rfl)) (fun _ _ _ h => h) (Or.inr ⟨by rfl,rfl⟩) ?_ ?_
        rotate_left
        ·simp only [Act.put,List.setIfInBounds_toArray,List.set_cons_zero,List.set_cons_succ,i64_w,i32_w]
         rfl
        refine pure_ (i:=7) (N:=some 171) (v:=undef) (a':=?_) #[true,true,true,true,true,true,true,true,false,false,false,false,false,false,false,false,false,false,false,false] rfl rfl (any_of HT_.out (by kernel_rfl)) (fun _ _ _ h => h) (Or.inr ⟨by rfl,rfl⟩) ?_ ?_
        rotate_left
        ·simp only [Act.put,List.setIfInBounds_toArray,List.set_cons_zero,List.set_cons_succ,i64_w,i32_w]
         rfl
        refine pure_ (i:=8) (N:=some 172) (v:=undef) (a':=?_) #[true,true,true,true,true,true,true,true,true,false,false,false,false,false,false,false,false,false,false,false] rfl rfl (any_of HT_.out (by kernel_rfl)) (fun _ _ _ h => h) (Or.inr ⟨by rfl,rfl⟩) ?_ ?_
        rotate_left
        ·simp only [Act.put,List.setIfInBounds_toArray,List.set_cons_zero,List.set_cons_succ,i64_w,i32_w]
         rfl
        refine pure_ (i:=9) (N:=some 173) (v:=undef) (a':=?_) #[true,true,true,true,true,true,true,true,true,true,false,false,false,false,false,false,false,false,false,false] rfl rfl (any_of HT_.out (by kernel_rfl)) (fun _ _ _ h => h) (Or.inr ⟨by rfl,rfl⟩) ?_ ?_
        rotate_left
        ·simp only [Act.put,List.setIfInBounds_toArray,List.set_cons_zero,List.set_cons_succ,i64_w,i32_w]
         rfl
        refine pure_ (i:=10) (N:=some 174) (v:=undef) (a':=?_) #[true,true,true,true,true,true,true,true,true,true,true,false,false,false,false,false,false,false,false,false] rfl rfl (any_of HT_.out (by kernel_rfl)) (fun _ _ _ h => h) (Or.inr ⟨by rfl,rfl⟩) ?_ ?_
        rotate_left
        ·simp only [Act.put,List.setIfInBounds_toArray,List.set_cons_zero,List.set_cons_succ,i64_w,i32_w]
         rfl
        refine pure_ (i:=11) (N:=some 175) (v:=undef) (a':=?_) #[true,true,true,true,true,true,true,true,true,true,true,true,false,false,false,false,false,false,false,false] rfl rfl (any_of HT_.out (by kernel_rfl)) (fun _ _ _ h => h) (Or.inr ⟨by rfl,rfl⟩) ?_ ?_
        rotate_left
        ·simp only [Act.put,List.setIfInBounds_toArray,List.set_cons_zero,List.set_cons_succ,i64_w,i32_w]
         rfl
        refine pure_ (i:=12) (N:=some 176) (v:=undef) (a':=?_) #[true,true,true,true,true,true,true,true,true,true,true,true,true,false,false,false,false,false,false,false] rfl rfl (any_of HT_.out (by kernel_rfl)) (fun _ _ _ h => h) (Or.inr ⟨by rfl,rfl⟩) ?_ ?_
        rotate_left
        ·simp only [Act.put,List.setIfInBounds_toArray,List.set_cons_zero,List.set_cons_succ,i64_w,i32_w]
         rfl
        refine pure_ (i:=13) (N:=some 177) (v:=undef) (a':=?_) #[true,true,true,true,true,true,true,true,true,true,true,true,true,true,false,false,false,false,false,false] rfl rfl (any_of HT_.out (by kernel_rfl)) (fun _ _ _ h => h) (Or.inr ⟨by rfl,rfl⟩) ?_ ?_
        rotate_left
        ·simp only [Act.put,List.setIfInBounds_toArray,List.set_cons_zero,List.set_cons_succ,i64_w,i32_w]
         rfl
        refine pure_ (i:=14) (N:=some 178) (v:=undef) (a':=?_) #[true,true,true,true,true,true,true,true,true,true,true,true,true,true,true,false,false,false,false,false] rfl rfl (any_of HT_.out (by kernel_rfl)) (fun _ _ _ h => h) (Or.inr ⟨by rfl,rfl⟩) ?_ ?_
        rotate_left
        ·simp only [Act.put,List.setIfInBounds_toArray,List.set_cons_zero,List.set_cons_succ,i64_w,i32_w]
         rfl
        refine pure_ (i:=15) (N:=some 179) (v:=undef) (a':=?_) #[true,true,true,true,true,true,true,true,true,true,true,true,true,true,true,true,false,false,false,false] rfl rfl (any_of HT_.out (by kernel_rfl)) (fun _ _ _ h => h) (Or.inr ⟨by rfl,rfl⟩) ?_ ?_
        rotate_left
        ·simp only [Act.put,List.setIfInBounds_toArray,List.set_cons_zero,List.set_cons_succ,i64_w,i32_w]
         rfl
        refine pure_ (i:=16) (N:=some 180) (v:=undef) (a':=?_) #[true,true,true,true,true,true,true,true,true,true,true,true,true,true,true,true,true,false,false,false] rfl rfl (any_of HT_.out (by kernel_rfl)) (fun _ _ _ h => h) (Or.inr ⟨by rfl,rfl⟩) ?_ ?_
        rotate_left
        ·simp only [Act.put,List.setIfInBounds_toArray,List.set_cons_zero,List.set_cons_succ,i64_w,i32_w]
         rfl
        refine pure_ (i:=17) (N:=some 181) (v:=undef) (a':=?_) #[true,true,true,true,true,true,true,true,true,true,true,true,true,true,true,true,true,true,false,false] rfl rfl (any_of HT_.out (by kernel_rfl)) (fun _ _ _ h => h) (Or.inr ⟨by rfl,rfl⟩) ?_ ?_
        rotate_left
        ·simp only [Act.put,List.setIfInBounds_toArray,List.set_cons_zero,List.set_cons_succ,i64_w,i32_w]
         rfl
        refine pure_ (i:=18) (N:=some 182) (v:=?_) (a':=?_) #[true,true,true,true,true,true,true,true,true,true,true,true,true,true,true,true,true,true,true,false] rfl rfl (any_of HT_.out (by kernel_rfl)) (fun _ _ _ h => h) (Or.inl ⟨by rfl,?_⟩) ?_ ?_
        rotate_left
        ·intro w'
         go_simp
         with_reducible rfl
        rotate_left
        ·simp only [Act.put,List.setIfInBounds_toArray,List.set_cons_zero,List.set_cons_succ,i64_w,i32_w]
         rfl
        refine pure_ (i:=19) (N:=some 19) (v:=?_) (a':=?_) #[true,true,true,true,true,true,true,true,true,true,true,true,true,true,true,true,true,true,true,true] rfl rfl (any_of HT_.out (by kernel_rfl)) (fun _ _ _ h => h) (Or.inl ⟨by rfl,?_⟩) ?_ ?_
        rotate_left
        ·intro w'
         go_simp
         with_reducible rfl
        rotate_left
        ·simp only [Act.put,List.setIfInBounds_toArray,List.set_cons_zero,List.set_cons_succ,i64_w,i32_w]
         rfl
        refine done_ (done_of HT_.out (by kernel_rfl)) ?_
        
        go_wp2
        go_roundg k2
        case measure => exact Nat.lt_succ_self _
        case rel => exact ⟨j + 1,true,next_i j HJ1.out,rfl,HJ2,⟨HF.out.keep⟩,HSd,HKd,HVd⟩
       | false =>
        by_cases h1 : tj = p.1
        ·by_cases h2 : vj = p.2
         ·have hb1 : (tj == p.1) = true:=by simpa using h1
          have hb2 : (vj == p.2) = true:=by simpa using h2
          have HF2 : Aside0 (Fnd T V p.1 p.2 (j + 1) true):=⟨Fnd.hit (f:=true) (h1 ▸ HTJ.out) (h2 ▸ HVJ.out)⟩
          clear h1 h2
          go_wp2
          refine start_ (n:=20) (S:=fun w' => w'.cell? ⟨g6,j,none⟩ = some (.int .i64 tj) ∧ w'.cell? ⟨g7,j,none⟩ = some (.int .i64 vj) ∧ w'.cell? ⟨bk,1,none⟩ = some (.int .i64 p.1) ∧ w'.cell? ⟨bv,1,none⟩ = some (.int .i64 p.2)) (ds:=[]) #[false,false,false,false,false,false,false,false,false,false,false,false,false,false,false,false,false,false,false,false] (by kernel_rfl) rfl rfl ⟨(HSd.out.h6.cell j HTJ.out).1,(HSd.out.h7.cell j HVJ.out).1,(blk_cell HKd.out.hb 1).trans rfl,(blk_cell HVd.out 1).trans rfl⟩ (fun hHeld => ?_)
          refine with_tabW ho.tab41 ho.bits41 (fun HT_ HW_ => ?_)
          generalize wr.drew = wq at HSd HKd HVd hHeld ⊢
          refine pure_ (i:=0) (N:=some 164) (v:=?_) (a':=?_) #[true,false,false,false,false,false,false,false,false,false,false,false,false,false,false,false,false,false,false,false] rfl rfl (any_of HT_.out (by kernel_rfl)) (fun _ _ _ h => h) (Or.inl ⟨by rfl,?_⟩) ?_ ?_
          rotate_left
          ·intro w'
           go_simp
           with_reducible rfl
          rotate_left
          ·simp only [Act.put,List.setIfInBounds_toArray,List.set_cons_zero,List.set_cons_succ,i64_w,i32_w]
           rfl
          refine pure_ (i:=1) (N:=some 165) (v:=?_) (a':=?_) #[true,true,false,false,false,false,false,false,false,false,false,false,false,false,false,false,false,false,false,false] rfl rfl (any_of HT_.out (by kernel_rfl)) (fun _ _ _ h => h) (Or.inl ⟨by rfl,?_⟩) ?_ ?_
          rotate_left
          ·intro w'
           go_simp
           with_reducible rfl
          rotate_left
          ·simp only [Act.put,List.setIfInBounds_toArray,List.set_cons_zero,List.set_cons_succ,i64_w,i32_w]
           rfl
          refine pure_ (i:=2) (N:=some 166) (v:=?_) (a':=?_) #[true,true,true,false,false,false,false,false,false,false,false,false,false,false,false,false,false,false,false,false] rfl rfl (any_of HT_.out (by kernel_rfl)) (fun _ _ _ h => h) (Or.inl ⟨by rfl,?_⟩) ?_ ?_
          rotate_left
          ·intro w'
           go_simp
           with_reducible rfl
          rotate_left
          ·simp only [Act.put,List.setIfInBounds_toArray,List.set_cons_zero,List.set_cons_succ,i64_w,i32_w]
           rfl
          refine pure_ (i:=3) (N:=some 167) (v:=?_) (a':=?_) #[true,true,true,true,false,false,false,false,false,false,false,false,false,false,false,false,false,false,false,false] rfl rfl (any_of HT_.out (by kernel_rfl)) (fun _ _ _ h => h) (Or.inl ⟨by rfl,?_⟩) ?_ ?_
          rotate_left
          ·intro w'
           go_simp
           with_reducible rfl
          rotate_left
          ·simp only [Act.put,List.setIfInBounds_toArray,List.set_cons_zero,List.set_cons_succ,i64_w,i32_w]
           rfl
          refine pure_ (i:=4) (N:=some 168) (v:=?_) (a':=?_) #[true,true,true,true,true,false,false,false,false,false,false,false,false,false,false,false,false,false,false,false] rfl rfl (any_of HT_.out (by kernel_rfl)) (fun _ _ _ h => h) (Or.inl ⟨by rfl,?_⟩) ?_ ?_
          rotate_left
          ·intro w'
           go_simp
           with_reducible rfl
          rotate_left
          ·simp only [Act.put,List.setIfInBounds_toArray,List.set_cons_zero,List.set_cons_succ,i64_w,i32_w]
           rfl
          refine pure_ (i:=6) (N:=some 170) (v:=?_) (a':=?_) #[true,true,true,true,true,false,true,false,false,false,false,false,false,false,false,false,false,false,false,false] rfl rfl (any_of HT_.out (by kernel_rfl)) (fun _ _ _ h => h) (Or.inl ⟨by rfl,?_⟩) ?_ ?_
          rotate_left
          ·intro w'
           go_simp
           with_reducible rfl
          rotate_left
          ·simp only [Act.put,List.setIfInBounds_toArray,List.set_cons_zero,List.set_cons_succ,i64_w,i32_w]
           rfl
          refine take_ (i:=5) (N:=some 169) (v:=?_) (a':=?_) #[true,true,true,true,true,true,true,false,false,false,false,false,false,false,false,false,false,false,false,false] rfl rfl (take_ofW HT_.out HW_.out (by kernel_rfl)) (fun _ _ _ h => h) (Or.inl ⟨by rfl,?_⟩) hHeld ?_ ?_
          rotate_left
          ·rintro w' ⟨s0,s1,s2,s3⟩
           go_simp
           with_reducible rfl
          rotate_left
          ·simp only [Act.put,List.setIfInBounds_toArray,List.set_cons_zero,List.set_cons_succ,i64_w,i32_w]
           rfl
          refine take_ (i:=7) (N:=some 171) (v:=?_) (a':=?_) #[true,true,true,true,true,true,true,true,false,false,false,false,false,false,false,false,false,false,false,false] rfl rfl (take_ofW HT_.out HW_.out (by kernel_rfl)) (fun _ _ _ h => h) (Or.inl ⟨by rfl,?_⟩) hHeld ?_ ?_
          rotate_left
          ·rintro w' ⟨s0,s1,s2,s3⟩
           go_simp
           with_reducible rfl
          rotate_left
          ·simp only [Act.put,List.setIfInBounds_toArray,List.set_cons_zero,List.set_cons_succ,i64_w,i32_w]
           rfl
          refine pure_ (i:=8) (N:=some 172) (v:=?_) (a':=?_) #[true,true,true,true,true,true,true,true,true,false,false,false,false,false,false,false,false,false,false,false] rfl rfl (any_of HT_.out (by kernel_rfl)) (fun _ _ _ h => h) (Or.inl ⟨by rfl,?_⟩) ?_ ?_
          rotate_left
          ·intro w'
           go_simp
           with_reducible rfl
          rotate_left
          ·simp only [Act.put,List.setIfInBounds_toArray,List.set_cons_zero,List.set_cons_succ,i64_w,i32_w]
           rfl
          refine pure_ (i:=9) (N:=some 173) (v:=?_) (a':=?_) #[true,true,true,true,true,true,true,true,true,true,false,false,false,false,false,false,false,false,false,false] rfl rfl (any_of HT_.out (by kernel_rfl)) (fun _ _ _ h => h) (Or.inl ⟨by rfl,?_⟩) ?_ ?_
          rotate_left
          ·intro w'
           go_simp
           with_reducible rfl
          rotate_left
          ·simp only [Act.put,List.setIfInBounds_toArray,List.set_cons_zero,List.set_cons_succ,i64_w,i32_w]
           rfl
          refine pure_ (i:=10) (N:=some 174) (v:=?_) (a':=?_) #[true,true,true,true,true,true,true,true,true,true,true,false,false,false,false,false,false,false,false,false] rfl rfl (any_of HT_.out (by kernel_rfl)) (fun _ _ _ h => h) (Or.inl ⟨by rfl,?_⟩) ?_ ?_
          rotate_left
          ·intro w'
           go_simp
           with_reducible rfl
          rotate_left
          ·simp only [Act.put,List.setIfInBounds_toArray,List.set_cons_zero,List.set_cons_succ,i64_w,i32_w]
           rfl
          refine pure_ (i:=11) (N:=some 175) (v:=?_) (a':=?_) #[true,true,true,true,true,true,true,true,true,true,true,true,false,false,false,false,false,false,false,false] rfl rfl (any_of HT_.out (by kernel_rfl)) (fun _ _ _ h => h) (Or.inl ⟨by rfl,?_⟩) ?_ ?_
          rotate_left
          ·intro w'
           go_simp
           with_reducible rfl
          rotate_left
          ·simp only [Act.put,List.setIfInBounds_toArray,List.set_cons_zero,List.set_cons_succ,i64_w,i32_w]
           rfl
          refine pure_ (i:=12) (N:=some 176) (v:=?_) (a':=?_) #[true,true,true,true,true,true,true,true,true,true,true,true,true,false,false,false,false,false,false,false] rfl rfl (any_of HT_.out (by kernel_rfl)) (fun _ _ _ h => h) (Or.inl ⟨by rfl,?_⟩) ?_ ?_
          rotate_left
          ·intro w'
           go_simp
           with_reducible rfl
          rotate_left
          ·simp only [Act.put,List.setIfInBounds_toArray,List.set_cons_zero,List.set_cons_succ,i64_w,i32_w]
           rfl
          refine pure_ (i:=14) (N:=some 178) (v:=?_) (a':=?_) #[true,true,true,true,true,true,true,true,true,true,true,true,true,false,true,false,false,false,false,false] rfl rfl (any_of HT_.out (by kernel_rfl)) (fun _ _ _ h => h) (Or.inl ⟨by rfl,?_⟩) ?_ ?_
          rotate_left
          ·intro w'
           go_simp
           with_reducible rfl
          rotate_left
          ·simp only [Act.put,List.setIfInBounds_toArray,List.set_cons_zero,List.set_cons_succ,i64_w,i32_w]
           rfl
          refine take_ (i:=13) (N:=some 177) (v:=?_) (a':=?_) #[true,true,true,true,true,true,true,true,true,true,true,true,true,true,true,false,false,false,false,false] rfl rfl (take_ofW HT_.out HW_.out (by kernel_rfl)) (fun _ _ _ h => h) (Or.inl ⟨by rfl,?_⟩) hHeld ?_ ?_
          rotate_left
          ·rintro w' ⟨s0,s1,s2,s3⟩
           go_simp
           with_reducible rfl
          rotate_left
          ·simp only [Act.put,List.setIfInBounds_toArray,List.set_cons_zero,List.set_cons_succ,i64_w,i32_w]
           rfl
          refine take_ (i:=15) (N:=some 179) (v:=?_) (a':=?_) #[true,true,true,true,true,true,true,true,true,true,true,true,true,true,true,true,false,false,false,false] rfl rfl (take_ofW HT_.out HW_.out (by kernel_rfl)) (fun _ _ _ h => h) (Or.inl ⟨by rfl,?_⟩) hHeld ?_ ?_
          rotate_left
          ·rintro w' ⟨s0,s1,s2,s3⟩
           go_simp
           with_reducible rfl
          rotate_left
          ·simp only [Act.put,List.setIfInBounds_toArray,List.set_cons_zero,List.set_cons_succ,i64_w,i32_w]
           rfl
          refine pure_ (i:=16) (N:=some 180) (v:=?_) (a':=?_) #[true,true,true,true,true,true,true,true,true,true,true,true,true,true,true,true,true,false,false,false] rfl rfl (any_of HT_.out (by kernel_rfl)) (fun _ _ _ h => h) (Or.inl ⟨by rfl,?_⟩) ?_ ?_
          rotate_left
          ·intro w'
           go_simp
           with_reducible rfl
          rotate_left
          ·simp only [Act.put,List.setIfInBounds_toArray,List.set_cons_zero,List.set_cons_succ,i64_w,i32_w]
           rfl
          refine pure_ (i:=17) (N:=some 181) (v:=?_) (a':=?_) #[true,true,true,true,true,true,true,true,true,true,true,true,true,true,true,true,true,true,false,false] rfl rfl (any_of HT_.out (by kernel_rfl)) (fun _ _ _ h => h) (Or.inl ⟨by rfl,?_⟩) ?_ ?_
          rotate_left
          ·intro w'
           go_simp
           with_reducible rfl
          rotate_left
          ·simp only [Act.put,List.setIfInBounds_toArray,List.set_cons_zero,List.set_cons_succ,i64_w,i32_w]
           rfl
          refine pure_ (i:=18) (N:=some 182) (v:=?_) (a':=?_) #[true,true,true,true,true,true,true,true,true,true,true,true,true,true,true,true,true,true,true,false] rfl rfl (any_of HT_.out (by kernel_rfl)) (fun _ _ _ h => h) (Or.inl ⟨by rfl,?_⟩) ?_ ?_
          rotate_left
          ·intro w'
           go_simp
           with_reducible rfl
          rotate_left
          ·simp only [Act.put,List.setIfInBounds_toArray,List.set_cons_zero,List.set_cons_succ,i64_w,i32_w]
           rfl
          refine pure_ (i:=19) (N:=some 19) (v:=?_) (a':=?_) #[true,true,true,true,true,true,true,true,true,true,true,true,true,true,true,true,true,true,true,true] rfl rfl (any_of HT_.out (by kernel_rfl)) (fun _ _ _ h => h) (Or.inl ⟨by rfl,?_⟩) ?_ ?_
          rotate_left
          ·intro w'
           go_simp
           with_reducible rfl
          rotate_left
          ·simp only [Act.put,List.setIfInBounds_toArray,List.set_cons_zero,List.set_cons_succ,i64_w,i32_w]
           rfl
          refine done_ (done_of HT_.out (by kernel_rfl)) ?_
          
          go_wp2
          go_roundg k2
          case measure => exact Nat.lt_succ_self _
          case rel => exact ⟨j + 1,true,next_i j HJ1.out,rfl,HJ2,HF2,HSd,HKd,HVd⟩
         ·have hb1 : (tj == p.1) = true:=by simpa using h1
          have hb2 : (vj == p.2) = false:=by simpa using h2
          have HF2 : Aside0 (Fnd T V p.1 p.2 (j + 1) false):=⟨Fnd.miss HF.out HTJ.out HVJ.out (.inr h2)⟩
          clear h1 h2
          go_wp2
          refine start_ (n:=20) (S:=fun w' => w'.cell? ⟨g6,j,none⟩ = some (.int .i64 tj) ∧ w'.cell? ⟨g7,j,none⟩ = some (.int .i64 vj) ∧ w'.cell? ⟨bk,1,none⟩ = some (.int .i64 p.1) ∧ w'.cell? ⟨bv,1,none⟩ = some (.int .i64 p.2)) (ds:=[]) #[false,false,false,false,false,false,false,false,false,false,false,false,false,false,false,false,false,false,false,false] (by kernel_rfl) rfl rfl ⟨(HSd.out.h6.cell j HTJ.out).1,(HSd.out.h7.cell j HVJ.out).1,(blk_cell HKd.out.hb 1).trans rfl,(blk_cell HVd.out 1).trans rfl⟩ (fun hHeld => ?_)
          refine with_tabW ho.tab41 ho.bits41 (fun HT_ HW_ => ?_)
          generalize wr.drew = wq at HSd HKd HVd hHeld ⊢
          refine pure_ (i:=0) (N:=some 164) (v:=?_) (a':=?_) #[true,false,false,false,false,false,false,false,false,false,false,false,false,false,false,false,false,false,false,false] rfl rfl (any_of HT_.out (by kernel_rfl)) (fun _ _ _ h => h) (Or.inl ⟨by rfl,?_⟩) ?_ ?_
          rotate_left
          ·intro w'
           go_simp
           with_reducible rfl
          rotate_left
          ·simp only [Act.put,List.setIfInBounds_toArray,List.set_cons_zero,List.set_cons_succ,i64_w,i32_w]
           rfl
          refine pure_ (i:=1) (N:=some 165) (v:=?_) (a':=?_) #[true,true,false,false,false,false,false,false,false,false,false,false,false,false,false,false,false,false,false,false] rfl rfl (any_of HT_.out (by kernel_rfl)) (fun _ _ _ h => h) (Or.inl ⟨by rfl,?_⟩) ?_ ?_
          rotate_left
          ·intro w'
           go_simp
           with_reducible rfl
          rotate_left
          ·simp only [Act.put,List.setIfInBounds_toArray,List.set_cons_zero,List.set_cons_succ,i64_w,i32_w]
           rfl
          refine pure_ (i:=2) (N:=some 166) (v:=?_) (a':=?_) #[true,true,true,false,false,false,false,false,false,false,false,false,false,false,false,false,false,false,false,false] rfl rfl (any_of HT_.out (by kernel_rfl)) (fun _ _ _ h => h) (Or.inl ⟨by rfl,?_⟩) ?_ ?_
          rotate_left
          ·intro w'
           go_simp
           with_reducible rfl
          rotate_left
          ·simp only [Act.put,List.setIfInBounds_toArray,List.set_cons_zero,List.set_cons_succ,i64_w,i32_w]
           rfl
          refine pure_ (i:=3) (N:=some 167) (v:=?_) (a':=?_) #[true,true,true,true,false,false,false,false,false,false,false,false,false,false,false,false,false,false,false,false] rfl rfl (any_of HT_.out (by kernel_rfl)) (fun _ _ _ h => h) (Or.inl ⟨by rfl,?_⟩) ?_ ?_
          rotate_left
          ·intro w'
           go_simp
           with_reducible rfl
          rotate_left
          ·simp only [Act.put,List.setIfInBounds_toArray,List.set_cons_zero,List.set_cons_succ,i64_w,i32_w]
           rfl
          refine pure_ (i:=4) (N:=some 168) (v:=?_) (a':=?_) #[true,true,true,true,true,false,false,false,false,false,false,false,false,false,false,false,false,false,false,false] rfl rfl (any_of HT_.out (by kernel_rfl)) (fun _ _ _ h => h) (Or.inl ⟨by rfl,?_⟩) ?_ ?_
          rotate_left
          ·intro w'
           go_simp
           with_reducible rfl
          rotate_left
          ·simp only [Act.put,List.setIfInBounds_toArray,List.set_cons_zero,List.set_cons_succ,i64_w,i32_w]
           rfl
          refine pure_ (i:=6) (N:=some 170) (v:=?_) (a':=?_) #[true,true,true,true,true,false,true,false,false,false,false,false,false,false,false,false,false,false,false,false] rfl rfl (any_of HT_.out (by kernel_rfl)) (fun _ _ _ h => h) (Or.inl ⟨by rfl,?_⟩) ?_ ?_
          rotate_left
          ·intro w'
           go_simp
           with_reducible rfl
          rotate_left
          ·simp only [Act.put,List.setIfInBounds_toArray,List.set_cons_zero,List.set_cons_succ,i64_w,i32_w]
           rfl
          refine take_ (i:=5) (N:=some 169) (v:=?_) (a':=?_) #[true,true,true,true,true,true,true,false,false,false,false,false,false,false,false,false,false,false,false,false] rfl rfl (take_ofW HT_.out HW_.out (by kernel_rfl)) (fun _ _ _ h => h) (Or.inl ⟨by rfl,?_⟩) hHeld ?_ ?_
          rotate_left
          ·rintro w' ⟨s0,s1,s2,s3⟩
           go_simp
           with_reducible rfl
          rotate_left
          ·simp only [Act.put,List.setIfInBounds_toArray,List.set_cons_zero,List.set_cons_succ,i64_w,i32_w]
           rfl
          refine take_ (i:=7) (N:=some 171) (v:=?_) (a':=?_) #[true,true,true,true,true,true,true,true,false,false,false,false,false,false,false,false,false,false,false,false] rfl rfl (take_ofW HT_.out HW_.out (by kernel_rfl)) (fun _ _ _ h => h) (Or.inl ⟨by rfl,?_⟩) hHeld ?_ ?_
          rotate_left
          ·rintro w' ⟨s0,s1,s2,s3⟩
           go_simp
           with_reducible rfl
          rotate_left
          ·simp only [Act.put,List.setIfInBounds_toArray,List.set_cons_zero,List.set_cons_succ,i64_w,i32_w]
           rfl
          refine pure_ (i:=8) (N:=some 172) (v:=?_) (a':=?_) #[true,true,true,true,true,true,true,true,true,false,false,false,false,false,false,false,false,false,false,false] rfl rfl (any_of HT_.out (by kernel_rfl)) (fun _ _ _ h => h) (Or.inl ⟨by rfl,?_⟩) ?_ ?_
          rotate_left
          ·intro w'
           go_simp
           with_reducible rfl
          rotate_left
          ·simp only [Act.put,List.setIfInBounds_toArray,List.set_cons_zero,List.set_cons_succ,i64_w,i32_w]
           rfl
          refine pure_ (i:=9) (N:=some 173) (v:=?_) (a':=?_) #[true,true,true,true,true,true,true,true,true,true,false,false,false,false,false,false,false,false,false,false] rfl rfl (any_of HT_.out (by kernel_rfl)) (fun _ _ _ h => h) (Or.inl ⟨by rfl,?_⟩) ?_ ?_
          rotate_left
          ·intro w'
           go_simp
           with_reducible rfl
          rotate_left
          ·simp only [Act.put,List.setIfInBounds_toArray,List.set_cons_zero,List.set_cons_succ,i64_w,i32_w]
           rfl
          refine pure_ (i:=10) (N:=some 174) (v:=?_) (a':=?_) #[true,true,true,true,true,true,true,true,true,true,true,false,false,false,false,false,false,false,false,false] rfl rfl (any_of HT_.out (by kernel_rfl)) (fun _ _ _ h => h) (Or.inl ⟨by rfl,?_⟩) ?_ ?_
          rotate_left
          ·intro w'
           go_simp
           with_reducible rfl
          rotate_left
          ·simp only [Act.put,List.setIfInBounds_toArray,List.set_cons_zero,List.set_cons_succ,i64_w,i32_w]
           rfl
          refine pure_ (i:=11) (N:=some 175) (v:=?_) (a':=?_) #[true,true,true,true,true,true,true,true,true,true,true,true,false,false,false,false,false,false,false,false] rfl rfl (any_of HT_.out (by kernel_rfl)) (fun _ _ _ h => h) (Or.inl ⟨by rfl,?_⟩) ?_ ?_
          rotate_left
          ·intro w'
           go_simp
           with_reducible rfl
          rotate_left
          ·simp only [Act.put,List.setIfInBounds_toArray,List.set_cons_zero,List.set_cons_succ,i64_w,i32_w]
           rfl
          refine pure_ (i:=12) (N:=some 176) (v:=?_) (a':=?_) #[true,true,true,true,true,true,true,true,true,true,true,true,true,false,false,false,false,false,false,false] rfl rfl (any_of HT_.out (by kernel_rfl)) (fun _ _ _ h => h) (Or.inl ⟨by rfl,?_⟩) ?_ ?_
          rotate_left
          ·intro w'
           go_simp
           with_reducible rfl
          rotate_left
          ·simp only [Act.put,List.setIfInBounds_toArray,List.set_cons_zero,List.set_cons_succ,i64_w,i32_w]
           rfl
          refine pure_ (i:=14) (N:=some 178) (v:=?_) (a':=?_) #[true,true,true,true,true,true,true,true,true,true,true,true,true,false,true,false,false,false,false,false] rfl rfl (any_of HT_.out (by kernel_rfl)) (fun _ _ _ h => h) (Or.inl ⟨by rfl,?_⟩) ?_ ?_
          rotate_left
          ·intro w'
           go_simp
           with_reducible rfl
          rotate_left
          ·simp only [Act.put,List.setIfInBounds_toArray,List.set_cons_zero,List.set_cons_succ,i64_w,i32_w]
           rfl
          refine take_ (i:=13) (N:=some 177) (v:=?_) (a':=?_) #[true,true,true,true,true,true,true,true,true,true,true,true,true,true,true,false,false,false,false,false] rfl rfl (take_ofW HT_.out HW_.out (by kernel_rfl)) (fun _ _ _ h => h) (Or.inl ⟨by rfl,?_⟩) hHeld ?_ ?_
          rotate_left
          ·rintro w' ⟨s0,s1,s2,s3⟩
           go_simp
           with_reducible rfl
          rotate_left
          ·simp only [Act.put,List.setIfInBounds_toArray,List.set_cons_zero,List.set_cons_succ,i64_w,i32_w]
           rfl
          refine take_ (i:=15) (N:=some 179) (v:=?_) (a':=?_) #[true,true,true,true,true,true,true,true,true,true,true,true,true,true,true,true,false,false,false,false] rfl rfl (take_ofW HT_.out HW_.out (by kernel_rfl)) (fun _ _ _ h => h) (Or.inl ⟨by rfl,?_⟩) hHeld ?_ ?_
          rotate_left
          ·rintro w' ⟨s0,s1,s2,s3⟩
           go_simp
           with_reducible rfl
          rotate_left
          ·simp only [Act.put,List.setIfInBounds_toArray,List.set_cons_zero,List.set_cons_succ,i64_w,i32_w]
           rfl
          refine pure_ (i:=16) (N:=some 180) (v:=?_) (a':=?_) #[true,true,true,true,true,true,true,true,true,true,true,true,true,true,true,true,true,false,false,false] rfl rfl (any_of HT_.out (by kernel_rfl)) (fun _ _ _ h => h) (Or.inl ⟨by rfl,?_⟩) ?_ ?_
          rotate_left
          ·intro w'
           go_simp
           with_reducible rfl
          rotate_left
          ·simp only [Act.put,List.setIfInBounds_toArray,List.set_cons_zero,List.set_cons_succ,i64_w,i32_w]
           rfl
          refine pure_ (i:=17) (N:=some 181) (v:=?_) (a':=?_) #[true,true,true,true,true,true,true,true,true,true,true,true,true,true,true,true,true,true,false,false] rfl rfl (any_of HT_.out (by kernel_rfl)) (fun _ _ _ h => h) (Or.inl ⟨by rfl,?_⟩) ?_ ?_
          rotate_left
          ·intro w'
           go_simp
           with_reducible rfl
          rotate_left
          ·simp only [Act.put,List.setIfInBounds_toArray,List.set_cons_zero,List.set_cons_succ,i64_w,i32_w]
           rfl
          refine pure_ (i:=18) (N:=some 182) (v:=?_) (a':=?_) #[true,true,true,true,true,true,true,true,true,true,true,true,true,true,true,true,true,true,true,false] rfl rfl (any_of HT_.out (by kernel_rfl)) (fun _ _ _ h => h) (Or.inl ⟨by rfl,?_⟩) ?_ ?_
          rotate_left
          ·intro w'
           go_simp
           with_reducible rfl
          rotate_left
          ·simp only [Act.put,List.setIfInBounds_toArray,List.set_cons_zero,List.set_cons_succ,i64_w,i32_w]
           rfl
          refine pure_ (i:=19) (N:=some 19) (v:=?_) (a':=?_) #[true,true,true,true,true,true,true,true,true,true,true,true,true,true,true,true,true,true,true,true] rfl rfl (any_of HT_.out (by kernel_rfl)) (fun _ _ _ h => h) (Or.inl ⟨by rfl,?_⟩) ?_ ?_
          rotate_left
          ·intro w'
           go_simp
           with_reducible rfl
          rotate_left
          ·simp only [Act.put,List.setIfInBounds_toArray,List.set_cons_zero,List.set_cons_succ,i64_w,i32_w]
           rfl
          refine done_ (done_of HT_.out (by kernel_rfl)) ?_
          
          go_wp2
          go_roundg k2
          case measure => exact Nat.lt_succ_self _
          case rel => exact ⟨j + 1,false,next_i j HJ1.out,rfl,HJ2,HF2,HSd,HKd,HVd⟩
        ·have hb1 : (tj == p.1) = false:=by simpa using h1
         have HF2 : Aside0 (Fnd T V p.1 p.2 (j + 1) false):=⟨Fnd.miss HF.out HTJ.out HVJ.out (.inl h1)⟩
         clear h1
         go_wp2
         refine start_ (n:=20) (S:=fun w' => w'.cell? ⟨g6,j,none⟩ = some (.int .i64 tj) ∧ w'.cell? ⟨g7,j,none⟩ = some (.int .i64 vj) ∧ w'.cell? ⟨bk,1,none⟩ = some (.int .i64 p.1) ∧ w'.cell? ⟨bv,1,none⟩ = some (.int .i64 p.2)) (ds:=[]) #[false,false,false,false,false,false,false,false,false,false,false,false,false,false,false,false,false,false,false,false] (by kernel_rfl) rfl rfl ⟨(HSd.out.h6.cell j HTJ.out).1,(HSd.out.h7.cell j HVJ.out).1,(blk_cell HKd.out.hb 1).trans rfl,(blk_cell HVd.out 1).trans rfl⟩ (fun hHeld => ?_)
         refine with_tabW ho.tab41 ho.bits41 (fun HT_ HW_ => ?_)
         generalize wr.drew = wq at HSd HKd HVd hHeld ⊢
         refine pure_ (i:=0) (N:=some 164) (v:=?_) (a':=?_) #[true,false,false,false,false,false,false,false,false,false,false,false,false,false,false,false,false,false,false,false] rfl rfl (any_of HT_.out (by kernel_rfl)) (fun _ _ _ h => h) (Or.inl ⟨by rfl,?_⟩) ?_ ?_
         rotate_left
         ·intro w'
          go_simp
          with_reducible rfl
         rotate_left
         ·simp only [Act.put,List.setIfInBounds_toArray,List.set_cons_zero,List.set_cons_succ,i64_w,i32_w]
          rfl
         refine pure_ (i:=1) (N:=some 165) (v:=?_) (a':=?_) #[true,true,false,false,false,false,false,false,false,false,false,false,false,false,false,false,false,false,false,false] rfl rfl (any_of HT_.out (by kernel_rfl)) (fun _ _ _ h => h) (Or.inl ⟨by rfl,?_⟩) ?_ ?_
         rotate_left
         ·intro w'
          go_simp
          with_reducible rfl
         rotate_left
         ·simp only [Act.put,List.setIfInBounds_toArray,List.set_cons_zero,List.set_cons_succ,i64_w,i32_w]
          rfl
         refine pure_ (i:=2) (N:=some 166) (v:=?_) (a':=?_) #[true,true,true,false,false,false,false,false,false,false,false,false,false,false,false,false,false,false,false,false] rfl rfl (any_of HT_.out (by kernel_rfl)) (fun _ _ _ h => h) (Or.inl ⟨by rfl,?_⟩) ?_ ?_
         rotate_left
         ·intro w'
          go_simp
          with_reducible rfl
         rotate_left
         ·simp only [Act.put,List.setIfInBounds_toArray,List.set_cons_zero,List.set_cons_succ,i64_w,i32_w]
          rfl
         refine pure_ (i:=3) (N:=some 167) (v:=?_) (a':=?_) #[true,true,true,true,false,false,false,false,false,false,false,false,false,false,false,false,false,false,false,false] rfl rfl (any_of HT_.out (by kernel_rfl)) (fun _ _ _ h => h) (Or.inl ⟨by rfl,?_⟩) ?_ ?_
         rotate_left
         ·intro w'
          go_simp
          with_reducible rfl
         rotate_left
         ·simp only [Act.put,List.setIfInBounds_toArray,List.set_cons_zero,List.set_cons_succ,i64_w,i32_w]
          rfl
         refine pure_ (i:=4) (N:=some 168) (v:=?_) (a':=?_) #[true,true,true,true,true,false,false,false,false,false,false,false,false,false,false,false,false,false,false,false] rfl rfl (any_of HT_.out (by kernel_rfl)) (fun _ _ _ h => h) (Or.inl ⟨by rfl,?_⟩) ?_ ?_
         rotate_left
         ·intro w'
          go_simp
          with_reducible rfl
         rotate_left
         ·simp only [Act.put,List.setIfInBounds_toArray,List.set_cons_zero,List.set_cons_succ,i64_w,i32_w]
          rfl
         refine pure_ (i:=6) (N:=some 170) (v:=?_) (a':=?_) #[true,true,true,true,true,false,true,false,false,false,false,false,false,false,false,false,false,false,false,false] rfl rfl (any_of HT_.out (by kernel_rfl)) (fun _ _ _ h => h) (Or.inl ⟨by rfl,?_⟩) ?_ ?_
         rotate_left
         ·intro w'
          go_simp
          with_reducible rfl
         rotate_left
         ·simp only [Act.put,List.setIfInBounds_toArray,List.set_cons_zero,List.set_cons_succ,i64_w,i32_w]
          rfl
         refine take_ (i:=5) (N:=some 169) (v:=?_) (a':=?_) #[true,true,true,true,true,true,true,false,false,false,false,false,false,false,false,false,false,false,false,false] rfl rfl (take_ofW HT_.out HW_.out (by kernel_rfl)) (fun _ _ _ h => h) (Or.inl ⟨by rfl,?_⟩) hHeld ?_ ?_
         rotate_left
         ·rintro w' ⟨s0,s1,s2,s3⟩
          go_simp
          with_reducible rfl
         rotate_left
         ·simp only [Act.put,List.setIfInBounds_toArray,List.set_cons_zero,List.set_cons_succ,i64_w,i32_w]
          rfl
         refine take_ (i:=7) (N:=some 171) (v:=?_) (a':=?_) #[true,true,true,true,true,true,true,true,false,false,false,false,false,false,false,false,false,false,false,false] rfl rfl (take_ofW HT_.out HW_.out (by kernel_rfl)) (fun _ _ _ h => h) (Or.inl ⟨by rfl,?_⟩) hHeld ?_ ?_
         rotate_left
         ·rintro w' ⟨s0,s1,s2,s3⟩
          go_simp
          with_reducible rfl
         rotate_left
         ·simp only [Act.put,List.setIfInBounds_toArray,List.set_cons_zero,List.set_cons_succ,i64_w,i32_w]
          rfl
         refine pure_ (i:=8) (N:=some 172) (v:=?_) (a':=?_) #[true,true,true,true,true,true,true,true,true,false,false,false,false,false,false,false,false,false,false,false] rfl rfl (any_of HT_.out (by kernel_rfl)) (fun _ _ _ h => h) (Or.inl ⟨by rfl,?_⟩) ?_ ?_
         rotate_left
         ·intro w'
          go_simp
          with_reducible rfl
         rotate_left
         ·simp only [Act.put,List.setIfInBounds_toArray,List.set_cons_zero,List.set_cons_succ,i64_w,i32_w]
          rfl
         refine pure_ (i:=9) (N:=some 173) (v:=?_) (a':=?_) #[true,true,true,true,true,true,true,true,true,true,false,false,false,false,false,false,false,false,false,false] rfl rfl (any_of HT_.out (by kernel_rfl)) (fun _ _ _ h => h) (Or.inl ⟨by rfl,?_⟩) ?_ ?_
         rotate_left
         ·intro w'
          go_simp
          with_reducible rfl
         rotate_left
         ·simp only [Act.put,List.setIfInBounds_toArray,List.set_cons_zero,List.set_cons_succ,i64_w,i32_w]
          rfl
         refine pure_ (i:=10) (N:=some 174) (v:=undef) (a':=?_) #[true,true,true,true,true,true,true,true,true,true,true,false,false,false,false,false,false,false,false,false] rfl rfl (any_of HT_.out (by kernel_rfl)) (fun _ _ _ h => h) (Or.inr ⟨by rfl,rfl⟩) ?_ ?_
         rotate_left
         ·simp only [Act.put,List.setIfInBounds_toArray,List.set_cons_zero,List.set_cons_succ,i64_w,i32_w]
          rfl
         refine pure_ (i:=11) (N:=some 175) (v:=undef) (a':=?_) #[true,true,true,true,true,true,true,true,true,true,true,true,false,false,false,false,false,false,false,false] rfl rfl (any_of HT_.out (by kernel_rfl)) (fun _ _ _ h => h) (Or.inr ⟨by rfl,rfl⟩) ?_ ?_
         rotate_left
         ·simp only [Act.put,List.setIfInBounds_toArray,List.set_cons_zero,List.set_cons_succ,i64_w,i32_w]
          rfl
         refine pure_ (i:=12) (N:=some 176) (v:=undef) (a':=?_) #[true,true,true,true,true,true,true,true,true,true,true,true,true,false,false,false,false,false,false,false] rfl rfl (any_of HT_.out (by kernel_rfl)) (fun _ _ _ h => h) (Or.inr ⟨by rfl,rfl⟩) ?_ ?_
         rotate_left
         ·simp only [Act.put,List.setIfInBounds_toArray,List.set_cons_zero,List.set_cons_succ,i64_w,i32_w]
          rfl
         refine pure_ (i:=13) (N:=some 177) (v:=undef) (a':=?_) #[true,true,true,true,true,true,true,true,true,true,true,true,true,true,false,false,false,false,false,false] rfl rfl (any_of HT_.out (by kernel_rfl)) (fun _ _ _ h => h) (Or.inr ⟨by rfl,rfl⟩) ?_ ?_
         rotate_left
         ·simp only [Act.put,List.setIfInBounds_toArray,List.set_cons_zero,List.set_cons_succ,i64_w,i32_w]
          rfl
         refine pure_ (i:=14) (N:=some 178) (v:=undef) (a':=?_) #[true,true,true,true,true,true,true,true,true,true,true,true,true,true,true,false,false,false,false,false] rfl rfl (any_of HT_.out (by kernel_rfl)) (fun _ _ _ h => h) (Or.inr ⟨by rfl,rfl⟩) ?_ ?_
         rotate_left
         ·simp only [Act.put,List.setIfInBounds_toArray,List.set_cons_zero,List.set_cons_succ,i64_w,i32_w]
          rfl
         refine pure_ (i:=15) (N:=some 179) (v:=undef) (a':=?_) #[true,true,true,true,true,true,true,true,true,true,true,true,true,true,true,true,false,false,false,false] rfl rfl (any_of HT_.out (by kernel_rfl)) (fun _ _ _ h => h) (Or.inr ⟨by rfl,rfl⟩) ?_ ?_
         rotate_left
         ·simp only [Act.put,List.setIfInBounds_toArray,List.set_cons_zero,List.set_cons_succ,i64_w,i32_w]
          rfl
         refine pure_ (i:=16) (N:=some 180) (v:=undef) (a':=?_) #[true,true,true,true,true,true,true,true,true,true,true,true,true,true,true,true,true,false,false,false] rfl rfl (any_of HT_.out (by kernel_rfl)) (fun _ _ _ h => h) (Or.inr ⟨by rfl,rfl⟩) ?_ ?_
         rotate_left
         ·simp only [Act.put,List.setIfInBounds_toArray,List.set_cons_zero,List.set_cons_succ,i64_w,i32_w]
          rfl
         refine pure_ (i:=17) (N:=some 181) (v:=?_) (a':=?_) #[true,true,true,true,true,true,true,true,true,true,true,true,true,true,true,true,true,true,false,false] rfl rfl (any_of HT_.out (by kernel_rfl)) (fun _ _ _ h => h) (Or.inl ⟨by rfl,?_⟩) ?_ ?_
         rotate_left
         ·intro w'
          go_simp
          with_reducible rfl
         rotate_left
         ·simp only [Act.put,List.setIfInBounds_toArray,List.set_cons_zero,List.set_cons_succ,i64_w,i32_w]
          rfl
         refine pure_ (i:=18) (N:=some 182) (v:=?_) (a':=?_) #[true,true,true,true,true,true,true,true,true,true,true,true,true,true,true,true,true,true,true,false] rfl rfl (any_of HT_.out (by kernel_rfl)) (fun _ _ _ h => h) (Or.inl ⟨by rfl,?_⟩) ?_ ?_
         rotate_left
         ·intro w'
          go_simp
          with_reducible rfl
         rotate_left
         ·simp only [Act.put,List.setIfInBounds_toArray,List.set_cons_zero,List.set_cons_succ,i64_w,i32_w]
          rfl
         refine pure_ (i:=19) (N:=some 19) (v:=?_) (a':=?_) #[true,true,true,true,true,true,true,true,true,true,true,true,true,true,true,true,true,true,true,true] rfl rfl (any_of HT_.out (by kernel_rfl)) (fun _ _ _ h => h) (Or.inl ⟨by rfl,?_⟩) ?_ ?_
         rotate_left
         ·intro w'
          go_simp
          with_reducible rfl
         rotate_left
         ·simp only [Act.put,List.setIfInBounds_toArray,List.set_cons_zero,List.set_cons_succ,i64_w,i32_w]
          rfl
         refine done_ (done_of HT_.out (by kernel_rfl)) ?_
         
         go_wp2
         go_roundg k2
         case measure => exact Nat.lt_succ_self _
         case rel => exact ⟨j + 1,false,next_i j HJ1.out,rfl,HJ2,HF2,HSd,HKd,HVd⟩
      case neg =>
       have hd6 : decide ((j : Int) < (T.length : Int)) = false:=decide_eq_false (by omega)
       have hd7 : decide (j < T.length) = false:=decide_eq_false hjt
       obtain rfl : j = T.length:=by have:=HJ.out;omega
       obtain rfl:=HF.out.all HV.out HMEM.out
       obtain ⟨_,ha1000,_,hdn1,hdn2⟩:=HV.out.part HAB.out.1
       have HA1:=Aside0.mk ha1000
       clear ha1000
       obtain ⟨n1,n2,n3,n4,n5,n6,hn⟩ : ∃ n1 n2 n3 n4 n5 n6,restOf t = (n1,n2,n3,n4,n5,n6):=⟨_,_,_,_,_,_,rfl⟩
       have HNQ:=Aside0.mk hn
       have HNX : Aside0 (heap_Next.f 10 [[],L.map ent] 1 1 p.1 ⟨#[]⟩ 0 [] = some (n1,n2,n3,n4,n5,n6)):=⟨by
        have hr_:=HV.out.rises
        rw [HAB.out.1] at hr_ ⊢
        rw [next_rest hr_,hn]⟩
       clear hn
       have hcs : wr.cell? ⟨gs,0,none⟩ = some (.slice As 2 cs):=(blk_cell HS.out.box 0).trans rfl
       have hk0 : wr.cell? ⟨bk,0,none⟩ = some (.int .i64 1):=(blk_cell HK.out.hb 0).trans rfl
       have hk1 : wr.cell? ⟨bk,1,none⟩ = some (.int .i64 p.1):=(blk_cell HK.out.hb 1).trans rfl
       have hk2 : wr.cell? ⟨bk,2,none⟩ = some (.string (⟨#[]⟩ : ByteArray)):=(blk_cell HK.out.hb 2).trans rfl
       have hk3 : wr.cell? ⟨bk,3,none⟩ = some (.int .i64 0):=(blk_cell HK.out.hb 3).trans rfl
       have hk4 : wr.cell? ⟨bk,4,none⟩ = some (.slice Ak ([] : List S35).length ck):=(blk_cell HK.out.hb 4).trans rfl
       go_wp2_with (fail)
       refine (next_two HS.out.hs HNX.out).mono ?_
       rintro e_ wf ⟨v4,rfl,hV,hbf⟩
       obtain ⟨An,cn,rfl⟩:=Kd.V_slice hV
       clear hcs hV hk0 hk1 hk2 hk3 hk4 HVB HNX
       have n_:=Aside0.mk (HS.out.far hbf)
       clear HS
       have HS:=n_
       clear n_
       have n_:=Aside0.mk (HK.out.far hbf)
       clear HK
       have HK:=n_
       clear n_
       clear hbf
       dsimp only
       go_upto_region 46 with (first|((with_reducible refine gate_dst (N:=21) rfl ?_);refine box_event ?hg (N:=21) ?hd (cs:=#[.int .i64 0, .int .i64 0, .string (⟨#[]⟩ : ByteArray), .int .i64 0, .slice none 0 0]) (t:=35) ?hr ?_;(case hd => rfl);(case hg => rfl);(case hr => first|(go_simp;done)|(go_simp;rfl));intro bn hbk_ wg hbox_ hb_;have HBX:=Aside0.mk hbox_;have HBB:=Aside0.mk hb_;have HBK:=Aside0.mk hbk_;clear hbox_ hb_ hbk_;have hz0 : wg.cell? ⟨bn,0,none⟩ = some (.int .i64 0):=(blk_cell HBX.out 0).trans rfl;have hz1 : wg.cell? ⟨bn,1,none⟩ = some (.int .i64 0):=(blk_cell HBX.out 1).trans rfl;have hz2 : wg.cell? ⟨bn,2,none⟩ = some (.string (⟨#[]⟩ : ByteArray)):=(blk_cell HBX.out 2).trans rfl;have hz3 : wg.cell? ⟨bn,3,none⟩ = some (.int .i64 0):=(blk_cell HBX.out 3).trans rfl;have hz4 : wg.cell? ⟨bn,4,none⟩ = some (.slice none 0 0):=(blk_cell HBX.out 4).trans rfl;have hf0:=blk_frozen HBX.out 0;have hf1:=blk_frozen HBX.out 1;have hf2:=blk_frozen HBX.out 2;have hf3:=blk_frozen HBX.out 3;have hf4:=blk_frozen HBX.out 4))
       generalize hwz_ : (((((wg.setCell ⟨bn,0,none⟩ (.int .i64 n1)).setCell ⟨bn,1,none⟩ (.int .i64 n2)).setCell ⟨bn,2,none⟩ (.string n3)).setCell ⟨bn,3,none⟩ (.int .i64 n4)).setCell ⟨bn,4,none⟩ (.slice An n5.length cn)) = wz
       have hB2 : Below wf.heap.size wf wz:=hwz_ ▸ set5_below HBB.out (Nat.le_of_eq HBK.out.symm) _ _ _ _ _
       have hX2 : wz.heap[bn]? = some (.cells #[.int .i64 n1, .int .i64 n2, .string n3, .int .i64 n4, .slice An n5.length cn] 35 (0,0)):=hwz_ ▸ set5_blk HBX.out _ _ _ _ _
       have HNB:=Aside0.mk hX2
       have n_:=Aside0.mk (HS.out.far hB2)
       clear HS
       have HS:=n_
       clear n_
       have n_:=Aside0.mk (HK.out.far hB2)
       clear HK
       have HK:=n_
       clear n_
       clear HBX HBB HBK hB2 hX2 hwz_
       clear hz0 hz1 hz2 hz3 hz4 hf0 hf1 hf2 hf3 hf4
       have hk0 : wz.cell? ⟨bk,0,none⟩ = some (.int .i64 1):=(blk_cell HK.out.hb 0).trans rfl
       have hk1 : wz.cell? ⟨bk,1,none⟩ = some (.int .i64 p.1):=(blk_cell HK.out.hb 1).trans rfl
       have hk2 : wz.cell? ⟨bk,2,none⟩ = some (.string (⟨#[]⟩ : ByteArray)):=(blk_cell HK.out.hb 2).trans rfl
       have hk3 : wz.cell? ⟨bk,3,none⟩ = some (.int .i64 0):=(blk_cell HK.out.hb 3).trans rfl
       have hk4 : wz.cell? ⟨bk,4,none⟩ = some (.slice Ak ([] : List S35).length ck):=(blk_cell HK.out.hb 4).trans rfl
       have hkf0:=blk_frozen HK.out.hb 0
       have hkf1:=blk_frozen HK.out.hb 1
       have hkf2:=blk_frozen HK.out.hb 2
       have hkf3:=blk_frozen HK.out.hb 3
       have hkf4:=blk_frozen HK.out.hb 4
       have hn0 : wz.cell? ⟨bn,0,none⟩ = some (.int .i64 n1):=(blk_cell HNB.out 0).trans rfl
       have hn1 : wz.cell? ⟨bn,1,none⟩ = some (.int .i64 n2):=(blk_cell HNB.out 1).trans rfl
       have hn2 : wz.cell? ⟨bn,2,none⟩ = some (.string n3):=(blk_cell HNB.out 2).trans rfl
       have hn3 : wz.cell? ⟨bn,3,none⟩ = some (.int .i64 n4):=(blk_cell HNB.out 3).trans rfl
       have hn4 : wz.cell? ⟨bn,4,none⟩ = some (.slice An n5.length cn):=(blk_cell HNB.out 4).trans rfl
       cases t with
       | nil =>
        have hq:=HNQ.out
        simp only [restOf,Prod.mk.injEq] at hq
        obtain ⟨rfl,rfl,rfl,rfl,rfl,rfl⟩:=hq
        go_wp2
        go_roundg k1
        case measure => exact Nat.lt_succ_self _
        case rel => exact ⟨A ++ [p],[],_,_,_,_,_,_,An,cn,(by first|exact next_len A p HA1.out|(simp;done)),rfl,HNQ,⟨by rw [HAB.out.1];simp,Nat.succ.inj HAB.out.2⟩,⟨(HK.out.put5 HS.out _ _ _ _ _).1⟩,⟨(HK.out.put5 HS.out _ _ _ _ _).2⟩⟩
       | cons p2 t2 =>
        have hq:=HNQ.out
        simp only [restOf,Prod.mk.injEq] at hq
        obtain ⟨rfl,rfl,rfl,rfl,rfl,rfl⟩:=hq
        have hgt : decide (p2.1 ≤ p.1) = false:=by
         have hr_:=HV.out.rises
         rw [HAB.out.1] at hr_
         exact next_gt hr_
        go_wp2
        go_roundg k1
        case measure => exact Nat.lt_succ_self _
        case rel => exact ⟨A ++ [p],p2 :: t2,_,_,_,_,_,_,An,cn,(by first|exact next_len A p HA1.out|(simp;done)),rfl,HNQ,⟨by rw [HAB.out.1];simp,Nat.succ.inj HAB.out.2⟩,⟨(HK.out.put5 HS.out _ _ _ _ _).1⟩,⟨(HK.out.put5 HS.out _ _ _ _ _).2⟩⟩
end Go.Proofs.Ytnokieaebnmljaa.PAll
