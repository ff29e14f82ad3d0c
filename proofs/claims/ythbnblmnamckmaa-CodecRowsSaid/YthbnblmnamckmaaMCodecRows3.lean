-- Laid by a program of this seat (wip/merge.py): PAllx33, PAllx34, Qa, Qb, Qk, PAllx17, Qp, Qv, Qt, Qd.
import Derived.Test.YthbnblmnamckmaaMCodecRows0
import Derived.Test.YthbnblmnamckmaaMCodecRows2
import Derived.Test.YthbnblmnamckmaaMCodecRows1
import Derived.Laws.BitsLemmas
import Derived.PlainAid
import Derived.OpenShut
-- Laid by a program of this seat (wip/xprint.py over the kit's print).
namespace Go.Proofs.Ythbnblmnamckmaa.PAll
open Go.RowKit Go.Proofs.YthbnblmnamckmaaW.PrintWords Go.Proofs.YthbnblmnamckmaaW.PrintLast Go.Proofs.YthbnblmnamckmaaW.PrintMore
attribute [local go_sem] max2_int min2_int max_two min_two max_three min_three max_four min_four   -- for this text's walks alone
set_option linter.unusedVariables false
set_option linter.unusedSimpArgs false

/-! ### codec_Value: function 26 -/
def codec_Value.f (k : Nat) (l0 : List Int) : Option (Int × Int × ByteArray × Int × (List (S24)) × Int × Int) := (codec_reader_value.f k l0 0 false false).bind fun bt453 => (if bt453.2.2.2.2.2.2.2 = true then (some (0, 0, (⟨#[]⟩ : ByteArray), 0, ([] : List (S24)), 0, 20)) else (some (bt453.1, bt453.2.1, bt453.2.2.1, bt453.2.2.2.1, bt453.2.2.2.2.1, bt453.2.2.2.2.2.2.1, 0)))
theorem codec_Value.mono : ∀ a0 k, LeO (codec_Value.f k a0) (codec_Value.f (k + 1) a0) := by
 intro a0 k
 unfold codec_Value.f
 repeat' first
   | (with_reducible exact codec_reader_value.mono _ _ _ _ _)
   | (with_reducible exact LeO.refl _)
   | (with_reducible exact LeO.none _)
   | (with_reducible refine LeO.ite ?_ ?_)
   | (with_reducible refine LeO.bind ?_ (fun _ => ?_))
   | exact codec_reader_value.mono _ _ _ _ _
   | exact LeO.none _
   | refine LeO.ite ?_ ?_
   | refine LeO.bind ?_ (fun _ => ?_)
def codec_Value.T5 : Bool × List (List Nat × List Nat) := (true, [([], []), ([], []), ([1], [1]), ([2], [2]), ([3], [3]), ([0, 0], [0]), ([4, 5, 0, 1, 2, 3, 4, 5], [4]), ([6, 0, 1, 2, 3, 4, 5, 6], [])])
def codec_Value.B5 : List Nat := [0, 0, 2, 6, 14, 1, 63, 127]
theorem codec_Value.tab5 : rtab .any (opsOf Try.f26 5) = codec_Value.T5 := by kernel_rfl
theorem codec_Value.bits5 : waitsOk codec_Value.T5.2 codec_Value.B5 = true := by kernel_rfl
set_option maxHeartbeats 8000000 in
set_option maxRecDepth 100000 in
theorem codec_Value.calls (k : Nat) (A0 : Option Addr) (c0 : Nat) (l0 : List Int) (r1 : Int) (r2 : Int) (r3 : ByteArray) (r4 : Int) (r5 : List (S24)) (r6 : Int) (r7 : Int) (w : World) (hr0 : Kd.C (Kd.int .u8) w A0 l0.length l0) (hc0 : l0.length ≤ c0) (h : codec_Value.f k l0 = some (r1, r2, r3, r4, r5, r6, r7)) :
  Calls Try.prog 26 #[.slice A0 l0.length c0] w fun e w' => ∃ v4_ : Value, e = .returned (.tuple #[.agg #[.int .i64 r1, .int .i64 r2, .string r3, .int .i64 r4, v4_], .int .i64 r6, .int .i64 r7]) ∧ Kd.R k24 24 w' w.heap.size (fun _ => True) v4_ r5 ∧ Below w.heap.size w w' := by
 have hu24 := Try.underlying24
 have hu76 := Try.underlying76
 have HR0 := Aside0.mk hr0
 have HC0 := Aside0.mk hc0
 clear hr0 hc0
 have HB := Aside0.mk (Below.refl w.heap.size w)
 have H : ((codec_reader_value.f k l0 0 false false).bind fun bt453 => (if bt453.2.2.2.2.2.2.2 = true then (some (0, 0, (⟨#[]⟩ : ByteArray), 0, ([] : List (S24)), 0, 20)) else (some (bt453.1, bt453.2.1, bt453.2.2.1, bt453.2.2.2.1, bt453.2.2.2.2.1, bt453.2.2.2.2.2.2.1, 0)))) = some (r1, r2, r3, r4, r5, r6, r7) := h
 clear h
 replace H := Option.bind_eq_some_iff.mp H
 obtain ⟨⟨t453, t454, t455, t456, t457, t460, t461, t462⟩, A20, H⟩ := H
 replace H : (if t462 = true then (some (0, 0, (⟨#[]⟩ : ByteArray), 0, ([] : List (S24)), 0, 20)) else (some (t453, t454, t455, t456, t457, t461, 0))) = some (r1, r2, r3, r4, r5, r6, r7) := H
 have A2 := Aside0.mk A20
 clear A20
 by_cases c3 : t462 = true
 ·subst c3
  have H1 : (some (0, 0, (⟨#[]⟩ : ByteArray), 0, ([] : List (S24)), 0, 20)) = some (r1, r2, r3, r4, r5, r6, r7) := by rw [if_pos rfl] at H; exact H
  clear H
  have H := H1
  clear H1
  simp only [Option.some.injEq, Prod.mk.injEq] at H
  obtain ⟨rfl, rfl, rfl, rfl, rfl, rfl, rfl⟩ := H
  go_enter Try.func26, Try.ntmps26
  go_wp2_with (first | ((with_reducible refine gate_dst (N := 2) rfl ?_); refine box_event ?hg (N := 2) ?hd (cs := #[.int .i64 0, .int .i64 0, .string (⟨#[]⟩ : ByteArray), .int .i64 0, .slice none 0 0]) (t := 24) ?hr ?_; (case hd => rfl); (case hg => rfl); (case hr => first | (go_simp; done) | (go_simp; rfl)); intro gb451 hg w4 hbox hb; have n0_ := Aside0.mk (below_step (by repeat (first | (with_reducible first | exact HB.out | apply below_alloc | apply pw_below_drewN | apply below_drew1) | exact HB.out)) hb); have n1_ := Aside0.mk (hbox); have n2_ := Aside0.mk ((by rw [hg]; exact (below_size (by repeat (first | (with_reducible first | exact HB.out | apply below_alloc | apply pw_below_drewN | apply below_drew1) | exact HB.out))) : w.heap.size ≤ gb451)); have n3_ := Aside0.mk ((by rw [hg]; exact (below_size (by repeat (first | (with_reducible first | exact HB.out | apply below_alloc | apply pw_below_drewN | apply below_drew1) | exact HB.out))) : w.heap.size ≤ gb451)); clear HB; have HB := n0_; have BK451 := n1_; have GW451 := n2_; have GE451 := n3_; clear n0_ n1_ n2_ n3_; clear hb hbox hg) | ((with_reducible refine gate_dst (N := 9) rfl ?_); refine box_event ?hg (N := 9) ?hd (cs := #[.slice A0 l0.length c0, .int .i64 0, .bool false]) (t := 76) ?hr ?_; (case hd => rfl); (case hg => rfl); (case hr => first | (go_simp; done) | (go_simp; rfl)); intro gb452 hg w5 hbox hb; have n0_ := Aside0.mk (blk_below (g := gb451) (o := .cells #[.int .i64 0, .int .i64 0, .string (⟨#[]⟩ : ByteArray), .int .i64 0, .slice none 0 0] 24 (0, 0)) (by (with_reducible repeat (first | refine blk_drewN ?_ _ | refine blk_drew ?_ | refine blk_alloc ?_ _)); exact BK451.out) hb); have n1_ := Aside0.mk (below_step (by repeat (first | (with_reducible first | exact HB.out | apply below_alloc | apply pw_below_drewN | apply below_drew1 | refine below_set ?_ GE451.out) | exact HB.out)) hb); have n2_ := Aside0.mk (hbox); have n3_ := Aside0.mk ((by rw [hg]; exact (below_size (by repeat (first | (with_reducible first | exact HB.out | apply below_alloc | apply pw_below_drewN | apply below_drew1 | refine below_set ?_ GE451.out) | exact HB.out))) : w.heap.size ≤ gb452)); have n4_ := Aside0.mk ((by rw [hg]; exact (below_size (by repeat (first | (with_reducible first | exact HB.out | apply below_alloc | apply pw_below_drewN | apply below_drew1 | refine below_set ?_ GE451.out) | exact HB.out))) : w.heap.size ≤ gb452)); have n5_ := Aside0.mk ((by rw [hg]; exact Nat.ne_of_lt (blk_lt (g := gb451) (o := .cells #[.int .i64 0, .int .i64 0, .string (⟨#[]⟩ : ByteArray), .int .i64 0, .slice none 0 0] 24 (0, 0)) (by (with_reducible repeat (first | refine blk_drewN ?_ _ | refine blk_drew ?_ | refine blk_alloc ?_ _)); exact BK451.out)) : gb451 ≠ gb452)); have n6_ := Aside0.mk ((by rw [hg]; exact Nat.ne_of_gt (blk_lt (g := gb451) (o := .cells #[.int .i64 0, .int .i64 0, .string (⟨#[]⟩ : ByteArray), .int .i64 0, .slice none 0 0] 24 (0, 0)) (by (with_reducible repeat (first | refine blk_drewN ?_ _ | refine blk_drew ?_ | refine blk_alloc ?_ _)); exact BK451.out)) : gb452 ≠ gb451)); clear BK451; clear HB; have BK451 := n0_; have HB := n1_; have BK452 := n2_; have GW452 := n3_; have GE452 := n4_; have NB451_452 := n5_; have NB452_451 := n6_; clear n0_ n1_ n2_ n3_ n4_ n5_ n6_; clear hb hbox hg; have HI452 := Aside0.mk (show IsS76 w _ gb452 l0 0 false from ⟨_, _, BK452.out, GE452.out, HR0.out, HC0.out⟩); clear BK452) | ((with_reducible refine gate_callee (f := 39) rfl ?_); refine goesL_ (some 11) rfl rfl Try.func39 (by kernel_rfl) rfl #[.pointer (some ⟨gb452, 0, none⟩), .bool false] rfl (by (try simp only [List.map_toArray, List.map_cons, List.map_nil]); first | done | rfl | (simp only [List.length_drop, List.length_take]; rfl) | (go_simp; done) | (go_simp; simp; done)) ?_; (with_reducible refine (codec_reader_value.calls k gb452 l0 0 false false t453 t454 t455 t456 t457 t460 t461 true w _ ?side1 ?side2 A2.out).mono ?_); (case side1 => first | ((repeat (first | (with_reducible first | exact HI452.out | apply IsS76.alloc | apply IsS76.drewN | apply IsS76.drew | apply IsS76.set_1 | apply IsS76.set_2 | refine IsS76.far ?_ NB452_451.out _ | (apply IsS76.far; case hne => exact NB452_451.out)) | exact HI452.out)); done) | ((simp only [*]); (repeat (first | (with_reducible first | exact HI452.out | apply IsS76.alloc | apply IsS76.drewN | apply IsS76.drew | apply IsS76.set_1 | apply IsS76.set_2 | refine IsS76.far ?_ NB452_451.out _ | (apply IsS76.far; case hne => exact NB452_451.out)) | exact HI452.out)))); (case side2 => repeat (first | (with_reducible first | exact HB.out | apply below_alloc | apply pw_below_drewN | apply below_drew1 | refine below_set ?_ (IsS76.ge HI452.out) | refine below_set ?_ GE451.out) | exact HB.out)); rintro e w6 ⟨v458, rfl, ho0, hi, hb, hk⟩; refine ⟨_, rfl, ?_⟩; have n0_ := Aside0.mk (KeepBut.blk hk (g' := gb451) (o := .cells #[.int .i64 0, .int .i64 0, .string (⟨#[]⟩ : ByteArray), .int .i64 0, .slice none 0 0] 24 (0, 0)) (by (with_reducible repeat (first | refine blk_drewN ?_ _ | refine blk_drew ?_ | refine blk_alloc ?_ _)); exact BK451.out) NB451_452.out (by simp)); have n1_ := Aside0.mk (Kd.R_lower (Kd.R_newB ho0 (g := gb451) (o := .cells #[.int .i64 0, .int .i64 0, .string (⟨#[]⟩ : ByteArray), .int .i64 0, .slice none 0 0] 24 (0, 0)) (by (with_reducible repeat (first | refine blk_drewN ?_ _ | refine blk_drew ?_ | refine blk_alloc ?_ _)); exact BK451.out)) (below_size (by repeat (first | (with_reducible first | exact HB.out | apply below_alloc | apply pw_below_drewN | apply below_drew1 | refine below_set ?_ (IsS76.ge HI452.out) | refine below_set ?_ GE451.out) | exact HB.out)))); have n2_ := Aside0.mk (hb); have n3_ := Aside0.mk (hi); clear BK451; clear HB; clear HI452; have BK451 := n0_; have HO459 := n1_; have HB := n2_; have HI452 := n3_; clear n0_ n1_ n2_ n3_; (try clear hb); (try clear hb2); (try clear hk); (try clear hi); (try clear ho0)) | ((with_reducible refine gate_dst (N := 6) rfl ?_); refine box_event ?hg (N := 6) ?hd (cs := #[.int .i64 0, .int .i64 0, .string (⟨#[]⟩ : ByteArray), .int .i64 0, .slice none 0 0]) (t := 24) ?hr ?_; (case hd => rfl); (case hg => rfl); (case hr => first | (go_simp; done) | (go_simp; rfl)); intro gb463 hg w7 hbox hb; have n0_ := Aside0.mk (Kd.R_below (Kd.R_elderB (by (with_reducible repeat (first | apply Kd.R_alloc | apply Kd.R_drewN | apply Kd.R_drew)); exact HO459.out) gb463 (Nat.le_of_eq hg.symm)) hb); have n1_ := Aside0.mk (blk_below (g := gb451) (o := .cells #[.int .i64 0, .int .i64 0, .string (⟨#[]⟩ : ByteArray), .int .i64 0, .slice none 0 0] 24 (0, 0)) (by (with_reducible repeat (first | refine blk_drewN ?_ _ | refine blk_drew ?_ | refine blk_alloc ?_ _)); exact BK451.out) hb); have n2_ := Aside0.mk (IsS76.below (by first | ((repeat (first | (with_reducible first | exact HI452.out | apply IsS76.alloc | apply IsS76.drewN | apply IsS76.drew | apply IsS76.set_1 | apply IsS76.set_2 | refine IsS76.far ?_ NB452_451.out _ | (apply IsS76.far; case hne => exact NB452_451.out)) | exact HI452.out)); done) | ((simp only [*]); (repeat (first | (with_reducible first | exact HI452.out | apply IsS76.alloc | apply IsS76.drewN | apply IsS76.drew | apply IsS76.set_1 | apply IsS76.set_2 | refine IsS76.far ?_ NB452_451.out _ | (apply IsS76.far; case hne => exact NB452_451.out)) | exact HI452.out)))) hb); have n3_ := Aside0.mk (below_step (by repeat (first | (with_reducible first | exact HB.out | apply below_alloc | apply pw_below_drewN | apply below_drew1 | refine below_set ?_ (IsS76.ge HI452.out) | refine below_set ?_ GE451.out) | exact HB.out)) hb); have n4_ := Aside0.mk (hbox); have n5_ := Aside0.mk ((by rw [hg]; exact (below_size (by repeat (first | (with_reducible first | exact HB.out | apply below_alloc | apply pw_below_drewN | apply below_drew1 | refine below_set ?_ (IsS76.ge HI452.out) | refine below_set ?_ GE451.out) | exact HB.out))) : w.heap.size ≤ gb463)); have n6_ := Aside0.mk ((by rw [hg]; exact (below_size (by repeat (first | (with_reducible first | exact HB.out | apply below_alloc | apply pw_below_drewN | apply below_drew1 | refine below_set ?_ (IsS76.ge HI452.out) | refine below_set ?_ GE451.out) | exact HB.out))) : w.heap.size ≤ gb463)); have n7_ := Aside0.mk ((by rw [hg]; exact Nat.ne_of_lt (blk_lt (g := gb451) (o := .cells #[.int .i64 0, .int .i64 0, .string (⟨#[]⟩ : ByteArray), .int .i64 0, .slice none 0 0] 24 (0, 0)) (by (with_reducible repeat (first | refine blk_drewN ?_ _ | refine blk_drew ?_ | refine blk_alloc ?_ _)); exact BK451.out)) : gb451 ≠ gb463)); have n8_ := Aside0.mk ((by rw [hg]; exact Nat.ne_of_gt (blk_lt (g := gb451) (o := .cells #[.int .i64 0, .int .i64 0, .string (⟨#[]⟩ : ByteArray), .int .i64 0, .slice none 0 0] 24 (0, 0)) (by (with_reducible repeat (first | refine blk_drewN ?_ _ | refine blk_drew ?_ | refine blk_alloc ?_ _)); exact BK451.out)) : gb463 ≠ gb451)); have n9_ := Aside0.mk ((by rw [hg]; exact Nat.ne_of_lt (IsS76.lt (show IsS76 w _ gb452 t460 t461 true from by first | ((repeat (first | (with_reducible first | exact HI452.out | apply IsS76.alloc | apply IsS76.drewN | apply IsS76.drew | apply IsS76.set_1 | apply IsS76.set_2 | refine IsS76.far ?_ NB452_451.out _ | (apply IsS76.far; case hne => exact NB452_451.out)) | exact HI452.out)); done) | ((simp only [*]); (repeat (first | (with_reducible first | exact HI452.out | apply IsS76.alloc | apply IsS76.drewN | apply IsS76.drew | apply IsS76.set_1 | apply IsS76.set_2 | refine IsS76.far ?_ NB452_451.out _ | (apply IsS76.far; case hne => exact NB452_451.out)) | exact HI452.out))))) : gb452 ≠ gb463)); have n10_ := Aside0.mk ((by rw [hg]; exact Nat.ne_of_gt (IsS76.lt (show IsS76 w _ gb452 t460 t461 true from by first | ((repeat (first | (with_reducible first | exact HI452.out | apply IsS76.alloc | apply IsS76.drewN | apply IsS76.drew | apply IsS76.set_1 | apply IsS76.set_2 | refine IsS76.far ?_ NB452_451.out _ | (apply IsS76.far; case hne => exact NB452_451.out)) | exact HI452.out)); done) | ((simp only [*]); (repeat (first | (with_reducible first | exact HI452.out | apply IsS76.alloc | apply IsS76.drewN | apply IsS76.drew | apply IsS76.set_1 | apply IsS76.set_2 | refine IsS76.far ?_ NB452_451.out _ | (apply IsS76.far; case hne => exact NB452_451.out)) | exact HI452.out))))) : gb463 ≠ gb452)); clear HO459; clear BK451; clear HI452; clear HB; have HO459 := n0_; have BK451 := n1_; have HI452 := n2_; have HB := n3_; have BK463 := n4_; have GW463 := n5_; have GE463 := n6_; have NB451_463 := n7_; have NB463_451 := n8_; have NB452_463 := n9_; have NB463_452 := n10_; clear n0_ n1_ n2_ n3_ n4_ n5_ n6_ n7_ n8_ n9_ n10_; clear hb hbox hg; have hnb8 := NB463_451.out; have hnc8 := NB451_463.out; have hnb9 := NB463_452.out; have hnc9 := NB452_463.out; have hcz10_0 : w7.cell? ⟨gb463, 0, none⟩ = some (.int .i64 0) := (blk_cell BK463.out 0).trans rfl; have hcz10_1 : w7.cell? ⟨gb463, 1, none⟩ = some (.int .i64 0) := (blk_cell BK463.out 1).trans rfl; have hcz10_2 : w7.cell? ⟨gb463, 2, none⟩ = some (.string (⟨#[]⟩ : ByteArray)) := (blk_cell BK463.out 2).trans rfl; have hcz10_3 : w7.cell? ⟨gb463, 3, none⟩ = some (.int .i64 0) := (blk_cell BK463.out 3).trans rfl; have hcz10_4 : w7.cell? ⟨gb463, 4, none⟩ = some (.slice none 0 0) := (blk_cell BK463.out 4).trans rfl; have hfz10_0 := blk_frozen BK463.out 0; have hfz10_1 := blk_frozen BK463.out 1; have hfz10_2 := blk_frozen BK463.out 2; have hfz10_3 := blk_frozen BK463.out 3; have hfz10_4 := blk_frozen BK463.out 4; obtain ⟨Ao11, co11, eo11⟩ := Kd.R_slice HO459.out; subst eo11; obtain ⟨ASz12_0, cSz12_0, HGz12, hgz12, HSz12_0, hlSz12_0⟩ := HI452.out; have hcz12_0 := cellS76_0 HGz12; have hcz12_1 := cellS76_1 HGz12; have hcz12_2 := cellS76_2 HGz12; have hfz12_0 := blk_frozen HGz12 0; have hfz12_1 := blk_frozen HGz12 1; have hfz12_2 := blk_frozen HGz12 2; clear HGz12 hgz12; have hnb13 := NB451_452.out; have hnc13 := NB452_451.out; have hcz14_0 : w7.cell? ⟨gb451, 0, none⟩ = some (.int .i64 0) := (blk_cell BK451.out 0).trans rfl; have hcz14_1 : w7.cell? ⟨gb451, 1, none⟩ = some (.int .i64 0) := (blk_cell BK451.out 1).trans rfl; have hcz14_2 : w7.cell? ⟨gb451, 2, none⟩ = some (.string (⟨#[]⟩ : ByteArray)) := (blk_cell BK451.out 2).trans rfl; have hcz14_3 : w7.cell? ⟨gb451, 3, none⟩ = some (.int .i64 0) := (blk_cell BK451.out 3).trans rfl; have hcz14_4 : w7.cell? ⟨gb451, 4, none⟩ = some (.slice none 0 0) := (blk_cell BK451.out 4).trans rfl; have hfz14_0 := blk_frozen BK451.out 0; have hfz14_1 := blk_frozen BK451.out 1; have hfz14_2 := blk_frozen BK451.out 2; have hfz14_3 := blk_frozen BK451.out 3; have hfz14_4 := blk_frozen BK451.out 4))
  refine bodyPost_ret (results_ctt rfl _ _ gb451 24 #[.int .i64 0, .int .i64 0, .string (⟨#[]⟩ : ByteArray), .int .i64 0, .slice none 0 0] (0, 0) _ rfl (by (with_reducible repeat (first | refine blk_drewN ?_ _ | refine blk_drew ?_ | refine blk_alloc ?_ _)); refine blk_put (cs := #[.int .i64 0, .int .i64 0, .string (⟨#[]⟩ : ByteArray), .int .i64 0, .slice none 0 0]) ?_ 4 _ rfl; (with_reducible repeat (first | refine blk_drewN ?_ _ | refine blk_drew ?_ | refine blk_alloc ?_ _)); refine blk_put (cs := #[.int .i64 0, .int .i64 0, .string (⟨#[]⟩ : ByteArray), .int .i64 0, .slice none 0 0]) ?_ 3 _ rfl; (with_reducible repeat (first | refine blk_drewN ?_ _ | refine blk_drew ?_ | refine blk_alloc ?_ _)); refine blk_put (cs := #[.int .i64 0, .int .i64 0, .string (⟨#[]⟩ : ByteArray), .int .i64 0, .slice none 0 0]) ?_ 2 _ rfl; (with_reducible repeat (first | refine blk_drewN ?_ _ | refine blk_drew ?_ | refine blk_alloc ?_ _)); refine blk_put (cs := #[.int .i64 0, .int .i64 0, .string (⟨#[]⟩ : ByteArray), .int .i64 0, .slice none 0 0]) ?_ 1 _ rfl; (with_reducible repeat (first | refine blk_drewN ?_ _ | refine blk_drew ?_ | refine blk_alloc ?_ _)); refine blk_put (cs := #[.int .i64 0, .int .i64 0, .string (⟨#[]⟩ : ByteArray), .int .i64 0, .slice none 0 0]) ?_ 0 _ rfl; (with_reducible repeat (first | refine blk_drewN ?_ _ | refine blk_drew ?_ | refine blk_alloc ?_ _)); refine blk_far ?_ NB451_463.out _; (with_reducible repeat (first | refine blk_drewN ?_ _ | refine blk_drew ?_ | refine blk_alloc ?_ _)); refine blk_far ?_ NB451_463.out _; (with_reducible repeat (first | refine blk_drewN ?_ _ | refine blk_drew ?_ | refine blk_alloc ?_ _)); refine blk_far ?_ NB451_463.out _; (with_reducible repeat (first | refine blk_drewN ?_ _ | refine blk_drew ?_ | refine blk_alloc ?_ _)); refine blk_far ?_ NB451_463.out _; (with_reducible repeat (first | refine blk_drewN ?_ _ | refine blk_drew ?_ | refine blk_alloc ?_ _)); refine blk_far ?_ NB451_463.out _; (with_reducible repeat (first | refine blk_drewN ?_ _ | refine blk_drew ?_ | refine blk_alloc ?_ _)); exact BK451.out) Try.underlying24 rfl (by kernel_rfl)) rfl ?_
  exact ⟨_, by first | rfl | (simp [errW_none, errW_some] <;> rfl) | (simp [*, errW_none, errW_some] <;> rfl), by first | exact Kd.R_nil _ _ _ _ _ | exact Kd.N_nil _ _ _ _ _ | exact Kd.V_nil _ _ _ _ _ | exact Kd.Q_nil _ _ _ _ _ | exact Kd.S_nil _ _ _ _ _, by repeat (first | (with_reducible first | exact HB.out | apply below_alloc | apply pw_below_drewN | apply below_drew1 | refine below_set ?_ (IsS76.ge HI452.out) | refine below_set ?_ GE451.out | refine below_set ?_ GE463.out) | exact HB.out)⟩
 ·replace c3 := Bool.eq_false_iff.mpr c3
  subst c3
  have H1 : (some (t453, t454, t455, t456, t457, t461, 0)) = some (r1, r2, r3, r4, r5, r6, r7) := by rw [if_neg (show ¬ (false = true) by decide)] at H; exact H
  clear H
  have H := H1
  clear H1
  simp only [Option.some.injEq, Prod.mk.injEq] at H
  obtain ⟨rfl, rfl, rfl, rfl, rfl, rfl, rfl⟩ := H
  go_enter Try.func26, Try.ntmps26
  try go_wp2_with (first | ((with_reducible refine gate_dst (N := 2) rfl ?_); refine box_event ?hg (N := 2) ?hd (cs := #[.int .i64 0, .int .i64 0, .string (⟨#[]⟩ : ByteArray), .int .i64 0, .slice none 0 0]) (t := 24) ?hr ?_; (case hd => rfl); (case hg => rfl); (case hr => first | (go_simp; done) | (go_simp; rfl)); intro gb451 hg w15 hbox hb; have n0_ := Aside0.mk (below_step (by repeat (first | (with_reducible first | exact HB.out | apply below_alloc | apply pw_below_drewN | apply below_drew1) | exact HB.out)) hb); have n1_ := Aside0.mk (hbox); have n2_ := Aside0.mk ((by rw [hg]; exact (below_size (by repeat (first | (with_reducible first | exact HB.out | apply below_alloc | apply pw_below_drewN | apply below_drew1) | exact HB.out))) : w.heap.size ≤ gb451)); have n3_ := Aside0.mk ((by rw [hg]; exact (below_size (by repeat (first | (with_reducible first | exact HB.out | apply below_alloc | apply pw_below_drewN | apply below_drew1) | exact HB.out))) : w.heap.size ≤ gb451)); clear HB; have HB := n0_; have BK451 := n1_; have GW451 := n2_; have GE451 := n3_; clear n0_ n1_ n2_ n3_; clear hb hbox hg) | ((with_reducible refine gate_dst (N := 9) rfl ?_); refine box_event ?hg (N := 9) ?hd (cs := #[.slice A0 l0.length c0, .int .i64 0, .bool false]) (t := 76) ?hr ?_; (case hd => rfl); (case hg => rfl); (case hr => first | (go_simp; done) | (go_simp; rfl)); intro gb452 hg w16 hbox hb; have n0_ := Aside0.mk (blk_below (g := gb451) (o := .cells #[.int .i64 0, .int .i64 0, .string (⟨#[]⟩ : ByteArray), .int .i64 0, .slice none 0 0] 24 (0, 0)) (by (with_reducible repeat (first | refine blk_drewN ?_ _ | refine blk_drew ?_ | refine blk_alloc ?_ _)); exact BK451.out) hb); have n1_ := Aside0.mk (below_step (by repeat (first | (with_reducible first | exact HB.out | apply below_alloc | apply pw_below_drewN | apply below_drew1 | refine below_set ?_ GE451.out) | exact HB.out)) hb); have n2_ := Aside0.mk (hbox); have n3_ := Aside0.mk ((by rw [hg]; exact (below_size (by repeat (first | (with_reducible first | exact HB.out | apply below_alloc | apply pw_below_drewN | apply below_drew1 | refine below_set ?_ GE451.out) | exact HB.out))) : w.heap.size ≤ gb452)); have n4_ := Aside0.mk ((by rw [hg]; exact (below_size (by repeat (first | (with_reducible first | exact HB.out | apply below_alloc | apply pw_below_drewN | apply below_drew1 | refine below_set ?_ GE451.out) | exact HB.out))) : w.heap.size ≤ gb452)); have n5_ := Aside0.mk ((by rw [hg]; exact Nat.ne_of_lt (blk_lt (g := gb451) (o := .cells #[.int .i64 0, .int .i64 0, .string (⟨#[]⟩ : ByteArray), .int .i64 0, .slice none 0 0] 24 (0, 0)) (by (with_reducible repeat (first | refine blk_drewN ?_ _ | refine blk_drew ?_ | refine blk_alloc ?_ _)); exact BK451.out)) : gb451 ≠ gb452)); have n6_ := Aside0.mk ((by rw [hg]; exact Nat.ne_of_gt (blk_lt (g := gb451) (o := .cells #[.int .i64 0, .int .i64 0, .string (⟨#[]⟩ : ByteArray), .int .i64 0, .slice none 0 0] 24 (0, 0)) (by (with_reducible repeat (first | refine blk_drewN ?_ _ | refine blk_drew ?_ | refine blk_alloc ?_ _)); exact BK451.out)) : gb452 ≠ gb451)); clear BK451; clear HB; have BK451 := n0_; have HB := n1_; have BK452 := n2_; have GW452 := n3_; have GE452 := n4_; have NB451_452 := n5_; have NB452_451 := n6_; clear n0_ n1_ n2_ n3_ n4_ n5_ n6_; clear hb hbox hg; have HI452 := Aside0.mk (show IsS76 w _ gb452 l0 0 false from ⟨_, _, BK452.out, GE452.out, HR0.out, HC0.out⟩); clear BK452) | ((with_reducible refine gate_callee (f := 39) rfl ?_); refine goesL_ (some 11) rfl rfl Try.func39 (by kernel_rfl) rfl #[.pointer (some ⟨gb452, 0, none⟩), .bool false] rfl (by (try simp only [List.map_toArray, List.map_cons, List.map_nil]); first | done | rfl | (simp only [List.length_drop, List.length_take]; rfl) | (go_simp; done) | (go_simp; simp; done)) ?_; (with_reducible refine (codec_reader_value.calls k gb452 l0 0 false false t453 t454 t455 t456 t457 t460 t461 false w _ ?side1 ?side2 A2.out).mono ?_); (case side1 => first | ((repeat (first | (with_reducible first | exact HI452.out | apply IsS76.alloc | apply IsS76.drewN | apply IsS76.drew | apply IsS76.set_1 | apply IsS76.set_2 | refine IsS76.far ?_ NB452_451.out _ | (apply IsS76.far; case hne => exact NB452_451.out)) | exact HI452.out)); done) | ((simp only [*]); (repeat (first | (with_reducible first | exact HI452.out | apply IsS76.alloc | apply IsS76.drewN | apply IsS76.drew | apply IsS76.set_1 | apply IsS76.set_2 | refine IsS76.far ?_ NB452_451.out _ | (apply IsS76.far; case hne => exact NB452_451.out)) | exact HI452.out)))); (case side2 => repeat (first | (with_reducible first | exact HB.out | apply below_alloc | apply pw_below_drewN | apply below_drew1 | refine below_set ?_ (IsS76.ge HI452.out) | refine below_set ?_ GE451.out) | exact HB.out)); rintro e w17 ⟨v458, rfl, ho0, hi, hb, hk⟩; refine ⟨_, rfl, ?_⟩; have n0_ := Aside0.mk (KeepBut.blk hk (g' := gb451) (o := .cells #[.int .i64 0, .int .i64 0, .string (⟨#[]⟩ : ByteArray), .int .i64 0, .slice none 0 0] 24 (0, 0)) (by (with_reducible repeat (first | refine blk_drewN ?_ _ | refine blk_drew ?_ | refine blk_alloc ?_ _)); exact BK451.out) NB451_452.out (by simp)); have n1_ := Aside0.mk (Kd.R_lower (Kd.R_newB ho0 (g := gb451) (o := .cells #[.int .i64 0, .int .i64 0, .string (⟨#[]⟩ : ByteArray), .int .i64 0, .slice none 0 0] 24 (0, 0)) (by (with_reducible repeat (first | refine blk_drewN ?_ _ | refine blk_drew ?_ | refine blk_alloc ?_ _)); exact BK451.out)) (below_size (by repeat (first | (with_reducible first | exact HB.out | apply below_alloc | apply pw_below_drewN | apply below_drew1 | refine below_set ?_ (IsS76.ge HI452.out) | refine below_set ?_ GE451.out) | exact HB.out)))); have n2_ := Aside0.mk (hb); have n3_ := Aside0.mk (hi); clear BK451; clear HB; clear HI452; have BK451 := n0_; have HO459 := n1_; have HB := n2_; have HI452 := n3_; clear n0_ n1_ n2_ n3_; (try clear hb); (try clear hb2); (try clear hk); (try clear hi); (try clear ho0)) | ((with_reducible refine gate_dst (N := 6) rfl ?_); refine box_event ?hg (N := 6) ?hd (cs := #[.int .i64 0, .int .i64 0, .string (⟨#[]⟩ : ByteArray), .int .i64 0, .slice none 0 0]) (t := 24) ?hr ?_; (case hd => rfl); (case hg => rfl); (case hr => first | (go_simp; done) | (go_simp; rfl)); intro gb463 hg w18 hbox hb; have n0_ := Aside0.mk (Kd.R_below (Kd.R_elderB (by (with_reducible repeat (first | apply Kd.R_alloc | apply Kd.R_drewN | apply Kd.R_drew)); exact HO459.out) gb463 (Nat.le_of_eq hg.symm)) hb); have n1_ := Aside0.mk (blk_below (g := gb451) (o := .cells #[.int .i64 0, .int .i64 0, .string (⟨#[]⟩ : ByteArray), .int .i64 0, .slice none 0 0] 24 (0, 0)) (by (with_reducible repeat (first | refine blk_drewN ?_ _ | refine blk_drew ?_ | refine blk_alloc ?_ _)); exact BK451.out) hb); have n2_ := Aside0.mk (IsS76.below (by first | ((repeat (first | (with_reducible first | exact HI452.out | apply IsS76.alloc | apply IsS76.drewN | apply IsS76.drew | apply IsS76.set_1 | apply IsS76.set_2 | refine IsS76.far ?_ NB452_451.out _ | (apply IsS76.far; case hne => exact NB452_451.out)) | exact HI452.out)); done) | ((simp only [*]); (repeat (first | (with_reducible first | exact HI452.out | apply IsS76.alloc | apply IsS76.drewN | apply IsS76.drew | apply IsS76.set_1 | apply IsS76.set_2 | refine IsS76.far ?_ NB452_451.out _ | (apply IsS76.far; case hne => exact NB452_451.out)) | exact HI452.out)))) hb); have n3_ := Aside0.mk (below_step (by repeat (first | (with_reducible first | exact HB.out | apply below_alloc | apply pw_below_drewN | apply below_drew1 | refine below_set ?_ (IsS76.ge HI452.out) | refine below_set ?_ GE451.out) | exact HB.out)) hb); have n4_ := Aside0.mk (hbox); have n5_ := Aside0.mk ((by rw [hg]; exact (below_size (by repeat (first | (with_reducible first | exact HB.out | apply below_alloc | apply pw_below_drewN | apply below_drew1 | refine below_set ?_ (IsS76.ge HI452.out) | refine below_set ?_ GE451.out) | exact HB.out))) : w.heap.size ≤ gb463)); have n6_ := Aside0.mk ((by rw [hg]; exact (below_size (by repeat (first | (with_reducible first | exact HB.out | apply below_alloc | apply pw_below_drewN | apply below_drew1 | refine below_set ?_ (IsS76.ge HI452.out) | refine below_set ?_ GE451.out) | exact HB.out))) : w.heap.size ≤ gb463)); have n7_ := Aside0.mk ((by rw [hg]; exact Nat.ne_of_lt (blk_lt (g := gb451) (o := .cells #[.int .i64 0, .int .i64 0, .string (⟨#[]⟩ : ByteArray), .int .i64 0, .slice none 0 0] 24 (0, 0)) (by (with_reducible repeat (first | refine blk_drewN ?_ _ | refine blk_drew ?_ | refine blk_alloc ?_ _)); exact BK451.out)) : gb451 ≠ gb463)); have n8_ := Aside0.mk ((by rw [hg]; exact Nat.ne_of_gt (blk_lt (g := gb451) (o := .cells #[.int .i64 0, .int .i64 0, .string (⟨#[]⟩ : ByteArray), .int .i64 0, .slice none 0 0] 24 (0, 0)) (by (with_reducible repeat (first | refine blk_drewN ?_ _ | refine blk_drew ?_ | refine blk_alloc ?_ _)); exact BK451.out)) : gb463 ≠ gb451)); have n9_ := Aside0.mk ((by rw [hg]; exact Nat.ne_of_lt (IsS76.lt (show IsS76 w _ gb452 t460 t461 false from by first | ((repeat (first | (with_reducible first | exact HI452.out | apply IsS76.alloc | apply IsS76.drewN | apply IsS76.drew | apply IsS76.set_1 | apply IsS76.set_2 | refine IsS76.far ?_ NB452_451.out _ | (apply IsS76.far; case hne => exact NB452_451.out)) | exact HI452.out)); done) | ((simp only [*]); (repeat (first | (with_reducible first | exact HI452.out | apply IsS76.alloc | apply IsS76.drewN | apply IsS76.drew | apply IsS76.set_1 | apply IsS76.set_2 | refine IsS76.far ?_ NB452_451.out _ | (apply IsS76.far; case hne => exact NB452_451.out)) | exact HI452.out))))) : gb452 ≠ gb463)); have n10_ := Aside0.mk ((by rw [hg]; exact Nat.ne_of_gt (IsS76.lt (show IsS76 w _ gb452 t460 t461 false from by first | ((repeat (first | (with_reducible first | exact HI452.out | apply IsS76.alloc | apply IsS76.drewN | apply IsS76.drew | apply IsS76.set_1 | apply IsS76.set_2 | refine IsS76.far ?_ NB452_451.out _ | (apply IsS76.far; case hne => exact NB452_451.out)) | exact HI452.out)); done) | ((simp only [*]); (repeat (first | (with_reducible first | exact HI452.out | apply IsS76.alloc | apply IsS76.drewN | apply IsS76.drew | apply IsS76.set_1 | apply IsS76.set_2 | refine IsS76.far ?_ NB452_451.out _ | (apply IsS76.far; case hne => exact NB452_451.out)) | exact HI452.out))))) : gb463 ≠ gb452)); clear HO459; clear BK451; clear HI452; clear HB; have HO459 := n0_; have BK451 := n1_; have HI452 := n2_; have HB := n3_; have BK463 := n4_; have GW463 := n5_; have GE463 := n6_; have NB451_463 := n7_; have NB463_451 := n8_; have NB452_463 := n9_; have NB463_452 := n10_; clear n0_ n1_ n2_ n3_ n4_ n5_ n6_ n7_ n8_ n9_ n10_; clear hb hbox hg; have hnb19 := NB463_451.out; have hnc19 := NB451_463.out; have hnb20 := NB463_452.out; have hnc20 := NB452_463.out; have hcz21_0 : w18.cell? ⟨gb463, 0, none⟩ = some (.int .i64 0) := (blk_cell BK463.out 0).trans rfl; have hcz21_1 : w18.cell? ⟨gb463, 1, none⟩ = some (.int .i64 0) := (blk_cell BK463.out 1).trans rfl; have hcz21_2 : w18.cell? ⟨gb463, 2, none⟩ = some (.string (⟨#[]⟩ : ByteArray)) := (blk_cell BK463.out 2).trans rfl; have hcz21_3 : w18.cell? ⟨gb463, 3, none⟩ = some (.int .i64 0) := (blk_cell BK463.out 3).trans rfl; have hcz21_4 : w18.cell? ⟨gb463, 4, none⟩ = some (.slice none 0 0) := (blk_cell BK463.out 4).trans rfl; have hfz21_0 := blk_frozen BK463.out 0; have hfz21_1 := blk_frozen BK463.out 1; have hfz21_2 := blk_frozen BK463.out 2; have hfz21_3 := blk_frozen BK463.out 3; have hfz21_4 := blk_frozen BK463.out 4; obtain ⟨Ao22, co22, eo22⟩ := Kd.R_slice HO459.out; subst eo22; obtain ⟨ASz23_0, cSz23_0, HGz23, hgz23, HSz23_0, hlSz23_0⟩ := HI452.out; have hcz23_0 := cellS76_0 HGz23; have hcz23_1 := cellS76_1 HGz23; have hcz23_2 := cellS76_2 HGz23; have hfz23_0 := blk_frozen HGz23 0; have hfz23_1 := blk_frozen HGz23 1; have hfz23_2 := blk_frozen HGz23 2; clear HGz23 hgz23))
  have n0_ : Aside0 (Kd.R k24 24 (((((w18.setCell ⟨gb463, 0, none⟩ (.int .i64 t453)).setCell ⟨gb463, 1, none⟩ (.int .i64 t454)).setCell ⟨gb463, 2, none⟩ (.string t455)).setCell ⟨gb463, 3, none⟩ (.int .i64 t456)).setCell ⟨gb463, 4, none⟩ (.slice Ao22 t457.length co22)) w.heap.size (fun k_ => k_ ≠ gb451 ∧ k_ ≠ gb463) (.slice Ao22 t457.length co22) t457) := ⟨by (with_reducible repeat (first | apply Kd.R_alloc | apply Kd.R_drewN | apply Kd.R_drew)); exact Kd.R_mono (Kd.R_far (p := ⟨gb463, 4, none⟩) (Kd.R_far (p := ⟨gb463, 3, none⟩) (Kd.R_far (p := ⟨gb463, 2, none⟩) (Kd.R_far (p := ⟨gb463, 1, none⟩) (Kd.R_far (p := ⟨gb463, 0, none⟩) (Kd.R_mono HO459.out (fun k_ hk => (⟨hk, hk.2⟩ : _ ∧ k_ ≠ gb463))) (fun _ hk => hk.2) (.int .i64 t453)) (fun _ hk => hk.2) (.int .i64 t454)) (fun _ hk => hk.2) (.string t455)) (fun _ hk => hk.2) (.int .i64 t456)) (fun _ hk => hk.2) (.slice Ao22 t457.length co22)) (fun _ hk => ⟨hk.1.1.2, hk.1.2⟩)⟩
  have n1_ : Aside0 ((((((w18.setCell ⟨gb463, 0, none⟩ (.int .i64 t453)).setCell ⟨gb463, 1, none⟩ (.int .i64 t454)).setCell ⟨gb463, 2, none⟩ (.string t455)).setCell ⟨gb463, 3, none⟩ (.int .i64 t456)).setCell ⟨gb463, 4, none⟩ (.slice Ao22 t457.length co22)).heap[gb451]? = some (.cells #[.int .i64 0, .int .i64 0, .string (⟨#[]⟩ : ByteArray), .int .i64 0, .slice none 0 0] 24 (0, 0))) := ⟨by (with_reducible repeat (first | refine blk_drewN ?_ _ | refine blk_drew ?_ | refine blk_alloc ?_ _)); refine blk_far ?_ NB451_463.out _; (with_reducible repeat (first | refine blk_drewN ?_ _ | refine blk_drew ?_ | refine blk_alloc ?_ _)); refine blk_far ?_ NB451_463.out _; (with_reducible repeat (first | refine blk_drewN ?_ _ | refine blk_drew ?_ | refine blk_alloc ?_ _)); refine blk_far ?_ NB451_463.out _; (with_reducible repeat (first | refine blk_drewN ?_ _ | refine blk_drew ?_ | refine blk_alloc ?_ _)); refine blk_far ?_ NB451_463.out _; (with_reducible repeat (first | refine blk_drewN ?_ _ | refine blk_drew ?_ | refine blk_alloc ?_ _)); refine blk_far ?_ NB451_463.out _; (with_reducible repeat (first | refine blk_drewN ?_ _ | refine blk_drew ?_ | refine blk_alloc ?_ _)); exact BK451.out⟩
  have n2_ : Aside0 ((((((w18.setCell ⟨gb463, 0, none⟩ (.int .i64 t453)).setCell ⟨gb463, 1, none⟩ (.int .i64 t454)).setCell ⟨gb463, 2, none⟩ (.string t455)).setCell ⟨gb463, 3, none⟩ (.int .i64 t456)).setCell ⟨gb463, 4, none⟩ (.slice Ao22 t457.length co22)).heap[gb463]? = some (.cells #[.int .i64 t453, .int .i64 t454, .string t455, .int .i64 t456, .slice Ao22 t457.length co22] 24 (0, 0))) := ⟨by (with_reducible repeat (first | refine blk_drewN ?_ _ | refine blk_drew ?_ | refine blk_alloc ?_ _)); refine blk_put (cs := #[.int .i64 t453, .int .i64 t454, .string t455, .int .i64 t456, .slice none 0 0]) ?_ 4 _ rfl; (with_reducible repeat (first | refine blk_drewN ?_ _ | refine blk_drew ?_ | refine blk_alloc ?_ _)); refine blk_put (cs := #[.int .i64 t453, .int .i64 t454, .string t455, .int .i64 0, .slice none 0 0]) ?_ 3 _ rfl; (with_reducible repeat (first | refine blk_drewN ?_ _ | refine blk_drew ?_ | refine blk_alloc ?_ _)); refine blk_put (cs := #[.int .i64 t453, .int .i64 t454, .string (⟨#[]⟩ : ByteArray), .int .i64 0, .slice none 0 0]) ?_ 2 _ rfl; (with_reducible repeat (first | refine blk_drewN ?_ _ | refine blk_drew ?_ | refine blk_alloc ?_ _)); refine blk_put (cs := #[.int .i64 t453, .int .i64 0, .string (⟨#[]⟩ : ByteArray), .int .i64 0, .slice none 0 0]) ?_ 1 _ rfl; (with_reducible repeat (first | refine blk_drewN ?_ _ | refine blk_drew ?_ | refine blk_alloc ?_ _)); refine blk_put (cs := #[.int .i64 0, .int .i64 0, .string (⟨#[]⟩ : ByteArray), .int .i64 0, .slice none 0 0]) ?_ 0 _ rfl; (with_reducible repeat (first | refine blk_drewN ?_ _ | refine blk_drew ?_ | refine blk_alloc ?_ _)); exact BK463.out⟩
  have n3_ : Aside0 (IsS76 w (((((w18.setCell ⟨gb463, 0, none⟩ (.int .i64 t453)).setCell ⟨gb463, 1, none⟩ (.int .i64 t454)).setCell ⟨gb463, 2, none⟩ (.string t455)).setCell ⟨gb463, 3, none⟩ (.int .i64 t456)).setCell ⟨gb463, 4, none⟩ (.slice Ao22 t457.length co22)) gb452 t460 t461 false) := ⟨by first | ((repeat (first | (with_reducible first | exact HI452.out | apply IsS76.alloc | apply IsS76.drewN | apply IsS76.drew | apply IsS76.set_1 | apply IsS76.set_2 | refine IsS76.far ?_ NB452_451.out _ | (apply IsS76.far; case hne => exact NB452_451.out) | refine IsS76.far ?_ NB452_463.out _ | (apply IsS76.far; case hne => exact NB452_463.out)) | exact HI452.out)); done) | ((simp only [*]); (repeat (first | (with_reducible first | exact HI452.out | apply IsS76.alloc | apply IsS76.drewN | apply IsS76.drew | apply IsS76.set_1 | apply IsS76.set_2 | refine IsS76.far ?_ NB452_451.out _ | (apply IsS76.far; case hne => exact NB452_451.out) | refine IsS76.far ?_ NB452_463.out _ | (apply IsS76.far; case hne => exact NB452_463.out)) | exact HI452.out)))⟩
  have n4_ : Aside0 (Below w.heap.size w (((((w18.setCell ⟨gb463, 0, none⟩ (.int .i64 t453)).setCell ⟨gb463, 1, none⟩ (.int .i64 t454)).setCell ⟨gb463, 2, none⟩ (.string t455)).setCell ⟨gb463, 3, none⟩ (.int .i64 t456)).setCell ⟨gb463, 4, none⟩ (.slice Ao22 t457.length co22))) := ⟨by repeat (first | (with_reducible first | exact HB.out | apply below_alloc | apply pw_below_drewN | apply below_drew1 | refine below_set ?_ (IsS76.ge HI452.out) | refine below_set ?_ GE451.out | refine below_set ?_ GE463.out) | exact HB.out)⟩
  (try clear HO459)
  (try clear BK451)
  (try clear BK463)
  (try clear HI452)
  (try clear HB)
  generalize (((((w18.setCell ⟨gb463, 0, none⟩ (.int .i64 t453)).setCell ⟨gb463, 1, none⟩ (.int .i64 t454)).setCell ⟨gb463, 2, none⟩ (.string t455)).setCell ⟨gb463, 3, none⟩ (.int .i64 t456)).setCell ⟨gb463, 4, none⟩ (.slice Ao22 t457.length co22)) = w24 at n0_ n1_ n2_ n3_ n4_ ⊢
  have HO459 := n0_
  have BK451 := n1_
  have BK463 := n2_
  have HI452 := n3_
  have HB := n4_
  clear n0_ n1_ n2_ n3_ n4_
  obtain ⟨AT452_0, cT452_0, HGT_, hgT_, hrT_0, hlT_0⟩ := HI452.out
  have BK452 := Aside0.mk HGT_
  clear HGT_ hgT_ HI452
  have n0_ := Aside0.mk (Kd.R_drew HO459.out)
  have n1_ := Aside0.mk (blk_drew BK451.out)
  have n2_ := Aside0.mk (blk_drew BK452.out)
  have n3_ := Aside0.mk (blk_drew BK463.out)
  have n4_ := Aside0.mk (below_drew1 HB.out)
  clear HO459
  clear BK451
  clear BK452
  clear BK463
  clear HB
  have HO459 := n0_
  have BK451 := n1_
  have BK452 := n2_
  have BK463 := n3_
  have HB := n4_
  clear n0_ n1_ n2_ n3_ n4_
  refine start_ (n := 8) (S := fun w' => w'.cell? ⟨gb463, 0, none⟩ = some (.int .i64 t453) ∧ w'.cell? ⟨gb463, 1, none⟩ = some (.int .i64 t454) ∧ w'.cell? ⟨gb463, 2, none⟩ = some (.string t455) ∧ w'.cell? ⟨gb463, 3, none⟩ = some (.int .i64 t456) ∧ w'.cell? ⟨gb463, 4, none⟩ = some (.slice Ao22 t457.length co22) ∧ w'.cell? ⟨gb452, 0, none⟩ = some (.slice AT452_0 t460.length cT452_0) ∧ w'.cell? ⟨gb452, 1, none⟩ = some (.int .i64 t461) ∧ w'.cell? ⟨gb452, 2, none⟩ = some (.bool false)) (ds := []) #[false, false, false, false, false, false, false, false] (by kernel_rfl) rfl rfl ⟨(blk_cell BK463.out 0).trans rfl, (blk_cell BK463.out 1).trans rfl, (blk_cell BK463.out 2).trans rfl, (blk_cell BK463.out 3).trans rfl, (blk_cell BK463.out 4).trans rfl, (blk_cell BK452.out 0).trans rfl, (blk_cell BK452.out 1).trans rfl, (blk_cell BK452.out 2).trans rfl⟩ (fun hHeld => ?_); refine with_tabW codec_Value.tab5 codec_Value.bits5 (fun HT_ HW_ => ?_)
  generalize w24.drew = w25 at HO459 BK451 BK452 BK463 HB hHeld ⊢
  refine pure_ (i := 1) (N := some 18) (v := ?_) (a' := ?_) #[false, true, false, false, false, false, false, false] rfl rfl (any_of HT_.out (by kernel_rfl)) (fun _ _ _ h => h) (Or.inl ⟨by rfl, ?_⟩) ?_ ?_
  rotate_left
  ·intro w'
   go_simp
   with_reducible rfl
  rotate_left
  ·simp only [Act.put, List.setIfInBounds_toArray, List.set_cons_zero, List.set_cons_succ, i64_w, i32_w]
   rfl
  refine pure_ (i := 2) (N := some 19) (v := ?_) (a' := ?_) #[false, true, true, false, false, false, false, false] rfl rfl (any_of HT_.out (by kernel_rfl)) (fun _ _ _ h => h) (Or.inl ⟨by rfl, ?_⟩) ?_ ?_
  rotate_left
  ·intro w'
   go_simp
   with_reducible rfl
  rotate_left
  ·simp only [Act.put, List.setIfInBounds_toArray, List.set_cons_zero, List.set_cons_succ, i64_w, i32_w]
   rfl
  refine pure_ (i := 3) (N := some 20) (v := ?_) (a' := ?_) #[false, true, true, true, false, false, false, false] rfl rfl (any_of HT_.out (by kernel_rfl)) (fun _ _ _ h => h) (Or.inl ⟨by rfl, ?_⟩) ?_ ?_
  rotate_left
  ·intro w'
   go_simp
   with_reducible rfl
  rotate_left
  ·simp only [Act.put, List.setIfInBounds_toArray, List.set_cons_zero, List.set_cons_succ, i64_w, i32_w]
   rfl
  refine take_ (i := 0) (N := some 17) (v := ?_) (a' := ?_) #[true, true, true, true, false, false, false, false] rfl rfl (take_ofW HT_.out HW_.out (by kernel_rfl)) (fun _ _ _ h => h) (Or.inl ⟨by rfl, ?_⟩) hHeld ?_ ?_
  rotate_left
  ·rintro w' ⟨s0, s1, s2, s3, s4, s5, s6, s7⟩
   go_simp
   with_reducible rfl
  rotate_left
  ·simp only [Act.put, List.setIfInBounds_toArray, List.set_cons_zero, List.set_cons_succ, i64_w, i32_w]
   rfl
  refine take_ (i := 4) (N := some 21) (v := ?_) (a' := ?_) #[true, true, true, true, true, false, false, false] rfl rfl (take_ofW HT_.out HW_.out (by kernel_rfl)) (fun _ _ _ h => h) (Or.inl ⟨by rfl, ?_⟩) hHeld ?_ ?_
  rotate_left
  ·rintro w' ⟨s0, s1, s2, s3, s4, s5, s6, s7⟩
   go_simp
   with_reducible rfl
  rotate_left
  ·simp only [Act.put, List.setIfInBounds_toArray, List.set_cons_zero, List.set_cons_succ, i64_w, i32_w]
   rfl
  refine one_ (i := 5) (N := none) #[true, true, true, true, true, true, false, false] rfl rfl (one_of HT_.out (by kernel_rfl)) (by decide) (fun K hK => ?_)
  have hs26 : w25.cell? ⟨gb451, 0, none⟩ = some (.int .i64 0) := (blk_cell BK451.out 0).trans rfl
  have hfs26 := blk_frozen BK451.out 0
  have hns26_1 := NB452_451.out
  have hns26_2 := NB463_451.out
  have hms26_1 := NB451_452.out
  have hms26_2 := NB451_463.out
  have hs27 : w25.cell? ⟨gb451, 1, none⟩ = some (.int .i64 0) := (blk_cell BK451.out 1).trans rfl
  have hfs27 := blk_frozen BK451.out 1
  have hns27_1 := NB452_451.out
  have hns27_2 := NB463_451.out
  have hms27_1 := NB451_452.out
  have hms27_2 := NB451_463.out
  have hs28 : w25.cell? ⟨gb451, 2, none⟩ = some (.string (⟨#[]⟩ : ByteArray)) := (blk_cell BK451.out 2).trans rfl
  have hfs28 := blk_frozen BK451.out 2
  have hns28_1 := NB452_451.out
  have hns28_2 := NB463_451.out
  have hms28_1 := NB451_452.out
  have hms28_2 := NB451_463.out
  have hs29 : w25.cell? ⟨gb451, 3, none⟩ = some (.int .i64 0) := (blk_cell BK451.out 3).trans rfl
  have hfs29 := blk_frozen BK451.out 3
  have hns29_1 := NB452_451.out
  have hns29_2 := NB463_451.out
  have hms29_1 := NB451_452.out
  have hms29_2 := NB451_463.out
  have hs30 : w25.cell? ⟨gb451, 4, none⟩ = some (.slice none 0 0) := (blk_cell BK451.out 4).trans rfl
  have hfs30 := blk_frozen BK451.out 4
  have hns30_1 := NB452_451.out
  have hns30_2 := NB463_451.out
  have hms30_1 := NB451_452.out
  have hms30_2 := NB451_463.out
  refine skip_ (w1 := ?_) (by rfl) rfl ?_ ?_
  rotate_left
  ·go_simp
   rfl
  refine hK.out _ _ ⟨((cell_far (p := ⟨gb451, _, none⟩) NB463_451.out _).trans (((cell_far (p := ⟨gb451, _, none⟩) NB463_451.out _).trans (((cell_far (p := ⟨gb451, _, none⟩) NB463_451.out _).trans (((cell_far (p := ⟨gb451, _, none⟩) NB463_451.out _).trans (((cell_far (p := ⟨gb451, _, none⟩) NB463_451.out _).trans (hHeld.1)))))))))), ((cell_far (p := ⟨gb451, _, none⟩) NB463_451.out _).trans (((cell_far (p := ⟨gb451, _, none⟩) NB463_451.out _).trans (((cell_far (p := ⟨gb451, _, none⟩) NB463_451.out _).trans (((cell_far (p := ⟨gb451, _, none⟩) NB463_451.out _).trans (((cell_far (p := ⟨gb451, _, none⟩) NB463_451.out _).trans (hHeld.2.1)))))))))), ((cell_far (p := ⟨gb451, _, none⟩) NB463_451.out _).trans (((cell_far (p := ⟨gb451, _, none⟩) NB463_451.out _).trans (((cell_far (p := ⟨gb451, _, none⟩) NB463_451.out _).trans (((cell_far (p := ⟨gb451, _, none⟩) NB463_451.out _).trans (((cell_far (p := ⟨gb451, _, none⟩) NB463_451.out _).trans (hHeld.2.2.1)))))))))), ((cell_far (p := ⟨gb451, _, none⟩) NB463_451.out _).trans (((cell_far (p := ⟨gb451, _, none⟩) NB463_451.out _).trans (((cell_far (p := ⟨gb451, _, none⟩) NB463_451.out _).trans (((cell_far (p := ⟨gb451, _, none⟩) NB463_451.out _).trans (((cell_far (p := ⟨gb451, _, none⟩) NB463_451.out _).trans (hHeld.2.2.2.1)))))))))), ((cell_far (p := ⟨gb451, _, none⟩) NB463_451.out _).trans (((cell_far (p := ⟨gb451, _, none⟩) NB463_451.out _).trans (((cell_far (p := ⟨gb451, _, none⟩) NB463_451.out _).trans (((cell_far (p := ⟨gb451, _, none⟩) NB463_451.out _).trans (((cell_far (p := ⟨gb451, _, none⟩) NB463_451.out _).trans (hHeld.2.2.2.2.1)))))))))), ((cell_far (p := ⟨gb451, _, none⟩) NB452_451.out _).trans (((cell_far (p := ⟨gb451, _, none⟩) NB452_451.out _).trans (((cell_far (p := ⟨gb451, _, none⟩) NB452_451.out _).trans (((cell_far (p := ⟨gb451, _, none⟩) NB452_451.out _).trans (((cell_far (p := ⟨gb451, _, none⟩) NB452_451.out _).trans (hHeld.2.2.2.2.2.1)))))))))), ((cell_far (p := ⟨gb451, _, none⟩) NB452_451.out _).trans (((cell_far (p := ⟨gb451, _, none⟩) NB452_451.out _).trans (((cell_far (p := ⟨gb451, _, none⟩) NB452_451.out _).trans (((cell_far (p := ⟨gb451, _, none⟩) NB452_451.out _).trans (((cell_far (p := ⟨gb451, _, none⟩) NB452_451.out _).trans (hHeld.2.2.2.2.2.2.1)))))))))), ((cell_far (p := ⟨gb451, _, none⟩) NB452_451.out _).trans (((cell_far (p := ⟨gb451, _, none⟩) NB452_451.out _).trans (((cell_far (p := ⟨gb451, _, none⟩) NB452_451.out _).trans (((cell_far (p := ⟨gb451, _, none⟩) NB452_451.out _).trans (((cell_far (p := ⟨gb451, _, none⟩) NB452_451.out _).trans (hHeld.2.2.2.2.2.2.2))))))))))⟩ (fun hHeld => ?_)
  clear hK K
  refine pure_ (i := 6) (N := some 3) (v := ?_) (a' := ?_) #[true, true, true, true, true, true, true, false] rfl rfl (any_of HT_.out (by kernel_rfl)) (fun _ _ _ h => h) (Or.inl ⟨by rfl, ?_⟩) ?_ ?_
  rotate_left
  ·intro w'
   go_simp
   with_reducible rfl
  rotate_left
  ·simp only [Act.put, List.setIfInBounds_toArray, List.set_cons_zero, List.set_cons_succ, i64_w, i32_w]
   rfl
  refine pure_ (i := 7) (N := some 4) (v := ?_) (a' := ?_) #[true, true, true, true, true, true, true, true] rfl rfl (any_of HT_.out (by kernel_rfl)) (fun _ _ _ h => h) (Or.inl ⟨by rfl, ?_⟩) ?_ ?_
  rotate_left
  ·intro w'
   go_simp
   with_reducible rfl
  rotate_left
  ·simp only [Act.put, List.setIfInBounds_toArray, List.set_cons_zero, List.set_cons_succ, i64_w, i32_w]
   rfl
  refine done_ (done_of HT_.out (by kernel_rfl)) ?_
  try go_wp2
  refine bodyPost_ret (results_ctt rfl _ _ gb451 24 #[.int .i64 t453, .int .i64 t454, .string t455, .int .i64 t456, .slice Ao22 t457.length co22] (0, 0) _ rfl (by (with_reducible repeat (first | refine blk_drewN ?_ _ | refine blk_drew ?_ | refine blk_alloc ?_ _)); refine blk_put (cs := #[.int .i64 t453, .int .i64 t454, .string t455, .int .i64 t456, .slice none 0 0]) ?_ 4 _ rfl; (with_reducible repeat (first | refine blk_drewN ?_ _ | refine blk_drew ?_ | refine blk_alloc ?_ _)); refine blk_put (cs := #[.int .i64 t453, .int .i64 t454, .string t455, .int .i64 0, .slice none 0 0]) ?_ 3 _ rfl; (with_reducible repeat (first | refine blk_drewN ?_ _ | refine blk_drew ?_ | refine blk_alloc ?_ _)); refine blk_put (cs := #[.int .i64 t453, .int .i64 t454, .string (⟨#[]⟩ : ByteArray), .int .i64 0, .slice none 0 0]) ?_ 2 _ rfl; (with_reducible repeat (first | refine blk_drewN ?_ _ | refine blk_drew ?_ | refine blk_alloc ?_ _)); refine blk_put (cs := #[.int .i64 t453, .int .i64 0, .string (⟨#[]⟩ : ByteArray), .int .i64 0, .slice none 0 0]) ?_ 1 _ rfl; (with_reducible repeat (first | refine blk_drewN ?_ _ | refine blk_drew ?_ | refine blk_alloc ?_ _)); refine blk_put (cs := #[.int .i64 0, .int .i64 0, .string (⟨#[]⟩ : ByteArray), .int .i64 0, .slice none 0 0]) ?_ 0 _ rfl; (with_reducible repeat (first | refine blk_drewN ?_ _ | refine blk_drew ?_ | refine blk_alloc ?_ _)); exact BK451.out) Try.underlying24 rfl (by kernel_rfl)) rfl ?_
  exact ⟨_, by first | rfl | (simp [errW_none, errW_some] <;> rfl) | (simp [*, errW_none, errW_some] <;> rfl), by (with_reducible repeat (first | apply Kd.R_alloc | apply Kd.R_drewN | apply Kd.R_drew)); exact Kd.R_mono (Kd.R_far (p := ⟨gb451, 4, none⟩) (Kd.R_far (p := ⟨gb451, 3, none⟩) (Kd.R_far (p := ⟨gb451, 2, none⟩) (Kd.R_far (p := ⟨gb451, 1, none⟩) (Kd.R_far (p := ⟨gb451, 0, none⟩) (Kd.R_mono HO459.out (fun k_ hk => (⟨hk, hk.1⟩ : _ ∧ k_ ≠ gb451))) (fun _ hk => hk.2) (.int .i64 t453)) (fun _ hk => hk.2) (.int .i64 t454)) (fun _ hk => hk.2) (.string t455)) (fun _ hk => hk.2) (.int .i64 t456)) (fun _ hk => hk.2) (.slice Ao22 t457.length co22)) (fun _ hk => trivial), by repeat (first | (with_reducible first | exact HB.out | apply below_alloc | apply pw_below_drewN | apply below_drew1 | refine below_set ?_ GE451.out | refine below_set ?_ GE452.out | refine below_set ?_ GE463.out) | exact HB.out)⟩

end Go.Proofs.Ythbnblmnamckmaa.PAll
-- Laid by a program of this seat (wip/xprint.py over the kit's print).
namespace Go.Proofs.Ythbnblmnamckmaa.PAll
open Go.RowKit Go.Proofs.YthbnblmnamckmaaW.PrintWords Go.Proofs.YthbnblmnamckmaaW.PrintLast Go.Proofs.YthbnblmnamckmaaW.PrintMore
attribute [local go_sem] max2_int min2_int max_two min_two max_three min_three max_four min_four   -- for this text's walks alone
set_option linter.unusedVariables false
set_option linter.unusedSimpArgs false

/-! ### windlasslaw2_CodecRows: function 6 -/
mutual
def windlasslaw2_CodecRows.l0 : Nat → List (S24) → List Int → List Int → Int → Option (Bool)
 | 0, _, _, _, _ => none
 | k + 1, x0, x3, x4, x5 => if x5 < (x0.length : Int) then (if 0 ≤ x5 then ((codec_PutValue.f k ((rd_T24 x0 x5).f0) ((rd_T24 x0 x5).f1) ((rd_T24 x0 x5).f2) ((rd_T24 x0 x5).f3) ((rd_T24 x0 x5).f4)).bind fun bt467 => (if bt467.2 = 0 then (if x3.length + bt467.1.length < 140737488355328 then (if x4.length < 17592186044416 then (windlasslaw2_CodecRows.l0 k x0 (x3 ++ bt467.1) (x4 ++ [(bt467.1.length : Int)]) (wrap64 (x5 + 1))) else (none)) else (none)) else (windlasslaw2_CodecRows.l0 k x0 x3 x4 (wrap64 (x5 + 1))))) else (none)) else (windlasslaw2_CodecRows.l1 k x3 x4 0)
def windlasslaw2_CodecRows.l1 : Nat → List Int → List Int → Int → Option (Bool)
 | 0, _, _, _ => none
 | k + 1, x3, x4, x8 => if x8 < (x4.length : Int) then ((codec_Value.f k x3).bind fun bt487 => (if bt487.2.2.2.2.2.2 = 0 then (if 0 ≤ x8 then (windlasslaw2_CodecRows.j2 k x3 x4 x8 bt487.2.2.2.2.2.1 (bt487.2.2.2.2.2.1 != (rd x4 x8)) bt487.1 bt487.2.1 bt487.2.2.1 bt487.2.2.2.1 bt487.2.2.2.2.1) else (none)) else (windlasslaw2_CodecRows.j2 k x3 x4 x8 bt487.2.2.2.2.2.1 true bt487.1 bt487.2.1 bt487.2.2.1 bt487.2.2.2.1 bt487.2.2.2.2.1))) else ((codec_Value.f k ([] : List Int)).bind fun bt477 => (if (x3.length : Int) = 0 then (some (bt477.2.2.2.2.2.2 == 20)) else (some false)))
def windlasslaw2_CodecRows.j2 : Nat → List Int → List Int → Int → Int → Bool → Int → Int → ByteArray → Int → List (S24) → Option (Bool)
 | 0, _, _, _, _, _, _, _, _, _, _ => none
 | k + 1, x3, x4, x8, x10, x66, x497000, x497001, x497002, x497003, x497004 => if x66 = true then (some false) else ((codec_PutValue.f k x497000 x497001 x497002 x497003 x497004).bind fun bt498 => (if bt498.2 = 0 then (if 0 ≤ x10 then (if x10 ≤ (x3.length : Int) then ((windlasshelp_Bytes.f bt498.1 (x3.take (x10 : Int).toNat)).bind fun t506 => (if t506 = true then (windlasslaw2_CodecRows.l1 k (x3.drop (x10 : Int).toNat) x4 (wrap64 (x8 + 1))) else (some false))) else (none)) else (none)) else (some false)))
end
def windlasslaw2_CodecRows.f (k : Nat) (l0 : List (S24)) : Option (Bool) := (windlasslaw2_known.f k).bind fun t464 => (if t464 = true then ((windlasshelp_Smalls.f k l0).bind fun t465 => (if t465 = true then (windlasslaw2_CodecRows.l0 k l0 ([] : List Int) ([] : List Int) 0) else (some true))) else (some false))
theorem windlasslaw2_CodecRows.mono_l : ∀ k, (∀ y0 y1 y2 y3, LeO (windlasslaw2_CodecRows.l0 k y0 y1 y2 y3) (windlasslaw2_CodecRows.l0 (k + 1) y0 y1 y2 y3)) ∧ (∀ y0 y1 y2, LeO (windlasslaw2_CodecRows.l1 k y0 y1 y2) (windlasslaw2_CodecRows.l1 (k + 1) y0 y1 y2)) ∧ (∀ y0 y1 y2 y3 y4 y5 y6 y7 y8 y9, LeO (windlasslaw2_CodecRows.j2 k y0 y1 y2 y3 y4 y5 y6 y7 y8 y9) (windlasslaw2_CodecRows.j2 (k + 1) y0 y1 y2 y3 y4 y5 y6 y7 y8 y9))
 | 0 => ⟨fun _ _ _ _ r h => by simp [windlasslaw2_CodecRows.l0] at h, fun _ _ _ r h => by simp [windlasslaw2_CodecRows.l1] at h, fun _ _ _ _ _ _ _ _ _ _ r h => by simp [windlasslaw2_CodecRows.j2] at h⟩
 | k + 1 => by
  obtain ⟨ih0, ih1, ih2⟩ := windlasslaw2_CodecRows.mono_l k
  refine ⟨?_, ?_, ?_⟩
  ·intro y0 y1 y2 y3
   unfold windlasslaw2_CodecRows.l0
   repeat' first
   | (with_reducible exact ih0 _ _ _ _)
   | (with_reducible exact ih1 _ _ _)
   | (with_reducible exact ih2 _ _ _ _ _ _ _ _ _ _)
   | (with_reducible exact codec_PutValue.mono _ _ _ _ _ _)
   | (with_reducible exact codec_Value.mono _ _)
   | (with_reducible exact windlasshelp_Smalls.mono _ _)
   | (with_reducible exact windlasslaw2_known.mono _)
   | (with_reducible exact LeO.refl _)
   | (with_reducible exact LeO.none _)
   | (with_reducible refine LeO.ite ?_ ?_)
   | (with_reducible refine LeO.bind ?_ (fun _ => ?_))
   | exact ih0 _ _ _ _
   | exact ih1 _ _ _
   | exact ih2 _ _ _ _ _ _ _ _ _ _
   | exact codec_PutValue.mono _ _ _ _ _ _
   | exact codec_Value.mono _ _
   | exact windlasshelp_Smalls.mono _ _
   | exact windlasslaw2_known.mono _
   | exact LeO.none _
   | refine LeO.ite ?_ ?_
   | refine LeO.bind ?_ (fun _ => ?_)
  ·intro y0 y1 y2
   unfold windlasslaw2_CodecRows.l1
   repeat' first
   | (with_reducible exact ih0 _ _ _ _)
   | (with_reducible exact ih1 _ _ _)
   | (with_reducible exact ih2 _ _ _ _ _ _ _ _ _ _)
   | (with_reducible exact codec_PutValue.mono _ _ _ _ _ _)
   | (with_reducible exact codec_Value.mono _ _)
   | (with_reducible exact windlasshelp_Smalls.mono _ _)
   | (with_reducible exact windlasslaw2_known.mono _)
   | (with_reducible exact LeO.refl _)
   | (with_reducible exact LeO.none _)
   | (with_reducible refine LeO.ite ?_ ?_)
   | (with_reducible refine LeO.bind ?_ (fun _ => ?_))
   | exact ih0 _ _ _ _
   | exact ih1 _ _ _
   | exact ih2 _ _ _ _ _ _ _ _ _ _
   | exact codec_PutValue.mono _ _ _ _ _ _
   | exact codec_Value.mono _ _
   | exact windlasshelp_Smalls.mono _ _
   | exact windlasslaw2_known.mono _
   | exact LeO.none _
   | refine LeO.ite ?_ ?_
   | refine LeO.bind ?_ (fun _ => ?_)
  ·intro y0 y1 y2 y3 y4 y5 y6 y7 y8 y9
   unfold windlasslaw2_CodecRows.j2
   repeat' first
   | (with_reducible exact ih0 _ _ _ _)
   | (with_reducible exact ih1 _ _ _)
   | (with_reducible exact ih2 _ _ _ _ _ _ _ _ _ _)
   | (with_reducible exact codec_PutValue.mono _ _ _ _ _ _)
   | (with_reducible exact codec_Value.mono _ _)
   | (with_reducible exact windlasshelp_Smalls.mono _ _)
   | (with_reducible exact windlasslaw2_known.mono _)
   | (with_reducible exact LeO.refl _)
   | (with_reducible exact LeO.none _)
   | (with_reducible refine LeO.ite ?_ ?_)
   | (with_reducible refine LeO.bind ?_ (fun _ => ?_))
   | exact ih0 _ _ _ _
   | exact ih1 _ _ _
   | exact ih2 _ _ _ _ _ _ _ _ _ _
   | exact codec_PutValue.mono _ _ _ _ _ _
   | exact codec_Value.mono _ _
   | exact windlasshelp_Smalls.mono _ _
   | exact windlasslaw2_known.mono _
   | exact LeO.none _
   | refine LeO.ite ?_ ?_
   | refine LeO.bind ?_ (fun _ => ?_)
theorem windlasslaw2_CodecRows.mono : ∀ a0 k, LeO (windlasslaw2_CodecRows.f k a0) (windlasslaw2_CodecRows.f (k + 1) a0) := by
 intro a0 k
 obtain ⟨ih0, ih1, ih2⟩ := windlasslaw2_CodecRows.mono_l k
 unfold windlasslaw2_CodecRows.f
 repeat' first
   | (with_reducible exact ih0 _ _ _ _)
   | (with_reducible exact ih1 _ _ _)
   | (with_reducible exact ih2 _ _ _ _ _ _ _ _ _ _)
   | (with_reducible exact codec_PutValue.mono _ _ _ _ _ _)
   | (with_reducible exact codec_Value.mono _ _)
   | (with_reducible exact windlasshelp_Smalls.mono _ _)
   | (with_reducible exact windlasslaw2_known.mono _)
   | (with_reducible exact LeO.refl _)
   | (with_reducible exact LeO.none _)
   | (with_reducible refine LeO.ite ?_ ?_)
   | (with_reducible refine LeO.bind ?_ (fun _ => ?_))
   | exact ih0 _ _ _ _
   | exact ih1 _ _ _
   | exact ih2 _ _ _ _ _ _ _ _ _ _
   | exact codec_PutValue.mono _ _ _ _ _ _
   | exact codec_Value.mono _ _
   | exact windlasshelp_Smalls.mono _ _
   | exact windlasslaw2_known.mono _
   | exact LeO.none _
   | refine LeO.ite ?_ ?_
   | refine LeO.bind ?_ (fun _ => ?_)
set_option maxHeartbeats 8000000 in
set_option maxRecDepth 100000 in
theorem windlasslaw2_CodecRows.calls (k : Nat) (A0 : Option Addr) (c0 : Nat) (l0 : List (S24)) (r : Bool) (w : World) (hr0 : Kd.C k24 w A0 l0.length l0) (hc0 : l0.length ≤ c0) (h : windlasslaw2_CodecRows.f k l0 = some r) :
  Calls Try.prog 6 #[.slice A0 l0.length c0] w fun e w' => e = .returned (.bool r) ∧ Below w.heap.size w w' := by
 have hu24 := Try.underlying24
 have HR0 := Aside0.mk hr0
 have HC0 := Aside0.mk hc0
 clear hr0 hc0
 have HB := Aside0.mk (Below.refl w.heap.size w)
 have H : ((windlasslaw2_known.f k).bind fun t464 => (if t464 = true then ((windlasshelp_Smalls.f k l0).bind fun t465 => (if t465 = true then (windlasslaw2_CodecRows.l0 k l0 ([] : List Int) ([] : List Int) 0) else (some true))) else (some false))) = some r := h
 clear h
 replace H := Option.bind_eq_some_iff.mp H
 obtain ⟨t464, A20, H⟩ := H
 replace H : (if t464 = true then ((windlasshelp_Smalls.f k l0).bind fun t465 => (if t465 = true then (windlasslaw2_CodecRows.l0 k l0 ([] : List Int) ([] : List Int) 0) else (some true))) else (some false)) = some r := H
 have A2 := Aside0.mk A20
 clear A20
 by_cases c3 : t464 = true
 ·subst c3
  have H1 : ((windlasshelp_Smalls.f k l0).bind fun t465 => (if t465 = true then (windlasslaw2_CodecRows.l0 k l0 ([] : List Int) ([] : List Int) 0) else (some true))) = some r := by rw [if_pos rfl] at H; exact H
  clear H
  have H := H1
  clear H1
  replace H := Option.bind_eq_some_iff.mp H
  obtain ⟨t465, A40, H⟩ := H
  replace H : (if t465 = true then (windlasslaw2_CodecRows.l0 k l0 ([] : List Int) ([] : List Int) 0) else (some true)) = some r := H
  have A4 := Aside0.mk A40
  clear A40
  by_cases c5 : t465 = true
  ·subst c5
   have H1 : (windlasslaw2_CodecRows.l0 k l0 ([] : List Int) ([] : List Int) 0) = some r := by rw [if_pos rfl] at H; exact H
   clear H
   have H := H1
   clear H1
   have H' := Aside0.mk H
   clear H
   go_enter Try.func6, Try.ntmps6
   go_wp2_with (first | ((with_reducible refine gate_callee (f := 9) rfl ?_); refine goesL_ (some 16) rfl rfl Try.func9 (by kernel_rfl) rfl #[] rfl (by (try simp only [List.map_toArray, List.map_cons, List.map_nil]); first | done | rfl | (simp only [List.length_drop, List.length_take]; rfl) | (go_simp; done) | (go_simp; simp; done)) ?_; (with_reducible refine (windlasslaw2_known.calls k  true _ A2.out).mono ?_); rintro e w6 ⟨rfl, hb⟩; refine ⟨_, rfl, ?_⟩; have n0_ := Aside0.mk (below_step (by repeat (first | (with_reducible first | exact HB.out | apply below_alloc | apply pw_below_drewN | apply below_drew1) | exact HB.out)) hb); clear HB; have HB := n0_; clear n0_; (try clear hb); (try clear hb2); (try clear hk); (try clear hi)) | ((with_reducible refine gate_callee (f := 11) rfl ?_); refine goesL_ (some 19) rfl rfl Try.func11 (by kernel_rfl) rfl #[.slice A0 l0.length c0] rfl (by (try simp only [List.map_toArray, List.map_cons, List.map_nil]); first | done | rfl | (simp only [List.length_drop, List.length_take]; rfl) | (go_simp; done) | (go_simp; simp; done)) ?_; (with_reducible refine (windlasshelp_Smalls.calls k _ _ l0 true _ ?side1 ?side2 A4.out).mono ?_); (case side1 => repeat (first | exact (Kd.C_below HR0.out HB.out) | (with_reducible refine Kd.C_alloc ?_ _) | (with_reducible refine Kd.C_drewN ?_ _) | (with_reducible refine Kd.C_drew ?_))); (case side2 => exact HC0.out); rintro e w7 ⟨rfl, hb⟩; refine ⟨_, rfl, ?_⟩; have n0_ := Aside0.mk (below_step (by repeat (first | (with_reducible first | exact HB.out | apply below_alloc | apply pw_below_drewN | apply below_drew1) | exact HB.out)) hb); clear HB; have HB := n0_; clear n0_; (try clear hb); (try clear hb2); (try clear hk); (try clear hi)))
   go_loopg [3, 4, 5] k (fun kq v3 v4 v5 w' => ∃ (x3_1 : List Int) (x4_1 : List Int) (x5_1 : Int), v5 = .int .i64 x5_1 ∧ Aside0 (windlasslaw2_CodecRows.l0 kq l0 x3_1 x4_1 x5_1 = some r) ∧ Aside0 (kq ≤ k) ∧ Aside0 (Kd.R (Kd.int .u8) 5 w' w.heap.size (fun _ => True) v3 x3_1) ∧ Aside0 (Kd.R (Kd.int .i64) 3 w' w.heap.size (fun _ => True) v4 x4_1) ∧ Aside0 (Below w.heap.size w w'))
   case atStart => exact ⟨(([] : List Int)), (([] : List Int)), (0), (by first | rfl | (simp; done) | (simp [*]; done)), H', ⟨Nat.le_refl _⟩, ⟨by first | exact Kd.R_nil _ _ _ _ _ | exact Kd.N_nil _ _ _ _ _ | exact Kd.V_nil _ _ _ _ _ | exact Kd.Q_nil _ _ _ _ _ | exact Kd.S_nil _ _ _ _ _⟩, ⟨by first | exact Kd.R_nil _ _ _ _ _ | exact Kd.N_nil _ _ _ _ _ | exact Kd.V_nil _ _ _ _ _ | exact Kd.Q_nil _ _ _ _ _ | exact Kd.S_nil _ _ _ _ _⟩, ⟨by repeat (first | (with_reducible first | exact HB.out | apply below_alloc | apply pw_below_drewN | apply below_drew1) | exact HB.out)⟩⟩
   case round =>
    clear H'
    try clear c1
    try clear p2
    try clear c3
    try clear c5
    try clear c6
    obtain ⟨x3_1, x4_1, x5_1, rfl, HA, HK1, HO_3, HO_4, HB⟩ := hrel
    cases gk with
    | zero => exact absurd HA.out (by simp [windlasslaw2_CodecRows.l0])
    | succ k1 =>
     have H := HA.out
     clear HA
     simp only [windlasslaw2_CodecRows.l0] at H
     by_cases c8 : x5_1 < (l0.length : Int)
     ·rw [if_pos c8] at H
      have c8b0 : decide (x5_1 < (l0.length : Int)) = true := decide_eq_true c8
      clear c8
      by_cases c9 : 0 ≤ x5_1
      ·rw [if_pos c9] at H
       have c9b0 : decide (0 ≤ x5_1) = true := decide_eq_true c9
       clear c9
       replace H := Option.bind_eq_some_iff.mp H
       obtain ⟨⟨t467, t470⟩, A100, H⟩ := H
       replace H : (if t470 = 0 then (if x3_1.length + t467.length < 140737488355328 then (if x4_1.length < 17592186044416 then (windlasslaw2_CodecRows.l0 k1 l0 (x3_1 ++ t467) (x4_1 ++ [(t467.length : Int)]) (wrap64 (x5_1 + 1))) else (none)) else (none)) else (windlasslaw2_CodecRows.l0 k1 l0 x3_1 x4_1 (wrap64 (x5_1 + 1)))) = some r := H
       have A10 := Aside0.mk A100
       clear A100
       by_cases c11 : t470 = 0
       ·rw [if_pos c11] at H
        have c11b0 : (t470 == 0) = true := beq_iff_eq.mpr c11
        have c11b1 : (t470 != 0) = false := bne_eq_false_iff_eq.mpr c11
        clear c11
        by_cases c12 : x3_1.length + t467.length < 140737488355328
        ·rw [if_pos c12] at H
         have LMc12 := Aside0.mk c12
         clear c12
         obtain ⟨y471, hy471⟩ : ∃ y_ : List Int, y_ = (x3_1 ++ t467) := ⟨_, rfl⟩
         replace H : (if x4_1.length < 17592186044416 then (windlasslaw2_CodecRows.l0 k1 l0 y471 (x4_1 ++ [(t467.length : Int)]) (wrap64 (x5_1 + 1))) else (none)) = some r := by first | (rw [hy471]; with_reducible exact H) | (have H2_ := (Option.bind_some _ _).symm.trans H; rw [hy471]; with_reducible exact H2_) | (have H2_ := (Option.bind_some _ _).symm.trans H; with_reducible exact H2_) | with_reducible exact H | (rw [hy471]; exact H) | exact H
         have Ny471 := Aside0.mk hy471
         clear hy471
         by_cases c13 : x4_1.length < 17592186044416
         ·rw [if_pos c13] at H
          have LMc13 := Aside0.mk c13
          clear c13
          obtain ⟨y474, hy474⟩ : ∃ y_ : List Int, y_ = (x4_1 ++ [(t467.length : Int)]) := ⟨_, rfl⟩
          replace H : (windlasslaw2_CodecRows.l0 k1 l0 y471 y474 (wrap64 (x5_1 + 1))) = some r := by first | (rw [hy474]; with_reducible exact H) | (have H2_ := (Option.bind_some _ _).symm.trans H; rw [hy474]; with_reducible exact H2_) | (have H2_ := (Option.bind_some _ _).symm.trans H; with_reducible exact H2_) | with_reducible exact H | (rw [hy474]; exact H) | exact H
          have Ny474 := Aside0.mk hy474
          clear hy474
          have H' := Aside0.mk H
          clear H
          have p466 : 0 ≤ (x5_1 : Int) := of_decide_eq_true (by first | (with_reducible assumption) | assumption)
          have q466 : x5_1 < (l0.length : Int) := of_decide_eq_true (by first | (with_reducible assumption) | assumption)
          obtain ⟨ad466, A466_4, c466_4, e466, hx466_0, hx466_1, hx466_2, hx466_3, hx466_4, hl466_4, hi466_4⟩ := at_T24 HR0.out x5_1 p466 q466
          cases e466
          replace hx466_0 := (HB.out.cell (World.block_lt_of_cell? w _ hx466_0)).trans hx466_0
          replace hx466_1 := (HB.out.cell (World.block_lt_of_cell? w _ hx466_1)).trans hx466_1
          replace hx466_2 := (HB.out.cell (World.block_lt_of_cell? w _ hx466_2)).trans hx466_2
          replace hx466_3 := (HB.out.cell (World.block_lt_of_cell? w _ hx466_3)).trans hx466_3
          replace hx466_4 := (HB.out.cell (World.block_lt_of_cell? w _ hx466_4)).trans hx466_4
          have HR466_4 := Aside0.mk hi466_4
          have HC466_4 := Aside0.mk hl466_4
          clear hi466_4 hl466_4
          replace p466 := eq_true p466
          replace q466 := eq_true q466
          go_wp2_with (first | ((with_reducible refine gate_callee (f := 12) rfl ?_); refine goesL_ (some 32) rfl rfl Try.func12 (by kernel_rfl) rfl #[.agg #[.int .i64 ((rd_T24 l0 x5_1).f0), .int .i64 ((rd_T24 l0 x5_1).f1), .string ((rd_T24 l0 x5_1).f2), .int .i64 ((rd_T24 l0 x5_1).f3), .slice A466_4 ((rd_T24 l0 x5_1).f4).length c466_4]] rfl (by (try simp only [List.map_toArray, List.map_cons, List.map_nil]); first | done | rfl | (simp only [List.length_drop, List.length_take]; rfl) | (go_simp; done) | (go_simp; simp; done)) ?_; (with_reducible refine (codec_PutValue.calls k1 ((rd_T24 l0 x5_1).f0) ((rd_T24 l0 x5_1).f1) ((rd_T24 l0 x5_1).f2) ((rd_T24 l0 x5_1).f3) _ _ ((rd_T24 l0 x5_1).f4) t467 t470 _ ?side1 ?side2 A10.out).mono ?_); (case side1 => repeat (first | exact (Kd.C_below HR466_4.out HB.out) | (with_reducible refine Kd.C_alloc ?_ _) | (with_reducible refine Kd.C_drewN ?_ _) | (with_reducible refine Kd.C_drew ?_))); (case side2 => exact HC466_4.out); rintro e w14 ⟨v468, rfl, ho0, hb⟩; refine ⟨_, rfl, ?_⟩; have n0_ := Aside0.mk (Kd.R_elder' (by (with_reducible repeat (first | apply Kd.R_alloc | apply Kd.R_drewN | apply Kd.R_drew)); exact HO_3.out) (Kd.R_base ho0) hb); have n1_ := Aside0.mk (Kd.R_below (by (with_reducible repeat (first | apply Kd.R_alloc | apply Kd.R_drewN | apply Kd.R_drew)); exact HO_4.out) hb); have n2_ := Aside0.mk (Kd.R_lower (Kd.R_new' ho0 (Kd.R_lt (by (with_reducible repeat (first | apply Kd.R_alloc | apply Kd.R_drewN | apply Kd.R_drew)); exact HO_3.out))) (below_size (by repeat (first | (with_reducible first | exact HB.out | apply below_alloc | apply pw_below_drewN | apply below_drew1) | exact HB.out)))); have n3_ := Aside0.mk (below_step (by repeat (first | (with_reducible first | exact HB.out | apply below_alloc | apply pw_below_drewN | apply below_drew1) | exact HB.out)) hb); clear HO_3; clear HO_4; clear HB; have HO_3 := n0_; have HO_4 := n1_; have HO469 := n2_; have HB := n3_; clear n0_ n1_ n2_ n3_; (try clear hb); (try clear hb2); (try clear hk); (try clear hi); (try clear ho0); obtain ⟨Ao16, co16, eo16⟩ := Kd.R_slice HO469.out; subst eo16) | ((with_reducible refine gate_builtin (b := .append) (xs := #[.tmp 37, .tmp 38]) rfl ?_); at_builtin; refine Kd.R_append_rows (Kd.int .u8) (w0 := w) w.heap.size rfl (.tmp 37) (.tmp 38) 30 5 (.int .u8 0) 1 rfl Try.underlying30 info5 rfl (by decide) (by omega) u3 x3_1 t467 _ _ _ (fun k_ => some k_ ≠ (.slice Ao16 t467.length co16 : Value).ownBlock) (fun _ => False) rfl rfl ?aO ?aR (fun _ _ h => h) (fun _ h => h.elim) ?aF ?aB ?aS ?aL ?_; (case aR => repeat (first | exact (Kd.R_reads' HO469.out).2.2 | (with_reducible refine Kd.C_alloc ?_ _) | (with_reducible refine Kd.C_drewN ?_ _) | (with_reducible refine Kd.C_drew ?_))); (case aB => exact (by repeat (first | (with_reducible first | exact HB.out | apply below_alloc | apply pw_below_drewN | apply below_drew1) | exact HB.out))); (case aF => exact (fun k_ hk => Kd.fresh' (Kd.R_lt (by (with_reducible repeat (first | apply Kd.R_alloc | apply Kd.R_drewN | apply Kd.R_drew)); exact HO469.out)) k_ hk)); (case aO => exact (by (with_reducible repeat (first | apply Kd.R_alloc | apply Kd.R_drewN | apply Kd.R_drew)); exact Kd.R_mono HO_3.out (fun _ hk => hk.2))); (case aS => exact (below_size (by repeat (first | (with_reducible first | exact HB.out | apply below_alloc | apply pw_below_drewN | apply below_drew1) | exact HB.out)))); (case aL => have := LMc12.out; omega); intro v472 w15 ho hb hg hat; rw [← Ny471.out] at ho; have n0_ := Aside0.mk (Kd.R_over' (by (with_reducible repeat (first | apply Kd.R_alloc | apply Kd.R_drewN | apply Kd.R_drew)); exact HO_4.out) (Kd.R_typed (by (with_reducible repeat (first | apply Kd.R_alloc | apply Kd.R_drewN | apply Kd.R_drew)); exact HO_3.out)) (by decide) hg); have n1_ := Aside0.mk (Kd.R_after (ok := (fun _ => True)) (by (with_reducible repeat (first | apply Kd.R_alloc | apply Kd.R_drewN | apply Kd.R_drew)); exact HO469.out) hg hat); have n2_ := Aside0.mk (hb); have n3_ := Aside0.mk (ho); clear HO_4; clear HO469; clear HB; clear HO_3; have HO_4 := n0_; have HO469 := n1_; have HB := n2_; have HO473 := n3_; clear n0_ n1_ n2_ n3_; clear ho hb hg hat) | ((with_reducible refine gate_builtin (b := .append) (xs := #[.tmp 40, .tmp 43]) rfl ?_); at_builtin; refine Kd.R_append (Kd.int .i64) (w0 := w) w.heap.size rfl (.tmp 40) (.tmp 43) 52 3 (.int .i64 0) 8 rfl Try.underlying52 info3 rfl (by decide) (by omega) u4 x4_1 (t467.length : Int) [.int .i64 (t467.length : Int)] (fun _ => True) (fun _ => False) rfl rfl ?aP (fun _ hk => hk.elim) ?aF ?aO ?aB ?aS ?aL ?_; (case aP => exact rfl); (case aB => exact (by repeat (first | (with_reducible first | exact HB.out | apply below_alloc | apply pw_below_drewN | apply below_drew1) | exact HB.out))); (case aF => exact (fun _ _ => trivial)); (case aO => exact (by (with_reducible repeat (first | apply Kd.R_alloc | apply Kd.R_drewN | apply Kd.R_drew)); exact HO_4.out)); (case aS => exact (below_size (by repeat (first | (with_reducible first | exact HB.out | apply below_alloc | apply pw_below_drewN | apply below_drew1) | exact HB.out)))); (case aL => have := LMc13.out; omega); intro v475 w17 ho hb hg hat; rw [← Ny474.out] at ho; have n0_ := Aside0.mk (Kd.R_over' (by (with_reducible repeat (first | apply Kd.R_alloc | apply Kd.R_drewN | apply Kd.R_drew)); exact HO469.out) (Kd.R_typed (by (with_reducible repeat (first | apply Kd.R_alloc | apply Kd.R_drewN | apply Kd.R_drew)); exact HO_4.out)) (by decide) hg); have n1_ := Aside0.mk (Kd.R_over' (by (with_reducible repeat (first | apply Kd.R_alloc | apply Kd.R_drewN | apply Kd.R_drew)); exact HO473.out) (Kd.R_typed (by (with_reducible repeat (first | apply Kd.R_alloc | apply Kd.R_drewN | apply Kd.R_drew)); exact HO_4.out)) (by decide) hg); have n2_ := Aside0.mk (hb); have n3_ := Aside0.mk (ho); clear HO469; clear HO473; clear HB; clear HO_4; have HO469 := n0_; have HO473 := n1_; have HB := n2_; have HO476 := n3_; clear n0_ n1_ n2_ n3_; clear ho hb hg hat))
          go_roundg k1
          case measure => have := HK1.out; omega
          case rel => exact ⟨(y471), (y474), (wrap64 (x5_1 + 1)), (by first | rfl | (simp; done) | (simp [*]; done)), H', ⟨by have := HK1.out; omega⟩, ⟨by (with_reducible repeat (first | apply Kd.R_alloc | apply Kd.R_drewN | apply Kd.R_drew)); exact Kd.R_mono HO473.out (fun _ hk => trivial)⟩, ⟨by (with_reducible repeat (first | apply Kd.R_alloc | apply Kd.R_drewN | apply Kd.R_drew)); exact HO476.out⟩, ⟨by repeat (first | (with_reducible first | exact HB.out | apply below_alloc | apply pw_below_drewN | apply below_drew1) | exact HB.out)⟩⟩
         ·rw [if_neg c13] at H
          exact absurd H (by simp)
        ·rw [if_neg c12] at H
         exact absurd H (by simp)
       ·rw [if_neg c11] at H
        have c11b0 : (t470 == 0) = false := beq_eq_false_iff_ne.mpr c11
        have c11b1 : (t470 != 0) = true := bne_iff_ne.mpr c11
        have H' := Aside0.mk H
        clear H
        have p466 : 0 ≤ (x5_1 : Int) := of_decide_eq_true (by first | (with_reducible assumption) | assumption)
        have q466 : x5_1 < (l0.length : Int) := of_decide_eq_true (by first | (with_reducible assumption) | assumption)
        obtain ⟨ad466, A466_4, c466_4, e466, hx466_0, hx466_1, hx466_2, hx466_3, hx466_4, hl466_4, hi466_4⟩ := at_T24 HR0.out x5_1 p466 q466
        cases e466
        replace hx466_0 := (HB.out.cell (World.block_lt_of_cell? w _ hx466_0)).trans hx466_0
        replace hx466_1 := (HB.out.cell (World.block_lt_of_cell? w _ hx466_1)).trans hx466_1
        replace hx466_2 := (HB.out.cell (World.block_lt_of_cell? w _ hx466_2)).trans hx466_2
        replace hx466_3 := (HB.out.cell (World.block_lt_of_cell? w _ hx466_3)).trans hx466_3
        replace hx466_4 := (HB.out.cell (World.block_lt_of_cell? w _ hx466_4)).trans hx466_4
        have HR466_4 := Aside0.mk hi466_4
        have HC466_4 := Aside0.mk hl466_4
        clear hi466_4 hl466_4
        replace p466 := eq_true p466
        replace q466 := eq_true q466
        go_wp2_with (first | ((with_reducible refine gate_callee (f := 12) rfl ?_); refine goesL_ (some 32) rfl rfl Try.func12 (by kernel_rfl) rfl #[.agg #[.int .i64 ((rd_T24 l0 x5_1).f0), .int .i64 ((rd_T24 l0 x5_1).f1), .string ((rd_T24 l0 x5_1).f2), .int .i64 ((rd_T24 l0 x5_1).f3), .slice A466_4 ((rd_T24 l0 x5_1).f4).length c466_4]] rfl (by (try simp only [List.map_toArray, List.map_cons, List.map_nil]); first | done | rfl | (simp only [List.length_drop, List.length_take]; rfl) | (go_simp; done) | (go_simp; simp; done)) ?_; (with_reducible refine (codec_PutValue.calls k1 ((rd_T24 l0 x5_1).f0) ((rd_T24 l0 x5_1).f1) ((rd_T24 l0 x5_1).f2) ((rd_T24 l0 x5_1).f3) _ _ ((rd_T24 l0 x5_1).f4) t467 t470 _ ?side1 ?side2 A10.out).mono ?_); (case side1 => repeat (first | exact (Kd.C_below HR466_4.out HB.out) | (with_reducible refine Kd.C_alloc ?_ _) | (with_reducible refine Kd.C_drewN ?_ _) | (with_reducible refine Kd.C_drew ?_))); (case side2 => exact HC466_4.out); rintro e w18 ⟨v468, rfl, ho0, hb⟩; refine ⟨_, rfl, ?_⟩; have n0_ := Aside0.mk (Kd.R_elder' (by (with_reducible repeat (first | apply Kd.R_alloc | apply Kd.R_drewN | apply Kd.R_drew)); exact HO_3.out) (Kd.R_base ho0) hb); have n1_ := Aside0.mk (Kd.R_below (by (with_reducible repeat (first | apply Kd.R_alloc | apply Kd.R_drewN | apply Kd.R_drew)); exact HO_4.out) hb); have n2_ := Aside0.mk (Kd.R_lower (Kd.R_new' ho0 (Kd.R_lt (by (with_reducible repeat (first | apply Kd.R_alloc | apply Kd.R_drewN | apply Kd.R_drew)); exact HO_3.out))) (below_size (by repeat (first | (with_reducible first | exact HB.out | apply below_alloc | apply pw_below_drewN | apply below_drew1) | exact HB.out)))); have n3_ := Aside0.mk (below_step (by repeat (first | (with_reducible first | exact HB.out | apply below_alloc | apply pw_below_drewN | apply below_drew1) | exact HB.out)) hb); clear HO_3; clear HO_4; clear HB; have HO_3 := n0_; have HO_4 := n1_; have HO469 := n2_; have HB := n3_; clear n0_ n1_ n2_ n3_; (try clear hb); (try clear hb2); (try clear hk); (try clear hi); (try clear ho0)))
        go_roundg k1
        case measure => have := HK1.out; omega
        case rel => exact ⟨(x3_1), (x4_1), (wrap64 (x5_1 + 1)), (by first | rfl | (simp; done) | (simp [*]; done)), H', ⟨by have := HK1.out; omega⟩, ⟨by (with_reducible repeat (first | apply Kd.R_alloc | apply Kd.R_drewN | apply Kd.R_drew)); exact Kd.R_mono HO_3.out (fun _ hk => trivial)⟩, ⟨by (with_reducible repeat (first | apply Kd.R_alloc | apply Kd.R_drewN | apply Kd.R_drew)); exact HO_4.out⟩, ⟨by repeat (first | (with_reducible first | exact HB.out | apply below_alloc | apply pw_below_drewN | apply below_drew1) | exact HB.out)⟩⟩
      ·rw [if_neg c9] at H
       exact absurd H (by simp)
     ·rw [if_neg c8] at H
      have c8b0 : decide (x5_1 < (l0.length : Int)) = false := decide_eq_false c8
      clear c8
      have H' := Aside0.mk H
      clear H
      go_wp2
      go_loopg [3, 8] k1 (fun kq v3 v8 w' => ∃ (x3_2 : List Int) (x8_2 : Int), v8 = .int .i64 x8_2 ∧ Aside0 (windlasslaw2_CodecRows.l1 kq x3_2 x4_1 x8_2 = some r) ∧ Aside0 (kq ≤ k1) ∧ Aside0 (Kd.Q (Kd.int .u8) 5 w' w.heap.size (fun _ => True) v3 x3_2) ∧ Aside0 (Kd.R (Kd.int .i64) 3 w' w.heap.size (fun _ => True) u4 x4_1) ∧ Aside0 (Below w.heap.size w w'))
      case atStart => exact ⟨(x3_1), (0), (by first | rfl | (simp; done) | (simp [*]; done)), H', ⟨Nat.le_refl _⟩, ⟨Kd.Q_of_R (by (with_reducible repeat (first | apply Kd.R_alloc | apply Kd.R_drewN | apply Kd.R_drew)); exact HO_3.out)⟩, ⟨by (with_reducible repeat (first | apply Kd.R_alloc | apply Kd.R_drewN | apply Kd.R_drew)); exact HO_4.out⟩, ⟨by repeat (first | (with_reducible first | exact HB.out | apply below_alloc | apply pw_below_drewN | apply below_drew1) | exact HB.out)⟩⟩
      case round =>
       clear H'
       try clear c1
       try clear p2
       try clear c3
       try clear c4
       try clear p4
       try clear q4
       try clear hx4
       try clear c5
       try clear c6
       try clear p6
       try clear c8
       try clear c8b0
       try clear c9
       try clear c9b0
       try clear c11
       try clear c11b0
       try clear c11b1
       try clear c12
       try clear c13
       try clear hx466_0
       try clear hx466_1
       try clear hx466_2
       try clear hx466_3
       try clear hx466_4
       try clear p2
       try clear p466
       try clear q466
       obtain ⟨x3_2, x8_2, rfl, HA, HK2, HO_3, HO_4, HB⟩ := hrel
       cases gk with
       | zero => exact absurd HA.out (by simp [windlasslaw2_CodecRows.l1])
       | succ k2 =>
        have H := HA.out
        clear HA
        simp only [windlasslaw2_CodecRows.l1] at H
        by_cases c19 : x8_2 < (x4_1.length : Int)
        ·rw [if_pos c19] at H
         have c19b0 : decide (x8_2 < (x4_1.length : Int)) = true := decide_eq_true c19
         clear c19
         replace H := Option.bind_eq_some_iff.mp H
         obtain ⟨⟨t487, t488, t489, t490, t491, t494, t495⟩, A200, H⟩ := H
         replace H : (if t495 = 0 then (if 0 ≤ x8_2 then (windlasslaw2_CodecRows.j2 k2 x3_2 x4_1 x8_2 t494 (t494 != (rd x4_1 x8_2)) t487 t488 t489 t490 t491) else (none)) else (windlasslaw2_CodecRows.j2 k2 x3_2 x4_1 x8_2 t494 true t487 t488 t489 t490 t491)) = some r := H
         have A20 := Aside0.mk A200
         clear A200
         have HC21 := Aside0.mk H
         clear H
         obtain ⟨Ao22, co22, eo22⟩ := Kd.R_slice HO_4.out
         subst eo22
         obtain ⟨Ao23, co23, eo23, _⟩ := Kd.Q_slice HO_3.out
         subst eo23
         go_upto_region 18 with (first | ((with_reducible refine gate_callee (f := 26) rfl ?_); refine goesL_ (some 53) rfl rfl Try.func26 (by kernel_rfl) rfl #[.slice Ao23 x3_2.length co23] rfl (by (try simp only [List.map_toArray, List.map_cons, List.map_nil]); first | done | rfl | (simp only [List.length_drop, List.length_take]; rfl) | (go_simp; done) | (go_simp; simp; done)) ?_; (with_reducible refine (codec_Value.calls k2 _ _ x3_2 t487 t488 t489 t490 t491 t494 t495 _ ?side1 ?side2 A20.out).mono ?_); (case side1 => repeat (first | exact (Kd.Q_reads' HO_3.out).2.2 | (with_reducible refine Kd.C_alloc ?_ _) | (with_reducible refine Kd.C_drewN ?_ _) | (with_reducible refine Kd.C_drew ?_))); (case side2 => exact (Kd.Q_reads' HO_3.out).2.1); rintro e w24 ⟨v492, rfl, ho0, hb⟩; refine ⟨_, rfl, ?_⟩; have n0_ := Aside0.mk (Kd.Q_below (by (with_reducible repeat (first | apply Kd.Q_alloc | apply Kd.Q_drewN | apply Kd.Q_drew)); exact HO_3.out) hb); have n1_ := Aside0.mk (Kd.R_below (by (with_reducible repeat (first | apply Kd.R_alloc | apply Kd.R_drewN | apply Kd.R_drew)); exact HO_4.out) hb); have n2_ := Aside0.mk (Kd.R_lower ho0 (below_size (by repeat (first | (with_reducible first | exact HB.out | apply below_alloc | apply pw_below_drewN | apply below_drew1) | exact HB.out)))); have n3_ := Aside0.mk (below_step (by repeat (first | (with_reducible first | exact HB.out | apply below_alloc | apply pw_below_drewN | apply below_drew1) | exact HB.out)) hb); clear HO_3; clear HO_4; clear HB; have HO_3 := n0_; have HO_4 := n1_; have HO493 := n2_; have HB := n3_; clear n0_ n1_ n2_ n3_; (try clear hb); (try clear hb2); (try clear hk); (try clear hi); (try clear ho0)) | ((with_reducible refine gate_dst (N := 9) rfl ?_); refine box_event ?hg (N := 9) ?hd (cs := #[.int .i64 0, .int .i64 0, .string (⟨#[]⟩ : ByteArray), .int .i64 0, .slice none 0 0]) (t := 24) ?hr ?_; (case hd => rfl); (case hg => rfl); (case hr => first | (go_simp; done) | (go_simp; rfl)); intro gb496 hg w25 hbox hb; have n0_ := Aside0.mk (Kd.Q_below (by (with_reducible repeat (first | apply Kd.Q_alloc | apply Kd.Q_drewN | apply Kd.Q_drew)); exact HO_3.out) hb); have n1_ := Aside0.mk (Kd.R_below (by (with_reducible repeat (first | apply Kd.R_alloc | apply Kd.R_drewN | apply Kd.R_drew)); exact HO_4.out) hb); have n2_ := Aside0.mk (Kd.R_below (Kd.R_elderB (by (with_reducible repeat (first | apply Kd.R_alloc | apply Kd.R_drewN | apply Kd.R_drew)); exact HO493.out) gb496 (Nat.le_of_eq hg.symm)) hb); have n3_ := Aside0.mk (below_step (by repeat (first | (with_reducible first | exact HB.out | apply below_alloc | apply pw_below_drewN | apply below_drew1) | exact HB.out)) hb); have n4_ := Aside0.mk (hbox); have n5_ := Aside0.mk ((by rw [hg]; exact (below_size (by repeat (first | (with_reducible first | exact HB.out | apply below_alloc | apply pw_below_drewN | apply below_drew1) | exact HB.out))) : w.heap.size ≤ gb496)); have n6_ := Aside0.mk ((by rw [hg]; exact (below_size (by repeat (first | (with_reducible first | exact HB.out | apply below_alloc | apply pw_below_drewN | apply below_drew1) | exact HB.out))) : w.heap.size ≤ gb496)); clear HO_3; clear HO_4; clear HO493; clear HB; have HO_3 := n0_; have HO_4 := n1_; have HO493 := n2_; have HB := n3_; have BK496 := n4_; have GW496 := n5_; have GE496 := n6_; clear n0_ n1_ n2_ n3_ n4_ n5_ n6_; clear hb hbox hg; have hcz26_0 : w25.cell? ⟨gb496, 0, none⟩ = some (.int .i64 0) := (blk_cell BK496.out 0).trans rfl; have hcz26_1 : w25.cell? ⟨gb496, 1, none⟩ = some (.int .i64 0) := (blk_cell BK496.out 1).trans rfl; have hcz26_2 : w25.cell? ⟨gb496, 2, none⟩ = some (.string (⟨#[]⟩ : ByteArray)) := (blk_cell BK496.out 2).trans rfl; have hcz26_3 : w25.cell? ⟨gb496, 3, none⟩ = some (.int .i64 0) := (blk_cell BK496.out 3).trans rfl; have hcz26_4 : w25.cell? ⟨gb496, 4, none⟩ = some (.slice none 0 0) := (blk_cell BK496.out 4).trans rfl; have hfz26_0 := blk_frozen BK496.out 0; have hfz26_1 := blk_frozen BK496.out 1; have hfz26_2 := blk_frozen BK496.out 2; have hfz26_3 := blk_frozen BK496.out 3; have hfz26_4 := blk_frozen BK496.out 4; obtain ⟨Ao27, co27, eo27⟩ := Kd.R_slice HO493.out; subst eo27))
         (try simp only [Act.put, List.setIfInBounds_toArray, List.set_cons_zero, List.set_cons_succ])
         go_cut [66] (fun v66 wc => ∃ (kq : Nat) (x66_20 : Bool), v66 = .bool x66_20 ∧ Aside0 (windlasslaw2_CodecRows.j2 kq x3_2 x4_1 x8_2 t494 x66_20 t487 t488 t489 t490 t491 = some r) ∧ Aside0 (kq ≤ k2) ∧ Aside0 (Kd.Q (Kd.int .u8) 5 wc w.heap.size (fun _ => True) (.slice Ao23 x3_2.length co23) x3_2) ∧ Aside0 (Kd.R (Kd.int .i64) 3 wc w.heap.size (fun _ => True) (.slice Ao22 x4_1.length co22) x4_1) ∧ Aside0 (Kd.R k24 24 wc w.heap.size (fun k_ => k_ ≠ gb496) (.slice Ao27 t491.length co27) t491) ∧ Aside0 (wc.heap[gb496]? = some (.cells #[.int .i64 t487, .int .i64 t488, .string t489, .int .i64 t490, (.slice Ao27 t491.length co27)] 24 (0, 0))) ∧ Aside0 (Below w.heap.size w wc))
         case first =>
          have H := HC21.out
          clear HC21
          by_cases c28 : t495 = 0
          ·rw [if_pos c28] at H
           have c28b0 : (t495 == 0) = true := beq_iff_eq.mpr c28
           have c28b1 : (t495 != 0) = false := bne_eq_false_iff_eq.mpr c28
           clear c28
           (first | rw [c28b0] | (simp only [i64_w, i32_w]; rw [c28b0]) | skip)
           by_cases c29 : 0 ≤ x8_2
           ·rw [if_pos c29] at H
            have c29b0 : decide (0 ≤ x8_2) = true := decide_eq_true c29
            clear c29
            have H' := Aside0.mk H
            clear H
            have p497 : 0 ≤ (x8_2 : Int) := of_decide_eq_true (by first | (with_reducible assumption) | assumption)
            have q497 : x8_2 < (x4_1.length : Int) := of_decide_eq_true (by first | (with_reducible assumption) | assumption)
            obtain ⟨ad497, e497, hx497_0⟩ := Kd.at_int (Kd.R_reads' HO_4.out).2.2 x8_2 p497 q497
            cases e497
            have hn497_0 : ad497.block ≠ gb496 := Kd.own_blk (Kd.R_ne HO_4.out BK496.out (by decide))
            have hn497_1 : ad497.block ≠ gb496 := Kd.own_blk (Kd.R_ne HO_4.out BK496.out (by decide))
            have hn497_2 : ad497.block ≠ gb496 := Kd.own_blk (Kd.R_ne HO_4.out BK496.out (by decide))
            have hn497_3 : ad497.block ≠ gb496 := Kd.own_blk (Kd.R_ne HO_4.out BK496.out (by decide))
            have hn497_4 : ad497.block ≠ gb496 := Kd.own_blk (Kd.R_ne HO_4.out BK496.out (by decide))
            replace hx497_0 := (cell_far (p := ⟨gb496, 0, none⟩) (by first | (rw [add_block]; exact hn497_0) | (show (Addr.add _ _).block ≠ _; rw [add_block]; exact hn497_0) | exact hn497_0) (.int .i64 t487)).trans hx497_0
            replace hx497_0 := (cell_far (p := ⟨gb496, 1, none⟩) (by first | (rw [add_block]; exact hn497_1) | (show (Addr.add _ _).block ≠ _; rw [add_block]; exact hn497_1) | exact hn497_1) (.int .i64 t488)).trans hx497_0
            replace hx497_0 := (cell_far (p := ⟨gb496, 2, none⟩) (by first | (rw [add_block]; exact hn497_2) | (show (Addr.add _ _).block ≠ _; rw [add_block]; exact hn497_2) | exact hn497_2) (.string t489)).trans hx497_0
            replace hx497_0 := (cell_far (p := ⟨gb496, 3, none⟩) (by first | (rw [add_block]; exact hn497_3) | (show (Addr.add _ _).block ≠ _; rw [add_block]; exact hn497_3) | exact hn497_3) (.int .i64 t490)).trans hx497_0
            replace hx497_0 := (cell_far (p := ⟨gb496, 4, none⟩) (by first | (rw [add_block]; exact hn497_4) | (show (Addr.add _ _).block ≠ _; rw [add_block]; exact hn497_4) | exact hn497_4) (.slice Ao27 t491.length co27)).trans hx497_0
            clear hn497_0
            clear hn497_1
            clear hn497_2
            clear hn497_3
            clear hn497_4
            replace p497 := eq_true p497
            replace q497 := eq_true q497
            go_wp2
            go_meet
            case rel => exact ⟨_, ((t494 != (rd x4_1 x8_2))), (by first | rfl | (simp; done) | (simp [*]; done)), H', ⟨by have := HK1.out; have := HK2.out; first | omega | exact Nat.le_refl _⟩, ⟨by (with_reducible repeat (first | apply Kd.Q_alloc | apply Kd.Q_drewN | apply Kd.Q_drew)); exact Kd.Q_mono (Kd.Q_far (p := ⟨gb496, 4, none⟩) (Kd.Q_far (p := ⟨gb496, 3, none⟩) (Kd.Q_far (p := ⟨gb496, 2, none⟩) (Kd.Q_far (p := ⟨gb496, 1, none⟩) (Kd.Q_far (p := ⟨gb496, 0, none⟩) (Kd.Q_types HO_3.out BK496.out (by decide)) (fun _ hk => hk.2) (.int .i64 t487)) (fun _ hk => hk.2) (.int .i64 t488)) (fun _ hk => hk.2) (.string t489)) (fun _ hk => hk.2) (.int .i64 t490)) (fun _ hk => hk.2) (.slice Ao27 t491.length co27)) (fun _ hk => trivial)⟩, ⟨by (with_reducible repeat (first | apply Kd.R_alloc | apply Kd.R_drewN | apply Kd.R_drew)); exact Kd.R_mono (Kd.R_far (p := ⟨gb496, 4, none⟩) (Kd.R_far (p := ⟨gb496, 3, none⟩) (Kd.R_far (p := ⟨gb496, 2, none⟩) (Kd.R_far (p := ⟨gb496, 1, none⟩) (Kd.R_far (p := ⟨gb496, 0, none⟩) (Kd.R_types HO_4.out BK496.out (by decide)) (fun _ hk => hk.2) (.int .i64 t487)) (fun _ hk => hk.2) (.int .i64 t488)) (fun _ hk => hk.2) (.string t489)) (fun _ hk => hk.2) (.int .i64 t490)) (fun _ hk => hk.2) (.slice Ao27 t491.length co27)) (fun _ hk => trivial)⟩, ⟨by (with_reducible repeat (first | apply Kd.R_alloc | apply Kd.R_drewN | apply Kd.R_drew)); exact Kd.R_mono (Kd.R_far (p := ⟨gb496, 4, none⟩) (Kd.R_far (p := ⟨gb496, 3, none⟩) (Kd.R_far (p := ⟨gb496, 2, none⟩) (Kd.R_far (p := ⟨gb496, 1, none⟩) (Kd.R_far (p := ⟨gb496, 0, none⟩) (Kd.R_mono HO493.out (fun k_ hk => (⟨hk, hk.2⟩ : _ ∧ k_ ≠ gb496))) (fun _ hk => hk.2) (.int .i64 t487)) (fun _ hk => hk.2) (.int .i64 t488)) (fun _ hk => hk.2) (.string t489)) (fun _ hk => hk.2) (.int .i64 t490)) (fun _ hk => hk.2) (.slice Ao27 t491.length co27)) (fun _ hk => hk.1.2)⟩, ⟨by (with_reducible repeat (first | refine blk_drewN ?_ _ | refine blk_drew ?_ | refine blk_alloc ?_ _)); refine blk_put (cs := #[.int .i64 t487, .int .i64 t488, .string t489, .int .i64 t490, .slice none 0 0]) ?_ 4 _ rfl; (with_reducible repeat (first | refine blk_drewN ?_ _ | refine blk_drew ?_ | refine blk_alloc ?_ _)); refine blk_put (cs := #[.int .i64 t487, .int .i64 t488, .string t489, .int .i64 0, .slice none 0 0]) ?_ 3 _ rfl; (with_reducible repeat (first | refine blk_drewN ?_ _ | refine blk_drew ?_ | refine blk_alloc ?_ _)); refine blk_put (cs := #[.int .i64 t487, .int .i64 t488, .string (⟨#[]⟩ : ByteArray), .int .i64 0, .slice none 0 0]) ?_ 2 _ rfl; (with_reducible repeat (first | refine blk_drewN ?_ _ | refine blk_drew ?_ | refine blk_alloc ?_ _)); refine blk_put (cs := #[.int .i64 t487, .int .i64 0, .string (⟨#[]⟩ : ByteArray), .int .i64 0, .slice none 0 0]) ?_ 1 _ rfl; (with_reducible repeat (first | refine blk_drewN ?_ _ | refine blk_drew ?_ | refine blk_alloc ?_ _)); refine blk_put (cs := #[.int .i64 0, .int .i64 0, .string (⟨#[]⟩ : ByteArray), .int .i64 0, .slice none 0 0]) ?_ 0 _ rfl; (with_reducible repeat (first | refine blk_drewN ?_ _ | refine blk_drew ?_ | refine blk_alloc ?_ _)); exact BK496.out⟩, ⟨by repeat (first | (with_reducible first | exact HB.out | apply below_alloc | apply pw_below_drewN | apply below_drew1 | refine below_set ?_ GE496.out) | exact HB.out)⟩⟩
           ·rw [if_neg c29] at H
            exact absurd H (by simp)
          ·rw [if_neg c28] at H
           have c28b0 : (t495 == 0) = false := beq_eq_false_iff_ne.mpr c28
           have c28b1 : (t495 != 0) = true := bne_iff_ne.mpr c28
           (first | rw [c28b0] | (simp only [i64_w, i32_w]; rw [c28b0]) | skip)
           have H' := Aside0.mk H
           clear H
           go_wp2
           go_meet
           case rel => exact ⟨_, (true), (by first | rfl | (simp; done) | (simp [*]; done)), H', ⟨by have := HK1.out; have := HK2.out; first | omega | exact Nat.le_refl _⟩, ⟨by (with_reducible repeat (first | apply Kd.Q_alloc | apply Kd.Q_drewN | apply Kd.Q_drew)); exact Kd.Q_mono (Kd.Q_far (p := ⟨gb496, 4, none⟩) (Kd.Q_far (p := ⟨gb496, 3, none⟩) (Kd.Q_far (p := ⟨gb496, 2, none⟩) (Kd.Q_far (p := ⟨gb496, 1, none⟩) (Kd.Q_far (p := ⟨gb496, 0, none⟩) (Kd.Q_types HO_3.out BK496.out (by decide)) (fun _ hk => hk.2) (.int .i64 t487)) (fun _ hk => hk.2) (.int .i64 t488)) (fun _ hk => hk.2) (.string t489)) (fun _ hk => hk.2) (.int .i64 t490)) (fun _ hk => hk.2) (.slice Ao27 t491.length co27)) (fun _ hk => trivial)⟩, ⟨by (with_reducible repeat (first | apply Kd.R_alloc | apply Kd.R_drewN | apply Kd.R_drew)); exact Kd.R_mono (Kd.R_far (p := ⟨gb496, 4, none⟩) (Kd.R_far (p := ⟨gb496, 3, none⟩) (Kd.R_far (p := ⟨gb496, 2, none⟩) (Kd.R_far (p := ⟨gb496, 1, none⟩) (Kd.R_far (p := ⟨gb496, 0, none⟩) (Kd.R_types HO_4.out BK496.out (by decide)) (fun _ hk => hk.2) (.int .i64 t487)) (fun _ hk => hk.2) (.int .i64 t488)) (fun _ hk => hk.2) (.string t489)) (fun _ hk => hk.2) (.int .i64 t490)) (fun _ hk => hk.2) (.slice Ao27 t491.length co27)) (fun _ hk => trivial)⟩, ⟨by (with_reducible repeat (first | apply Kd.R_alloc | apply Kd.R_drewN | apply Kd.R_drew)); exact Kd.R_mono (Kd.R_far (p := ⟨gb496, 4, none⟩) (Kd.R_far (p := ⟨gb496, 3, none⟩) (Kd.R_far (p := ⟨gb496, 2, none⟩) (Kd.R_far (p := ⟨gb496, 1, none⟩) (Kd.R_far (p := ⟨gb496, 0, none⟩) (Kd.R_mono HO493.out (fun k_ hk => (⟨hk, hk.2⟩ : _ ∧ k_ ≠ gb496))) (fun _ hk => hk.2) (.int .i64 t487)) (fun _ hk => hk.2) (.int .i64 t488)) (fun _ hk => hk.2) (.string t489)) (fun _ hk => hk.2) (.int .i64 t490)) (fun _ hk => hk.2) (.slice Ao27 t491.length co27)) (fun _ hk => hk.1.2)⟩, ⟨by (with_reducible repeat (first | refine blk_drewN ?_ _ | refine blk_drew ?_ | refine blk_alloc ?_ _)); refine blk_put (cs := #[.int .i64 t487, .int .i64 t488, .string t489, .int .i64 t490, .slice none 0 0]) ?_ 4 _ rfl; (with_reducible repeat (first | refine blk_drewN ?_ _ | refine blk_drew ?_ | refine blk_alloc ?_ _)); refine blk_put (cs := #[.int .i64 t487, .int .i64 t488, .string t489, .int .i64 0, .slice none 0 0]) ?_ 3 _ rfl; (with_reducible repeat (first | refine blk_drewN ?_ _ | refine blk_drew ?_ | refine blk_alloc ?_ _)); refine blk_put (cs := #[.int .i64 t487, .int .i64 t488, .string (⟨#[]⟩ : ByteArray), .int .i64 0, .slice none 0 0]) ?_ 2 _ rfl; (with_reducible repeat (first | refine blk_drewN ?_ _ | refine blk_drew ?_ | refine blk_alloc ?_ _)); refine blk_put (cs := #[.int .i64 t487, .int .i64 0, .string (⟨#[]⟩ : ByteArray), .int .i64 0, .slice none 0 0]) ?_ 1 _ rfl; (with_reducible repeat (first | refine blk_drewN ?_ _ | refine blk_drew ?_ | refine blk_alloc ?_ _)); refine blk_put (cs := #[.int .i64 0, .int .i64 0, .string (⟨#[]⟩ : ByteArray), .int .i64 0, .slice none 0 0]) ?_ 0 _ rfl; (with_reducible repeat (first | refine blk_drewN ?_ _ | refine blk_drew ?_ | refine blk_alloc ?_ _)); exact BK496.out⟩, ⟨by repeat (first | (with_reducible first | exact HB.out | apply below_alloc | apply pw_below_drewN | apply below_drew1 | refine below_set ?_ GE496.out) | exact HB.out)⟩⟩
         case rest =>
          clear HC21
          try clear c1
          try clear c2
          try clear p2
          try clear c3
          try clear c4
          try clear p4
          try clear q4
          try clear hx4
          try clear c5
          try clear c6
          try clear p6
          try clear c8
          try clear c8b0
          try clear c9
          try clear c9b0
          try clear c11
          try clear c11b0
          try clear c11b1
          try clear c12
          try clear c13
          try clear c19
          try clear c19b0
          try clear c26
          try clear c28
          try clear c28b0
          try clear c28b1
          try clear c29
          try clear c29b0
          try clear hcz26_0
          try clear hcz26_1
          try clear hcz26_2
          try clear hcz26_3
          try clear hcz26_4
          try clear hfz26_0
          try clear hfz26_1
          try clear hfz26_2
          try clear hfz26_3
          try clear hfz26_4
          try clear hx466_0
          try clear hx466_1
          try clear hx466_2
          try clear hx466_3
          try clear hx466_4
          try clear hx497_0
          try clear p2
          try clear p4
          try clear p466
          try clear p497
          try clear p6
          try clear q4
          try clear q466
          try clear q497
          obtain ⟨kq, x66_20, rfl, HA, HJ20, HO_3, HO_4, HO_497004, BK496, HB⟩ := hcut
          cases kq with
          | zero => exact absurd HA.out (by simp [windlasslaw2_CodecRows.j2])
          | succ kj20 =>
           have H := HA.out
           clear HA
           simp only [windlasslaw2_CodecRows.j2] at H
           by_cases c30 : x66_20 = true
           ·subst c30
            have H1 : (some false) = some r := by rw [if_pos rfl] at H; exact H
            clear H
            have H := H1
            clear H1
            obtain rfl := Option.some.inj H
            go_wp2
            go_ret
            exact ⟨by first | rfl | (simp [errW_none, errW_some] <;> rfl) | (simp [*, errW_none, errW_some] <;> rfl), by repeat (first | (with_reducible first | exact HB.out | apply below_alloc | apply pw_below_drewN | apply below_drew1 | refine below_set ?_ GE496.out) | exact HB.out)⟩
           ·replace c30 := Bool.eq_false_iff.mpr c30
            subst c30
            have H1 : ((codec_PutValue.f kj20 t487 t488 t489 t490 t491).bind fun bt498 => (if bt498.2 = 0 then (if 0 ≤ t494 then (if t494 ≤ (x3_2.length : Int) then ((windlasshelp_Bytes.f bt498.1 (x3_2.take (t494 : Int).toNat)).bind fun t506 => (if t506 = true then (windlasslaw2_CodecRows.l1 kj20 (x3_2.drop (t494 : Int).toNat) x4_1 (wrap64 (x8_2 + 1))) else (some false))) else (none)) else (none)) else (some false))) = some r := by rw [if_neg (show ¬ (false = true) by decide)] at H; exact H
            clear H
            have H := H1
            clear H1
            replace H := Option.bind_eq_some_iff.mp H
            obtain ⟨⟨t498, t501⟩, A310, H⟩ := H
            replace H : (if t501 = 0 then (if 0 ≤ t494 then (if t494 ≤ (x3_2.length : Int) then ((windlasshelp_Bytes.f t498 (x3_2.take (t494 : Int).toNat)).bind fun t506 => (if t506 = true then (windlasslaw2_CodecRows.l1 kj20 (x3_2.drop (t494 : Int).toNat) x4_1 (wrap64 (x8_2 + 1))) else (some false))) else (none)) else (none)) else (some false)) = some r := H
            have A31 := Aside0.mk A310
            clear A310
            by_cases c32 : t501 = 0
            ·rw [if_pos c32] at H
             have c32b0 : (t501 == 0) = true := beq_iff_eq.mpr c32
             have c32b1 : (t501 != 0) = false := bne_eq_false_iff_eq.mpr c32
             clear c32
             by_cases c33 : 0 ≤ t494
             ·rw [if_pos c33] at H
              have c33b0 := eq_true c33
              have c33b1 : decide (0 ≤ t494) = true := decide_eq_true c33
              clear c33
              by_cases c34 : t494 ≤ (x3_2.length : Int)
              ·rw [if_pos c34] at H
               have c34b0 := eq_true c34
               have c34b1 : decide (t494 ≤ (x3_2.length : Int)) = true := decide_eq_true c34
               clear c34
               obtain ⟨y502, hy502⟩ : ∃ y_ : List Int, y_ = (x3_2.take (t494 : Int).toNat) := ⟨_, rfl⟩
               replace H : ((windlasshelp_Bytes.f t498 y502).bind fun t506 => (if t506 = true then (windlasslaw2_CodecRows.l1 kj20 (x3_2.drop (t494 : Int).toNat) x4_1 (wrap64 (x8_2 + 1))) else (some false))) = some r := by first | (rw [hy502]; with_reducible exact H) | (have H2_ := (Option.bind_some _ _).symm.trans H; rw [hy502]; with_reducible exact H2_) | (have H2_ := (Option.bind_some _ _).symm.trans H; with_reducible exact H2_) | with_reducible exact H | (rw [hy502]; exact H) | exact H
               have Ny502 := Aside0.mk hy502
               clear hy502
               replace H := Option.bind_eq_some_iff.mp H
               obtain ⟨t506, A350, H⟩ := H
               replace H : (if t506 = true then (windlasslaw2_CodecRows.l1 kj20 (x3_2.drop (t494 : Int).toNat) x4_1 (wrap64 (x8_2 + 1))) else (some false)) = some r := H
               have A35 := Aside0.mk A350
               clear A350
               by_cases c36 : t506 = true
               ·subst c36
                have H1 : (windlasslaw2_CodecRows.l1 kj20 (x3_2.drop (t494 : Int).toNat) x4_1 (wrap64 (x8_2 + 1))) = some r := by rw [if_pos rfl] at H; exact H
                clear H
                have H := H1
                clear H1
                have c37b0 := eq_true (of_decide_eq_true (by first | (with_reducible assumption) | assumption) : t494 ≤ (x3_2.length : Int))
                obtain ⟨y507, hy507⟩ : ∃ y_ : List Int, y_ = (x3_2.drop (t494 : Int).toNat) := ⟨_, rfl⟩
                replace H : (windlasslaw2_CodecRows.l1 kj20 y507 x4_1 (wrap64 (x8_2 + 1))) = some r := by first | (rw [hy507]; with_reducible exact H) | (have H2_ := (Option.bind_some _ _).symm.trans H; rw [hy507]; with_reducible exact H2_) | (have H2_ := (Option.bind_some _ _).symm.trans H; with_reducible exact H2_) | with_reducible exact H | (rw [hy507]; exact H) | exact H
                have Ny507 := Aside0.mk hy507
                clear hy507
                have H' := Aside0.mk H
                clear H
                have hcz38_0 : wc.cell? ⟨gb496, 0, none⟩ = some (.int .i64 t487) := (blk_cell BK496.out 0).trans rfl
                have hcz38_1 : wc.cell? ⟨gb496, 1, none⟩ = some (.int .i64 t488) := (blk_cell BK496.out 1).trans rfl
                have hcz38_2 : wc.cell? ⟨gb496, 2, none⟩ = some (.string t489) := (blk_cell BK496.out 2).trans rfl
                have hcz38_3 : wc.cell? ⟨gb496, 3, none⟩ = some (.int .i64 t490) := (blk_cell BK496.out 3).trans rfl
                have hcz38_4 : wc.cell? ⟨gb496, 4, none⟩ = some (.slice Ao27 t491.length co27) := (blk_cell BK496.out 4).trans rfl
                have hfz38_0 := blk_frozen BK496.out 0
                have hfz38_1 := blk_frozen BK496.out 1
                have hfz38_2 := blk_frozen BK496.out 2
                have hfz38_3 := blk_frozen BK496.out 3
                have hfz38_4 := blk_frozen BK496.out 4
                go_wp2_with (first | ((with_reducible refine gate_callee (f := 12) rfl ?_); refine goesL_ (some 69) rfl rfl Try.func12 (by kernel_rfl) rfl #[.agg #[.int .i64 t487, .int .i64 t488, .string t489, .int .i64 t490, .slice Ao27 t491.length co27]] rfl (by (try simp only [List.map_toArray, List.map_cons, List.map_nil]); first | done | rfl | (simp only [List.length_drop, List.length_take]; rfl) | (go_simp; done) | (go_simp; simp; done)) ?_; (with_reducible refine (codec_PutValue.calls kj20 t487 t488 t489 t490 _ _ t491 t498 t501 _ ?side1 ?side2 A31.out).mono ?_); (case side1 => repeat (first | exact (Kd.R_reads' HO_497004.out).2.2 | (with_reducible refine Kd.C_alloc ?_ _) | (with_reducible refine Kd.C_drewN ?_ _) | (with_reducible refine Kd.C_drew ?_))); (case side2 => exact (Kd.R_reads' HO_497004.out).2.1); rintro e w39 ⟨v499, rfl, ho0, hb⟩; refine ⟨_, rfl, ?_⟩; have n0_ := Aside0.mk (Kd.Q_elder' (by (with_reducible repeat (first | apply Kd.Q_alloc | apply Kd.Q_drewN | apply Kd.Q_drew)); exact HO_3.out) (Kd.R_base ho0) hb); have n1_ := Aside0.mk (Kd.R_below (by (with_reducible repeat (first | apply Kd.R_alloc | apply Kd.R_drewN | apply Kd.R_drew)); exact HO_4.out) hb); have n2_ := Aside0.mk (Kd.R_below (by (with_reducible repeat (first | apply Kd.R_alloc | apply Kd.R_drewN | apply Kd.R_drew)); exact HO_497004.out) hb); have n3_ := Aside0.mk (Kd.R_lower (Kd.R_new' ho0 (Kd.Q_lt (by (with_reducible repeat (first | apply Kd.Q_alloc | apply Kd.Q_drewN | apply Kd.Q_drew)); exact HO_3.out))) (below_size (by repeat (first | (with_reducible first | exact HB.out | apply below_alloc | apply pw_below_drewN | apply below_drew1 | refine below_set ?_ GE496.out) | exact HB.out)))); have n4_ := Aside0.mk (blk_below (g := gb496) (o := .cells #[.int .i64 t487, .int .i64 t488, .string t489, .int .i64 t490, .slice Ao27 t491.length co27] 24 (0, 0)) (by (with_reducible repeat (first | refine blk_drewN ?_ _ | refine blk_drew ?_ | refine blk_alloc ?_ _)); exact BK496.out) hb); have n5_ := Aside0.mk (below_step (by repeat (first | (with_reducible first | exact HB.out | apply below_alloc | apply pw_below_drewN | apply below_drew1 | refine below_set ?_ GE496.out) | exact HB.out)) hb); clear HO_3; clear HO_4; clear HO_497004; clear BK496; clear HB; have HO_3 := n0_; have HO_4 := n1_; have HO_497004 := n2_; have HO500 := n3_; have BK496 := n4_; have HB := n5_; clear n0_ n1_ n2_ n3_ n4_ n5_; (try clear hb); (try clear hb2); (try clear hk); (try clear hi); (try clear ho0); have q40 : (t494 : Int) ≤ ((x3_2.length : Int) : Int) := of_decide_eq_true (by first | (with_reducible assumption) | assumption); obtain ⟨i040, hi040, _, hsz40, _⟩ := info_parts info5; have hroom40 : x3_2.length ≤ co23 := (Kd.Q_reads' HO_3.out).2.1; have hC40 : Kd.C (Kd.int .u8) _ Ao23 x3_2.length x3_2 := (Kd.Q_reads' HO_3.out).2.2; have hcut40 := cut_to (P := Try.prog) 30 5 .i64 Try.underlying30 hi040 Ao23 x3_2.length co23 t494 (of_decide_eq_true (by first | (with_reducible assumption) | assumption)) q40 hroom40; have hr40 := Kd.C_take (m := (t494 : Int).toNat) hC40 (by omega); have hy40 : y502.length = (t494 : Int).toNat := (by rw [Ny502.out, List.length_take]; omega); rw [← Ny502.out] at hr40; rw [← hy40] at hcut40; have HR505 := Aside0.mk hr40; have HC505 := Aside0.mk (show y502.length ≤ co23 from by omega); clear hr40 hC40 hroom40 hi040 hsz40; have KY40 := Aside0.mk hy40; clear hy40; have KL40 := Aside0.mk (show (t494 : Int).toNat ≤ x3_2.length from by omega); replace q40 := eq_true q40; obtain ⟨Ao41, co41, eo41⟩ := Kd.R_slice HO500.out; subst eo41) | (go_at_call 16; (with_reducible refine (windlasshelp_Bytes.calls _ _ t498 _ _ y502 true _ ?side1 ?side2 ?side3 ?side4 A35.out).mono ?_); (case side1 => repeat (first | exact (Kd.R_reads' HO500.out).2.2 | (with_reducible refine Kd.C_alloc ?_ _) | (with_reducible refine Kd.C_drewN ?_ _) | (with_reducible refine Kd.C_drew ?_))); (case side2 => exact (Kd.R_reads' HO500.out).2.1); (case side3 => repeat (first | exact (by repeat (first | (with_reducible exact HR505.out) | (with_reducible refine Kd.C_alloc ?_ _) | (with_reducible refine Kd.C_drewN ?_ _) | (with_reducible refine Kd.C_drew ?_) | exact HR505.out)) | (with_reducible refine Kd.C_alloc ?_ _) | (with_reducible refine Kd.C_drewN ?_ _) | (with_reducible refine Kd.C_drew ?_))); (case side4 => exact HC505.out); rintro e w' ⟨rfl, ⟨nd, rfl⟩⟩; have n_ := Aside0.mk (Kd.Q_mono (ok' := (fun k_ => some k_ ≠ (.slice Ao41 t498.length co41 : Value).ownBlock)) HO_3.out (fun k_ hk => hk.2)); clear HO_3; have HO_3 := n_; clear n_; have q42 : (t494 : Int) ≤ ((x3_2.length : Int) : Int) := of_decide_eq_true (by first | (with_reducible assumption) | assumption); obtain ⟨i042, hi042, _, hsz42, _⟩ := info_parts info5; have hcut42 := cut_from (P := Try.prog) 30 5 .i64 Try.underlying30 hi042 1 hsz42 Ao23 x3_2.length co23 t494 (of_decide_eq_true (by first | (with_reducible assumption) | assumption)) q42; have hr42 := Kd.Q_drop (k := (t494 : Int).toNat) HO_3.out (by omega); obtain ⟨A42, hA42⟩ : ∃ A1, A1 = (if co23 = (t494 : Int).toNat then Ao23 else (Ao23 : Option Addr).map (·.add ((t494 : Int).toNat * 1))) := ⟨_, rfl⟩; obtain ⟨c42, hc42⟩ : ∃ c1, c1 = co23 - (t494 : Int).toNat := ⟨_, rfl⟩; have hy42 : y507.length = x3_2.length - (t494 : Int).toNat := (by rw [Ny507.out, List.length_drop]); rw [← Ny507.out] at hr42; rw [← hy42, ← hA42, ← hc42] at hcut42; replace hr42 : Kd.Q (Kd.int .u8) 5 w39 w.heap.size (fun k_ => some k_ ≠ (.slice Ao41 t498.length co41 : Value).ownBlock) (.slice A42 y507.length c42) y507 := (by rw [hA42, hc42, hy42]; exact hr42); have HE42 : Aside0 ((Value.slice A42 y507.length c42).ownBlock = (.slice Ao23 x3_2.length co23 : Value).ownBlock) := ⟨by rw [hA42]; split <;> (cases (Ao23 : Option Addr) <;> first | rfl | (simp only [Option.map, Addr.add, Value.ownBlock]; split <;> rfl))⟩; clear hy42 hi042 hsz42 HO_3 hA42 hc42; have HO509 := Aside0.mk hr42; clear hr42; replace q42 := eq_true q42; have n_ := Aside0.mk (Kd.R_mono (ok' := fun k_ => (True ∧ some k_ ≠ (.slice A42 y507.length c42 : Value).ownBlock)) HO500.out (fun k_ hk => ⟨trivial, (by rw [HE42.out]; exact hk.2)⟩)); clear HO500; have HO500 := n_; clear n_))
                go_roundg kj20
                case measure => have := HK1.out; have := HK2.out; have := HJ20.out; omega
                case rel => exact ⟨(y507), (wrap64 (x8_2 + 1)), (by first | rfl | (simp; done) | (simp [*]; done)), H', ⟨by have := HK1.out; have := HK2.out; have := HJ20.out; omega⟩, ⟨by (with_reducible repeat (first | apply Kd.Q_alloc | apply Kd.Q_drewN | apply Kd.Q_drew)); exact Kd.Q_mono HO509.out (fun _ hk => trivial)⟩, ⟨by (with_reducible repeat (first | apply Kd.R_alloc | apply Kd.R_drewN | apply Kd.R_drew)); exact HO_4.out⟩, ⟨by repeat (first | (with_reducible first | exact HB.out | apply below_alloc | apply pw_below_drewN | apply below_drew1 | refine below_set ?_ GE496.out) | exact HB.out)⟩⟩
               ·replace c36 := Bool.eq_false_iff.mpr c36
                subst c36
                have H1 : (some false) = some r := by rw [if_neg (show ¬ (false = true) by decide)] at H; exact H
                clear H
                have H := H1
                clear H1
                obtain rfl := Option.some.inj H
                have hcz43_0 : wc.cell? ⟨gb496, 0, none⟩ = some (.int .i64 t487) := (blk_cell BK496.out 0).trans rfl
                have hcz43_1 : wc.cell? ⟨gb496, 1, none⟩ = some (.int .i64 t488) := (blk_cell BK496.out 1).trans rfl
                have hcz43_2 : wc.cell? ⟨gb496, 2, none⟩ = some (.string t489) := (blk_cell BK496.out 2).trans rfl
                have hcz43_3 : wc.cell? ⟨gb496, 3, none⟩ = some (.int .i64 t490) := (blk_cell BK496.out 3).trans rfl
                have hcz43_4 : wc.cell? ⟨gb496, 4, none⟩ = some (.slice Ao27 t491.length co27) := (blk_cell BK496.out 4).trans rfl
                have hfz43_0 := blk_frozen BK496.out 0
                have hfz43_1 := blk_frozen BK496.out 1
                have hfz43_2 := blk_frozen BK496.out 2
                have hfz43_3 := blk_frozen BK496.out 3
                have hfz43_4 := blk_frozen BK496.out 4
                go_wp2_with (first | ((with_reducible refine gate_callee (f := 12) rfl ?_); refine goesL_ (some 69) rfl rfl Try.func12 (by kernel_rfl) rfl #[.agg #[.int .i64 t487, .int .i64 t488, .string t489, .int .i64 t490, .slice Ao27 t491.length co27]] rfl (by (try simp only [List.map_toArray, List.map_cons, List.map_nil]); first | done | rfl | (simp only [List.length_drop, List.length_take]; rfl) | (go_simp; done) | (go_simp; simp; done)) ?_; (with_reducible refine (codec_PutValue.calls kj20 t487 t488 t489 t490 _ _ t491 t498 t501 _ ?side1 ?side2 A31.out).mono ?_); (case side1 => repeat (first | exact (Kd.R_reads' HO_497004.out).2.2 | (with_reducible refine Kd.C_alloc ?_ _) | (with_reducible refine Kd.C_drewN ?_ _) | (with_reducible refine Kd.C_drew ?_))); (case side2 => exact (Kd.R_reads' HO_497004.out).2.1); rintro e w44 ⟨v499, rfl, ho0, hb⟩; refine ⟨_, rfl, ?_⟩; have n0_ := Aside0.mk (Kd.Q_elder' (by (with_reducible repeat (first | apply Kd.Q_alloc | apply Kd.Q_drewN | apply Kd.Q_drew)); exact HO_3.out) (Kd.R_base ho0) hb); have n1_ := Aside0.mk (Kd.R_below (by (with_reducible repeat (first | apply Kd.R_alloc | apply Kd.R_drewN | apply Kd.R_drew)); exact HO_4.out) hb); have n2_ := Aside0.mk (Kd.R_below (by (with_reducible repeat (first | apply Kd.R_alloc | apply Kd.R_drewN | apply Kd.R_drew)); exact HO_497004.out) hb); have n3_ := Aside0.mk (Kd.R_lower (Kd.R_new' ho0 (Kd.Q_lt (by (with_reducible repeat (first | apply Kd.Q_alloc | apply Kd.Q_drewN | apply Kd.Q_drew)); exact HO_3.out))) (below_size (by repeat (first | (with_reducible first | exact HB.out | apply below_alloc | apply pw_below_drewN | apply below_drew1 | refine below_set ?_ GE496.out) | exact HB.out)))); have n4_ := Aside0.mk (blk_below (g := gb496) (o := .cells #[.int .i64 t487, .int .i64 t488, .string t489, .int .i64 t490, .slice Ao27 t491.length co27] 24 (0, 0)) (by (with_reducible repeat (first | refine blk_drewN ?_ _ | refine blk_drew ?_ | refine blk_alloc ?_ _)); exact BK496.out) hb); have n5_ := Aside0.mk (below_step (by repeat (first | (with_reducible first | exact HB.out | apply below_alloc | apply pw_below_drewN | apply below_drew1 | refine below_set ?_ GE496.out) | exact HB.out)) hb); clear HO_3; clear HO_4; clear HO_497004; clear BK496; clear HB; have HO_3 := n0_; have HO_4 := n1_; have HO_497004 := n2_; have HO500 := n3_; have BK496 := n4_; have HB := n5_; clear n0_ n1_ n2_ n3_ n4_ n5_; (try clear hb); (try clear hb2); (try clear hk); (try clear hi); (try clear ho0); have q45 : (t494 : Int) ≤ ((x3_2.length : Int) : Int) := of_decide_eq_true (by first | (with_reducible assumption) | assumption); obtain ⟨i045, hi045, _, hsz45, _⟩ := info_parts info5; have hroom45 : x3_2.length ≤ co23 := (Kd.Q_reads' HO_3.out).2.1; have hC45 : Kd.C (Kd.int .u8) _ Ao23 x3_2.length x3_2 := (Kd.Q_reads' HO_3.out).2.2; have hcut45 := cut_to (P := Try.prog) 30 5 .i64 Try.underlying30 hi045 Ao23 x3_2.length co23 t494 (of_decide_eq_true (by first | (with_reducible assumption) | assumption)) q45 hroom45; have hr45 := Kd.C_take (m := (t494 : Int).toNat) hC45 (by omega); have hy45 : y502.length = (t494 : Int).toNat := (by rw [Ny502.out, List.length_take]; omega); rw [← Ny502.out] at hr45; rw [← hy45] at hcut45; have HR505 := Aside0.mk hr45; have HC505 := Aside0.mk (show y502.length ≤ co23 from by omega); clear hr45 hC45 hroom45 hi045 hsz45; have KY45 := Aside0.mk hy45; clear hy45; have KL45 := Aside0.mk (show (t494 : Int).toNat ≤ x3_2.length from by omega); replace q45 := eq_true q45; obtain ⟨Ao46, co46, eo46⟩ := Kd.R_slice HO500.out; subst eo46) | (go_at_call 16; (with_reducible refine (windlasshelp_Bytes.calls _ _ t498 _ _ y502 false _ ?side1 ?side2 ?side3 ?side4 A35.out).mono ?_); (case side1 => repeat (first | exact (Kd.R_reads' HO500.out).2.2 | (with_reducible refine Kd.C_alloc ?_ _) | (with_reducible refine Kd.C_drewN ?_ _) | (with_reducible refine Kd.C_drew ?_))); (case side2 => exact (Kd.R_reads' HO500.out).2.1); (case side3 => repeat (first | exact (by repeat (first | (with_reducible exact HR505.out) | (with_reducible refine Kd.C_alloc ?_ _) | (with_reducible refine Kd.C_drewN ?_ _) | (with_reducible refine Kd.C_drew ?_) | exact HR505.out)) | (with_reducible refine Kd.C_alloc ?_ _) | (with_reducible refine Kd.C_drewN ?_ _) | (with_reducible refine Kd.C_drew ?_))); (case side4 => exact HC505.out); rintro e w' ⟨rfl, ⟨nd, rfl⟩⟩))
                go_ret
                exact ⟨by first | rfl | (simp [errW_none, errW_some] <;> rfl) | (simp [*, errW_none, errW_some] <;> rfl), by repeat (first | (with_reducible first | exact HB.out | apply below_alloc | apply pw_below_drewN | apply below_drew1 | refine below_set ?_ GE496.out) | exact HB.out)⟩
              ·rw [if_neg c34] at H
               exact absurd H (by simp)
             ·rw [if_neg c33] at H
              exact absurd H (by simp)
            ·rw [if_neg c32] at H
             have c32b0 : (t501 == 0) = false := beq_eq_false_iff_ne.mpr c32
             have c32b1 : (t501 != 0) = true := bne_iff_ne.mpr c32
             obtain rfl := Option.some.inj H
             have hcz47_0 : wc.cell? ⟨gb496, 0, none⟩ = some (.int .i64 t487) := (blk_cell BK496.out 0).trans rfl
             have hcz47_1 : wc.cell? ⟨gb496, 1, none⟩ = some (.int .i64 t488) := (blk_cell BK496.out 1).trans rfl
             have hcz47_2 : wc.cell? ⟨gb496, 2, none⟩ = some (.string t489) := (blk_cell BK496.out 2).trans rfl
             have hcz47_3 : wc.cell? ⟨gb496, 3, none⟩ = some (.int .i64 t490) := (blk_cell BK496.out 3).trans rfl
             have hcz47_4 : wc.cell? ⟨gb496, 4, none⟩ = some (.slice Ao27 t491.length co27) := (blk_cell BK496.out 4).trans rfl
             have hfz47_0 := blk_frozen BK496.out 0
             have hfz47_1 := blk_frozen BK496.out 1
             have hfz47_2 := blk_frozen BK496.out 2
             have hfz47_3 := blk_frozen BK496.out 3
             have hfz47_4 := blk_frozen BK496.out 4
             go_wp2_with (first | ((with_reducible refine gate_callee (f := 12) rfl ?_); refine goesL_ (some 69) rfl rfl Try.func12 (by kernel_rfl) rfl #[.agg #[.int .i64 t487, .int .i64 t488, .string t489, .int .i64 t490, .slice Ao27 t491.length co27]] rfl (by (try simp only [List.map_toArray, List.map_cons, List.map_nil]); first | done | rfl | (simp only [List.length_drop, List.length_take]; rfl) | (go_simp; done) | (go_simp; simp; done)) ?_; (with_reducible refine (codec_PutValue.calls kj20 t487 t488 t489 t490 _ _ t491 t498 t501 _ ?side1 ?side2 A31.out).mono ?_); (case side1 => repeat (first | exact (Kd.R_reads' HO_497004.out).2.2 | (with_reducible refine Kd.C_alloc ?_ _) | (with_reducible refine Kd.C_drewN ?_ _) | (with_reducible refine Kd.C_drew ?_))); (case side2 => exact (Kd.R_reads' HO_497004.out).2.1); rintro e w48 ⟨v499, rfl, ho0, hb⟩; refine ⟨_, rfl, ?_⟩; have n0_ := Aside0.mk (Kd.Q_elder' (by (with_reducible repeat (first | apply Kd.Q_alloc | apply Kd.Q_drewN | apply Kd.Q_drew)); exact HO_3.out) (Kd.R_base ho0) hb); have n1_ := Aside0.mk (Kd.R_below (by (with_reducible repeat (first | apply Kd.R_alloc | apply Kd.R_drewN | apply Kd.R_drew)); exact HO_4.out) hb); have n2_ := Aside0.mk (Kd.R_below (by (with_reducible repeat (first | apply Kd.R_alloc | apply Kd.R_drewN | apply Kd.R_drew)); exact HO_497004.out) hb); have n3_ := Aside0.mk (Kd.R_lower (Kd.R_new' ho0 (Kd.Q_lt (by (with_reducible repeat (first | apply Kd.Q_alloc | apply Kd.Q_drewN | apply Kd.Q_drew)); exact HO_3.out))) (below_size (by repeat (first | (with_reducible first | exact HB.out | apply below_alloc | apply pw_below_drewN | apply below_drew1 | refine below_set ?_ GE496.out) | exact HB.out)))); have n4_ := Aside0.mk (blk_below (g := gb496) (o := .cells #[.int .i64 t487, .int .i64 t488, .string t489, .int .i64 t490, .slice Ao27 t491.length co27] 24 (0, 0)) (by (with_reducible repeat (first | refine blk_drewN ?_ _ | refine blk_drew ?_ | refine blk_alloc ?_ _)); exact BK496.out) hb); have n5_ := Aside0.mk (below_step (by repeat (first | (with_reducible first | exact HB.out | apply below_alloc | apply pw_below_drewN | apply below_drew1 | refine below_set ?_ GE496.out) | exact HB.out)) hb); clear HO_3; clear HO_4; clear HO_497004; clear BK496; clear HB; have HO_3 := n0_; have HO_4 := n1_; have HO_497004 := n2_; have HO500 := n3_; have BK496 := n4_; have HB := n5_; clear n0_ n1_ n2_ n3_ n4_ n5_; (try clear hb); (try clear hb2); (try clear hk); (try clear hi); (try clear ho0)))
             go_ret
             exact ⟨by first | rfl | (simp [errW_none, errW_some] <;> rfl) | (simp [*, errW_none, errW_some] <;> rfl), by repeat (first | (with_reducible first | exact HB.out | apply below_alloc | apply pw_below_drewN | apply below_drew1 | refine below_set ?_ GE496.out) | exact HB.out)⟩
        ·rw [if_neg c19] at H
         have c19b0 : decide (x8_2 < (x4_1.length : Int)) = false := decide_eq_false c19
         clear c19
         replace H := Option.bind_eq_some_iff.mp H
         obtain ⟨⟨t477, t478, t479, t480, t481, t484, t485⟩, A490, H⟩ := H
         replace H : (if (x3_2.length : Int) = 0 then (some (t485 == 20)) else (some false)) = some r := H
         have A49 := Aside0.mk A490
         clear A490
         by_cases c50 : (x3_2.length : Int) = 0
         ·rw [if_pos c50] at H
          have c50b0 : ((x3_2.length : Int) == 0) = true := beq_iff_eq.mpr c50
          have c50b1 : ((x3_2.length : Int) != 0) = false := bne_eq_false_iff_eq.mpr c50
          clear c50
          obtain rfl := Option.some.inj H
          obtain ⟨Ao51, co51, eo51⟩ := Kd.R_slice HO_4.out
          subst eo51
          go_wp2_with (first | ((with_reducible refine gate_callee (f := 26) rfl ?_); refine goesL_ (some 86) rfl rfl Try.func26 (by kernel_rfl) rfl #[.slice none 0 0] rfl (by (try simp only [List.map_toArray, List.map_cons, List.map_nil]); first | done | rfl | (simp only [List.length_drop, List.length_take]; rfl) | (go_simp; done) | (go_simp; simp; done)) ?_; (refine (codec_Value.calls k2 _ _ ([] : List Int) t477 t478 t479 t480 t481 t484 t485 _ ?side1 ?side2 A49.out).mono ?_); (case side1 => exact Kd.C_nil _ _); (case side2 => exact Nat.le_refl _); rintro e w52 ⟨v482, rfl, ho0, hb⟩; refine ⟨_, rfl, ?_⟩; have n0_ := Aside0.mk (Kd.Q_below (by (with_reducible repeat (first | apply Kd.Q_alloc | apply Kd.Q_drewN | apply Kd.Q_drew)); exact HO_3.out) hb); have n1_ := Aside0.mk (Kd.R_below (by (with_reducible repeat (first | apply Kd.R_alloc | apply Kd.R_drewN | apply Kd.R_drew)); exact HO_4.out) hb); have n2_ := Aside0.mk (Kd.R_lower ho0 (below_size (by repeat (first | (with_reducible first | exact HB.out | apply below_alloc | apply pw_below_drewN | apply below_drew1) | exact HB.out)))); have n3_ := Aside0.mk (below_step (by repeat (first | (with_reducible first | exact HB.out | apply below_alloc | apply pw_below_drewN | apply below_drew1) | exact HB.out)) hb); clear HO_3; clear HO_4; clear HB; have HO_3 := n0_; have HO_4 := n1_; have HO483 := n2_; have HB := n3_; clear n0_ n1_ n2_ n3_; (try clear hb); (try clear hb2); (try clear hk); (try clear hi); (try clear ho0)) | ((with_reducible refine gate_dst (N := 13) rfl ?_); refine box_event ?hg (N := 13) ?hd (cs := #[.int .i64 0, .int .i64 0, .string (⟨#[]⟩ : ByteArray), .int .i64 0, .slice none 0 0]) (t := 24) ?hr ?_; (case hd => rfl); (case hg => rfl); (case hr => first | (go_simp; done) | (go_simp; rfl)); intro gb486 hg w53 hbox hb; have n0_ := Aside0.mk (Kd.Q_below (by (with_reducible repeat (first | apply Kd.Q_alloc | apply Kd.Q_drewN | apply Kd.Q_drew)); exact HO_3.out) hb); have n1_ := Aside0.mk (Kd.R_below (by (with_reducible repeat (first | apply Kd.R_alloc | apply Kd.R_drewN | apply Kd.R_drew)); exact HO_4.out) hb); have n2_ := Aside0.mk (Kd.R_below (Kd.R_elderB (by (with_reducible repeat (first | apply Kd.R_alloc | apply Kd.R_drewN | apply Kd.R_drew)); exact HO483.out) gb486 (Nat.le_of_eq hg.symm)) hb); have n3_ := Aside0.mk (below_step (by repeat (first | (with_reducible first | exact HB.out | apply below_alloc | apply pw_below_drewN | apply below_drew1) | exact HB.out)) hb); have n4_ := Aside0.mk (hbox); have n5_ := Aside0.mk ((by rw [hg]; exact (below_size (by repeat (first | (with_reducible first | exact HB.out | apply below_alloc | apply pw_below_drewN | apply below_drew1) | exact HB.out))) : w.heap.size ≤ gb486)); have n6_ := Aside0.mk ((by rw [hg]; exact (below_size (by repeat (first | (with_reducible first | exact HB.out | apply below_alloc | apply pw_below_drewN | apply below_drew1) | exact HB.out))) : w.heap.size ≤ gb486)); clear HO_3; clear HO_4; clear HO483; clear HB; have HO_3 := n0_; have HO_4 := n1_; have HO483 := n2_; have HB := n3_; have BK486 := n4_; have GW486 := n5_; have GE486 := n6_; clear n0_ n1_ n2_ n3_ n4_ n5_ n6_; clear hb hbox hg; have hcz54_0 : w53.cell? ⟨gb486, 0, none⟩ = some (.int .i64 0) := (blk_cell BK486.out 0).trans rfl; have hcz54_1 : w53.cell? ⟨gb486, 1, none⟩ = some (.int .i64 0) := (blk_cell BK486.out 1).trans rfl; have hcz54_2 : w53.cell? ⟨gb486, 2, none⟩ = some (.string (⟨#[]⟩ : ByteArray)) := (blk_cell BK486.out 2).trans rfl; have hcz54_3 : w53.cell? ⟨gb486, 3, none⟩ = some (.int .i64 0) := (blk_cell BK486.out 3).trans rfl; have hcz54_4 : w53.cell? ⟨gb486, 4, none⟩ = some (.slice none 0 0) := (blk_cell BK486.out 4).trans rfl; have hfz54_0 := blk_frozen BK486.out 0; have hfz54_1 := blk_frozen BK486.out 1; have hfz54_2 := blk_frozen BK486.out 2; have hfz54_3 := blk_frozen BK486.out 3; have hfz54_4 := blk_frozen BK486.out 4; obtain ⟨Ao55, co55, eo55⟩ := Kd.R_slice HO483.out; subst eo55; obtain ⟨Ao56, co56, eo56, _⟩ := Kd.Q_slice HO_3.out; subst eo56))
          go_ret
          exact ⟨by first | rfl | (simp [errW_none, errW_some] <;> rfl) | (simp [*, errW_none, errW_some] <;> rfl), by repeat (first | (with_reducible first | exact HB.out | apply below_alloc | apply pw_below_drewN | apply below_drew1 | refine below_set ?_ GE486.out) | exact HB.out)⟩
         ·rw [if_neg c50] at H
          have c50b0 : ((x3_2.length : Int) == 0) = false := beq_eq_false_iff_ne.mpr c50
          have c50b1 : ((x3_2.length : Int) != 0) = true := bne_iff_ne.mpr c50
          have c50b2 : ¬ (x3_2 = []) := fun h_ => c50 (by rw [h_]; rfl)
          obtain rfl := Option.some.inj H
          obtain ⟨Ao57, co57, eo57⟩ := Kd.R_slice HO_4.out
          subst eo57
          go_wp2_with (first | ((with_reducible refine gate_callee (f := 26) rfl ?_); refine goesL_ (some 86) rfl rfl Try.func26 (by kernel_rfl) rfl #[.slice none 0 0] rfl (by (try simp only [List.map_toArray, List.map_cons, List.map_nil]); first | done | rfl | (simp only [List.length_drop, List.length_take]; rfl) | (go_simp; done) | (go_simp; simp; done)) ?_; (refine (codec_Value.calls k2 _ _ ([] : List Int) t477 t478 t479 t480 t481 t484 t485 _ ?side1 ?side2 A49.out).mono ?_); (case side1 => exact Kd.C_nil _ _); (case side2 => exact Nat.le_refl _); rintro e w58 ⟨v482, rfl, ho0, hb⟩; refine ⟨_, rfl, ?_⟩; have n0_ := Aside0.mk (Kd.Q_below (by (with_reducible repeat (first | apply Kd.Q_alloc | apply Kd.Q_drewN | apply Kd.Q_drew)); exact HO_3.out) hb); have n1_ := Aside0.mk (Kd.R_below (by (with_reducible repeat (first | apply Kd.R_alloc | apply Kd.R_drewN | apply Kd.R_drew)); exact HO_4.out) hb); have n2_ := Aside0.mk (Kd.R_lower ho0 (below_size (by repeat (first | (with_reducible first | exact HB.out | apply below_alloc | apply pw_below_drewN | apply below_drew1) | exact HB.out)))); have n3_ := Aside0.mk (below_step (by repeat (first | (with_reducible first | exact HB.out | apply below_alloc | apply pw_below_drewN | apply below_drew1) | exact HB.out)) hb); clear HO_3; clear HO_4; clear HB; have HO_3 := n0_; have HO_4 := n1_; have HO483 := n2_; have HB := n3_; clear n0_ n1_ n2_ n3_; (try clear hb); (try clear hb2); (try clear hk); (try clear hi); (try clear ho0)) | ((with_reducible refine gate_dst (N := 13) rfl ?_); refine box_event ?hg (N := 13) ?hd (cs := #[.int .i64 0, .int .i64 0, .string (⟨#[]⟩ : ByteArray), .int .i64 0, .slice none 0 0]) (t := 24) ?hr ?_; (case hd => rfl); (case hg => rfl); (case hr => first | (go_simp; done) | (go_simp; rfl)); intro gb486 hg w59 hbox hb; have n0_ := Aside0.mk (Kd.Q_below (by (with_reducible repeat (first | apply Kd.Q_alloc | apply Kd.Q_drewN | apply Kd.Q_drew)); exact HO_3.out) hb); have n1_ := Aside0.mk (Kd.R_below (by (with_reducible repeat (first | apply Kd.R_alloc | apply Kd.R_drewN | apply Kd.R_drew)); exact HO_4.out) hb); have n2_ := Aside0.mk (Kd.R_below (Kd.R_elderB (by (with_reducible repeat (first | apply Kd.R_alloc | apply Kd.R_drewN | apply Kd.R_drew)); exact HO483.out) gb486 (Nat.le_of_eq hg.symm)) hb); have n3_ := Aside0.mk (below_step (by repeat (first | (with_reducible first | exact HB.out | apply below_alloc | apply pw_below_drewN | apply below_drew1) | exact HB.out)) hb); have n4_ := Aside0.mk (hbox); have n5_ := Aside0.mk ((by rw [hg]; exact (below_size (by repeat (first | (with_reducible first | exact HB.out | apply below_alloc | apply pw_below_drewN | apply below_drew1) | exact HB.out))) : w.heap.size ≤ gb486)); have n6_ := Aside0.mk ((by rw [hg]; exact (below_size (by repeat (first | (with_reducible first | exact HB.out | apply below_alloc | apply pw_below_drewN | apply below_drew1) | exact HB.out))) : w.heap.size ≤ gb486)); clear HO_3; clear HO_4; clear HO483; clear HB; have HO_3 := n0_; have HO_4 := n1_; have HO483 := n2_; have HB := n3_; have BK486 := n4_; have GW486 := n5_; have GE486 := n6_; clear n0_ n1_ n2_ n3_ n4_ n5_ n6_; clear hb hbox hg; have hcz60_0 : w59.cell? ⟨gb486, 0, none⟩ = some (.int .i64 0) := (blk_cell BK486.out 0).trans rfl; have hcz60_1 : w59.cell? ⟨gb486, 1, none⟩ = some (.int .i64 0) := (blk_cell BK486.out 1).trans rfl; have hcz60_2 : w59.cell? ⟨gb486, 2, none⟩ = some (.string (⟨#[]⟩ : ByteArray)) := (blk_cell BK486.out 2).trans rfl; have hcz60_3 : w59.cell? ⟨gb486, 3, none⟩ = some (.int .i64 0) := (blk_cell BK486.out 3).trans rfl; have hcz60_4 : w59.cell? ⟨gb486, 4, none⟩ = some (.slice none 0 0) := (blk_cell BK486.out 4).trans rfl; have hfz60_0 := blk_frozen BK486.out 0; have hfz60_1 := blk_frozen BK486.out 1; have hfz60_2 := blk_frozen BK486.out 2; have hfz60_3 := blk_frozen BK486.out 3; have hfz60_4 := blk_frozen BK486.out 4; obtain ⟨Ao61, co61, eo61⟩ := Kd.R_slice HO483.out; subst eo61; obtain ⟨Ao62, co62, eo62, _⟩ := Kd.Q_slice HO_3.out; subst eo62))
          go_ret
          exact ⟨by first | rfl | (simp [errW_none, errW_some] <;> rfl) | (simp [*, errW_none, errW_some] <;> rfl), by repeat (first | (with_reducible first | exact HB.out | apply below_alloc | apply pw_below_drewN | apply below_drew1 | refine below_set ?_ GE486.out) | exact HB.out)⟩
  ·replace c5 := Bool.eq_false_iff.mpr c5
   subst c5
   have H1 : (some true) = some r := by rw [if_neg (show ¬ (false = true) by decide)] at H; exact H
   clear H
   have H := H1
   clear H1
   obtain rfl := Option.some.inj H
   go_enter Try.func6, Try.ntmps6
   go_wp2_with (first | ((with_reducible refine gate_callee (f := 9) rfl ?_); refine goesL_ (some 16) rfl rfl Try.func9 (by kernel_rfl) rfl #[] rfl (by (try simp only [List.map_toArray, List.map_cons, List.map_nil]); first | done | rfl | (simp only [List.length_drop, List.length_take]; rfl) | (go_simp; done) | (go_simp; simp; done)) ?_; (with_reducible refine (windlasslaw2_known.calls k  true _ A2.out).mono ?_); rintro e w63 ⟨rfl, hb⟩; refine ⟨_, rfl, ?_⟩; have n0_ := Aside0.mk (below_step (by repeat (first | (with_reducible first | exact HB.out | apply below_alloc | apply pw_below_drewN | apply below_drew1) | exact HB.out)) hb); clear HB; have HB := n0_; clear n0_; (try clear hb); (try clear hb2); (try clear hk); (try clear hi)) | ((with_reducible refine gate_callee (f := 11) rfl ?_); refine goesL_ (some 19) rfl rfl Try.func11 (by kernel_rfl) rfl #[.slice A0 l0.length c0] rfl (by (try simp only [List.map_toArray, List.map_cons, List.map_nil]); first | done | rfl | (simp only [List.length_drop, List.length_take]; rfl) | (go_simp; done) | (go_simp; simp; done)) ?_; (with_reducible refine (windlasshelp_Smalls.calls k _ _ l0 false _ ?side1 ?side2 A4.out).mono ?_); (case side1 => repeat (first | exact (Kd.C_below HR0.out HB.out) | (with_reducible refine Kd.C_alloc ?_ _) | (with_reducible refine Kd.C_drewN ?_ _) | (with_reducible refine Kd.C_drew ?_))); (case side2 => exact HC0.out); rintro e w64 ⟨rfl, hb⟩; refine ⟨_, rfl, ?_⟩; have n0_ := Aside0.mk (below_step (by repeat (first | (with_reducible first | exact HB.out | apply below_alloc | apply pw_below_drewN | apply below_drew1) | exact HB.out)) hb); clear HB; have HB := n0_; clear n0_; (try clear hb); (try clear hb2); (try clear hk); (try clear hi)))
   go_ret
   exact ⟨by first | rfl | (simp [errW_none, errW_some] <;> rfl) | (simp [*, errW_none, errW_some] <;> rfl), by repeat (first | (with_reducible first | exact HB.out | apply below_alloc | apply pw_below_drewN | apply below_drew1) | exact HB.out)⟩
 ·replace c3 := Bool.eq_false_iff.mpr c3
  subst c3
  have H1 : (some false) = some r := by rw [if_neg (show ¬ (false = true) by decide)] at H; exact H
  clear H
  have H := H1
  clear H1
  obtain rfl := Option.some.inj H
  go_enter Try.func6, Try.ntmps6
  go_wp2_with (first | ((with_reducible refine gate_callee (f := 9) rfl ?_); refine goesL_ (some 16) rfl rfl Try.func9 (by kernel_rfl) rfl #[] rfl (by (try simp only [List.map_toArray, List.map_cons, List.map_nil]); first | done | rfl | (simp only [List.length_drop, List.length_take]; rfl) | (go_simp; done) | (go_simp; simp; done)) ?_; (with_reducible refine (windlasslaw2_known.calls k  false _ A2.out).mono ?_); rintro e w65 ⟨rfl, hb⟩; refine ⟨_, rfl, ?_⟩; have n0_ := Aside0.mk (below_step (by repeat (first | (with_reducible first | exact HB.out | apply below_alloc | apply pw_below_drewN | apply below_drew1) | exact HB.out)) hb); clear HB; have HB := n0_; clear n0_; (try clear hb); (try clear hb2); (try clear hk); (try clear hi)))
  go_ret
  exact ⟨by first | rfl | (simp [errW_none, errW_some] <;> rfl) | (simp [*, errW_none, errW_some] <;> rfl), by repeat (first | (with_reducible first | exact HB.out | apply below_alloc | apply pw_below_drewN | apply below_drew1) | exact HB.out)⟩

/-- THE ONE PURE STATEMENT of windlasslaw2_CodecRows: yours. -/
def windlasslaw2_CodecRows.Pure : Prop := ∀ (x0 : List (S24)), (x0.length ≤ maxLen ∧ x0.length * 64 ≤ 140737488351232 ∧ ∀ y ∈ x0, Wf24 y) → ∃ k, windlasslaw2_CodecRows.f k x0 = some true
theorem windlasslaw2_CodecRows.walk (P : windlasslaw2_CodecRows.Pure) (x0 : List (S24)) (A0 : Option Addr) (c0 : Nat) (w : World) (w0 : (x0.length ≤ maxLen ∧ x0.length * 64 ≤ 140737488351232 ∧ ∀ y ∈ x0, Wf24 y)) (r0 : Kd.C k24 w A0 x0.length x0) (m0 : x0.length ≤ c0) :
  Calls Try.prog 6 #[.slice A0 x0.length c0] w fun e w' => e = .returned (.bool true) ∧ Below w.heap.size w w' := by
 obtain ⟨k, h⟩ := P x0 w0
 refine (windlasslaw2_CodecRows.calls k _ _ x0 true w r0 m0 h).mono ?_
 rintro e w' ⟨rfl, hd⟩
 exact ⟨rfl, hd⟩

end Go.Proofs.Ythbnblmnamckmaa.PAll
/-
  Plain facts on numbers as bytes: seven bits a byte, the lowest first (putU), and back (decU). No program stands here. Conditions: those named in each lemma.
-/
namespace Go.Proofs.Ythbnblmnamckmaa.Q
open Go.RowKit Go.Proofs.YthbnblmnamckmaaW.PrintWords Go.Proofs.YthbnblmnamckmaaW.PrintMore
set_option linter.unusedVariables false

theorem u64_mod (n : Int) : IntKind.u64.wrap n = n % 18446744073709551616 := IntKind.wrap_u64 n
theorem u64_id {n : Int} (h0 : 0 ≤ n) (h1 : n < 18446744073709551616) : IntKind.u64.wrap n = n := by rw [u64_mod]; omega
theorem w64_id {n : Int} (h0 : -9223372036854775808 ≤ n) (h1 : n ≤ 9223372036854775807) : wrap64 n = n := by unfold wrap64; omega

theorem nat_or128 : ∀ a : Fin 256, (a.val ||| 128) = a.val % 128 + 128 := by decide +kernel
theorem or128 {x : Int} (h0 : 0 ≤ x) (h1 : x < 256) : bits .or .u8 x 128 = x % 128 + 128 := by
  obtain ⟨a, rfl⟩ := Int.eq_ofNat_of_zero_le h0
  have h := (bits_nat .u8 8 (by decide) wraps_u8 a 128 (by omega) (by decide)).2
  have h2 := nat_or128 ⟨a, by omega⟩
  simp only at h2
  rw [h2] at h
  have h3 : ((128 : Nat) : Int) = 128 := rfl
  rw [h3] at h
  rw [h]
  omega

theorem bits_or_comm (k : IntKind) (x y : Int) : bits .or k x y = bits .or k y x := by
  simp only [bits]
  rw [BitVec.or_comm]
theorem wraps_u64 (n : Int) (h₀ : 0 ≤ n) (h₁ : n < 2 ^ 64) : IntKind.u64.wrap n = n := u64_id h₀ (by omega)

/-- A digit laid above what there is. -/
theorem or_digit {x d : Int} {i : Nat} (hi : i ≤ 9) (hx0 : 0 ≤ x) (hx : x < 128 ^ i) (hd0 : 0 ≤ d) (hd : d < 128) (h9 : i = 9 → d ≤ 1) {y : Int} (hy : y = 7 * (i : Int)) : bits .or .u64 x (shl .u64 d y) = x + d * 128 ^ i := by
  have hp : (128 : Int) ^ i = 2 ^ (7 * i) := by rw [Int.pow_mul]; rfl
  have hyn : min y.toNat IntKind.u64.bits = 7 * i := by
    have : IntKind.u64.bits = 64 := rfl
    omega
  have hpos : (0 : Int) < 128 ^ i := Int.pow_pos (by decide)
  have hb : d * 128 ^ i < 2 ^ 64 ∧ x < 2 ^ 64 := by
    by_cases h : i = 9
    · subst h
      have h1 := h9 rfl
      have e : (128 : Int) ^ 9 = 9223372036854775808 := by decide
      rw [e] at hx ⊢
      omega
    · have h8 : (128 : Int) ^ i ≤ 128 ^ 8 := by
        have := Nat.pow_le_pow_right (n := 128) (by decide) (show i ≤ 8 by omega)
        exact_mod_cast this
      have e : (128 : Int) ^ 8 = 72057594037927936 := by decide
      rw [e] at h8
      have : d * 128 ^ i ≤ 127 * 128 ^ i := Int.mul_le_mul_of_nonneg_right (by omega) (by omega)
      omega
  have hdp : 0 ≤ d * 128 ^ i := Int.mul_nonneg hd0 (by omega)
  have hs : shl .u64 d y = d * 128 ^ i := by
    unfold shl
    rw [hyn, ← hp]
    exact u64_id hdp (by omega)
  rw [hs, bits_or_comm, bits_join .u64 64 (by decide) wraps_u64 (7 * i) (d * 128 ^ i) x hdp (by rw [hp]; exact Int.mul_emod_left _ _) hb.1 hx0 (by rw [← hp]; exact hx) hb.2]
  omega

/-! ### the bytes of a number -/
def putU (n : Nat) : List Int := if h : n < 128 then [(n : Int)] else ((n % 128 + 128 : Nat) : Int) :: putU (n / 128)
termination_by n
decreasing_by omega
theorem putU_small {n : Nat} (h : n < 128) : putU n = [(n : Int)] := by rw [putU, dif_pos h]
theorem putU_big {n : Nat} (h : ¬ n < 128) : putU n = ((n % 128 + 128 : Nat) : Int) :: putU (n / 128) := by rw [putU, dif_neg h]
theorem putU_length (j : Nat) : ∀ n, n < 128 ^ (j + 1) → 1 ≤ (putU n).length ∧ (putU n).length ≤ j + 1 := by
  induction j with
  | zero => intro n hn; rw [putU_small (by simpa using hn)]; simp
  | succ j ih =>
    intro n hn
    by_cases h : n < 128
    · rw [putU_small h]; simp
    · rw [putU_big h]
      have := ih (n / 128) (Nat.div_lt_of_lt_mul (by rw [Nat.mul_comm, ← Nat.pow_succ]; exact hn))
      simp
      omega
theorem putU_len {n : Nat} (h : n < 18446744073709551616) : 1 ≤ (putU n).length ∧ (putU n).length ≤ 10 := by
  have := putU_length 9 n (by
    have : (128 : Nat) ^ 10 = 1180591620717411303424 := by decide
    rw [this]; omega)
  exact this
theorem putU_bytes : ∀ n, ∀ x ∈ putU n, 0 ≤ x ∧ x ≤ 255 := by
  intro n
  induction n using Nat.strongRecOn with
  | _ n ih =>
    intro x hx
    by_cases h : n < 128
    · rw [putU_small h, List.mem_singleton] at hx
      subst hx
      omega
    · rw [putU_big h, List.mem_cons] at hx
      rcases hx with rfl | hx
      · omega
      · exact ih (n / 128) (by omega) x hx

/-! ### and back -/
/-- What stands at a row's beginning, as digits from the i-th on: the number, and how many bytes it has. -/
def decU : Nat → List Int → Option (Int × Nat)
  | _, [] => none
  | i, c :: t => if i = 10 ∨ (i = 9 ∧ c % 128 > 1) ∨ (0 < i ∧ c = 0) then none else if c < 128 then some (c, 1) else (decU (i + 1) t).map fun r => (c % 128 + 128 * r.1, r.2 + 1)

theorem decU_ten (l : List Int) : decU 10 l = none := by
  cases l with
  | nil => rfl
  | cons c t => simp [decU]
theorem decU_nine {c : Int} {t : List Int} (h : c > 1) (h1 : c ≤ 255) : decU 9 (c :: t) = none := by
  unfold decU
  by_cases hs : c < 128
  · rw [if_pos (.inr (.inl ⟨rfl, by omega⟩))]
  · rw [if_neg hs, decU_ten]
    simp

theorem decU_bound : ∀ (j i : Nat) (l : List Int) (n : Int) (len : Nat), i + j = 9 → (∀ x ∈ l, 0 ≤ x ∧ x ≤ 255) → decU i l = some (n, len) → 0 ≤ n ∧ n < 2 * 128 ^ j ∧ 1 ≤ len ∧ len ≤ j + 1 ∧ len ≤ l.length := by
  intro j
  induction j with
  | zero =>
    intro i l n len hi hb h
    cases l with
    | nil => simp [decU] at h
    | cons c t =>
      have hc := hb c (List.mem_cons_self ..)
      simp only [decU] at h
      split at h
      · simp at h
      · rename_i hn
        split at h
        · simp only [Option.some.injEq, Prod.mk.injEq] at h
          obtain ⟨rfl, rfl⟩ := h
          have h9 : ¬ (c % 128 > 1) := fun h => hn (.inr (.inl ⟨by omega, h⟩))
          have h10 : c < 2 := by omega
          exact ⟨hc.1, by simpa using h10, by omega, by omega, by simp⟩
        · obtain rfl : i = 9 := by omega
          rw [decU_ten] at h
          simp at h
  | succ j ih =>
    intro i l n len hi hb h
    cases l with
    | nil => simp [decU] at h
    | cons c t =>
      have hc := hb c (List.mem_cons_self ..)
      have hp : (0 : Int) < 128 ^ j := Int.pow_pos (by decide)
      simp only [decU] at h
      split at h
      · simp at h
      · rename_i hn
        split at h
        · simp only [Option.some.injEq, Prod.mk.injEq] at h
          obtain ⟨rfl, rfl⟩ := h
          refine ⟨hc.1, ?_, by omega, by omega, by simp⟩
          rw [Int.pow_succ]
          omega
        · obtain ⟨r, hr, hq⟩ := Option.map_eq_some_iff.1 h
          simp only [Prod.mk.injEq] at hq
          obtain ⟨rfl, rfl⟩ := hq
          have := ih (i + 1) t r.1 r.2 (by omega) (fun x hx => hb x (List.mem_cons_of_mem _ hx)) hr
          refine ⟨by omega, ?_, by omega, by omega, by simp; omega⟩
          rw [Int.pow_succ]
          omega
theorem decU_top {l : List Int} {n : Int} {len : Nat} (hb : ∀ x ∈ l, 0 ≤ x ∧ x ≤ 255) (h : decU 0 l = some (n, len)) : 0 ≤ n ∧ n < 18446744073709551616 ∧ 1 ≤ len ∧ len ≤ 10 ∧ len ≤ l.length := by
  have := decU_bound 9 0 l n len rfl hb h
  have e : (128 : Int) ^ 9 = 9223372036854775808 := by decide
  rw [e] at this
  omega

/-- A number's bytes are read as it, whatever stands behind. -/
theorem decU_putU : ∀ (j i n : Nat) (more : List Int), i + j = 9 → n < 2 * 128 ^ j → (0 < i → 0 < n) → decU i (putU n ++ more) = some ((n : Int), (putU n).length) := by
  intro j
  induction j with
  | zero =>
    intro i n more hi hn h0
    have hs : n < 128 := by simp at hn; omega
    rw [putU_small hs]
    simp only [List.cons_append, List.nil_append, decU, List.length_singleton]
    rw [if_neg (by simp at hn; omega), if_pos (by omega)]
  | succ j ih =>
    intro i n more hi hn h0
    by_cases hs : n < 128
    · rw [putU_small hs]
      simp only [List.cons_append, List.nil_append, decU, List.length_singleton]
      rw [if_neg (by omega), if_pos (by omega)]
    · rw [putU_big hs]
      simp only [List.cons_append, decU, List.length_cons]
      rw [if_neg (by omega), if_neg (by omega), ih (i + 1) (n / 128) more (by omega) (Nat.div_lt_of_lt_mul (by rw [Nat.pow_succ] at hn; omega)) (fun _ => by omega)]
      simp only [Option.map_some, Option.some.injEq, Prod.mk.injEq, and_true]
      omega
theorem decU_put {n : Nat} (h : n < 18446744073709551616) (more : List Int) : decU 0 (putU n ++ more) = some ((n : Int), (putU n).length) := by
  refine decU_putU 9 0 n more rfl ?_ (fun h => absurd h (by omega))
  have e : (128 : Nat) ^ 9 = 9223372036854775808 := by decide
  rw [e]; omega

/-- What is read has these bytes, and no others. -/
theorem putU_decU : ∀ (j i : Nat) (l : List Int) (n : Int) (len : Nat), i + j = 9 → (∀ x ∈ l, 0 ≤ x ∧ x ≤ 255) → decU i l = some (n, len) → putU n.toNat = l.take len ∧ (0 < i → 0 < n) := by
  intro j
  induction j with
  | zero =>
    intro i l n len hi hb h
    cases l with
    | nil => simp [decU] at h
    | cons c t =>
      have hc := hb c (List.mem_cons_self ..)
      simp only [decU] at h
      split at h
      · simp at h
      · rename_i hn
        split at h
        · simp only [Option.some.injEq, Prod.mk.injEq] at h
          obtain ⟨rfl, rfl⟩ := h
          rw [putU_small (by omega)]
          refine ⟨?_, by omega⟩
          simp only [List.take_succ_cons, List.take_zero, List.cons.injEq, and_true]
          omega
        · obtain rfl : i = 9 := by omega
          rw [decU_ten] at h
          simp at h
  | succ j ih =>
    intro i l n len hi hb h
    cases l with
    | nil => simp [decU] at h
    | cons c t =>
      have hc := hb c (List.mem_cons_self ..)
      simp only [decU] at h
      split at h
      · simp at h
      · rename_i hn
        split at h
        · simp only [Option.some.injEq, Prod.mk.injEq] at h
          obtain ⟨rfl, rfl⟩ := h
          rw [putU_small (by omega)]
          refine ⟨?_, by omega⟩
          simp only [List.take_succ_cons, List.take_zero, List.cons.injEq, and_true]
          omega
        · obtain ⟨r, hr, hq⟩ := Option.map_eq_some_iff.1 h
          simp only [Prod.mk.injEq] at hq
          obtain ⟨rfl, rfl⟩ := hq
          have hbt := fun x hx => hb x (List.mem_cons_of_mem _ hx)
          have h1 := ih (i + 1) t r.1 r.2 (by omega) hbt hr
          have h2 := decU_bound j (i + 1) t r.1 r.2 (by omega) hbt hr
          have h3 := h1.2 (by omega)
          rw [putU_big (by omega), List.take_succ_cons, ← h1.1]
          refine ⟨?_, by omega⟩
          have e1 : (c % 128 + 128 * r.1).toNat / 128 = r.1.toNat := by omega
          have e2 : (((c % 128 + 128 * r.1).toNat % 128 + 128 : Nat) : Int) = c := by omega
          rw [e1, e2]
theorem put_dec {l : List Int} {n : Int} {len : Nat} (hb : ∀ x ∈ l, 0 ≤ x ∧ x ≤ 255) (h : decU 0 l = some (n, len)) : putU n.toNat = l.take len := (putU_decU 9 0 l n len rfl hb h).1

/-! ### integers -/
/-- 0, -1, 1, -2, .. as 0, 1, 2, 3, .. -/
def zig (a : Int) : Nat := if 0 ≤ a then (2 * a).toNat else (-2 * a - 1).toNat
def zag (n : Int) : Int := if n % 2 = 0 then n / 2 else -(n / 2) - 1
theorem zig_lt {a : Int} (h0 : -9223372036854775808 ≤ a) (h1 : a ≤ 9223372036854775807) : zig a < 18446744073709551616 := by unfold zig; split <;> omega
theorem zag_zig (a : Int) : zag (zig a) = a := by
  unfold zag zig
  split
  · rw [if_pos (by omega)]; omega
  · rw [if_neg (by omega)]; omega
theorem zig_zag {n : Int} (h : 0 ≤ n) : (zig (zag n) : Int) = n := by
  unfold zag
  split
  · unfold zig; rw [if_pos (by omega)]; omega
  · unfold zig; rw [if_neg (by omega)]; omega
theorem zag_range {n : Int} (h : 0 ≤ n) (h1 : n < 18446744073709551616) : -9223372036854775808 ≤ zag n ∧ zag n ≤ 9223372036854775807 := by
  unfold zag; split <;> omega

theorem bits_xor (k : IntKind) (x y : Int) : bits .xor k x y = k.wrap ((((x % ((2 ^ k.bits : Nat) : Int)).toNat ^^^ (y % ((2 ^ k.bits : Nat) : Int)).toNat : Nat)) : Int) := by
  simp only [bits, BitVec.toNat_xor, BitVec.toNat_ofInt]
theorem nat_xor_ones (a : Nat) (h : a < 18446744073709551616) : a ^^^ 18446744073709551615 = 18446744073709551615 - a := by
  have h3 : (BitVec.ofNat 64 a ^^^ BitVec.allOnes 64) = ~~~ BitVec.ofNat 64 a := BitVec.xor_allOnes
  have h4 := congrArg BitVec.toNat h3
  rw [BitVec.toNat_xor, BitVec.toNat_not, BitVec.toNat_allOnes, BitVec.toNat_ofNat, Nat.mod_eq_of_lt (by omega)] at h4
  simpa using h4
theorem xor_zero (x : Int) (h0 : 0 ≤ x) (h1 : x < 18446744073709551616) : bits .xor .u64 x 0 = x := by
  rw [bits_xor]
  have e : ((2 ^ IntKind.u64.bits : Nat) : Int) = 18446744073709551616 := rfl
  rw [e, Int.emod_eq_of_lt h0 h1]
  simp only [Int.zero_emod, Int.toNat_zero, Nat.xor_zero]
  rw [Int.toNat_of_nonneg h0]
  exact u64_id h0 h1
theorem xor_ones (x : Int) (h0 : 0 ≤ x) (h1 : x < 18446744073709551616) : bits .xor .u64 x 18446744073709551615 = 18446744073709551615 - x := by
  rw [bits_xor]
  have e : ((2 ^ IntKind.u64.bits : Nat) : Int) = 18446744073709551616 := rfl
  have e2 : ((18446744073709551615 : Int) % 18446744073709551616).toNat = 18446744073709551615 := by decide
  rw [e, Int.emod_eq_of_lt h0 h1, e2, nat_xor_ones _ (by omega), u64_id (by omega) (by omega)]
  omega
/-- The code's way to zig. -/
theorem zig_code {a : Int} (h0 : -9223372036854775808 ≤ a) (h1 : a ≤ 9223372036854775807) :
    bits .xor .u64 (IntKind.u64.wrap (IntKind.u64.wrap a * 2)) (IntKind.u64.wrap (a / 9223372036854775808)) = (zig a : Int) := by
  by_cases h : 0 ≤ a
  · have e : a / 9223372036854775808 = 0 := by omega
    rw [e, u64_id h (by omega), u64_id (n := a * 2) (by omega) (by omega), u64_id (n := 0) (by decide) (by decide), xor_zero _ (by omega) (by omega)]
    unfold zig
    rw [if_pos h]
    omega
  · have e : a / 9223372036854775808 = -1 := by omega
    have e1 : IntKind.u64.wrap (-1) = 18446744073709551615 := by rw [u64_mod]; rfl
    have e2 : IntKind.u64.wrap a = a + 18446744073709551616 := by rw [u64_mod]; omega
    have e3 : IntKind.u64.wrap ((a + 18446744073709551616) * 2) = 2 * a + 18446744073709551616 := by rw [u64_mod]; omega
    rw [e, e1, e2, e3, xor_ones _ (by omega) (by omega)]
    unfold zig
    rw [if_neg h]
    omega
theorem and_one (n : Int) (h0 : 0 ≤ n) (h1 : n < 18446744073709551616) : bits .and .u64 n 1 = n % 2 := by
  have := bits_mask .u64 64 (by decide) wraps_u64 1 (by decide) n h0 (by omega)
  simpa using this
theorem ixor_zero (x : Int) (h0 : 0 ≤ x) (h1 : x ≤ 9223372036854775807) : bits .xor .i64 x 0 = x := by
  rw [bits_xor]
  have e : ((2 ^ IntKind.i64.bits : Nat) : Int) = 18446744073709551616 := rfl
  rw [e, Int.emod_eq_of_lt h0 (by omega)]
  simp only [Int.zero_emod, Int.toNat_zero, Nat.xor_zero]
  rw [Int.toNat_of_nonneg h0, IntKind.wrap_i64]
  omega
theorem ixor_ones (x : Int) (h0 : 0 ≤ x) (h1 : x ≤ 9223372036854775807) : bits .xor .i64 x (-1) = -x - 1 := by
  rw [bits_xor]
  have e : ((2 ^ IntKind.i64.bits : Nat) : Int) = 18446744073709551616 := rfl
  have e2 : ((-1 : Int) % 18446744073709551616).toNat = 18446744073709551615 := by decide
  rw [e, Int.emod_eq_of_lt h0 (by omega), e2, nat_xor_ones _ (by omega), IntKind.wrap_i64]
  omega
/-- The code's way to zag. -/
theorem zag_code {n : Int} (h0 : 0 ≤ n) (h1 : n < 18446744073709551616) : bits .xor .i64 (wrap64 (n / 2)) (wrap64 (-(wrap64 (bits .and .u64 n 1)))) = zag n := by
  rw [and_one n h0 h1, w64_id (n := n / 2) (by omega) (by omega), w64_id (n := n % 2) (by omega) (by omega), w64_id (n := -(n % 2)) (by omega) (by omega)]
  unfold zag
  by_cases h : n % 2 = 0
  · rw [if_pos h, h]
    exact ixor_zero _ (by omega) (by omega)
  · have e : n % 2 = 1 := by omega
    rw [if_neg h, e, ixor_ones _ (by omega) (by omega)]
end Go.Proofs.Ythbnblmnamckmaa.Q
/-
  What the code's and the reference's PutUint, Uint, PutInt, Int compute: the bytes of a number, and back. Conditions: the numbers are of their kinds, the bytes are bytes.
-/
namespace Go.Proofs.Ythbnblmnamckmaa.Q
open Go.RowKit Go.Proofs.Ythbnblmnamckmaa.PAll Go.Proofs.YthbnblmnamckmaaW.PrintWords Go.Proofs.YthbnblmnamckmaaW.PrintLast Go.Proofs.YthbnblmnamckmaaW.PrintMore
set_option linter.unusedVariables false
set_option linter.unusedSimpArgs false

theorem ev_codec_PutUint_l0 (j : Nat) : ∀ (n : Nat) (acc : List Int), n < 128 ^ (j + 1) → acc.length + j < 140737488355328 → Ev (fun k => codec_PutUint.l0 k (n : Int) acc) (acc ++ putU n) := by
  induction j with
  | zero =>
    intro n acc hn ha
    have hs : n < 128 := by simpa using hn
    refine Ev.step (fun k => rfl) ?_
    simp only [codec_PutUint.l0]
    simp only [if_neg (show ¬ ((n : Int) ≥ 128) by omega), if_pos (show acc.length < 140737488355328 by omega)]
    have e : (n : Int) % 256 = n := by omega
    rw [e, putU_small hs]
    exact Ev.now _
  | succ j ih =>
    intro n acc hn ha
    by_cases hs : n < 128
    · refine Ev.step (fun k => rfl) ?_
      simp only [codec_PutUint.l0]
      simp only [if_neg (show ¬ ((n : Int) ≥ 128) by omega), if_pos (show acc.length < 140737488355328 by omega)]
      have e : (n : Int) % 256 = n := by omega
      rw [e, putU_small hs]
      exact Ev.now _
    · refine Ev.step (fun k => rfl) ?_
      simp only [codec_PutUint.l0]
      simp only [if_pos (show ((n : Int) ≥ 128) by omega), if_pos (show acc.length < 140737488355328 by omega)]
      have e : bits .or .u8 ((n : Int) % 256) 128 = ((n % 128 + 128 : Nat) : Int) := by rw [or128 (by omega) (by omega)]; omega
      have e2 : (n : Int) / 128 = ((n / 128 : Nat) : Int) := by omega
      rw [e, e2, putU_big hs]
      have := ih (n / 128) (acc ++ [((n % 128 + 128 : Nat) : Int)]) (Nat.div_lt_of_lt_mul (by rw [Nat.mul_comm, ← Nat.pow_succ]; exact hn)) (by simp; omega)
      rw [List.append_assoc] at this
      exact this
theorem pow10 : (128 : Nat) ^ (9 + 1) = 1180591620717411303424 := by decide
theorem ev_codec_PutUint {n : Nat} (h : n < 18446744073709551616) : Ev (fun k => codec_PutUint.f k (n : Int)) (putU n) :=
  ev_codec_PutUint_l0 9 n [] (by rw [pow10]; omega) (by simp)
theorem ev_codec_PutUint' {a : Int} (h0 : 0 ≤ a) (h : a < 18446744073709551616) : Ev (fun k => codec_PutUint.f k a) (putU a.toNat) := by
  have := ev_codec_PutUint (n := a.toNat) (by omega)
  rwa [Int.toNat_of_nonneg h0] at this

theorem ev_codec_PutInt {a : Int} (h0 : -9223372036854775808 ≤ a) (h1 : a ≤ 9223372036854775807) : Ev (fun k => codec_PutInt.f k a) (putU (zig a)) := by
  unfold codec_PutInt.f
  rw [zig_code h0 h1]
  exact Ev.bind (ev_codec_PutUint (zig_lt h0 h1)) (Ev.now _)
/-! ### reading -/
def Bytes (l : List Int) : Prop := ∀ x ∈ l, 0 ≤ x ∧ x ≤ 255
theorem Bytes.drop {l : List Int} (h : Bytes l) (n : Nat) : Bytes (l.drop n) := fun x hx => h x (List.mem_of_mem_drop hx)
theorem rd_drop {l : List Int} {i : Nat} (h : i < l.length) : l.drop i = rd l (i : Int) :: l.drop (i + 1) := by
  rw [List.drop_eq_getElem_cons h]
  congr 1
  simp [rd, List.getD_eq_getElem?_getD, h]
theorem rd_byte {l : List Int} (hb : Bytes l) {i : Nat} (h : i < l.length) : 0 ≤ rd l (i : Int) ∧ rd l (i : Int) ≤ 255 := by
  have e : rd l (i : Int) = l[i] := by simp [rd, List.getD_eq_getElem?_getD, h]
  rw [e]
  exact hb _ (List.getElem_mem h)
def resU (acc : Int) (i : Nat) : Option (Int × Nat) → Int × Int × Int
  | none => (0, 0, 20)
  | some r => (acc + r.1 * 128 ^ i, ((i + r.2 : Nat) : Int), 0)
theorem resU_step (acc d : Int) (i : Nat) (r : Option (Int × Nat)) : resU (acc + d * 128 ^ i) (i + 1) r = resU acc i (r.map fun r => (d + 128 * r.1, r.2 + 1)) := by
  cases r with
  | none => rfl
  | some r =>
    simp only [resU, Option.map_some, Prod.mk.injEq, and_true]
    constructor
    · rw [Int.pow_succ, Int.add_mul]
      have : r.1 * (128 ^ i * 128) = 128 * r.1 * 128 ^ i := by rw [Int.mul_comm (128 ^ i) 128, ← Int.mul_assoc, Int.mul_comm r.1 128]
      rw [this]
      omega
    · omega
theorem acc_next {acc d : Int} {i : Nat} (h0 : 0 ≤ acc) (h1 : acc < 128 ^ i) (d0 : 0 ≤ d) (d1 : d < 128) : 0 ≤ acc + d * 128 ^ i ∧ acc + d * 128 ^ i < 128 ^ (i + 1) := by
  have hp : (0 : Int) < 128 ^ i := Int.pow_pos (by decide)
  have h2 : d * 128 ^ i ≤ 127 * 128 ^ i := Int.mul_le_mul_of_nonneg_right (by omega) (by omega)
  have h3 : 0 ≤ d * 128 ^ i := Int.mul_nonneg d0 (by omega)
  rw [Int.pow_succ]
  omega

theorem ev_codec_Uint_l0 (l : List Int) (hb : Bytes l) (d : Nat) : ∀ (i : Nat) (acc : Int), i + d = 10 → i ≤ l.length → 0 ≤ acc → acc < 128 ^ i → Ev (fun k => codec_Uint.l0 k l acc (i : Int)) (resU acc i (decU i (l.drop i))) := by
  induction d with
  | zero =>
    intro i acc hi hl h0 h1
    obtain rfl : i = 10 := by omega
    refine Ev.step (fun k => rfl) ?_
    simp only [codec_Uint.l0]
    simp only [if_neg (show ¬ (((10 : Nat) : Int) < 10) by omega)]
    rw [decU_ten]
    exact Ev.now _
  | succ d ih =>
    intro i acc hi hl h0 h1
    refine Ev.step (fun k => rfl) ?_
    simp only [codec_Uint.l0]
    simp only [if_pos (show ((i : Int) < 10) by omega)]
    by_cases he : i = l.length
    · simp only [if_pos (show ((i : Int) ≥ (l.length : Int)) by omega)]
      rw [List.drop_eq_nil_of_le (by omega)]
      exact Ev.now _
    · have hlt : i < l.length := by omega
      have hc := rd_byte hb hlt
      simp only [if_neg (show ¬ ((i : Int) ≥ (l.length : Int)) by omega), if_pos (show (0 : Int) ≤ (i : Int) by omega), if_pos (show ((i : Int) < (l.length : Int)) by omega)]
      rw [rd_drop hlt]
      generalize hcc : rd l (i : Int) = c at hc
      have e7 : wrap64 (7 * (i : Int)) = 7 * (i : Int) := w64_id (by omega) (by omega)
      have ei : wrap64 ((i : Int) + 1) = ((i + 1 : Nat) : Int) := by rw [w64_id (by omega) (by omega)]; omega
      have main : (i = 9 → c ≤ 1) → Ev (fun k => codec_Uint.j1 k l acc (i : Int) c (i : Int) false) (resU acc i (decU i (c :: l.drop (i + 1)))) := by
        intro h9
        refine Ev.step (fun k => rfl) ?_
        simp only [codec_Uint.j1]
        simp only [if_neg (show ¬ (false = true) by decide), e7, ei, if_pos (show (0 : Int) ≤ 7 * (i : Int) by omega)]
        by_cases hbig : c ≥ 128
        · simp only [if_pos hbig]
          have hi9 : i ≠ 9 := fun h => by have := h9 h; omega
          have e1 : (c - 128) % 256 = c - 128 := by omega
          rw [e1, or_digit (by omega) h0 h1 (by omega) (by omega) (fun h => absurd h hi9) rfl]
          have hn := acc_next h0 h1 (d := c - 128) (by omega) (by omega)
          have := ih (i + 1) (acc + (c - 128) * 128 ^ i) (by omega) (by omega) hn.1 hn.2
          rw [resU_step] at this
          simp only [decU]
          rw [if_neg (by omega), if_neg (by omega)]
          have e2 : c % 128 = c - 128 := by omega
          rw [e2]
          exact this
        · simp only [if_neg hbig]
          by_cases hz : c = 0
          · simp only [if_pos hz]
            by_cases hp : i = 0
            · simp only [if_neg (show ¬ ((i : Int) > 0) by omega)]
              simp only [decU]
              rw [if_neg (by omega), if_pos (by omega), u64_id (by omega) (by omega), or_digit (by omega) h0 h1 (by omega) (by omega) (by omega) rfl]
              have e3 : ((i + 1 : Nat) : Int) = ((i + 1 : Nat) : Int) := rfl
              exact Ev.now _
            · simp only [if_pos (show ((i : Int) > 0) by omega)]
              simp only [decU]
              rw [if_pos (by omega)]
              exact Ev.now _
          · simp only [if_neg hz]
            simp only [decU]
            rw [if_neg (by omega), if_pos (by omega), u64_id (by omega) (by omega), or_digit (by omega) h0 h1 (by omega) (by omega) (by omega) rfl]
            exact Ev.now _
      by_cases h9 : i = 9
      · simp only [if_pos (show ((i : Int) = 9) by omega)]
        by_cases hgt : c > 1
        · refine Ev.step (fun k => rfl) ?_
          simp only [codec_Uint.j1]
          simp only [decide_eq_true hgt, if_true]
          subst h9
          rw [decU_nine hgt hc.2]
          exact Ev.now _
        · simp only [decide_eq_false hgt]
          exact main (fun _ => by omega)
      · simp only [if_neg (show ¬ ((i : Int) = 9) by omega)]
        exact main (fun h => absurd h h9)
theorem ev_codec_Uint {l : List Int} (hb : Bytes l) : Ev (fun k => codec_Uint.f k l) (resU 0 0 (decU 0 l)) := ev_codec_Uint_l0 l hb 10 0 0 rfl (Nat.zero_le _) (by decide) (by decide)

def resI : Option (Int × Nat) → Int × Int × Int
  | none => (0, 0, 20)
  | some r => (zag r.1, (r.2 : Int), 0)
theorem resU_none : resU 0 0 none = (0, 0, 20) := rfl
theorem resU_some (n : Int) (len : Nat) : resU 0 0 (some (n, len)) = (n, (len : Int), 0) := by simp [resU]
theorem ev_codec_Int {l : List Int} (hb : Bytes l) : Ev (fun k => codec_Int.f k l) (resI (decU 0 l)) := by
  unfold codec_Int.f
  refine Ev.bind (ev_codec_Uint hb) ?_
  cases h : decU 0 l with
  | none =>
    have : bits .xor .i64 (wrap64 (0 / 2)) (wrap64 (-(wrap64 (bits .and .u64 0 1)))) = zag 0 := zag_code (n := 0) (by decide) (by decide)
    simp only [resU_none, this]
    exact Ev.now _
  | some r =>
    obtain ⟨n, len⟩ := r
    have hbd := decU_top hb h
    simp only [resU_some, zag_code hbd.1 hbd.2.1]
    exact Ev.now _
end Go.Proofs.Ythbnblmnamckmaa.Q
/-
  The laws' own first look (known) answers true. Conditions: none.
-/
namespace Go.Proofs.Ythbnblmnamckmaa.Q
open Go.RowKit Go.Proofs.Ythbnblmnamckmaa.PAll Go.Proofs.YthbnblmnamckmaaW.PrintWords Go.Proofs.YthbnblmnamckmaaW.PrintLast Go.Proofs.YthbnblmnamckmaaW.PrintMore
theorem ev_known : Ev (fun k => windlasslaw2_known.f k) true := Ev.of (fun k => windlasslaw2_known.mono k) (k := 12) (by decide +kernel)
end Go.Proofs.Ythbnblmnamckmaa.Q
-- Laid by a program of this seat (wip/xprint.py over the kit's print).
namespace Go.Proofs.Ythbnblmnamckmaa.PAll
open Go.RowKit Go.Proofs.YthbnblmnamckmaaW.PrintWords Go.Proofs.YthbnblmnamckmaaW.PrintLast Go.Proofs.YthbnblmnamckmaaW.PrintMore
attribute [local go_sem] max2_int min2_int max_two min_two max_three min_three max_four min_four   -- for this text's walks alone
set_option linter.unusedVariables false
set_option linter.unusedSimpArgs false

/-! ### codec_PutEvent: function 14 -/
mutual
def codec_PutEvent.j0 : Nat → Bool → ByteArray → List (S24) → Option (List Int × Int)
 | 0, _, _, _ => none
 | k + 1, x24, x259000, x259001 => if x24 = true then (some (([] : List Int), 20)) else ((codec_PutText.f k x259000).bind fun t259 => ((codec_PutUint.f k (IntKind.u64.wrap ((x259001.length : Int)))).bind fun t262 => (if t259.length + t262.length < 140737488355328 then (codec_PutEvent.l0 k (t259 ++ t262) x259001 (x259001.length : Int) 0) else (none))))
def codec_PutEvent.l0 : Nat → List Int → List (S24) → Int → Int → Option (List Int × Int)
 | 0, _, _, _, _ => none
 | k + 1, x4, x35, x36, x37 => if x37 < x36 then (if 0 ≤ x37 then (if x37 < (x35.length : Int) then ((codec_PutValue.f k ((rd_T24 x35 x37).f0) ((rd_T24 x35 x37).f1) ((rd_T24 x35 x37).f2) ((rd_T24 x35 x37).f3) ((rd_T24 x35 x37).f4)).bind fun bt270 => (if bt270.2 = 0 then (if x4.length + bt270.1.length < 140737488355328 then (codec_PutEvent.l0 k (x4 ++ bt270.1) x35 x36 (wrap64 (x37 + 1))) else (none)) else (some (([] : List Int), bt270.2)))) else (none)) else (none)) else (some (x4, 0))
end
def codec_PutEvent.f (k : Nat) (a0_0 : ByteArray) (l0_1 : List (S24)) : Option (List Int × Int) := if (a0_0.size : Int) < 1 then (codec_PutEvent.j0 k true a0_0 l0_1) else (if (a0_0.size : Int) > 20 then (codec_PutEvent.j0 k true a0_0 l0_1) else (codec_PutEvent.j0 k (decide ((l0_1.length : Int) > 12)) a0_0 l0_1))
theorem codec_PutEvent.mono_l : ∀ k, (∀ y0 y1 y2, LeO (codec_PutEvent.j0 k y0 y1 y2) (codec_PutEvent.j0 (k + 1) y0 y1 y2)) ∧ (∀ y0 y1 y2 y3, LeO (codec_PutEvent.l0 k y0 y1 y2 y3) (codec_PutEvent.l0 (k + 1) y0 y1 y2 y3))
 | 0 => ⟨fun _ _ _ r h => by simp [codec_PutEvent.j0] at h, fun _ _ _ _ r h => by simp [codec_PutEvent.l0] at h⟩
 | k + 1 => by
  obtain ⟨ih0, ih1⟩ := codec_PutEvent.mono_l k
  refine ⟨?_, ?_⟩
  ·intro y0 y1 y2
   unfold codec_PutEvent.j0
   repeat' first
   | (with_reducible exact ih0 _ _ _)
   | (with_reducible exact ih1 _ _ _ _)
   | (with_reducible exact codec_PutText.mono _ _)
   | (with_reducible exact codec_PutUint.mono _ _)
   | (with_reducible exact codec_PutValue.mono _ _ _ _ _ _)
   | (with_reducible exact LeO.refl _)
   | (with_reducible exact LeO.none _)
   | (with_reducible refine LeO.ite ?_ ?_)
   | (with_reducible refine LeO.bind ?_ (fun _ => ?_))
   | exact ih0 _ _ _
   | exact ih1 _ _ _ _
   | exact codec_PutText.mono _ _
   | exact codec_PutUint.mono _ _
   | exact codec_PutValue.mono _ _ _ _ _ _
   | exact LeO.none _
   | refine LeO.ite ?_ ?_
   | refine LeO.bind ?_ (fun _ => ?_)
  ·intro y0 y1 y2 y3
   unfold codec_PutEvent.l0
   repeat' first
   | (with_reducible exact ih0 _ _ _)
   | (with_reducible exact ih1 _ _ _ _)
   | (with_reducible exact codec_PutText.mono _ _)
   | (with_reducible exact codec_PutUint.mono _ _)
   | (with_reducible exact codec_PutValue.mono _ _ _ _ _ _)
   | (with_reducible exact LeO.refl _)
   | (with_reducible exact LeO.none _)
   | (with_reducible refine LeO.ite ?_ ?_)
   | (with_reducible refine LeO.bind ?_ (fun _ => ?_))
   | exact ih0 _ _ _
   | exact ih1 _ _ _ _
   | exact codec_PutText.mono _ _
   | exact codec_PutUint.mono _ _
   | exact codec_PutValue.mono _ _ _ _ _ _
   | exact LeO.none _
   | refine LeO.ite ?_ ?_
   | refine LeO.bind ?_ (fun _ => ?_)
theorem codec_PutEvent.mono : ∀ a0 a1 k, LeO (codec_PutEvent.f k a0 a1) (codec_PutEvent.f (k + 1) a0 a1) := by
 intro a0 a1 k
 obtain ⟨ih0, ih1⟩ := codec_PutEvent.mono_l k
 unfold codec_PutEvent.f
 repeat' first
   | (with_reducible exact ih0 _ _ _)
   | (with_reducible exact ih1 _ _ _ _)
   | (with_reducible exact codec_PutText.mono _ _)
   | (with_reducible exact codec_PutUint.mono _ _)
   | (with_reducible exact codec_PutValue.mono _ _ _ _ _ _)
   | (with_reducible exact LeO.refl _)
   | (with_reducible exact LeO.none _)
   | (with_reducible refine LeO.ite ?_ ?_)
   | (with_reducible refine LeO.bind ?_ (fun _ => ?_))
   | exact ih0 _ _ _
   | exact ih1 _ _ _ _
   | exact codec_PutText.mono _ _
   | exact codec_PutUint.mono _ _
   | exact codec_PutValue.mono _ _ _ _ _ _
   | exact LeO.none _
   | refine LeO.ite ?_ ?_
   | refine LeO.bind ?_ (fun _ => ?_)
def codec_PutEvent.T3 : Bool × List (List Nat × List Nat) := (true, [([], []), ([0], [0]), ([1], [1]), ([], []), ([3], [3]), ([4], [4]), ([5], [5]), ([6, 2], [6]), ([2, 7, 7], [2, 7]), ([8, 8, 0, 1, 2, 3, 4, 5, 6, 7, 8], [8])])
def codec_PutEvent.B3 : List Nat := [0, 1, 3, 0, 8, 24, 56, 127, 255, 511]
theorem codec_PutEvent.tab3 : rtab .any (opsOf Try.f14 3) = codec_PutEvent.T3 := by kernel_rfl
theorem codec_PutEvent.bits3 : waitsOk codec_PutEvent.T3.2 codec_PutEvent.B3 = true := by kernel_rfl
set_option maxHeartbeats 8000000 in
set_option maxRecDepth 100000 in
theorem codec_PutEvent.calls (k : Nat) (a0_0 : ByteArray) (A0_1 : Option Addr) (c0_1 : Nat) (l0_1 : List (S24)) (r1 : List Int) (r2 : Int) (w : World) (hr0_1 : Kd.C k24 w A0_1 l0_1.length l0_1) (hc0_1 : l0_1.length ≤ c0_1) (h : codec_PutEvent.f k a0_0 l0_1 = some (r1, r2)) :
  Calls Try.prog 14 #[.agg #[.string a0_0, .slice A0_1 l0_1.length c0_1]] w fun e w' => ∃ v0_ : Value, e = .returned (.tuple #[v0_, .int .i64 r2]) ∧ Kd.R (Kd.int .u8) 5 w' w.heap.size (fun _ => True) v0_ r1 ∧ Below w.heap.size w w' := by
 have hu26 := Try.underlying26
 have hu24 := Try.underlying24
 have HR0_1 := Aside0.mk hr0_1
 have HC0_1 := Aside0.mk hc0_1
 clear hr0_1 hc0_1
 have HB := Aside0.mk (Below.refl w.heap.size w)
 have H : (if (a0_0.size : Int) < 1 then (codec_PutEvent.j0 k true a0_0 l0_1) else (if (a0_0.size : Int) > 20 then (codec_PutEvent.j0 k true a0_0 l0_1) else (codec_PutEvent.j0 k (decide ((l0_1.length : Int) > 12)) a0_0 l0_1))) = some (r1, r2) := h
 clear h
 have HC2 := Aside0.mk H
 clear H
 go_enter Try.func14, Try.ntmps14
 go_upto_region 1 with (first | ((with_reducible refine gate_dst (N := 1) rfl ?_); (try (refine gate_guard (by rfl) ?_; dsimp only)); refine box_event ?hg (N := 1) ?hd (cs := #[.string a0_0, .slice A0_1 l0_1.length c0_1]) (t := 26) ?hr ?_; (case hd => rfl); (case hg => rfl); (case hr => first | (go_simp; done) | (go_simp; rfl)); intro gb258 hg w3 hbox hb; have n0_ := Aside0.mk (below_step (by repeat (first | (with_reducible first | exact HB.out | apply below_alloc | apply pw_below_drewN | apply below_drew1) | exact HB.out)) hb); have n1_ := Aside0.mk (hbox); have n2_ := Aside0.mk ((by rw [hg]; exact (below_size (by repeat (first | (with_reducible first | exact HB.out | apply below_alloc | apply pw_below_drewN | apply below_drew1) | exact HB.out))) : w.heap.size ≤ gb258)); have n3_ := Aside0.mk ((by rw [hg]; exact (below_size (by repeat (first | (with_reducible first | exact HB.out | apply below_alloc | apply pw_below_drewN | apply below_drew1) | exact HB.out))) : w.heap.size ≤ gb258)); clear HB; have HB := n0_; have BK258 := n1_; have GW258 := n2_; have GE258 := n3_; clear n0_ n1_ n2_ n3_; clear hb hbox hg))
 (try simp only [Act.put, List.setIfInBounds_toArray, List.set_cons_zero, List.set_cons_succ])
 go_cut [24] (fun v24 wc => ∃ (kq : Nat) (x24_1 : Bool), v24 = .bool x24_1 ∧ Aside0 (codec_PutEvent.j0 kq x24_1 a0_0 l0_1 = some (r1, r2)) ∧ Aside0 (kq ≤ k) ∧ Aside0 (wc.heap[gb258]? = some (.cells #[.string a0_0, (.slice A0_1 l0_1.length c0_1)] 26 (0, 0))) ∧ Aside0 (Below w.heap.size w wc))
 case first =>
  have H := HC2.out
  clear HC2
  by_cases c4 : (a0_0.size : Int) < 1
  ·rw [if_pos c4] at H
   have c4b0 : decide ((a0_0.size : Int) < 1) = true := decide_eq_true c4
   have c4b1 : decide (a0_0.size < 1) = true := decide_eq_true (by omega)
   clear c4
   (first | rw [c4b0] | (simp only [i64_w, i32_w]; rw [c4b0]) | skip)
   have H' := Aside0.mk H
   clear H
   have hcz5_0 : w3.cell? ⟨gb258, 0, none⟩ = some (.string a0_0) := (blk_cell BK258.out 0).trans rfl
   have hcz5_1 : w3.cell? ⟨gb258, 1, none⟩ = some (.slice A0_1 l0_1.length c0_1) := (blk_cell BK258.out 1).trans rfl
   have hfz5_0 := blk_frozen BK258.out 0
   have hfz5_1 := blk_frozen BK258.out 1
   go_wp2
   go_meet
   case rel => exact ⟨_, (true), (by first | rfl | (simp; done) | (simp [*]; done)), H', ⟨by first | omega | exact Nat.le_refl _⟩, ⟨by (with_reducible repeat (first | refine blk_drewN ?_ _ | refine blk_drew ?_ | refine blk_alloc ?_ _)); exact BK258.out⟩, ⟨by repeat (first | (with_reducible first | exact HB.out | apply below_alloc | apply pw_below_drewN | apply below_drew1 | refine below_set ?_ GE258.out) | exact HB.out)⟩⟩
  ·rw [if_neg c4] at H
   have c4b0 : decide ((a0_0.size : Int) < 1) = false := decide_eq_false c4
   have c4b1 : decide (a0_0.size < 1) = false := decide_eq_false (by omega)
   clear c4
   (first | rw [c4b0] | (simp only [i64_w, i32_w]; rw [c4b0]) | skip)
   by_cases c6 : (a0_0.size : Int) > 20
   ·rw [if_pos c6] at H
    have c6b0 : decide (20 < (a0_0.size : Int)) = true := decide_eq_true c6
    have c6b1 : decide (20 < a0_0.size) = true := decide_eq_true (by omega)
    clear c6
    have H' := Aside0.mk H
    clear H
    have hcz7_0 : w3.cell? ⟨gb258, 0, none⟩ = some (.string a0_0) := (blk_cell BK258.out 0).trans rfl
    have hcz7_1 : w3.cell? ⟨gb258, 1, none⟩ = some (.slice A0_1 l0_1.length c0_1) := (blk_cell BK258.out 1).trans rfl
    have hfz7_0 := blk_frozen BK258.out 0
    have hfz7_1 := blk_frozen BK258.out 1
    go_wp2
    go_meet
    case rel => exact ⟨_, (true), (by first | rfl | (simp; done) | (simp [*]; done)), H', ⟨by first | omega | exact Nat.le_refl _⟩, ⟨by (with_reducible repeat (first | refine blk_drewN ?_ _ | refine blk_drew ?_ | refine blk_alloc ?_ _)); exact BK258.out⟩, ⟨by repeat (first | (with_reducible first | exact HB.out | apply below_alloc | apply pw_below_drewN | apply below_drew1 | refine below_set ?_ GE258.out) | exact HB.out)⟩⟩
   ·rw [if_neg c6] at H
    have c6b0 : decide (20 < (a0_0.size : Int)) = false := decide_eq_false c6
    have c6b1 : decide (20 < a0_0.size) = false := decide_eq_false (by omega)
    clear c6
    have H' := Aside0.mk H
    clear H
    have hcz8_0 : w3.cell? ⟨gb258, 0, none⟩ = some (.string a0_0) := (blk_cell BK258.out 0).trans rfl
    have hcz8_1 : w3.cell? ⟨gb258, 1, none⟩ = some (.slice A0_1 l0_1.length c0_1) := (blk_cell BK258.out 1).trans rfl
    have hfz8_0 := blk_frozen BK258.out 0
    have hfz8_1 := blk_frozen BK258.out 1
    go_wp2
    go_meet
    case rel => exact ⟨_, (decide ((l0_1.length : Int) > 12)), (by first | rfl | (simp; done) | (simp [*]; done)), H', ⟨by first | omega | exact Nat.le_refl _⟩, ⟨by (with_reducible repeat (first | refine blk_drewN ?_ _ | refine blk_drew ?_ | refine blk_alloc ?_ _)); exact BK258.out⟩, ⟨by repeat (first | (with_reducible first | exact HB.out | apply below_alloc | apply pw_below_drewN | apply below_drew1 | refine below_set ?_ GE258.out) | exact HB.out)⟩⟩
 case rest =>
  clear HC2
  try clear c1
  try clear p2
  try clear c4
  try clear c4b0
  try clear c4b1
  try clear c6
  try clear c6b0
  try clear c6b1
  try clear hcz5_0
  try clear hcz5_1
  try clear hcz7_0
  try clear hcz7_1
  try clear hcz8_0
  try clear hcz8_1
  try clear hfz5_0
  try clear hfz5_1
  try clear hfz7_0
  try clear hfz7_1
  try clear hfz8_0
  try clear hfz8_1
  obtain ⟨kq, x24_1, rfl, HA, HJ1, BK258, HB⟩ := hcut
  cases kq with
  | zero => exact absurd HA.out (by simp [codec_PutEvent.j0])
  | succ kj1 =>
   have H := HA.out
   clear HA
   simp only [codec_PutEvent.j0] at H
   by_cases c9 : x24_1 = true
   ·subst c9
    have H1 : (some (([] : List Int), 20)) = some (r1, r2) := by rw [if_pos rfl] at H; exact H
    clear H
    have H := H1
    clear H1
    simp only [Option.some.injEq, Prod.mk.injEq] at H
    obtain ⟨rfl, rfl⟩ := H
    go_wp2
    go_ret2
    exact ⟨_, by first | rfl | (simp [errW_none, errW_some] <;> rfl) | (simp [*, errW_none, errW_some] <;> rfl), by first | exact Kd.R_nil _ _ _ _ _ | exact Kd.N_nil _ _ _ _ _ | exact Kd.V_nil _ _ _ _ _ | exact Kd.Q_nil _ _ _ _ _ | exact Kd.S_nil _ _ _ _ _, by repeat (first | (with_reducible first | exact HB.out | apply below_alloc | apply pw_below_drewN | apply below_drew1 | refine below_set ?_ GE258.out) | exact HB.out)⟩
   ·replace c9 := Bool.eq_false_iff.mpr c9
    subst c9
    have H1 : ((codec_PutText.f kj1 a0_0).bind fun t259 => ((codec_PutUint.f kj1 (IntKind.u64.wrap ((l0_1.length : Int)))).bind fun t262 => (if t259.length + t262.length < 140737488355328 then (codec_PutEvent.l0 kj1 (t259 ++ t262) l0_1 (l0_1.length : Int) 0) else (none)))) = some (r1, r2) := by rw [if_neg (show ¬ (false = true) by decide)] at H; exact H
    clear H
    have H := H1
    clear H1
    replace H := Option.bind_eq_some_iff.mp H
    obtain ⟨t259, A100, H⟩ := H
    replace H : ((codec_PutUint.f kj1 (IntKind.u64.wrap ((l0_1.length : Int)))).bind fun t262 => (if t259.length + t262.length < 140737488355328 then (codec_PutEvent.l0 kj1 (t259 ++ t262) l0_1 (l0_1.length : Int) 0) else (none))) = some (r1, r2) := H
    have A10 := Aside0.mk A100
    clear A100
    replace H := Option.bind_eq_some_iff.mp H
    obtain ⟨t262, A110, H⟩ := H
    replace H : (if t259.length + t262.length < 140737488355328 then (codec_PutEvent.l0 kj1 (t259 ++ t262) l0_1 (l0_1.length : Int) 0) else (none)) = some (r1, r2) := H
    have A11 := Aside0.mk A110
    clear A110
    by_cases c12 : t259.length + t262.length < 140737488355328
    ·rw [if_pos c12] at H
     have LMc12 := Aside0.mk c12
     clear c12
     obtain ⟨y265, hy265⟩ : ∃ y_ : List Int, y_ = (t259 ++ t262) := ⟨_, rfl⟩
     replace H : (codec_PutEvent.l0 kj1 y265 l0_1 (l0_1.length : Int) 0) = some (r1, r2) := by first | (rw [hy265]; with_reducible exact H) | (have H2_ := (Option.bind_some _ _).symm.trans H; rw [hy265]; with_reducible exact H2_) | (have H2_ := (Option.bind_some _ _).symm.trans H; with_reducible exact H2_) | with_reducible exact H | (rw [hy265]; exact H) | exact H
     have Ny265 := Aside0.mk hy265
     clear hy265
     have H' := Aside0.mk H
     clear H
     try go_wp2
     have n0_ := Aside0.mk (blk_drew BK258.out)
     have n1_ := Aside0.mk (below_drew1 HB.out)
     clear BK258
     clear HB
     have BK258 := n0_
     have HB := n1_
     clear n0_ n1_
     refine start_ (n := 10) (S := fun w' => w'.cell? ⟨gb258, 0, none⟩ = some (.string a0_0) ∧ w'.cell? ⟨gb258, 1, none⟩ = some (.slice A0_1 l0_1.length c0_1)) (ds := []) #[false, false, false, false, false, false, false, false, false, false] (by kernel_rfl) rfl rfl ⟨(blk_cell BK258.out 0).trans rfl, (blk_cell BK258.out 1).trans rfl⟩ (fun hHeld => ?_); refine with_tabW codec_PutEvent.tab3 codec_PutEvent.bits3 (fun HT_ HW_ => ?_)
     generalize wc.drew = w13 at BK258 HB hHeld ⊢
     refine pure_ (i := 0) (N := some 25) (v := ?_) (a' := ?_) #[true, false, false, false, false, false, false, false, false, false] rfl rfl (any_of HT_.out (by kernel_rfl)) (fun _ _ _ h => h) (Or.inl ⟨by rfl, ?_⟩) ?_ ?_
     rotate_left
     ·intro w'
      go_simp
      with_reducible rfl
     rotate_left
     ·simp only [Act.put, List.setIfInBounds_toArray, List.set_cons_zero, List.set_cons_succ, i64_w, i32_w]
      rfl
     refine pure_ (i := 3) (N := some 28) (v := ?_) (a' := ?_) #[true, false, false, true, false, false, false, false, false, false] rfl rfl (any_of HT_.out (by kernel_rfl)) (fun _ _ _ h => h) (Or.inl ⟨by rfl, ?_⟩) ?_ ?_
     rotate_left
     ·intro w'
      go_simp
      with_reducible rfl
     rotate_left
     ·simp only [Act.put, List.setIfInBounds_toArray, List.set_cons_zero, List.set_cons_succ, i64_w, i32_w]
      rfl
     refine take_ (i := 1) (N := some 26) (v := ?_) (a' := ?_) #[true, true, false, true, false, false, false, false, false, false] rfl rfl (take_ofW HT_.out HW_.out (by kernel_rfl)) (fun _ _ _ h => h) (Or.inl ⟨by rfl, ?_⟩) hHeld ?_ ?_
     rotate_left
     ·rintro w' ⟨s0, s1⟩
      go_simp
      with_reducible rfl
     rotate_left
     ·simp only [Act.put, List.setIfInBounds_toArray, List.set_cons_zero, List.set_cons_succ, i64_w, i32_w]
      rfl
     refine take_ (i := 4) (N := some 29) (v := ?_) (a' := ?_) #[true, true, false, true, true, false, false, false, false, false] rfl rfl (take_ofW HT_.out HW_.out (by kernel_rfl)) (fun _ _ _ h => h) (Or.inl ⟨by rfl, ?_⟩) hHeld ?_ ?_
     rotate_left
     ·rintro w' ⟨s0, s1⟩
      go_simp
      with_reducible rfl
     rotate_left
     ·simp only [Act.put, List.setIfInBounds_toArray, List.set_cons_zero, List.set_cons_succ, i64_w, i32_w]
      rfl
     refine pure_ (i := 5) (N := some 30) (v := ?_) (a' := ?_) #[true, true, false, true, true, true, false, false, false, false] rfl rfl (any_of HT_.out (by kernel_rfl)) (fun _ _ _ h => h) (Or.inl ⟨by rfl, ?_⟩) ?_ ?_
     rotate_left
     ·intro w'
      go_simp
      with_reducible rfl
     rotate_left
     ·simp only [Act.put, List.setIfInBounds_toArray, List.set_cons_zero, List.set_cons_succ, i64_w, i32_w]
      rfl
     refine pure_ (i := 6) (N := some 31) (v := ?_) (a' := ?_) #[true, true, false, true, true, true, true, false, false, false] rfl rfl (any_of HT_.out (by kernel_rfl)) (fun _ _ _ h => h) (Or.inl ⟨by rfl, ?_⟩) ?_ ?_
     rotate_left
     ·intro w'
      go_simp
      with_reducible rfl
     rotate_left
     ·simp only [Act.put, List.setIfInBounds_toArray, List.set_cons_zero, List.set_cons_succ, i64_w, i32_w]
      rfl
     refine one_ (i := 2) (N := some 27) #[true, true, true, true, true, true, true, false, false, false] rfl rfl (one_of HT_.out (by kernel_rfl)) (by decide) (fun K hK => ?_)
     refine goes_ Try.func20 (by kernel_rfl) rfl #[.string a0_0] (by rfl) rfl rfl (by (try simp only [List.map_toArray, List.map_cons, List.map_nil]); first | done | rfl | (simp only [List.length_drop, List.length_take]; rfl) | (go_simp; done) | (go_simp; simp; done)) ?_
     with_reducible refine (codec_PutText.calls kj1 a0_0 t259 _ A10.out).mono ?_
     rintro e w14 ⟨v260, rfl, ho0, hb⟩
     refine ⟨_, rfl, ?_⟩
     have n0_ := Aside0.mk (Kd.R_lower ho0 (below_size (by repeat (first | (with_reducible first | exact HB.out | apply below_alloc | apply pw_below_drewN | apply below_drew1 | refine below_set ?_ GE258.out) | exact HB.out))))
     have n1_ := Aside0.mk (blk_below (g := gb258) (o := .cells #[.string a0_0, .slice A0_1 l0_1.length c0_1] 26 (0, 0)) (by (with_reducible repeat (first | refine blk_drewN ?_ _ | refine blk_drew ?_ | refine blk_alloc ?_ _)); exact BK258.out) hb)
     have n2_ := Aside0.mk (below_step (by repeat (first | (with_reducible first | exact HB.out | apply below_alloc | apply pw_below_drewN | apply below_drew1 | refine below_set ?_ GE258.out) | exact HB.out)) hb)
     clear BK258
     clear HB
     have HO261 := n0_
     have BK258 := n1_
     have HB := n2_
     clear n0_ n1_ n2_
     (try clear hb)
     (try clear hb2)
     (try clear hk)
     (try clear hi)
     (try clear ho0)
     refine hK.out _ _ ⟨(blk_cell BK258.out 0).trans rfl, (blk_cell BK258.out 1).trans rfl⟩ (fun hHeld => ?_)
     clear hK K
     refine norm_ (a' := ?_) ?_ ?_
     rotate_left
     ·show Act.put _ (some 27) _ = _
      simp only [Act.put, List.setIfInBounds_toArray, List.set_cons_zero, List.set_cons_succ, i64_w, i32_w]
      rfl
     refine one_ (i := 7) (N := some 32) #[true, true, true, true, true, true, true, true, false, false] rfl rfl (one_of HT_.out (by kernel_rfl)) (by decide) (fun K hK => ?_)
     refine goes_ Try.func17 (by kernel_rfl) rfl #[.int .u64 (IntKind.u64.wrap ((l0_1.length : Int)))] (by rfl) rfl rfl (by (try simp only [List.map_toArray, List.map_cons, List.map_nil]); first | done | rfl | (simp only [List.length_drop, List.length_take]; rfl) | (go_simp; done) | (go_simp; simp; done)) ?_
     with_reducible refine (codec_PutUint.calls kj1 (IntKind.u64.wrap ((l0_1.length : Int))) t262 _ A11.out).mono ?_
     rintro e w15 ⟨v263, rfl, ho0, hb⟩
     refine ⟨_, rfl, ?_⟩
     have n0_ := Aside0.mk (Kd.R_elder' (by (with_reducible repeat (first | apply Kd.R_alloc | apply Kd.R_drewN | apply Kd.R_drew)); exact HO261.out) (Kd.R_base ho0) hb)
     have n1_ := Aside0.mk (Kd.R_lower (Kd.R_new' ho0 (Kd.R_lt (by (with_reducible repeat (first | apply Kd.R_alloc | apply Kd.R_drewN | apply Kd.R_drew)); exact HO261.out))) (below_size (by repeat (first | (with_reducible first | exact HB.out | apply below_alloc | apply pw_below_drewN | apply below_drew1 | refine below_set ?_ GE258.out) | exact HB.out))))
     have n2_ := Aside0.mk (blk_below (g := gb258) (o := .cells #[.string a0_0, .slice A0_1 l0_1.length c0_1] 26 (0, 0)) (by (with_reducible repeat (first | refine blk_drewN ?_ _ | refine blk_drew ?_ | refine blk_alloc ?_ _)); exact BK258.out) hb)
     have n3_ := Aside0.mk (below_step (by repeat (first | (with_reducible first | exact HB.out | apply below_alloc | apply pw_below_drewN | apply below_drew1 | refine below_set ?_ GE258.out) | exact HB.out)) hb)
     clear HO261
     clear BK258
     clear HB
     have HO261 := n0_
     have HO264 := n1_
     have BK258 := n2_
     have HB := n3_
     clear n0_ n1_ n2_ n3_
     (try clear hb)
     (try clear hb2)
     (try clear hk)
     (try clear hi)
     (try clear ho0)
     obtain ⟨Ao17, co17, eo17⟩ := Kd.R_slice HO264.out
     (first | subst eo17 | (injection eo17 with f1_ f2_ f3_; have f4_ := f1_.symm; have f5_ := f3_.symm; clear f1_ f2_ f3_; subst f4_; subst f5_))
     refine hK.out _ _ ⟨(blk_cell BK258.out 0).trans rfl, (blk_cell BK258.out 1).trans rfl⟩ (fun hHeld => ?_)
     clear hK K
     refine norm_ (a' := ?_) ?_ ?_
     rotate_left
     ·show Act.put _ (some 32) _ = _
      simp only [Act.put, List.setIfInBounds_toArray, List.set_cons_zero, List.set_cons_succ, i64_w, i32_w]
      rfl
     refine one_ (i := 8) (N := some 33) #[true, true, true, true, true, true, true, true, true, false] rfl rfl (one_of HT_.out (by kernel_rfl)) (by decide) (fun K hK => ?_)
     refine Kd.R_append_rows_step (Kd.int .u8) (w0 := w) w.heap.size (by rfl) (.tmp 27) (.tmp 32) 30 5 (.int .u8 0) 1 rfl Try.underlying30 info5 rfl (by decide) (by omega) v260 t259 t262 _ _ _ (fun k_ => some k_ ≠ (.slice Ao17 t262.length co17 : Value).ownBlock) (fun _ => False) rfl rfl ?aO ?aR (fun _ _ h => h) (fun _ h => h.elim) ?aF ?aB ?aS ?aL ?_
     (case aR => repeat (first | exact (Kd.R_reads' HO264.out).2.2 | (with_reducible refine Kd.C_alloc ?_ _) | (with_reducible refine Kd.C_drewN ?_ _) | (with_reducible refine Kd.C_drew ?_)))
     (case aB => exact (by repeat (first | (with_reducible first | exact HB.out | apply below_alloc | apply pw_below_drewN | apply below_drew1 | refine below_set ?_ GE258.out) | exact HB.out)))
     (case aF => exact (fun k_ hk => Kd.fresh' (Kd.R_lt (by (with_reducible repeat (first | apply Kd.R_alloc | apply Kd.R_drewN | apply Kd.R_drew)); exact HO264.out)) k_ hk))
     (case aO => exact (by (with_reducible repeat (first | apply Kd.R_alloc | apply Kd.R_drewN | apply Kd.R_drew)); exact Kd.R_mono HO261.out (fun _ hk => hk.2)))
     (case aS => exact (below_size (by repeat (first | (with_reducible first | exact HB.out | apply below_alloc | apply pw_below_drewN | apply below_drew1 | refine below_set ?_ GE258.out) | exact HB.out))))
     (case aL => have := LMc12.out; omega)
     intro v266 w16 ho hb hg hat
     rw [← Ny265.out] at ho
     have n0_ := Aside0.mk (blk_grown (g := gb258) (o := .cells #[.string a0_0, .slice A0_1 l0_1.length c0_1] 26 (0, 0)) (by (with_reducible repeat (first | refine blk_drewN ?_ _ | refine blk_drew ?_ | refine blk_alloc ?_ _)); exact BK258.out) hg (Kd.R_ne HO261.out BK258.out (by decide)))
     have n1_ := Aside0.mk (Kd.R_after (ok := (fun _ => True)) (by (with_reducible repeat (first | apply Kd.R_alloc | apply Kd.R_drewN | apply Kd.R_drew)); exact HO264.out) hg hat)
     have n2_ := Aside0.mk (hb)
     have n3_ := Aside0.mk (ho)
     clear BK258
     clear HO264
     clear HB
     clear HO261
     have BK258 := n0_
     have HO264 := n1_
     have HB := n2_
     have HO267 := n3_
     clear n0_ n1_ n2_ n3_
     clear ho hb hg hat
     refine hK.out _ _ ⟨(blk_cell BK258.out 0).trans rfl, (blk_cell BK258.out 1).trans rfl⟩ (fun hHeld => ?_)
     clear hK K
     refine norm_ (a' := ?_) ?_ ?_
     rotate_left
     ·show Act.put _ (some 33) _ = _
      simp only [Act.put, List.setIfInBounds_toArray, List.set_cons_zero, List.set_cons_succ, i64_w, i32_w]
      rfl
     refine pure_ (i := 9) (N := some 4) (v := ?_) (a' := ?_) #[true, true, true, true, true, true, true, true, true, true] rfl rfl (any_of HT_.out (by kernel_rfl)) (fun _ _ _ h => h) (Or.inl ⟨by rfl, ?_⟩) ?_ ?_
     rotate_left
     ·intro w'
      go_simp
      with_reducible rfl
     rotate_left
     ·simp only [Act.put, List.setIfInBounds_toArray, List.set_cons_zero, List.set_cons_succ, i64_w, i32_w]
      rfl
     refine done_ (done_of HT_.out (by kernel_rfl)) ?_
     have hcz18_0 : w16.cell? ⟨gb258, 0, none⟩ = some (.string a0_0) := (blk_cell BK258.out 0).trans rfl
     have hcz18_1 : w16.cell? ⟨gb258, 1, none⟩ = some (.slice A0_1 l0_1.length c0_1) := (blk_cell BK258.out 1).trans rfl
     have hfz18_0 := blk_frozen BK258.out 0
     have hfz18_1 := blk_frozen BK258.out 1
     try go_wp2
     go_loopg [4, 37] kj1 (fun kq v4 v37 w' => ∃ (x4_2 : List Int) (x37_2 : Int), v37 = .int .i64 x37_2 ∧ Aside0 (codec_PutEvent.l0 kq x4_2 l0_1 (l0_1.length : Int) x37_2 = some (r1, r2)) ∧ Aside0 (kq ≤ kj1) ∧ Aside0 (Kd.R (Kd.int .u8) 5 w' w.heap.size (fun _ => True) v4 x4_2) ∧ Aside0 (w'.heap[gb258]? = some (.cells #[.string a0_0, (.slice A0_1 l0_1.length c0_1)] 26 (0, 0))) ∧ Aside0 (Below w.heap.size w w'))
     case atStart => exact ⟨(y265), (0), (by first | rfl | (simp; done) | (simp [*]; done)), H', ⟨Nat.le_refl _⟩, ⟨by (with_reducible repeat (first | apply Kd.R_alloc | apply Kd.R_drewN | apply Kd.R_drew)); exact Kd.R_mono HO267.out (fun _ hk => trivial)⟩, ⟨by (with_reducible repeat (first | refine blk_drewN ?_ _ | refine blk_drew ?_ | refine blk_alloc ?_ _)); exact BK258.out⟩, ⟨by repeat (first | (with_reducible first | exact HB.out | apply below_alloc | apply pw_below_drewN | apply below_drew1 | refine below_set ?_ GE258.out) | exact HB.out)⟩⟩
     case round =>
      clear H'
      try clear c1
      try clear c2
      try clear p2
      try clear c4
      try clear c4b0
      try clear c4b1
      try clear c6
      try clear c6b0
      try clear c6b1
      try clear c9
      try clear c12
      try clear c14
      try clear c17
      try clear hcz18_0
      try clear hcz18_1
      try clear hcz5_0
      try clear hcz5_1
      try clear hcz7_0
      try clear hcz7_1
      try clear hcz8_0
      try clear hcz8_1
      try clear hfz18_0
      try clear hfz18_1
      try clear hfz5_0
      try clear hfz5_1
      try clear hfz7_0
      try clear hfz7_1
      try clear hfz8_0
      try clear hfz8_1
      try clear p2
      obtain ⟨x4_2, x37_2, rfl, HA, HK2, HO_4, BK258, HB⟩ := hrel
      cases gk with
      | zero => exact absurd HA.out (by simp [codec_PutEvent.l0])
      | succ k2 =>
       have H := HA.out
       clear HA
       simp only [codec_PutEvent.l0] at H
       by_cases c19 : x37_2 < (l0_1.length : Int)
       ·rw [if_pos c19] at H
        have c19b0 : decide (x37_2 < (l0_1.length : Int)) = true := decide_eq_true c19
        clear c19
        by_cases c20 : 0 ≤ x37_2
        ·rw [if_pos c20] at H
         have c20b0 : decide (0 ≤ x37_2) = true := decide_eq_true c20
         clear c20
         by_cases c21 : x37_2 < (l0_1.length : Int)
         ·rw [if_pos c21] at H
          have c21b0 : decide (x37_2 < (l0_1.length : Int)) = true := decide_eq_true c21
          clear c21
          replace H := Option.bind_eq_some_iff.mp H
          obtain ⟨⟨t270, t273⟩, A220, H⟩ := H
          replace H : (if t273 = 0 then (if x4_2.length + t270.length < 140737488355328 then (codec_PutEvent.l0 k2 (x4_2 ++ t270) l0_1 (l0_1.length : Int) (wrap64 (x37_2 + 1))) else (none)) else (some (([] : List Int), t273))) = some (r1, r2) := H
          have A22 := Aside0.mk A220
          clear A220
          by_cases c23 : t273 = 0
          ·rw [if_pos c23] at H
           have c23b0 : (t273 == 0) = true := beq_iff_eq.mpr c23
           have c23b1 : (t273 != 0) = false := bne_eq_false_iff_eq.mpr c23
           clear c23
           by_cases c24 : x4_2.length + t270.length < 140737488355328
           ·rw [if_pos c24] at H
            have LMc24 := Aside0.mk c24
            clear c24
            obtain ⟨y274, hy274⟩ : ∃ y_ : List Int, y_ = (x4_2 ++ t270) := ⟨_, rfl⟩
            replace H : (codec_PutEvent.l0 k2 y274 l0_1 (l0_1.length : Int) (wrap64 (x37_2 + 1))) = some (r1, r2) := by first | (rw [hy274]; with_reducible exact H) | (have H2_ := (Option.bind_some _ _).symm.trans H; rw [hy274]; with_reducible exact H2_) | (have H2_ := (Option.bind_some _ _).symm.trans H; with_reducible exact H2_) | with_reducible exact H | (rw [hy274]; exact H) | exact H
            have Ny274 := Aside0.mk hy274
            clear hy274
            have H' := Aside0.mk H
            clear H
            have p268 : 0 ≤ (x37_2 : Int) := of_decide_eq_true (by first | (with_reducible assumption) | assumption)
            have q268 : x37_2 < (l0_1.length : Int) := of_decide_eq_true (by first | (with_reducible assumption) | assumption)
            obtain ⟨ad268, A268_4, c268_4, e268, hx268_0, hx268_1, hx268_2, hx268_3, hx268_4, hl268_4, hi268_4⟩ := at_T24 HR0_1.out x37_2 p268 q268
            cases e268
            replace hx268_0 := (HB.out.cell (World.block_lt_of_cell? w _ hx268_0)).trans hx268_0
            replace hx268_1 := (HB.out.cell (World.block_lt_of_cell? w _ hx268_1)).trans hx268_1
            replace hx268_2 := (HB.out.cell (World.block_lt_of_cell? w _ hx268_2)).trans hx268_2
            replace hx268_3 := (HB.out.cell (World.block_lt_of_cell? w _ hx268_3)).trans hx268_3
            replace hx268_4 := (HB.out.cell (World.block_lt_of_cell? w _ hx268_4)).trans hx268_4
            have HR268_4 := Aside0.mk hi268_4
            have HC268_4 := Aside0.mk hl268_4
            clear hi268_4 hl268_4
            replace p268 := eq_true p268
            replace q268 := eq_true q268
            go_wp2_with (first | ((with_reducible refine gate_dst (N := 6) rfl ?_); (try (refine gate_guard (by rfl) ?_; dsimp only)); refine box_event ?hg (N := 6) ?hd (cs := #[.int .i64 0, .int .i64 0, .string (⟨#[]⟩ : ByteArray), .int .i64 0, .slice none 0 0]) (t := 24) ?hr ?_; (case hd => rfl); (case hg => rfl); (case hr => first | (go_simp; done) | (go_simp; rfl)); intro gb269 hg w25 hbox hb; have n0_ := Aside0.mk (Kd.R_below (by (with_reducible repeat (first | apply Kd.R_alloc | apply Kd.R_drewN | apply Kd.R_drew)); exact HO_4.out) hb); have n1_ := Aside0.mk (blk_below (g := gb258) (o := .cells #[.string a0_0, .slice (some ad268) l0_1.length c0_1] 26 (0, 0)) (by (with_reducible repeat (first | refine blk_drewN ?_ _ | refine blk_drew ?_ | refine blk_alloc ?_ _)); exact BK258.out) hb); have n2_ := Aside0.mk (below_step (by repeat (first | (with_reducible first | exact HB.out | apply below_alloc | apply pw_below_drewN | apply below_drew1 | refine below_set ?_ GE258.out) | exact HB.out)) hb); have n3_ := Aside0.mk (hbox); have n4_ := Aside0.mk ((by rw [hg]; exact (below_size (by repeat (first | (with_reducible first | exact HB.out | apply below_alloc | apply pw_below_drewN | apply below_drew1 | refine below_set ?_ GE258.out) | exact HB.out))) : w.heap.size ≤ gb269)); have n5_ := Aside0.mk ((by rw [hg]; exact (below_size (by repeat (first | (with_reducible first | exact HB.out | apply below_alloc | apply pw_below_drewN | apply below_drew1 | refine below_set ?_ GE258.out) | exact HB.out))) : w.heap.size ≤ gb269)); have n6_ := Aside0.mk ((by rw [hg]; exact Nat.ne_of_lt (blk_lt (g := gb258) (o := .cells #[.string a0_0, .slice (some ad268) l0_1.length c0_1] 26 (0, 0)) (by (with_reducible repeat (first | refine blk_drewN ?_ _ | refine blk_drew ?_ | refine blk_alloc ?_ _)); exact BK258.out)) : gb258 ≠ gb269)); have n7_ := Aside0.mk ((by rw [hg]; exact Nat.ne_of_gt (blk_lt (g := gb258) (o := .cells #[.string a0_0, .slice (some ad268) l0_1.length c0_1] 26 (0, 0)) (by (with_reducible repeat (first | refine blk_drewN ?_ _ | refine blk_drew ?_ | refine blk_alloc ?_ _)); exact BK258.out)) : gb269 ≠ gb258)); clear HO_4; clear BK258; clear HB; have HO_4 := n0_; have BK258 := n1_; have HB := n2_; have BK269 := n3_; have GW269 := n4_; have GE269 := n5_; have NB258_269 := n6_; have NB269_258 := n7_; clear n0_ n1_ n2_ n3_ n4_ n5_ n6_ n7_; clear hb hbox hg; have hnb26 := NB269_258.out; have hnc26 := NB258_269.out; have hcz27_0 : w25.cell? ⟨gb269, 0, none⟩ = some (.int .i64 0) := (blk_cell BK269.out 0).trans rfl; have hcz27_1 : w25.cell? ⟨gb269, 1, none⟩ = some (.int .i64 0) := (blk_cell BK269.out 1).trans rfl; have hcz27_2 : w25.cell? ⟨gb269, 2, none⟩ = some (.string (⟨#[]⟩ : ByteArray)) := (blk_cell BK269.out 2).trans rfl; have hcz27_3 : w25.cell? ⟨gb269, 3, none⟩ = some (.int .i64 0) := (blk_cell BK269.out 3).trans rfl; have hcz27_4 : w25.cell? ⟨gb269, 4, none⟩ = some (.slice none 0 0) := (blk_cell BK269.out 4).trans rfl; have hfz27_0 := blk_frozen BK269.out 0; have hfz27_1 := blk_frozen BK269.out 1; have hfz27_2 := blk_frozen BK269.out 2; have hfz27_3 := blk_frozen BK269.out 3; have hfz27_4 := blk_frozen BK269.out 4) | ((with_reducible refine gate_callee (f := 12) rfl ?_); refine goesL_ (some 43) rfl rfl Try.func12 (by kernel_rfl) rfl #[.agg #[.int .i64 ((rd_T24 l0_1 x37_2).f0), .int .i64 ((rd_T24 l0_1 x37_2).f1), .string ((rd_T24 l0_1 x37_2).f2), .int .i64 ((rd_T24 l0_1 x37_2).f3), .slice A268_4 ((rd_T24 l0_1 x37_2).f4).length c268_4]] rfl (by (try simp only [List.map_toArray, List.map_cons, List.map_nil]); first | done | rfl | (simp only [List.length_drop, List.length_take]; rfl) | (go_simp; done) | (go_simp; simp; done)) ?_; (with_reducible refine (codec_PutValue.calls k2 ((rd_T24 l0_1 x37_2).f0) ((rd_T24 l0_1 x37_2).f1) ((rd_T24 l0_1 x37_2).f2) ((rd_T24 l0_1 x37_2).f3) _ _ ((rd_T24 l0_1 x37_2).f4) t270 t273 _ ?side1 ?side2 A22.out).mono ?_); (case side1 => exact Kd.C_below HR268_4.out (by repeat (first | (with_reducible first | exact HB.out | apply below_alloc | apply pw_below_drewN | apply below_drew1 | refine below_set ?_ GE258.out | refine below_set ?_ GE269.out) | exact HB.out))); (case side2 => exact HC268_4.out); rintro e w28 ⟨v271, rfl, ho0, hb⟩; refine ⟨_, rfl, ?_⟩; have n0_ := Aside0.mk (Kd.R_elder' (by (with_reducible repeat (first | apply Kd.R_alloc | apply Kd.R_drewN | apply Kd.R_drew)); exact (Kd.R_mono (Kd.R_far (p := ⟨gb269, 4, none⟩) (Kd.R_far (p := ⟨gb269, 3, none⟩) (Kd.R_far (p := ⟨gb269, 2, none⟩) (Kd.R_far (p := ⟨gb269, 1, none⟩) (Kd.R_far (p := ⟨gb269, 0, none⟩) (Kd.R_types HO_4.out BK269.out (by decide)) (fun _ hk => hk.2) (.int .i64 ((rd_T24 l0_1 x37_2).f0))) (fun _ hk => hk.2) (.int .i64 ((rd_T24 l0_1 x37_2).f1))) (fun _ hk => hk.2) (.string ((rd_T24 l0_1 x37_2).f2))) (fun _ hk => hk.2) (.int .i64 ((rd_T24 l0_1 x37_2).f3))) (fun _ hk => hk.2) (.slice A268_4 ((rd_T24 l0_1 x37_2).f4).length c268_4)) (fun _ h_ => h_.1))) (Kd.R_base ho0) hb); have n1_ := Aside0.mk (Kd.R_lower (Kd.R_new' ho0 (Kd.R_lt (by (with_reducible repeat (first | apply Kd.R_alloc | apply Kd.R_drewN | apply Kd.R_drew)); exact (Kd.R_mono (Kd.R_far (p := ⟨gb269, 4, none⟩) (Kd.R_far (p := ⟨gb269, 3, none⟩) (Kd.R_far (p := ⟨gb269, 2, none⟩) (Kd.R_far (p := ⟨gb269, 1, none⟩) (Kd.R_far (p := ⟨gb269, 0, none⟩) (Kd.R_types HO_4.out BK269.out (by decide)) (fun _ hk => hk.2) (.int .i64 ((rd_T24 l0_1 x37_2).f0))) (fun _ hk => hk.2) (.int .i64 ((rd_T24 l0_1 x37_2).f1))) (fun _ hk => hk.2) (.string ((rd_T24 l0_1 x37_2).f2))) (fun _ hk => hk.2) (.int .i64 ((rd_T24 l0_1 x37_2).f3))) (fun _ hk => hk.2) (.slice A268_4 ((rd_T24 l0_1 x37_2).f4).length c268_4)) (fun _ h_ => h_.1))))) (below_size (by repeat (first | (with_reducible first | exact HB.out | apply below_alloc | apply pw_below_drewN | apply below_drew1 | refine below_set ?_ GE258.out | refine below_set ?_ GE269.out) | exact HB.out)))); have n2_ := Aside0.mk (blk_below (g := gb258) (o := .cells #[.string a0_0, .slice (some ad268) l0_1.length c0_1] 26 (0, 0)) (by (with_reducible repeat (first | refine blk_drewN ?_ _ | refine blk_drew ?_ | refine blk_alloc ?_ _)); refine blk_far ?_ NB258_269.out _; (with_reducible repeat (first | refine blk_drewN ?_ _ | refine blk_drew ?_ | refine blk_alloc ?_ _)); refine blk_far ?_ NB258_269.out _; (with_reducible repeat (first | refine blk_drewN ?_ _ | refine blk_drew ?_ | refine blk_alloc ?_ _)); refine blk_far ?_ NB258_269.out _; (with_reducible repeat (first | refine blk_drewN ?_ _ | refine blk_drew ?_ | refine blk_alloc ?_ _)); refine blk_far ?_ NB258_269.out _; (with_reducible repeat (first | refine blk_drewN ?_ _ | refine blk_drew ?_ | refine blk_alloc ?_ _)); refine blk_far ?_ NB258_269.out _; (with_reducible repeat (first | refine blk_drewN ?_ _ | refine blk_drew ?_ | refine blk_alloc ?_ _)); exact BK258.out) hb); have n3_ := Aside0.mk (blk_below (g := gb269) (o := .cells #[.int .i64 ((rd_T24 l0_1 x37_2).f0), .int .i64 ((rd_T24 l0_1 x37_2).f1), .string ((rd_T24 l0_1 x37_2).f2), .int .i64 ((rd_T24 l0_1 x37_2).f3), .slice A268_4 ((rd_T24 l0_1 x37_2).f4).length c268_4] 24 (0, 0)) (by (with_reducible repeat (first | refine blk_drewN ?_ _ | refine blk_drew ?_ | refine blk_alloc ?_ _)); refine blk_put (cs := #[.int .i64 ((rd_T24 l0_1 x37_2).f0), .int .i64 ((rd_T24 l0_1 x37_2).f1), .string ((rd_T24 l0_1 x37_2).f2), .int .i64 ((rd_T24 l0_1 x37_2).f3), .slice none 0 0]) ?_ 4 _ rfl; (with_reducible repeat (first | refine blk_drewN ?_ _ | refine blk_drew ?_ | refine blk_alloc ?_ _)); refine blk_put (cs := #[.int .i64 ((rd_T24 l0_1 x37_2).f0), .int .i64 ((rd_T24 l0_1 x37_2).f1), .string ((rd_T24 l0_1 x37_2).f2), .int .i64 0, .slice none 0 0]) ?_ 3 _ rfl; (with_reducible repeat (first | refine blk_drewN ?_ _ | refine blk_drew ?_ | refine blk_alloc ?_ _)); refine blk_put (cs := #[.int .i64 ((rd_T24 l0_1 x37_2).f0), .int .i64 ((rd_T24 l0_1 x37_2).f1), .string (⟨#[]⟩ : ByteArray), .int .i64 0, .slice none 0 0]) ?_ 2 _ rfl; (with_reducible repeat (first | refine blk_drewN ?_ _ | refine blk_drew ?_ | refine blk_alloc ?_ _)); refine blk_put (cs := #[.int .i64 ((rd_T24 l0_1 x37_2).f0), .int .i64 0, .string (⟨#[]⟩ : ByteArray), .int .i64 0, .slice none 0 0]) ?_ 1 _ rfl; (with_reducible repeat (first | refine blk_drewN ?_ _ | refine blk_drew ?_ | refine blk_alloc ?_ _)); refine blk_put (cs := #[.int .i64 0, .int .i64 0, .string (⟨#[]⟩ : ByteArray), .int .i64 0, .slice none 0 0]) ?_ 0 _ rfl; (with_reducible repeat (first | refine blk_drewN ?_ _ | refine blk_drew ?_ | refine blk_alloc ?_ _)); exact BK269.out) hb); have n4_ := Aside0.mk (below_step (by repeat (first | (with_reducible first | exact HB.out | apply below_alloc | apply pw_below_drewN | apply below_drew1 | refine below_set ?_ GE258.out | refine below_set ?_ GE269.out) | exact HB.out)) hb); clear HO_4; clear BK258; clear BK269; clear HB; have HO_4 := n0_; have HO272 := n1_; have BK258 := n2_; have BK269 := n3_; have HB := n4_; clear n0_ n1_ n2_ n3_ n4_; (try clear hb); (try clear hb2); (try clear hk); (try clear hi); (try clear ho0); obtain ⟨Ao30, co30, eo30⟩ := Kd.R_slice HO272.out; subst eo30) | ((with_reducible refine gate_builtin (b := .append) (xs := #[.tmp 49, .tmp 50]) rfl ?_); (try (refine gate_guard (by rfl) ?_; dsimp only)); at_builtin; refine Kd.R_append_rows (Kd.int .u8) (w0 := w) w.heap.size rfl (.tmp 49) (.tmp 50) 30 5 (.int .u8 0) 1 rfl Try.underlying30 info5 rfl (by decide) (by omega) u4 x4_2 t270 _ _ _ (fun k_ => some k_ ≠ (.slice Ao30 t270.length co30 : Value).ownBlock) (fun _ => False) rfl rfl ?aO ?aR (fun _ _ h => h) (fun _ h => h.elim) ?aF ?aB ?aS ?aL ?_; (case aR => repeat (first | exact (Kd.R_reads' HO272.out).2.2 | (with_reducible refine Kd.C_alloc ?_ _) | (with_reducible refine Kd.C_drewN ?_ _) | (with_reducible refine Kd.C_drew ?_))); (case aB => exact (by repeat (first | (with_reducible first | exact HB.out | apply below_alloc | apply pw_below_drewN | apply below_drew1 | refine below_set ?_ GE258.out | refine below_set ?_ GE269.out) | exact HB.out))); (case aF => exact (fun k_ hk => Kd.fresh' (Kd.R_lt (by (with_reducible repeat (first | apply Kd.R_alloc | apply Kd.R_drewN | apply Kd.R_drew)); exact HO272.out)) k_ hk)); (case aO => exact (by (with_reducible repeat (first | apply Kd.R_alloc | apply Kd.R_drewN | apply Kd.R_drew)); exact Kd.R_mono HO_4.out (fun _ hk => hk.2))); (case aS => exact (below_size (by repeat (first | (with_reducible first | exact HB.out | apply below_alloc | apply pw_below_drewN | apply below_drew1 | refine below_set ?_ GE258.out | refine below_set ?_ GE269.out) | exact HB.out)))); (case aL => have := LMc24.out; omega); intro v275 w29 ho hb hg hat; rw [← Ny274.out] at ho; have n0_ := Aside0.mk (blk_grown (g := gb258) (o := .cells #[.string a0_0, .slice (some ad268) l0_1.length c0_1] 26 (0, 0)) (by (with_reducible repeat (first | refine blk_drewN ?_ _ | refine blk_drew ?_ | refine blk_alloc ?_ _)); exact BK258.out) hg (Kd.R_ne HO_4.out BK258.out (by decide))); have n1_ := Aside0.mk (blk_grown (g := gb269) (o := .cells #[.int .i64 ((rd_T24 l0_1 x37_2).f0), .int .i64 ((rd_T24 l0_1 x37_2).f1), .string ((rd_T24 l0_1 x37_2).f2), .int .i64 ((rd_T24 l0_1 x37_2).f3), .slice A268_4 ((rd_T24 l0_1 x37_2).f4).length c268_4] 24 (0, 0)) (by (with_reducible repeat (first | refine blk_drewN ?_ _ | refine blk_drew ?_ | refine blk_alloc ?_ _)); exact BK269.out) hg (Kd.R_ne HO_4.out BK269.out (by decide))); have n2_ := Aside0.mk (Kd.R_after (ok := (fun _ => True)) (by (with_reducible repeat (first | apply Kd.R_alloc | apply Kd.R_drewN | apply Kd.R_drew)); exact HO272.out) hg hat); have n3_ := Aside0.mk (hb); have n4_ := Aside0.mk (ho); clear BK258; clear BK269; clear HO272; clear HB; clear HO_4; have BK258 := n0_; have BK269 := n1_; have HO272 := n2_; have HB := n3_; have HO276 := n4_; clear n0_ n1_ n2_ n3_ n4_; clear ho hb hg hat))
            go_roundg k2
            case measure => have := HJ1.out; have := HK2.out; omega
            case rel => exact ⟨(y274), (wrap64 (x37_2 + 1)), (by first | rfl | (simp; done) | (simp [*]; done)), H', ⟨by have := HJ1.out; have := HK2.out; omega⟩, ⟨by (with_reducible repeat (first | apply Kd.R_alloc | apply Kd.R_drewN | apply Kd.R_drew)); exact Kd.R_mono HO276.out (fun _ hk => trivial)⟩, ⟨by (with_reducible repeat (first | refine blk_drewN ?_ _ | refine blk_drew ?_ | refine blk_alloc ?_ _)); exact BK258.out⟩, ⟨by repeat (first | (with_reducible first | exact HB.out | apply below_alloc | apply pw_below_drewN | apply below_drew1 | refine below_set ?_ GE258.out | refine below_set ?_ GE269.out) | exact HB.out)⟩⟩
           ·rw [if_neg c24] at H
            exact absurd H (by simp)
          ·rw [if_neg c23] at H
           have c23b0 : (t273 == 0) = false := beq_eq_false_iff_ne.mpr c23
           have c23b1 : (t273 != 0) = true := bne_iff_ne.mpr c23
           simp only [Option.some.injEq, Prod.mk.injEq] at H
           obtain ⟨rfl, rfl⟩ := H
           have p268 : 0 ≤ (x37_2 : Int) := of_decide_eq_true (by first | (with_reducible assumption) | assumption)
           have q268 : x37_2 < (l0_1.length : Int) := of_decide_eq_true (by first | (with_reducible assumption) | assumption)
           obtain ⟨ad268, A268_4, c268_4, e268, hx268_0, hx268_1, hx268_2, hx268_3, hx268_4, hl268_4, hi268_4⟩ := at_T24 HR0_1.out x37_2 p268 q268
           cases e268
           replace hx268_0 := (HB.out.cell (World.block_lt_of_cell? w _ hx268_0)).trans hx268_0
           replace hx268_1 := (HB.out.cell (World.block_lt_of_cell? w _ hx268_1)).trans hx268_1
           replace hx268_2 := (HB.out.cell (World.block_lt_of_cell? w _ hx268_2)).trans hx268_2
           replace hx268_3 := (HB.out.cell (World.block_lt_of_cell? w _ hx268_3)).trans hx268_3
           replace hx268_4 := (HB.out.cell (World.block_lt_of_cell? w _ hx268_4)).trans hx268_4
           have HR268_4 := Aside0.mk hi268_4
           have HC268_4 := Aside0.mk hl268_4
           clear hi268_4 hl268_4
           replace p268 := eq_true p268
           replace q268 := eq_true q268
           go_wp2_with (first | ((with_reducible refine gate_dst (N := 6) rfl ?_); (try (refine gate_guard (by rfl) ?_; dsimp only)); refine box_event ?hg (N := 6) ?hd (cs := #[.int .i64 0, .int .i64 0, .string (⟨#[]⟩ : ByteArray), .int .i64 0, .slice none 0 0]) (t := 24) ?hr ?_; (case hd => rfl); (case hg => rfl); (case hr => first | (go_simp; done) | (go_simp; rfl)); intro gb269 hg w31 hbox hb; have n0_ := Aside0.mk (Kd.R_below (by (with_reducible repeat (first | apply Kd.R_alloc | apply Kd.R_drewN | apply Kd.R_drew)); exact HO_4.out) hb); have n1_ := Aside0.mk (blk_below (g := gb258) (o := .cells #[.string a0_0, .slice (some ad268) l0_1.length c0_1] 26 (0, 0)) (by (with_reducible repeat (first | refine blk_drewN ?_ _ | refine blk_drew ?_ | refine blk_alloc ?_ _)); exact BK258.out) hb); have n2_ := Aside0.mk (below_step (by repeat (first | (with_reducible first | exact HB.out | apply below_alloc | apply pw_below_drewN | apply below_drew1 | refine below_set ?_ GE258.out) | exact HB.out)) hb); have n3_ := Aside0.mk (hbox); have n4_ := Aside0.mk ((by rw [hg]; exact (below_size (by repeat (first | (with_reducible first | exact HB.out | apply below_alloc | apply pw_below_drewN | apply below_drew1 | refine below_set ?_ GE258.out) | exact HB.out))) : w.heap.size ≤ gb269)); have n5_ := Aside0.mk ((by rw [hg]; exact (below_size (by repeat (first | (with_reducible first | exact HB.out | apply below_alloc | apply pw_below_drewN | apply below_drew1 | refine below_set ?_ GE258.out) | exact HB.out))) : w.heap.size ≤ gb269)); have n6_ := Aside0.mk ((by rw [hg]; exact Nat.ne_of_lt (blk_lt (g := gb258) (o := .cells #[.string a0_0, .slice (some ad268) l0_1.length c0_1] 26 (0, 0)) (by (with_reducible repeat (first | refine blk_drewN ?_ _ | refine blk_drew ?_ | refine blk_alloc ?_ _)); exact BK258.out)) : gb258 ≠ gb269)); have n7_ := Aside0.mk ((by rw [hg]; exact Nat.ne_of_gt (blk_lt (g := gb258) (o := .cells #[.string a0_0, .slice (some ad268) l0_1.length c0_1] 26 (0, 0)) (by (with_reducible repeat (first | refine blk_drewN ?_ _ | refine blk_drew ?_ | refine blk_alloc ?_ _)); exact BK258.out)) : gb269 ≠ gb258)); clear HO_4; clear BK258; clear HB; have HO_4 := n0_; have BK258 := n1_; have HB := n2_; have BK269 := n3_; have GW269 := n4_; have GE269 := n5_; have NB258_269 := n6_; have NB269_258 := n7_; clear n0_ n1_ n2_ n3_ n4_ n5_ n6_ n7_; clear hb hbox hg; have hnb32 := NB269_258.out; have hnc32 := NB258_269.out; have hcz33_0 : w31.cell? ⟨gb269, 0, none⟩ = some (.int .i64 0) := (blk_cell BK269.out 0).trans rfl; have hcz33_1 : w31.cell? ⟨gb269, 1, none⟩ = some (.int .i64 0) := (blk_cell BK269.out 1).trans rfl; have hcz33_2 : w31.cell? ⟨gb269, 2, none⟩ = some (.string (⟨#[]⟩ : ByteArray)) := (blk_cell BK269.out 2).trans rfl; have hcz33_3 : w31.cell? ⟨gb269, 3, none⟩ = some (.int .i64 0) := (blk_cell BK269.out 3).trans rfl; have hcz33_4 : w31.cell? ⟨gb269, 4, none⟩ = some (.slice none 0 0) := (blk_cell BK269.out 4).trans rfl; have hfz33_0 := blk_frozen BK269.out 0; have hfz33_1 := blk_frozen BK269.out 1; have hfz33_2 := blk_frozen BK269.out 2; have hfz33_3 := blk_frozen BK269.out 3; have hfz33_4 := blk_frozen BK269.out 4) | ((with_reducible refine gate_callee (f := 12) rfl ?_); refine goesL_ (some 43) rfl rfl Try.func12 (by kernel_rfl) rfl #[.agg #[.int .i64 ((rd_T24 l0_1 x37_2).f0), .int .i64 ((rd_T24 l0_1 x37_2).f1), .string ((rd_T24 l0_1 x37_2).f2), .int .i64 ((rd_T24 l0_1 x37_2).f3), .slice A268_4 ((rd_T24 l0_1 x37_2).f4).length c268_4]] rfl (by (try simp only [List.map_toArray, List.map_cons, List.map_nil]); first | done | rfl | (simp only [List.length_drop, List.length_take]; rfl) | (go_simp; done) | (go_simp; simp; done)) ?_; (with_reducible refine (codec_PutValue.calls k2 ((rd_T24 l0_1 x37_2).f0) ((rd_T24 l0_1 x37_2).f1) ((rd_T24 l0_1 x37_2).f2) ((rd_T24 l0_1 x37_2).f3) _ _ ((rd_T24 l0_1 x37_2).f4) t270 t273 _ ?side1 ?side2 A22.out).mono ?_); (case side1 => exact Kd.C_below HR268_4.out (by repeat (first | (with_reducible first | exact HB.out | apply below_alloc | apply pw_below_drewN | apply below_drew1 | refine below_set ?_ GE258.out | refine below_set ?_ GE269.out) | exact HB.out))); (case side2 => exact HC268_4.out); rintro e w34 ⟨v271, rfl, ho0, hb⟩; refine ⟨_, rfl, ?_⟩; have n0_ := Aside0.mk (Kd.R_elder' (by (with_reducible repeat (first | apply Kd.R_alloc | apply Kd.R_drewN | apply Kd.R_drew)); exact (Kd.R_mono (Kd.R_far (p := ⟨gb269, 4, none⟩) (Kd.R_far (p := ⟨gb269, 3, none⟩) (Kd.R_far (p := ⟨gb269, 2, none⟩) (Kd.R_far (p := ⟨gb269, 1, none⟩) (Kd.R_far (p := ⟨gb269, 0, none⟩) (Kd.R_types HO_4.out BK269.out (by decide)) (fun _ hk => hk.2) (.int .i64 ((rd_T24 l0_1 x37_2).f0))) (fun _ hk => hk.2) (.int .i64 ((rd_T24 l0_1 x37_2).f1))) (fun _ hk => hk.2) (.string ((rd_T24 l0_1 x37_2).f2))) (fun _ hk => hk.2) (.int .i64 ((rd_T24 l0_1 x37_2).f3))) (fun _ hk => hk.2) (.slice A268_4 ((rd_T24 l0_1 x37_2).f4).length c268_4)) (fun _ h_ => h_.1))) (Kd.R_base ho0) hb); have n1_ := Aside0.mk (Kd.R_lower (Kd.R_new' ho0 (Kd.R_lt (by (with_reducible repeat (first | apply Kd.R_alloc | apply Kd.R_drewN | apply Kd.R_drew)); exact (Kd.R_mono (Kd.R_far (p := ⟨gb269, 4, none⟩) (Kd.R_far (p := ⟨gb269, 3, none⟩) (Kd.R_far (p := ⟨gb269, 2, none⟩) (Kd.R_far (p := ⟨gb269, 1, none⟩) (Kd.R_far (p := ⟨gb269, 0, none⟩) (Kd.R_types HO_4.out BK269.out (by decide)) (fun _ hk => hk.2) (.int .i64 ((rd_T24 l0_1 x37_2).f0))) (fun _ hk => hk.2) (.int .i64 ((rd_T24 l0_1 x37_2).f1))) (fun _ hk => hk.2) (.string ((rd_T24 l0_1 x37_2).f2))) (fun _ hk => hk.2) (.int .i64 ((rd_T24 l0_1 x37_2).f3))) (fun _ hk => hk.2) (.slice A268_4 ((rd_T24 l0_1 x37_2).f4).length c268_4)) (fun _ h_ => h_.1))))) (below_size (by repeat (first | (with_reducible first | exact HB.out | apply below_alloc | apply pw_below_drewN | apply below_drew1 | refine below_set ?_ GE258.out | refine below_set ?_ GE269.out) | exact HB.out)))); have n2_ := Aside0.mk (blk_below (g := gb258) (o := .cells #[.string a0_0, .slice (some ad268) l0_1.length c0_1] 26 (0, 0)) (by (with_reducible repeat (first | refine blk_drewN ?_ _ | refine blk_drew ?_ | refine blk_alloc ?_ _)); refine blk_far ?_ NB258_269.out _; (with_reducible repeat (first | refine blk_drewN ?_ _ | refine blk_drew ?_ | refine blk_alloc ?_ _)); refine blk_far ?_ NB258_269.out _; (with_reducible repeat (first | refine blk_drewN ?_ _ | refine blk_drew ?_ | refine blk_alloc ?_ _)); refine blk_far ?_ NB258_269.out _; (with_reducible repeat (first | refine blk_drewN ?_ _ | refine blk_drew ?_ | refine blk_alloc ?_ _)); refine blk_far ?_ NB258_269.out _; (with_reducible repeat (first | refine blk_drewN ?_ _ | refine blk_drew ?_ | refine blk_alloc ?_ _)); refine blk_far ?_ NB258_269.out _; (with_reducible repeat (first | refine blk_drewN ?_ _ | refine blk_drew ?_ | refine blk_alloc ?_ _)); exact BK258.out) hb); have n3_ := Aside0.mk (blk_below (g := gb269) (o := .cells #[.int .i64 ((rd_T24 l0_1 x37_2).f0), .int .i64 ((rd_T24 l0_1 x37_2).f1), .string ((rd_T24 l0_1 x37_2).f2), .int .i64 ((rd_T24 l0_1 x37_2).f3), .slice A268_4 ((rd_T24 l0_1 x37_2).f4).length c268_4] 24 (0, 0)) (by (with_reducible repeat (first | refine blk_drewN ?_ _ | refine blk_drew ?_ | refine blk_alloc ?_ _)); refine blk_put (cs := #[.int .i64 ((rd_T24 l0_1 x37_2).f0), .int .i64 ((rd_T24 l0_1 x37_2).f1), .string ((rd_T24 l0_1 x37_2).f2), .int .i64 ((rd_T24 l0_1 x37_2).f3), .slice none 0 0]) ?_ 4 _ rfl; (with_reducible repeat (first | refine blk_drewN ?_ _ | refine blk_drew ?_ | refine blk_alloc ?_ _)); refine blk_put (cs := #[.int .i64 ((rd_T24 l0_1 x37_2).f0), .int .i64 ((rd_T24 l0_1 x37_2).f1), .string ((rd_T24 l0_1 x37_2).f2), .int .i64 0, .slice none 0 0]) ?_ 3 _ rfl; (with_reducible repeat (first | refine blk_drewN ?_ _ | refine blk_drew ?_ | refine blk_alloc ?_ _)); refine blk_put (cs := #[.int .i64 ((rd_T24 l0_1 x37_2).f0), .int .i64 ((rd_T24 l0_1 x37_2).f1), .string (⟨#[]⟩ : ByteArray), .int .i64 0, .slice none 0 0]) ?_ 2 _ rfl; (with_reducible repeat (first | refine blk_drewN ?_ _ | refine blk_drew ?_ | refine blk_alloc ?_ _)); refine blk_put (cs := #[.int .i64 ((rd_T24 l0_1 x37_2).f0), .int .i64 0, .string (⟨#[]⟩ : ByteArray), .int .i64 0, .slice none 0 0]) ?_ 1 _ rfl; (with_reducible repeat (first | refine blk_drewN ?_ _ | refine blk_drew ?_ | refine blk_alloc ?_ _)); refine blk_put (cs := #[.int .i64 0, .int .i64 0, .string (⟨#[]⟩ : ByteArray), .int .i64 0, .slice none 0 0]) ?_ 0 _ rfl; (with_reducible repeat (first | refine blk_drewN ?_ _ | refine blk_drew ?_ | refine blk_alloc ?_ _)); exact BK269.out) hb); have n4_ := Aside0.mk (below_step (by repeat (first | (with_reducible first | exact HB.out | apply below_alloc | apply pw_below_drewN | apply below_drew1 | refine below_set ?_ GE258.out | refine below_set ?_ GE269.out) | exact HB.out)) hb); clear HO_4; clear BK258; clear BK269; clear HB; have HO_4 := n0_; have HO272 := n1_; have BK258 := n2_; have BK269 := n3_; have HB := n4_; clear n0_ n1_ n2_ n3_ n4_; (try clear hb); (try clear hb2); (try clear hk); (try clear hi); (try clear ho0)))
           go_ret2
           exact ⟨_, by first | rfl | (simp [errW_none, errW_some] <;> rfl) | (simp [*, errW_none, errW_some] <;> rfl), by first | exact Kd.R_nil _ _ _ _ _ | exact Kd.N_nil _ _ _ _ _ | exact Kd.V_nil _ _ _ _ _ | exact Kd.Q_nil _ _ _ _ _ | exact Kd.S_nil _ _ _ _ _, by repeat (first | (with_reducible first | exact HB.out | apply below_alloc | apply pw_below_drewN | apply below_drew1 | refine below_set ?_ GE258.out | refine below_set ?_ GE269.out) | exact HB.out)⟩
         ·rw [if_neg c21] at H
          exact absurd H (by simp)
        ·rw [if_neg c20] at H
         exact absurd H (by simp)
       ·rw [if_neg c19] at H
        have c19b0 : decide (x37_2 < (l0_1.length : Int)) = false := decide_eq_false c19
        clear c19
        simp only [Option.some.injEq, Prod.mk.injEq] at H
        obtain ⟨rfl, rfl⟩ := H
        go_wp2
        go_ret2
        exact ⟨_, by first | rfl | (simp [errW_none, errW_some] <;> rfl) | (simp [*, errW_none, errW_some] <;> rfl), by (with_reducible repeat (first | apply Kd.R_alloc | apply Kd.R_drewN | apply Kd.R_drew)); exact HO_4.out, by repeat (first | (with_reducible first | exact HB.out | apply below_alloc | apply pw_below_drewN | apply below_drew1 | refine below_set ?_ GE258.out) | exact HB.out)⟩
    ·rw [if_neg c12] at H
     exact absurd H (by simp)

end Go.Proofs.Ythbnblmnamckmaa.PAll
/-
  Plain facts on values as bytes: which may stand, and which bytes they have. No program stands here. Conditions: those named in each lemma.
-/
namespace Go.Proofs.Ythbnblmnamckmaa.Q
open Go.RowKit Go.Proofs.Ythbnblmnamckmaa.PAll Go.Proofs.YthbnblmnamckmaaW.PrintWords Go.Proofs.YthbnblmnamckmaaW.PrintLast Go.Proofs.YthbnblmnamckmaaW.PrintMore
set_option linter.unusedVariables false
set_option linter.unusedSimpArgs false

theorem ev_val {α : Type} {g : Nat → Option α} {r r' : α} (h : Ev g r) (e : r = r') : Ev g r' := e ▸ h
theorem text_no {s : ByteArray} (h : ¬ s.toList = []) : (s.toList == []) = false := beq_eq_false_iff_ne.2 h
theorem ev_eq {α : Type} {r r' : α} (h : r = r') : Ev (fun _ => some r) r' := h ▸ Ev.now r

def bareB (v : S24) : Bool := decide (v.f3 = 0) && decide (v.f4.length = 0)
def leafOf (b : Bool) (v : S24) : Bool :=
  if v.f0 = 1 then b && (v.f2.toList == []) else if v.f0 = 2 then b && decide (v.f1 = 0) && decide (v.f2.size ≤ 64) else if v.f0 = 3 then b && (v.f2.toList == []) && (decide (v.f1 = 0) || decide (v.f1 = 1)) else false
def leafB (v : S24) : Bool := leafOf (bareB v) v
def fieldB (v : S24) : Bool := decide (v.f0 ≠ 4) && leafB v
def plainB (v : S24) : Bool :=
  if v.f0 = 4 then decide (v.f1 = 0) && (v.f2.toList == []) && decide (0 ≤ v.f3) && decide (v.f3 ≤ 15) && decide (v.f4.length ≤ 12) && v.f4.all fieldB else leafB v

theorem rdT_drop {l : List S24} {i : Nat} (h : i < l.length) : l.drop i = rd_T24 l (i : Int) :: l.drop (i + 1) := by
  rw [List.drop_eq_getElem_cons h]
  congr 1
  simp [rd_T24, List.getD_eq_getElem?_getD, h]
theorem rdT_mem {l : List S24} {i : Nat} (h : i < l.length) : rd_T24 l (i : Int) ∈ l := by
  have e : rd_T24 l (i : Int) = l[i] := by simp [rd_T24, List.getD_eq_getElem?_getD, h]
  rw [e]
  exact List.getElem_mem h

theorem bare_eq (v : S24) (h : v.f3 = 0) : ((v.f4.length : Int) == 0) = bareB v := by
  unfold bareB
  by_cases hl : v.f4.length = 0 <;> simp [h, hl]
theorem bare_no (v : S24) (h : ¬ v.f3 = 0) : false = bareB v := by
  unfold bareB
  simp [h]
/-! ### the reference's -/
/-! ### writing -/
def encL (v : S24) : List Int :=
  [v.f0 % 256] ++ if v.f0 = 1 then putU (zig v.f1) else if v.f0 = 2 then putU v.f2.size ++ bytesOf v.f2 else [v.f1 % 256]
def encV (v : S24) : List Int :=
  if v.f0 = 4 then [v.f0 % 256] ++ putU v.f3.toNat ++ putU v.f4.length ++ v.f4.flatMap encL else encL v
def pv (v : S24) : List Int × Int := if plainB v = true then (encV v, 0) else ([], 20)

theorem leaf_kind {v : S24} (h : leafB v = true) : v.f0 = 1 ∨ (v.f0 = 2 ∧ v.f2.size ≤ 64) ∨ v.f0 = 3 := by
  unfold leafB leafOf at h
  split at h
  · exact .inl ‹_›
  · split at h
    · simp at h; exact .inr (.inl ⟨‹_›, h.2⟩)
    · split at h
      · exact .inr (.inr ‹_›)
      · simp at h
theorem encL_len {v : S24} (h : leafB v = true) (hf : -9223372036854775808 ≤ v.f1 ∧ v.f1 ≤ 9223372036854775807) : (encL v).length ≤ 80 := by
  have h1 := putU_len (zig_lt hf.1 hf.2)
  have h2 := leaf_kind h
  have h3 : v.f2.size ≤ 64 → (putU v.f2.size).length ≤ 10 := fun h => (putU_len (by omega)).2
  unfold encL
  split
  · simp; omega
  · split
    · simp [bytesOf_length]; omega
    · simp
theorem plain_rec {v : S24} (h : plainB v = true) (h4 : v.f0 = 4) : 0 ≤ v.f3 ∧ v.f3 ≤ 15 ∧ v.f4.length ≤ 12 ∧ v.f4.all fieldB = true := by
  unfold plainB at h
  rw [if_pos h4] at h
  simp only [Bool.and_eq_true, decide_eq_true_eq] at h
  exact ⟨h.1.1.1.2, h.1.1.2, h.1.2, h.2⟩
theorem flat_len {l : List S24} (hp : l.all fieldB = true) (hw : ∀ v ∈ l, -9223372036854775808 ≤ v.f1 ∧ v.f1 ≤ 9223372036854775807) : (l.flatMap encL).length ≤ 80 * l.length := by
  induction l with
  | nil => simp
  | cons v t ih =>
    rw [List.all_cons, Bool.and_eq_true] at hp
    have := ih hp.2 (fun x hx => hw x (List.mem_cons_of_mem _ hx))
    have hb : leafB v = true := by have := hp.1; simp [fieldB] at this; exact this.2
    have := encL_len hb (hw v (List.mem_cons_self ..))
    rw [List.flatMap_cons, List.length_append, List.length_cons]
    omega
/-- What a value that comes in is, as far as writing it asks. -/
def In (v : S24) : Prop := (-9223372036854775808 ≤ v.f1 ∧ v.f1 ≤ 9223372036854775807) ∧ v.f4.length ≤ 9223372036854775807 ∧ ∀ x ∈ v.f4, (-9223372036854775808 ≤ x.f1 ∧ x.f1 ≤ 9223372036854775807) ∧ x.f4.length ≤ 9223372036854775807
theorem In.of {v : S24} (h : Wf24 v) : In v := by
  have h1 := h.out
  refine ⟨bounds_i64 h1.2.1, ?_, fun x hx => ?_⟩
  · have := h1.2.2.2.2.1
    unfold maxLen at this
    exact this
  · have h2 := (h1.2.2.2.2.2.2 x hx).out
    refine ⟨bounds_i64 h2.2.1, ?_⟩
    have := h2.2.2.2.2.1
    unfold maxLen at this
    exact this
theorem encV_len {v : S24} (h : plainB v = true) (hi : In v) : (encV v).length ≤ 1000 := by
  unfold encV
  split
  · rename_i h4
    obtain ⟨a, b, c, d⟩ := plain_rec h h4
    have h1 := putU_len (n := v.f3.toNat) (by omega)
    have h2 := putU_len (n := v.f4.length) (by omega)
    have h3 := flat_len d (fun x hx => (hi.2.2 x hx).1)
    simp only [List.length_append, List.length_singleton]
    omega
  · rename_i h4
    have : plainB v = leafB v := by unfold plainB; rw [if_neg h4]
    have := encL_len (this ▸ h) hi.1
    omega
/-! ### the reference's -/
/-! ### events -/
def pe (s : ByteArray) (l : List S24) : List Int × Int :=
  if s.size < 1 ∨ s.size > 20 ∨ l.length > 12 then ([], 20) else if l.all plainB = true then (putU s.size ++ bytesOf s ++ putU l.length ++ l.flatMap encV, 0) else ([], 20)
/-! ### the guards come to an end -/
end Go.Proofs.Ythbnblmnamckmaa.Q
/-
  What the code's and the reference's Plain, PutText, PutValue, PutEvent compute, and that Small, Smalls come to an end. Conditions: the values are what comes in (Wf24: each number of its kind, each row and text within its bounds).
-/
namespace Go.Proofs.Ythbnblmnamckmaa.Q
open Go.RowKit Go.Proofs.Ythbnblmnamckmaa.PAll Go.Proofs.YthbnblmnamckmaaW.PrintWords Go.Proofs.YthbnblmnamckmaaW.PrintLast Go.Proofs.YthbnblmnamckmaaW.PrintMore
set_option linter.unusedVariables false
set_option linter.unusedSimpArgs false

theorem ev_codec_Plain_j0 (b : Bool) (v : S24) (h4 : v.f0 ≠ 4) : Ev (fun k => codec_Plain.j0 k b v.f0 v.f1 v.f2 v.f3 v.f4) (leafOf b v) := by
  refine Ev.step (fun k => rfl) ?_
  simp only [codec_Plain.j0]
  unfold leafOf
  by_cases h1 : v.f0 = 1
  · simp only [if_pos h1]
    cases b
    · simp; exact Ev.now _
    · simp; exact Ev.now _
  · simp only [if_neg h1]
    by_cases h2 : v.f0 = 2
    · simp only [if_pos h2]
      cases b
      · simp; exact Ev.now _
      · by_cases h : v.f1 = 0
        · simp [h]; exact ev_eq (decide_eq_decide.2 (by omega))
        · simp [h]; exact Ev.now _
    · simp only [if_neg h2]
      by_cases h3 : v.f0 = 3
      · simp only [if_pos h3]
        cases b
        · simp; exact Ev.now _
        · by_cases ht : v.f2.toList = []
          · by_cases h : v.f1 = 0
            · simp [h, ht]; exact Ev.now _
            · simp [h, ht]; exact ev_eq (by by_cases hq : v.f1 = 1 <;> simp [hq])
          · simp only [if_true, if_neg ht]
            exact ev_eq (by rw [text_no ht]; rfl)
      · simp only [if_neg h3, if_neg h4]
        exact Ev.now _
theorem ev_codec_Plain_leaf (v : S24) (h4 : v.f0 ≠ 4) : Ev (fun k => codec_Plain.f k v.f0 v.f1 v.f2 v.f3 v.f4) (leafB v) := by
  refine Ev.step (fun k => rfl) ?_
  simp only [codec_Plain.f]
  unfold leafB
  by_cases h : v.f3 = 0
  · simp only [if_pos h, bare_eq v h]
    exact ev_codec_Plain_j0 _ v h4
  · simp only [if_neg h, bare_no v h]
    exact ev_codec_Plain_j0 _ v h4
theorem ev_codec_Plain_l0 (l : List S24) (hl : l.length ≤ 9223372036854775807) : ∀ d i : Nat, i + d = l.length → Ev (fun k => codec_Plain.l0 k l (l.length : Int) (i : Int)) ((l.drop i).all fieldB) := by
  intro d
  induction d with
  | zero =>
    intro i hi
    refine Ev.step (fun k => rfl) ?_
    simp only [codec_Plain.l0]
    simp only [if_neg (show ¬ ((i : Int) < (l.length : Int)) by omega)]
    rw [List.drop_eq_nil_of_le (by omega)]
    exact Ev.now _
  | succ d ih =>
    intro i hi
    have hlt : i < l.length := by omega
    refine Ev.step (fun k => rfl) ?_
    simp only [codec_Plain.l0]
    have e1 : wrap64 ((i : Int) + 1) = ((i + 1 : Nat) : Int) := by rw [w64_id (by omega) (by omega)]; omega
    simp only [if_pos (show ((i : Int) < (l.length : Int)) by omega), if_pos (show (0 : Int) ≤ (i : Int) by omega), e1]
    rw [rdT_drop hlt, List.all_cons]
    by_cases h4 : (rd_T24 l (i : Int)).f0 = 4
    · simp only [if_pos h4]
      exact ev_eq (by simp [fieldB, h4])
    · simp only [if_neg h4]
      refine Ev.bind (ev_codec_Plain_leaf _ h4) ?_
      cases hb : leafB (rd_T24 l (i : Int)) with
      | false => simp only [if_neg (show ¬ (false = true) by decide)]; exact ev_eq (by simp [fieldB, hb])
      | true =>
        simp only [if_true]
        have e2 : fieldB (rd_T24 l (i : Int)) = true := by simp [fieldB, hb, h4]
        rw [e2, Bool.true_and]
        exact ih (i + 1) (by omega)
theorem ev_codec_Plain (v : S24) (hl : v.f4.length ≤ 9223372036854775807) : Ev (fun k => codec_Plain.f k v.f0 v.f1 v.f2 v.f3 v.f4) (plainB v) := by
  by_cases h4 : v.f0 = 4
  · have hj1 : ∀ b : Bool, Ev (fun k => codec_Plain.j1 k b v.f0 v.f1 v.f2 v.f3 v.f4) (!b && v.f4.all fieldB) := by
      intro b
      refine Ev.step (fun k => rfl) ?_
      simp only [codec_Plain.j1]
      cases b
      · simp only [if_neg (show ¬ (false = true) by decide)]
        exact ev_codec_Plain_l0 v.f4 hl v.f4.length 0 (Nat.zero_add _)
      · simp only [if_true]; exact Ev.now _
    have hj0 : ∀ b : Bool, Ev (fun k => codec_Plain.j0 k b v.f0 v.f1 v.f2 v.f3 v.f4) (plainB v) := by
      intro b
      refine Ev.step (fun k => rfl) ?_
      simp only [codec_Plain.j0]
      unfold plainB
      simp only [if_neg (show ¬ v.f0 = 1 by omega), if_neg (show ¬ v.f0 = 2 by omega), if_neg (show ¬ v.f0 = 3 by omega), if_pos h4]
      by_cases h1 : v.f1 = 0
      · simp only [if_pos h1]
        by_cases ht : v.f2.toList = []
        · simp only [if_pos ht]
          by_cases ha : v.f3 < 0
          · simp only [if_pos ha]
            have := hj1 true
            simpa [h1, ht, show ¬ (0 ≤ v.f3) by omega] using this
          · simp only [if_neg ha]
            by_cases hb : v.f3 > 15
            · simp only [if_pos hb]
              have := hj1 true
              simpa [h1, ht, show ¬ (v.f3 ≤ 15) by omega] using this
            · simp only [if_neg hb]
              have := hj1 (decide ((v.f4.length : Int) > 12))
              have e : (!decide ((v.f4.length : Int) > 12)) = decide (v.f4.length ≤ 12) := by
                by_cases hq : v.f4.length ≤ 12
                · rw [decide_eq_true hq, decide_eq_false (by omega)]; rfl
                · rw [decide_eq_false hq, decide_eq_true (by omega)]; rfl
              rw [e] at this
              simpa [h1, ht, show (0 ≤ v.f3) by omega, show (v.f3 ≤ 15) by omega] using this
        · simp only [if_neg ht]
          exact ev_val (hj1 true) (by rw [text_no ht]; simp)
      · simp only [if_neg h1]
        have := hj1 true
        simpa [h1] using this
    refine Ev.step (fun k => rfl) ?_
    simp only [codec_Plain.f]
    by_cases h : v.f3 = 0
    · simp only [if_pos h]; exact hj0 _
    · simp only [if_neg h]; exact hj0 _
  · have : plainB v = leafB v := by unfold plainB; rw [if_neg h4]
    rw [this]
    exact ev_codec_Plain_leaf v h4

theorem ev_codec_PutText {s : ByteArray} (h : s.size ≤ 140737488351232) : Ev (fun k => codec_PutText.f k s) (putU s.size ++ bytesOf s) := by
  unfold codec_PutText.f
  have hl := putU_len (n := s.size) (by omega)
  rw [u64_id (by omega) (by omega)]
  refine Ev.bind (ev_codec_PutUint (by omega)) ?_
  simp only [if_pos (show (putU s.size).length + s.size < 140737488355328 by omega)]
  exact Ev.now _
theorem ev_codec_put_leaf {v : S24} (h : leafB v = true) (hf : -9223372036854775808 ≤ v.f1 ∧ v.f1 ≤ 9223372036854775807) : Ev (fun k => codec_put.f k v.f0 v.f1 v.f2 v.f3 v.f4) (encL v) := by
  have h1 := putU_len (zig_lt hf.1 hf.2)
  have h2 := leaf_kind h
  refine Ev.step (fun k => rfl) ?_
  simp only [codec_put.f, Option.bind_some]
  unfold encL
  by_cases k1 : v.f0 = 1
  · simp only [if_pos k1]
    refine Ev.bind (ev_codec_PutInt hf.1 hf.2) ?_
    simp only [List.length_singleton, if_pos (show 1 + (putU (zig v.f1)).length < 140737488355328 by omega)]
    exact Ev.now _
  · simp only [if_neg k1]
    by_cases k2 : v.f0 = 2
    · have hs : v.f2.size ≤ 64 := by omega
      have hp := putU_len (n := v.f2.size) (by omega)
      simp only [if_pos k2]
      refine Ev.bind (ev_codec_PutText (by omega)) ?_
      simp only [List.length_singleton, List.length_append, bytesOf_length, if_pos (show 1 + ((putU v.f2.size).length + v.f2.size) < 140737488355328 by omega)]
      exact Ev.now _
    · have k3 : v.f0 = 3 := by omega
      simp only [if_neg k2, if_pos k3, List.length_singleton, if_pos (show 1 < 140737488355328 by omega)]
      exact Ev.now _
theorem ev_codec_put_l0 (l : List S24) (hl : l.length ≤ 12) (hp : l.all fieldB = true) (hw : ∀ v ∈ l, -9223372036854775808 ≤ v.f1 ∧ v.f1 ≤ 9223372036854775807) : ∀ (d i : Nat) (acc : List Int), i + d = l.length → acc.length + 80 * d < 100000 →
    Ev (fun k => codec_put.l0 k acc l (l.length : Int) (i : Int)) (acc ++ (l.drop i).flatMap encL) := by
  intro d
  induction d with
  | zero =>
    intro i acc hi ha
    refine Ev.step (fun k => rfl) ?_
    simp only [codec_put.l0]
    simp only [if_neg (show ¬ ((i : Int) < (l.length : Int)) by omega)]
    rw [List.drop_eq_nil_of_le (by omega)]
    exact ev_eq (by simp)
  | succ d ih =>
    intro i acc hi ha
    have hlt : i < l.length := by omega
    refine Ev.step (fun k => rfl) ?_
    simp only [codec_put.l0]
    have e1 : wrap64 ((i : Int) + 1) = ((i + 1 : Nat) : Int) := by rw [w64_id (by omega) (by omega)]; omega
    simp only [if_pos (show ((i : Int) < (l.length : Int)) by omega), if_pos (show (0 : Int) ≤ (i : Int) by omega), e1]
    have hm := rdT_mem hlt
    have hb : leafB (rd_T24 l (i : Int)) = true := by
      have := List.all_eq_true.1 hp _ hm
      simp [fieldB] at this
      exact this.2
    have hlen := encL_len hb (hw _ hm)
    refine Ev.bind (ev_codec_put_leaf hb (hw _ hm)) ?_
    simp only [if_pos (show acc.length + (encL (rd_T24 l (i : Int))).length < 140737488355328 by omega)]
    rw [rdT_drop hlt, List.flatMap_cons, ← List.append_assoc]
    exact ih (i + 1) _ (by omega) (by simp; omega)
theorem ev_codec_put {v : S24} (h : plainB v = true) (hi : In v) : Ev (fun k => codec_put.f k v.f0 v.f1 v.f2 v.f3 v.f4) (encV v) := by
  unfold encV
  by_cases h4 : v.f0 = 4
  · rw [if_pos h4]
    obtain ⟨a, b, c, d⟩ := plain_rec h h4
    have h1 := putU_len (n := v.f3.toNat) (by omega)
    have h2 := putU_len (n := v.f4.length) (by omega)
    refine Ev.step (fun k => rfl) ?_
    simp only [codec_put.f, Option.bind_some]
    simp only [if_neg (show ¬ v.f0 = 1 by omega), if_neg (show ¬ v.f0 = 2 by omega), if_neg (show ¬ v.f0 = 3 by omega)]
    rw [u64_id (n := v.f3) (by omega) (by omega), u64_id (n := (v.f4.length : Int)) (by omega) (by omega)]
    refine Ev.bind (ev_codec_PutUint' a (by omega)) ?_
    simp only [List.length_singleton, if_pos (show 1 + (putU v.f3.toNat).length < 140737488355328 by omega)]
    refine Ev.bind (ev_codec_PutUint (by omega)) ?_
    simp only [List.length_append, List.length_singleton, if_pos (show 1 + (putU v.f3.toNat).length + (putU v.f4.length).length < 140737488355328 by omega)]
    have := ev_codec_put_l0 v.f4 c d (fun x hx => (hi.2.2 x hx).1) v.f4.length 0 ([v.f0 % 256] ++ putU v.f3.toNat ++ putU v.f4.length) (by omega) (by simp only [List.length_append, List.length_singleton]; omega)
    rw [List.drop_zero] at this
    exact this
  · rw [if_neg h4]
    have : plainB v = leafB v := by unfold plainB; rw [if_neg h4]
    exact ev_codec_put_leaf (this ▸ h) hi.1
theorem ev_codec_PutValue {v : S24} (hi : In v) : Ev (fun k => codec_PutValue.f k v.f0 v.f1 v.f2 v.f3 v.f4) (pv v) := by
  unfold codec_PutValue.f pv
  refine Ev.bind (ev_codec_Plain v hi.2.1) ?_
  by_cases h : plainB v = true
  · simp only [if_pos h]
    exact Ev.bind (ev_codec_put h hi) (Ev.now _)
  · simp only [if_neg h]
    exact Ev.now _

theorem ev_codec_PutEvent_l0 (l : List S24) (hl : l.length ≤ 12) (hi : ∀ v ∈ l, In v) : ∀ (d i : Nat) (acc : List Int), i + d = l.length → acc.length + 1000 * d < 100000 →
    Ev (fun k => codec_PutEvent.l0 k acc l (l.length : Int) (i : Int)) (if (l.drop i).all plainB = true then (acc ++ (l.drop i).flatMap encV, 0) else ([], 20)) := by
  intro d
  induction d with
  | zero =>
    intro i acc hi' ha
    refine Ev.step (fun k => rfl) ?_
    simp only [codec_PutEvent.l0]
    simp only [if_neg (show ¬ ((i : Int) < (l.length : Int)) by omega)]
    rw [List.drop_eq_nil_of_le (by omega)]
    exact ev_eq (by simp)
  | succ d ih =>
    intro i acc hi' ha
    have hlt : i < l.length := by omega
    refine Ev.step (fun k => rfl) ?_
    simp only [codec_PutEvent.l0]
    have e1 : wrap64 ((i : Int) + 1) = ((i + 1 : Nat) : Int) := by rw [w64_id (by omega) (by omega)]; omega
    simp only [if_pos (show ((i : Int) < (l.length : Int)) by omega), if_pos (show (0 : Int) ≤ (i : Int) by omega), e1]
    have hm := hi _ (rdT_mem hlt)
    refine Ev.bind (ev_codec_PutValue hm) ?_
    rw [rdT_drop hlt, List.all_cons, List.flatMap_cons]
    unfold pv
    by_cases hp : plainB (rd_T24 l (i : Int)) = true
    · have hlen := encV_len hp hm
      simp only [if_pos hp, if_true, hp, Bool.true_and, if_pos (show acc.length + (encV (rd_T24 l (i : Int))).length < 140737488355328 by omega)]
      rw [← List.append_assoc]
      exact ih (i + 1) _ (by omega) (by simp; omega)
    · simp only [if_neg hp, if_neg (show ¬ ((20 : Int) = 0) by decide)]
      exact ev_eq (by simp [hp])
theorem ev_codec_PutEvent {s : ByteArray} {l : List S24} (hs : s.size ≤ 140737488351232) (hl : l.length ≤ 9223372036854775807) (hi : ∀ v ∈ l, In v) : Ev (fun k => codec_PutEvent.f k s l) (pe s l) := by
  have hj : ∀ b : Bool, (b = false → s.size ≤ 20 ∧ l.length ≤ 12) → Ev (fun k => codec_PutEvent.j0 k b s l) (if b = true then ([], 20) else if l.all plainB = true then (putU s.size ++ bytesOf s ++ putU l.length ++ l.flatMap encV, 0) else ([], 20)) := by
    intro b hb
    refine Ev.step (fun k => rfl) ?_
    simp only [codec_PutEvent.j0]
    cases b
    · obtain ⟨h1, h2⟩ := hb rfl
      have p1 := putU_len (n := s.size) (by omega)
      have p2 := putU_len (n := l.length) (by omega)
      simp only [if_neg (show ¬ (false = true) by decide)]
      rw [u64_id (n := (l.length : Int)) (by omega) (by omega)]
      refine Ev.bind (ev_codec_PutText hs) ?_
      refine Ev.bind (ev_codec_PutUint (by omega)) ?_
      simp only [List.length_append, bytesOf_length, if_pos (show (putU s.size).length + s.size + (putU l.length).length < 140737488355328 by omega)]
      have := ev_codec_PutEvent_l0 l h2 hi l.length 0 (putU s.size ++ bytesOf s ++ putU l.length) (by omega) (by simp only [List.length_append, bytesOf_length]; omega)
      rw [List.drop_zero] at this
      exact this
    · simp only [if_true]
      exact Ev.now _
  unfold codec_PutEvent.f pe
  by_cases h1 : s.size < 1
  · simp only [if_pos (show (s.size : Int) < 1 by omega)]
    rw [if_pos (.inl h1)]
    exact hj true (by simp)
  · simp only [if_neg (show ¬ ((s.size : Int) < 1) by omega)]
    by_cases h2 : s.size > 20
    · simp only [if_pos (show (s.size : Int) > 20 by omega)]
      rw [if_pos (.inr (.inl h2))]
      exact hj true (by simp)
    · simp only [if_neg (show ¬ ((s.size : Int) > 20) by omega)]
      by_cases h3 : l.length > 12
      · rw [if_pos (.inr (.inr h3)), decide_eq_true (show ((l.length : Int) > 12) by omega)]
        exact hj true (by simp)
      · rw [if_neg (by omega), decide_eq_false (show ¬ ((l.length : Int) > 12) by omega)]
        exact hj false (fun _ => ⟨by omega, by omega⟩)
theorem ev_Small_l1 (v : S24) (hi : In v) (i : Nat) (hlt : i < v.f4.length) (hnext : ∃ b, Ev (fun k => windlasshelp_Small.l0 k (((i + 1 : Nat) : Int)) v.f0 v.f1 v.f2 v.f3 v.f4) b) :
    ∀ d j : Nat, j + d = (rd_T24 v.f4 (i : Int)).f4.length → ∃ b, Ev (fun k => windlasshelp_Small.l1 k (i : Int) (j : Int) v.f0 v.f1 v.f2 v.f3 v.f4) b := by
  have hb := hi.2.1
  have hb2 := (hi.2.2 _ (rdT_mem hlt)).2
  have e1 : wrap64 ((i : Int) + 1) = ((i + 1 : Nat) : Int) := by rw [w64_id (by omega) (by omega)]; omega
  intro d
  induction d with
  | zero =>
    intro j hj
    obtain ⟨b, h⟩ := hnext
    refine ⟨b, Ev.step (fun k => rfl) ?_⟩
    simp only [windlasshelp_Small.l1]
    simp only [if_pos (show (0 : Int) ≤ (i : Int) by omega), if_pos (show ((i : Int) < (v.f4.length : Int)) by omega), if_neg (show ¬ ((j : Int) < ((rd_T24 v.f4 (i : Int)).f4.length : Int)) by omega), e1]
    exact h
  | succ d ih =>
    intro j hj
    have e2 : wrap64 ((j : Int) + 1) = ((j + 1 : Nat) : Int) := by rw [w64_id (by omega) (by omega)]; omega
    by_cases c1 : ((rd_T24 (rd_T24 v.f4 (i : Int)).f4 (j : Int)).f4.length : Int) > 0
    · refine ⟨false, Ev.step (fun k => rfl) ?_⟩
      simp only [windlasshelp_Small.l1]
      simp only [if_pos (show (0 : Int) ≤ (i : Int) by omega), if_pos (show ((i : Int) < (v.f4.length : Int)) by omega), if_pos (show ((j : Int) < ((rd_T24 v.f4 (i : Int)).f4.length : Int)) by omega), if_pos (show (0 : Int) ≤ (j : Int) by omega), if_pos c1]
      exact Ev.now _
    · by_cases c2 : ((rd_T24 (rd_T24 v.f4 (i : Int)).f4 (j : Int)).f2.size : Int) > 300
      · refine ⟨false, Ev.step (fun k => rfl) ?_⟩
        simp only [windlasshelp_Small.l1]
        simp only [if_pos (show (0 : Int) ≤ (i : Int) by omega), if_pos (show ((i : Int) < (v.f4.length : Int)) by omega), if_pos (show ((j : Int) < ((rd_T24 v.f4 (i : Int)).f4.length : Int)) by omega), if_pos (show (0 : Int) ≤ (j : Int) by omega), if_neg c1, if_pos c2]
        exact Ev.now _
      · obtain ⟨b, h⟩ := ih (j + 1) (by omega)
        refine ⟨b, Ev.step (fun k => rfl) ?_⟩
        simp only [windlasshelp_Small.l1]
        simp only [if_pos (show (0 : Int) ≤ (i : Int) by omega), if_pos (show ((i : Int) < (v.f4.length : Int)) by omega), if_pos (show ((j : Int) < ((rd_T24 v.f4 (i : Int)).f4.length : Int)) by omega), if_pos (show (0 : Int) ≤ (j : Int) by omega), if_neg c1, if_neg c2, e2]
        exact h
theorem ev_Small_l0 (v : S24) (hi : In v) : ∀ d i : Nat, i + d = v.f4.length → ∃ b, Ev (fun k => windlasshelp_Small.l0 k (i : Int) v.f0 v.f1 v.f2 v.f3 v.f4) b := by
  intro d
  have hb := hi.2.1
  induction d with
  | zero =>
    intro i hi'
    refine ⟨true, Ev.step (fun k => rfl) ?_⟩
    simp only [windlasshelp_Small.l0]
    simp only [if_neg (show ¬ ((i : Int) < (v.f4.length : Int)) by omega)]
    exact Ev.now _
  | succ d ih =>
    intro i hi'
    have hlt : i < v.f4.length := by omega
    have hj2 : ∀ c : Bool, ∃ b, Ev (fun k => windlasshelp_Small.j2 k (i : Int) c v.f0 v.f1 v.f2 v.f3 v.f4) b := by
      intro c
      cases c
      · obtain ⟨b, h⟩ := ev_Small_l1 v hi i hlt (ih (i + 1) (by omega)) _ 0 (Nat.zero_add _)
        refine ⟨b, Ev.step (fun k => rfl) ?_⟩
        simp only [windlasshelp_Small.j2]
        simp only [if_neg (show ¬ (false = true) by decide)]
        exact h
      · refine ⟨false, Ev.step (fun k => rfl) ?_⟩
        simp only [windlasshelp_Small.j2, if_true]
        exact Ev.now _
    by_cases c : ((rd_T24 v.f4 (i : Int)).f2.size : Int) > 300
    · obtain ⟨b, h⟩ := hj2 true
      refine ⟨b, Ev.step (fun k => rfl) ?_⟩
      simp only [windlasshelp_Small.l0]
      simp only [if_pos (show ((i : Int) < (v.f4.length : Int)) by omega), if_pos (show (0 : Int) ≤ (i : Int) by omega), if_pos c]
      exact h
    · obtain ⟨b, h⟩ := hj2 (decide (((rd_T24 v.f4 (i : Int)).f4.length : Int) > 3))
      refine ⟨b, Ev.step (fun k => rfl) ?_⟩
      simp only [windlasshelp_Small.l0]
      simp only [if_pos (show ((i : Int) < (v.f4.length : Int)) by omega), if_pos (show (0 : Int) ≤ (i : Int) by omega), if_neg c]
      exact h
theorem ev_Small {v : S24} (hi : In v) : ∃ b, Ev (fun k => windlasshelp_Small.f k v.f0 v.f1 v.f2 v.f3 v.f4) b := by
  have hj : ∀ c : Bool, ∃ b, Ev (fun k => windlasshelp_Small.j0 k c v.f0 v.f1 v.f2 v.f3 v.f4) b := by
    intro c
    cases c
    · obtain ⟨b, h⟩ := ev_Small_l0 v hi _ 0 (Nat.zero_add _)
      refine ⟨b, Ev.step (fun k => rfl) ?_⟩
      simp only [windlasshelp_Small.j0]
      simp only [if_neg (show ¬ (false = true) by decide)]
      exact h
    · refine ⟨false, Ev.step (fun k => rfl) ?_⟩
      simp only [windlasshelp_Small.j0, if_true]
      exact Ev.now _
  unfold windlasshelp_Small.f
  by_cases c : (v.f2.size : Int) > 300
  · simp only [if_pos c]; exact hj _
  · simp only [if_neg c]; exact hj _
theorem ev_Smalls_l0 (l : List S24) (hl : l.length ≤ 9223372036854775807) (hi : ∀ v ∈ l, In v) : ∀ d i : Nat, i + d = l.length → ∃ b, Ev (fun k => windlasshelp_Smalls.l0 k l (i : Int)) b ∧ (b = true → l.length ≤ 20) := by
  intro d
  induction d with
  | zero =>
    intro i hi'
    refine ⟨decide ((l.length : Int) ≤ 20), Ev.step (fun k => rfl) ?_, fun h => by have := of_decide_eq_true h; omega⟩
    simp only [windlasshelp_Smalls.l0]
    simp only [if_neg (show ¬ ((i : Int) < (l.length : Int)) by omega)]
    exact Ev.now _
  | succ d ih =>
    intro i hi'
    have hlt : i < l.length := by omega
    have e1 : wrap64 ((i : Int) + 1) = ((i + 1 : Nat) : Int) := by rw [w64_id (by omega) (by omega)]; omega
    obtain ⟨b, hb⟩ := ev_Small (hi _ (rdT_mem hlt))
    cases b with
    | false =>
      refine ⟨false, Ev.step (fun k => rfl) ?_, by simp⟩
      simp only [windlasshelp_Smalls.l0]
      simp only [if_pos (show ((i : Int) < (l.length : Int)) by omega), if_pos (show (0 : Int) ≤ (i : Int) by omega)]
      refine Ev.bind hb ?_
      simp only [if_neg (show ¬ (false = true) by decide)]
      exact Ev.now _
    | true =>
      obtain ⟨c, hc, hq⟩ := ih (i + 1) (by omega)
      refine ⟨c, Ev.step (fun k => rfl) ?_, hq⟩
      simp only [windlasshelp_Smalls.l0]
      simp only [if_pos (show ((i : Int) < (l.length : Int)) by omega), if_pos (show (0 : Int) ≤ (i : Int) by omega), e1]
      refine Ev.bind hb ?_
      simp only [if_true]
      exact hc
theorem ev_Smalls {l : List S24} (hl : l.length ≤ 9223372036854775807) (hi : ∀ v ∈ l, In v) : ∃ b, Ev (fun k => windlasshelp_Smalls.f k l) b ∧ (b = true → l.length ≤ 20) := by
  unfold windlasshelp_Smalls.f
  exact ev_Smalls_l0 l hl hi _ 0 (Nat.zero_add _)
theorem bytes_same (a : List Int) : windlasshelp_Bytes.f a a = some true := by
  unfold windlasshelp_Bytes.f
  rw [beq_self_eq_true]
end Go.Proofs.Ythbnblmnamckmaa.Q
/-
  What the code's and the reference's Text compute. Conditions: the bytes are bytes, and no more than a slice may have.
-/
namespace Go.Proofs.Ythbnblmnamckmaa.Q
open Go.RowKit Go.Proofs.Ythbnblmnamckmaa.PAll Go.Proofs.YthbnblmnamckmaaW.PrintWords Go.Proofs.YthbnblmnamckmaaW.PrintLast Go.Proofs.YthbnblmnamckmaaW.PrintMore
set_option linter.unusedVariables false
set_option linter.unusedSimpArgs false

def resT (most : Int) (l : List Int) : Option (Int × Nat) → ByteArray × Int × Int
  | none => ((⟨#[]⟩ : ByteArray), 0, 20)
  | some r => if r.1 > most then ((⟨#[]⟩ : ByteArray), 0, 21) else if r.1 > (l.length : Int) - r.2 then ((⟨#[]⟩ : ByteArray), 0, 20) else (strOfNums ((l.take (r.2 + r.1.toNat)).drop r.2), (r.2 : Int) + r.1, 0)

theorem strOf_size (l : List Int) : (strOfNums l).size = l.length := by simp [strOfNums, ByteArray.size]
theorem strOf_bytesOf (s : ByteArray) : strOfNums (bytesOf s) = s := by
  unfold strOfNums bytesOf
  apply ByteArray.ext
  simp only [List.map_map]
  apply Array.ext'
  simp only
  conv => rhs; rw [← List.map_id s.data.toList]
  apply List.map_congr_left
  intro b _
  simp

theorem ev_codec_Text {l : List Int} (hb : Bytes l) (hl : l.length ≤ 140737488351232) : Ev (fun k => codec_Text.f k l) (resT 64 l (decU 0 l)) := by
  unfold codec_Text.f
  refine Ev.bind (ev_codec_Uint hb) ?_
  cases h : decU 0 l with
  | none =>
    simp only [resU_none, if_neg (show ¬ ((20 : Int) = 0) by decide)]
    exact Ev.now _
  | some r =>
    obtain ⟨n, len⟩ := r
    have hbd := decU_top hb h
    simp only [resU_some, if_true]
    unfold resT
    by_cases h1 : n > 64
    · simp only [if_pos h1]; exact Ev.now _
    · simp only [if_neg h1, w64_id (n := n) (by omega) (by omega), w64_id (n := (l.length : Int) - (len : Int)) (by omega) (by omega), w64_id (n := (len : Int) + n) (by omega) (by omega), w64_id (n := (len : Int) + n - n) (by omega) (by omega)]
      by_cases h2 : n > (l.length : Int) - len
      · simp only [if_pos h2]; exact Ev.now _
      · have e1 : ((len : Int) + n).toNat = len + n.toNat := by omega
        have e2 : ((len : Int) + n - n).toNat = len := by omega
        simp only [if_neg h2, if_pos (show (0 : Int) ≤ (len : Int) + n - n by omega), if_pos (show (len : Int) + n - n ≤ (len : Int) + n by omega), if_pos (show (len : Int) + n ≤ (l.length : Int) by omega), e1, e2]
        unfold strings_Clone.f stringslite_Clone.f
        simp only [strOf_size, if_pos (show ((l.take (len + n.toNat)).drop len).length ≤ 281474976710656 by simp; omega), Option.bind_some]
        exact Ev.now _
theorem resT_put {s : ByteArray} (hs : s.size ≤ 140737488351232) (more : List Int) : resT 64 (putU s.size ++ bytesOf s ++ more) (decU 0 (putU s.size ++ bytesOf s ++ more)) = if s.size > 64 then ((⟨#[]⟩ : ByteArray), 0, 21) else (s, ((putU s.size ++ bytesOf s).length : Int), 0) := by
  rw [List.append_assoc, decU_put (by omega)]
  unfold resT
  simp only [List.length_append, bytesOf_length]
  by_cases h : s.size > 64
  · rw [if_pos (by omega), if_pos h]
  · rw [if_neg (by omega), if_neg (by omega), if_neg h]
    have e : ((putU s.size ++ (bytesOf s ++ more)).take ((putU s.size).length + ((s.size : Int)).toNat)).drop (putU s.size).length = bytesOf s := by
      rw [Int.toNat_natCast, List.take_append, List.take_of_length_le (by omega), Nat.add_sub_cancel_left, List.drop_append, List.drop_of_length_le (Nat.le_refl _), Nat.sub_self, List.drop_zero, List.nil_append, List.take_append, ← bytesOf_length, List.take_length, Nat.sub_self, List.take_zero, List.append_nil]
    rw [e, strOf_bytesOf]
    simp
end Go.Proofs.Ythbnblmnamckmaa.Q
/-
  Plain facts on values as bytes: what stands at a row's beginning as a value (decV), and that it is the way back from encV. No program stands here. Conditions: those named in each lemma.
-/
namespace Go.Proofs.Ythbnblmnamckmaa.Q
open Go.RowKit Go.Proofs.Ythbnblmnamckmaa.PAll Go.Proofs.YthbnblmnamckmaaW.PrintWords Go.Proofs.YthbnblmnamckmaaW.PrintLast Go.Proofs.YthbnblmnamckmaaW.PrintMore
set_option linter.unusedVariables false
set_option linter.unusedSimpArgs false
abbrev V := S24
abbrev e0 : ByteArray := ⟨#[]⟩

/-- A text at a row's beginning. -/
def decT (most : Int) (l : List Int) : Option (ByteArray × Nat) :=
  match decU 0 l with
  | none => none
  | some r => if r.1 > most then none else if r.1 > (l.length : Int) - r.2 then none else some (strOfNums ((l.take (r.2 + r.1.toNat)).drop r.2), r.2 + r.1.toNat)
/-- What is no record. -/
def decL : List Int → Option (V × Nat)
  | [] => none
  | c :: t =>
    if c = 1 then (decU 0 t).map fun r => (⟨1, zag r.1, e0, 0, []⟩, r.2 + 1)
    else if c = 2 then (decT 64 t).map fun r => (⟨2, 0, r.1, 0, []⟩, r.2 + 1)
    else if c = 3 then match t with
      | [] => none
      | d :: _ => if d > 1 then none else some (⟨3, d, e0, 0, []⟩, 2)
    else none
/-- So many that are no records. -/
def decFs : Nat → List Int → Option (List V × Nat)
  | 0, _ => some ([], 0)
  | k + 1, l => match decL l with
    | none => none
    | some r => (decFs k (l.drop r.2)).map fun q => (r.1 :: q.1, r.2 + q.2)
/-- A record, behind its kind. -/
def decR (t : List Int) : Option (V × Nat) :=
  match decU 0 t with
  | none => none
  | some r => if r.1 > 15 then none else match decU 0 (t.drop r.2) with
    | none => none
    | some c => if c.1 > 12 then none else (decFs c.1.toNat (t.drop (r.2 + c.2))).map fun q => (⟨4, 0, e0, r.1, q.1⟩, r.2 + c.2 + q.2 + 1)
/-- A value; records, or none. -/
def decV (rec : Bool) : List Int → Option (V × Nat)
  | [] => none
  | c :: t => if c = 4 then (if rec = true then decR t else none) else decL (c :: t)
/-- So many values. -/
def decVs : Nat → List Int → Option (List V × Nat)
  | 0, _ => some ([], 0)
  | k + 1, l => match decV true l with
    | none => none
    | some r => (decVs k (l.drop r.2)).map fun q => (r.1 :: q.1, r.2 + q.2)

theorem Bytes.tail {c : Int} {t : List Int} (h : Bytes (c :: t)) : Bytes t := fun x hx => h x (List.mem_cons_of_mem _ hx)
theorem Bytes.head {c : Int} {t : List Int} (h : Bytes (c :: t)) : 0 ≤ c ∧ c ≤ 255 := h c (List.mem_cons_self ..)
theorem Bytes.app {a b : List Int} (ha : Bytes a) (hb : Bytes b) : Bytes (a ++ b) := fun x hx => (List.mem_append.1 hx).elim (ha x) (hb x)
theorem bytes_of (s : ByteArray) : Bytes (bytesOf s) := by
  intro x hx
  unfold bytesOf at hx
  obtain ⟨b, _, rfl⟩ := List.mem_map.1 hx
  have := b.toNat_lt
  omega

/-! ### how much is read -/
theorem decT_len {most : Int} {l : List Int} {s : ByteArray} {m : Nat} (hb : Bytes l) (h : decT most l = some (s, m)) : 1 ≤ m ∧ m ≤ l.length := by
  unfold decT at h
  cases hd : decU 0 l with
  | none => rw [hd] at h; simp at h
  | some r =>
    obtain ⟨n, len⟩ := r
    rw [hd] at h
    have hbd := decU_top hb hd
    simp only at h
    split at h
    · simp at h
    · split at h
      · simp at h
      · simp only [Option.some.injEq, Prod.mk.injEq] at h
        omega
theorem decL_len {l : List Int} {v : V} {m : Nat} (hb : Bytes l) (h : decL l = some (v, m)) : 1 ≤ m ∧ m ≤ l.length := by
  cases l with
  | nil => simp [decL] at h
  | cons c t =>
    simp only [decL] at h
    split at h
    · obtain ⟨r, hr, hq⟩ := Option.map_eq_some_iff.1 h
      have := decU_top hb.tail hr
      simp only [Prod.mk.injEq] at hq
      simp only [List.length_cons]
      omega
    · split at h
      · obtain ⟨r, hr, hq⟩ := Option.map_eq_some_iff.1 h
        have := decT_len hb.tail hr
        simp only [Prod.mk.injEq] at hq
        simp only [List.length_cons]
        omega
      · split at h
        · cases t with
          | nil => simp at h
          | cons d t =>
            simp only at h
            split at h
            · simp at h
            · simp only [Option.some.injEq, Prod.mk.injEq] at h
              simp only [List.length_cons]
              omega
        · simp at h
theorem decFs_len : ∀ (k : Nat) (l : List Int) (fs : List V) (m : Nat), Bytes l → decFs k l = some (fs, m) → fs.length = k ∧ m ≤ l.length
  | 0, l, fs, m, _, h => by
    simp only [decFs, Option.some.injEq, Prod.mk.injEq] at h
    obtain ⟨rfl, rfl⟩ := h
    simp
  | k + 1, l, fs, m, hb, h => by
    simp only [decFs] at h
    split at h
    · simp at h
    · rename_i r hr
      obtain ⟨q, hq, he⟩ := Option.map_eq_some_iff.1 h
      simp only [Prod.mk.injEq] at he
      obtain ⟨rfl, rfl⟩ := he
      have h1 := decL_len hb hr
      have h2 := decFs_len k _ q.1 q.2 (hb.drop _) hq
      simp only [List.length_drop] at h2
      simp only [List.length_cons]
      omega
theorem decR_len {t : List Int} {v : V} {m : Nat} (hb : Bytes t) (h : decR t = some (v, m)) : 1 ≤ m ∧ m ≤ t.length + 1 ∧ v.f4.length ≤ 12 := by
  unfold decR at h
  split at h
  · simp at h
  · rename_i r hr
    split at h
    · simp at h
    · split at h
      · simp at h
      · rename_i c hc
        split at h
        · simp at h
        · obtain ⟨q, hq, he⟩ := Option.map_eq_some_iff.1 h
          simp only [Prod.mk.injEq] at he
          obtain ⟨rfl, rfl⟩ := he
          have h1 := decU_top hb hr
          have h2 := decU_top (hb.drop _) hc
          have h3 := decFs_len _ _ q.1 q.2 (hb.drop _) hq
          simp only [List.length_drop] at h2 h3
          simp only
          omega
theorem decV_len {rec : Bool} {l : List Int} {v : V} {m : Nat} (hb : Bytes l) (h : decV rec l = some (v, m)) : 1 ≤ m ∧ m ≤ l.length := by
  cases l with
  | nil => simp [decV] at h
  | cons c t =>
    simp only [decV] at h
    split at h
    · split at h
      · have := decR_len hb.tail h
        simp only [List.length_cons]
        omega
      · simp at h
    · exact decL_len hb h

/-! ### what is written is read again -/
theorem ext_empty {s : ByteArray} (h : s.toList = []) : s = e0 := by
  apply ByteArray.ext
  rw [Lib.toList_data] at h
  exact Array.toList_eq_nil_iff.1 h
theorem leaf_is {v : V} (h : leafB v = true) : v.f3 = 0 ∧ v.f4 = [] ∧ ((v.f0 = 1 ∧ v.f2 = e0) ∨ (v.f0 = 2 ∧ v.f1 = 0 ∧ v.f2.size ≤ 64) ∨ (v.f0 = 3 ∧ v.f2 = e0 ∧ (v.f1 = 0 ∨ v.f1 = 1))) := by
  unfold leafB leafOf bareB at h
  split at h
  · simp only [Bool.and_eq_true, decide_eq_true_eq, beq_iff_eq] at h
    exact ⟨h.1.1, List.eq_nil_of_length_eq_zero h.1.2, .inl ⟨‹_›, ext_empty h.2⟩⟩
  · split at h
    · simp only [Bool.and_eq_true, decide_eq_true_eq] at h
      exact ⟨h.1.1.1, List.eq_nil_of_length_eq_zero h.1.1.2, .inr (.inl ⟨‹_›, h.1.2, h.2⟩)⟩
    · split at h
      · simp only [Bool.and_eq_true, decide_eq_true_eq, beq_iff_eq, Bool.or_eq_true] at h
        exact ⟨h.1.1.1, List.eq_nil_of_length_eq_zero h.1.1.2, .inr (.inr ⟨‹_›, ext_empty h.1.2, h.2⟩)⟩
      · simp at h
theorem decT_put {s : ByteArray} (hs : s.size ≤ 64) (more : List Int) : decT 64 (putU s.size ++ bytesOf s ++ more) = some (s, (putU s.size).length + s.size) := by
  rw [List.append_assoc]
  unfold decT
  rw [decU_put (by omega)]
  simp only [List.length_append, bytesOf_length]
  rw [if_neg (by omega), if_neg (by omega)]
  have e : ((putU s.size ++ (bytesOf s ++ more)).take ((putU s.size).length + ((s.size : Int)).toNat)).drop (putU s.size).length = bytesOf s := by
    rw [Int.toNat_natCast, List.take_append, List.take_of_length_le (by omega), Nat.add_sub_cancel_left, List.drop_append, List.drop_of_length_le (Nat.le_refl _), Nat.sub_self, List.drop_zero, List.nil_append, List.take_append, ← bytesOf_length, List.take_length, Nat.sub_self, List.take_zero, List.append_nil]
  rw [e, strOf_bytesOf, Int.toNat_natCast]
theorem decL_encL {v : V} (h : leafB v = true) (hf : -9223372036854775808 ≤ v.f1 ∧ v.f1 ≤ 9223372036854775807) (more : List Int) : decL (encL v ++ more) = some (v, (encL v).length) := by
  obtain ⟨f0, f1, f2, f3, f4⟩ := v
  obtain ⟨h3, h4, hk⟩ := leaf_is h
  simp only at h3 h4 hk hf
  subst h3 h4
  unfold encL
  rcases hk with ⟨rfl, rfl⟩ | ⟨rfl, rfl, hs⟩ | ⟨rfl, rfl, h1⟩
  · simp only [if_true, List.cons_append, List.nil_append, List.append_assoc, decL, List.length_cons]
    simp only [show ((1 : Int) % 256) = 1 by decide, if_true]
    rw [decU_put (zig_lt hf.1 hf.2)]
    simp [zag_zig]
  · simp only [if_neg (show ¬ ((2 : Int) = 1) by decide), if_true, List.cons_append, List.nil_append, decL, List.length_cons]
    simp only [show ((2 : Int) % 256) = 2 by decide, if_neg (show ¬ ((2 : Int) = 1) by decide), if_true]
    rw [decT_put hs]
    simp [bytesOf_length]
  · simp only [if_neg (show ¬ ((3 : Int) = 1) by decide), if_neg (show ¬ ((3 : Int) = 2) by decide), List.cons_append, List.nil_append, decL, List.length_cons]
    simp only [show ((3 : Int) % 256) = 3 by decide, if_neg (show ¬ ((3 : Int) = 1) by decide), if_neg (show ¬ ((3 : Int) = 2) by decide), if_true]
    have e : f1 % 256 = f1 := by omega
    rw [e, if_neg (by omega)]
    rfl
theorem decFs_flat : ∀ (l : List V), l.all fieldB = true → (∀ v ∈ l, -9223372036854775808 ≤ v.f1 ∧ v.f1 ≤ 9223372036854775807) → ∀ more, decFs l.length (l.flatMap encL ++ more) = some (l, (l.flatMap encL).length)
  | [], _, _, more => by simp [decFs]
  | v :: l, hp, hw, more => by
    rw [List.all_cons, Bool.and_eq_true] at hp
    have hb : leafB v = true := by have := hp.1; simp [fieldB] at this; exact this.2
    simp only [List.length_cons, decFs, List.flatMap_cons, List.append_assoc]
    rw [decL_encL hb (hw v (List.mem_cons_self ..))]
    simp only
    rw [List.drop_append, List.drop_of_length_le (Nat.le_refl _), Nat.sub_self, List.drop_zero, List.nil_append, decFs_flat l hp.2 (fun x hx => hw x (List.mem_cons_of_mem _ hx)) more]
    simp
theorem decV_encV {v : V} (h : plainB v = true) (hi : In v) (more : List Int) : decV true (encV v ++ more) = some (v, (encV v).length) := by
  unfold encV
  by_cases h4 : v.f0 = 4
  · rw [if_pos h4]
    obtain ⟨a, b, c, d⟩ := plain_rec h h4
    have hx : v.f1 = 0 ∧ v.f2 = e0 := by
      unfold plainB at h
      rw [if_pos h4] at h
      simp only [Bool.and_eq_true, decide_eq_true_eq, beq_iff_eq] at h
      exact ⟨h.1.1.1.1.1, ext_empty h.1.1.1.1.2⟩
    obtain ⟨f0, f1, f2, f3, f4⟩ := v
    simp only at h4 a b c d hx hi ⊢
    obtain ⟨rfl, rfl⟩ := hx
    subst h4
    simp only [List.cons_append, List.nil_append, List.append_assoc, decV, List.length_cons]
    simp only [show ((4 : Int) % 256) = 4 by decide, if_true]
    unfold decR
    rw [decU_put (by omega)]
    have e1 : ((f3.toNat : Nat) : Int) = f3 := Int.toNat_of_nonneg a
    simp only [e1]
    rw [if_neg (by omega), List.drop_append, List.drop_of_length_le (Nat.le_refl _), Nat.sub_self, List.drop_zero, List.nil_append, decU_put (by omega)]
    simp only
    rw [if_neg (by omega), ← List.drop_drop, List.drop_append, List.drop_of_length_le (Nat.le_refl _), Nat.sub_self, List.drop_zero, List.nil_append, List.drop_append, List.drop_of_length_le (Nat.le_refl _), Nat.sub_self, List.drop_zero, List.nil_append, Int.toNat_natCast, decFs_flat f4 d (fun x hx => (hi.2.2 x hx).1)]
    simp [Nat.add_assoc]
  · rw [if_neg h4]
    have hl : plainB v = leafB v := by unfold plainB; rw [if_neg h4]
    have hb : leafB v = true := hl ▸ h
    have := decL_encL hb hi.1 more
    have hk := leaf_is hb
    have hc : v.f0 % 256 ≠ 4 := by omega
    have e : decV true (encL v ++ more) = decL (encL v ++ more) := by
      unfold encL
      simp only [List.cons_append, List.nil_append, decV]
      rw [if_neg hc]
    rw [e, this]

/-! ### what is read has these bytes -/
theorem bytesOf_strOf {l : List Int} (hb : Bytes l) : bytesOf (strOfNums l) = l := by
  unfold bytesOf strOfNums
  simp only [List.map_map]
  conv => rhs; rw [← List.map_id l]
  apply List.map_congr_left
  intro x hx
  have := hb x hx
  simp only [Function.comp_apply, id_eq, UInt8.toNat_ofNat']
  omega
theorem decT_back {most : Int} (hm : most ≤ 1000) {l : List Int} {s : ByteArray} {m : Nat} (hb : Bytes l) (h : decT most l = some (s, m)) : putU s.size ++ bytesOf s = l.take m ∧ (s.size : Int) ≤ most := by
  unfold decT at h
  cases hd : decU 0 l with
  | none => rw [hd] at h; simp at h
  | some r =>
    obtain ⟨n, len⟩ := r
    rw [hd] at h
    have hbd := decU_top hb hd
    have hp := put_dec hb hd
    simp only at h
    split at h
    · simp at h
    · split at h
      · simp at h
      · simp only [Option.some.injEq, Prod.mk.injEq] at h
        obtain ⟨rfl, rfl⟩ := h
        have hlen : ((l.take (len + n.toNat)).drop len).length = n.toNat := by simp; omega
        rw [strOf_size, hlen, hp, bytesOf_strOf (fun x hx => hb x (List.mem_of_mem_take (List.mem_of_mem_drop hx)))]
        refine ⟨?_, by omega⟩
        have : l.take len = (l.take (len + n.toNat)).take len := by rw [List.take_take, Nat.min_eq_left (by omega)]
        rw [this, List.take_append_drop]
theorem decL_back {l : List Int} {v : V} {m : Nat} (hb : Bytes l) (h : decL l = some (v, m)) : leafB v = true ∧ encL v = l.take m ∧ v.f0 ≠ 4 ∧ -9223372036854775808 ≤ v.f1 ∧ v.f1 ≤ 9223372036854775807 ∧ v.f4 = [] := by
  cases l with
  | nil => simp [decL] at h
  | cons c t =>
    have hc := hb.head
    simp only [decL] at h
    split at h
    · rename_i c1
      obtain ⟨r, hr, hq⟩ := Option.map_eq_some_iff.1 h
      obtain ⟨n, len⟩ := r
      simp only [Prod.mk.injEq] at hq
      obtain ⟨rfl, rfl⟩ := hq
      have hbd := decU_top hb.tail hr
      have hz := zag_range hbd.1 hbd.2.1
      have hp := put_dec hb.tail hr
      have e : zig (zag n) = n.toNat := by have := zig_zag hbd.1; omega
      refine ⟨by simp [leafB, leafOf, bareB, Lib.toList_data], ?_, by simp, hz.1, hz.2, rfl⟩
      unfold encL
      simp only [if_true, e, hp, c1, List.take_succ_cons]
      rfl
    · split at h
      · rename_i c2
        obtain ⟨r, hr, hq⟩ := Option.map_eq_some_iff.1 h
        obtain ⟨s, len⟩ := r
        simp only [Prod.mk.injEq] at hq
        obtain ⟨rfl, rfl⟩ := hq
        have hbk := decT_back (by decide) hb.tail hr
        refine ⟨by simp [leafB, leafOf, bareB]; omega, ?_, by simp, by simp, by simp, rfl⟩
        unfold encL
        simp only [if_neg (show ¬ ((2 : Int) = 1) by decide), if_true, hbk.1, c2, List.take_succ_cons]
        rfl
      · split at h
        · rename_i c3
          cases t with
          | nil => simp at h
          | cons d t =>
            have hd := hb.tail.head
            simp only at h
            split at h
            · simp at h
            · simp only [Option.some.injEq, Prod.mk.injEq] at h
              obtain ⟨rfl, rfl⟩ := h
              refine ⟨by simp [leafB, leafOf, bareB, Lib.toList_data]; omega, ?_, by simp, by simp only; omega, by simp only; omega, rfl⟩
              unfold encL
              have e : d % 256 = d := by omega
              simp only [if_neg (show ¬ ((3 : Int) = 1) by decide), if_neg (show ¬ ((3 : Int) = 2) by decide), e, c3, List.take_succ_cons, List.take_zero]
              rfl
        · simp at h
theorem take_two {l : List Int} {a b : Nat} : l.take a ++ (l.drop a).take b = l.take (a + b) := by rw [List.take_add]
theorem decFs_back : ∀ (k : Nat) (l : List Int) (fs : List V) (m : Nat), Bytes l → decFs k l = some (fs, m) → fs.all fieldB = true ∧ fs.flatMap encL = l.take m ∧ ∀ x ∈ fs, (-9223372036854775808 ≤ x.f1 ∧ x.f1 ≤ 9223372036854775807) ∧ x.f4 = []
  | 0, l, fs, m, _, h => by
    simp only [decFs, Option.some.injEq, Prod.mk.injEq] at h
    obtain ⟨rfl, rfl⟩ := h
    simp
  | k + 1, l, fs, m, hb, h => by
    simp only [decFs] at h
    split at h
    · simp at h
    · rename_i r hr
      obtain ⟨q, hq, he⟩ := Option.map_eq_some_iff.1 h
      simp only [Prod.mk.injEq] at he
      obtain ⟨rfl, rfl⟩ := he
      have h1 := decL_back hb hr
      have h2 := decFs_back k _ q.1 q.2 (hb.drop _) hq
      refine ⟨?_, ?_, ?_⟩
      · rw [List.all_cons, h2.1, Bool.and_true]
        simp [fieldB, h1.1, h1.2.2.1]
      · rw [List.flatMap_cons, h1.2.1, h2.2.1, take_two]
      · intro x hx
        rcases List.mem_cons.1 hx with rfl | hx
        · exact ⟨⟨h1.2.2.2.1, h1.2.2.2.2.1⟩, h1.2.2.2.2.2⟩
        · exact h2.2.2 x hx
/-- No fields within fields. -/
def Flat (v : V) : Prop := ∀ x ∈ v.f4, x.f4 = []
theorem decV_back {rec : Bool} {l : List Int} {v : V} {m : Nat} (hb : Bytes l) (h : decV rec l = some (v, m)) : plainB v = true ∧ encV v = l.take m ∧ In v ∧ Flat v := by
  cases l with
  | nil => simp [decV] at h
  | cons c t =>
    simp only [decV] at h
    split at h
    · rename_i c4
      split at h
      · unfold decR at h
        split at h
        · simp at h
        · rename_i r hr
          split at h
          · simp at h
          · split at h
            · simp at h
            · rename_i k hk
              split at h
              · simp at h
              · obtain ⟨q, hq, he⟩ := Option.map_eq_some_iff.1 h
                simp only [Prod.mk.injEq] at he
                obtain ⟨rfl, rfl⟩ := he
                have b1 := decU_top hb.tail hr
                have b2 := decU_top (hb.tail.drop _) hk
                have p1 := put_dec hb.tail hr
                have p2 := put_dec (hb.tail.drop _) hk
                have b3 := decFs_len _ _ q.1 q.2 (hb.tail.drop _) hq
                have b4 := decFs_back _ _ q.1 q.2 (hb.tail.drop _) hq
                refine ⟨?_, ?_, ⟨by simp, by simp only; omega, fun x hx => ⟨(b4.2.2 x hx).1, by rw [(b4.2.2 x hx).2]; simp⟩⟩, fun x hx => (b4.2.2 x hx).2⟩
                · simp only [plainB, if_true, b4.1, Bool.and_true, Bool.and_eq_true, decide_eq_true_eq, beq_iff_eq]
                  refine ⟨⟨⟨⟨trivial, by simp [Lib.toList_data]⟩, by omega⟩, by omega⟩, by omega⟩
                · simp only [encV, if_true, p1, b4.2.1, b3.1, p2, c4, List.take_succ_cons]
                  simp only [List.cons_append, List.nil_append, List.append_assoc]
                  congr 1
                  rw [← List.drop_drop, take_two, take_two, Nat.add_assoc]
      · simp at h
    · rename_i c4
      have h1 := decL_back hb h
      refine ⟨?_, ?_, ⟨⟨h1.2.2.2.1, h1.2.2.2.2.1⟩, by rw [h1.2.2.2.2.2]; simp, by rw [h1.2.2.2.2.2]; simp⟩, ?_⟩
      · unfold plainB; rw [if_neg h1.2.2.1]; exact h1.1
      · unfold encV; rw [if_neg h1.2.2.1]; exact h1.2.1
      · intro x hx; rw [h1.2.2.2.2.2] at hx; simp at hx
end Go.Proofs.Ythbnblmnamckmaa.Q
