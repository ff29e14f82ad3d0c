-- Laid by a program of this seat (wip/merge.py): PAllx44, Qe, Qf, PureCodecRows.
import Derived.Test.YthbnblmnamckmaaMCodecRows0
import Derived.Test.YthbnblmnamckmaaMCodecRows2
import Derived.Test.YthbnblmnamckmaaMCodecRows3
-- Laid by a program of this seat (wip/xprint.py over the kit's print).
namespace Go.Proofs.Ythbnblmnamckmaa.PAll
open Go.RowKit Go.Proofs.YthbnblmnamckmaaW.PrintWords Go.Proofs.YthbnblmnamckmaaW.PrintLast Go.Proofs.YthbnblmnamckmaaW.PrintMore
attribute [local go_sem] max2_int min2_int max_two min_two max_three min_three max_four min_four   -- for this text's walks alone
set_option linter.unusedVariables false
set_option linter.unusedSimpArgs false

/-! ### codec_Event: function 32 -/
mutual
def codec_Event.j0 : Nat → List Int → Int → Bool → ByteArray → Option (ByteArray × (List (S24)) × Int × Int)
 | 0, _, _, _, _ => none
 | k + 1, x585000, x585001, x585002, x590000 => (codec_reader_count.f k x585000 x585001 x585002 12).bind fun bt590 => (codec_Event.l0 k bt590.1 0 bt590.2.1 bt590.2.2.1 bt590.2.2.2 x590000 ([] : List (S24)))
def codec_Event.l0 : Nat → Int → Int → List Int → Int → Bool → ByteArray → List (S24) → Option (ByteArray × (List (S24)) × Int × Int)
 | 0, _, _, _, _, _, _, _ => none
 | k + 1, x33, x34, x585000, x585001, x585002, x590000, x590001 => if x34 < x33 then ((codec_reader_value.f k x585000 x585001 x585002 false).bind fun bt594 => (if x590001.length < 2199023255552 then (codec_Event.l0 k x33 (wrap64 (x34 + 1)) bt594.2.2.2.2.2.1 bt594.2.2.2.2.2.2.1 bt594.2.2.2.2.2.2.2 x590000 (x590001 ++ [(⟨bt594.1, bt594.2.1, bt594.2.2.1, bt594.2.2.2.1, bt594.2.2.2.2.1⟩ : S24)])) else (none))) else (if x585002 = true then (some ((⟨#[]⟩ : ByteArray), ([] : List (S24)), 0, 20)) else (some (x590000, x590001, x585001, 0)))
end
def codec_Event.f (k : Nat) (l0 : List Int) : Option (ByteArray × (List (S24)) × Int × Int) := (codec_reader_text.f k l0 0 false).bind fun bt585 => (if bt585.2.2.2 = true then (codec_Event.j0 k bt585.2.1 bt585.2.2.1 true bt585.1) else (if (bt585.1.size : Int) < 1 then (codec_Event.j0 k bt585.2.1 bt585.2.2.1 true bt585.1) else (codec_Event.j0 k bt585.2.1 bt585.2.2.1 (decide ((bt585.1.size : Int) > 20)) bt585.1)))
theorem codec_Event.mono_l : ∀ k, (∀ y0 y1 y2 y3, LeO (codec_Event.j0 k y0 y1 y2 y3) (codec_Event.j0 (k + 1) y0 y1 y2 y3)) ∧ (∀ y0 y1 y2 y3 y4 y5 y6, LeO (codec_Event.l0 k y0 y1 y2 y3 y4 y5 y6) (codec_Event.l0 (k + 1) y0 y1 y2 y3 y4 y5 y6))
 | 0 => ⟨fun _ _ _ _ r h => by simp [codec_Event.j0] at h, fun _ _ _ _ _ _ _ r h => by simp [codec_Event.l0] at h⟩
 | k + 1 => by
  obtain ⟨ih0, ih1⟩ := codec_Event.mono_l k
  refine ⟨?_, ?_⟩
  ·intro y0 y1 y2 y3
   unfold codec_Event.j0
   repeat' first
   | (with_reducible exact ih0 _ _ _ _)
   | (with_reducible exact ih1 _ _ _ _ _ _ _)
   | (with_reducible exact codec_reader_count.mono _ _ _ _ _)
   | (with_reducible exact codec_reader_text.mono _ _ _ _)
   | (with_reducible exact codec_reader_value.mono _ _ _ _ _)
   | (with_reducible exact LeO.refl _)
   | (with_reducible exact LeO.none _)
   | (with_reducible refine LeO.ite ?_ ?_)
   | (with_reducible refine LeO.bind ?_ (fun _ => ?_))
   | exact ih0 _ _ _ _
   | exact ih1 _ _ _ _ _ _ _
   | exact codec_reader_count.mono _ _ _ _ _
   | exact codec_reader_text.mono _ _ _ _
   | exact codec_reader_value.mono _ _ _ _ _
   | exact LeO.none _
   | refine LeO.ite ?_ ?_
   | refine LeO.bind ?_ (fun _ => ?_)
  ·intro y0 y1 y2 y3 y4 y5 y6
   unfold codec_Event.l0
   repeat' first
   | (with_reducible exact ih0 _ _ _ _)
   | (with_reducible exact ih1 _ _ _ _ _ _ _)
   | (with_reducible exact codec_reader_count.mono _ _ _ _ _)
   | (with_reducible exact codec_reader_text.mono _ _ _ _)
   | (with_reducible exact codec_reader_value.mono _ _ _ _ _)
   | (with_reducible exact LeO.refl _)
   | (with_reducible exact LeO.none _)
   | (with_reducible refine LeO.ite ?_ ?_)
   | (with_reducible refine LeO.bind ?_ (fun _ => ?_))
   | exact ih0 _ _ _ _
   | exact ih1 _ _ _ _ _ _ _
   | exact codec_reader_count.mono _ _ _ _ _
   | exact codec_reader_text.mono _ _ _ _
   | exact codec_reader_value.mono _ _ _ _ _
   | exact LeO.none _
   | refine LeO.ite ?_ ?_
   | refine LeO.bind ?_ (fun _ => ?_)
theorem codec_Event.mono : ∀ a0 k, LeO (codec_Event.f k a0) (codec_Event.f (k + 1) a0) := by
 intro a0 k
 obtain ⟨ih0, ih1⟩ := codec_Event.mono_l k
 unfold codec_Event.f
 repeat' first
   | (with_reducible exact ih0 _ _ _ _)
   | (with_reducible exact ih1 _ _ _ _ _ _ _)
   | (with_reducible exact codec_reader_count.mono _ _ _ _ _)
   | (with_reducible exact codec_reader_text.mono _ _ _ _)
   | (with_reducible exact codec_reader_value.mono _ _ _ _ _)
   | (with_reducible exact LeO.refl _)
   | (with_reducible exact LeO.none _)
   | (with_reducible refine LeO.ite ?_ ?_)
   | (with_reducible refine LeO.bind ?_ (fun _ => ?_))
   | exact ih0 _ _ _ _
   | exact ih1 _ _ _ _ _ _ _
   | exact codec_reader_count.mono _ _ _ _ _
   | exact codec_reader_text.mono _ _ _ _
   | exact codec_reader_value.mono _ _ _ _ _
   | exact LeO.none _
   | refine LeO.ite ?_ ?_
   | refine LeO.bind ?_ (fun _ => ?_)
def codec_Event.T6 : Bool × List (List Nat × List Nat) := (true, [([], []), ([0], [0]), ([], []), ([2], [2]), ([3], [3]), ([1, 4, 3], [1, 4]), ([0, 1, 2, 3, 4, 5], []), ([6, 5, 5, 0, 1, 2, 3, 4, 5], [5, 6])])
def codec_Event.B6 : List Nat := [0, 1, 0, 4, 12, 31, 63, 127]
theorem codec_Event.tab6 : rtab .any (opsOf Try.f32 6) = codec_Event.T6 := by kernel_rfl
theorem codec_Event.bits6 : waitsOk codec_Event.T6.2 codec_Event.B6 = true := by kernel_rfl
def codec_Event.T10 : Bool × List (List Nat × List Nat) := (true, [([], []), ([], []), ([1], [1]), ([2], [2]), ([3], [3]), ([0, 0], [0]), ([4, 5, 0, 1, 2, 3, 4, 5], [4]), ([6, 0, 1, 2, 3, 4, 5, 6], [])])
def codec_Event.B10 : List Nat := [0, 0, 2, 6, 14, 1, 63, 127]
theorem codec_Event.tab10 : rtab .any (opsOf Try.f32 10) = codec_Event.T10 := by kernel_rfl
theorem codec_Event.bits10 : waitsOk codec_Event.T10.2 codec_Event.B10 = true := by kernel_rfl
set_option maxHeartbeats 8000000 in
set_option maxRecDepth 100000 in
theorem codec_Event.calls (k : Nat) (A0 : Option Addr) (c0 : Nat) (l0 : List Int) (r1 : ByteArray) (r2 : List (S24)) (r3 : Int) (r4 : Int) (w : World) (hr0 : Kd.C (Kd.int .u8) w A0 l0.length l0) (hc0 : l0.length ≤ c0) (h : codec_Event.f k l0 = some (r1, r2, r3, r4)) :
  Calls Try.prog 32 #[.slice A0 l0.length c0] w fun e w' => ∃ v1_ : Value, e = .returned (.tuple #[.agg #[.string r1, v1_], .int .i64 r3, .int .i64 r4]) ∧ Kd.R k24 24 w' w.heap.size (fun _ => True) v1_ r2 ∧ Below w.heap.size w w' := by
 have hu26 := Try.underlying26
 have hu76 := Try.underlying76
 have HR0 := Aside0.mk hr0
 have HC0 := Aside0.mk hc0
 clear hr0 hc0
 have HB := Aside0.mk (Below.refl w.heap.size w)
 have H : ((codec_reader_text.f k l0 0 false).bind fun bt585 => (if bt585.2.2.2 = true then (codec_Event.j0 k bt585.2.1 bt585.2.2.1 true bt585.1) else (if (bt585.1.size : Int) < 1 then (codec_Event.j0 k bt585.2.1 bt585.2.2.1 true bt585.1) else (codec_Event.j0 k bt585.2.1 bt585.2.2.1 (decide ((bt585.1.size : Int) > 20)) bt585.1)))) = some (r1, r2, r3, r4) := h
 clear h
 replace H := Option.bind_eq_some_iff.mp H
 obtain ⟨⟨t585, t586, t587, t588⟩, A20, H⟩ := H
 replace H : (if t588 = true then (codec_Event.j0 k t586 t587 true t585) else (if (t585.size : Int) < 1 then (codec_Event.j0 k t586 t587 true t585) else (codec_Event.j0 k t586 t587 (decide ((t585.size : Int) > 20)) t585))) = some (r1, r2, r3, r4) := H
 have A2 := Aside0.mk A20
 clear A20
 have HC3 := Aside0.mk H
 clear H
 go_enter Try.func32, Try.ntmps32
 go_upto_region 3 with (first | ((with_reducible refine gate_dst (N := 2) rfl ?_); (try (refine gate_guard (by rfl) ?_; dsimp only)); refine box_event ?hg (N := 2) ?hd (cs := #[.string (⟨#[]⟩ : ByteArray), .slice none 0 0]) (t := 26) ?hr ?_; (case hd => rfl); (case hg => rfl); (case hr => first | (go_simp; done) | (go_simp; rfl)); intro gb583 hg w4 hbox hb; have n0_ := Aside0.mk (below_step (by repeat (first | (with_reducible first | exact HB.out | apply below_alloc | apply pw_below_drewN | apply below_drew1) | exact HB.out)) hb); have n1_ := Aside0.mk (hbox); have n2_ := Aside0.mk ((by rw [hg]; exact (below_size (by repeat (first | (with_reducible first | exact HB.out | apply below_alloc | apply pw_below_drewN | apply below_drew1) | exact HB.out))) : w.heap.size ≤ gb583)); have n3_ := Aside0.mk ((by rw [hg]; exact (below_size (by repeat (first | (with_reducible first | exact HB.out | apply below_alloc | apply pw_below_drewN | apply below_drew1) | exact HB.out))) : w.heap.size ≤ gb583)); clear HB; have HB := n0_; have BK583 := n1_; have GW583 := n2_; have GE583 := n3_; clear n0_ n1_ n2_ n3_; clear hb hbox hg) | ((with_reducible refine gate_dst (N := 9) rfl ?_); (try (refine gate_guard (by rfl) ?_; dsimp only)); refine box_event ?hg (N := 9) ?hd (cs := #[.slice A0 l0.length c0, .int .i64 0, .bool false]) (t := 76) ?hr ?_; (case hd => rfl); (case hg => rfl); (case hr => first | (go_simp; done) | (go_simp; rfl)); intro gb584 hg w5 hbox hb; have n0_ := Aside0.mk (blk_below (g := gb583) (o := .cells #[.string (⟨#[]⟩ : ByteArray), .slice none 0 0] 26 (0, 0)) (by (with_reducible repeat (first | refine blk_drewN ?_ _ | refine blk_drew ?_ | refine blk_alloc ?_ _)); exact BK583.out) hb); have n1_ := Aside0.mk (below_step (by repeat (first | (with_reducible first | exact HB.out | apply below_alloc | apply pw_below_drewN | apply below_drew1 | refine below_set ?_ GE583.out) | exact HB.out)) hb); have n2_ := Aside0.mk (hbox); have n3_ := Aside0.mk ((by rw [hg]; exact (below_size (by repeat (first | (with_reducible first | exact HB.out | apply below_alloc | apply pw_below_drewN | apply below_drew1 | refine below_set ?_ GE583.out) | exact HB.out))) : w.heap.size ≤ gb584)); have n4_ := Aside0.mk ((by rw [hg]; exact (below_size (by repeat (first | (with_reducible first | exact HB.out | apply below_alloc | apply pw_below_drewN | apply below_drew1 | refine below_set ?_ GE583.out) | exact HB.out))) : w.heap.size ≤ gb584)); have n5_ := Aside0.mk ((by rw [hg]; exact Nat.ne_of_lt (blk_lt (g := gb583) (o := .cells #[.string (⟨#[]⟩ : ByteArray), .slice none 0 0] 26 (0, 0)) (by (with_reducible repeat (first | refine blk_drewN ?_ _ | refine blk_drew ?_ | refine blk_alloc ?_ _)); exact BK583.out)) : gb583 ≠ gb584)); have n6_ := Aside0.mk ((by rw [hg]; exact Nat.ne_of_gt (blk_lt (g := gb583) (o := .cells #[.string (⟨#[]⟩ : ByteArray), .slice none 0 0] 26 (0, 0)) (by (with_reducible repeat (first | refine blk_drewN ?_ _ | refine blk_drew ?_ | refine blk_alloc ?_ _)); exact BK583.out)) : gb584 ≠ gb583)); clear BK583; clear HB; have BK583 := n0_; have HB := n1_; have BK584 := n2_; have GW584 := n3_; have GE584 := n4_; have NB583_584 := n5_; have NB584_583 := n6_; clear n0_ n1_ n2_ n3_ n4_ n5_ n6_; clear hb hbox hg; have HI584 := Aside0.mk (show IsS76 w _ gb584 l0 0 false from ⟨_, _, BK584.out, GE584.out, HR0.out, HC0.out⟩); clear BK584) | ((with_reducible refine gate_callee (f := 43) rfl ?_); refine goesL_ (some 11) rfl rfl Try.func43 (by kernel_rfl) rfl #[.pointer (some ⟨gb584, 0, none⟩)] rfl (by (try simp only [List.map_toArray, List.map_cons, List.map_nil]); first | done | rfl | (simp only [List.length_drop, List.length_take]; rfl) | (go_simp; done) | (go_simp; simp; done)) ?_; (with_reducible refine (codec_reader_text.calls k gb584 l0 0 false t585 t586 t587 t588 w _ ?side1 ?side2 A2.out).mono ?_); (case side1 => first | ((repeat (first | (with_reducible first | exact HI584.out | apply IsS76.alloc | apply IsS76.drewN | apply IsS76.drew | apply IsS76.set_1 | apply IsS76.set_2 | refine IsS76.far ?_ NB584_583.out _ | (apply IsS76.far; case hne => exact NB584_583.out)) | exact HI584.out)); done) | ((simp only [*]); (repeat (first | (with_reducible first | exact HI584.out | apply IsS76.alloc | apply IsS76.drewN | apply IsS76.drew | apply IsS76.set_1 | apply IsS76.set_2 | refine IsS76.far ?_ NB584_583.out _ | (apply IsS76.far; case hne => exact NB584_583.out)) | exact HI584.out)))); (case side2 => repeat (first | (with_reducible first | exact HB.out | apply below_alloc | apply pw_below_drewN | apply below_drew1 | refine below_set ?_ (IsS76.ge HI584.out) | refine below_set ?_ GE583.out) | exact HB.out)); rintro e w6 ⟨rfl, hi, hb, hk⟩; refine ⟨_, rfl, ?_⟩; have n0_ := Aside0.mk (KeepBut.blk hk (g' := gb583) (o := .cells #[.string (⟨#[]⟩ : ByteArray), .slice none 0 0] 26 (0, 0)) (by (with_reducible repeat (first | refine blk_drewN ?_ _ | refine blk_drew ?_ | refine blk_alloc ?_ _)); exact BK583.out) NB583_584.out (by simp)); have n1_ := Aside0.mk (hb); have n2_ := Aside0.mk (hi); clear BK583; clear HB; clear HI584; have BK583 := n0_; have HB := n1_; have HI584 := n2_; clear n0_ n1_ n2_; (try clear hb); (try clear hb2); (try clear hk); (try clear hi)) | ((with_reducible refine gate_dst (N := 6) rfl ?_); (try (refine gate_guard (by rfl) ?_; dsimp only)); refine box_event ?hg (N := 6) ?hd (cs := #[.string (⟨#[]⟩ : ByteArray), .slice none 0 0]) (t := 26) ?hr ?_; (case hd => rfl); (case hg => rfl); (case hr => first | (go_simp; done) | (go_simp; rfl)); intro gb589 hg w7 hbox hb; have n0_ := Aside0.mk (blk_below (g := gb583) (o := .cells #[.string (⟨#[]⟩ : ByteArray), .slice none 0 0] 26 (0, 0)) (by (with_reducible repeat (first | refine blk_drewN ?_ _ | refine blk_drew ?_ | refine blk_alloc ?_ _)); exact BK583.out) hb); have n1_ := Aside0.mk (IsS76.below (by first | ((repeat (first | (with_reducible first | exact HI584.out | apply IsS76.alloc | apply IsS76.drewN | apply IsS76.drew | apply IsS76.set_1 | apply IsS76.set_2 | refine IsS76.far ?_ NB584_583.out _ | (apply IsS76.far; case hne => exact NB584_583.out)) | exact HI584.out)); done) | ((simp only [*]); (repeat (first | (with_reducible first | exact HI584.out | apply IsS76.alloc | apply IsS76.drewN | apply IsS76.drew | apply IsS76.set_1 | apply IsS76.set_2 | refine IsS76.far ?_ NB584_583.out _ | (apply IsS76.far; case hne => exact NB584_583.out)) | exact HI584.out)))) hb); have n2_ := Aside0.mk (below_step (by repeat (first | (with_reducible first | exact HB.out | apply below_alloc | apply pw_below_drewN | apply below_drew1 | refine below_set ?_ (IsS76.ge HI584.out) | refine below_set ?_ GE583.out) | exact HB.out)) hb); have n3_ := Aside0.mk (hbox); have n4_ := Aside0.mk ((by rw [hg]; exact (below_size (by repeat (first | (with_reducible first | exact HB.out | apply below_alloc | apply pw_below_drewN | apply below_drew1 | refine below_set ?_ (IsS76.ge HI584.out) | refine below_set ?_ GE583.out) | exact HB.out))) : w.heap.size ≤ gb589)); have n5_ := Aside0.mk ((by rw [hg]; exact (below_size (by repeat (first | (with_reducible first | exact HB.out | apply below_alloc | apply pw_below_drewN | apply below_drew1 | refine below_set ?_ (IsS76.ge HI584.out) | refine below_set ?_ GE583.out) | exact HB.out))) : w.heap.size ≤ gb589)); have n6_ := Aside0.mk ((by rw [hg]; exact Nat.ne_of_lt (blk_lt (g := gb583) (o := .cells #[.string (⟨#[]⟩ : ByteArray), .slice none 0 0] 26 (0, 0)) (by (with_reducible repeat (first | refine blk_drewN ?_ _ | refine blk_drew ?_ | refine blk_alloc ?_ _)); exact BK583.out)) : gb583 ≠ gb589)); have n7_ := Aside0.mk ((by rw [hg]; exact Nat.ne_of_gt (blk_lt (g := gb583) (o := .cells #[.string (⟨#[]⟩ : ByteArray), .slice none 0 0] 26 (0, 0)) (by (with_reducible repeat (first | refine blk_drewN ?_ _ | refine blk_drew ?_ | refine blk_alloc ?_ _)); exact BK583.out)) : gb589 ≠ gb583)); have n8_ := Aside0.mk ((by rw [hg]; exact Nat.ne_of_lt (IsS76.lt (show IsS76 w _ gb584 t586 t587 t588 from by first | ((repeat (first | (with_reducible first | exact HI584.out | apply IsS76.alloc | apply IsS76.drewN | apply IsS76.drew | apply IsS76.set_1 | apply IsS76.set_2 | refine IsS76.far ?_ NB584_583.out _ | (apply IsS76.far; case hne => exact NB584_583.out)) | exact HI584.out)); done) | ((simp only [*]); (repeat (first | (with_reducible first | exact HI584.out | apply IsS76.alloc | apply IsS76.drewN | apply IsS76.drew | apply IsS76.set_1 | apply IsS76.set_2 | refine IsS76.far ?_ NB584_583.out _ | (apply IsS76.far; case hne => exact NB584_583.out)) | exact HI584.out))))) : gb584 ≠ gb589)); have n9_ := Aside0.mk ((by rw [hg]; exact Nat.ne_of_gt (IsS76.lt (show IsS76 w _ gb584 t586 t587 t588 from by first | ((repeat (first | (with_reducible first | exact HI584.out | apply IsS76.alloc | apply IsS76.drewN | apply IsS76.drew | apply IsS76.set_1 | apply IsS76.set_2 | refine IsS76.far ?_ NB584_583.out _ | (apply IsS76.far; case hne => exact NB584_583.out)) | exact HI584.out)); done) | ((simp only [*]); (repeat (first | (with_reducible first | exact HI584.out | apply IsS76.alloc | apply IsS76.drewN | apply IsS76.drew | apply IsS76.set_1 | apply IsS76.set_2 | refine IsS76.far ?_ NB584_583.out _ | (apply IsS76.far; case hne => exact NB584_583.out)) | exact HI584.out))))) : gb589 ≠ gb584)); clear BK583; clear HI584; clear HB; have BK583 := n0_; have HI584 := n1_; have HB := n2_; have BK589 := n3_; have GW589 := n4_; have GE589 := n5_; have NB583_589 := n6_; have NB589_583 := n7_; have NB584_589 := n8_; have NB589_584 := n9_; clear n0_ n1_ n2_ n3_ n4_ n5_ n6_ n7_ n8_ n9_; clear hb hbox hg; have hnb8 := NB589_583.out; have hnc8 := NB583_589.out; have hnb9 := NB589_584.out; have hnc9 := NB584_589.out; have hcz10_0 : w7.cell? ⟨gb589, 0, none⟩ = some (.string (⟨#[]⟩ : ByteArray)) := (blk_cell BK589.out 0).trans rfl; have hcz10_1 : w7.cell? ⟨gb589, 1, none⟩ = some (.slice none 0 0) := (blk_cell BK589.out 1).trans rfl; have hfz10_0 := blk_frozen BK589.out 0; have hfz10_1 := blk_frozen BK589.out 1))
 (try simp only [Act.put, List.setIfInBounds_toArray, List.set_cons_zero, List.set_cons_succ])
 go_cut [] (fun wc => ∃ (kq : Nat) (x585002_2 : Bool), Aside0 (codec_Event.j0 kq t586 t587 x585002_2 t585 = some (r1, r2, r3, r4)) ∧ Aside0 (kq ≤ k) ∧ Aside0 (wc.heap[gb583]? = some (.cells #[.string (⟨#[]⟩ : ByteArray), (.slice none 0 0)] 26 (0, 0))) ∧ Aside0 (wc.heap[gb589]? = some (.cells #[.string t585, (.slice none 0 0)] 26 (0, 0))) ∧ Aside0 (IsS76 w wc gb584 t586 t587 x585002_2) ∧ Aside0 (Below w.heap.size w wc))
 case first =>
  have H := HC3.out
  clear HC3
  by_cases c11 : t588 = true
  ·subst c11
   have H1 : (codec_Event.j0 k t586 t587 true t585) = some (r1, r2, r3, r4) := by rw [if_pos rfl] at H; exact H
   clear H
   have H := H1
   clear H1
   have H' := Aside0.mk H
   clear H
   obtain ⟨ASz12_0, cSz12_0, HGz12, hgz12, HSz12_0, hlSz12_0⟩ := HI584.out
   have hcz12_0 := cellS76_0 HGz12
   have hcz12_1 := cellS76_1 HGz12
   have hcz12_2 := cellS76_2 HGz12
   have hfz12_0 := blk_frozen HGz12 0
   have hfz12_1 := blk_frozen HGz12 1
   have hfz12_2 := blk_frozen HGz12 2
   clear HGz12 hgz12
   go_wp2
   go_meet
   case rel => exact ⟨_, (true), H', ⟨by first | omega | exact Nat.le_refl _⟩, ⟨by (with_reducible repeat (first | refine blk_drewN ?_ _ | refine blk_drew ?_ | refine blk_alloc ?_ _)); refine blk_far ?_ NB583_584.out _; (with_reducible repeat (first | refine blk_drewN ?_ _ | refine blk_drew ?_ | refine blk_alloc ?_ _)); refine blk_far ?_ NB583_589.out _; (with_reducible repeat (first | refine blk_drewN ?_ _ | refine blk_drew ?_ | refine blk_alloc ?_ _)); refine blk_far ?_ NB583_589.out _; (with_reducible repeat (first | refine blk_drewN ?_ _ | refine blk_drew ?_ | refine blk_alloc ?_ _)); exact BK583.out⟩, ⟨by (with_reducible repeat (first | refine blk_drewN ?_ _ | refine blk_drew ?_ | refine blk_alloc ?_ _)); refine blk_far ?_ NB589_584.out _; (with_reducible repeat (first | refine blk_drewN ?_ _ | refine blk_drew ?_ | refine blk_alloc ?_ _)); refine blk_put (cs := #[.string t585, .slice none 0 0]) ?_ 1 _ rfl; (with_reducible repeat (first | refine blk_drewN ?_ _ | refine blk_drew ?_ | refine blk_alloc ?_ _)); refine blk_put (cs := #[.string (⟨#[]⟩ : ByteArray), .slice none 0 0]) ?_ 0 _ rfl; (with_reducible repeat (first | refine blk_drewN ?_ _ | refine blk_drew ?_ | refine blk_alloc ?_ _)); exact BK589.out⟩, ⟨by first | ((repeat (first | (with_reducible first | exact HI584.out | apply IsS76.alloc | apply IsS76.drewN | apply IsS76.drew | apply IsS76.set_1 | apply IsS76.set_2 | refine IsS76.far ?_ NB584_583.out _ | (apply IsS76.far; case hne => exact NB584_583.out) | refine IsS76.far ?_ NB584_589.out _ | (apply IsS76.far; case hne => exact NB584_589.out)) | exact HI584.out)); done) | ((simp only [*]); (repeat (first | (with_reducible first | exact HI584.out | apply IsS76.alloc | apply IsS76.drewN | apply IsS76.drew | apply IsS76.set_1 | apply IsS76.set_2 | refine IsS76.far ?_ NB584_583.out _ | (apply IsS76.far; case hne => exact NB584_583.out) | refine IsS76.far ?_ NB584_589.out _ | (apply IsS76.far; case hne => exact NB584_589.out)) | exact HI584.out)))⟩, ⟨by repeat (first | (with_reducible first | exact HB.out | apply below_alloc | apply pw_below_drewN | apply below_drew1 | refine below_set ?_ (IsS76.ge HI584.out) | refine below_set ?_ GE583.out | refine below_set ?_ GE589.out) | exact HB.out)⟩⟩
  ·replace c11 := Bool.eq_false_iff.mpr c11
   subst c11
   have H1 : (if (t585.size : Int) < 1 then (codec_Event.j0 k t586 t587 true t585) else (codec_Event.j0 k t586 t587 (decide ((t585.size : Int) > 20)) t585)) = some (r1, r2, r3, r4) := by rw [if_neg (show ¬ (false = true) by decide)] at H; exact H
   clear H
   have H := H1
   clear H1
   by_cases c13 : (t585.size : Int) < 1
   ·rw [if_pos c13] at H
    have c13b0 : decide ((t585.size : Int) < 1) = true := decide_eq_true c13
    have c13b1 : decide (t585.size < 1) = true := decide_eq_true (by omega)
    clear c13
    (first | rw [c13b0] | (simp only [i64_w, i32_w]; rw [c13b0]) | skip)
    have H' := Aside0.mk H
    clear H
    obtain ⟨ASz14_0, cSz14_0, HGz14, hgz14, HSz14_0, hlSz14_0⟩ := HI584.out
    have hcz14_0 := cellS76_0 HGz14
    have hcz14_1 := cellS76_1 HGz14
    have hcz14_2 := cellS76_2 HGz14
    have hfz14_0 := blk_frozen HGz14 0
    have hfz14_1 := blk_frozen HGz14 1
    have hfz14_2 := blk_frozen HGz14 2
    clear HGz14 hgz14
    have hnb15 := NB589_583.out
    have hnc15 := NB583_589.out
    have hnb16 := NB589_584.out
    have hnc16 := NB584_589.out
    have hcz17_0 : w7.cell? ⟨gb589, 0, none⟩ = some (.string (⟨#[]⟩ : ByteArray)) := (blk_cell BK589.out 0).trans rfl
    have hcz17_1 : w7.cell? ⟨gb589, 1, none⟩ = some (.slice none 0 0) := (blk_cell BK589.out 1).trans rfl
    have hfz17_0 := blk_frozen BK589.out 0
    have hfz17_1 := blk_frozen BK589.out 1
    go_wp2
    go_meet
    case rel => exact ⟨_, (true), H', ⟨by first | omega | exact Nat.le_refl _⟩, ⟨by (with_reducible repeat (first | refine blk_drewN ?_ _ | refine blk_drew ?_ | refine blk_alloc ?_ _)); refine blk_far ?_ NB583_584.out _; (with_reducible repeat (first | refine blk_drewN ?_ _ | refine blk_drew ?_ | refine blk_alloc ?_ _)); refine blk_far ?_ NB583_589.out _; (with_reducible repeat (first | refine blk_drewN ?_ _ | refine blk_drew ?_ | refine blk_alloc ?_ _)); refine blk_far ?_ NB583_589.out _; (with_reducible repeat (first | refine blk_drewN ?_ _ | refine blk_drew ?_ | refine blk_alloc ?_ _)); exact BK583.out⟩, ⟨by (with_reducible repeat (first | refine blk_drewN ?_ _ | refine blk_drew ?_ | refine blk_alloc ?_ _)); refine blk_far ?_ NB589_584.out _; (with_reducible repeat (first | refine blk_drewN ?_ _ | refine blk_drew ?_ | refine blk_alloc ?_ _)); refine blk_put (cs := #[.string t585, .slice none 0 0]) ?_ 1 _ rfl; (with_reducible repeat (first | refine blk_drewN ?_ _ | refine blk_drew ?_ | refine blk_alloc ?_ _)); refine blk_put (cs := #[.string (⟨#[]⟩ : ByteArray), .slice none 0 0]) ?_ 0 _ rfl; (with_reducible repeat (first | refine blk_drewN ?_ _ | refine blk_drew ?_ | refine blk_alloc ?_ _)); exact BK589.out⟩, ⟨by first | ((repeat (first | (with_reducible first | exact HI584.out | apply IsS76.alloc | apply IsS76.drewN | apply IsS76.drew | apply IsS76.set_1 | apply IsS76.set_2 | refine IsS76.far ?_ NB584_583.out _ | (apply IsS76.far; case hne => exact NB584_583.out) | refine IsS76.far ?_ NB584_589.out _ | (apply IsS76.far; case hne => exact NB584_589.out)) | exact HI584.out)); done) | ((simp only [*]); (repeat (first | (with_reducible first | exact HI584.out | apply IsS76.alloc | apply IsS76.drewN | apply IsS76.drew | apply IsS76.set_1 | apply IsS76.set_2 | refine IsS76.far ?_ NB584_583.out _ | (apply IsS76.far; case hne => exact NB584_583.out) | refine IsS76.far ?_ NB584_589.out _ | (apply IsS76.far; case hne => exact NB584_589.out)) | exact HI584.out)))⟩, ⟨by repeat (first | (with_reducible first | exact HB.out | apply below_alloc | apply pw_below_drewN | apply below_drew1 | refine below_set ?_ (IsS76.ge HI584.out) | refine below_set ?_ GE583.out | refine below_set ?_ GE589.out) | exact HB.out)⟩⟩
   ·rw [if_neg c13] at H
    have c13b0 : decide ((t585.size : Int) < 1) = false := decide_eq_false c13
    have c13b1 : decide (t585.size < 1) = false := decide_eq_false (by omega)
    clear c13
    (first | rw [c13b0] | (simp only [i64_w, i32_w]; rw [c13b0]) | skip)
    have H' := Aside0.mk H
    clear H
    obtain ⟨ASz18_0, cSz18_0, HGz18, hgz18, HSz18_0, hlSz18_0⟩ := HI584.out
    have hcz18_0 := cellS76_0 HGz18
    have hcz18_1 := cellS76_1 HGz18
    have hcz18_2 := cellS76_2 HGz18
    have hfz18_0 := blk_frozen HGz18 0
    have hfz18_1 := blk_frozen HGz18 1
    have hfz18_2 := blk_frozen HGz18 2
    clear HGz18 hgz18
    have hnb19 := NB589_583.out
    have hnc19 := NB583_589.out
    have hnb20 := NB589_584.out
    have hnc20 := NB584_589.out
    have hcz21_0 : w7.cell? ⟨gb589, 0, none⟩ = some (.string (⟨#[]⟩ : ByteArray)) := (blk_cell BK589.out 0).trans rfl
    have hcz21_1 : w7.cell? ⟨gb589, 1, none⟩ = some (.slice none 0 0) := (blk_cell BK589.out 1).trans rfl
    have hfz21_0 := blk_frozen BK589.out 0
    have hfz21_1 := blk_frozen BK589.out 1
    go_wp2
    go_meet
    case rel => exact ⟨_, (decide ((t585.size : Int) > 20)), H', ⟨by first | omega | exact Nat.le_refl _⟩, ⟨by (with_reducible repeat (first | refine blk_drewN ?_ _ | refine blk_drew ?_ | refine blk_alloc ?_ _)); refine blk_far ?_ NB583_584.out _; (with_reducible repeat (first | refine blk_drewN ?_ _ | refine blk_drew ?_ | refine blk_alloc ?_ _)); refine blk_far ?_ NB583_589.out _; (with_reducible repeat (first | refine blk_drewN ?_ _ | refine blk_drew ?_ | refine blk_alloc ?_ _)); refine blk_far ?_ NB583_589.out _; (with_reducible repeat (first | refine blk_drewN ?_ _ | refine blk_drew ?_ | refine blk_alloc ?_ _)); exact BK583.out⟩, ⟨by (with_reducible repeat (first | refine blk_drewN ?_ _ | refine blk_drew ?_ | refine blk_alloc ?_ _)); refine blk_far ?_ NB589_584.out _; (with_reducible repeat (first | refine blk_drewN ?_ _ | refine blk_drew ?_ | refine blk_alloc ?_ _)); refine blk_put (cs := #[.string t585, .slice none 0 0]) ?_ 1 _ rfl; (with_reducible repeat (first | refine blk_drewN ?_ _ | refine blk_drew ?_ | refine blk_alloc ?_ _)); refine blk_put (cs := #[.string (⟨#[]⟩ : ByteArray), .slice none 0 0]) ?_ 0 _ rfl; (with_reducible repeat (first | refine blk_drewN ?_ _ | refine blk_drew ?_ | refine blk_alloc ?_ _)); exact BK589.out⟩, ⟨by first | ((repeat (first | (with_reducible first | exact HI584.out | apply IsS76.alloc | apply IsS76.drewN | apply IsS76.drew | apply IsS76.set_1 | apply IsS76.set_2 | refine IsS76.far ?_ NB584_583.out _ | (apply IsS76.far; case hne => exact NB584_583.out) | refine IsS76.far ?_ NB584_589.out _ | (apply IsS76.far; case hne => exact NB584_589.out)) | exact HI584.out)); done) | ((simp only [*]); (repeat (first | (with_reducible first | exact HI584.out | apply IsS76.alloc | apply IsS76.drewN | apply IsS76.drew | apply IsS76.set_1 | apply IsS76.set_2 | refine IsS76.far ?_ NB584_583.out _ | (apply IsS76.far; case hne => exact NB584_583.out) | refine IsS76.far ?_ NB584_589.out _ | (apply IsS76.far; case hne => exact NB584_589.out)) | exact HI584.out)))⟩, ⟨by repeat (first | (with_reducible first | exact HB.out | apply below_alloc | apply pw_below_drewN | apply below_drew1 | refine below_set ?_ (IsS76.ge HI584.out) | refine below_set ?_ GE583.out | refine below_set ?_ GE589.out) | exact HB.out)⟩⟩
 case rest =>
  clear HC3
  try clear c1
  try clear c2
  try clear p2
  try clear c3
  try clear c4
  try clear c8
  try clear c9
  try clear c11
  try clear c13
  try clear c13b0
  try clear c13b1
  try clear c15
  try clear c16
  try clear c19
  try clear c20
  try clear hcz10_0
  try clear hcz10_1
  try clear hcz12_0
  try clear hcz12_1
  try clear hcz12_2
  try clear hcz14_0
  try clear hcz14_1
  try clear hcz14_2
  try clear hcz17_0
  try clear hcz17_1
  try clear hcz18_0
  try clear hcz18_1
  try clear hcz18_2
  try clear hcz21_0
  try clear hcz21_1
  try clear hfz10_0
  try clear hfz10_1
  try clear hfz12_0
  try clear hfz12_1
  try clear hfz12_2
  try clear hfz14_0
  try clear hfz14_1
  try clear hfz14_2
  try clear hfz17_0
  try clear hfz17_1
  try clear hfz18_0
  try clear hfz18_1
  try clear hfz18_2
  try clear hfz21_0
  try clear hfz21_1
  obtain ⟨kq, x585002_2, HA, HJ2, BK583, BK589, HI584, HB⟩ := hcut
  cases kq with
  | zero => exact absurd HA.out (by simp [codec_Event.j0])
  | succ kj2 =>
   have H := HA.out
   clear HA
   simp only [codec_Event.j0] at H
   replace H := Option.bind_eq_some_iff.mp H
   obtain ⟨⟨t590, t591, t592, t593⟩, A220, H⟩ := H
   replace H : (codec_Event.l0 kj2 t590 0 t591 t592 t593 t585 ([] : List (S24))) = some (r1, r2, r3, r4) := H
   have A22 := Aside0.mk A220
   clear A220
   have H' := Aside0.mk H
   clear H
   go_wp2_with (first | ((with_reducible refine gate_callee (f := 44) rfl ?_); refine goesL_ (some 33) rfl rfl Try.func44 (by kernel_rfl) rfl #[.pointer (some ⟨gb584, 0, none⟩), .int .u64 12] rfl (by (try simp only [List.map_toArray, List.map_cons, List.map_nil]); first | done | rfl | (simp only [List.length_drop, List.length_take]; rfl) | (go_simp; done) | (go_simp; simp; done)) ?_; (with_reducible refine (codec_reader_count.calls kj2 gb584 t586 t587 x585002_2 12 t590 t591 t592 t593 w _ ?side1 ?side2 A22.out).mono ?_); (case side1 => first | ((repeat (first | (with_reducible first | exact HI584.out | apply IsS76.alloc | apply IsS76.drewN | apply IsS76.drew | apply IsS76.set_1 | apply IsS76.set_2 | refine IsS76.far ?_ NB584_583.out _ | (apply IsS76.far; case hne => exact NB584_583.out) | refine IsS76.far ?_ NB584_589.out _ | (apply IsS76.far; case hne => exact NB584_589.out)) | exact HI584.out)); done) | ((simp only [*]); (repeat (first | (with_reducible first | exact HI584.out | apply IsS76.alloc | apply IsS76.drewN | apply IsS76.drew | apply IsS76.set_1 | apply IsS76.set_2 | refine IsS76.far ?_ NB584_583.out _ | (apply IsS76.far; case hne => exact NB584_583.out) | refine IsS76.far ?_ NB584_589.out _ | (apply IsS76.far; case hne => exact NB584_589.out)) | exact HI584.out)))); (case side2 => repeat (first | (with_reducible first | exact HB.out | apply below_alloc | apply pw_below_drewN | apply below_drew1 | refine below_set ?_ (IsS76.ge HI584.out) | refine below_set ?_ GE583.out | refine below_set ?_ GE589.out) | exact HB.out)); rintro e w23 ⟨rfl, hi, hb, hk⟩; refine ⟨_, rfl, ?_⟩; have n0_ := Aside0.mk (KeepBut.blk hk (g' := gb583) (o := .cells #[.string (⟨#[]⟩ : ByteArray), .slice none 0 0] 26 (0, 0)) (by (with_reducible repeat (first | refine blk_drewN ?_ _ | refine blk_drew ?_ | refine blk_alloc ?_ _)); exact BK583.out) NB583_584.out (by simp)); have n1_ := Aside0.mk (KeepBut.blk hk (g' := gb589) (o := .cells #[.string t585, .slice none 0 0] 26 (0, 0)) (by (with_reducible repeat (first | refine blk_drewN ?_ _ | refine blk_drew ?_ | refine blk_alloc ?_ _)); exact BK589.out) NB589_584.out (by simp)); have n2_ := Aside0.mk (hb); have n3_ := Aside0.mk (hi); clear BK583; clear BK589; clear HB; clear HI584; have BK583 := n0_; have BK589 := n1_; have HB := n2_; have HI584 := n3_; clear n0_ n1_ n2_ n3_; (try clear hb); (try clear hb2); (try clear hk); (try clear hi)))
   go_loopg [34] kj2 (fun kq v34 w' => ∃ (x34_2 : Int) (x585000_2 : List Int) (x585001_2 : Int) (x585002_2 : Bool) (x590001_2 : List (S24)) (u590001 : Value), v34 = .int .i64 x34_2 ∧ Aside0 (codec_Event.l0 kq t590 x34_2 x585000_2 x585001_2 x585002_2 t585 x590001_2 = some (r1, r2, r3, r4)) ∧ Aside0 (kq ≤ kj2) ∧ Aside0 (Kd.R k24 24 w' w.heap.size (fun _ => True) u590001 x590001_2) ∧ Aside0 (w'.heap[gb583]? = some (.cells #[.string (⟨#[]⟩ : ByteArray), (.slice none 0 0)] 26 (0, 0))) ∧ Aside0 (w'.heap[gb589]? = some (.cells #[.string t585, u590001] 26 (0, 0))) ∧ Aside0 (IsS76 w w' gb584 x585000_2 x585001_2 x585002_2) ∧ Aside0 (Below w.heap.size w w'))
   case atStart => exact ⟨(0), (t591), (t592), (t593), (([] : List (S24))), (.slice none 0 0), (by first | rfl | (simp; done) | (simp [*]; done)), H', ⟨Nat.le_refl _⟩, ⟨by first | exact Kd.R_nil _ _ _ _ _ | exact Kd.N_nil _ _ _ _ _ | exact Kd.V_nil _ _ _ _ _ | exact Kd.Q_nil _ _ _ _ _ | exact Kd.S_nil _ _ _ _ _⟩, ⟨by (with_reducible repeat (first | refine blk_drewN ?_ _ | refine blk_drew ?_ | refine blk_alloc ?_ _)); exact BK583.out⟩, ⟨by (with_reducible repeat (first | refine blk_drewN ?_ _ | refine blk_drew ?_ | refine blk_alloc ?_ _)); exact BK589.out⟩, ⟨by first | ((repeat (first | (with_reducible first | exact HI584.out | apply IsS76.alloc | apply IsS76.drewN | apply IsS76.drew | apply IsS76.set_1 | apply IsS76.set_2 | refine IsS76.far ?_ NB584_583.out _ | (apply IsS76.far; case hne => exact NB584_583.out) | refine IsS76.far ?_ NB584_589.out _ | (apply IsS76.far; case hne => exact NB584_589.out)) | exact HI584.out)); done) | ((simp only [*]); (repeat (first | (with_reducible first | exact HI584.out | apply IsS76.alloc | apply IsS76.drewN | apply IsS76.drew | apply IsS76.set_1 | apply IsS76.set_2 | refine IsS76.far ?_ NB584_583.out _ | (apply IsS76.far; case hne => exact NB584_583.out) | refine IsS76.far ?_ NB584_589.out _ | (apply IsS76.far; case hne => exact NB584_589.out)) | exact HI584.out)))⟩, ⟨by repeat (first | (with_reducible first | exact HB.out | apply below_alloc | apply pw_below_drewN | apply below_drew1 | refine below_set ?_ (IsS76.ge HI584.out) | refine below_set ?_ GE583.out | refine below_set ?_ GE589.out) | exact HB.out)⟩⟩
   case round =>
    clear H'
    try clear c1
    try clear c2
    try clear p2
    try clear c3
    try clear c4
    try clear c8
    try clear c9
    try clear c11
    try clear c13
    try clear c13b0
    try clear c13b1
    try clear c15
    try clear c16
    try clear c19
    try clear c20
    try clear hcz10_0
    try clear hcz10_1
    try clear hcz12_0
    try clear hcz12_1
    try clear hcz12_2
    try clear hcz14_0
    try clear hcz14_1
    try clear hcz14_2
    try clear hcz17_0
    try clear hcz17_1
    try clear hcz18_0
    try clear hcz18_1
    try clear hcz18_2
    try clear hcz21_0
    try clear hcz21_1
    try clear hfz10_0
    try clear hfz10_1
    try clear hfz12_0
    try clear hfz12_1
    try clear hfz12_2
    try clear hfz14_0
    try clear hfz14_1
    try clear hfz14_2
    try clear hfz17_0
    try clear hfz17_1
    try clear hfz18_0
    try clear hfz18_1
    try clear hfz18_2
    try clear hfz21_0
    try clear hfz21_1
    try clear p2
    obtain ⟨x34_2, x585000_2, x585001_2, x585002_2, x590001_2, u590001, rfl, HA, HK2, HO_590001, BK583, BK589, HI584, HB⟩ := hrel
    cases gk with
    | zero => exact absurd HA.out (by simp [codec_Event.l0])
    | succ k2 =>
     have H := HA.out
     clear HA
     simp only [codec_Event.l0] at H
     by_cases c24 : x34_2 < t590
     ·rw [if_pos c24] at H
      have c24b0 : decide (x34_2 < t590) = true := decide_eq_true c24
      clear c24
      replace H := Option.bind_eq_some_iff.mp H
      obtain ⟨⟨t594, t595, t596, t597, t598, t601, t602, t603⟩, A250, H⟩ := H
      replace H : (if x590001_2.length < 2199023255552 then (codec_Event.l0 k2 t590 (wrap64 (x34_2 + 1)) t601 t602 t603 t585 (x590001_2 ++ [(⟨t594, t595, t596, t597, t598⟩ : S24)])) else (none)) = some (r1, r2, r3, r4) := H
      have A25 := Aside0.mk A250
      clear A250
      by_cases c26 : x590001_2.length < 2199023255552
      ·rw [if_pos c26] at H
       have LMc26 := Aside0.mk c26
       clear c26
       obtain ⟨y604, hy604⟩ : ∃ y_ : List (S24), y_ = (x590001_2 ++ [(⟨t594, t595, t596, t597, t598⟩ : S24)]) := ⟨_, rfl⟩
       replace H : (codec_Event.l0 k2 t590 (wrap64 (x34_2 + 1)) t601 t602 t603 t585 y604) = some (r1, r2, r3, r4) := by first | (rw [hy604]; with_reducible exact H) | (have H2_ := (Option.bind_some _ _).symm.trans H; rw [hy604]; with_reducible exact H2_) | (have H2_ := (Option.bind_some _ _).symm.trans H; with_reducible exact H2_) | with_reducible exact H | (rw [hy604]; exact H) | exact H
       have Ny604 := Aside0.mk hy604
       clear hy604
       have H' := Aside0.mk H
       clear H
       try go_wp2
       have n0_ := Aside0.mk (Kd.R_drew HO_590001.out)
       have n1_ := Aside0.mk (blk_drew BK583.out)
       have n2_ := Aside0.mk (blk_drew BK589.out)
       have n3_ := Aside0.mk (IsS76.drew HI584.out)
       have n4_ := Aside0.mk (below_drew1 HB.out)
       clear HO_590001
       clear BK583
       clear BK589
       clear HI584
       clear HB
       have HO_590001 := n0_
       have BK583 := n1_
       have BK589 := n2_
       have HI584 := n3_
       have HB := n4_
       clear n0_ n1_ n2_ n3_ n4_
       refine start_ (n := 8) (S := fun w' => w'.cell? ⟨gb589, 0, none⟩ = some (.string t585) ∧ w'.cell? ⟨gb589, 1, none⟩ = some (u590001)) (ds := [7]) #[false, false, false, false, false, false, false, false] (by kernel_rfl) rfl rfl ⟨(blk_cell BK589.out 0).trans rfl, (blk_cell BK589.out 1).trans rfl⟩ (fun hHeld => ?_); refine with_tabW codec_Event.tab6 codec_Event.bits6 (fun HT_ HW_ => ?_)
       generalize wr.drew = w27 at HO_590001 BK583 BK589 HI584 HB hHeld ⊢
       refine pure_ (i := 0) (N := some 36) (v := ?_) (a' := ?_) #[true, false, false, false, false, false, false, false] rfl rfl (any_of HT_.out (by kernel_rfl)) (fun _ _ _ h => h) (Or.inl ⟨by rfl, ?_⟩) ?_ ?_
       rotate_left
       ·intro w'
        go_simp
        with_reducible rfl
       rotate_left
       ·simp only [Act.put, List.setIfInBounds_toArray, List.set_cons_zero, List.set_cons_succ, i64_w, i32_w]
        rfl
       refine pure_ (i := 2) (N := some 38) (v := ?_) (a' := ?_) #[true, false, true, false, false, false, false, false] rfl rfl (any_of HT_.out (by kernel_rfl)) (fun _ _ _ h => h) (Or.inl ⟨by rfl, ?_⟩) ?_ ?_
       rotate_left
       ·intro w'
        go_simp
        with_reducible rfl
       rotate_left
       ·simp only [Act.put, List.setIfInBounds_toArray, List.set_cons_zero, List.set_cons_succ, i64_w, i32_w]
        rfl
       refine take_ (i := 1) (N := some 37) (v := ?_) (a' := ?_) #[true, true, true, false, false, false, false, false] rfl rfl (take_ofW HT_.out HW_.out (by kernel_rfl)) (fun _ _ _ h => h) (Or.inl ⟨by rfl, ?_⟩) hHeld ?_ ?_
       rotate_left
       ·rintro w' ⟨s0, s1⟩
        go_simp
        with_reducible rfl
       rotate_left
       ·simp only [Act.put, List.setIfInBounds_toArray, List.set_cons_zero, List.set_cons_succ, i64_w, i32_w]
        rfl
       refine one_ (i := 3) (N := some 39) #[true, true, true, true, false, false, false, false] rfl rfl (one_of HT_.out (by kernel_rfl)) (by decide) (fun K hK => ?_)
       refine goes_ Try.func39 (by kernel_rfl) rfl #[.pointer (some ⟨gb584, 0, none⟩), .bool false] (by rfl) rfl rfl (by (try simp only [List.map_toArray, List.map_cons, List.map_nil]); first | done | rfl | (simp only [List.length_drop, List.length_take]; rfl) | (go_simp; done) | (go_simp; simp; done)) ?_
       with_reducible refine (codec_reader_value.calls k2 gb584 x585000_2 x585001_2 x585002_2 false t594 t595 t596 t597 t598 t601 t602 t603 w _ ?side1 ?side2 A25.out).mono ?_
       (case side1 => first | ((repeat (first | (with_reducible first | exact HI584.out | apply IsS76.alloc | apply IsS76.drewN | apply IsS76.drew | apply IsS76.set_1 | apply IsS76.set_2 | refine IsS76.far ?_ NB584_583.out _ | (apply IsS76.far; case hne => exact NB584_583.out) | refine IsS76.far ?_ NB584_589.out _ | (apply IsS76.far; case hne => exact NB584_589.out)) | exact HI584.out)); done) | ((simp only [*]); (repeat (first | (with_reducible first | exact HI584.out | apply IsS76.alloc | apply IsS76.drewN | apply IsS76.drew | apply IsS76.set_1 | apply IsS76.set_2 | refine IsS76.far ?_ NB584_583.out _ | (apply IsS76.far; case hne => exact NB584_583.out) | refine IsS76.far ?_ NB584_589.out _ | (apply IsS76.far; case hne => exact NB584_589.out)) | exact HI584.out))))
       (case side2 => repeat (first | (with_reducible first | exact HB.out | apply below_alloc | apply pw_below_drewN | apply below_drew1 | refine below_set ?_ (IsS76.ge HI584.out) | refine below_set ?_ GE583.out | refine below_set ?_ GE589.out) | exact HB.out))
       rintro e w28 ⟨v599, rfl, ho0, hi, hb, hk⟩
       refine ⟨_, rfl, ?_⟩
       have n0_ := Aside0.mk (Kd.R_mono (Kd.R_told (Kd.R_oldK (IsS76.apart (show IsS76 w _ gb584 x585000_2 x585001_2 x585002_2 from by first | ((repeat (first | (with_reducible first | exact HI584.out | apply IsS76.alloc | apply IsS76.drewN | apply IsS76.drew | apply IsS76.set_1 | apply IsS76.set_2 | refine IsS76.far ?_ NB584_583.out _ | (apply IsS76.far; case hne => exact NB584_583.out) | refine IsS76.far ?_ NB584_589.out _ | (apply IsS76.far; case hne => exact NB584_589.out)) | exact HI584.out)); done) | ((simp only [*]); (repeat (first | (with_reducible first | exact HI584.out | apply IsS76.alloc | apply IsS76.drewN | apply IsS76.drew | apply IsS76.set_1 | apply IsS76.set_2 | refine IsS76.far ?_ NB584_583.out _ | (apply IsS76.far; case hne => exact NB584_583.out) | refine IsS76.far ?_ NB584_589.out _ | (apply IsS76.far; case hne => exact NB584_589.out)) | exact HI584.out)))) (by (with_reducible repeat (first | apply Kd.R_alloc | apply Kd.R_drewN | apply Kd.R_drew)); exact HO_590001.out) (by decide)) hk) (Kd.R_base ho0)) (fun _ h_ => h_.1))
       have n1_ := Aside0.mk (KeepBut.blk hk (g' := gb583) (o := .cells #[.string (⟨#[]⟩ : ByteArray), .slice none 0 0] 26 (0, 0)) (by (with_reducible repeat (first | refine blk_drewN ?_ _ | refine blk_drew ?_ | refine blk_alloc ?_ _)); exact BK583.out) NB583_584.out (by simp))
       have n2_ := Aside0.mk (KeepBut.blk hk (g' := gb589) (o := .cells #[.string t585, u590001] 26 (0, 0)) (by (with_reducible repeat (first | refine blk_drewN ?_ _ | refine blk_drew ?_ | refine blk_alloc ?_ _)); exact BK589.out) NB589_584.out (by simp))
       have n3_ := Aside0.mk (Kd.R_lower (Kd.R_new' ho0 (Kd.R_lt (by (with_reducible repeat (first | apply Kd.R_alloc | apply Kd.R_drewN | apply Kd.R_drew)); exact HO_590001.out))) (below_size (by repeat (first | (with_reducible first | exact HB.out | apply below_alloc | apply pw_below_drewN | apply below_drew1 | refine below_set ?_ (IsS76.ge HI584.out) | refine below_set ?_ GE583.out | refine below_set ?_ GE589.out) | exact HB.out))))
       have n4_ := Aside0.mk (hb)
       have n5_ := Aside0.mk (hi)
       clear HO_590001
       clear BK583
       clear BK589
       clear HB
       clear HI584
       have HO_590001 := n0_
       have BK583 := n1_
       have BK589 := n2_
       have HO600 := n3_
       have HB := n4_
       have HI584 := n5_
       clear n0_ n1_ n2_ n3_ n4_ n5_
       (try clear hb)
       (try clear hb2)
       (try clear hk)
       (try clear hi)
       (try clear ho0)
       obtain ⟨Ao30, co30, eo30⟩ := Kd.R_slice HO600.out
       (first | subst eo30 | (injection eo30 with f1_ f2_ f3_; have f4_ := f1_.symm; have f5_ := f3_.symm; clear f1_ f2_ f3_; subst f4_; subst f5_))
       refine hK.out _ _ ⟨(blk_cell BK589.out 0).trans rfl, (blk_cell BK589.out 1).trans rfl⟩ (fun hHeld => ?_)
       clear hK K
       refine norm_ (a' := ?_) ?_ ?_
       rotate_left
       ·show Act.put _ (some 39) _ = _
        simp only [Act.put, List.setIfInBounds_toArray, List.set_cons_zero, List.set_cons_succ, i64_w, i32_w]
        rfl
       refine one_ (i := 4) (N := some 40) #[true, true, true, true, true, false, false, false] rfl rfl (one_of HT_.out (by kernel_rfl)) (by decide) (fun K hK => ?_)
       refine value_ (w1 := ?_) (v := ?_) (by rfl) rfl ?_ ?_
       rotate_left 2
       ·go_simp
        constructor
        ·rfl
        ·rfl
       refine hK.out _ _ ⟨(blk_cell (blk_alloc BK589.out _) 0).trans rfl, (blk_cell (blk_alloc BK589.out _) 1).trans rfl⟩ (fun hHeld => ?_)
       clear hK K
       refine norm_ (a' := ?_) ?_ ?_
       rotate_left
       ·show Act.put _ (some 40) _ = _
        simp only [Act.put, List.setIfInBounds_toArray, List.set_cons_zero, List.set_cons_succ, i64_w, i32_w]
        rfl
       refine one_ (i := 5) (N := some 41) #[true, true, true, true, true, true, false, false] rfl rfl (one_of HT_.out (by kernel_rfl)) (by decide) (fun K hK => ?_)
       refine Kd.R_append_step k24 (w0 := w) w.heap.size (by rfl) (.tmp 37) (.tmp 40) 22 24 (.agg #[(.int .i64 0), (.int .i64 0), (.string ⟨#[]⟩), (.int .i64 0), (.slice none 0 0)]) 64 rfl Try.underlying22 info24 rfl (by decide) (by omega) u590001 x590001_2 (⟨t594, t595, t596, t597, t598⟩ : S24) [.int .i64 t594, .int .i64 t595, .string t596, .int .i64 t597, .slice Ao30 t598.length co30] (fun _ => True) (fun k_ => ((fun _ => True)) k_ ∧ some k_ ≠ (u590001 : Value).ownBlock) rfl rfl ?aP (fun _ hk => hk) ?aF ?aO ?aB ?aS ?aL ?_
       (case aP => exact k24_mkM _ _ _ (⟨t594, t595, t596, t597, t598⟩ : S24) (Kd.R_mono (HO600.out) (fun k_ hk => ⟨trivial, hk.2⟩)))
       (case aB => exact (by repeat (first | (with_reducible first | exact HB.out | apply below_alloc | apply pw_below_drewN | apply below_drew1 | refine below_set ?_ (IsS76.ge HI584.out) | refine below_set ?_ GE583.out | refine below_set ?_ GE589.out) | exact HB.out)))
       (case aF => exact (fun _ _ => trivial))
       (case aO => exact (by (with_reducible repeat (first | apply Kd.R_alloc | apply Kd.R_drewN | apply Kd.R_drew)); exact Kd.R_mono HO_590001.out (fun _ hk => trivial)))
       (case aS => exact (below_size (by repeat (first | (with_reducible first | exact HB.out | apply below_alloc | apply pw_below_drewN | apply below_drew1 | refine below_set ?_ (IsS76.ge HI584.out) | refine below_set ?_ GE583.out | refine below_set ?_ GE589.out) | exact HB.out))))
       (case aL => have := LMc26.out; omega)
       intro v605 w29 ho hb hg hat
       rw [← Ny604.out] at ho
       have n0_ := Aside0.mk (blk_grown (g := gb583) (o := .cells #[.string (⟨#[]⟩ : ByteArray), .slice none 0 0] 26 (0, 0)) (by (with_reducible repeat (first | refine blk_drewN ?_ _ | refine blk_drew ?_ | refine blk_alloc ?_ _)); exact BK583.out) hg (Kd.R_ne HO_590001.out BK583.out (by decide)))
       have n1_ := Aside0.mk (blk_grown (g := gb589) (o := .cells #[.string t585, u590001] 26 (0, 0)) (by (with_reducible repeat (first | refine blk_drewN ?_ _ | refine blk_drew ?_ | refine blk_alloc ?_ _)); exact BK589.out) hg (Kd.R_ne HO_590001.out BK589.out (by decide)))
       have n2_ := Aside0.mk (IsS76.grown (by first | ((repeat (first | (with_reducible first | exact HI584.out | apply IsS76.alloc | apply IsS76.drewN | apply IsS76.drew | apply IsS76.set_1 | apply IsS76.set_2 | refine IsS76.far ?_ NB584_583.out _ | (apply IsS76.far; case hne => exact NB584_583.out) | refine IsS76.far ?_ NB584_589.out _ | (apply IsS76.far; case hne => exact NB584_589.out)) | exact HI584.out)); done) | ((simp only [*]); (repeat (first | (with_reducible first | exact HI584.out | apply IsS76.alloc | apply IsS76.drewN | apply IsS76.drew | apply IsS76.set_1 | apply IsS76.set_2 | refine IsS76.far ?_ NB584_583.out _ | (apply IsS76.far; case hne => exact NB584_583.out) | refine IsS76.far ?_ NB584_589.out _ | (apply IsS76.far; case hne => exact NB584_589.out)) | exact HI584.out)))) hg (IsS76.own_ne HI584.out HO_590001.out (by decide)))
       have n3_ := Aside0.mk (hb)
       have n4_ := Aside0.mk (ho)
       clear BK583
       clear BK589
       clear HI584
       clear HB
       clear HO_590001
       clear HO600
       have BK583 := n0_
       have BK589 := n1_
       have HI584 := n2_
       have HB := n3_
       have HO606 := n4_
       clear n0_ n1_ n2_ n3_ n4_
       clear ho hb hg hat
       obtain ⟨Ao31, co31, eo31⟩ := Kd.R_slice HO606.out
       (first | subst eo31 | (injection eo31 with f1_ f2_ f3_; have f4_ := f1_.symm; have f5_ := f3_.symm; clear f1_ f2_ f3_; subst f4_; subst f5_))
       refine hK.out _ _ ⟨(blk_cell BK589.out 0).trans rfl, (blk_cell BK589.out 1).trans rfl⟩ (fun hHeld => ?_)
       clear hK K
       refine norm_ (a' := ?_) ?_ ?_
       rotate_left
       ·show Act.put _ (some 41) _ = _
        simp only [Act.put, List.setIfInBounds_toArray, List.set_cons_zero, List.set_cons_succ, i64_w, i32_w]
        rfl
       refine pure_ (i := 6) (N := some 42) (v := ?_) (a' := ?_) #[true, true, true, true, true, true, true, false] rfl rfl (any_of HT_.out (by kernel_rfl)) (fun _ _ _ h => h) (Or.inl ⟨by rfl, ?_⟩) ?_ ?_
       rotate_left
       ·intro w'
        go_simp
        with_reducible rfl
       rotate_left
       ·simp only [Act.put, List.setIfInBounds_toArray, List.set_cons_zero, List.set_cons_succ, i64_w, i32_w]
        rfl
       refine last_ (i := 7) (N := none) #[true, true, true, true, true, true, true, true] rfl rfl (one_of HT_.out (by kernel_rfl)) (by decide) (fun K hK => ?_)
       have hs32 : w29.cell? ⟨gb589, 1, none⟩ = some (u590001) := (blk_cell BK589.out 1).trans rfl
       have hfs32 := blk_frozen BK589.out 1
       have hns32_0 := NB583_589.out
       have hms32_0 := NB589_583.out
       refine skip_ (w1 := ?_) (by rfl) rfl ?_ ?_
       rotate_left
       ·go_simp
        rfl
       refine hK.out _ _ ?_
       clear hK K
       refine done_ (done_of HT_.out (by kernel_rfl)) ?_
       try go_wp2
       go_roundg k2
       case measure => have := HJ2.out; have := HK2.out; omega
       case rel => exact ⟨(wrap64 (x34_2 + 1)), (t601), (t602), (t603), (y604), (.slice Ao31 y604.length co31), (by first | rfl | (simp; done) | (simp [*]; done)), H', ⟨by have := HJ2.out; have := HK2.out; omega⟩, ⟨by (with_reducible repeat (first | apply Kd.R_alloc | apply Kd.R_drewN | apply Kd.R_drew)); exact Kd.R_mono (Kd.R_far (p := ⟨gb589, 1, none⟩) (Kd.R_types HO606.out BK589.out (by decide)) (fun _ hk => hk.2) (.slice Ao31 y604.length co31)) (fun _ hk => trivial)⟩, ⟨by (with_reducible repeat (first | refine blk_drewN ?_ _ | refine blk_drew ?_ | refine blk_alloc ?_ _)); refine blk_far ?_ NB583_589.out _; (with_reducible repeat (first | refine blk_drewN ?_ _ | refine blk_drew ?_ | refine blk_alloc ?_ _)); exact BK583.out⟩, ⟨by (with_reducible repeat (first | refine blk_drewN ?_ _ | refine blk_drew ?_ | refine blk_alloc ?_ _)); refine blk_put (cs := #[.string t585, u590001]) ?_ 1 _ rfl; (with_reducible repeat (first | refine blk_drewN ?_ _ | refine blk_drew ?_ | refine blk_alloc ?_ _)); exact BK589.out⟩, ⟨by first | ((repeat (first | (with_reducible first | exact HI584.out | apply IsS76.alloc | apply IsS76.drewN | apply IsS76.drew | apply IsS76.set_1 | apply IsS76.set_2 | refine IsS76.far ?_ NB584_583.out _ | (apply IsS76.far; case hne => exact NB584_583.out) | refine IsS76.far ?_ NB584_589.out _ | (apply IsS76.far; case hne => exact NB584_589.out)) | exact HI584.out)); done) | ((simp only [*]); (repeat (first | (with_reducible first | exact HI584.out | apply IsS76.alloc | apply IsS76.drewN | apply IsS76.drew | apply IsS76.set_1 | apply IsS76.set_2 | refine IsS76.far ?_ NB584_583.out _ | (apply IsS76.far; case hne => exact NB584_583.out) | refine IsS76.far ?_ NB584_589.out _ | (apply IsS76.far; case hne => exact NB584_589.out)) | exact HI584.out)))⟩, ⟨by repeat (first | (with_reducible first | exact HB.out | apply below_alloc | apply pw_below_drewN | apply below_drew1 | refine below_set ?_ (IsS76.ge HI584.out) | refine below_set ?_ GE583.out | refine below_set ?_ GE589.out) | exact HB.out)⟩⟩
      ·rw [if_neg c26] at H
       exact absurd H (by simp)
     ·rw [if_neg c24] at H
      have c24b0 : decide (x34_2 < t590) = false := decide_eq_false c24
      clear c24
      by_cases c33 : x585002_2 = true
      ·subst c33
       have H1 : (some ((⟨#[]⟩ : ByteArray), ([] : List (S24)), 0, 20)) = some (r1, r2, r3, r4) := by rw [if_pos rfl] at H; exact H
       clear H
       have H := H1
       clear H1
       simp only [Option.some.injEq, Prod.mk.injEq] at H
       obtain ⟨rfl, rfl, rfl, rfl⟩ := H
       obtain ⟨ASz34_0, cSz34_0, HGz34, hgz34, HSz34_0, hlSz34_0⟩ := HI584.out
       have hcz34_0 := cellS76_0 HGz34
       have hcz34_1 := cellS76_1 HGz34
       have hcz34_2 := cellS76_2 HGz34
       have hfz34_0 := blk_frozen HGz34 0
       have hfz34_1 := blk_frozen HGz34 1
       have hfz34_2 := blk_frozen HGz34 2
       clear HGz34 hgz34
       have hnb35 := NB583_589.out
       have hnc35 := NB589_583.out
       have hnb36 := NB583_584.out
       have hnc36 := NB584_583.out
       have hcz37_0 : wr.cell? ⟨gb583, 0, none⟩ = some (.string (⟨#[]⟩ : ByteArray)) := (blk_cell BK583.out 0).trans rfl
       have hcz37_1 : wr.cell? ⟨gb583, 1, none⟩ = some (.slice none 0 0) := (blk_cell BK583.out 1).trans rfl
       have hfz37_0 := blk_frozen BK583.out 0
       have hfz37_1 := blk_frozen BK583.out 1
       go_wp2
       refine bodyPost_ret (results_ctt rfl _ _ gb583 26 #[.string (⟨#[]⟩ : ByteArray), .slice none 0 0] (0, 0) _ rfl (by (with_reducible repeat (first | refine blk_drewN ?_ _ | refine blk_drew ?_ | refine blk_alloc ?_ _)); refine blk_put (cs := #[.string (⟨#[]⟩ : ByteArray), .slice none 0 0]) ?_ 1 _ rfl; (with_reducible repeat (first | refine blk_drewN ?_ _ | refine blk_drew ?_ | refine blk_alloc ?_ _)); refine blk_put (cs := #[.string (⟨#[]⟩ : ByteArray), .slice none 0 0]) ?_ 0 _ rfl; (with_reducible repeat (first | refine blk_drewN ?_ _ | refine blk_drew ?_ | refine blk_alloc ?_ _)); exact BK583.out) Try.underlying26 rfl (by kernel_rfl)) rfl ?_
       exact ⟨_, by first | rfl | (simp [errW_none, errW_some] <;> rfl) | (simp [*, errW_none, errW_some] <;> rfl), by first | exact Kd.R_nil _ _ _ _ _ | exact Kd.N_nil _ _ _ _ _ | exact Kd.V_nil _ _ _ _ _ | exact Kd.Q_nil _ _ _ _ _ | exact Kd.S_nil _ _ _ _ _, by repeat (first | (with_reducible first | exact HB.out | apply below_alloc | apply pw_below_drewN | apply below_drew1 | refine below_set ?_ (IsS76.ge HI584.out) | refine below_set ?_ GE583.out | refine below_set ?_ GE589.out) | exact HB.out)⟩
      ·replace c33 := Bool.eq_false_iff.mpr c33
       subst c33
       have H1 : (some (t585, x590001_2, x585001_2, 0)) = some (r1, r2, r3, r4) := by rw [if_neg (show ¬ (false = true) by decide)] at H; exact H
       clear H
       have H := H1
       clear H1
       simp only [Option.some.injEq, Prod.mk.injEq] at H
       obtain ⟨rfl, rfl, rfl, rfl⟩ := H
       obtain ⟨ASz38_0, cSz38_0, HGz38, hgz38, HSz38_0, hlSz38_0⟩ := HI584.out
       have hcz38_0 := cellS76_0 HGz38
       have hcz38_1 := cellS76_1 HGz38
       have hcz38_2 := cellS76_2 HGz38
       have hfz38_0 := blk_frozen HGz38 0
       have hfz38_1 := blk_frozen HGz38 1
       have hfz38_2 := blk_frozen HGz38 2
       clear HGz38 hgz38
       try go_wp2
       obtain ⟨AT584_0, cT584_0, HGT_, hgT_, hrT_0, hlT_0⟩ := HI584.out
       have BK584 := Aside0.mk HGT_
       clear HGT_ hgT_ HI584
       have n0_ := Aside0.mk (Kd.R_drew HO_590001.out)
       have n1_ := Aside0.mk (blk_drew BK583.out)
       have n2_ := Aside0.mk (blk_drew BK589.out)
       have n3_ := Aside0.mk (blk_drew BK584.out)
       have n4_ := Aside0.mk (below_drew1 HB.out)
       clear HO_590001
       clear BK583
       clear BK589
       clear BK584
       clear HB
       have HO_590001 := n0_
       have BK583 := n1_
       have BK589 := n2_
       have BK584 := n3_
       have HB := n4_
       clear n0_ n1_ n2_ n3_ n4_
       obtain ⟨Ao41, co41, eo41⟩ := Kd.R_slice HO_590001.out
       (first | subst eo41 | (injection eo41 with f1_ f2_ f3_; have f4_ := f1_.symm; have f5_ := f3_.symm; clear f1_ f2_ f3_; subst f4_; subst f5_))
       refine start_ (n := 8) (S := fun w' => w'.cell? ⟨gb589, 0, none⟩ = some (.string t585) ∧ w'.cell? ⟨gb589, 1, none⟩ = some (.slice Ao41 x590001_2.length co41) ∧ w'.cell? ⟨gb584, 0, none⟩ = some (.slice AT584_0 x585000_2.length cT584_0) ∧ w'.cell? ⟨gb584, 1, none⟩ = some (.int .i64 x585001_2) ∧ w'.cell? ⟨gb584, 2, none⟩ = some (.bool false)) (ds := []) #[false, false, false, false, false, false, false, false] (by kernel_rfl) rfl rfl ⟨(blk_cell BK589.out 0).trans rfl, (blk_cell BK589.out 1).trans rfl, (blk_cell BK584.out 0).trans rfl, (blk_cell BK584.out 1).trans rfl, (blk_cell BK584.out 2).trans rfl⟩ (fun hHeld => ?_); refine with_tabW codec_Event.tab10 codec_Event.bits10 (fun HT_ HW_ => ?_)
       generalize wr.drew = w39 at HO_590001 BK583 BK589 BK584 HB hHeld ⊢
       refine pure_ (i := 1) (N := some 50) (v := ?_) (a' := ?_) #[false, true, false, false, false, false, false, false] rfl rfl (any_of HT_.out (by kernel_rfl)) (fun _ _ _ h => h) (Or.inl ⟨by rfl, ?_⟩) ?_ ?_
       rotate_left
       ·intro w'
        go_simp
        with_reducible rfl
       rotate_left
       ·simp only [Act.put, List.setIfInBounds_toArray, List.set_cons_zero, List.set_cons_succ, i64_w, i32_w]
        rfl
       refine pure_ (i := 2) (N := some 51) (v := ?_) (a' := ?_) #[false, true, true, false, false, false, false, false] rfl rfl (any_of HT_.out (by kernel_rfl)) (fun _ _ _ h => h) (Or.inl ⟨by rfl, ?_⟩) ?_ ?_
       rotate_left
       ·intro w'
        go_simp
        with_reducible rfl
       rotate_left
       ·simp only [Act.put, List.setIfInBounds_toArray, List.set_cons_zero, List.set_cons_succ, i64_w, i32_w]
        rfl
       refine pure_ (i := 3) (N := some 52) (v := ?_) (a' := ?_) #[false, true, true, true, false, false, false, false] rfl rfl (any_of HT_.out (by kernel_rfl)) (fun _ _ _ h => h) (Or.inl ⟨by rfl, ?_⟩) ?_ ?_
       rotate_left
       ·intro w'
        go_simp
        with_reducible rfl
       rotate_left
       ·simp only [Act.put, List.setIfInBounds_toArray, List.set_cons_zero, List.set_cons_succ, i64_w, i32_w]
        rfl
       refine take_ (i := 0) (N := some 49) (v := ?_) (a' := ?_) #[true, true, true, true, false, false, false, false] rfl rfl (take_ofW HT_.out HW_.out (by kernel_rfl)) (fun _ _ _ h => h) (Or.inl ⟨by rfl, ?_⟩) hHeld ?_ ?_
       rotate_left
       ·rintro w' ⟨s0, s1, s2, s3, s4⟩
        go_simp
        with_reducible rfl
       rotate_left
       ·simp only [Act.put, List.setIfInBounds_toArray, List.set_cons_zero, List.set_cons_succ, i64_w, i32_w]
        rfl
       refine take_ (i := 4) (N := some 53) (v := ?_) (a' := ?_) #[true, true, true, true, true, false, false, false] rfl rfl (take_ofW HT_.out HW_.out (by kernel_rfl)) (fun _ _ _ h => h) (Or.inl ⟨by rfl, ?_⟩) hHeld ?_ ?_
       rotate_left
       ·rintro w' ⟨s0, s1, s2, s3, s4⟩
        go_simp
        with_reducible rfl
       rotate_left
       ·simp only [Act.put, List.setIfInBounds_toArray, List.set_cons_zero, List.set_cons_succ, i64_w, i32_w]
        rfl
       refine one_ (i := 5) (N := none) #[true, true, true, true, true, true, false, false] rfl rfl (one_of HT_.out (by kernel_rfl)) (by decide) (fun K hK => ?_)
       have hs40 : w39.cell? ⟨gb583, 0, none⟩ = some (.string (⟨#[]⟩ : ByteArray)) := (blk_cell BK583.out 0).trans rfl
       have hfs40 := blk_frozen BK583.out 0
       have hns40_1 := NB589_583.out
       have hns40_2 := NB584_583.out
       have hms40_1 := NB583_589.out
       have hms40_2 := NB583_584.out
       have hs42 : w39.cell? ⟨gb583, 1, none⟩ = some (.slice none 0 0) := (blk_cell BK583.out 1).trans rfl
       have hfs42 := blk_frozen BK583.out 1
       have hns42_1 := NB589_583.out
       have hns42_2 := NB584_583.out
       have hms42_1 := NB583_589.out
       have hms42_2 := NB583_584.out
       refine skip_ (w1 := ?_) (by rfl) rfl ?_ ?_
       rotate_left
       ·go_simp
        rfl
       refine hK.out _ _ ⟨((cell_far (p := ⟨gb583, _, none⟩) NB589_583.out _).trans (((cell_far (p := ⟨gb583, _, none⟩) NB589_583.out _).trans (hHeld.1)))), ((cell_far (p := ⟨gb583, _, none⟩) NB589_583.out _).trans (((cell_far (p := ⟨gb583, _, none⟩) NB589_583.out _).trans (hHeld.2.1)))), ((cell_far (p := ⟨gb583, _, none⟩) NB584_583.out _).trans (((cell_far (p := ⟨gb583, _, none⟩) NB584_583.out _).trans (hHeld.2.2.1)))), ((cell_far (p := ⟨gb583, _, none⟩) NB584_583.out _).trans (((cell_far (p := ⟨gb583, _, none⟩) NB584_583.out _).trans (hHeld.2.2.2.1)))), ((cell_far (p := ⟨gb583, _, none⟩) NB584_583.out _).trans (((cell_far (p := ⟨gb583, _, none⟩) NB584_583.out _).trans (hHeld.2.2.2.2))))⟩ (fun hHeld => ?_)
       clear hK K
       refine pure_ (i := 6) (N := some 3) (v := ?_) (a' := ?_) #[true, true, true, true, true, true, true, false] rfl rfl (any_of HT_.out (by kernel_rfl)) (fun _ _ _ h => h) (Or.inl ⟨by rfl, ?_⟩) ?_ ?_
       rotate_left
       ·intro w'
        go_simp
        with_reducible rfl
       rotate_left
       ·simp only [Act.put, List.setIfInBounds_toArray, List.set_cons_zero, List.set_cons_succ, i64_w, i32_w]
        rfl
       refine pure_ (i := 7) (N := some 4) (v := ?_) (a' := ?_) #[true, true, true, true, true, true, true, true] rfl rfl (any_of HT_.out (by kernel_rfl)) (fun _ _ _ h => h) (Or.inl ⟨by rfl, ?_⟩) ?_ ?_
       rotate_left
       ·intro w'
        go_simp
        with_reducible rfl
       rotate_left
       ·simp only [Act.put, List.setIfInBounds_toArray, List.set_cons_zero, List.set_cons_succ, i64_w, i32_w]
        rfl
       refine done_ (done_of HT_.out (by kernel_rfl)) ?_
       try go_wp2
       refine bodyPost_ret (results_ctt rfl _ _ gb583 26 #[.string t585, .slice Ao41 x590001_2.length co41] (0, 0) _ rfl (by (with_reducible repeat (first | refine blk_drewN ?_ _ | refine blk_drew ?_ | refine blk_alloc ?_ _)); refine blk_put (cs := #[.string t585, .slice none 0 0]) ?_ 1 _ rfl; (with_reducible repeat (first | refine blk_drewN ?_ _ | refine blk_drew ?_ | refine blk_alloc ?_ _)); refine blk_put (cs := #[.string (⟨#[]⟩ : ByteArray), .slice none 0 0]) ?_ 0 _ rfl; (with_reducible repeat (first | refine blk_drewN ?_ _ | refine blk_drew ?_ | refine blk_alloc ?_ _)); exact BK583.out) Try.underlying26 rfl (by kernel_rfl)) rfl ?_
       exact ⟨_, by first | rfl | (simp [errW_none, errW_some] <;> rfl) | (simp [*, errW_none, errW_some] <;> rfl), by (with_reducible repeat (first | apply Kd.R_alloc | apply Kd.R_drewN | apply Kd.R_drew)); exact Kd.R_mono (Kd.R_far (p := ⟨gb583, 1, none⟩) (Kd.R_far (p := ⟨gb583, 0, none⟩) (Kd.R_types HO_590001.out BK583.out (by decide)) (fun _ hk => hk.2) (.string t585)) (fun _ hk => hk.2) (.slice Ao41 x590001_2.length co41)) (fun _ hk => trivial), by repeat (first | (with_reducible first | exact HB.out | apply below_alloc | apply pw_below_drewN | apply below_drew1 | refine below_set ?_ GE583.out | refine below_set ?_ GE589.out | refine below_set ?_ GE584.out) | exact HB.out)⟩

end Go.Proofs.Ythbnblmnamckmaa.PAll
/-
  What the code's readers compute: a value, an event, or that there is none; and that a value is the same as itself. Conditions: the bytes are bytes, and no more than a slice may have.
-/
namespace Go.Proofs.Ythbnblmnamckmaa.Q
open Go.RowKit Go.Proofs.Ythbnblmnamckmaa.PAll Go.Proofs.YthbnblmnamckmaaW.PrintWords Go.Proofs.YthbnblmnamckmaaW.PrintLast Go.Proofs.YthbnblmnamckmaaW.PrintMore
set_option linter.unusedVariables false
set_option linter.unusedSimpArgs false

theorem takes_bad (b : List Int) (sz n e : Int) : codec_reader_takes.f b sz true n e = some (b, sz, true) := by simp [codec_reader_takes.f]
theorem takes_err (b : List Int) (sz : Int) (bad : Bool) (n : Int) {e : Int} (he : e ≠ 0) : codec_reader_takes.f b sz bad n e = some (b, sz, true) := by
  unfold codec_reader_takes.f
  cases bad <;> simp [he]
theorem takes_ok (b : List Int) (sz : Int) {n : Int} (h0 : 0 ≤ n) (h1 : n ≤ (b.length : Int)) : codec_reader_takes.f b sz false n 0 = some (b.drop n.toNat, wrap64 (sz + n), false) := by
  unfold codec_reader_takes.f
  simp [h0, h1]
theorem byte_bad (b : List Int) (sz : Int) : codec_reader_byte.f b sz true = some (0, b, sz, true) := by simp [codec_reader_byte.f]
theorem byte_nil (sz : Int) : codec_reader_byte.f [] sz false = some (0, [], sz, true) := by simp [codec_reader_byte.f]
theorem byte_cons (c : Int) (t : List Int) (sz : Int) : codec_reader_byte.f (c :: t) sz false = some (c, t, wrap64 (sz + 1), false) := by
  unfold codec_reader_byte.f
  have h1 : ¬ (((c :: t).length : Int) < 1) := by simp only [List.length_cons]; omega
  have h2 : (0 : Int) < ((c :: t).length : Int) := by simp only [List.length_cons]; omega
  rw [if_neg (by decide), if_neg h1, if_pos h2, decide_eq_false h1, takes_ok _ _ (by decide) (by simp only [List.length_cons]; omega)]
  rfl

theorem resT_none (l : List Int) (h : decT 64 l = none) : ∃ e : Int, e ≠ 0 ∧ resT 64 l (decU 0 l) = (e0, 0, e) := by
  unfold decT at h
  cases hd : decU 0 l with
  | none => exact ⟨20, by decide, rfl⟩
  | some r =>
    rw [hd] at h
    unfold resT
    simp only at h ⊢
    split
    · exact ⟨21, by decide, rfl⟩
    · split
      · exact ⟨20, by decide, rfl⟩
      · rename_i h1 h2
        rw [if_neg h1, if_neg h2] at h
        simp at h
theorem resT_some (l : List Int) (hb : Bytes l) {s : ByteArray} {m : Nat} (h : decT 64 l = some (s, m)) : resT 64 l (decU 0 l) = (s, (m : Int), 0) := by
  unfold decT at h
  cases hd : decU 0 l with
  | none => rw [hd] at h; simp at h
  | some r =>
    obtain ⟨n, len⟩ := r
    rw [hd] at h
    have hbd := decU_top hb hd
    unfold resT
    simp only at h ⊢
    split at h
    · simp at h
    · rename_i h1
      split at h
      · simp at h
      · rename_i h2
        rw [if_neg h1, if_neg h2]
        simp only [Option.some.injEq, Prod.mk.injEq] at h
        obtain ⟨rfl, rfl⟩ := h
        simp only [Prod.mk.injEq, and_true, true_and]
        omega
theorem ev_text_bad {b : List Int} (hb : Bytes b) (hl : b.length ≤ 140737488351232) (sz : Int) : ∃ s, Ev (fun k => codec_reader_text.f k b sz true) (s, b, sz, true) := by
  unfold codec_reader_text.f
  exact ⟨_, Ev.bind (ev_codec_Text hb hl) (by
    simp only [takes_bad, Option.bind_some]
    exact Ev.now _)⟩
theorem ev_text_none {b : List Int} (hb : Bytes b) (hl : b.length ≤ 140737488351232) (sz : Int) (h : decT 64 b = none) : ∃ s, Ev (fun k => codec_reader_text.f k b sz false) (s, b, sz, true) := by
  obtain ⟨e, he, hr⟩ := resT_none b h
  have ht := ev_codec_Text hb hl
  rw [hr] at ht
  unfold codec_reader_text.f
  exact ⟨_, Ev.bind ht (by
    simp only [takes_err b sz false 0 he, Option.bind_some]
    exact Ev.now _)⟩
theorem ev_text_some {b : List Int} (hb : Bytes b) (hl : b.length ≤ 140737488351232) {sz : Int} (h0 : 0 ≤ sz) (hs : sz + b.length ≤ 1000000000000000000) {s : ByteArray} {m : Nat} (h : decT 64 b = some (s, m)) : Ev (fun k => codec_reader_text.f k b sz false) (s, b.drop m, sz + m, false) := by
  have ht := ev_codec_Text hb hl
  rw [resT_some b hb h] at ht
  have hm := decT_len hb h
  unfold codec_reader_text.f
  refine Ev.bind ht ?_
  simp only [takes_ok b sz (show (0 : Int) ≤ (m : Int) by omega) (by omega), Option.bind_some, Int.toNat_natCast, w64_id (n := sz + (m : Int)) (by omega) (by omega)]
  exact Ev.now _
theorem ev_count_bad {b : List Int} (hb : Bytes b) (sz most : Int) : Ev (fun k => codec_reader_count.f k b sz true most) (0, b, sz, true) := by
  unfold codec_reader_count.f
  refine Ev.bind (ev_codec_Uint hb) ?_
  simp only [takes_bad, Option.bind_some, if_true]
  exact Ev.now _
theorem ev_count_none {b : List Int} (hb : Bytes b) (sz most : Int) (h : decU 0 b = none) : Ev (fun k => codec_reader_count.f k b sz false most) (0, b, sz, true) := by
  have hu := ev_codec_Uint hb
  rw [h, resU_none] at hu
  unfold codec_reader_count.f
  refine Ev.bind hu ?_
  simp only [takes_err b sz false 0 (show (20 : Int) ≠ 0 by decide), Option.bind_some, if_true]
  exact Ev.now _
theorem ev_count_some {b : List Int} (hb : Bytes b) {sz : Int} (h0 : 0 ≤ sz) (hs : sz + b.length ≤ 1000000000000000000) {n : Int} {len : Nat} (h : decU 0 b = some (n, len)) {most : Int} (hm : most ≤ 1000) : Ev (fun k => codec_reader_count.f k b sz false most) (if n > most then (0, b.drop len, sz + len, true) else (n, b.drop len, sz + len, false)) := by
  have hu := ev_codec_Uint hb
  rw [h, resU_some] at hu
  have hbd := decU_top hb h
  unfold codec_reader_count.f
  refine Ev.bind hu ?_
  simp only [takes_ok b sz (show (0 : Int) ≤ (len : Int) by omega) (by omega), Option.bind_some, Int.toNat_natCast, w64_id (n := sz + (len : Int)) (by omega) (by omega), if_neg (show ¬ (false = true) by decide)]
  by_cases hn : n > most
  · simp only [if_pos hn, decide_eq_true hn]
    exact Ev.now _
  · simp only [if_neg hn, decide_eq_false hn, w64_id (n := n) (by omega) (by omega)]
    exact Ev.now _

/-! ### a value -/
theorem ev_value_bad {b : List Int} (sz : Int) (fld : Bool) : Ev (fun k => codec_reader_value.f k b sz true fld) (0, 0, e0, 0, [], b, sz, true) := by
  refine Ev.step (fun k => rfl) ?_
  simp only [codec_reader_value.f, byte_bad, Option.bind_some]
  have e : wrap64 0 = 0 := w64_id (by omega) (by omega)
  simp only [e, if_neg (show ¬ ((0 : Int) = 1) by decide), if_neg (show ¬ ((0 : Int) = 2) by decide), if_neg (show ¬ ((0 : Int) = 3) by decide), if_neg (show ¬ ((0 : Int) = 4) by decide)]
  exact Ev.now _
theorem ev_l0_bad {b : List Int} (sz x0 x1 : Int) (x2 : ByteArray) (x3 : Int) : ∀ (d i : Nat) (n : Nat) (acc : List V), i + d = n → n ≤ 1000 → acc.length ≤ i → ∃ acc', Ev (fun k => codec_reader_value.l0 k (n : Int) (i : Int) b sz true x0 x1 x2 x3 acc) (x0, x1, x2, x3, acc', b, sz, true) := by
  intro d
  induction d with
  | zero =>
    intro i n acc hi hn ha
    refine ⟨acc, Ev.step (fun k => rfl) ?_⟩
    simp only [codec_reader_value.l0]
    simp only [if_neg (show ¬ ((i : Int) < (n : Int)) by omega)]
    exact Ev.now _
  | succ d ih =>
    intro i n acc hi hn ha
    obtain ⟨acc', h⟩ := ih (i + 1) n (acc ++ [(⟨0, 0, e0, 0, []⟩ : V)]) (by omega) hn (by simp; omega)
    refine ⟨acc', Ev.step (fun k => rfl) ?_⟩
    simp only [codec_reader_value.l0]
    have e1 : wrap64 ((i : Int) + 1) = ((i + 1 : Nat) : Int) := by rw [w64_id (by omega) (by omega)]; omega
    simp only [if_pos (show ((i : Int) < (n : Int)) by omega)]
    refine Ev.bind (ev_value_bad sz true) ?_
    simp only [if_pos (show acc.length < 2199023255552 by omega), e1]
    exact h
theorem ev_j0_bad {b : List Int} (hb : Bytes b) (sz x0 x1 : Int) (x2 : ByteArray) (x3 : Int) : ∃ y3 acc', Ev (fun k => codec_reader_value.j0 k b sz true x0 x1 x2 x3) (x0, x1, x2, y3, acc', b, sz, true) := by
  obtain ⟨acc', h⟩ := ev_l0_bad (b := b) sz x0 x1 x2 0 0 0 0 [] rfl (by omega) (by simp)
  refine ⟨0, acc', Ev.step (fun k => rfl) ?_⟩
  simp only [codec_reader_value.j0]
  refine Ev.bind (ev_count_bad hb sz 15) ?_
  refine Ev.bind (ev_count_bad hb sz 12) ?_
  exact h
/-- What the reader comes to: the value and where it stands then; or that it is bad. -/
def Good (g : Nat → Option (Int × Int × ByteArray × Int × List V × List Int × Int × Bool)) (b : List Int) (sz : Int) : Option (V × Nat) → Prop
  | some r => Ev g (r.1.f0, r.1.f1, r.1.f2, r.1.f3, r.1.f4, b.drop r.2, sz + r.2, false)
  | none => ∃ a0 a1 a2 a3 a4 b' sz', Bytes b' ∧ Ev g (a0, a1, a2, a3, a4, b', sz', true)
theorem ev_value_good (fld : Bool) {b : List Int} (hb : Bytes b) (hl : b.length ≤ 140737488351232) {sz : Int} (h0 : 0 ≤ sz) (hs : sz + b.length ≤ 1000000000000000000)
    (hrec : ∀ t, b = 4 :: t → fld = false → Good (fun k => codec_reader_value.j0 k t (sz + 1) false 4 0 e0 0) b sz (decR t)) :
    Good (fun k => codec_reader_value.f k b sz false fld) b sz (decV (!fld) b) := by
  cases b with
  | nil =>
    exact ⟨_, _, _, _, _, [], _, hb, Ev.step (fun k => rfl) (by
      simp only [codec_reader_value.f, byte_nil, Option.bind_some]
      have e : wrap64 0 = 0 := w64_id (by omega) (by omega)
      simp only [e, if_neg (show ¬ ((0 : Int) = 1) by decide), if_neg (show ¬ ((0 : Int) = 2) by decide), if_neg (show ¬ ((0 : Int) = 3) by decide), if_neg (show ¬ ((0 : Int) = 4) by decide)]
      exact Ev.now _)⟩
  | cons c t =>
    have hc := hb.head
    have hbt := hb.tail
    simp only [List.length_cons] at hl hs
    have e1 : wrap64 c = c := w64_id (by omega) (by omega)
    have e2 : wrap64 (sz + 1) = sz + 1 := w64_id (by omega) (by omega)
    have start : ∀ r, Ev (fun k => (if c = 1 then ((codec_Int.f k t).bind fun bt416 => ((codec_reader_takes.f t (sz + 1) false bt416.2.1 bt416.2.2).bind fun bt419 => (some (c, bt416.1, (⟨#[]⟩ : ByteArray), (0 : Int), ([] : List V), bt419.1, bt419.2.1, bt419.2.2)))) else (if c = 2 then ((codec_reader_text.f k t (sz + 1) false).bind fun bt422 => (some (c, 0, bt422.1, 0, ([] : List V), bt422.2.1, bt422.2.2.1, bt422.2.2.2))) else (if c = 3 then ((codec_reader_byte.f t (sz + 1) false).bind fun bt426 => (if bt426.2.2.2 = true then (some (c, wrap64 (bt426.1), (⟨#[]⟩ : ByteArray), 0, ([] : List V), bt426.2.1, bt426.2.2.1, true)) else (some (c, wrap64 (bt426.1), (⟨#[]⟩ : ByteArray), 0, ([] : List V), bt426.2.1, bt426.2.2.1, decide ((wrap64 (bt426.1)) > 1))))) else (if c = 4 then (codec_reader_value.j0 k t (sz + 1) fld c 0 (⟨#[]⟩ : ByteArray) 0) else (some (c, 0, (⟨#[]⟩ : ByteArray), 0, ([] : List V), t, sz + 1, true))))))) r → Ev (fun k => codec_reader_value.f k (c :: t) sz false fld) r := by
      intro r h
      refine Ev.step (fun k => rfl) ?_
      simp only [codec_reader_value.f, byte_cons, Option.bind_some, e1, e2, if_neg (show ¬ (false = true) by decide)]
      exact h
    have fin : ∀ (m : Nat) (x : List Int), (c :: t).drop (m + 1) = t.drop m := fun m x => rfl
    simp only [decV]
    by_cases k4 : c = 4
    · rw [if_pos k4]
      subst k4
      cases fld with
      | true =>
        simp only [Bool.not_true, if_neg (show ¬ (false = true) by decide)]
        obtain ⟨y3, acc', h⟩ := ev_j0_bad hbt (sz + 1) 4 0 e0 0
        exact ⟨_, _, _, _, _, t, _, hbt, start _ (by
          simp only [if_neg (show ¬ ((4 : Int) = 1) by decide), if_neg (show ¬ ((4 : Int) = 2) by decide), if_neg (show ¬ ((4 : Int) = 3) by decide), if_true]
          exact h)⟩
      | false =>
        simp only [Bool.not_false, if_true]
        have h := hrec t rfl rfl
        cases hd : decR t with
        | none =>
          rw [hd] at h
          obtain ⟨a0, a1, a2, a3, a4, b', sz', hb', h⟩ := h
          refine ⟨a0, a1, a2, a3, a4, b', sz', hb', start _ ?_⟩
          simp only [if_neg (show ¬ ((4 : Int) = 1) by decide), if_neg (show ¬ ((4 : Int) = 2) by decide), if_neg (show ¬ ((4 : Int) = 3) by decide), if_true]
          exact h
        | some r =>
          rw [hd] at h
          refine start _ ?_
          simp only [if_neg (show ¬ ((4 : Int) = 1) by decide), if_neg (show ¬ ((4 : Int) = 2) by decide), if_neg (show ¬ ((4 : Int) = 3) by decide), if_true]
          exact h
    · rw [if_neg k4]
      simp only [decL]
      by_cases k1 : c = 1
      · rw [if_pos k1]
        have hi := ev_codec_Int hbt
        cases hd : decU 0 t with
        | none =>
          rw [hd] at hi
          exact ⟨_, _, _, _, _, t, _, hbt, start _ (by
            simp only [if_pos k1]
            refine Ev.bind hi ?_
            simp only [resI, takes_err t (sz + 1) false 0 (show (20 : Int) ≠ 0 by decide), Option.bind_some]
            exact Ev.now _)⟩
        | some r =>
          obtain ⟨n, len⟩ := r
          rw [hd] at hi
          have hbd := decU_top hbt hd
          refine start _ ?_
          simp only [if_pos k1]
          refine Ev.bind hi ?_
          simp only [resI, takes_ok t (sz + 1) (show (0 : Int) ≤ (len : Int) by omega) (by omega), Option.bind_some, Int.toNat_natCast, w64_id (n := sz + 1 + (len : Int)) (by omega) (by omega)]
          refine ev_eq ?_
          simp only [k1, Option.map_some, List.drop_succ_cons, Prod.mk.injEq, and_true, true_and]
          omega
      · rw [if_neg k1]
        by_cases k2 : c = 2
        · rw [if_pos k2]
          cases hd : decT 64 t with
          | none =>
            obtain ⟨s, h⟩ := ev_text_none hbt (by omega) (sz + 1) hd
            exact ⟨_, _, _, _, _, t, _, hbt, start _ (by
              simp only [if_neg k1, if_pos k2]
              exact Ev.bind h (Ev.now _))⟩
          | some r =>
            obtain ⟨s, m⟩ := r
            have hm := decT_len hbt hd
            refine start _ ?_
            simp only [if_neg k1, if_pos k2]
            refine Ev.bind (ev_text_some hbt (by omega) (by omega) (by omega) hd) ?_
            refine ev_eq ?_
            simp only [k2, Option.map_some, List.drop_succ_cons, Prod.mk.injEq, and_true, true_and]
            omega
        · rw [if_neg k2]
          by_cases k3 : c = 3
          · rw [if_pos k3]
            cases t with
            | nil =>
              exact ⟨_, _, _, _, _, [], _, hbt, start _ (by
                simp only [if_neg k1, if_neg k2, if_pos k3, byte_nil, Option.bind_some, if_true]
                exact Ev.now _)⟩
            | cons d t =>
              have hd := hbt.head
              simp only [List.length_cons] at hl hs
              have e3 : wrap64 d = d := w64_id (by omega) (by omega)
              have e4 : wrap64 (sz + 1 + 1) = sz + 1 + 1 := w64_id (by omega) (by omega)
              by_cases h1 : d > 1
              · simp only [if_pos h1]
                exact ⟨_, _, _, _, _, t, _, hbt.tail, start _ (by
                  simp only [if_neg k1, if_neg k2, if_pos k3, byte_cons, Option.bind_some, if_neg (show ¬ (false = true) by decide), e3, decide_eq_true h1]
                  exact Ev.now _)⟩
              · simp only [if_neg h1]
                refine start _ ?_
                simp only [if_neg k1, if_neg k2, if_pos k3, byte_cons, Option.bind_some, if_neg (show ¬ (false = true) by decide), e3, e4, decide_eq_false h1]
                refine ev_eq ?_
                simp only [k3, List.drop_succ_cons, List.drop_zero, Prod.mk.injEq, and_true, true_and]
                omega
          · rw [if_neg k3]
            exact ⟨_, _, _, _, _, t, _, hbt, start _ (by
              simp only [if_neg k1, if_neg k2, if_neg k3, if_neg k4]
              exact Ev.now _)⟩
theorem decV_false (l : List Int) : decV false l = decL l := by
  cases l with
  | nil => rfl
  | cons c t =>
    simp only [decV]
    by_cases h : c = 4
    · rw [if_pos h]
      subst h
      simp [decL]
    · rw [if_neg h]
theorem ev_value_leaf {b : List Int} (hb : Bytes b) (hl : b.length ≤ 140737488351232) {sz : Int} (h0 : 0 ≤ sz) (hs : sz + b.length ≤ 1000000000000000000) : Good (fun k => codec_reader_value.f k b sz false true) b sz (decL b) := by
  have := ev_value_good true hb hl h0 hs (fun _ _ h => absurd h (by decide))
  rwa [Bool.not_true, decV_false] at this
theorem ev_l0 (x0 x1 : Int) (x2 : ByteArray) (x3 : Int) : ∀ (d i : Nat) (n : Nat) (acc : List V) (b : List Int) (sz : Int), i + d = n → n ≤ 1000 → acc.length ≤ i → Bytes b → b.length ≤ 140737488351232 → 0 ≤ sz → sz + b.length ≤ 1000000000000000000 →
    match decFs d b with
    | some q => Ev (fun k => codec_reader_value.l0 k (n : Int) (i : Int) b sz false x0 x1 x2 x3 acc) (x0, x1, x2, x3, acc ++ q.1, b.drop q.2, sz + q.2, false)
    | none => ∃ acc' b' sz', Bytes b' ∧ Ev (fun k => codec_reader_value.l0 k (n : Int) (i : Int) b sz false x0 x1 x2 x3 acc) (x0, x1, x2, x3, acc', b', sz', true) := by
  intro d
  induction d with
  | zero =>
    intro i n acc b sz hi hn ha hb hl h0 hs
    simp only [decFs]
    refine Ev.step (fun k => rfl) ?_
    simp only [codec_reader_value.l0]
    simp only [if_neg (show ¬ ((i : Int) < (n : Int)) by omega)]
    exact ev_eq (by simp)
  | succ d ih =>
    intro i n acc b sz hi hn ha hb hl h0 hs
    have e1 : wrap64 ((i : Int) + 1) = ((i + 1 : Nat) : Int) := by rw [w64_id (by omega) (by omega)]; omega
    have hv := ev_value_leaf hb hl h0 hs
    simp only [decFs]
    cases hd : decL b with
    | none =>
      rw [hd] at hv
      obtain ⟨a0, a1, a2, a3, a4, b', sz', hb', h⟩ := hv
      obtain ⟨acc', h2⟩ := ev_l0_bad (b := b') sz' x0 x1 x2 x3 d (i + 1) n (acc ++ [(⟨a0, a1, a2, a3, a4⟩ : V)]) (by omega) hn (by simp; omega)
      refine ⟨acc', b', sz', hb', Ev.step (fun k => rfl) ?_⟩
      simp only [codec_reader_value.l0]
      simp only [if_pos (show ((i : Int) < (n : Int)) by omega)]
      refine Ev.bind h ?_
      simp only [if_pos (show acc.length < 2199023255552 by omega), e1]
      exact h2
    | some r =>
      obtain ⟨v, m⟩ := r
      obtain ⟨p0, p1, p2, p3, p4⟩ := v
      rw [hd] at hv
      have hm := decL_len hb hd
      have h2 := ih (i + 1) n (acc ++ [(⟨p0, p1, p2, p3, p4⟩ : V)]) (b.drop m) (sz + m) (by omega) hn (by simp; omega) (hb.drop _) (by simp; omega) (by omega) (by simp; omega)
      simp only
      cases hq : decFs d (b.drop m) with
      | none =>
        rw [hq] at h2
        obtain ⟨acc', b', sz', hb', h2⟩ := h2
        refine ⟨acc', b', sz', hb', Ev.step (fun k => rfl) ?_⟩
        simp only [codec_reader_value.l0]
        simp only [if_pos (show ((i : Int) < (n : Int)) by omega)]
        refine Ev.bind hv ?_
        simp only [if_pos (show acc.length < 2199023255552 by omega), e1]
        exact h2
      | some q =>
        rw [hq] at h2
        refine Ev.step (fun k => rfl) ?_
        simp only [codec_reader_value.l0]
        simp only [if_pos (show ((i : Int) < (n : Int)) by omega)]
        refine Ev.bind hv ?_
        simp only [if_pos (show acc.length < 2199023255552 by omega), e1]
        refine ev_val h2 ?_
        simp only [List.append_assoc, List.cons_append, List.nil_append, List.drop_drop, Prod.mk.injEq, and_true, true_and]
        omega
theorem ev_j0 {t : List Int} (hb : Bytes t) (hl : t.length + 1 ≤ 140737488351232) {sz : Int} (h0 : 0 ≤ sz) (hs : sz + t.length + 1 ≤ 1000000000000000000) : Good (fun k => codec_reader_value.j0 k t (sz + 1) false 4 0 e0 0) (4 :: t) sz (decR t) := by
  have zero : ∀ (b : List Int) (s : Int) (y3 : Int), ∃ acc', Ev (fun k => codec_reader_value.l0 k 0 0 b s true 4 0 e0 y3 []) (4, 0, e0, y3, acc', b, s, true) := fun b s y3 => ev_l0_bad (b := b) s 4 0 e0 y3 0 0 0 [] rfl (by omega) (by simp)
  unfold decR
  cases hr : decU 0 t with
  | none =>
    obtain ⟨acc', h⟩ := zero t (sz + 1) 0
    exact ⟨_, _, _, _, _, t, _, hb, Ev.step (fun k => rfl) (by
      simp only [codec_reader_value.j0]
      refine Ev.bind (ev_count_none hb _ _ hr) ?_
      refine Ev.bind (ev_count_bad hb _ _) ?_
      exact h)⟩
  | some r =>
    obtain ⟨n, len⟩ := r
    have h1 := decU_top hb hr
    have c1 := ev_count_some hb (show 0 ≤ sz + 1 by omega) (by omega) hr (show (15 : Int) ≤ 1000 by decide)
    have hb2 := hb.drop len
    simp only
    by_cases hn : n > 15
    · rw [if_pos hn] at c1 ⊢
      obtain ⟨acc', h⟩ := zero (t.drop len) (sz + 1 + len) 0
      exact ⟨_, _, _, _, _, t.drop len, _, hb2, Ev.step (fun k => rfl) (by
        simp only [codec_reader_value.j0]
        refine Ev.bind c1 ?_
        refine Ev.bind (ev_count_bad hb2 _ _) ?_
        exact h)⟩
    · rw [if_neg hn] at c1 ⊢
      cases hc : decU 0 (t.drop len) with
      | none =>
        obtain ⟨acc', h⟩ := zero (t.drop len) (sz + 1 + len) n
        exact ⟨_, _, _, _, _, t.drop len, _, hb2, Ev.step (fun k => rfl) (by
          simp only [codec_reader_value.j0]
          refine Ev.bind c1 ?_
          refine Ev.bind (ev_count_none hb2 _ _ hc) ?_
          exact h)⟩
      | some c =>
        obtain ⟨m, len2⟩ := c
        have h2 := decU_top hb2 hc
        have hld : (t.drop len).length = t.length - len := by simp
        have c2 := ev_count_some hb2 (show 0 ≤ sz + 1 + (len : Int) by omega) (by rw [hld]; omega) hc (show (12 : Int) ≤ 1000 by decide)
        have hb3 := hb2.drop len2
        simp only
        by_cases hm : m > 12
        · rw [if_pos hm] at c2 ⊢
          obtain ⟨acc', h⟩ := zero ((t.drop len).drop len2) (sz + 1 + len + len2) n
          exact ⟨_, _, _, _, _, (t.drop len).drop len2, _, hb3, Ev.step (fun k => rfl) (by
            simp only [codec_reader_value.j0]
            refine Ev.bind c1 ?_
            refine Ev.bind c2 ?_
            exact h)⟩
        · rw [if_neg hm] at c2 ⊢
          have hl3 : ((t.drop len).drop len2).length = t.length - len - len2 := by simp [Nat.sub_add_eq]
          have h3 := ev_l0 4 0 e0 n m.toNat 0 m.toNat [] ((t.drop len).drop len2) (sz + 1 + len + len2) (by omega) (by omega) (by simp) hb3 (by rw [hl3]; omega) (by omega) (by rw [hl3]; omega)
          have em : ((m.toNat : Nat) : Int) = m := Int.toNat_of_nonneg h2.1
          rw [em] at h3
          rw [List.drop_drop] at h3 c2
          cases hq : decFs m.toNat (t.drop (len + len2)) with
          | none =>
            rw [hq] at h3
            obtain ⟨acc', b', sz', hb', h⟩ := h3
            exact ⟨_, _, _, _, _, b', sz', hb', Ev.step (fun k => rfl) (by
              simp only [codec_reader_value.j0]
              refine Ev.bind c1 ?_
              refine Ev.bind c2 ?_
              exact h)⟩
          | some q =>
            rw [hq] at h3
            simp only [Option.map_some]
            refine Ev.step (fun k => rfl) ?_
            simp only [codec_reader_value.j0]
            refine Ev.bind c1 ?_
            refine Ev.bind c2 ?_
            refine ev_val h3 ?_
            simp only [List.nil_append, List.drop_succ_cons, List.drop_drop, Prod.mk.injEq, and_true, true_and]
            omega
theorem ev_value {b : List Int} (hb : Bytes b) (hl : b.length ≤ 140737488351232) {sz : Int} (h0 : 0 ≤ sz) (hs : sz + b.length ≤ 1000000000000000000) : Good (fun k => codec_reader_value.f k b sz false false) b sz (decV true b) := by
  refine ev_value_good false hb hl h0 hs (fun t ht _ => ?_)
  subst ht
  simp only [List.length_cons] at hl hs
  exact ev_j0 hb.tail hl h0 (by omega)
def resV : Option (V × Nat) → Int × Int × ByteArray × Int × List V × Int × Int
  | none => (0, 0, e0, 0, [], 0, 20)
  | some r => (r.1.f0, r.1.f1, r.1.f2, r.1.f3, r.1.f4, (r.2 : Int), 0)
theorem ev_codec_Value {b : List Int} (hb : Bytes b) (hl : b.length ≤ 140737488351232) : Ev (fun k => codec_Value.f k b) (resV (decV true b)) := by
  have h := ev_value hb hl (show (0 : Int) ≤ 0 by decide) (by omega)
  unfold codec_Value.f
  cases hd : decV true b with
  | none =>
    rw [hd] at h
    obtain ⟨a0, a1, a2, a3, a4, b', sz', _, h⟩ := h
    refine Ev.bind h ?_
    simp only [if_true]
    exact Ev.now _
  | some r =>
    rw [hd] at h
    refine Ev.bind h ?_
    simp only [if_neg (show ¬ (false = true) by decide)]
    exact ev_eq (by simp [resV])

/-! ### an event -/
def decE (l : List Int) : Option ((ByteArray × List V) × Nat) :=
  match decT 64 l with
  | none => none
  | some s => if s.1.size < 1 ∨ s.1.size > 20 then none else match decU 0 (l.drop s.2) with
    | none => none
    | some c => if c.1 > 12 then none else (decVs c.1.toNat (l.drop (s.2 + c.2))).map fun q => ((s.1, q.1), s.2 + c.2 + q.2)
def resE : Option ((ByteArray × List V) × Nat) → ByteArray × List V × Int × Int
  | none => (e0, [], 0, 20)
  | some r => (r.1.1, r.1.2, (r.2 : Int), 0)
theorem ev_E_l0_bad {b : List Int} (sz : Int) (s : ByteArray) : ∀ (d i : Nat) (n : Nat) (acc : List V), i + d = n → n ≤ 1000 → acc.length ≤ i → Ev (fun k => codec_Event.l0 k (n : Int) (i : Int) b sz true s acc) (e0, [], 0, 20) := by
  intro d
  induction d with
  | zero =>
    intro i n acc hi hn ha
    refine Ev.step (fun k => rfl) ?_
    simp only [codec_Event.l0]
    simp only [if_neg (show ¬ ((i : Int) < (n : Int)) by omega), if_true]
    exact Ev.now _
  | succ d ih =>
    intro i n acc hi hn ha
    refine Ev.step (fun k => rfl) ?_
    simp only [codec_Event.l0]
    have e1 : wrap64 ((i : Int) + 1) = ((i + 1 : Nat) : Int) := by rw [w64_id (by omega) (by omega)]; omega
    simp only [if_pos (show ((i : Int) < (n : Int)) by omega)]
    refine Ev.bind (ev_value_bad sz false) ?_
    simp only [if_pos (show acc.length < 2199023255552 by omega), e1]
    exact ih (i + 1) n _ (by omega) hn (by simp; omega)
theorem ev_E_l0 (s : ByteArray) : ∀ (d i : Nat) (n : Nat) (acc : List V) (b : List Int) (sz : Int), i + d = n → n ≤ 1000 → acc.length ≤ i → Bytes b → b.length ≤ 140737488351232 → 0 ≤ sz → sz + b.length ≤ 1000000000000000000 →
    Ev (fun k => codec_Event.l0 k (n : Int) (i : Int) b sz false s acc) (match decVs d b with | some q => (s, acc ++ q.1, sz + q.2, 0) | none => (e0, [], 0, 20)) := by
  intro d
  induction d with
  | zero =>
    intro i n acc b sz hi hn ha hb hl h0 hs
    simp only [decVs]
    refine Ev.step (fun k => rfl) ?_
    simp only [codec_Event.l0]
    simp only [if_neg (show ¬ ((i : Int) < (n : Int)) by omega), if_neg (show ¬ (false = true) by decide)]
    exact ev_eq (by simp)
  | succ d ih =>
    intro i n acc b sz hi hn ha hb hl h0 hs
    have e1 : wrap64 ((i : Int) + 1) = ((i + 1 : Nat) : Int) := by rw [w64_id (by omega) (by omega)]; omega
    have hv := ev_value hb hl h0 hs
    simp only [decVs]
    refine Ev.step (fun k => rfl) ?_
    simp only [codec_Event.l0]
    simp only [if_pos (show ((i : Int) < (n : Int)) by omega)]
    cases hd : decV true b with
    | none =>
      rw [hd] at hv
      obtain ⟨a0, a1, a2, a3, a4, b', sz', hb', h⟩ := hv
      refine Ev.bind h ?_
      simp only [if_pos (show acc.length < 2199023255552 by omega), e1]
      exact ev_E_l0_bad sz' s d (i + 1) n _ (by omega) hn (by simp; omega)
    | some r =>
      obtain ⟨v, m⟩ := r
      obtain ⟨p0, p1, p2, p3, p4⟩ := v
      rw [hd] at hv
      have hm := decV_len hb hd
      have h2 := ih (i + 1) n (acc ++ [(⟨p0, p1, p2, p3, p4⟩ : V)]) (b.drop m) (sz + m) (by omega) hn (by simp; omega) (hb.drop _) (by simp; omega) (by omega) (by simp; omega)
      refine Ev.bind hv ?_
      simp only [if_pos (show acc.length < 2199023255552 by omega), e1]
      refine ev_val h2 ?_
      cases hq : decVs d (b.drop m) with
      | none => rfl
      | some q =>
        simp only [Option.map_some, List.append_assoc, List.cons_append, List.nil_append, Prod.mk.injEq, and_true, true_and]
        omega
theorem ev_E_j0_bad {b : List Int} (hb : Bytes b) (sz : Int) (s : ByteArray) : Ev (fun k => codec_Event.j0 k b sz true s) (e0, [], 0, 20) := by
  refine Ev.step (fun k => rfl) ?_
  simp only [codec_Event.j0]
  refine Ev.bind (ev_count_bad hb sz 12) ?_
  exact ev_E_l0_bad sz s 0 0 0 [] rfl (by omega) (by simp)
theorem ev_codec_Event {b : List Int} (hb : Bytes b) (hl : b.length ≤ 140737488351232) : Ev (fun k => codec_Event.f k b) (resE (decE b)) := by
  unfold codec_Event.f decE
  cases hd : decT 64 b with
  | none =>
    obtain ⟨s, h⟩ := ev_text_none hb hl 0 hd
    refine Ev.bind h ?_
    simp only [if_true]
    exact ev_E_j0_bad hb 0 s
  | some r =>
    obtain ⟨s, m⟩ := r
    have hm := decT_len hb hd
    have h := ev_text_some hb hl (show (0 : Int) ≤ 0 by decide) (by omega) hd
    refine Ev.bind h ?_
    simp only [if_neg (show ¬ (false = true) by decide)]
    have hb2 := hb.drop m
    have hl2 : (b.drop m).length = b.length - m := by simp
    by_cases h1 : s.size < 1
    · simp only [if_pos (show (s.size : Int) < 1 by omega)]
      rw [if_pos (.inl h1)]
      exact ev_E_j0_bad hb2 _ s
    · simp only [if_neg (show ¬ ((s.size : Int) < 1) by omega)]
      by_cases h2 : s.size > 20
      · rw [if_pos (.inr h2), decide_eq_true (show (s.size : Int) > 20 by omega)]
        exact ev_E_j0_bad hb2 _ s
      · rw [if_neg (by omega), decide_eq_false (show ¬ ((s.size : Int) > 20) by omega)]
        refine Ev.step (fun k => rfl) ?_
        simp only [codec_Event.j0]
        cases hc : decU 0 (b.drop m) with
        | none =>
          refine Ev.bind (ev_count_none hb2 _ _ hc) ?_
          exact ev_E_l0_bad _ s 0 0 0 [] rfl (by omega) (by simp)
        | some c =>
          obtain ⟨n, len⟩ := c
          have hn := decU_top hb2 hc
          have c1 := ev_count_some hb2 (show 0 ≤ 0 + (m : Int) by omega) (by rw [hl2]; omega) hc (show (12 : Int) ≤ 1000 by decide)
          simp only
          by_cases hgt : n > 12
          · rw [if_pos hgt] at c1 ⊢
            refine Ev.bind c1 ?_
            exact ev_E_l0_bad _ s 0 0 0 [] rfl (by omega) (by simp)
          · rw [if_neg hgt] at c1 ⊢
            refine Ev.bind c1 ?_
            have h3 := ev_E_l0 s n.toNat 0 n.toNat [] ((b.drop m).drop len) (0 + m + len) (by omega) (by omega) (by simp) (hb2.drop _) (by simp; omega) (by omega) (by simp; omega)
            have en : ((n.toNat : Nat) : Int) = n := Int.toNat_of_nonneg hn.1
            rw [en, List.drop_drop] at h3
            rw [List.drop_drop]
            refine ev_val h3 ?_
            cases hq : decVs n.toNat (b.drop (m + len)) with
            | none => rfl
            | some q =>
              simp only [resE, Option.map_some, List.nil_append, Prod.mk.injEq, and_true, true_and]
              omega
end Go.Proofs.Ythbnblmnamckmaa.Q
/-
  Plain facts on events as bytes, and that what is written are bytes. No program stands here. Conditions: those named in each lemma.
-/
namespace Go.Proofs.Ythbnblmnamckmaa.Q
open Go.RowKit Go.Proofs.Ythbnblmnamckmaa.PAll Go.Proofs.YthbnblmnamckmaaW.PrintWords Go.Proofs.YthbnblmnamckmaaW.PrintLast Go.Proofs.YthbnblmnamckmaaW.PrintMore
set_option linter.unusedVariables false
set_option linter.unusedSimpArgs false

theorem bytes_one (x : Int) : Bytes [x % 256] := by
  intro y hy
  simp only [List.mem_singleton] at hy
  omega
theorem encL_bytes (v : V) : Bytes (encL v) := by
  unfold encL
  refine (bytes_one _).app ?_
  split
  · exact putU_bytes _
  · split
    · exact Bytes.app (putU_bytes _) (bytes_of _)
    · exact bytes_one _
theorem flat_bytes (f : V → List Int) (hf : ∀ v, Bytes (f v)) : ∀ l : List V, Bytes (l.flatMap f)
  | [] => by intro x hx; simp at hx
  | v :: l => by rw [List.flatMap_cons]; exact (hf v).app (flat_bytes f hf l)
theorem encV_bytes (v : V) : Bytes (encV v) := by
  unfold encV
  split
  · exact (((bytes_one _).app (putU_bytes _)).app (putU_bytes _)).app (flat_bytes _ encL_bytes _)
  · exact encL_bytes v
theorem flatV_len : ∀ (l : List V), l.all plainB = true → (∀ v ∈ l, In v) → (l.flatMap encV).length ≤ 1000 * l.length
  | [], _, _ => by simp
  | v :: l, hp, hi => by
    rw [List.all_cons, Bool.and_eq_true] at hp
    have h1 := encV_len hp.1 (hi v (List.mem_cons_self ..))
    have h2 := flatV_len l hp.2 (fun x hx => hi x (List.mem_cons_of_mem _ hx))
    rw [List.flatMap_cons, List.length_append, List.length_cons]
    omega
theorem drop_app {a b : List Int} : (a ++ b).drop a.length = b := by rw [List.drop_append, List.drop_of_length_le (Nat.le_refl _), Nat.sub_self, List.drop_zero, List.nil_append]
theorem take_app {a b : List Int} : (a ++ b).take a.length = a := by rw [List.take_append, List.take_of_length_le (Nat.le_refl _), Nat.sub_self, List.take_zero, List.append_nil]
theorem decVs_flat : ∀ (l : List V), l.all plainB = true → (∀ v ∈ l, In v) → ∀ more, decVs l.length (l.flatMap encV ++ more) = some (l, (l.flatMap encV).length)
  | [], _, _, more => by simp [decVs]
  | v :: l, hp, hw, more => by
    rw [List.all_cons, Bool.and_eq_true] at hp
    simp only [List.length_cons, decVs, List.flatMap_cons, List.append_assoc]
    rw [decV_encV hp.1 (hw v (List.mem_cons_self ..))]
    simp only
    rw [drop_app, decVs_flat l hp.2 (fun x hx => hw x (List.mem_cons_of_mem _ hx)) more]
    simp
theorem pe_ok {s : ByteArray} {l : List V} (h : (pe s l).2 = 0) : 1 ≤ s.size ∧ s.size ≤ 20 ∧ l.length ≤ 12 ∧ l.all plainB = true ∧ pe s l = (putU s.size ++ bytesOf s ++ putU l.length ++ l.flatMap encV, 0) := by
  unfold pe at h ⊢
  split at h
  · simp at h
  · rename_i c
    split at h
    · rename_i d
      refine ⟨by omega, by omega, by omega, d, ?_⟩
      rw [if_neg c, if_pos d]
    · simp at h
theorem decE_pe {s : ByteArray} {l : List V} (h1 : 1 ≤ s.size) (h2 : s.size ≤ 20) (h3 : l.length ≤ 12) (h4 : l.all plainB = true) (hi : ∀ v ∈ l, In v) (more : List Int) :
    decE (putU s.size ++ bytesOf s ++ putU l.length ++ l.flatMap encV ++ more) = some ((s, l), (putU s.size ++ bytesOf s ++ putU l.length ++ l.flatMap encV).length) := by
  unfold decE
  have e : putU s.size ++ bytesOf s ++ putU l.length ++ l.flatMap encV ++ more = putU s.size ++ bytesOf s ++ (putU l.length ++ (l.flatMap encV ++ more)) := by simp [List.append_assoc]
  rw [e, decT_put (by omega)]
  have e2 : (putU s.size).length + s.size = (putU s.size ++ bytesOf s).length := by simp [bytesOf_length]
  simp only
  rw [if_neg (by omega), e2, drop_app, decU_put (by omega)]
  simp only
  rw [if_neg (by omega), ← List.drop_drop, drop_app, drop_app, Int.toNat_natCast, decVs_flat l h4 hi]
  simp [bytesOf_length, Nat.add_assoc]
theorem decVs_back : ∀ (k : Nat) (l : List Int) (fs : List V) (m : Nat), Bytes l → decVs k l = some (fs, m) → fs.length = k ∧ m ≤ l.length ∧ fs.all plainB = true ∧ fs.flatMap encV = l.take m ∧ ∀ x ∈ fs, In x ∧ Flat x
  | 0, l, fs, m, _, h => by
    simp only [decVs, Option.some.injEq, Prod.mk.injEq] at h
    obtain ⟨rfl, rfl⟩ := h
    simp
  | k + 1, l, fs, m, hb, h => by
    simp only [decVs] at h
    split at h
    · simp at h
    · rename_i r hr
      obtain ⟨q, hq, he⟩ := Option.map_eq_some_iff.1 h
      simp only [Prod.mk.injEq] at he
      obtain ⟨rfl, rfl⟩ := he
      have h0 := decV_len hb hr
      have h1 := decV_back hb hr
      have h2 := decVs_back k _ q.1 q.2 (hb.drop _) hq
      have h3 := h2.2.1
      simp only [List.length_drop] at h3
      refine ⟨by simp [h2.1], by omega, ?_, ?_, ?_⟩
      · rw [List.all_cons, h2.2.2.1, Bool.and_true]
        exact h1.1
      · rw [List.flatMap_cons, h1.2.1, h2.2.2.2.1, take_two]
      · intro x hx
        rcases List.mem_cons.1 hx with rfl | hx
        · exact ⟨h1.2.2.1, h1.2.2.2⟩
        · exact h2.2.2.2.2 x hx
theorem decE_back {b : List Int} (hb : Bytes b) {s : ByteArray} {l : List V} {m : Nat} (h : decE b = some ((s, l), m)) : 1 ≤ s.size ∧ s.size ≤ 20 ∧ l.length ≤ 12 ∧ (∀ v ∈ l, In v) ∧ (∀ v ∈ l, Flat v) ∧ m ≤ b.length ∧ pe s l = (b.take m, 0) := by
  unfold decE at h
  split at h
  · simp at h
  · rename_i r hr
    split at h
    · simp at h
    · rename_i c1
      split at h
      · simp at h
      · rename_i c hc
        split at h
        · simp at h
        · rename_i c2
          obtain ⟨q, hq, he⟩ := Option.map_eq_some_iff.1 h
          simp only [Prod.mk.injEq] at he
          obtain ⟨⟨rfl, rfl⟩, rfl⟩ := he
          have b1 := decT_back (by omega) hb hr
          have b0 := decT_len hb hr
          have b2 := decU_top (hb.drop _) hc
          have b3 := put_dec (hb.drop _) hc
          have b4 := decVs_back _ _ q.1 q.2 (hb.drop _) hq
          have b5 := b4.2.1
          have b6 := b2.2.2.2.2
          simp only [List.length_drop] at b5 b6
          refine ⟨by omega, by omega, by omega, fun v hv => (b4.2.2.2.2 v hv).1, fun v hv => (b4.2.2.2.2 v hv).2, by omega, ?_⟩
          unfold pe
          rw [if_neg (by omega), if_pos b4.2.2.1, b4.1, b3, b1.1, b4.2.2.2.1, take_two, take_two]
theorem flat_of {v : V} (h : plainB v = true) : Flat v := by
  intro x hx
  unfold plainB at h
  split at h
  · simp only [Bool.and_eq_true] at h
    have := List.all_eq_true.1 h.2 x hx
    simp only [fieldB, Bool.and_eq_true] at this
    exact (leaf_is this.2).2.1
  · rw [(leaf_is h).2.1] at hx
    simp at hx
end Go.Proofs.Ythbnblmnamckmaa.Q
/-
  CodecRows, without Go and memory: values that are written one behind the other are read one behind the other, and nothing is left. Conditions: the values are of their types.
-/
namespace Go.Proofs.Ythbnblmnamckmaa.Pure
open Go.RowKit Go.Proofs.Ythbnblmnamckmaa.PAll Go.Proofs.YthbnblmnamckmaaW.PrintWords Go.Proofs.YthbnblmnamckmaaW.PrintLast Go.Proofs.YthbnblmnamckmaaW.PrintMore Go.Proofs.Ythbnblmnamckmaa.Q
set_option linter.unusedVariables false
set_option linter.unusedSimpArgs false
def sizes (l : List V) : List Int := l.map fun v => ((encV v).length : Int)
theorem rows_end (i : Int) (l : List Int) (h : ¬ i < (l.length : Int)) : Ev (fun k => windlasslaw2_CodecRows.l1 k [] l i) true := by
  have hv := ev_codec_Value (b := []) (fun x hx => by simp at hx) (by simp)
  refine Ev.step (fun k => rfl) ?_
  simp only [windlasslaw2_CodecRows.l1]
  simp only [if_neg h]
  refine Ev.bind hv ?_
  simp only [decV, resV, List.length_nil]
  exact ev_eq (by decide)
theorem rows_l1 (l : List V) (hl : l.length ≤ 20) (hp : l.all plainB = true) (hi : ∀ v ∈ l, In v) : ∀ d i : Nat, i + d = l.length → Ev (fun k => windlasslaw2_CodecRows.l1 k ((l.drop i).flatMap encV) (sizes l) (i : Int)) true := by
  intro d
  have es : (sizes l).length = l.length := by simp [sizes]
  induction d with
  | zero =>
    intro i hd
    rw [List.drop_of_length_le (by omega)]
    exact rows_end _ _ (by omega)
  | succ d ih =>
    intro i hd
    have hlt : i < l.length := by omega
    have e1 : wrap64 ((i : Int) + 1) = ((i + 1 : Nat) : Int) := by rw [w64_id (by omega) (by omega)]; omega
    have hd' := List.drop_eq_getElem_cons hlt
    have hm : l[i] ∈ l := List.getElem_mem hlt
    have hpv : plainB l[i] = true := List.all_eq_true.1 hp _ hm
    have hiv := hi _ hm
    have hr : rd (sizes l) (i : Int) = ((encV l[i]).length : Int) := by
      have h1 := rd_drop (l := sizes l) (i := i) (by omega)
      unfold sizes at h1
      rw [← List.map_drop, hd', List.map_cons] at h1
      exact (List.cons.inj h1).1.symm
    have hrest : (l.drop (i + 1)).all plainB = true := List.all_eq_true.2 fun x hx => List.all_eq_true.1 hp x (List.mem_of_mem_drop hx)
    have hlen := flatV_len (l.drop (i + 1)) hrest (fun x hx => hi x (List.mem_of_mem_drop hx))
    have hlen1 := encV_len hpv hiv
    have hv := ev_codec_Value (b := encV l[i] ++ (l.drop (i + 1)).flatMap encV) ((encV_bytes _).app (flat_bytes _ encV_bytes _)) (by simp only [List.length_append, List.length_drop] at hlen ⊢; omega)
    rw [decV_encV hpv hiv] at hv
    refine Ev.step (fun k => rfl) ?_
    rw [hd', List.flatMap_cons]
    simp only [windlasslaw2_CodecRows.l1]
    simp only [if_pos (show ((i : Int) < ((sizes l).length : Int)) by omega)]
    refine Ev.bind hv ?_
    simp only [resV, if_true, if_pos (show (0 : Int) ≤ (i : Int) by omega), hr, bne_self_eq_false]
    refine Ev.step (fun k => rfl) ?_
    simp only [windlasslaw2_CodecRows.j2, if_neg (show ¬ (false = true) by decide)]
    have hpv' : pv l[i] = (encV l[i], 0) := by unfold pv; rw [if_pos hpv]
    have h2 := ev_codec_PutValue hiv
    rw [hpv'] at h2
    refine Ev.bind h2 ?_
    simp only [if_true, if_pos (show (0 : Int) ≤ ((encV l[i]).length : Int) by omega), List.length_append, if_pos (show ((encV l[i]).length : Int) ≤ (((encV l[i]).length + ((l.drop (i + 1)).flatMap encV).length : Nat) : Int) by omega), Int.toNat_natCast, take_app, drop_app, bytes_same, Option.bind_some, e1]
    exact ih (i + 1) (by omega)
theorem rows_l0 (l : List V) (hl : l.length ≤ 20) (hi : ∀ v ∈ l, In v) : ∀ (d i : Nat) (vs : List V), i + d = l.length → vs.length ≤ i → vs.all plainB = true → (∀ v ∈ vs, In v) → Ev (fun k => windlasslaw2_CodecRows.l0 k l (vs.flatMap encV) (sizes vs) (i : Int)) true := by
  intro d
  induction d with
  | zero =>
    intro i vs hd hv hp hw
    refine Ev.step (fun k => rfl) ?_
    simp only [windlasslaw2_CodecRows.l0]
    simp only [if_neg (show ¬ ((i : Int) < (l.length : Int)) by omega)]
    exact rows_l1 vs (by omega) hp hw vs.length 0 (by omega)
  | succ d ih =>
    intro i vs hd hv hp hw
    have hlt : i < l.length := by omega
    have e1 : wrap64 ((i : Int) + 1) = ((i + 1 : Nat) : Int) := by rw [w64_id (by omega) (by omega)]; omega
    have hm := rdT_mem hlt
    have hiv := hi _ hm
    have hlen := flatV_len vs hp hw
    have es : (sizes vs).length = vs.length := by simp [sizes]
    refine Ev.step (fun k => rfl) ?_
    simp only [windlasslaw2_CodecRows.l0]
    simp only [if_pos (show ((i : Int) < (l.length : Int)) by omega), if_pos (show (0 : Int) ≤ (i : Int) by omega), e1]
    refine Ev.bind (ev_codec_PutValue hiv) ?_
    unfold pv
    by_cases c : plainB (rd_T24 l (i : Int)) = true
    · have hlen1 := encV_len c hiv
      simp only [if_pos c, if_true, es, if_pos (show (vs.flatMap encV).length + (encV (rd_T24 l (i : Int))).length < 140737488355328 by omega), if_pos (show vs.length < 17592186044416 by omega)]
      have h := ih (i + 1) (vs ++ [rd_T24 l (i : Int)]) (by omega) (by simp; omega) (by simp [hp, c]) (by
        intro v hv
        rcases List.mem_append.1 hv with hv | hv
        · exact hw v hv
        · rw [List.mem_singleton.1 hv]; exact hiv)
      rw [List.flatMap_append, List.flatMap_cons, List.flatMap_nil, List.append_nil] at h
      have e2 : sizes (vs ++ [rd_T24 l (i : Int)]) = sizes vs ++ [((encV (rd_T24 l (i : Int))).length : Int)] := by simp [sizes]
      rw [e2] at h
      exact h
    · simp only [if_neg c, if_neg (show ¬ ((20 : Int) = 0) by decide)]
      exact ih (i + 1) vs (by omega) (by omega) hp hw
theorem CodecRows : windlasslaw2_CodecRows.Pure := by
  intro l hl
  have hi : ∀ v ∈ l, In v := fun v hv => In.of (hl.2.2 v hv)
  have hlen : l.length ≤ 9223372036854775807 := by have := hl.1; unfold maxLen at this; omega
  obtain ⟨b, hb, hq⟩ := ev_Smalls hlen hi
  refine Ev.rounds ?_
  unfold windlasslaw2_CodecRows.f
  refine Ev.bind ev_known ?_
  simp only [if_true]
  refine Ev.bind hb ?_
  cases b with
  | false =>
    simp only [if_neg (show ¬ (false = true) by decide)]
    exact Ev.now _
  | true =>
    simp only [if_true]
    exact rows_l0 l (hq rfl) hi l.length 0 [] (by omega) (by simp) rfl (by simp)
end Go.Proofs.Ythbnblmnamckmaa.Pure
