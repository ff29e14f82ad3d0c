-- Laid by a program of this seat (wip/merge.py): PAllx26, PAllx27, PAllx28, PAllx29.
import Derived.Laws.Cover1
import Derived.Test.YthbnblmnamckmaaMCodecBack0
import Derived.Test.YthbnblmnamckmaaMCodecBack2
import Derived.Test.YthbnblmnamckmaaMCodecBack1
-- Laid by a program of this seat (wip/xprint.py over the kit's print).
namespace Go.Proofs.Ythbnblmnamckmaa.PAll
open Go.RowKit Go.Proofs.YthbnblmnamckmaaW.PrintWords Go.Proofs.YthbnblmnamckmaaW.PrintLast Go.Proofs.YthbnblmnamckmaaW.PrintMore
attribute [local go_sem] max2_int min2_int max_two min_two max_three min_three max_four min_four   -- for this text's walks alone
set_option linter.unusedVariables false
set_option linter.unusedSimpArgs false

/-! ### windlassref3_Compare: function 42 -/
mutual
def windlassref3_Compare.j0 : Nat → Int → Int → Int → ByteArray → Int → List (S24) → Int → Int → ByteArray → Int → List (S24) → Option (Int)
 | 0,_,_,_,_,_,_,_,_,_,_,_ => none
 | k + 1,x5,x296000,x296001,x296002,x296003,x296004,x297000,x297001,x297002,x297003,x297004 => if x5 = 0 then ((windlassref3_order.f (Op.bytesLess x296002.toList x297002.toList) (!Op.bytesLess x296002.toList x297002.toList && !(x296002.toList == x297002.toList))).bind fun t299 => (windlassref3_Compare.j1 k t299 x296000 x296001 x296002 x296003 x296004 x297000 x297001 x297002 x297003 x297004)) else (windlassref3_Compare.j1 k x5 x296000 x296001 x296002 x296003 x296004 x297000 x297001 x297002 x297003 x297004)
def windlassref3_Compare.j1 : Nat → Int → Int → Int → ByteArray → Int → List (S24) → Int → Int → ByteArray → Int → List (S24) → Option (Int)
 | 0,_,_,_,_,_,_,_,_,_,_,_ => none
 | k + 1,x5,x296000,x296001,x296002,x296003,x296004,x297000,x297001,x297002,x297003,x297004 => if x5 = 0 then ((windlassref3_order.f (decide (x296003 < x297003)) (decide (x296003 > x297003))).bind fun t300 => (windlassref3_Compare.j2 k t300 x296000 x296001 x296002 x296003 x296004 x297000 x297001 x297002 x297003 x297004)) else (windlassref3_Compare.j2 k x5 x296000 x296001 x296002 x296003 x296004 x297000 x297001 x297002 x297003 x297004)
def windlassref3_Compare.j2 : Nat → Int → Int → Int → ByteArray → Int → List (S24) → Int → Int → ByteArray → Int → List (S24) → Option (Int)
 | 0,_,_,_,_,_,_,_,_,_,_,_ => none
 | k + 1,x5,x296000,x296001,x296002,x296003,x296004,x297000,x297001,x297002,x297003,x297004 => windlassref3_Compare.l0 k x5 0 x296000 x296001 x296002 x296003 x296004 x297000 x297001 x297002 x297003 x297004
def windlassref3_Compare.l0 : Nat → Int → Int → Int → Int → ByteArray → Int → List (S24) → Int → Int → ByteArray → Int → List (S24) → Option (Int)
 | 0,_,_,_,_,_,_,_,_,_,_,_,_ => none
 | k + 1,x5,x6,x296000,x296001,x296002,x296003,x296004,x297000,x297001,x297002,x297003,x297004 => if x6 < (x296004.length : Int) then (if x6 < (x297004.length : Int) then (if x5 = 0 then (if 0 ≤ x6 then ((windlassref3_Compare.f k ((rd_T24 x296004 x6).f0) ((rd_T24 x296004 x6).f1) ((rd_T24 x296004 x6).f2) ((rd_T24 x296004 x6).f3) ((rd_T24 x296004 x6).f4) ((rd_T24 x297004 x6).f0) ((rd_T24 x297004 x6).f1) ((rd_T24 x297004 x6).f2) ((rd_T24 x297004 x6).f3) ((rd_T24 x297004 x6).f4)).bind fun t303 => (windlassref3_Compare.l0 k t303 (wrap64 (x6 + 1)) x296000 x296001 x296002 x296003 x296004 x297000 x297001 x297002 x297003 x297004)) else (none)) else (some x5)) else (if x5 = 0 then ((windlassref3_order.f (decide ((x296004.length : Int) < (x297004.length : Int))) (decide ((x296004.length : Int) > (x297004.length : Int)))).bind fun t304 => (some t304)) else (some x5))) else (if x5 = 0 then ((windlassref3_order.f (decide ((x296004.length : Int) < (x297004.length : Int))) (decide ((x296004.length : Int) > (x297004.length : Int)))).bind fun t305 => (some t305)) else (some x5))
def windlassref3_Compare.f : Nat → Int → Int → ByteArray → Int → List (S24) → Int → Int → ByteArray → Int → List (S24) → Option (Int)
 | 0,_,_,_,_,_,_,_,_,_,_ => none
 | k + 1,a0_0,a0_1,a0_2,a0_3,l0_4,a1_0,a1_1,a1_2,a1_3,l1_4 => (windlassref3_order.f (decide (a0_0 < a1_0)) (decide (a0_0 > a1_0))).bind fun t297 => (if t297 = 0 then ((windlassref3_order.f (decide (a0_1 < a1_1)) (decide (a0_1 > a1_1))).bind fun t298 => (windlassref3_Compare.j0 k t298 a0_0 a0_1 a0_2 a0_3 l0_4 a1_0 a1_1 a1_2 a1_3 l1_4)) else (windlassref3_Compare.j0 k t297 a0_0 a0_1 a0_2 a0_3 l0_4 a1_0 a1_1 a1_2 a1_3 l1_4))
end
theorem windlassref3_Compare.mono_l : ∀ k,(∀ y0 y1 y2 y3 y4 y5 y6 y7 y8 y9,LeO (windlassref3_Compare.f k y0 y1 y2 y3 y4 y5 y6 y7 y8 y9) (windlassref3_Compare.f (k + 1) y0 y1 y2 y3 y4 y5 y6 y7 y8 y9)) ∧ (∀ y0 y1 y2 y3 y4 y5 y6 y7 y8 y9 y10,LeO (windlassref3_Compare.j0 k y0 y1 y2 y3 y4 y5 y6 y7 y8 y9 y10) (windlassref3_Compare.j0 (k + 1) y0 y1 y2 y3 y4 y5 y6 y7 y8 y9 y10)) ∧ (∀ y0 y1 y2 y3 y4 y5 y6 y7 y8 y9 y10,LeO (windlassref3_Compare.j1 k y0 y1 y2 y3 y4 y5 y6 y7 y8 y9 y10) (windlassref3_Compare.j1 (k + 1) y0 y1 y2 y3 y4 y5 y6 y7 y8 y9 y10)) ∧ (∀ y0 y1 y2 y3 y4 y5 y6 y7 y8 y9 y10,LeO (windlassref3_Compare.j2 k y0 y1 y2 y3 y4 y5 y6 y7 y8 y9 y10) (windlassref3_Compare.j2 (k + 1) y0 y1 y2 y3 y4 y5 y6 y7 y8 y9 y10)) ∧ (∀ y0 y1 y2 y3 y4 y5 y6 y7 y8 y9 y10 y11,LeO (windlassref3_Compare.l0 k y0 y1 y2 y3 y4 y5 y6 y7 y8 y9 y10 y11) (windlassref3_Compare.l0 (k + 1) y0 y1 y2 y3 y4 y5 y6 y7 y8 y9 y10 y11))
 | 0 => ⟨fun _ _ _ _ _ _ _ _ _ _ r h => by simp [windlassref3_Compare.f] at h,fun _ _ _ _ _ _ _ _ _ _ _ r h => by simp [windlassref3_Compare.j0] at h,fun _ _ _ _ _ _ _ _ _ _ _ r h => by simp [windlassref3_Compare.j1] at h,fun _ _ _ _ _ _ _ _ _ _ _ r h => by simp [windlassref3_Compare.j2] at h,fun _ _ _ _ _ _ _ _ _ _ _ _ r h => by simp [windlassref3_Compare.l0] at h⟩
 | k + 1 => by
  obtain ⟨ih0,ih1,ih2,ih3,ih4⟩:=windlassref3_Compare.mono_l k
  refine ⟨?_,?_,?_,?_,?_⟩
  ·intro y0 y1 y2 y3 y4 y5 y6 y7 y8 y9
   unfold windlassref3_Compare.f
   repeat' first
   | (with_reducible exact ih0 _ _ _ _ _ _ _ _ _ _)
   | (with_reducible exact ih1 _ _ _ _ _ _ _ _ _ _ _)
   | (with_reducible exact ih2 _ _ _ _ _ _ _ _ _ _ _)
   | (with_reducible exact ih3 _ _ _ _ _ _ _ _ _ _ _)
   | (with_reducible exact ih4 _ _ _ _ _ _ _ _ _ _ _ _)
   | (with_reducible exact LeO.refl _)
   | (with_reducible exact LeO.none _)
   | (with_reducible refine LeO.ite ?_ ?_)
   | (with_reducible refine LeO.bind ?_ (fun _ => ?_))
   | exact ih0 _ _ _ _ _ _ _ _ _ _
   | exact ih1 _ _ _ _ _ _ _ _ _ _ _
   | exact ih2 _ _ _ _ _ _ _ _ _ _ _
   | exact ih3 _ _ _ _ _ _ _ _ _ _ _
   | exact ih4 _ _ _ _ _ _ _ _ _ _ _ _
   | exact LeO.none _
   | refine LeO.ite ?_ ?_
   | refine LeO.bind ?_ (fun _ => ?_)
  ·intro y0 y1 y2 y3 y4 y5 y6 y7 y8 y9 y10
   unfold windlassref3_Compare.j0
   repeat' first
   | (with_reducible exact ih0 _ _ _ _ _ _ _ _ _ _)
   | (with_reducible exact ih1 _ _ _ _ _ _ _ _ _ _ _)
   | (with_reducible exact ih2 _ _ _ _ _ _ _ _ _ _ _)
   | (with_reducible exact ih3 _ _ _ _ _ _ _ _ _ _ _)
   | (with_reducible exact ih4 _ _ _ _ _ _ _ _ _ _ _ _)
   | (with_reducible exact LeO.refl _)
   | (with_reducible exact LeO.none _)
   | (with_reducible refine LeO.ite ?_ ?_)
   | (with_reducible refine LeO.bind ?_ (fun _ => ?_))
   | exact ih0 _ _ _ _ _ _ _ _ _ _
   | exact ih1 _ _ _ _ _ _ _ _ _ _ _
   | exact ih2 _ _ _ _ _ _ _ _ _ _ _
   | exact ih3 _ _ _ _ _ _ _ _ _ _ _
   | exact ih4 _ _ _ _ _ _ _ _ _ _ _ _
   | exact LeO.none _
   | refine LeO.ite ?_ ?_
   | refine LeO.bind ?_ (fun _ => ?_)
  ·intro y0 y1 y2 y3 y4 y5 y6 y7 y8 y9 y10
   unfold windlassref3_Compare.j1
   repeat' first
   | (with_reducible exact ih0 _ _ _ _ _ _ _ _ _ _)
   | (with_reducible exact ih1 _ _ _ _ _ _ _ _ _ _ _)
   | (with_reducible exact ih2 _ _ _ _ _ _ _ _ _ _ _)
   | (with_reducible exact ih3 _ _ _ _ _ _ _ _ _ _ _)
   | (with_reducible exact ih4 _ _ _ _ _ _ _ _ _ _ _ _)
   | (with_reducible exact LeO.refl _)
   | (with_reducible exact LeO.none _)
   | (with_reducible refine LeO.ite ?_ ?_)
   | (with_reducible refine LeO.bind ?_ (fun _ => ?_))
   | exact ih0 _ _ _ _ _ _ _ _ _ _
   | exact ih1 _ _ _ _ _ _ _ _ _ _ _
   | exact ih2 _ _ _ _ _ _ _ _ _ _ _
   | exact ih3 _ _ _ _ _ _ _ _ _ _ _
   | exact ih4 _ _ _ _ _ _ _ _ _ _ _ _
   | exact LeO.none _
   | refine LeO.ite ?_ ?_
   | refine LeO.bind ?_ (fun _ => ?_)
  ·intro y0 y1 y2 y3 y4 y5 y6 y7 y8 y9 y10
   unfold windlassref3_Compare.j2
   repeat' first
   | (with_reducible exact ih0 _ _ _ _ _ _ _ _ _ _)
   | (with_reducible exact ih1 _ _ _ _ _ _ _ _ _ _ _)
   | (with_reducible exact ih2 _ _ _ _ _ _ _ _ _ _ _)
   | (with_reducible exact ih3 _ _ _ _ _ _ _ _ _ _ _)
   | (with_reducible exact ih4 _ _ _ _ _ _ _ _ _ _ _ _)
   | (with_reducible exact LeO.refl _)
   | (with_reducible exact LeO.none _)
   | (with_reducible refine LeO.ite ?_ ?_)
   | (with_reducible refine LeO.bind ?_ (fun _ => ?_))
   | exact ih0 _ _ _ _ _ _ _ _ _ _
   | exact ih1 _ _ _ _ _ _ _ _ _ _ _
   | exact ih2 _ _ _ _ _ _ _ _ _ _ _
   | exact ih3 _ _ _ _ _ _ _ _ _ _ _
   | exact ih4 _ _ _ _ _ _ _ _ _ _ _ _
   | exact LeO.none _
   | refine LeO.ite ?_ ?_
   | refine LeO.bind ?_ (fun _ => ?_)
  ·intro y0 y1 y2 y3 y4 y5 y6 y7 y8 y9 y10 y11
   unfold windlassref3_Compare.l0
   repeat' first
   | (with_reducible exact ih0 _ _ _ _ _ _ _ _ _ _)
   | (with_reducible exact ih1 _ _ _ _ _ _ _ _ _ _ _)
   | (with_reducible exact ih2 _ _ _ _ _ _ _ _ _ _ _)
   | (with_reducible exact ih3 _ _ _ _ _ _ _ _ _ _ _)
   | (with_reducible exact ih4 _ _ _ _ _ _ _ _ _ _ _ _)
   | (with_reducible exact LeO.refl _)
   | (with_reducible exact LeO.none _)
   | (with_reducible refine LeO.ite ?_ ?_)
   | (with_reducible refine LeO.bind ?_ (fun _ => ?_))
   | exact ih0 _ _ _ _ _ _ _ _ _ _
   | exact ih1 _ _ _ _ _ _ _ _ _ _ _
   | exact ih2 _ _ _ _ _ _ _ _ _ _ _
   | exact ih3 _ _ _ _ _ _ _ _ _ _ _
   | exact ih4 _ _ _ _ _ _ _ _ _ _ _ _
   | exact LeO.none _
   | refine LeO.ite ?_ ?_
   | refine LeO.bind ?_ (fun _ => ?_)
theorem windlassref3_Compare.mono : ∀ a0 a1 a2 a3 a4 a5 a6 a7 a8 a9 k,LeO (windlassref3_Compare.f k a0 a1 a2 a3 a4 a5 a6 a7 a8 a9) (windlassref3_Compare.f (k + 1) a0 a1 a2 a3 a4 a5 a6 a7 a8 a9):=by
 intro a0 a1 a2 a3 a4 a5 a6 a7 a8 a9 k
 obtain ⟨ih0,ih1,ih2,ih3,ih4⟩:=windlassref3_Compare.mono_l k
 exact ih0 a0 a1 a2 a3 a4 a5 a6 a7 a8 a9
def windlassref3_Compare.T11 : Bool × List (List Nat × List Nat):=(true,[([],[]),([0],[0]),([],[]),([1,2],[1,2]),([3],[3]),([],[]),([5],[5]),([],[]),([6,7],[6,7]),([8],[8]),([4,9],[4,9]),([10,10,0,1,2,3,4,5,6,7,8,9,10],[10])])
def windlassref3_Compare.B11 : List Nat:=[0,1,0,7,15,0,32,0,224,480,1023,2047]
theorem windlassref3_Compare.tab11 : rtab .any (opsOf Try.f42 11) = windlassref3_Compare.T11:=by kernel_rfl
theorem windlassref3_Compare.bits11 : waitsOk windlassref3_Compare.T11.2 windlassref3_Compare.B11 = true:=by kernel_rfl
set_option maxHeartbeats 8000000 in
set_option maxRecDepth 100000 in
theorem windlassref3_Compare.calls (k : Nat) : ∀ (a0_0 : Int) (a0_1 : Int) (a0_2 : ByteArray) (a0_3 : Int) (A0_4 : Option Addr) (c0_4 : Nat) (l0_4 : List (S24)) (a1_0 : Int) (a1_1 : Int) (a1_2 : ByteArray) (a1_3 : Int) (A1_4 : Option Addr) (c1_4 : Nat) (l1_4 : List (S24)) (r : Int) (w : World) (hr0_4 : Kd.C k24 w A0_4 l0_4.length l0_4) (hc0_4 : l0_4.length ≤ c0_4) (hr1_4 : Kd.C k24 w A1_4 l1_4.length l1_4) (hc1_4 : l1_4.length ≤ c1_4) (h : windlassref3_Compare.f k a0_0 a0_1 a0_2 a0_3 l0_4 a1_0 a1_1 a1_2 a1_3 l1_4 = some r),
  Calls Try.prog 42 #[.agg #[.int .i64 a0_0, .int .i64 a0_1, .string a0_2, .int .i64 a0_3, .slice A0_4 l0_4.length c0_4], .agg #[.int .i64 a1_0, .int .i64 a1_1, .string a1_2, .int .i64 a1_3, .slice A1_4 l1_4.length c1_4]] w fun e w' => e = .returned (.int .i64 r) ∧ Below w.heap.size w w':=by
 induction k using Nat.strongRecOn with
 | _ k ih =>
 intro a0_0 a0_1 a0_2 a0_3 A0_4 c0_4 l0_4 a1_0 a1_1 a1_2 a1_3 A1_4 c1_4 l1_4 r w hr0_4 hc0_4 hr1_4 hc1_4 h
 cases k with
 | zero => exact absurd h (by simp [windlassref3_Compare.f])
 | succ k =>
 simp only [windlassref3_Compare.f] at h
 have hu24:=Try.underlying24
 have HR0_4:=Aside0.mk hr0_4
 have HC0_4:=Aside0.mk hc0_4
 clear hr0_4 hc0_4
 have HR1_4:=Aside0.mk hr1_4
 have HC1_4:=Aside0.mk hc1_4
 clear hr1_4 hc1_4
 have HB:=Aside0.mk (Below.refl w.heap.size w)
 have H : ((windlassref3_order.f (decide (a0_0 < a1_0)) (decide (a0_0 > a1_0))).bind fun t297 => (if t297 = 0 then ((windlassref3_order.f (decide (a0_1 < a1_1)) (decide (a0_1 > a1_1))).bind fun t298 => (windlassref3_Compare.j0 k t298 a0_0 a0_1 a0_2 a0_3 l0_4 a1_0 a1_1 a1_2 a1_3 l1_4)) else (windlassref3_Compare.j0 k t297 a0_0 a0_1 a0_2 a0_3 l0_4 a1_0 a1_1 a1_2 a1_3 l1_4))) = some r:=h
 clear h
 replace H:=Option.bind_eq_some_iff.mp H
 obtain ⟨t297,A30,H⟩:=H
 replace H : (if t297 = 0 then ((windlassref3_order.f (decide (a0_1 < a1_1)) (decide (a0_1 > a1_1))).bind fun t298 => (windlassref3_Compare.j0 k t298 a0_0 a0_1 a0_2 a0_3 l0_4 a1_0 a1_1 a1_2 a1_3 l1_4)) else (windlassref3_Compare.j0 k t297 a0_0 a0_1 a0_2 a0_3 l0_4 a1_0 a1_1 a1_2 a1_3 l1_4)) = some r:=H
 have A3:=Aside0.mk A30
 clear A30
 have HC4:=Aside0.mk H
 clear H
 go_enter Try.func42,Try.ntmps42
 go_upto_if 19 with (first|((with_reducible refine gate_dst (N:=2) rfl ?_);(try (refine gate_guard (by rfl) ?_;dsimp only));refine box_event ?hg (N:=2) ?hd (cs:=#[.int .i64 a0_0, .int .i64 a0_1, .string a0_2, .int .i64 a0_3, .slice A0_4 l0_4.length c0_4]) (t:=24) ?hr ?_;(case hd => rfl);(case hg => rfl);(case hr => first|(go_simp;done)|(go_simp;rfl));intro gb295 hg w5 hbox hb;have n0_:=Aside0.mk (below_step (by repeat (first|(with_reducible first|exact HB.out|apply below_alloc|apply pw_below_drewN|apply below_drew1)|exact HB.out)) hb);have n1_:=Aside0.mk (hbox);have n2_:=Aside0.mk ((by rw [hg];exact (below_size (by repeat (first|(with_reducible first|exact HB.out|apply below_alloc|apply pw_below_drewN|apply below_drew1)|exact HB.out))) : w.heap.size ≤ gb295));have n3_:=Aside0.mk ((by rw [hg];exact (below_size (by repeat (first|(with_reducible first|exact HB.out|apply below_alloc|apply pw_below_drewN|apply below_drew1)|exact HB.out))) : w.heap.size ≤ gb295));clear HB;have HB:=n0_;have BK295:=n1_;have GW295:=n2_;have GE295:=n3_;clear n0_ n1_ n2_ n3_;clear hb hbox hg)|((with_reducible refine gate_dst (N:=3) rfl ?_);(try (refine gate_guard (by rfl) ?_;dsimp only));refine box_event ?hg (N:=3) ?hd (cs:=#[.int .i64 a1_0, .int .i64 a1_1, .string a1_2, .int .i64 a1_3, .slice A1_4 l1_4.length c1_4]) (t:=24) ?hr ?_;(case hd => rfl);(case hg => rfl);(case hr => first|(go_simp;done)|(go_simp;rfl));intro gb296 hg w6 hbox hb;have n0_:=Aside0.mk (blk_below (g:=gb295) (o := .cells #[.int .i64 a0_0, .int .i64 a0_1, .string a0_2, .int .i64 a0_3, .slice A0_4 l0_4.length c0_4] 24 (0,0)) (by (with_reducible repeat (first|refine blk_drewN ?_ _|refine blk_drew ?_|refine blk_alloc ?_ _));exact BK295.out) hb);have n1_:=Aside0.mk (below_step (by repeat (first|(with_reducible first|exact HB.out|apply below_alloc|apply pw_below_drewN|apply below_drew1|refine below_set ?_ GE295.out)|exact HB.out)) hb);have n2_:=Aside0.mk (hbox);have n3_:=Aside0.mk ((by rw [hg];exact (below_size (by repeat (first|(with_reducible first|exact HB.out|apply below_alloc|apply pw_below_drewN|apply below_drew1|refine below_set ?_ GE295.out)|exact HB.out))) : w.heap.size ≤ gb296));have n4_:=Aside0.mk ((by rw [hg];exact (below_size (by repeat (first|(with_reducible first|exact HB.out|apply below_alloc|apply pw_below_drewN|apply below_drew1|refine below_set ?_ GE295.out)|exact HB.out))) : w.heap.size ≤ gb296));have n5_:=Aside0.mk ((by rw [hg];exact Nat.ne_of_lt (blk_lt (g:=gb295) (o := .cells #[.int .i64 a0_0, .int .i64 a0_1, .string a0_2, .int .i64 a0_3, .slice A0_4 l0_4.length c0_4] 24 (0,0)) (by (with_reducible repeat (first|refine blk_drewN ?_ _|refine blk_drew ?_|refine blk_alloc ?_ _));exact BK295.out)) : gb295 ≠ gb296));have n6_:=Aside0.mk ((by rw [hg];exact Nat.ne_of_gt (blk_lt (g:=gb295) (o := .cells #[.int .i64 a0_0, .int .i64 a0_1, .string a0_2, .int .i64 a0_3, .slice A0_4 l0_4.length c0_4] 24 (0,0)) (by (with_reducible repeat (first|refine blk_drewN ?_ _|refine blk_drew ?_|refine blk_alloc ?_ _));exact BK295.out)) : gb296 ≠ gb295));clear BK295;clear HB;have BK295:=n0_;have HB:=n1_;have BK296:=n2_;have GW296:=n3_;have GE296:=n4_;have NB295_296:=n5_;have NB296_295:=n6_;clear n0_ n1_ n2_ n3_ n4_ n5_ n6_;clear hb hbox hg;have hnb7:=NB295_296.out;have hnc7:=NB296_295.out;have hcz8_0 : w6.cell? ⟨gb295,0,none⟩ = some (.int .i64 a0_0):=(blk_cell BK295.out 0).trans rfl;have hcz8_1 : w6.cell? ⟨gb295,1,none⟩ = some (.int .i64 a0_1):=(blk_cell BK295.out 1).trans rfl;have hcz8_2 : w6.cell? ⟨gb295,2,none⟩ = some (.string a0_2):=(blk_cell BK295.out 2).trans rfl;have hcz8_3 : w6.cell? ⟨gb295,3,none⟩ = some (.int .i64 a0_3):=(blk_cell BK295.out 3).trans rfl;have hcz8_4 : w6.cell? ⟨gb295,4,none⟩ = some (.slice A0_4 l0_4.length c0_4):=(blk_cell BK295.out 4).trans rfl;have hfz8_0:=blk_frozen BK295.out 0;have hfz8_1:=blk_frozen BK295.out 1;have hfz8_2:=blk_frozen BK295.out 2;have hfz8_3:=blk_frozen BK295.out 3;have hfz8_4:=blk_frozen BK295.out 4;have hcz9_0 : w6.cell? ⟨gb296,0,none⟩ = some (.int .i64 a1_0):=(blk_cell BK296.out 0).trans rfl;have hcz9_1 : w6.cell? ⟨gb296,1,none⟩ = some (.int .i64 a1_1):=(blk_cell BK296.out 1).trans rfl;have hcz9_2 : w6.cell? ⟨gb296,2,none⟩ = some (.string a1_2):=(blk_cell BK296.out 2).trans rfl;have hcz9_3 : w6.cell? ⟨gb296,3,none⟩ = some (.int .i64 a1_3):=(blk_cell BK296.out 3).trans rfl;have hcz9_4 : w6.cell? ⟨gb296,4,none⟩ = some (.slice A1_4 l1_4.length c1_4):=(blk_cell BK296.out 4).trans rfl;have hfz9_0:=blk_frozen BK296.out 0;have hfz9_1:=blk_frozen BK296.out 1;have hfz9_2:=blk_frozen BK296.out 2;have hfz9_3:=blk_frozen BK296.out 3;have hfz9_4:=blk_frozen BK296.out 4)|((with_reducible refine gate_callee (f:=48) rfl ?_);refine goesL_ (some 17) rfl rfl Try.func48 (by kernel_rfl) rfl #[.bool (decide (a0_0 < a1_0)), .bool (decide (a0_0 > a1_0))] rfl (by (try simp only [List.map_toArray,List.map_cons,List.map_nil]);first|done|rfl|(simp only [List.length_drop,List.length_take];rfl)|(go_simp;done)|(go_simp;simp;done)) ?_;(with_reducible refine (windlassref3_order.calls (decide (a0_0 < a1_0)) (decide (a0_0 > a1_0)) t297 _ A3.out).mono ?_);rintro e w' ⟨rfl,⟨nd,rfl⟩⟩;refine ⟨_,rfl,?_⟩))
 (try simp only [Act.put,List.setIfInBounds_toArray,List.set_cons_zero,List.set_cons_succ])
 go_cut [5] (fun v5 wc => ∃ (kq : Nat) (x5_3 : Int),v5 = .int .i64 x5_3 ∧ Aside0 (windlassref3_Compare.j0 kq x5_3 a0_0 a0_1 a0_2 a0_3 l0_4 a1_0 a1_1 a1_2 a1_3 l1_4 = some r) ∧ Aside0 (kq ≤ k) ∧ Aside0 (wc.heap[gb295]? = some (.cells #[.int .i64 a0_0, .int .i64 a0_1, .string a0_2, .int .i64 a0_3,(.slice A0_4 l0_4.length c0_4)] 24 (0,0))) ∧ Aside0 (wc.heap[gb296]? = some (.cells #[.int .i64 a1_0, .int .i64 a1_1, .string a1_2, .int .i64 a1_3,(.slice A1_4 l1_4.length c1_4)] 24 (0,0))) ∧ Aside0 (Below w.heap.size w wc))
 case first =>
  have H:=HC4.out
  clear HC4
  by_cases c10 : t297 = 0
  ·rw [if_pos c10] at H
   have c10b0 : (t297 == 0) = true:=beq_iff_eq.mpr c10
   have c10b1 : (t297 != 0) = false:=bne_eq_false_iff_eq.mpr c10
   clear c10
   (first|rw [c10b0]|(simp only [i64_w,i32_w];rw [c10b0])|skip)
   replace H:=Option.bind_eq_some_iff.mp H
   obtain ⟨t298,A110,H⟩:=H
   replace H : (windlassref3_Compare.j0 k t298 a0_0 a0_1 a0_2 a0_3 l0_4 a1_0 a1_1 a1_2 a1_3 l1_4) = some r:=H
   have A11:=Aside0.mk A110
   clear A110
   have H':=Aside0.mk H
   clear H
   have hnb12:=NB295_296.out
   have hnc12:=NB296_295.out
   have hcz13_0 : w6.cell? ⟨gb295,0,none⟩ = some (.int .i64 a0_0):=(blk_cell BK295.out 0).trans rfl
   have hcz13_1 : w6.cell? ⟨gb295,1,none⟩ = some (.int .i64 a0_1):=(blk_cell BK295.out 1).trans rfl
   have hcz13_2 : w6.cell? ⟨gb295,2,none⟩ = some (.string a0_2):=(blk_cell BK295.out 2).trans rfl
   have hcz13_3 : w6.cell? ⟨gb295,3,none⟩ = some (.int .i64 a0_3):=(blk_cell BK295.out 3).trans rfl
   have hcz13_4 : w6.cell? ⟨gb295,4,none⟩ = some (.slice A0_4 l0_4.length c0_4):=(blk_cell BK295.out 4).trans rfl
   have hfz13_0:=blk_frozen BK295.out 0
   have hfz13_1:=blk_frozen BK295.out 1
   have hfz13_2:=blk_frozen BK295.out 2
   have hfz13_3:=blk_frozen BK295.out 3
   have hfz13_4:=blk_frozen BK295.out 4
   have hcz14_0 : w6.cell? ⟨gb296,0,none⟩ = some (.int .i64 a1_0):=(blk_cell BK296.out 0).trans rfl
   have hcz14_1 : w6.cell? ⟨gb296,1,none⟩ = some (.int .i64 a1_1):=(blk_cell BK296.out 1).trans rfl
   have hcz14_2 : w6.cell? ⟨gb296,2,none⟩ = some (.string a1_2):=(blk_cell BK296.out 2).trans rfl
   have hcz14_3 : w6.cell? ⟨gb296,3,none⟩ = some (.int .i64 a1_3):=(blk_cell BK296.out 3).trans rfl
   have hcz14_4 : w6.cell? ⟨gb296,4,none⟩ = some (.slice A1_4 l1_4.length c1_4):=(blk_cell BK296.out 4).trans rfl
   have hfz14_0:=blk_frozen BK296.out 0
   have hfz14_1:=blk_frozen BK296.out 1
   have hfz14_2:=blk_frozen BK296.out 2
   have hfz14_3:=blk_frozen BK296.out 3
   have hfz14_4:=blk_frozen BK296.out 4
   go_wp2_with (first|((with_reducible refine gate_callee (f:=48) rfl ?_);refine goesL_ (some 30) rfl rfl Try.func48 (by kernel_rfl) rfl #[.bool (decide (a0_1 < a1_1)), .bool (decide (a0_1 > a1_1))] rfl (by (try simp only [List.map_toArray,List.map_cons,List.map_nil]);first|done|rfl|(simp only [List.length_drop,List.length_take];rfl)|(go_simp;done)|(go_simp;simp;done)) ?_;(with_reducible refine (windlassref3_order.calls (decide (a0_1 < a1_1)) (decide (a0_1 > a1_1)) t298 _ A11.out).mono ?_);rintro e w' ⟨rfl,⟨nd,rfl⟩⟩;refine ⟨_,rfl,?_⟩))
   go_meet
   case rel => exact ⟨_,(t298),(by first|rfl|(simp;done)|(simp [*];done)),H',⟨by first|omega|exact Nat.le_refl _⟩,⟨by (with_reducible repeat (first|refine blk_drewN ?_ _|refine blk_drew ?_|refine blk_alloc ?_ _));exact BK295.out⟩,⟨by (with_reducible repeat (first|refine blk_drewN ?_ _|refine blk_drew ?_|refine blk_alloc ?_ _));exact BK296.out⟩,⟨by repeat (first|(with_reducible first|exact HB.out|apply below_alloc|apply pw_below_drewN|apply below_drew1|refine below_set ?_ GE295.out|refine below_set ?_ GE296.out)|exact HB.out)⟩⟩
  ·rw [if_neg c10] at H
   have c10b0 : (t297 == 0) = false:=beq_eq_false_iff_ne.mpr c10
   have c10b1 : (t297 != 0) = true:=bne_iff_ne.mpr c10
   (first|rw [c10b0]|(simp only [i64_w,i32_w];rw [c10b0])|skip)
   have H':=Aside0.mk H
   clear H
   go_wp2
   go_meet
   case rel => exact ⟨_,(t297),(by first|rfl|(simp;done)|(simp [*];done)),H',⟨by first|omega|exact Nat.le_refl _⟩,⟨by (with_reducible repeat (first|refine blk_drewN ?_ _|refine blk_drew ?_|refine blk_alloc ?_ _));exact BK295.out⟩,⟨by (with_reducible repeat (first|refine blk_drewN ?_ _|refine blk_drew ?_|refine blk_alloc ?_ _));exact BK296.out⟩,⟨by repeat (first|(with_reducible first|exact HB.out|apply below_alloc|apply pw_below_drewN|apply below_drew1|refine below_set ?_ GE295.out|refine below_set ?_ GE296.out)|exact HB.out)⟩⟩
 case rest =>
  clear HC4
  try clear c1
  try clear p2
  try clear c4
  try clear c7
  try clear c10
  try clear c10b0
  try clear c10b1
  try clear c12
  try clear hcz13_0
  try clear hcz13_1
  try clear hcz13_2
  try clear hcz13_3
  try clear hcz13_4
  try clear hcz14_0
  try clear hcz14_1
  try clear hcz14_2
  try clear hcz14_3
  try clear hcz14_4
  try clear hcz8_0
  try clear hcz8_1
  try clear hcz8_2
  try clear hcz8_3
  try clear hcz8_4
  try clear hcz9_0
  try clear hcz9_1
  try clear hcz9_2
  try clear hcz9_3
  try clear hcz9_4
  try clear hfz13_0
  try clear hfz13_1
  try clear hfz13_2
  try clear hfz13_3
  try clear hfz13_4
  try clear hfz14_0
  try clear hfz14_1
  try clear hfz14_2
  try clear hfz14_3
  try clear hfz14_4
  try clear hfz8_0
  try clear hfz8_1
  try clear hfz8_2
  try clear hfz8_3
  try clear hfz8_4
  try clear hfz9_0
  try clear hfz9_1
  try clear hfz9_2
  try clear hfz9_3
  try clear hfz9_4
  obtain ⟨kq,x5_3,rfl,HA,HJ3,BK295,BK296,HB⟩:=hcut
  cases kq with
  | zero => exact absurd HA.out (by simp [windlassref3_Compare.j0])
  | succ kj3 =>
   have H:=HA.out
   clear HA
   simp only [windlassref3_Compare.j0] at H
   have HC15:=Aside0.mk H
   clear H
   go_upto_if 32 with (fail)
   go_cut [5] (fun v5 wc => ∃ (kq : Nat) (x5_14 : Int),v5 = .int .i64 x5_14 ∧ Aside0 (windlassref3_Compare.j1 kq x5_14 a0_0 a0_1 a0_2 a0_3 l0_4 a1_0 a1_1 a1_2 a1_3 l1_4 = some r) ∧ Aside0 (kq ≤ kj3) ∧ Aside0 (wc.heap[gb295]? = some (.cells #[.int .i64 a0_0, .int .i64 a0_1, .string a0_2, .int .i64 a0_3,(.slice A0_4 l0_4.length c0_4)] 24 (0,0))) ∧ Aside0 (wc.heap[gb296]? = some (.cells #[.int .i64 a1_0, .int .i64 a1_1, .string a1_2, .int .i64 a1_3,(.slice A1_4 l1_4.length c1_4)] 24 (0,0))) ∧ Aside0 (Below w.heap.size w wc))
   case first =>
    have H:=HC15.out
    clear HC15
    by_cases c16 : x5_3 = 0
    ·rw [if_pos c16] at H
     have c16b0 : (x5_3 == 0) = true:=beq_iff_eq.mpr c16
     have c16b1 : (x5_3 != 0) = false:=bne_eq_false_iff_eq.mpr c16
     clear c16
     (first|rw [c16b0]|(simp only [i64_w,i32_w];rw [c16b0])|skip)
     replace H:=Option.bind_eq_some_iff.mp H
     obtain ⟨t299,A170,H⟩:=H
     replace H : (windlassref3_Compare.j1 kj3 t299 a0_0 a0_1 a0_2 a0_3 l0_4 a1_0 a1_1 a1_2 a1_3 l1_4) = some r:=H
     have A17:=Aside0.mk A170
     clear A170
     have H':=Aside0.mk H
     clear H
     have hnb18:=NB295_296.out
     have hnc18:=NB296_295.out
     have hcz19_0 : wc.cell? ⟨gb295,0,none⟩ = some (.int .i64 a0_0):=(blk_cell BK295.out 0).trans rfl
     have hcz19_1 : wc.cell? ⟨gb295,1,none⟩ = some (.int .i64 a0_1):=(blk_cell BK295.out 1).trans rfl
     have hcz19_2 : wc.cell? ⟨gb295,2,none⟩ = some (.string a0_2):=(blk_cell BK295.out 2).trans rfl
     have hcz19_3 : wc.cell? ⟨gb295,3,none⟩ = some (.int .i64 a0_3):=(blk_cell BK295.out 3).trans rfl
     have hcz19_4 : wc.cell? ⟨gb295,4,none⟩ = some (.slice A0_4 l0_4.length c0_4):=(blk_cell BK295.out 4).trans rfl
     have hfz19_0:=blk_frozen BK295.out 0
     have hfz19_1:=blk_frozen BK295.out 1
     have hfz19_2:=blk_frozen BK295.out 2
     have hfz19_3:=blk_frozen BK295.out 3
     have hfz19_4:=blk_frozen BK295.out 4
     have hcz20_0 : wc.cell? ⟨gb296,0,none⟩ = some (.int .i64 a1_0):=(blk_cell BK296.out 0).trans rfl
     have hcz20_1 : wc.cell? ⟨gb296,1,none⟩ = some (.int .i64 a1_1):=(blk_cell BK296.out 1).trans rfl
     have hcz20_2 : wc.cell? ⟨gb296,2,none⟩ = some (.string a1_2):=(blk_cell BK296.out 2).trans rfl
     have hcz20_3 : wc.cell? ⟨gb296,3,none⟩ = some (.int .i64 a1_3):=(blk_cell BK296.out 3).trans rfl
     have hcz20_4 : wc.cell? ⟨gb296,4,none⟩ = some (.slice A1_4 l1_4.length c1_4):=(blk_cell BK296.out 4).trans rfl
     have hfz20_0:=blk_frozen BK296.out 0
     have hfz20_1:=blk_frozen BK296.out 1
     have hfz20_2:=blk_frozen BK296.out 2
     have hfz20_3:=blk_frozen BK296.out 3
     have hfz20_4:=blk_frozen BK296.out 4
     go_wp2_with (first|((with_reducible refine gate_callee (f:=48) rfl ?_);refine goesL_ (some 43) rfl rfl Try.func48 (by kernel_rfl) rfl #[.bool (Op.bytesLess a0_2.toList a1_2.toList), .bool (!Op.bytesLess a0_2.toList a1_2.toList && !(a0_2.toList == a1_2.toList))] rfl (by (try simp only [List.map_toArray,List.map_cons,List.map_nil]);first|done|rfl|(simp only [List.length_drop,List.length_take];rfl)|(go_simp;done)|(go_simp;simp;done)) ?_;(with_reducible refine (windlassref3_order.calls (Op.bytesLess a0_2.toList a1_2.toList) (!Op.bytesLess a0_2.toList a1_2.toList && !(a0_2.toList == a1_2.toList)) t299 _ A17.out).mono ?_);rintro e w' ⟨rfl,⟨nd,rfl⟩⟩;refine ⟨_,rfl,?_⟩))
     go_meet
     case rel => exact ⟨_,(t299),(by first|rfl|(simp;done)|(simp [*];done)),H',⟨by have:=HJ3.out;first|omega|exact Nat.le_refl _⟩,⟨by (with_reducible repeat (first|refine blk_drewN ?_ _|refine blk_drew ?_|refine blk_alloc ?_ _));exact BK295.out⟩,⟨by (with_reducible repeat (first|refine blk_drewN ?_ _|refine blk_drew ?_|refine blk_alloc ?_ _));exact BK296.out⟩,⟨by repeat (first|(with_reducible first|exact HB.out|apply below_alloc|apply pw_below_drewN|apply below_drew1|refine below_set ?_ GE295.out|refine below_set ?_ GE296.out)|exact HB.out)⟩⟩
    ·rw [if_neg c16] at H
     have c16b0 : (x5_3 == 0) = false:=beq_eq_false_iff_ne.mpr c16
     have c16b1 : (x5_3 != 0) = true:=bne_iff_ne.mpr c16
     (first|rw [c16b0]|(simp only [i64_w,i32_w];rw [c16b0])|skip)
     have H':=Aside0.mk H
     clear H
     go_wp2
     go_meet
     case rel => exact ⟨_,(x5_3),(by first|rfl|(simp;done)|(simp [*];done)),H',⟨by have:=HJ3.out;first|omega|exact Nat.le_refl _⟩,⟨by (with_reducible repeat (first|refine blk_drewN ?_ _|refine blk_drew ?_|refine blk_alloc ?_ _));exact BK295.out⟩,⟨by (with_reducible repeat (first|refine blk_drewN ?_ _|refine blk_drew ?_|refine blk_alloc ?_ _));exact BK296.out⟩,⟨by repeat (first|(with_reducible first|exact HB.out|apply below_alloc|apply pw_below_drewN|apply below_drew1|refine below_set ?_ GE295.out|refine below_set ?_ GE296.out)|exact HB.out)⟩⟩
   case rest =>
    clear HC15
    try clear c1
    try clear p2
    try clear c4
    try clear c7
    try clear c10
    try clear c10b0
    try clear c10b1
    try clear c12
    try clear c16
    try clear c16b0
    try clear c16b1
    try clear c18
    try clear hcz13_0
    try clear hcz13_1
    try clear hcz13_2
    try clear hcz13_3
    try clear hcz13_4
    try clear hcz14_0
    try clear hcz14_1
    try clear hcz14_2
    try clear hcz14_3
    try clear hcz14_4
    try clear hcz19_0
    try clear hcz19_1
    try clear hcz19_2
    try clear hcz19_3
    try clear hcz19_4
    try clear hcz20_0
    try clear hcz20_1
    try clear hcz20_2
    try clear hcz20_3
    try clear hcz20_4
    try clear hcz8_0
    try clear hcz8_1
    try clear hcz8_2
    try clear hcz8_3
    try clear hcz8_4
    try clear hcz9_0
    try clear hcz9_1
    try clear hcz9_2
    try clear hcz9_3
    try clear hcz9_4
    try clear hfz13_0
    try clear hfz13_1
    try clear hfz13_2
    try clear hfz13_3
    try clear hfz13_4
    try clear hfz14_0
    try clear hfz14_1
    try clear hfz14_2
    try clear hfz14_3
    try clear hfz14_4
    try clear hfz19_0
    try clear hfz19_1
    try clear hfz19_2
    try clear hfz19_3
    try clear hfz19_4
    try clear hfz20_0
    try clear hfz20_1
    try clear hfz20_2
    try clear hfz20_3
    try clear hfz20_4
    try clear hfz8_0
    try clear hfz8_1
    try clear hfz8_2
    try clear hfz8_3
    try clear hfz8_4
    try clear hfz9_0
    try clear hfz9_1
    try clear hfz9_2
    try clear hfz9_3
    try clear hfz9_4
    try clear p2
    obtain ⟨kq,x5_14,rfl,HA,HJ14,BK295,BK296,HB⟩:=hcut
    cases kq with
    | zero => exact absurd HA.out (by simp [windlassref3_Compare.j1])
    | succ kj14 =>
     have H:=HA.out
     clear HA
     simp only [windlassref3_Compare.j1] at H
     have HC21:=Aside0.mk H
     clear H
     go_upto_if 45 with (fail)
     go_cut [5] (fun v5 wc => ∃ (kq : Nat) (x5_20 : Int),v5 = .int .i64 x5_20 ∧ Aside0 (windlassref3_Compare.j2 kq x5_20 a0_0 a0_1 a0_2 a0_3 l0_4 a1_0 a1_1 a1_2 a1_3 l1_4 = some r) ∧ Aside0 (kq ≤ kj14) ∧ Aside0 (wc.heap[gb295]? = some (.cells #[.int .i64 a0_0, .int .i64 a0_1, .string a0_2, .int .i64 a0_3,(.slice A0_4 l0_4.length c0_4)] 24 (0,0))) ∧ Aside0 (wc.heap[gb296]? = some (.cells #[.int .i64 a1_0, .int .i64 a1_1, .string a1_2, .int .i64 a1_3,(.slice A1_4 l1_4.length c1_4)] 24 (0,0))) ∧ Aside0 (Below w.heap.size w wc))
     case first =>
      have H:=HC21.out
      clear HC21
      by_cases c22 : x5_14 = 0
      ·rw [if_pos c22] at H
       have c22b0 : (x5_14 == 0) = true:=beq_iff_eq.mpr c22
       have c22b1 : (x5_14 != 0) = false:=bne_eq_false_iff_eq.mpr c22
       clear c22
       (first|rw [c22b0]|(simp only [i64_w,i32_w];rw [c22b0])|skip)
       replace H:=Option.bind_eq_some_iff.mp H
       obtain ⟨t300,A230,H⟩:=H
       replace H : (windlassref3_Compare.j2 kj14 t300 a0_0 a0_1 a0_2 a0_3 l0_4 a1_0 a1_1 a1_2 a1_3 l1_4) = some r:=H
       have A23:=Aside0.mk A230
       clear A230
       have H':=Aside0.mk H
       clear H
       have hnb24:=NB295_296.out
       have hnc24:=NB296_295.out
       have hcz25_0 : wc.cell? ⟨gb295,0,none⟩ = some (.int .i64 a0_0):=(blk_cell BK295.out 0).trans rfl
       have hcz25_1 : wc.cell? ⟨gb295,1,none⟩ = some (.int .i64 a0_1):=(blk_cell BK295.out 1).trans rfl
       have hcz25_2 : wc.cell? ⟨gb295,2,none⟩ = some (.string a0_2):=(blk_cell BK295.out 2).trans rfl
       have hcz25_3 : wc.cell? ⟨gb295,3,none⟩ = some (.int .i64 a0_3):=(blk_cell BK295.out 3).trans rfl
       have hcz25_4 : wc.cell? ⟨gb295,4,none⟩ = some (.slice A0_4 l0_4.length c0_4):=(blk_cell BK295.out 4).trans rfl
       have hfz25_0:=blk_frozen BK295.out 0
       have hfz25_1:=blk_frozen BK295.out 1
       have hfz25_2:=blk_frozen BK295.out 2
       have hfz25_3:=blk_frozen BK295.out 3
       have hfz25_4:=blk_frozen BK295.out 4
       have hcz26_0 : wc.cell? ⟨gb296,0,none⟩ = some (.int .i64 a1_0):=(blk_cell BK296.out 0).trans rfl
       have hcz26_1 : wc.cell? ⟨gb296,1,none⟩ = some (.int .i64 a1_1):=(blk_cell BK296.out 1).trans rfl
       have hcz26_2 : wc.cell? ⟨gb296,2,none⟩ = some (.string a1_2):=(blk_cell BK296.out 2).trans rfl
       have hcz26_3 : wc.cell? ⟨gb296,3,none⟩ = some (.int .i64 a1_3):=(blk_cell BK296.out 3).trans rfl
       have hcz26_4 : wc.cell? ⟨gb296,4,none⟩ = some (.slice A1_4 l1_4.length c1_4):=(blk_cell BK296.out 4).trans rfl
       have hfz26_0:=blk_frozen BK296.out 0
       have hfz26_1:=blk_frozen BK296.out 1
       have hfz26_2:=blk_frozen BK296.out 2
       have hfz26_3:=blk_frozen BK296.out 3
       have hfz26_4:=blk_frozen BK296.out 4
       go_wp2_with (first|((with_reducible refine gate_callee (f:=48) rfl ?_);refine goesL_ (some 56) rfl rfl Try.func48 (by kernel_rfl) rfl #[.bool (decide (a0_3 < a1_3)), .bool (decide (a0_3 > a1_3))] rfl (by (try simp only [List.map_toArray,List.map_cons,List.map_nil]);first|done|rfl|(simp only [List.length_drop,List.length_take];rfl)|(go_simp;done)|(go_simp;simp;done)) ?_;(with_reducible refine (windlassref3_order.calls (decide (a0_3 < a1_3)) (decide (a0_3 > a1_3)) t300 _ A23.out).mono ?_);rintro e w' ⟨rfl,⟨nd,rfl⟩⟩;refine ⟨_,rfl,?_⟩))
       go_meet
       case rel => exact ⟨_,(t300),(by first|rfl|(simp;done)|(simp [*];done)),H',⟨by have:=HJ3.out;have:=HJ14.out;first|omega|exact Nat.le_refl _⟩,⟨by (with_reducible repeat (first|refine blk_drewN ?_ _|refine blk_drew ?_|refine blk_alloc ?_ _));exact BK295.out⟩,⟨by (with_reducible repeat (first|refine blk_drewN ?_ _|refine blk_drew ?_|refine blk_alloc ?_ _));exact BK296.out⟩,⟨by repeat (first|(with_reducible first|exact HB.out|apply below_alloc|apply pw_below_drewN|apply below_drew1|refine below_set ?_ GE295.out|refine below_set ?_ GE296.out)|exact HB.out)⟩⟩
      ·rw [if_neg c22] at H
       have c22b0 : (x5_14 == 0) = false:=beq_eq_false_iff_ne.mpr c22
       have c22b1 : (x5_14 != 0) = true:=bne_iff_ne.mpr c22
       (first|rw [c22b0]|(simp only [i64_w,i32_w];rw [c22b0])|skip)
       have H':=Aside0.mk H
       clear H
       go_wp2
       go_meet
       case rel => exact ⟨_,(x5_14),(by first|rfl|(simp;done)|(simp [*];done)),H',⟨by have:=HJ3.out;have:=HJ14.out;first|omega|exact Nat.le_refl _⟩,⟨by (with_reducible repeat (first|refine blk_drewN ?_ _|refine blk_drew ?_|refine blk_alloc ?_ _));exact BK295.out⟩,⟨by (with_reducible repeat (first|refine blk_drewN ?_ _|refine blk_drew ?_|refine blk_alloc ?_ _));exact BK296.out⟩,⟨by repeat (first|(with_reducible first|exact HB.out|apply below_alloc|apply pw_below_drewN|apply below_drew1|refine below_set ?_ GE295.out|refine below_set ?_ GE296.out)|exact HB.out)⟩⟩
     case rest =>
      clear HC21
      try clear c1
      try clear c2
      try clear p2
      try clear c4
      try clear c7
      try clear c10
      try clear c10b0
      try clear c10b1
      try clear c12
      try clear c16
      try clear c16b0
      try clear c16b1
      try clear c18
      try clear c22
      try clear c22b0
      try clear c22b1
      try clear c24
      try clear hcz13_0
      try clear hcz13_1
      try clear hcz13_2
      try clear hcz13_3
      try clear hcz13_4
      try clear hcz14_0
      try clear hcz14_1
      try clear hcz14_2
      try clear hcz14_3
      try clear hcz14_4
      try clear hcz19_0
      try clear hcz19_1
      try clear hcz19_2
      try clear hcz19_3
      try clear hcz19_4
      try clear hcz20_0
      try clear hcz20_1
      try clear hcz20_2
      try clear hcz20_3
      try clear hcz20_4
      try clear hcz25_0
      try clear hcz25_1
      try clear hcz25_2
      try clear hcz25_3
      try clear hcz25_4
      try clear hcz26_0
      try clear hcz26_1
      try clear hcz26_2
      try clear hcz26_3
      try clear hcz26_4
      try clear hcz8_0
      try clear hcz8_1
      try clear hcz8_2
      try clear hcz8_3
      try clear hcz8_4
      try clear hcz9_0
      try clear hcz9_1
      try clear hcz9_2
      try clear hcz9_3
      try clear hcz9_4
      try clear hfz13_0
      try clear hfz13_1
      try clear hfz13_2
      try clear hfz13_3
      try clear hfz13_4
      try clear hfz14_0
      try clear hfz14_1
      try clear hfz14_2
      try clear hfz14_3
      try clear hfz14_4
      try clear hfz19_0
      try clear hfz19_1
      try clear hfz19_2
      try clear hfz19_3
      try clear hfz19_4
      try clear hfz20_0
      try clear hfz20_1
      try clear hfz20_2
      try clear hfz20_3
      try clear hfz20_4
      try clear hfz25_0
      try clear hfz25_1
      try clear hfz25_2
      try clear hfz25_3
      try clear hfz25_4
      try clear hfz26_0
      try clear hfz26_1
      try clear hfz26_2
      try clear hfz26_3
      try clear hfz26_4
      try clear hfz8_0
      try clear hfz8_1
      try clear hfz8_2
      try clear hfz8_3
      try clear hfz8_4
      try clear hfz9_0
      try clear hfz9_1
      try clear hfz9_2
      try clear hfz9_3
      try clear hfz9_4
      try clear p2
      obtain ⟨kq,x5_20,rfl,HA,HJ20,BK295,BK296,HB⟩:=hcut
      cases kq with
      | zero => exact absurd HA.out (by simp [windlassref3_Compare.j2])
      | succ kj20 =>
       have H:=HA.out
       clear HA
       simp only [windlassref3_Compare.j2] at H
       have H':=Aside0.mk H
       clear H
       go_wp2
       go_loopg [5,6] kj20 (fun kq v5 v6 w' => ∃ (x5_4 : Int) (x6_4 : Int),v5 = .int .i64 x5_4 ∧ v6 = .int .i64 x6_4 ∧ Aside0 (windlassref3_Compare.l0 kq x5_4 x6_4 a0_0 a0_1 a0_2 a0_3 l0_4 a1_0 a1_1 a1_2 a1_3 l1_4 = some r) ∧ Aside0 (kq ≤ kj20) ∧ Aside0 (w'.heap[gb295]? = some (.cells #[.int .i64 a0_0, .int .i64 a0_1, .string a0_2, .int .i64 a0_3,(.slice A0_4 l0_4.length c0_4)] 24 (0,0))) ∧ Aside0 (w'.heap[gb296]? = some (.cells #[.int .i64 a1_0, .int .i64 a1_1, .string a1_2, .int .i64 a1_3,(.slice A1_4 l1_4.length c1_4)] 24 (0,0))) ∧ Aside0 (Below w.heap.size w w'))
       case atStart => exact ⟨(x5_20),(0),(by first|rfl|(simp;done)|(simp [*];done)),(by first|rfl|(simp;done)|(simp [*];done)),H',⟨Nat.le_refl _⟩,⟨by (with_reducible repeat (first|refine blk_drewN ?_ _|refine blk_drew ?_|refine blk_alloc ?_ _));exact BK295.out⟩,⟨by (with_reducible repeat (first|refine blk_drewN ?_ _|refine blk_drew ?_|refine blk_alloc ?_ _));exact BK296.out⟩,⟨by repeat (first|(with_reducible first|exact HB.out|apply below_alloc|apply pw_below_drewN|apply below_drew1|refine below_set ?_ GE295.out|refine below_set ?_ GE296.out)|exact HB.out)⟩⟩
       case round =>
        clear H'
        try clear c1
        try clear c2
        try clear p2
        try clear c4
        try clear c7
        try clear c10
        try clear c10b0
        try clear c10b1
        try clear c12
        try clear c16
        try clear c16b0
        try clear c16b1
        try clear c18
        try clear c22
        try clear c22b0
        try clear c22b1
        try clear c24
        try clear hcz13_0
        try clear hcz13_1
        try clear hcz13_2
        try clear hcz13_3
        try clear hcz13_4
        try clear hcz14_0
        try clear hcz14_1
        try clear hcz14_2
        try clear hcz14_3
        try clear hcz14_4
        try clear hcz19_0
        try clear hcz19_1
        try clear hcz19_2
        try clear hcz19_3
        try clear hcz19_4
        try clear hcz20_0
        try clear hcz20_1
        try clear hcz20_2
        try clear hcz20_3
        try clear hcz20_4
        try clear hcz25_0
        try clear hcz25_1
        try clear hcz25_2
        try clear hcz25_3
        try clear hcz25_4
        try clear hcz26_0
        try clear hcz26_1
        try clear hcz26_2
        try clear hcz26_3
        try clear hcz26_4
        try clear hcz8_0
        try clear hcz8_1
        try clear hcz8_2
        try clear hcz8_3
        try clear hcz8_4
        try clear hcz9_0
        try clear hcz9_1
        try clear hcz9_2
        try clear hcz9_3
        try clear hcz9_4
        try clear hfz13_0
        try clear hfz13_1
        try clear hfz13_2
        try clear hfz13_3
        try clear hfz13_4
        try clear hfz14_0
        try clear hfz14_1
        try clear hfz14_2
        try clear hfz14_3
        try clear hfz14_4
        try clear hfz19_0
        try clear hfz19_1
        try clear hfz19_2
        try clear hfz19_3
        try clear hfz19_4
        try clear hfz20_0
        try clear hfz20_1
        try clear hfz20_2
        try clear hfz20_3
        try clear hfz20_4
        try clear hfz25_0
        try clear hfz25_1
        try clear hfz25_2
        try clear hfz25_3
        try clear hfz25_4
        try clear hfz26_0
        try clear hfz26_1
        try clear hfz26_2
        try clear hfz26_3
        try clear hfz26_4
        try clear hfz8_0
        try clear hfz8_1
        try clear hfz8_2
        try clear hfz8_3
        try clear hfz8_4
        try clear hfz9_0
        try clear hfz9_1
        try clear hfz9_2
        try clear hfz9_3
        try clear hfz9_4
        try clear p2
        obtain ⟨x5_4,x6_4,rfl,rfl,HA,HK4,BK295,BK296,HB⟩:=hrel
        cases gk with
        | zero => exact absurd HA.out (by simp [windlassref3_Compare.l0])
        | succ k4 =>
         have H:=HA.out
         clear HA
         simp only [windlassref3_Compare.l0] at H
         by_cases c27 : x6_4 < (l0_4.length : Int)
         ·rw [if_pos c27] at H
          have c27b0 : decide (x6_4 < (l0_4.length : Int)) = true:=decide_eq_true c27
          clear c27
          by_cases c28 : x6_4 < (l1_4.length : Int)
          ·rw [if_pos c28] at H
           have c28b0 : decide (x6_4 < (l1_4.length : Int)) = true:=decide_eq_true c28
           clear c28
           by_cases c29 : x5_4 = 0
           ·rw [if_pos c29] at H
            have c29b0 : (x5_4 == 0) = true:=beq_iff_eq.mpr c29
            have c29b1 : (x5_4 != 0) = false:=bne_eq_false_iff_eq.mpr c29
            clear c29
            by_cases c30 : 0 ≤ x6_4
            ·rw [if_pos c30] at H
             have c30b0 : decide (0 ≤ x6_4) = true:=decide_eq_true c30
             clear c30
             replace H:=Option.bind_eq_some_iff.mp H
             obtain ⟨t303,A310,H⟩:=H
             replace H : (windlassref3_Compare.l0 k4 t303 (wrap64 (x6_4 + 1)) a0_0 a0_1 a0_2 a0_3 l0_4 a1_0 a1_1 a1_2 a1_3 l1_4) = some r:=H
             have A31:=Aside0.mk A310
             clear A310
             have H':=Aside0.mk H
             clear H
             have hnb32:=NB295_296.out
             have hnc32:=NB296_295.out
             have hcz33_0 : wr.cell? ⟨gb295,0,none⟩ = some (.int .i64 a0_0):=(blk_cell BK295.out 0).trans rfl
             have hcz33_1 : wr.cell? ⟨gb295,1,none⟩ = some (.int .i64 a0_1):=(blk_cell BK295.out 1).trans rfl
             have hcz33_2 : wr.cell? ⟨gb295,2,none⟩ = some (.string a0_2):=(blk_cell BK295.out 2).trans rfl
             have hcz33_3 : wr.cell? ⟨gb295,3,none⟩ = some (.int .i64 a0_3):=(blk_cell BK295.out 3).trans rfl
             have hcz33_4 : wr.cell? ⟨gb295,4,none⟩ = some (.slice A0_4 l0_4.length c0_4):=(blk_cell BK295.out 4).trans rfl
             have hfz33_0:=blk_frozen BK295.out 0
             have hfz33_1:=blk_frozen BK295.out 1
             have hfz33_2:=blk_frozen BK295.out 2
             have hfz33_3:=blk_frozen BK295.out 3
             have hfz33_4:=blk_frozen BK295.out 4
             have hcz34_0 : wr.cell? ⟨gb296,0,none⟩ = some (.int .i64 a1_0):=(blk_cell BK296.out 0).trans rfl
             have hcz34_1 : wr.cell? ⟨gb296,1,none⟩ = some (.int .i64 a1_1):=(blk_cell BK296.out 1).trans rfl
             have hcz34_2 : wr.cell? ⟨gb296,2,none⟩ = some (.string a1_2):=(blk_cell BK296.out 2).trans rfl
             have hcz34_3 : wr.cell? ⟨gb296,3,none⟩ = some (.int .i64 a1_3):=(blk_cell BK296.out 3).trans rfl
             have hcz34_4 : wr.cell? ⟨gb296,4,none⟩ = some (.slice A1_4 l1_4.length c1_4):=(blk_cell BK296.out 4).trans rfl
             have hfz34_0:=blk_frozen BK296.out 0
             have hfz34_1:=blk_frozen BK296.out 1
             have hfz34_2:=blk_frozen BK296.out 2
             have hfz34_3:=blk_frozen BK296.out 3
             have hfz34_4:=blk_frozen BK296.out 4
             try go_wp2
             have n0_:=Aside0.mk (blk_drew BK295.out)
             have n1_:=Aside0.mk (blk_drew BK296.out)
             have n2_:=Aside0.mk (below_drew1 HB.out)
             clear BK295
             clear BK296
             clear HB
             have BK295:=n0_
             have BK296:=n1_
             have HB:=n2_
             clear n0_ n1_ n2_
             have p301 : 0 ≤ (x6_4 : Int):=of_decide_eq_true (by first|(with_reducible assumption)|assumption)
             have q301 : x6_4 < (l0_4.length : Int):=of_decide_eq_true (by first|(with_reducible assumption)|assumption)
             obtain ⟨ad301,A301_4,c301_4,e301,hx301_0,hx301_1,hx301_2,hx301_3,hx301_4,hl301_4,hi301_4⟩:=at_T24 HR0_4.out x6_4 p301 q301
             have hw301_4:=hx301_4
             have hw301_3:=hx301_3
             have hw301_2:=hx301_2
             have hw301_1:=hx301_1
             have hw301_0:=hx301_0
             cases e301
             replace hx301_0:=(HB.out.cell (World.block_lt_of_cell? w _ hx301_0)).trans hx301_0
             replace hx301_1:=(HB.out.cell (World.block_lt_of_cell? w _ hx301_1)).trans hx301_1
             replace hx301_2:=(HB.out.cell (World.block_lt_of_cell? w _ hx301_2)).trans hx301_2
             replace hx301_3:=(HB.out.cell (World.block_lt_of_cell? w _ hx301_3)).trans hx301_3
             replace hx301_4:=(HB.out.cell (World.block_lt_of_cell? w _ hx301_4)).trans hx301_4
             have HR301_4:=Aside0.mk hi301_4
             have HC301_4:=Aside0.mk hl301_4
             clear hi301_4 hl301_4
             replace p301:=eq_true p301
             replace q301:=eq_true q301
             have p302 : 0 ≤ (x6_4 : Int):=of_decide_eq_true (by first|(with_reducible assumption)|assumption)
             have q302 : x6_4 < (l1_4.length : Int):=of_decide_eq_true (by first|(with_reducible assumption)|assumption)
             obtain ⟨ad302,A302_4,c302_4,e302,hx302_0,hx302_1,hx302_2,hx302_3,hx302_4,hl302_4,hi302_4⟩:=at_T24 HR1_4.out x6_4 p302 q302
             have hw302_4:=hx302_4
             have hw302_3:=hx302_3
             have hw302_2:=hx302_2
             have hw302_1:=hx302_1
             have hw302_0:=hx302_0
             cases e302
             replace hx302_0:=(HB.out.cell (World.block_lt_of_cell? w _ hx302_0)).trans hx302_0
             replace hx302_1:=(HB.out.cell (World.block_lt_of_cell? w _ hx302_1)).trans hx302_1
             replace hx302_2:=(HB.out.cell (World.block_lt_of_cell? w _ hx302_2)).trans hx302_2
             replace hx302_3:=(HB.out.cell (World.block_lt_of_cell? w _ hx302_3)).trans hx302_3
             replace hx302_4:=(HB.out.cell (World.block_lt_of_cell? w _ hx302_4)).trans hx302_4
             have HR302_4:=Aside0.mk hi302_4
             have HC302_4:=Aside0.mk hl302_4
             clear hi302_4 hl302_4
             replace p302:=eq_true p302
             replace q302:=eq_true q302
             refine start_ (n:=12) (S:=fun w' => w'.cell? ⟨gb295,0,none⟩ = some (.int .i64 a0_0) ∧ w'.cell? ⟨gb295,1,none⟩ = some (.int .i64 a0_1) ∧ w'.cell? ⟨gb295,2,none⟩ = some (.string a0_2) ∧ w'.cell? ⟨gb295,3,none⟩ = some (.int .i64 a0_3) ∧ w'.cell? ⟨gb295,4,none⟩ = some (.slice (some ad301) l0_4.length c0_4) ∧ w'.cell? ⟨gb296,0,none⟩ = some (.int .i64 a1_0) ∧ w'.cell? ⟨gb296,1,none⟩ = some (.int .i64 a1_1) ∧ w'.cell? ⟨gb296,2,none⟩ = some (.string a1_2) ∧ w'.cell? ⟨gb296,3,none⟩ = some (.int .i64 a1_3) ∧ w'.cell? ⟨gb296,4,none⟩ = some (.slice (some ad302) l1_4.length c1_4) ∧ w'.cell? (ad301.add ((x6_4).toNat * 5)) = some (.int .i64 ((rd_T24 l0_4 x6_4).f0)) ∧ w'.cell? ⟨(ad301.add ((x6_4).toNat * 5)).block,(ad301.add ((x6_4).toNat * 5)).off + 1,none⟩ = some (.int .i64 ((rd_T24 l0_4 x6_4).f1)) ∧ w'.cell? ⟨(ad301.add ((x6_4).toNat * 5)).block,(ad301.add ((x6_4).toNat * 5)).off + 2,none⟩ = some (.string ((rd_T24 l0_4 x6_4).f2)) ∧ w'.cell? ⟨(ad301.add ((x6_4).toNat * 5)).block,(ad301.add ((x6_4).toNat * 5)).off + 3,none⟩ = some (.int .i64 ((rd_T24 l0_4 x6_4).f3)) ∧ w'.cell? ⟨(ad301.add ((x6_4).toNat * 5)).block,(ad301.add ((x6_4).toNat * 5)).off + 4,none⟩ = some (.slice A301_4 ((rd_T24 l0_4 x6_4).f4).length c301_4) ∧ w'.cell? (ad302.add ((x6_4).toNat * 5)) = some (.int .i64 ((rd_T24 l1_4 x6_4).f0)) ∧ w'.cell? ⟨(ad302.add ((x6_4).toNat * 5)).block,(ad302.add ((x6_4).toNat * 5)).off + 1,none⟩ = some (.int .i64 ((rd_T24 l1_4 x6_4).f1)) ∧ w'.cell? ⟨(ad302.add ((x6_4).toNat * 5)).block,(ad302.add ((x6_4).toNat * 5)).off + 2,none⟩ = some (.string ((rd_T24 l1_4 x6_4).f2)) ∧ w'.cell? ⟨(ad302.add ((x6_4).toNat * 5)).block,(ad302.add ((x6_4).toNat * 5)).off + 3,none⟩ = some (.int .i64 ((rd_T24 l1_4 x6_4).f3)) ∧ w'.cell? ⟨(ad302.add ((x6_4).toNat * 5)).block,(ad302.add ((x6_4).toNat * 5)).off + 4,none⟩ = some (.slice A302_4 ((rd_T24 l1_4 x6_4).f4).length c302_4)) (ds:=[]) #[false,false,false,false,false,false,false,false,false,false,false,false] (by kernel_rfl) rfl rfl ⟨(blk_cell BK295.out 0).trans rfl,(blk_cell BK295.out 1).trans rfl,(blk_cell BK295.out 2).trans rfl,(blk_cell BK295.out 3).trans rfl,(blk_cell BK295.out 4).trans rfl,(blk_cell BK296.out 0).trans rfl,(blk_cell BK296.out 1).trans rfl,(blk_cell BK296.out 2).trans rfl,(blk_cell BK296.out 3).trans rfl,(blk_cell BK296.out 4).trans rfl,((HB.out.cell (World.block_lt_of_cell? w _ hw301_0)).trans hw301_0),((HB.out.cell (World.block_lt_of_cell? w _ hw301_1)).trans hw301_1),((HB.out.cell (World.block_lt_of_cell? w _ hw301_2)).trans hw301_2),((HB.out.cell (World.block_lt_of_cell? w _ hw301_3)).trans hw301_3),((HB.out.cell (World.block_lt_of_cell? w _ hw301_4)).trans hw301_4),((HB.out.cell (World.block_lt_of_cell? w _ hw302_0)).trans hw302_0),((HB.out.cell (World.block_lt_of_cell? w _ hw302_1)).trans hw302_1),((HB.out.cell (World.block_lt_of_cell? w _ hw302_2)).trans hw302_2),((HB.out.cell (World.block_lt_of_cell? w _ hw302_3)).trans hw302_3),((HB.out.cell (World.block_lt_of_cell? w _ hw302_4)).trans hw302_4)⟩ (fun hHeld => ?_);refine with_tabW windlassref3_Compare.tab11 windlassref3_Compare.bits11 (fun HT_ HW_ => ?_)
             generalize wr.drew = w35 at BK295 BK296 HB HR301_4 HR302_4 hx301_0 hx301_1 hx301_2 hx301_3 hx301_4 hx302_0 hx302_1 hx302_2 hx302_3 hx302_4 hHeld ⊢
             refine pure_ (i:=0) (N:=some 75) (v:=?_) (a':=?_) #[true,false,false,false,false,false,false,false,false,false,false,false] rfl rfl (any_of HT_.out (by kernel_rfl)) (fun _ _ _ h => h) (Or.inl ⟨by rfl,?_⟩) ?_ ?_
             rotate_left
             ·intro w'
              go_simp
              with_reducible rfl
             rotate_left
             ·simp only [Act.put,List.setIfInBounds_toArray,List.set_cons_zero,List.set_cons_succ,i64_w,i32_w]
              rfl
             refine pure_ (i:=2) (N:=some 77) (v:=?_) (a':=?_) #[true,false,true,false,false,false,false,false,false,false,false,false] rfl rfl (any_of HT_.out (by kernel_rfl)) (fun _ _ _ h => h) (Or.inl ⟨by rfl,?_⟩) ?_ ?_
             rotate_left
             ·intro w'
              go_simp
              with_reducible rfl
             rotate_left
             ·simp only [Act.put,List.setIfInBounds_toArray,List.set_cons_zero,List.set_cons_succ,i64_w,i32_w]
              rfl
             refine pure_ (i:=5) (N:=some 80) (v:=?_) (a':=?_) #[true,false,true,false,false,true,false,false,false,false,false,false] rfl rfl (any_of HT_.out (by kernel_rfl)) (fun _ _ _ h => h) (Or.inl ⟨by rfl,?_⟩) ?_ ?_
             rotate_left
             ·intro w'
              go_simp
              with_reducible rfl
             rotate_left
             ·simp only [Act.put,List.setIfInBounds_toArray,List.set_cons_zero,List.set_cons_succ,i64_w,i32_w]
              rfl
             refine pure_ (i:=7) (N:=some 82) (v:=?_) (a':=?_) #[true,false,true,false,false,true,false,true,false,false,false,false] rfl rfl (any_of HT_.out (by kernel_rfl)) (fun _ _ _ h => h) (Or.inl ⟨by rfl,?_⟩) ?_ ?_
             rotate_left
             ·intro w'
              go_simp
              with_reducible rfl
             rotate_left
             ·simp only [Act.put,List.setIfInBounds_toArray,List.set_cons_zero,List.set_cons_succ,i64_w,i32_w]
              rfl
             refine take_ (i:=1) (N:=some 76) (v:=?_) (a':=?_) #[true,true,true,false,false,true,false,true,false,false,false,false] rfl rfl (take_ofW HT_.out HW_.out (by kernel_rfl)) (fun _ _ _ h => h) (Or.inl ⟨by rfl,?_⟩) hHeld ?_ ?_
             rotate_left
             ·rintro w' ⟨s0,s1,s2,s3,s4,s5,s6,s7,s8,s9,s10,s11,s12,s13,s14,s15,s16,s17,s18,s19⟩
              go_simp
              with_reducible rfl
             rotate_left
             ·simp only [Act.put,List.setIfInBounds_toArray,List.set_cons_zero,List.set_cons_succ,i64_w,i32_w]
              rfl
             refine pure_ (i:=3) (N:=some 78) (v:=?_) (a':=?_) #[true,true,true,true,false,true,false,true,false,false,false,false] rfl rfl (any_of HT_.out (by kernel_rfl)) (fun _ _ _ h => h) (Or.inl ⟨by rfl,?_⟩) ?_ ?_
             rotate_left
             ·intro w'
              go_simp
              with_reducible rfl
             rotate_left
             ·simp only [Act.put,List.setIfInBounds_toArray,List.set_cons_zero,List.set_cons_succ,i64_w,i32_w]
              rfl
             refine take_ (i:=4) (N:=some 79) (v:=?_) (a':=?_) #[true,true,true,true,true,true,false,true,false,false,false,false] rfl rfl (take_ofW HT_.out HW_.out (by kernel_rfl)) (fun _ _ _ h => h) (Or.inl ⟨by rfl,?_⟩) hHeld ?_ ?_
             rotate_left
             ·rintro w' ⟨s0,s1,s2,s3,s4,s5,s6,s7,s8,s9,s10,s11,s12,s13,s14,s15,s16,s17,s18,s19⟩
              go_simp
              with_reducible rfl
             rotate_left
             ·simp only [Act.put,List.setIfInBounds_toArray,List.set_cons_zero,List.set_cons_succ,i64_w,i32_w]
              rfl
             refine take_ (i:=6) (N:=some 81) (v:=?_) (a':=?_) #[true,true,true,true,true,true,true,true,false,false,false,false] rfl rfl (take_ofW HT_.out HW_.out (by kernel_rfl)) (fun _ _ _ h => h) (Or.inl ⟨by rfl,?_⟩) hHeld ?_ ?_
             rotate_left
             ·rintro w' ⟨s0,s1,s2,s3,s4,s5,s6,s7,s8,s9,s10,s11,s12,s13,s14,s15,s16,s17,s18,s19⟩
              go_simp
              with_reducible rfl
             rotate_left
             ·simp only [Act.put,List.setIfInBounds_toArray,List.set_cons_zero,List.set_cons_succ,i64_w,i32_w]
              rfl
             refine pure_ (i:=8) (N:=some 83) (v:=?_) (a':=?_) #[true,true,true,true,true,true,true,true,true,false,false,false] rfl rfl (any_of HT_.out (by kernel_rfl)) (fun _ _ _ h => h) (Or.inl ⟨by rfl,?_⟩) ?_ ?_
             rotate_left
             ·intro w'
              go_simp
              with_reducible rfl
             rotate_left
             ·simp only [Act.put,List.setIfInBounds_toArray,List.set_cons_zero,List.set_cons_succ,i64_w,i32_w]
              rfl
             refine take_ (i:=9) (N:=some 84) (v:=?_) (a':=?_) #[true,true,true,true,true,true,true,true,true,true,false,false] rfl rfl (take_ofW HT_.out HW_.out (by kernel_rfl)) (fun _ _ _ h => h) (Or.inl ⟨by rfl,?_⟩) hHeld ?_ ?_
             rotate_left
             ·rintro w' ⟨s0,s1,s2,s3,s4,s5,s6,s7,s8,s9,s10,s11,s12,s13,s14,s15,s16,s17,s18,s19⟩
              go_simp
              with_reducible rfl
             rotate_left
             ·simp only [Act.put,List.setIfInBounds_toArray,List.set_cons_zero,List.set_cons_succ,i64_w,i32_w]
              rfl
             refine one_ (i:=10) (N:=some 85) #[true,true,true,true,true,true,true,true,true,true,true,false] rfl rfl (one_of HT_.out (by kernel_rfl)) (by decide) (fun K hK => ?_)
             refine goes_ Try.func42 (by kernel_rfl) rfl #[.agg #[.int .i64 ((rd_T24 l0_4 x6_4).f0), .int .i64 ((rd_T24 l0_4 x6_4).f1), .string ((rd_T24 l0_4 x6_4).f2), .int .i64 ((rd_T24 l0_4 x6_4).f3), .slice A301_4 ((rd_T24 l0_4 x6_4).f4).length c301_4], .agg #[.int .i64 ((rd_T24 l1_4 x6_4).f0), .int .i64 ((rd_T24 l1_4 x6_4).f1), .string ((rd_T24 l1_4 x6_4).f2), .int .i64 ((rd_T24 l1_4 x6_4).f3), .slice A302_4 ((rd_T24 l1_4 x6_4).f4).length c302_4]] (by rfl) rfl rfl (by (try simp only [List.map_toArray,List.map_cons,List.map_nil]);first|done|rfl|(simp only [List.length_drop,List.length_take];rfl)|(go_simp;done)|(go_simp;simp;done)) ?_
             with_reducible refine (ih k4 (by have:=HJ3.out;have:=HJ14.out;have:=HJ20.out;have:=HK4.out;omega) ((rd_T24 l0_4 x6_4).f0) ((rd_T24 l0_4 x6_4).f1) ((rd_T24 l0_4 x6_4).f2) ((rd_T24 l0_4 x6_4).f3) _ _ ((rd_T24 l0_4 x6_4).f4) ((rd_T24 l1_4 x6_4).f0) ((rd_T24 l1_4 x6_4).f1) ((rd_T24 l1_4 x6_4).f2) ((rd_T24 l1_4 x6_4).f3) _ _ ((rd_T24 l1_4 x6_4).f4) t303 _ ?side1 ?side2 ?side3 ?side4 A31.out).mono ?_
             (case side1 => repeat (first|exact (Kd.C_below HR301_4.out HB.out)|(with_reducible refine Kd.C_alloc ?_ _)|(with_reducible refine Kd.C_drewN ?_ _)|(with_reducible refine Kd.C_drew ?_)))
             (case side2 => exact HC301_4.out)
             (case side3 => repeat (first|exact (Kd.C_below HR302_4.out HB.out)|(with_reducible refine Kd.C_alloc ?_ _)|(with_reducible refine Kd.C_drewN ?_ _)|(with_reducible refine Kd.C_drew ?_)))
             (case side4 => exact HC302_4.out)
             rintro e w36 ⟨rfl,hb⟩
             refine ⟨_,rfl,?_⟩
             have n0_:=Aside0.mk (blk_below (g:=gb295) (o := .cells #[.int .i64 a0_0, .int .i64 a0_1, .string a0_2, .int .i64 a0_3, .slice (some ad301) l0_4.length c0_4] 24 (0,0)) (by (with_reducible repeat (first|refine blk_drewN ?_ _|refine blk_drew ?_|refine blk_alloc ?_ _));exact BK295.out) hb)
             have n1_:=Aside0.mk (blk_below (g:=gb296) (o := .cells #[.int .i64 a1_0, .int .i64 a1_1, .string a1_2, .int .i64 a1_3, .slice (some ad302) l1_4.length c1_4] 24 (0,0)) (by (with_reducible repeat (first|refine blk_drewN ?_ _|refine blk_drew ?_|refine blk_alloc ?_ _));exact BK296.out) hb)
             have n2_:=Aside0.mk (below_step (by repeat (first|(with_reducible first|exact HB.out|apply below_alloc|apply pw_below_drewN|apply below_drew1|refine below_set ?_ GE295.out|refine below_set ?_ GE296.out)|exact HB.out)) hb)
             clear BK295
             clear BK296
             clear HB
             have BK295:=n0_
             have BK296:=n1_
             have HB:=n2_
             clear n0_ n1_ n2_
             (try clear hb)
             (try clear hb2)
             (try clear hk)
             (try clear hi)
             refine hK.out _ _ ⟨(blk_cell BK295.out 0).trans rfl,(blk_cell BK295.out 1).trans rfl,(blk_cell BK295.out 2).trans rfl,(blk_cell BK295.out 3).trans rfl,(blk_cell BK295.out 4).trans rfl,(blk_cell BK296.out 0).trans rfl,(blk_cell BK296.out 1).trans rfl,(blk_cell BK296.out 2).trans rfl,(blk_cell BK296.out 3).trans rfl,(blk_cell BK296.out 4).trans rfl,((HB.out.cell (World.block_lt_of_cell? w _ hw301_0)).trans hw301_0),((HB.out.cell (World.block_lt_of_cell? w _ hw301_1)).trans hw301_1),((HB.out.cell (World.block_lt_of_cell? w _ hw301_2)).trans hw301_2),((HB.out.cell (World.block_lt_of_cell? w _ hw301_3)).trans hw301_3),((HB.out.cell (World.block_lt_of_cell? w _ hw301_4)).trans hw301_4),((HB.out.cell (World.block_lt_of_cell? w _ hw302_0)).trans hw302_0),((HB.out.cell (World.block_lt_of_cell? w _ hw302_1)).trans hw302_1),((HB.out.cell (World.block_lt_of_cell? w _ hw302_2)).trans hw302_2),((HB.out.cell (World.block_lt_of_cell? w _ hw302_3)).trans hw302_3),((HB.out.cell (World.block_lt_of_cell? w _ hw302_4)).trans hw302_4)⟩ (fun hHeld => ?_)
             clear hK K
             refine norm_ (a':=?_) ?_ ?_
             rotate_left
             ·show Act.put _ (some 85) _ = _
              simp only [Act.put,List.setIfInBounds_toArray,List.set_cons_zero,List.set_cons_succ,i64_w,i32_w]
              rfl
             refine pure_ (i:=11) (N:=some 5) (v:=?_) (a':=?_) #[true,true,true,true,true,true,true,true,true,true,true,true] rfl rfl (any_of HT_.out (by kernel_rfl)) (fun _ _ _ h => h) (Or.inl ⟨by rfl,?_⟩) ?_ ?_
             rotate_left
             ·intro w'
              go_simp
              with_reducible rfl
             rotate_left
             ·simp only [Act.put,List.setIfInBounds_toArray,List.set_cons_zero,List.set_cons_succ,i64_w,i32_w]
              rfl
             refine done_ (done_of HT_.out (by kernel_rfl)) ?_
             try go_wp2
             go_roundg k4
             case measure => have:=HJ3.out;have:=HJ14.out;have:=HJ20.out;have:=HK4.out;omega
             case rel => exact ⟨(t303),(wrap64 (x6_4 + 1)),(by first|rfl|(simp;done)|(simp [*];done)),(by first|rfl|(simp;done)|(simp [*];done)),H',⟨by have:=HJ3.out;have:=HJ14.out;have:=HJ20.out;have:=HK4.out;omega⟩,⟨by (with_reducible repeat (first|refine blk_drewN ?_ _|refine blk_drew ?_|refine blk_alloc ?_ _));exact BK295.out⟩,⟨by (with_reducible repeat (first|refine blk_drewN ?_ _|refine blk_drew ?_|refine blk_alloc ?_ _));exact BK296.out⟩,⟨by repeat (first|(with_reducible first|exact HB.out|apply below_alloc|apply pw_below_drewN|apply below_drew1|refine below_set ?_ GE295.out|refine below_set ?_ GE296.out)|exact HB.out)⟩⟩
            ·rw [if_neg c30] at H
             exact absurd H (by simp)
           ·rw [if_neg c29] at H
            have c29b0 : (x5_4 == 0) = false:=beq_eq_false_iff_ne.mpr c29
            have c29b1 : (x5_4 != 0) = true:=bne_iff_ne.mpr c29
            obtain rfl:=Option.some.inj H
            have hnb37:=NB295_296.out
            have hnc37:=NB296_295.out
            have hcz38_0 : wr.cell? ⟨gb295,0,none⟩ = some (.int .i64 a0_0):=(blk_cell BK295.out 0).trans rfl
            have hcz38_1 : wr.cell? ⟨gb295,1,none⟩ = some (.int .i64 a0_1):=(blk_cell BK295.out 1).trans rfl
            have hcz38_2 : wr.cell? ⟨gb295,2,none⟩ = some (.string a0_2):=(blk_cell BK295.out 2).trans rfl
            have hcz38_3 : wr.cell? ⟨gb295,3,none⟩ = some (.int .i64 a0_3):=(blk_cell BK295.out 3).trans rfl
            have hcz38_4 : wr.cell? ⟨gb295,4,none⟩ = some (.slice A0_4 l0_4.length c0_4):=(blk_cell BK295.out 4).trans rfl
            have hfz38_0:=blk_frozen BK295.out 0
            have hfz38_1:=blk_frozen BK295.out 1
            have hfz38_2:=blk_frozen BK295.out 2
            have hfz38_3:=blk_frozen BK295.out 3
            have hfz38_4:=blk_frozen BK295.out 4
            have hcz39_0 : wr.cell? ⟨gb296,0,none⟩ = some (.int .i64 a1_0):=(blk_cell BK296.out 0).trans rfl
            have hcz39_1 : wr.cell? ⟨gb296,1,none⟩ = some (.int .i64 a1_1):=(blk_cell BK296.out 1).trans rfl
            have hcz39_2 : wr.cell? ⟨gb296,2,none⟩ = some (.string a1_2):=(blk_cell BK296.out 2).trans rfl
            have hcz39_3 : wr.cell? ⟨gb296,3,none⟩ = some (.int .i64 a1_3):=(blk_cell BK296.out 3).trans rfl
            have hcz39_4 : wr.cell? ⟨gb296,4,none⟩ = some (.slice A1_4 l1_4.length c1_4):=(blk_cell BK296.out 4).trans rfl
            have hfz39_0:=blk_frozen BK296.out 0
            have hfz39_1:=blk_frozen BK296.out 1
            have hfz39_2:=blk_frozen BK296.out 2
            have hfz39_3:=blk_frozen BK296.out 3
            have hfz39_4:=blk_frozen BK296.out 4
            go_wp2
            go_ret
            exact ⟨by first|rfl|(simp [errW_none,errW_some] <;> rfl)|(simp [*,errW_none,errW_some] <;> rfl),by repeat (first|(with_reducible first|exact HB.out|apply below_alloc|apply pw_below_drewN|apply below_drew1|refine below_set ?_ GE295.out|refine below_set ?_ GE296.out)|exact HB.out)⟩
          ·rw [if_neg c28] at H
           have c28b0 : decide (x6_4 < (l1_4.length : Int)) = false:=decide_eq_false c28
           clear c28
           by_cases c40 : x5_4 = 0
           ·rw [if_pos c40] at H
            have c40b0 : (x5_4 == 0) = true:=beq_iff_eq.mpr c40
            have c40b1 : (x5_4 != 0) = false:=bne_eq_false_iff_eq.mpr c40
            clear c40
            replace H:=Option.bind_eq_some_iff.mp H
            obtain ⟨t304,A410,H⟩:=H
            replace H : (some t304) = some r:=H
            have A41:=Aside0.mk A410
            clear A410
            obtain rfl:=Option.some.inj H
            have hnb42:=NB295_296.out
            have hnc42:=NB296_295.out
            have hcz43_0 : wr.cell? ⟨gb295,0,none⟩ = some (.int .i64 a0_0):=(blk_cell BK295.out 0).trans rfl
            have hcz43_1 : wr.cell? ⟨gb295,1,none⟩ = some (.int .i64 a0_1):=(blk_cell BK295.out 1).trans rfl
            have hcz43_2 : wr.cell? ⟨gb295,2,none⟩ = some (.string a0_2):=(blk_cell BK295.out 2).trans rfl
            have hcz43_3 : wr.cell? ⟨gb295,3,none⟩ = some (.int .i64 a0_3):=(blk_cell BK295.out 3).trans rfl
            have hcz43_4 : wr.cell? ⟨gb295,4,none⟩ = some (.slice A0_4 l0_4.length c0_4):=(blk_cell BK295.out 4).trans rfl
            have hfz43_0:=blk_frozen BK295.out 0
            have hfz43_1:=blk_frozen BK295.out 1
            have hfz43_2:=blk_frozen BK295.out 2
            have hfz43_3:=blk_frozen BK295.out 3
            have hfz43_4:=blk_frozen BK295.out 4
            have hcz44_0 : wr.cell? ⟨gb296,0,none⟩ = some (.int .i64 a1_0):=(blk_cell BK296.out 0).trans rfl
            have hcz44_1 : wr.cell? ⟨gb296,1,none⟩ = some (.int .i64 a1_1):=(blk_cell BK296.out 1).trans rfl
            have hcz44_2 : wr.cell? ⟨gb296,2,none⟩ = some (.string a1_2):=(blk_cell BK296.out 2).trans rfl
            have hcz44_3 : wr.cell? ⟨gb296,3,none⟩ = some (.int .i64 a1_3):=(blk_cell BK296.out 3).trans rfl
            have hcz44_4 : wr.cell? ⟨gb296,4,none⟩ = some (.slice A1_4 l1_4.length c1_4):=(blk_cell BK296.out 4).trans rfl
            have hfz44_0:=blk_frozen BK296.out 0
            have hfz44_1:=blk_frozen BK296.out 1
            have hfz44_2:=blk_frozen BK296.out 2
            have hfz44_3:=blk_frozen BK296.out 3
            have hfz44_4:=blk_frozen BK296.out 4
            go_wp2_with (first|((with_reducible refine gate_callee (f:=48) rfl ?_);refine goesL_ (some 102) rfl rfl Try.func48 (by kernel_rfl) rfl #[.bool (decide ((l0_4.length : Int) < (l1_4.length : Int))), .bool (decide ((l0_4.length : Int) > (l1_4.length : Int)))] rfl (by (try simp only [List.map_toArray,List.map_cons,List.map_nil]);first|done|rfl|(simp only [List.length_drop,List.length_take];rfl)|(go_simp;done)|(go_simp;simp;done)) ?_;(with_reducible refine (windlassref3_order.calls (decide ((l0_4.length : Int) < (l1_4.length : Int))) (decide ((l0_4.length : Int) > (l1_4.length : Int))) t304 _ A41.out).mono ?_);rintro e w' ⟨rfl,⟨nd,rfl⟩⟩;refine ⟨_,rfl,?_⟩))
            go_ret
            exact ⟨by first|rfl|(simp [errW_none,errW_some] <;> rfl)|(simp [*,errW_none,errW_some] <;> rfl),by repeat (first|(with_reducible first|exact HB.out|apply below_alloc|apply pw_below_drewN|apply below_drew1|refine below_set ?_ GE295.out|refine below_set ?_ GE296.out)|exact HB.out)⟩
           ·rw [if_neg c40] at H
            have c40b0 : (x5_4 == 0) = false:=beq_eq_false_iff_ne.mpr c40
            have c40b1 : (x5_4 != 0) = true:=bne_iff_ne.mpr c40
            obtain rfl:=Option.some.inj H
            have hnb45:=NB295_296.out
            have hnc45:=NB296_295.out
            have hcz46_0 : wr.cell? ⟨gb295,0,none⟩ = some (.int .i64 a0_0):=(blk_cell BK295.out 0).trans rfl
            have hcz46_1 : wr.cell? ⟨gb295,1,none⟩ = some (.int .i64 a0_1):=(blk_cell BK295.out 1).trans rfl
            have hcz46_2 : wr.cell? ⟨gb295,2,none⟩ = some (.string a0_2):=(blk_cell BK295.out 2).trans rfl
            have hcz46_3 : wr.cell? ⟨gb295,3,none⟩ = some (.int .i64 a0_3):=(blk_cell BK295.out 3).trans rfl
            have hcz46_4 : wr.cell? ⟨gb295,4,none⟩ = some (.slice A0_4 l0_4.length c0_4):=(blk_cell BK295.out 4).trans rfl
            have hfz46_0:=blk_frozen BK295.out 0
            have hfz46_1:=blk_frozen BK295.out 1
            have hfz46_2:=blk_frozen BK295.out 2
            have hfz46_3:=blk_frozen BK295.out 3
            have hfz46_4:=blk_frozen BK295.out 4
            have hcz47_0 : wr.cell? ⟨gb296,0,none⟩ = some (.int .i64 a1_0):=(blk_cell BK296.out 0).trans rfl
            have hcz47_1 : wr.cell? ⟨gb296,1,none⟩ = some (.int .i64 a1_1):=(blk_cell BK296.out 1).trans rfl
            have hcz47_2 : wr.cell? ⟨gb296,2,none⟩ = some (.string a1_2):=(blk_cell BK296.out 2).trans rfl
            have hcz47_3 : wr.cell? ⟨gb296,3,none⟩ = some (.int .i64 a1_3):=(blk_cell BK296.out 3).trans rfl
            have hcz47_4 : wr.cell? ⟨gb296,4,none⟩ = some (.slice A1_4 l1_4.length c1_4):=(blk_cell BK296.out 4).trans rfl
            have hfz47_0:=blk_frozen BK296.out 0
            have hfz47_1:=blk_frozen BK296.out 1
            have hfz47_2:=blk_frozen BK296.out 2
            have hfz47_3:=blk_frozen BK296.out 3
            have hfz47_4:=blk_frozen BK296.out 4
            go_wp2
            go_ret
            exact ⟨by first|rfl|(simp [errW_none,errW_some] <;> rfl)|(simp [*,errW_none,errW_some] <;> rfl),by repeat (first|(with_reducible first|exact HB.out|apply below_alloc|apply pw_below_drewN|apply below_drew1|refine below_set ?_ GE295.out|refine below_set ?_ GE296.out)|exact HB.out)⟩
         ·rw [if_neg c27] at H
          have c27b0 : decide (x6_4 < (l0_4.length : Int)) = false:=decide_eq_false c27
          clear c27
          by_cases c48 : x5_4 = 0
          ·rw [if_pos c48] at H
           have c48b0 : (x5_4 == 0) = true:=beq_iff_eq.mpr c48
           have c48b1 : (x5_4 != 0) = false:=bne_eq_false_iff_eq.mpr c48
           clear c48
           replace H:=Option.bind_eq_some_iff.mp H
           obtain ⟨t305,A490,H⟩:=H
           replace H : (some t305) = some r:=H
           have A49:=Aside0.mk A490
           clear A490
           obtain rfl:=Option.some.inj H
           have hnb50:=NB295_296.out
           have hnc50:=NB296_295.out
           have hcz51_0 : wr.cell? ⟨gb295,0,none⟩ = some (.int .i64 a0_0):=(blk_cell BK295.out 0).trans rfl
           have hcz51_1 : wr.cell? ⟨gb295,1,none⟩ = some (.int .i64 a0_1):=(blk_cell BK295.out 1).trans rfl
           have hcz51_2 : wr.cell? ⟨gb295,2,none⟩ = some (.string a0_2):=(blk_cell BK295.out 2).trans rfl
           have hcz51_3 : wr.cell? ⟨gb295,3,none⟩ = some (.int .i64 a0_3):=(blk_cell BK295.out 3).trans rfl
           have hcz51_4 : wr.cell? ⟨gb295,4,none⟩ = some (.slice A0_4 l0_4.length c0_4):=(blk_cell BK295.out 4).trans rfl
           have hfz51_0:=blk_frozen BK295.out 0
           have hfz51_1:=blk_frozen BK295.out 1
           have hfz51_2:=blk_frozen BK295.out 2
           have hfz51_3:=blk_frozen BK295.out 3
           have hfz51_4:=blk_frozen BK295.out 4
           have hcz52_0 : wr.cell? ⟨gb296,0,none⟩ = some (.int .i64 a1_0):=(blk_cell BK296.out 0).trans rfl
           have hcz52_1 : wr.cell? ⟨gb296,1,none⟩ = some (.int .i64 a1_1):=(blk_cell BK296.out 1).trans rfl
           have hcz52_2 : wr.cell? ⟨gb296,2,none⟩ = some (.string a1_2):=(blk_cell BK296.out 2).trans rfl
           have hcz52_3 : wr.cell? ⟨gb296,3,none⟩ = some (.int .i64 a1_3):=(blk_cell BK296.out 3).trans rfl
           have hcz52_4 : wr.cell? ⟨gb296,4,none⟩ = some (.slice A1_4 l1_4.length c1_4):=(blk_cell BK296.out 4).trans rfl
           have hfz52_0:=blk_frozen BK296.out 0
           have hfz52_1:=blk_frozen BK296.out 1
           have hfz52_2:=blk_frozen BK296.out 2
           have hfz52_3:=blk_frozen BK296.out 3
           have hfz52_4:=blk_frozen BK296.out 4
           go_wp2_with (first|((with_reducible refine gate_callee (f:=48) rfl ?_);refine goesL_ (some 102) rfl rfl Try.func48 (by kernel_rfl) rfl #[.bool (decide ((l0_4.length : Int) < (l1_4.length : Int))), .bool (decide ((l0_4.length : Int) > (l1_4.length : Int)))] rfl (by (try simp only [List.map_toArray,List.map_cons,List.map_nil]);first|done|rfl|(simp only [List.length_drop,List.length_take];rfl)|(go_simp;done)|(go_simp;simp;done)) ?_;(with_reducible refine (windlassref3_order.calls (decide ((l0_4.length : Int) < (l1_4.length : Int))) (decide ((l0_4.length : Int) > (l1_4.length : Int))) t305 _ A49.out).mono ?_);rintro e w' ⟨rfl,⟨nd,rfl⟩⟩;refine ⟨_,rfl,?_⟩))
           go_ret
           exact ⟨by first|rfl|(simp [errW_none,errW_some] <;> rfl)|(simp [*,errW_none,errW_some] <;> rfl),by repeat (first|(with_reducible first|exact HB.out|apply below_alloc|apply pw_below_drewN|apply below_drew1|refine below_set ?_ GE295.out|refine below_set ?_ GE296.out)|exact HB.out)⟩
          ·rw [if_neg c48] at H
           have c48b0 : (x5_4 == 0) = false:=beq_eq_false_iff_ne.mpr c48
           have c48b1 : (x5_4 != 0) = true:=bne_iff_ne.mpr c48
           obtain rfl:=Option.some.inj H
           have hnb53:=NB295_296.out
           have hnc53:=NB296_295.out
           have hcz54_0 : wr.cell? ⟨gb295,0,none⟩ = some (.int .i64 a0_0):=(blk_cell BK295.out 0).trans rfl
           have hcz54_1 : wr.cell? ⟨gb295,1,none⟩ = some (.int .i64 a0_1):=(blk_cell BK295.out 1).trans rfl
           have hcz54_2 : wr.cell? ⟨gb295,2,none⟩ = some (.string a0_2):=(blk_cell BK295.out 2).trans rfl
           have hcz54_3 : wr.cell? ⟨gb295,3,none⟩ = some (.int .i64 a0_3):=(blk_cell BK295.out 3).trans rfl
           have hcz54_4 : wr.cell? ⟨gb295,4,none⟩ = some (.slice A0_4 l0_4.length c0_4):=(blk_cell BK295.out 4).trans rfl
           have hfz54_0:=blk_frozen BK295.out 0
           have hfz54_1:=blk_frozen BK295.out 1
           have hfz54_2:=blk_frozen BK295.out 2
           have hfz54_3:=blk_frozen BK295.out 3
           have hfz54_4:=blk_frozen BK295.out 4
           go_wp2
           go_ret
           exact ⟨by first|rfl|(simp [errW_none,errW_some] <;> rfl)|(simp [*,errW_none,errW_some] <;> rfl),by repeat (first|(with_reducible first|exact HB.out|apply below_alloc|apply pw_below_drewN|apply below_drew1|refine below_set ?_ GE295.out|refine below_set ?_ GE296.out)|exact HB.out)⟩

end Go.Proofs.Ythbnblmnamckmaa.PAll
-- Laid by a program of this seat (wip/xprint.py over the kit's print).
namespace Go.Proofs.Ythbnblmnamckmaa.PAll
open Go.RowKit Go.Proofs.YthbnblmnamckmaaW.PrintWords Go.Proofs.YthbnblmnamckmaaW.PrintLast Go.Proofs.YthbnblmnamckmaaW.PrintMore
attribute [local go_sem] max2_int min2_int max_two min_two max_three min_three max_four min_four   -- for this text's walks alone
set_option linter.unusedVariables false
set_option linter.unusedSimpArgs false

/-! ### windlassref3_Same: function 31 -/
def windlassref3_Same.f (k : Nat) (a0_0 : Int) (a0_1 : Int) (a0_2 : ByteArray) (a0_3 : Int) (l0_4 : List (S24)) (a1_0 : Int) (a1_1 : Int) (a1_2 : ByteArray) (a1_3 : Int) (l1_4 : List (S24)) : Option (Bool) := (windlassref3_Compare.f k a0_0 a0_1 a0_2 a0_3 l0_4 a1_0 a1_1 a1_2 a1_3 l1_4).bind fun t308 => (some (t308 == 0))
theorem windlassref3_Same.mono : ∀ a0 a1 a2 a3 a4 a5 a6 a7 a8 a9 k, LeO (windlassref3_Same.f k a0 a1 a2 a3 a4 a5 a6 a7 a8 a9) (windlassref3_Same.f (k + 1) a0 a1 a2 a3 a4 a5 a6 a7 a8 a9) := by
  intro a0 a1 a2 a3 a4 a5 a6 a7 a8 a9 k
  unfold windlassref3_Same.f
  repeat' first
      | (with_reducible exact windlassref3_Compare.mono _ _ _ _ _ _ _ _ _ _ _)
      | (with_reducible exact LeO.refl _)
      | (with_reducible exact LeO.none _)
      | (with_reducible refine LeO.ite ?_ ?_)
      | (with_reducible refine LeO.bind ?_ (fun _ => ?_))
      | exact windlassref3_Compare.mono _ _ _ _ _ _ _ _ _ _ _
      | exact LeO.none _
      | refine LeO.ite ?_ ?_
      | refine LeO.bind ?_ (fun _ => ?_)
set_option maxHeartbeats 8000000 in
set_option maxRecDepth 100000 in
theorem windlassref3_Same.calls (k : Nat) (a0_0 : Int) (a0_1 : Int) (a0_2 : ByteArray) (a0_3 : Int) (A0_4 : Option Addr) (c0_4 : Nat) (l0_4 : List (S24)) (a1_0 : Int) (a1_1 : Int) (a1_2 : ByteArray) (a1_3 : Int) (A1_4 : Option Addr) (c1_4 : Nat) (l1_4 : List (S24)) (r : Bool) (w : World) (hr0_4 : Kd.C k24 w A0_4 l0_4.length l0_4) (hc0_4 : l0_4.length ≤ c0_4) (hr1_4 : Kd.C k24 w A1_4 l1_4.length l1_4) (hc1_4 : l1_4.length ≤ c1_4) (h : windlassref3_Same.f k a0_0 a0_1 a0_2 a0_3 l0_4 a1_0 a1_1 a1_2 a1_3 l1_4 = some r) :
    Calls Try.prog 31 #[.agg #[.int .i64 a0_0, .int .i64 a0_1, .string a0_2, .int .i64 a0_3, .slice A0_4 l0_4.length c0_4], .agg #[.int .i64 a1_0, .int .i64 a1_1, .string a1_2, .int .i64 a1_3, .slice A1_4 l1_4.length c1_4]] w fun e w' => e = .returned (.bool r) ∧ Below w.heap.size w w' := by
  have hu24 := Try.underlying24
  have HR0_4 := Aside0.mk hr0_4
  have HC0_4 := Aside0.mk hc0_4
  clear hr0_4 hc0_4
  have HR1_4 := Aside0.mk hr1_4
  have HC1_4 := Aside0.mk hc1_4
  clear hr1_4 hc1_4
  have HB := Aside0.mk (Below.refl w.heap.size w)
  have H : ((windlassref3_Compare.f k a0_0 a0_1 a0_2 a0_3 l0_4 a1_0 a1_1 a1_2 a1_3 l1_4).bind fun t308 => (some (t308 == 0))) = some r := h
  clear h
  replace H := Option.bind_eq_some_iff.mp H
  obtain ⟨t308, A30, H⟩ := H
  replace H : (some (t308 == 0)) = some r := H
  have A3 := Aside0.mk A30
  clear A30
  obtain rfl := Option.some.inj H
  go_enter Try.func31, Try.ntmps31
  go_wp2_with (first | ((with_reducible refine gate_dst (N := 2) rfl ?_); refine box_event ?hg (N := 2) ?hd (cs := #[.int .i64 a0_0, .int .i64 a0_1, .string a0_2, .int .i64 a0_3, .slice A0_4 l0_4.length c0_4]) (t := 24) ?hr ?_; (case hd => rfl); (case hg => rfl); (case hr => first | (go_simp; done) | (go_simp; rfl)); intro gb306 hg w4 hbox hb; have n0_ := Aside0.mk (below_step (by repeat (first | (with_reducible first | exact HB.out | apply below_alloc | apply pw_below_drewN | apply below_drew1) | exact HB.out)) hb); have n1_ := Aside0.mk (hbox); have n2_ := Aside0.mk ((by rw [hg]; exact (below_size (by repeat (first | (with_reducible first | exact HB.out | apply below_alloc | apply pw_below_drewN | apply below_drew1) | exact HB.out))) : w.heap.size ≤ gb306)); have n3_ := Aside0.mk ((by rw [hg]; exact (below_size (by repeat (first | (with_reducible first | exact HB.out | apply below_alloc | apply pw_below_drewN | apply below_drew1) | exact HB.out))) : w.heap.size ≤ gb306)); clear HB; have HB := n0_; have BK306 := n1_; have GW306 := n2_; have GE306 := n3_; clear n0_ n1_ n2_ n3_; clear hb hbox hg) | ((with_reducible refine gate_dst (N := 3) rfl ?_); refine box_event ?hg (N := 3) ?hd (cs := #[.int .i64 a1_0, .int .i64 a1_1, .string a1_2, .int .i64 a1_3, .slice A1_4 l1_4.length c1_4]) (t := 24) ?hr ?_; (case hd => rfl); (case hg => rfl); (case hr => first | (go_simp; done) | (go_simp; rfl)); intro gb307 hg w5 hbox hb; have n0_ := Aside0.mk (blk_below (g := gb306) (o := .cells #[.int .i64 a0_0, .int .i64 a0_1, .string a0_2, .int .i64 a0_3, .slice A0_4 l0_4.length c0_4] 24 (0, 0)) (by (with_reducible repeat (first | refine blk_drewN ?_ _ | refine blk_drew ?_ | refine blk_alloc ?_ _)); exact BK306.out) hb); have n1_ := Aside0.mk (below_step (by repeat (first | (with_reducible first | exact HB.out | apply below_alloc | apply pw_below_drewN | apply below_drew1 | refine below_set ?_ GE306.out) | exact HB.out)) hb); have n2_ := Aside0.mk (hbox); have n3_ := Aside0.mk ((by rw [hg]; exact (below_size (by repeat (first | (with_reducible first | exact HB.out | apply below_alloc | apply pw_below_drewN | apply below_drew1 | refine below_set ?_ GE306.out) | exact HB.out))) : w.heap.size ≤ gb307)); have n4_ := Aside0.mk ((by rw [hg]; exact (below_size (by repeat (first | (with_reducible first | exact HB.out | apply below_alloc | apply pw_below_drewN | apply below_drew1 | refine below_set ?_ GE306.out) | exact HB.out))) : w.heap.size ≤ gb307)); have n5_ := Aside0.mk ((by rw [hg]; exact Nat.ne_of_lt (blk_lt (g := gb306) (o := .cells #[.int .i64 a0_0, .int .i64 a0_1, .string a0_2, .int .i64 a0_3, .slice A0_4 l0_4.length c0_4] 24 (0, 0)) (by (with_reducible repeat (first | refine blk_drewN ?_ _ | refine blk_drew ?_ | refine blk_alloc ?_ _)); exact BK306.out)) : gb306 ≠ gb307)); have n6_ := Aside0.mk ((by rw [hg]; exact Nat.ne_of_gt (blk_lt (g := gb306) (o := .cells #[.int .i64 a0_0, .int .i64 a0_1, .string a0_2, .int .i64 a0_3, .slice A0_4 l0_4.length c0_4] 24 (0, 0)) (by (with_reducible repeat (first | refine blk_drewN ?_ _ | refine blk_drew ?_ | refine blk_alloc ?_ _)); exact BK306.out)) : gb307 ≠ gb306)); clear BK306; clear HB; have BK306 := n0_; have HB := n1_; have BK307 := n2_; have GW307 := n3_; have GE307 := n4_; have NB306_307 := n5_; have NB307_306 := n6_; clear n0_ n1_ n2_ n3_ n4_ n5_ n6_; clear hb hbox hg; have hnb6 := NB306_307.out; have hnc6 := NB307_306.out; have hcz7_0 : w5.cell? ⟨gb306, 0, none⟩ = some (.int .i64 a0_0) := (blk_cell BK306.out 0).trans rfl; have hcz7_1 : w5.cell? ⟨gb306, 1, none⟩ = some (.int .i64 a0_1) := (blk_cell BK306.out 1).trans rfl; have hcz7_2 : w5.cell? ⟨gb306, 2, none⟩ = some (.string a0_2) := (blk_cell BK306.out 2).trans rfl; have hcz7_3 : w5.cell? ⟨gb306, 3, none⟩ = some (.int .i64 a0_3) := (blk_cell BK306.out 3).trans rfl; have hcz7_4 : w5.cell? ⟨gb306, 4, none⟩ = some (.slice A0_4 l0_4.length c0_4) := (blk_cell BK306.out 4).trans rfl; have hfz7_0 := blk_frozen BK306.out 0; have hfz7_1 := blk_frozen BK306.out 1; have hfz7_2 := blk_frozen BK306.out 2; have hfz7_3 := blk_frozen BK306.out 3; have hfz7_4 := blk_frozen BK306.out 4; have hcz8_0 : w5.cell? ⟨gb307, 0, none⟩ = some (.int .i64 a1_0) := (blk_cell BK307.out 0).trans rfl; have hcz8_1 : w5.cell? ⟨gb307, 1, none⟩ = some (.int .i64 a1_1) := (blk_cell BK307.out 1).trans rfl; have hcz8_2 : w5.cell? ⟨gb307, 2, none⟩ = some (.string a1_2) := (blk_cell BK307.out 2).trans rfl; have hcz8_3 : w5.cell? ⟨gb307, 3, none⟩ = some (.int .i64 a1_3) := (blk_cell BK307.out 3).trans rfl; have hcz8_4 : w5.cell? ⟨gb307, 4, none⟩ = some (.slice A1_4 l1_4.length c1_4) := (blk_cell BK307.out 4).trans rfl; have hfz8_0 := blk_frozen BK307.out 0; have hfz8_1 := blk_frozen BK307.out 1; have hfz8_2 := blk_frozen BK307.out 2; have hfz8_3 := blk_frozen BK307.out 3; have hfz8_4 := blk_frozen BK307.out 4) | ((with_reducible refine gate_callee (f := 42) rfl ?_); refine goesL_ (some 7) rfl rfl Try.func42 (by kernel_rfl) rfl #[.agg #[.int .i64 a0_0, .int .i64 a0_1, .string a0_2, .int .i64 a0_3, .slice A0_4 l0_4.length c0_4], .agg #[.int .i64 a1_0, .int .i64 a1_1, .string a1_2, .int .i64 a1_3, .slice A1_4 l1_4.length c1_4]] rfl (by (try simp only [List.map_toArray, List.map_cons, List.map_nil]); first | done | rfl | (simp only [List.length_drop, List.length_take]; rfl) | (go_simp; done) | (go_simp; simp; done)) ?_; (with_reducible refine (windlassref3_Compare.calls k a0_0 a0_1 a0_2 a0_3 _ _ l0_4 a1_0 a1_1 a1_2 a1_3 _ _ l1_4 t308 _ ?side1 ?side2 ?side3 ?side4 A3.out).mono ?_); (case side1 => repeat (first | exact (Kd.C_below HR0_4.out HB.out) | (with_reducible refine Kd.C_alloc ?_ _) | (with_reducible refine Kd.C_drewN ?_ _) | (with_reducible refine Kd.C_drew ?_))); (case side2 => exact HC0_4.out); (case side3 => repeat (first | exact (Kd.C_below HR1_4.out HB.out) | (with_reducible refine Kd.C_alloc ?_ _) | (with_reducible refine Kd.C_drewN ?_ _) | (with_reducible refine Kd.C_drew ?_))); (case side4 => exact HC1_4.out); rintro e w9 ⟨rfl, hb⟩; refine ⟨_, rfl, ?_⟩; have n0_ := Aside0.mk (blk_below (g := gb306) (o := .cells #[.int .i64 a0_0, .int .i64 a0_1, .string a0_2, .int .i64 a0_3, .slice A0_4 l0_4.length c0_4] 24 (0, 0)) (by (with_reducible repeat (first | refine blk_drewN ?_ _ | refine blk_drew ?_ | refine blk_alloc ?_ _)); exact BK306.out) hb); have n1_ := Aside0.mk (blk_below (g := gb307) (o := .cells #[.int .i64 a1_0, .int .i64 a1_1, .string a1_2, .int .i64 a1_3, .slice A1_4 l1_4.length c1_4] 24 (0, 0)) (by (with_reducible repeat (first | refine blk_drewN ?_ _ | refine blk_drew ?_ | refine blk_alloc ?_ _)); exact BK307.out) hb); have n2_ := Aside0.mk (below_step (by repeat (first | (with_reducible first | exact HB.out | apply below_alloc | apply pw_below_drewN | apply below_drew1 | refine below_set ?_ GE306.out | refine below_set ?_ GE307.out) | exact HB.out)) hb); clear BK306; clear BK307; clear HB; have BK306 := n0_; have BK307 := n1_; have HB := n2_; clear n0_ n1_ n2_; (try clear hb); (try clear hb2); (try clear hk); (try clear hi)))
  go_ret
  exact ⟨by first | rfl | (simp [errW_none, errW_some] <;> rfl) | (simp [*, errW_none, errW_some] <;> rfl), by repeat (first | (with_reducible first | exact HB.out | apply below_alloc | apply pw_below_drewN | apply below_drew1 | refine below_set ?_ GE306.out | refine below_set ?_ GE307.out) | exact HB.out)⟩

end Go.Proofs.Ythbnblmnamckmaa.PAll
-- Laid by a program of this seat (wip/xprint.py over the kit's print).
namespace Go.Proofs.Ythbnblmnamckmaa.PAll
open Go.RowKit Go.Proofs.YthbnblmnamckmaaW.PrintWords Go.Proofs.YthbnblmnamckmaaW.PrintLast Go.Proofs.YthbnblmnamckmaaW.PrintMore
attribute [local go_sem] max2_int min2_int max_two min_two max_three min_three max_four min_four   -- for this text's walks alone
set_option linter.unusedVariables false
set_option linter.unusedSimpArgs false

/-! ### codec_Event: function 32 -/
mutual
def codec_Event.j0 : Nat → List Int → Int → Bool → ByteArray → Option (ByteArray × (List (S24)) × Int × Int)
 | 0,_,_,_,_ => none
 | k + 1,x311000,x311001,x311002,x316000 => (codec_reader_count.f k x311000 x311001 x311002 12).bind fun bt316 => (codec_Event.l0 k bt316.1 0 bt316.2.1 bt316.2.2.1 bt316.2.2.2 x316000 ([] : List (S24)))
def codec_Event.l0 : Nat → Int → Int → List Int → Int → Bool → ByteArray → List (S24) → Option (ByteArray × (List (S24)) × Int × Int)
 | 0,_,_,_,_,_,_,_ => none
 | k + 1,x33,x34,x311000,x311001,x311002,x316000,x316001 => if x34 < x33 then ((codec_reader_value.f k x311000 x311001 x311002 false).bind fun bt320 => (if x316001.length < 2199023255552 then (codec_Event.l0 k x33 (wrap64 (x34 + 1)) bt320.2.2.2.2.2.1 bt320.2.2.2.2.2.2.1 bt320.2.2.2.2.2.2.2 x316000 (x316001 ++ [(⟨bt320.1,bt320.2.1,bt320.2.2.1,bt320.2.2.2.1,bt320.2.2.2.2.1⟩ : S24)])) else (none))) else (if x311002 = true then (some ((⟨#[]⟩ : ByteArray),([] : List (S24)),0,20)) else (some (x316000,x316001,x311001,0)))
end
def codec_Event.f (k : Nat) (l0 : List Int) : Option (ByteArray × (List (S24)) × Int × Int):=(codec_reader_text.f k l0 0 false).bind fun bt311 => (if bt311.2.2.2 = true then (codec_Event.j0 k bt311.2.1 bt311.2.2.1 true bt311.1) else (if (bt311.1.size : Int) < 1 then (codec_Event.j0 k bt311.2.1 bt311.2.2.1 true bt311.1) else (codec_Event.j0 k bt311.2.1 bt311.2.2.1 (decide ((bt311.1.size : Int) > 20)) bt311.1)))
theorem codec_Event.mono_l : ∀ k,(∀ y0 y1 y2 y3,LeO (codec_Event.j0 k y0 y1 y2 y3) (codec_Event.j0 (k + 1) y0 y1 y2 y3)) ∧ (∀ y0 y1 y2 y3 y4 y5 y6,LeO (codec_Event.l0 k y0 y1 y2 y3 y4 y5 y6) (codec_Event.l0 (k + 1) y0 y1 y2 y3 y4 y5 y6))
 | 0 => ⟨fun _ _ _ _ r h => by simp [codec_Event.j0] at h,fun _ _ _ _ _ _ _ r h => by simp [codec_Event.l0] at h⟩
 | k + 1 => by
  obtain ⟨ih0,ih1⟩:=codec_Event.mono_l k
  refine ⟨?_,?_⟩
  ·intro y0 y1 y2 y3
   unfold codec_Event.j0
   repeat' first
   | (with_reducible exact ih0 _ _ _ _)
   | (with_reducible exact ih1 _ _ _ _ _ _ _)
   | (with_reducible exact codec_reader_count.mono _ _ _ _ _)
   | (with_reducible exact codec_reader_text.mono _ _ _ _)
   | (with_reducible exact codec_reader_value.mono _ _ _ _ _)
   | (with_reducible exact LeO.refl _)
   | (with_reducible exact LeO.none _)
   | (with_reducible refine LeO.ite ?_ ?_)
   | (with_reducible refine LeO.bind ?_ (fun _ => ?_))
   | exact ih0 _ _ _ _
   | exact ih1 _ _ _ _ _ _ _
   | exact codec_reader_count.mono _ _ _ _ _
   | exact codec_reader_text.mono _ _ _ _
   | exact codec_reader_value.mono _ _ _ _ _
   | exact LeO.none _
   | refine LeO.ite ?_ ?_
   | refine LeO.bind ?_ (fun _ => ?_)
  ·intro y0 y1 y2 y3 y4 y5 y6
   unfold codec_Event.l0
   repeat' first
   | (with_reducible exact ih0 _ _ _ _)
   | (with_reducible exact ih1 _ _ _ _ _ _ _)
   | (with_reducible exact codec_reader_count.mono _ _ _ _ _)
   | (with_reducible exact codec_reader_text.mono _ _ _ _)
   | (with_reducible exact codec_reader_value.mono _ _ _ _ _)
   | (with_reducible exact LeO.refl _)
   | (with_reducible exact LeO.none _)
   | (with_reducible refine LeO.ite ?_ ?_)
   | (with_reducible refine LeO.bind ?_ (fun _ => ?_))
   | exact ih0 _ _ _ _
   | exact ih1 _ _ _ _ _ _ _
   | exact codec_reader_count.mono _ _ _ _ _
   | exact codec_reader_text.mono _ _ _ _
   | exact codec_reader_value.mono _ _ _ _ _
   | exact LeO.none _
   | refine LeO.ite ?_ ?_
   | refine LeO.bind ?_ (fun _ => ?_)
theorem codec_Event.mono : ∀ a0 k,LeO (codec_Event.f k a0) (codec_Event.f (k + 1) a0):=by
 intro a0 k
 obtain ⟨ih0,ih1⟩:=codec_Event.mono_l k
 unfold codec_Event.f
 repeat' first
   | (with_reducible exact ih0 _ _ _ _)
   | (with_reducible exact ih1 _ _ _ _ _ _ _)
   | (with_reducible exact codec_reader_count.mono _ _ _ _ _)
   | (with_reducible exact codec_reader_text.mono _ _ _ _)
   | (with_reducible exact codec_reader_value.mono _ _ _ _ _)
   | (with_reducible exact LeO.refl _)
   | (with_reducible exact LeO.none _)
   | (with_reducible refine LeO.ite ?_ ?_)
   | (with_reducible refine LeO.bind ?_ (fun _ => ?_))
   | exact ih0 _ _ _ _
   | exact ih1 _ _ _ _ _ _ _
   | exact codec_reader_count.mono _ _ _ _ _
   | exact codec_reader_text.mono _ _ _ _
   | exact codec_reader_value.mono _ _ _ _ _
   | exact LeO.none _
   | refine LeO.ite ?_ ?_
   | refine LeO.bind ?_ (fun _ => ?_)
def codec_Event.T6 : Bool × List (List Nat × List Nat):=(true,[([],[]),([0],[0]),([],[]),([2],[2]),([3],[3]),([1,4,3],[1,4]),([0,1,2,3,4,5],[]),([6,5,5,0,1,2,3,4,5],[5,6])])
def codec_Event.B6 : List Nat:=[0,1,0,4,12,31,63,127]
theorem codec_Event.tab6 : rtab .any (opsOf Try.f32 6) = codec_Event.T6:=by kernel_rfl
theorem codec_Event.bits6 : waitsOk codec_Event.T6.2 codec_Event.B6 = true:=by kernel_rfl
def codec_Event.T10 : Bool × List (List Nat × List Nat):=(true,[([],[]),([],[]),([1],[1]),([2],[2]),([3],[3]),([0,0],[0]),([4,5,0,1,2,3,4,5],[4]),([6,0,1,2,3,4,5,6],[])])
def codec_Event.B10 : List Nat:=[0,0,2,6,14,1,63,127]
theorem codec_Event.tab10 : rtab .any (opsOf Try.f32 10) = codec_Event.T10:=by kernel_rfl
theorem codec_Event.bits10 : waitsOk codec_Event.T10.2 codec_Event.B10 = true:=by kernel_rfl
set_option maxHeartbeats 8000000 in
set_option maxRecDepth 100000 in
theorem codec_Event.calls (k : Nat) (A0 : Option Addr) (c0 : Nat) (l0 : List Int) (r1 : ByteArray) (r2 : List (S24)) (r3 : Int) (r4 : Int) (w : World) (hr0 : Kd.C (Kd.int .u8) w A0 l0.length l0) (hc0 : l0.length ≤ c0) (h : codec_Event.f k l0 = some (r1,r2,r3,r4)) :
  Calls Try.prog 32 #[.slice A0 l0.length c0] w fun e w' => ∃ v1_ : Value,e = .returned (.tuple #[.agg #[.string r1,v1_], .int .i64 r3, .int .i64 r4]) ∧ Kd.R k24 24 w' w.heap.size (fun _ => True) v1_ r2 ∧ Below w.heap.size w w':=by
 have hu26:=Try.underlying26
 have hu76:=Try.underlying76
 have HR0:=Aside0.mk hr0
 have HC0:=Aside0.mk hc0
 clear hr0 hc0
 have HB:=Aside0.mk (Below.refl w.heap.size w)
 have H : ((codec_reader_text.f k l0 0 false).bind fun bt311 => (if bt311.2.2.2 = true then (codec_Event.j0 k bt311.2.1 bt311.2.2.1 true bt311.1) else (if (bt311.1.size : Int) < 1 then (codec_Event.j0 k bt311.2.1 bt311.2.2.1 true bt311.1) else (codec_Event.j0 k bt311.2.1 bt311.2.2.1 (decide ((bt311.1.size : Int) > 20)) bt311.1)))) = some (r1,r2,r3,r4):=h
 clear h
 replace H:=Option.bind_eq_some_iff.mp H
 obtain ⟨⟨t311,t312,t313,t314⟩,A20,H⟩:=H
 replace H : (if t314 = true then (codec_Event.j0 k t312 t313 true t311) else (if (t311.size : Int) < 1 then (codec_Event.j0 k t312 t313 true t311) else (codec_Event.j0 k t312 t313 (decide ((t311.size : Int) > 20)) t311))) = some (r1,r2,r3,r4):=H
 have A2:=Aside0.mk A20
 clear A20
 have HC3:=Aside0.mk H
 clear H
 go_enter Try.func32,Try.ntmps32
 go_upto_region 3 with (first|((with_reducible refine gate_dst (N:=2) rfl ?_);(try (refine gate_guard (by rfl) ?_;dsimp only));refine box_event ?hg (N:=2) ?hd (cs:=#[.string (⟨#[]⟩ : ByteArray), .slice none 0 0]) (t:=26) ?hr ?_;(case hd => rfl);(case hg => rfl);(case hr => first|(go_simp;done)|(go_simp;rfl));intro gb309 hg w4 hbox hb;have n0_:=Aside0.mk (below_step (by repeat (first|(with_reducible first|exact HB.out|apply below_alloc|apply pw_below_drewN|apply below_drew1)|exact HB.out)) hb);have n1_:=Aside0.mk (hbox);have n2_:=Aside0.mk ((by rw [hg];exact (below_size (by repeat (first|(with_reducible first|exact HB.out|apply below_alloc|apply pw_below_drewN|apply below_drew1)|exact HB.out))) : w.heap.size ≤ gb309));have n3_:=Aside0.mk ((by rw [hg];exact (below_size (by repeat (first|(with_reducible first|exact HB.out|apply below_alloc|apply pw_below_drewN|apply below_drew1)|exact HB.out))) : w.heap.size ≤ gb309));clear HB;have HB:=n0_;have BK309:=n1_;have GW309:=n2_;have GE309:=n3_;clear n0_ n1_ n2_ n3_;clear hb hbox hg)|((with_reducible refine gate_dst (N:=9) rfl ?_);(try (refine gate_guard (by rfl) ?_;dsimp only));refine box_event ?hg (N:=9) ?hd (cs:=#[.slice A0 l0.length c0, .int .i64 0, .bool false]) (t:=76) ?hr ?_;(case hd => rfl);(case hg => rfl);(case hr => first|(go_simp;done)|(go_simp;rfl));intro gb310 hg w5 hbox hb;have n0_:=Aside0.mk (blk_below (g:=gb309) (o := .cells #[.string (⟨#[]⟩ : ByteArray), .slice none 0 0] 26 (0,0)) (by (with_reducible repeat (first|refine blk_drewN ?_ _|refine blk_drew ?_|refine blk_alloc ?_ _));exact BK309.out) hb);have n1_:=Aside0.mk (below_step (by repeat (first|(with_reducible first|exact HB.out|apply below_alloc|apply pw_below_drewN|apply below_drew1|refine below_set ?_ GE309.out)|exact HB.out)) hb);have n2_:=Aside0.mk (hbox);have n3_:=Aside0.mk ((by rw [hg];exact (below_size (by repeat (first|(with_reducible first|exact HB.out|apply below_alloc|apply pw_below_drewN|apply below_drew1|refine below_set ?_ GE309.out)|exact HB.out))) : w.heap.size ≤ gb310));have n4_:=Aside0.mk ((by rw [hg];exact (below_size (by repeat (first|(with_reducible first|exact HB.out|apply below_alloc|apply pw_below_drewN|apply below_drew1|refine below_set ?_ GE309.out)|exact HB.out))) : w.heap.size ≤ gb310));have n5_:=Aside0.mk ((by rw [hg];exact Nat.ne_of_lt (blk_lt (g:=gb309) (o := .cells #[.string (⟨#[]⟩ : ByteArray), .slice none 0 0] 26 (0,0)) (by (with_reducible repeat (first|refine blk_drewN ?_ _|refine blk_drew ?_|refine blk_alloc ?_ _));exact BK309.out)) : gb309 ≠ gb310));have n6_:=Aside0.mk ((by rw [hg];exact Nat.ne_of_gt (blk_lt (g:=gb309) (o := .cells #[.string (⟨#[]⟩ : ByteArray), .slice none 0 0] 26 (0,0)) (by (with_reducible repeat (first|refine blk_drewN ?_ _|refine blk_drew ?_|refine blk_alloc ?_ _));exact BK309.out)) : gb310 ≠ gb309));clear BK309;clear HB;have BK309:=n0_;have HB:=n1_;have BK310:=n2_;have GW310:=n3_;have GE310:=n4_;have NB309_310:=n5_;have NB310_309:=n6_;clear n0_ n1_ n2_ n3_ n4_ n5_ n6_;clear hb hbox hg;have HI310:=Aside0.mk (show IsS76 w _ gb310 l0 0 false from ⟨_,_,BK310.out,GE310.out,HR0.out,HC0.out⟩);clear BK310)|((with_reducible refine gate_callee (f:=43) rfl ?_);refine goesL_ (some 11) rfl rfl Try.func43 (by kernel_rfl) rfl #[.pointer (some ⟨gb310,0,none⟩)] rfl (by (try simp only [List.map_toArray,List.map_cons,List.map_nil]);first|done|rfl|(simp only [List.length_drop,List.length_take];rfl)|(go_simp;done)|(go_simp;simp;done)) ?_;(with_reducible refine (codec_reader_text.calls k gb310 l0 0 false t311 t312 t313 t314 w _ ?side1 ?side2 A2.out).mono ?_);(case side1 => first|((repeat (first|(with_reducible first|exact HI310.out|apply IsS76.alloc|apply IsS76.drewN|apply IsS76.drew|apply IsS76.set_1|apply IsS76.set_2|refine IsS76.far ?_ NB310_309.out _|(apply IsS76.far;case hne => exact NB310_309.out))|exact HI310.out));done)|((simp only [*]);(repeat (first|(with_reducible first|exact HI310.out|apply IsS76.alloc|apply IsS76.drewN|apply IsS76.drew|apply IsS76.set_1|apply IsS76.set_2|refine IsS76.far ?_ NB310_309.out _|(apply IsS76.far;case hne => exact NB310_309.out))|exact HI310.out))));(case side2 => repeat (first|(with_reducible first|exact HB.out|apply below_alloc|apply pw_below_drewN|apply below_drew1|refine below_set ?_ (IsS76.ge HI310.out)|refine below_set ?_ GE309.out)|exact HB.out));rintro e w6 ⟨rfl,hi,hb,hk⟩;refine ⟨_,rfl,?_⟩;have n0_:=Aside0.mk (KeepBut.blk hk (g':=gb309) (o := .cells #[.string (⟨#[]⟩ : ByteArray), .slice none 0 0] 26 (0,0)) (by (with_reducible repeat (first|refine blk_drewN ?_ _|refine blk_drew ?_|refine blk_alloc ?_ _));exact BK309.out) NB309_310.out (by simp));have n1_:=Aside0.mk (hb);have n2_:=Aside0.mk (hi);clear BK309;clear HB;clear HI310;have BK309:=n0_;have HB:=n1_;have HI310:=n2_;clear n0_ n1_ n2_;(try clear hb);(try clear hb2);(try clear hk);(try clear hi))|((with_reducible refine gate_dst (N:=6) rfl ?_);(try (refine gate_guard (by rfl) ?_;dsimp only));refine box_event ?hg (N:=6) ?hd (cs:=#[.string (⟨#[]⟩ : ByteArray), .slice none 0 0]) (t:=26) ?hr ?_;(case hd => rfl);(case hg => rfl);(case hr => first|(go_simp;done)|(go_simp;rfl));intro gb315 hg w7 hbox hb;have n0_:=Aside0.mk (blk_below (g:=gb309) (o := .cells #[.string (⟨#[]⟩ : ByteArray), .slice none 0 0] 26 (0,0)) (by (with_reducible repeat (first|refine blk_drewN ?_ _|refine blk_drew ?_|refine blk_alloc ?_ _));exact BK309.out) hb);have n1_:=Aside0.mk (IsS76.below (by first|((repeat (first|(with_reducible first|exact HI310.out|apply IsS76.alloc|apply IsS76.drewN|apply IsS76.drew|apply IsS76.set_1|apply IsS76.set_2|refine IsS76.far ?_ NB310_309.out _|(apply IsS76.far;case hne => exact NB310_309.out))|exact HI310.out));done)|((simp only [*]);(repeat (first|(with_reducible first|exact HI310.out|apply IsS76.alloc|apply IsS76.drewN|apply IsS76.drew|apply IsS76.set_1|apply IsS76.set_2|refine IsS76.far ?_ NB310_309.out _|(apply IsS76.far;case hne => exact NB310_309.out))|exact HI310.out)))) hb);have n2_:=Aside0.mk (below_step (by repeat (first|(with_reducible first|exact HB.out|apply below_alloc|apply pw_below_drewN|apply below_drew1|refine below_set ?_ (IsS76.ge HI310.out)|refine below_set ?_ GE309.out)|exact HB.out)) hb);have n3_:=Aside0.mk (hbox);have n4_:=Aside0.mk ((by rw [hg];exact (below_size (by repeat (first|(with_reducible first|exact HB.out|apply below_alloc|apply pw_below_drewN|apply below_drew1|refine below_set ?_ (IsS76.ge HI310.out)|refine below_set ?_ GE309.out)|exact HB.out))) : w.heap.size ≤ gb315));have n5_:=Aside0.mk ((by rw [hg];exact (below_size (by repeat (first|(with_reducible first|exact HB.out|apply below_alloc|apply pw_below_drewN|apply below_drew1|refine below_set ?_ (IsS76.ge HI310.out)|refine below_set ?_ GE309.out)|exact HB.out))) : w.heap.size ≤ gb315));have n6_:=Aside0.mk ((by rw [hg];exact Nat.ne_of_lt (blk_lt (g:=gb309) (o := .cells #[.string (⟨#[]⟩ : ByteArray), .slice none 0 0] 26 (0,0)) (by (with_reducible repeat (first|refine blk_drewN ?_ _|refine blk_drew ?_|refine blk_alloc ?_ _));exact BK309.out)) : gb309 ≠ gb315));have n7_:=Aside0.mk ((by rw [hg];exact Nat.ne_of_gt (blk_lt (g:=gb309) (o := .cells #[.string (⟨#[]⟩ : ByteArray), .slice none 0 0] 26 (0,0)) (by (with_reducible repeat (first|refine blk_drewN ?_ _|refine blk_drew ?_|refine blk_alloc ?_ _));exact BK309.out)) : gb315 ≠ gb309));have n8_:=Aside0.mk ((by rw [hg];exact Nat.ne_of_lt (IsS76.lt (show IsS76 w _ gb310 t312 t313 t314 from by first|((repeat (first|(with_reducible first|exact HI310.out|apply IsS76.alloc|apply IsS76.drewN|apply IsS76.drew|apply IsS76.set_1|apply IsS76.set_2|refine IsS76.far ?_ NB310_309.out _|(apply IsS76.far;case hne => exact NB310_309.out))|exact HI310.out));done)|((simp only [*]);(repeat (first|(with_reducible first|exact HI310.out|apply IsS76.alloc|apply IsS76.drewN|apply IsS76.drew|apply IsS76.set_1|apply IsS76.set_2|refine IsS76.far ?_ NB310_309.out _|(apply IsS76.far;case hne => exact NB310_309.out))|exact HI310.out))))) : gb310 ≠ gb315));have n9_:=Aside0.mk ((by rw [hg];exact Nat.ne_of_gt (IsS76.lt (show IsS76 w _ gb310 t312 t313 t314 from by first|((repeat (first|(with_reducible first|exact HI310.out|apply IsS76.alloc|apply IsS76.drewN|apply IsS76.drew|apply IsS76.set_1|apply IsS76.set_2|refine IsS76.far ?_ NB310_309.out _|(apply IsS76.far;case hne => exact NB310_309.out))|exact HI310.out));done)|((simp only [*]);(repeat (first|(with_reducible first|exact HI310.out|apply IsS76.alloc|apply IsS76.drewN|apply IsS76.drew|apply IsS76.set_1|apply IsS76.set_2|refine IsS76.far ?_ NB310_309.out _|(apply IsS76.far;case hne => exact NB310_309.out))|exact HI310.out))))) : gb315 ≠ gb310));clear BK309;clear HI310;clear HB;have BK309:=n0_;have HI310:=n1_;have HB:=n2_;have BK315:=n3_;have GW315:=n4_;have GE315:=n5_;have NB309_315:=n6_;have NB315_309:=n7_;have NB310_315:=n8_;have NB315_310:=n9_;clear n0_ n1_ n2_ n3_ n4_ n5_ n6_ n7_ n8_ n9_;clear hb hbox hg;have hnb8:=NB315_309.out;have hnc8:=NB309_315.out;have hnb9:=NB315_310.out;have hnc9:=NB310_315.out;have hcz10_0 : w7.cell? ⟨gb315,0,none⟩ = some (.string (⟨#[]⟩ : ByteArray)):=(blk_cell BK315.out 0).trans rfl;have hcz10_1 : w7.cell? ⟨gb315,1,none⟩ = some (.slice none 0 0):=(blk_cell BK315.out 1).trans rfl;have hfz10_0:=blk_frozen BK315.out 0;have hfz10_1:=blk_frozen BK315.out 1))
 (try simp only [Act.put,List.setIfInBounds_toArray,List.set_cons_zero,List.set_cons_succ])
 go_cut [] (fun wc => ∃ (kq : Nat) (x311002_2 : Bool),Aside0 (codec_Event.j0 kq t312 t313 x311002_2 t311 = some (r1,r2,r3,r4)) ∧ Aside0 (kq ≤ k) ∧ Aside0 (wc.heap[gb309]? = some (.cells #[.string (⟨#[]⟩ : ByteArray),(.slice none 0 0)] 26 (0,0))) ∧ Aside0 (wc.heap[gb315]? = some (.cells #[.string t311,(.slice none 0 0)] 26 (0,0))) ∧ Aside0 (IsS76 w wc gb310 t312 t313 x311002_2) ∧ Aside0 (Below w.heap.size w wc))
 case first =>
  have H:=HC3.out
  clear HC3
  by_cases c11 : t314 = true
  ·subst c11
   have H1 : (codec_Event.j0 k t312 t313 true t311) = some (r1,r2,r3,r4):=by rw [if_pos rfl] at H;exact H
   clear H
   have H:=H1
   clear H1
   have H':=Aside0.mk H
   clear H
   obtain ⟨ASz12_0,cSz12_0,HGz12,hgz12,HSz12_0,hlSz12_0⟩:=HI310.out
   have hcz12_0:=cellS76_0 HGz12
   have hcz12_1:=cellS76_1 HGz12
   have hcz12_2:=cellS76_2 HGz12
   have hfz12_0:=blk_frozen HGz12 0
   have hfz12_1:=blk_frozen HGz12 1
   have hfz12_2:=blk_frozen HGz12 2
   clear HGz12 hgz12
   go_wp2
   go_meet
   case rel => exact ⟨_,(true),H',⟨by first|omega|exact Nat.le_refl _⟩,⟨by (with_reducible repeat (first|refine blk_drewN ?_ _|refine blk_drew ?_|refine blk_alloc ?_ _));refine blk_far ?_ NB309_310.out _;(with_reducible repeat (first|refine blk_drewN ?_ _|refine blk_drew ?_|refine blk_alloc ?_ _));refine blk_far ?_ NB309_315.out _;(with_reducible repeat (first|refine blk_drewN ?_ _|refine blk_drew ?_|refine blk_alloc ?_ _));refine blk_far ?_ NB309_315.out _;(with_reducible repeat (first|refine blk_drewN ?_ _|refine blk_drew ?_|refine blk_alloc ?_ _));exact BK309.out⟩,⟨by (with_reducible repeat (first|refine blk_drewN ?_ _|refine blk_drew ?_|refine blk_alloc ?_ _));refine blk_far ?_ NB315_310.out _;(with_reducible repeat (first|refine blk_drewN ?_ _|refine blk_drew ?_|refine blk_alloc ?_ _));refine blk_put (cs:=#[.string t311, .slice none 0 0]) ?_ 1 _ rfl;(with_reducible repeat (first|refine blk_drewN ?_ _|refine blk_drew ?_|refine blk_alloc ?_ _));refine blk_put (cs:=#[.string (⟨#[]⟩ : ByteArray), .slice none 0 0]) ?_ 0 _ rfl;(with_reducible repeat (first|refine blk_drewN ?_ _|refine blk_drew ?_|refine blk_alloc ?_ _));exact BK315.out⟩,⟨by first|((repeat (first|(with_reducible first|exact HI310.out|apply IsS76.alloc|apply IsS76.drewN|apply IsS76.drew|apply IsS76.set_1|apply IsS76.set_2|refine IsS76.far ?_ NB310_309.out _|(apply IsS76.far;case hne => exact NB310_309.out)|refine IsS76.far ?_ NB310_315.out _|(apply IsS76.far;case hne => exact NB310_315.out))|exact HI310.out));done)|((simp only [*]);(repeat (first|(with_reducible first|exact HI310.out|apply IsS76.alloc|apply IsS76.drewN|apply IsS76.drew|apply IsS76.set_1|apply IsS76.set_2|refine IsS76.far ?_ NB310_309.out _|(apply IsS76.far;case hne => exact NB310_309.out)|refine IsS76.far ?_ NB310_315.out _|(apply IsS76.far;case hne => exact NB310_315.out))|exact HI310.out)))⟩,⟨by repeat (first|(with_reducible first|exact HB.out|apply below_alloc|apply pw_below_drewN|apply below_drew1|refine below_set ?_ (IsS76.ge HI310.out)|refine below_set ?_ GE309.out|refine below_set ?_ GE315.out)|exact HB.out)⟩⟩
  ·replace c11:=Bool.eq_false_iff.mpr c11
   subst c11
   have H1 : (if (t311.size : Int) < 1 then (codec_Event.j0 k t312 t313 true t311) else (codec_Event.j0 k t312 t313 (decide ((t311.size : Int) > 20)) t311)) = some (r1,r2,r3,r4):=by rw [if_neg (show ¬ (false = true) by decide)] at H;exact H
   clear H
   have H:=H1
   clear H1
   by_cases c13 : (t311.size : Int) < 1
   ·rw [if_pos c13] at H
    have c13b0 : decide ((t311.size : Int) < 1) = true:=decide_eq_true c13
    have c13b1 : decide (t311.size < 1) = true:=decide_eq_true (by omega)
    clear c13
    (first|rw [c13b0]|(simp only [i64_w,i32_w];rw [c13b0])|skip)
    have H':=Aside0.mk H
    clear H
    obtain ⟨ASz14_0,cSz14_0,HGz14,hgz14,HSz14_0,hlSz14_0⟩:=HI310.out
    have hcz14_0:=cellS76_0 HGz14
    have hcz14_1:=cellS76_1 HGz14
    have hcz14_2:=cellS76_2 HGz14
    have hfz14_0:=blk_frozen HGz14 0
    have hfz14_1:=blk_frozen HGz14 1
    have hfz14_2:=blk_frozen HGz14 2
    clear HGz14 hgz14
    have hnb15:=NB315_309.out
    have hnc15:=NB309_315.out
    have hnb16:=NB315_310.out
    have hnc16:=NB310_315.out
    have hcz17_0 : w7.cell? ⟨gb315,0,none⟩ = some (.string (⟨#[]⟩ : ByteArray)):=(blk_cell BK315.out 0).trans rfl
    have hcz17_1 : w7.cell? ⟨gb315,1,none⟩ = some (.slice none 0 0):=(blk_cell BK315.out 1).trans rfl
    have hfz17_0:=blk_frozen BK315.out 0
    have hfz17_1:=blk_frozen BK315.out 1
    go_wp2
    go_meet
    case rel => exact ⟨_,(true),H',⟨by first|omega|exact Nat.le_refl _⟩,⟨by (with_reducible repeat (first|refine blk_drewN ?_ _|refine blk_drew ?_|refine blk_alloc ?_ _));refine blk_far ?_ NB309_310.out _;(with_reducible repeat (first|refine blk_drewN ?_ _|refine blk_drew ?_|refine blk_alloc ?_ _));refine blk_far ?_ NB309_315.out _;(with_reducible repeat (first|refine blk_drewN ?_ _|refine blk_drew ?_|refine blk_alloc ?_ _));refine blk_far ?_ NB309_315.out _;(with_reducible repeat (first|refine blk_drewN ?_ _|refine blk_drew ?_|refine blk_alloc ?_ _));exact BK309.out⟩,⟨by (with_reducible repeat (first|refine blk_drewN ?_ _|refine blk_drew ?_|refine blk_alloc ?_ _));refine blk_far ?_ NB315_310.out _;(with_reducible repeat (first|refine blk_drewN ?_ _|refine blk_drew ?_|refine blk_alloc ?_ _));refine blk_put (cs:=#[.string t311, .slice none 0 0]) ?_ 1 _ rfl;(with_reducible repeat (first|refine blk_drewN ?_ _|refine blk_drew ?_|refine blk_alloc ?_ _));refine blk_put (cs:=#[.string (⟨#[]⟩ : ByteArray), .slice none 0 0]) ?_ 0 _ rfl;(with_reducible repeat (first|refine blk_drewN ?_ _|refine blk_drew ?_|refine blk_alloc ?_ _));exact BK315.out⟩,⟨by first|((repeat (first|(with_reducible first|exact HI310.out|apply IsS76.alloc|apply IsS76.drewN|apply IsS76.drew|apply IsS76.set_1|apply IsS76.set_2|refine IsS76.far ?_ NB310_309.out _|(apply IsS76.far;case hne => exact NB310_309.out)|refine IsS76.far ?_ NB310_315.out _|(apply IsS76.far;case hne => exact NB310_315.out))|exact HI310.out));done)|((simp only [*]);(repeat (first|(with_reducible first|exact HI310.out|apply IsS76.alloc|apply IsS76.drewN|apply IsS76.drew|apply IsS76.set_1|apply IsS76.set_2|refine IsS76.far ?_ NB310_309.out _|(apply IsS76.far;case hne => exact NB310_309.out)|refine IsS76.far ?_ NB310_315.out _|(apply IsS76.far;case hne => exact NB310_315.out))|exact HI310.out)))⟩,⟨by repeat (first|(with_reducible first|exact HB.out|apply below_alloc|apply pw_below_drewN|apply below_drew1|refine below_set ?_ (IsS76.ge HI310.out)|refine below_set ?_ GE309.out|refine below_set ?_ GE315.out)|exact HB.out)⟩⟩
   ·rw [if_neg c13] at H
    have c13b0 : decide ((t311.size : Int) < 1) = false:=decide_eq_false c13
    have c13b1 : decide (t311.size < 1) = false:=decide_eq_false (by omega)
    clear c13
    (first|rw [c13b0]|(simp only [i64_w,i32_w];rw [c13b0])|skip)
    have H':=Aside0.mk H
    clear H
    obtain ⟨ASz18_0,cSz18_0,HGz18,hgz18,HSz18_0,hlSz18_0⟩:=HI310.out
    have hcz18_0:=cellS76_0 HGz18
    have hcz18_1:=cellS76_1 HGz18
    have hcz18_2:=cellS76_2 HGz18
    have hfz18_0:=blk_frozen HGz18 0
    have hfz18_1:=blk_frozen HGz18 1
    have hfz18_2:=blk_frozen HGz18 2
    clear HGz18 hgz18
    have hnb19:=NB315_309.out
    have hnc19:=NB309_315.out
    have hnb20:=NB315_310.out
    have hnc20:=NB310_315.out
    have hcz21_0 : w7.cell? ⟨gb315,0,none⟩ = some (.string (⟨#[]⟩ : ByteArray)):=(blk_cell BK315.out 0).trans rfl
    have hcz21_1 : w7.cell? ⟨gb315,1,none⟩ = some (.slice none 0 0):=(blk_cell BK315.out 1).trans rfl
    have hfz21_0:=blk_frozen BK315.out 0
    have hfz21_1:=blk_frozen BK315.out 1
    go_wp2
    go_meet
    case rel => exact ⟨_,(decide ((t311.size : Int) > 20)),H',⟨by first|omega|exact Nat.le_refl _⟩,⟨by (with_reducible repeat (first|refine blk_drewN ?_ _|refine blk_drew ?_|refine blk_alloc ?_ _));refine blk_far ?_ NB309_310.out _;(with_reducible repeat (first|refine blk_drewN ?_ _|refine blk_drew ?_|refine blk_alloc ?_ _));refine blk_far ?_ NB309_315.out _;(with_reducible repeat (first|refine blk_drewN ?_ _|refine blk_drew ?_|refine blk_alloc ?_ _));refine blk_far ?_ NB309_315.out _;(with_reducible repeat (first|refine blk_drewN ?_ _|refine blk_drew ?_|refine blk_alloc ?_ _));exact BK309.out⟩,⟨by (with_reducible repeat (first|refine blk_drewN ?_ _|refine blk_drew ?_|refine blk_alloc ?_ _));refine blk_far ?_ NB315_310.out _;(with_reducible repeat (first|refine blk_drewN ?_ _|refine blk_drew ?_|refine blk_alloc ?_ _));refine blk_put (cs:=#[.string t311, .slice none 0 0]) ?_ 1 _ rfl;(with_reducible repeat (first|refine blk_drewN ?_ _|refine blk_drew ?_|refine blk_alloc ?_ _));refine blk_put (cs:=#[.string (⟨#[]⟩ : ByteArray), .slice none 0 0]) ?_ 0 _ rfl;(with_reducible repeat (first|refine blk_drewN ?_ _|refine blk_drew ?_|refine blk_alloc ?_ _));exact BK315.out⟩,⟨by first|((repeat (first|(with_reducible first|exact HI310.out|apply IsS76.alloc|apply IsS76.drewN|apply IsS76.drew|apply IsS76.set_1|apply IsS76.set_2|refine IsS76.far ?_ NB310_309.out _|(apply IsS76.far;case hne => exact NB310_309.out)|refine IsS76.far ?_ NB310_315.out _|(apply IsS76.far;case hne => exact NB310_315.out))|exact HI310.out));done)|((simp only [*]);(repeat (first|(with_reducible first|exact HI310.out|apply IsS76.alloc|apply IsS76.drewN|apply IsS76.drew|apply IsS76.set_1|apply IsS76.set_2|refine IsS76.far ?_ NB310_309.out _|(apply IsS76.far;case hne => exact NB310_309.out)|refine IsS76.far ?_ NB310_315.out _|(apply IsS76.far;case hne => exact NB310_315.out))|exact HI310.out)))⟩,⟨by repeat (first|(with_reducible first|exact HB.out|apply below_alloc|apply pw_below_drewN|apply below_drew1|refine below_set ?_ (IsS76.ge HI310.out)|refine below_set ?_ GE309.out|refine below_set ?_ GE315.out)|exact HB.out)⟩⟩
 case rest =>
  clear HC3
  try clear c1
  try clear c2
  try clear p2
  try clear c3
  try clear c4
  try clear c8
  try clear c9
  try clear c11
  try clear c13
  try clear c13b0
  try clear c13b1
  try clear c15
  try clear c16
  try clear c19
  try clear c20
  try clear hcz10_0
  try clear hcz10_1
  try clear hcz12_0
  try clear hcz12_1
  try clear hcz12_2
  try clear hcz14_0
  try clear hcz14_1
  try clear hcz14_2
  try clear hcz17_0
  try clear hcz17_1
  try clear hcz18_0
  try clear hcz18_1
  try clear hcz18_2
  try clear hcz21_0
  try clear hcz21_1
  try clear hfz10_0
  try clear hfz10_1
  try clear hfz12_0
  try clear hfz12_1
  try clear hfz12_2
  try clear hfz14_0
  try clear hfz14_1
  try clear hfz14_2
  try clear hfz17_0
  try clear hfz17_1
  try clear hfz18_0
  try clear hfz18_1
  try clear hfz18_2
  try clear hfz21_0
  try clear hfz21_1
  obtain ⟨kq,x311002_2,HA,HJ2,BK309,BK315,HI310,HB⟩:=hcut
  cases kq with
  | zero => exact absurd HA.out (by simp [codec_Event.j0])
  | succ kj2 =>
   have H:=HA.out
   clear HA
   simp only [codec_Event.j0] at H
   replace H:=Option.bind_eq_some_iff.mp H
   obtain ⟨⟨t316,t317,t318,t319⟩,A220,H⟩:=H
   replace H : (codec_Event.l0 kj2 t316 0 t317 t318 t319 t311 ([] : List (S24))) = some (r1,r2,r3,r4):=H
   have A22:=Aside0.mk A220
   clear A220
   have H':=Aside0.mk H
   clear H
   go_wp2_with (first|((with_reducible refine gate_callee (f:=44) rfl ?_);refine goesL_ (some 33) rfl rfl Try.func44 (by kernel_rfl) rfl #[.pointer (some ⟨gb310,0,none⟩), .int .u64 12] rfl (by (try simp only [List.map_toArray,List.map_cons,List.map_nil]);first|done|rfl|(simp only [List.length_drop,List.length_take];rfl)|(go_simp;done)|(go_simp;simp;done)) ?_;(with_reducible refine (codec_reader_count.calls kj2 gb310 t312 t313 x311002_2 12 t316 t317 t318 t319 w _ ?side1 ?side2 A22.out).mono ?_);(case side1 => first|((repeat (first|(with_reducible first|exact HI310.out|apply IsS76.alloc|apply IsS76.drewN|apply IsS76.drew|apply IsS76.set_1|apply IsS76.set_2|refine IsS76.far ?_ NB310_309.out _|(apply IsS76.far;case hne => exact NB310_309.out)|refine IsS76.far ?_ NB310_315.out _|(apply IsS76.far;case hne => exact NB310_315.out))|exact HI310.out));done)|((simp only [*]);(repeat (first|(with_reducible first|exact HI310.out|apply IsS76.alloc|apply IsS76.drewN|apply IsS76.drew|apply IsS76.set_1|apply IsS76.set_2|refine IsS76.far ?_ NB310_309.out _|(apply IsS76.far;case hne => exact NB310_309.out)|refine IsS76.far ?_ NB310_315.out _|(apply IsS76.far;case hne => exact NB310_315.out))|exact HI310.out))));(case side2 => repeat (first|(with_reducible first|exact HB.out|apply below_alloc|apply pw_below_drewN|apply below_drew1|refine below_set ?_ (IsS76.ge HI310.out)|refine below_set ?_ GE309.out|refine below_set ?_ GE315.out)|exact HB.out));rintro e w23 ⟨rfl,hi,hb,hk⟩;refine ⟨_,rfl,?_⟩;have n0_:=Aside0.mk (KeepBut.blk hk (g':=gb309) (o := .cells #[.string (⟨#[]⟩ : ByteArray), .slice none 0 0] 26 (0,0)) (by (with_reducible repeat (first|refine blk_drewN ?_ _|refine blk_drew ?_|refine blk_alloc ?_ _));exact BK309.out) NB309_310.out (by simp));have n1_:=Aside0.mk (KeepBut.blk hk (g':=gb315) (o := .cells #[.string t311, .slice none 0 0] 26 (0,0)) (by (with_reducible repeat (first|refine blk_drewN ?_ _|refine blk_drew ?_|refine blk_alloc ?_ _));exact BK315.out) NB315_310.out (by simp));have n2_:=Aside0.mk (hb);have n3_:=Aside0.mk (hi);clear BK309;clear BK315;clear HB;clear HI310;have BK309:=n0_;have BK315:=n1_;have HB:=n2_;have HI310:=n3_;clear n0_ n1_ n2_ n3_;(try clear hb);(try clear hb2);(try clear hk);(try clear hi)))
   go_loopg [34] kj2 (fun kq v34 w' => ∃ (x34_2 : Int) (x311000_2 : List Int) (x311001_2 : Int) (x311002_2 : Bool) (x316001_2 : List (S24)) (u316001 : Value),v34 = .int .i64 x34_2 ∧ Aside0 (codec_Event.l0 kq t316 x34_2 x311000_2 x311001_2 x311002_2 t311 x316001_2 = some (r1,r2,r3,r4)) ∧ Aside0 (kq ≤ kj2) ∧ Aside0 (Kd.R k24 24 w' w.heap.size (fun _ => True) u316001 x316001_2) ∧ Aside0 (w'.heap[gb309]? = some (.cells #[.string (⟨#[]⟩ : ByteArray),(.slice none 0 0)] 26 (0,0))) ∧ Aside0 (w'.heap[gb315]? = some (.cells #[.string t311,u316001] 26 (0,0))) ∧ Aside0 (IsS76 w w' gb310 x311000_2 x311001_2 x311002_2) ∧ Aside0 (Below w.heap.size w w'))
   case atStart => exact ⟨(0),(t317),(t318),(t319),(([] : List (S24))),(.slice none 0 0),(by first|rfl|(simp;done)|(simp [*];done)),H',⟨Nat.le_refl _⟩,⟨by first|exact Kd.R_nil _ _ _ _ _|exact Kd.N_nil _ _ _ _ _|exact Kd.V_nil _ _ _ _ _|exact Kd.Q_nil _ _ _ _ _|exact Kd.S_nil _ _ _ _ _⟩,⟨by (with_reducible repeat (first|refine blk_drewN ?_ _|refine blk_drew ?_|refine blk_alloc ?_ _));exact BK309.out⟩,⟨by (with_reducible repeat (first|refine blk_drewN ?_ _|refine blk_drew ?_|refine blk_alloc ?_ _));exact BK315.out⟩,⟨by first|((repeat (first|(with_reducible first|exact HI310.out|apply IsS76.alloc|apply IsS76.drewN|apply IsS76.drew|apply IsS76.set_1|apply IsS76.set_2|refine IsS76.far ?_ NB310_309.out _|(apply IsS76.far;case hne => exact NB310_309.out)|refine IsS76.far ?_ NB310_315.out _|(apply IsS76.far;case hne => exact NB310_315.out))|exact HI310.out));done)|((simp only [*]);(repeat (first|(with_reducible first|exact HI310.out|apply IsS76.alloc|apply IsS76.drewN|apply IsS76.drew|apply IsS76.set_1|apply IsS76.set_2|refine IsS76.far ?_ NB310_309.out _|(apply IsS76.far;case hne => exact NB310_309.out)|refine IsS76.far ?_ NB310_315.out _|(apply IsS76.far;case hne => exact NB310_315.out))|exact HI310.out)))⟩,⟨by repeat (first|(with_reducible first|exact HB.out|apply below_alloc|apply pw_below_drewN|apply below_drew1|refine below_set ?_ (IsS76.ge HI310.out)|refine below_set ?_ GE309.out|refine below_set ?_ GE315.out)|exact HB.out)⟩⟩
   case round =>
    clear H'
    try clear c1
    try clear c2
    try clear p2
    try clear c3
    try clear c4
    try clear c8
    try clear c9
    try clear c11
    try clear c13
    try clear c13b0
    try clear c13b1
    try clear c15
    try clear c16
    try clear c19
    try clear c20
    try clear hcz10_0
    try clear hcz10_1
    try clear hcz12_0
    try clear hcz12_1
    try clear hcz12_2
    try clear hcz14_0
    try clear hcz14_1
    try clear hcz14_2
    try clear hcz17_0
    try clear hcz17_1
    try clear hcz18_0
    try clear hcz18_1
    try clear hcz18_2
    try clear hcz21_0
    try clear hcz21_1
    try clear hfz10_0
    try clear hfz10_1
    try clear hfz12_0
    try clear hfz12_1
    try clear hfz12_2
    try clear hfz14_0
    try clear hfz14_1
    try clear hfz14_2
    try clear hfz17_0
    try clear hfz17_1
    try clear hfz18_0
    try clear hfz18_1
    try clear hfz18_2
    try clear hfz21_0
    try clear hfz21_1
    try clear p2
    obtain ⟨x34_2,x311000_2,x311001_2,x311002_2,x316001_2,u316001,rfl,HA,HK2,HO_316001,BK309,BK315,HI310,HB⟩:=hrel
    cases gk with
    | zero => exact absurd HA.out (by simp [codec_Event.l0])
    | succ k2 =>
     have H:=HA.out
     clear HA
     simp only [codec_Event.l0] at H
     by_cases c24 : x34_2 < t316
     ·rw [if_pos c24] at H
      have c24b0 : decide (x34_2 < t316) = true:=decide_eq_true c24
      clear c24
      replace H:=Option.bind_eq_some_iff.mp H
      obtain ⟨⟨t320,t321,t322,t323,t324,t327,t328,t329⟩,A250,H⟩:=H
      replace H : (if x316001_2.length < 2199023255552 then (codec_Event.l0 k2 t316 (wrap64 (x34_2 + 1)) t327 t328 t329 t311 (x316001_2 ++ [(⟨t320,t321,t322,t323,t324⟩ : S24)])) else (none)) = some (r1,r2,r3,r4):=H
      have A25:=Aside0.mk A250
      clear A250
      by_cases c26 : x316001_2.length < 2199023255552
      ·rw [if_pos c26] at H
       have LMc26:=Aside0.mk c26
       clear c26
       obtain ⟨y330,hy330⟩ : ∃ y_ : List (S24),y_ = (x316001_2 ++ [(⟨t320,t321,t322,t323,t324⟩ : S24)]):=⟨_,rfl⟩
       replace H : (codec_Event.l0 k2 t316 (wrap64 (x34_2 + 1)) t327 t328 t329 t311 y330) = some (r1,r2,r3,r4):=by first|(rw [hy330];with_reducible exact H)|(have H2_:=(Option.bind_some _ _).symm.trans H;rw [hy330];with_reducible exact H2_)|(have H2_:=(Option.bind_some _ _).symm.trans H;with_reducible exact H2_)|with_reducible exact H|(rw [hy330];exact H)|exact H
       have Ny330:=Aside0.mk hy330
       clear hy330
       have H':=Aside0.mk H
       clear H
       try go_wp2
       have n0_:=Aside0.mk (Kd.R_drew HO_316001.out)
       have n1_:=Aside0.mk (blk_drew BK309.out)
       have n2_:=Aside0.mk (blk_drew BK315.out)
       have n3_:=Aside0.mk (IsS76.drew HI310.out)
       have n4_:=Aside0.mk (below_drew1 HB.out)
       clear HO_316001
       clear BK309
       clear BK315
       clear HI310
       clear HB
       have HO_316001:=n0_
       have BK309:=n1_
       have BK315:=n2_
       have HI310:=n3_
       have HB:=n4_
       clear n0_ n1_ n2_ n3_ n4_
       refine start_ (n:=8) (S:=fun w' => w'.cell? ⟨gb315,0,none⟩ = some (.string t311) ∧ w'.cell? ⟨gb315,1,none⟩ = some (u316001)) (ds:=[7]) #[false,false,false,false,false,false,false,false] (by kernel_rfl) rfl rfl ⟨(blk_cell BK315.out 0).trans rfl,(blk_cell BK315.out 1).trans rfl⟩ (fun hHeld => ?_);refine with_tabW codec_Event.tab6 codec_Event.bits6 (fun HT_ HW_ => ?_)
       generalize wr.drew = w27 at HO_316001 BK309 BK315 HI310 HB hHeld ⊢
       refine pure_ (i:=0) (N:=some 36) (v:=?_) (a':=?_) #[true,false,false,false,false,false,false,false] rfl rfl (any_of HT_.out (by kernel_rfl)) (fun _ _ _ h => h) (Or.inl ⟨by rfl,?_⟩) ?_ ?_
       rotate_left
       ·intro w'
        go_simp
        with_reducible rfl
       rotate_left
       ·simp only [Act.put,List.setIfInBounds_toArray,List.set_cons_zero,List.set_cons_succ,i64_w,i32_w]
        rfl
       refine pure_ (i:=2) (N:=some 38) (v:=?_) (a':=?_) #[true,false,true,false,false,false,false,false] rfl rfl (any_of HT_.out (by kernel_rfl)) (fun _ _ _ h => h) (Or.inl ⟨by rfl,?_⟩) ?_ ?_
       rotate_left
       ·intro w'
        go_simp
        with_reducible rfl
       rotate_left
       ·simp only [Act.put,List.setIfInBounds_toArray,List.set_cons_zero,List.set_cons_succ,i64_w,i32_w]
        rfl
       refine take_ (i:=1) (N:=some 37) (v:=?_) (a':=?_) #[true,true,true,false,false,false,false,false] rfl rfl (take_ofW HT_.out HW_.out (by kernel_rfl)) (fun _ _ _ h => h) (Or.inl ⟨by rfl,?_⟩) hHeld ?_ ?_
       rotate_left
       ·rintro w' ⟨s0,s1⟩
        go_simp
        with_reducible rfl
       rotate_left
       ·simp only [Act.put,List.setIfInBounds_toArray,List.set_cons_zero,List.set_cons_succ,i64_w,i32_w]
        rfl
       refine one_ (i:=3) (N:=some 39) #[true,true,true,true,false,false,false,false] rfl rfl (one_of HT_.out (by kernel_rfl)) (by decide) (fun K hK => ?_)
       refine goes_ Try.func39 (by kernel_rfl) rfl #[.pointer (some ⟨gb310,0,none⟩), .bool false] (by rfl) rfl rfl (by (try simp only [List.map_toArray,List.map_cons,List.map_nil]);first|done|rfl|(simp only [List.length_drop,List.length_take];rfl)|(go_simp;done)|(go_simp;simp;done)) ?_
       with_reducible refine (codec_reader_value.calls k2 gb310 x311000_2 x311001_2 x311002_2 false t320 t321 t322 t323 t324 t327 t328 t329 w _ ?side1 ?side2 A25.out).mono ?_
       (case side1 => first|((repeat (first|(with_reducible first|exact HI310.out|apply IsS76.alloc|apply IsS76.drewN|apply IsS76.drew|apply IsS76.set_1|apply IsS76.set_2|refine IsS76.far ?_ NB310_309.out _|(apply IsS76.far;case hne => exact NB310_309.out)|refine IsS76.far ?_ NB310_315.out _|(apply IsS76.far;case hne => exact NB310_315.out))|exact HI310.out));done)|((simp only [*]);(repeat (first|(with_reducible first|exact HI310.out|apply IsS76.alloc|apply IsS76.drewN|apply IsS76.drew|apply IsS76.set_1|apply IsS76.set_2|refine IsS76.far ?_ NB310_309.out _|(apply IsS76.far;case hne => exact NB310_309.out)|refine IsS76.far ?_ NB310_315.out _|(apply IsS76.far;case hne => exact NB310_315.out))|exact HI310.out))))
       (case side2 => repeat (first|(with_reducible first|exact HB.out|apply below_alloc|apply pw_below_drewN|apply below_drew1|refine below_set ?_ (IsS76.ge HI310.out)|refine below_set ?_ GE309.out|refine below_set ?_ GE315.out)|exact HB.out))
       rintro e w28 ⟨v325,rfl,ho0,hi,hb,hk⟩
       refine ⟨_,rfl,?_⟩
       have n0_:=Aside0.mk (Kd.R_mono (Kd.R_told (Kd.R_oldK (IsS76.apart (show IsS76 w _ gb310 x311000_2 x311001_2 x311002_2 from by first|((repeat (first|(with_reducible first|exact HI310.out|apply IsS76.alloc|apply IsS76.drewN|apply IsS76.drew|apply IsS76.set_1|apply IsS76.set_2|refine IsS76.far ?_ NB310_309.out _|(apply IsS76.far;case hne => exact NB310_309.out)|refine IsS76.far ?_ NB310_315.out _|(apply IsS76.far;case hne => exact NB310_315.out))|exact HI310.out));done)|((simp only [*]);(repeat (first|(with_reducible first|exact HI310.out|apply IsS76.alloc|apply IsS76.drewN|apply IsS76.drew|apply IsS76.set_1|apply IsS76.set_2|refine IsS76.far ?_ NB310_309.out _|(apply IsS76.far;case hne => exact NB310_309.out)|refine IsS76.far ?_ NB310_315.out _|(apply IsS76.far;case hne => exact NB310_315.out))|exact HI310.out)))) (by (with_reducible repeat (first|apply Kd.R_alloc|apply Kd.R_drewN|apply Kd.R_drew));exact HO_316001.out) (by decide)) hk) (Kd.R_base ho0)) (fun _ h_ => h_.1))
       have n1_:=Aside0.mk (KeepBut.blk hk (g':=gb309) (o := .cells #[.string (⟨#[]⟩ : ByteArray), .slice none 0 0] 26 (0,0)) (by (with_reducible repeat (first|refine blk_drewN ?_ _|refine blk_drew ?_|refine blk_alloc ?_ _));exact BK309.out) NB309_310.out (by simp))
       have n2_:=Aside0.mk (KeepBut.blk hk (g':=gb315) (o := .cells #[.string t311,u316001] 26 (0,0)) (by (with_reducible repeat (first|refine blk_drewN ?_ _|refine blk_drew ?_|refine blk_alloc ?_ _));exact BK315.out) NB315_310.out (by simp))
       have n3_:=Aside0.mk (Kd.R_lower (Kd.R_new' ho0 (Kd.R_lt (by (with_reducible repeat (first|apply Kd.R_alloc|apply Kd.R_drewN|apply Kd.R_drew));exact HO_316001.out))) (below_size (by repeat (first|(with_reducible first|exact HB.out|apply below_alloc|apply pw_below_drewN|apply below_drew1|refine below_set ?_ (IsS76.ge HI310.out)|refine below_set ?_ GE309.out|refine below_set ?_ GE315.out)|exact HB.out))))
       have n4_:=Aside0.mk (hb)
       have n5_:=Aside0.mk (hi)
       clear HO_316001
       clear BK309
       clear BK315
       clear HB
       clear HI310
       have HO_316001:=n0_
       have BK309:=n1_
       have BK315:=n2_
       have HO326:=n3_
       have HB:=n4_
       have HI310:=n5_
       clear n0_ n1_ n2_ n3_ n4_ n5_
       (try clear hb)
       (try clear hb2)
       (try clear hk)
       (try clear hi)
       (try clear ho0)
       obtain ⟨Ao30,co30,eo30⟩:=Kd.R_slice HO326.out
       (first|subst eo30|(injection eo30 with f1_ f2_ f3_;have f4_:=f1_.symm;have f5_:=f3_.symm;clear f1_ f2_ f3_;subst f4_;subst f5_))
       refine hK.out _ _ ⟨(blk_cell BK315.out 0).trans rfl,(blk_cell BK315.out 1).trans rfl⟩ (fun hHeld => ?_)
       clear hK K
       refine norm_ (a':=?_) ?_ ?_
       rotate_left
       ·show Act.put _ (some 39) _ = _
        simp only [Act.put,List.setIfInBounds_toArray,List.set_cons_zero,List.set_cons_succ,i64_w,i32_w]
        rfl
       refine one_ (i:=4) (N:=some 40) #[true,true,true,true,true,false,false,false] rfl rfl (one_of HT_.out (by kernel_rfl)) (by decide) (fun K hK => ?_)
       refine value_ (w1:=?_) (v:=?_) (by rfl) rfl ?_ ?_
       rotate_left 2
       ·go_simp
        constructor
        ·rfl
        ·rfl
       refine hK.out _ _ ⟨(blk_cell (blk_alloc BK315.out _) 0).trans rfl,(blk_cell (blk_alloc BK315.out _) 1).trans rfl⟩ (fun hHeld => ?_)
       clear hK K
       refine norm_ (a':=?_) ?_ ?_
       rotate_left
       ·show Act.put _ (some 40) _ = _
        simp only [Act.put,List.setIfInBounds_toArray,List.set_cons_zero,List.set_cons_succ,i64_w,i32_w]
        rfl
       refine one_ (i:=5) (N:=some 41) #[true,true,true,true,true,true,false,false] rfl rfl (one_of HT_.out (by kernel_rfl)) (by decide) (fun K hK => ?_)
       refine Kd.R_append_step k24 (w0:=w) w.heap.size (by rfl) (.tmp 37) (.tmp 40) 22 24 (.agg #[(.int .i64 0),(.int .i64 0),(.string ⟨#[]⟩),(.int .i64 0),(.slice none 0 0)]) 64 rfl Try.underlying22 info24 rfl (by decide) (by omega) u316001 x316001_2 (⟨t320,t321,t322,t323,t324⟩ : S24) [.int .i64 t320, .int .i64 t321, .string t322, .int .i64 t323, .slice Ao30 t324.length co30] (fun _ => True) (fun k_ => ((fun _ => True)) k_ ∧ some k_ ≠ (u316001 : Value).ownBlock) rfl rfl ?aP (fun _ hk => hk) ?aF ?aO ?aB ?aS ?aL ?_
       (case aP => exact k24_mkM _ _ _ (⟨t320,t321,t322,t323,t324⟩ : S24) (Kd.R_mono (HO326.out) (fun k_ hk => ⟨trivial,hk.2⟩)))
       (case aB => exact (by repeat (first|(with_reducible first|exact HB.out|apply below_alloc|apply pw_below_drewN|apply below_drew1|refine below_set ?_ (IsS76.ge HI310.out)|refine below_set ?_ GE309.out|refine below_set ?_ GE315.out)|exact HB.out)))
       (case aF => exact (fun _ _ => trivial))
       (case aO => exact (by (with_reducible repeat (first|apply Kd.R_alloc|apply Kd.R_drewN|apply Kd.R_drew));exact Kd.R_mono HO_316001.out (fun _ hk => trivial)))
       (case aS => exact (below_size (by repeat (first|(with_reducible first|exact HB.out|apply below_alloc|apply pw_below_drewN|apply below_drew1|refine below_set ?_ (IsS76.ge HI310.out)|refine below_set ?_ GE309.out|refine below_set ?_ GE315.out)|exact HB.out))))
       (case aL => have:=LMc26.out;omega)
       intro v331 w29 ho hb hg hat
       rw [← Ny330.out] at ho
       have n0_:=Aside0.mk (blk_grown (g:=gb309) (o := .cells #[.string (⟨#[]⟩ : ByteArray), .slice none 0 0] 26 (0,0)) (by (with_reducible repeat (first|refine blk_drewN ?_ _|refine blk_drew ?_|refine blk_alloc ?_ _));exact BK309.out) hg (Kd.R_ne HO_316001.out BK309.out (by decide)))
       have n1_:=Aside0.mk (blk_grown (g:=gb315) (o := .cells #[.string t311,u316001] 26 (0,0)) (by (with_reducible repeat (first|refine blk_drewN ?_ _|refine blk_drew ?_|refine blk_alloc ?_ _));exact BK315.out) hg (Kd.R_ne HO_316001.out BK315.out (by decide)))
       have n2_:=Aside0.mk (IsS76.grown (by first|((repeat (first|(with_reducible first|exact HI310.out|apply IsS76.alloc|apply IsS76.drewN|apply IsS76.drew|apply IsS76.set_1|apply IsS76.set_2|refine IsS76.far ?_ NB310_309.out _|(apply IsS76.far;case hne => exact NB310_309.out)|refine IsS76.far ?_ NB310_315.out _|(apply IsS76.far;case hne => exact NB310_315.out))|exact HI310.out));done)|((simp only [*]);(repeat (first|(with_reducible first|exact HI310.out|apply IsS76.alloc|apply IsS76.drewN|apply IsS76.drew|apply IsS76.set_1|apply IsS76.set_2|refine IsS76.far ?_ NB310_309.out _|(apply IsS76.far;case hne => exact NB310_309.out)|refine IsS76.far ?_ NB310_315.out _|(apply IsS76.far;case hne => exact NB310_315.out))|exact HI310.out)))) hg (IsS76.own_ne HI310.out HO_316001.out (by decide)))
       have n3_:=Aside0.mk (hb)
       have n4_:=Aside0.mk (ho)
       clear BK309
       clear BK315
       clear HI310
       clear HB
       clear HO_316001
       clear HO326
       have BK309:=n0_
       have BK315:=n1_
       have HI310:=n2_
       have HB:=n3_
       have HO332:=n4_
       clear n0_ n1_ n2_ n3_ n4_
       clear ho hb hg hat
       obtain ⟨Ao31,co31,eo31⟩:=Kd.R_slice HO332.out
       (first|subst eo31|(injection eo31 with f1_ f2_ f3_;have f4_:=f1_.symm;have f5_:=f3_.symm;clear f1_ f2_ f3_;subst f4_;subst f5_))
       refine hK.out _ _ ⟨(blk_cell BK315.out 0).trans rfl,(blk_cell BK315.out 1).trans rfl⟩ (fun hHeld => ?_)
       clear hK K
       refine norm_ (a':=?_) ?_ ?_
       rotate_left
       ·show Act.put _ (some 41) _ = _
        simp only [Act.put,List.setIfInBounds_toArray,List.set_cons_zero,List.set_cons_succ,i64_w,i32_w]
        rfl
       refine pure_ (i:=6) (N:=some 42) (v:=?_) (a':=?_) #[true,true,true,true,true,true,true,false] rfl rfl (any_of HT_.out (by kernel_rfl)) (fun _ _ _ h => h) (Or.inl ⟨by rfl,?_⟩) ?_ ?_
       rotate_left
       ·intro w'
        go_simp
        with_reducible rfl
       rotate_left
       ·simp only [Act.put,List.setIfInBounds_toArray,List.set_cons_zero,List.set_cons_succ,i64_w,i32_w]
        rfl
       refine last_ (i:=7) (N:=none) #[true,true,true,true,true,true,true,true] rfl rfl (one_of HT_.out (by kernel_rfl)) (by decide) (fun K hK => ?_)
       have hs32 : w29.cell? ⟨gb315,1,none⟩ = some (u316001):=(blk_cell BK315.out 1).trans rfl
       have hfs32:=blk_frozen BK315.out 1
       have hns32_0:=NB309_315.out
       have hms32_0:=NB315_309.out
       refine skip_ (w1:=?_) (by rfl) rfl ?_ ?_
       rotate_left
       ·go_simp
        rfl
       refine hK.out _ _ ?_
       clear hK K
       refine done_ (done_of HT_.out (by kernel_rfl)) ?_
       try go_wp2
       go_roundg k2
       case measure => have:=HJ2.out;have:=HK2.out;omega
       case rel => exact ⟨(wrap64 (x34_2 + 1)),(t327),(t328),(t329),(y330),(.slice Ao31 y330.length co31),(by first|rfl|(simp;done)|(simp [*];done)),H',⟨by have:=HJ2.out;have:=HK2.out;omega⟩,⟨by (with_reducible repeat (first|apply Kd.R_alloc|apply Kd.R_drewN|apply Kd.R_drew));exact Kd.R_mono (Kd.R_far (p:=⟨gb315,1,none⟩) (Kd.R_types HO332.out BK315.out (by decide)) (fun _ hk => hk.2) (.slice Ao31 y330.length co31)) (fun _ hk => trivial)⟩,⟨by (with_reducible repeat (first|refine blk_drewN ?_ _|refine blk_drew ?_|refine blk_alloc ?_ _));refine blk_far ?_ NB309_315.out _;(with_reducible repeat (first|refine blk_drewN ?_ _|refine blk_drew ?_|refine blk_alloc ?_ _));exact BK309.out⟩,⟨by (with_reducible repeat (first|refine blk_drewN ?_ _|refine blk_drew ?_|refine blk_alloc ?_ _));refine blk_put (cs:=#[.string t311,u316001]) ?_ 1 _ rfl;(with_reducible repeat (first|refine blk_drewN ?_ _|refine blk_drew ?_|refine blk_alloc ?_ _));exact BK315.out⟩,⟨by first|((repeat (first|(with_reducible first|exact HI310.out|apply IsS76.alloc|apply IsS76.drewN|apply IsS76.drew|apply IsS76.set_1|apply IsS76.set_2|refine IsS76.far ?_ NB310_309.out _|(apply IsS76.far;case hne => exact NB310_309.out)|refine IsS76.far ?_ NB310_315.out _|(apply IsS76.far;case hne => exact NB310_315.out))|exact HI310.out));done)|((simp only [*]);(repeat (first|(with_reducible first|exact HI310.out|apply IsS76.alloc|apply IsS76.drewN|apply IsS76.drew|apply IsS76.set_1|apply IsS76.set_2|refine IsS76.far ?_ NB310_309.out _|(apply IsS76.far;case hne => exact NB310_309.out)|refine IsS76.far ?_ NB310_315.out _|(apply IsS76.far;case hne => exact NB310_315.out))|exact HI310.out)))⟩,⟨by repeat (first|(with_reducible first|exact HB.out|apply below_alloc|apply pw_below_drewN|apply below_drew1|refine below_set ?_ (IsS76.ge HI310.out)|refine below_set ?_ GE309.out|refine below_set ?_ GE315.out)|exact HB.out)⟩⟩
      ·rw [if_neg c26] at H
       exact absurd H (by simp)
     ·rw [if_neg c24] at H
      have c24b0 : decide (x34_2 < t316) = false:=decide_eq_false c24
      clear c24
      by_cases c33 : x311002_2 = true
      ·subst c33
       have H1 : (some ((⟨#[]⟩ : ByteArray),([] : List (S24)),0,20)) = some (r1,r2,r3,r4):=by rw [if_pos rfl] at H;exact H
       clear H
       have H:=H1
       clear H1
       simp only [Option.some.injEq,Prod.mk.injEq] at H
       obtain ⟨rfl,rfl,rfl,rfl⟩:=H
       obtain ⟨ASz34_0,cSz34_0,HGz34,hgz34,HSz34_0,hlSz34_0⟩:=HI310.out
       have hcz34_0:=cellS76_0 HGz34
       have hcz34_1:=cellS76_1 HGz34
       have hcz34_2:=cellS76_2 HGz34
       have hfz34_0:=blk_frozen HGz34 0
       have hfz34_1:=blk_frozen HGz34 1
       have hfz34_2:=blk_frozen HGz34 2
       clear HGz34 hgz34
       have hnb35:=NB309_315.out
       have hnc35:=NB315_309.out
       have hnb36:=NB309_310.out
       have hnc36:=NB310_309.out
       have hcz37_0 : wr.cell? ⟨gb309,0,none⟩ = some (.string (⟨#[]⟩ : ByteArray)):=(blk_cell BK309.out 0).trans rfl
       have hcz37_1 : wr.cell? ⟨gb309,1,none⟩ = some (.slice none 0 0):=(blk_cell BK309.out 1).trans rfl
       have hfz37_0:=blk_frozen BK309.out 0
       have hfz37_1:=blk_frozen BK309.out 1
       go_wp2
       refine bodyPost_ret (results_ctt rfl _ _ gb309 26 #[.string (⟨#[]⟩ : ByteArray), .slice none 0 0] (0,0) _ rfl (by (with_reducible repeat (first|refine blk_drewN ?_ _|refine blk_drew ?_|refine blk_alloc ?_ _));refine blk_put (cs:=#[.string (⟨#[]⟩ : ByteArray), .slice none 0 0]) ?_ 1 _ rfl;(with_reducible repeat (first|refine blk_drewN ?_ _|refine blk_drew ?_|refine blk_alloc ?_ _));refine blk_put (cs:=#[.string (⟨#[]⟩ : ByteArray), .slice none 0 0]) ?_ 0 _ rfl;(with_reducible repeat (first|refine blk_drewN ?_ _|refine blk_drew ?_|refine blk_alloc ?_ _));exact BK309.out) Try.underlying26 rfl (by kernel_rfl)) rfl ?_
       exact ⟨_,by first|rfl|(simp [errW_none,errW_some] <;> rfl)|(simp [*,errW_none,errW_some] <;> rfl),by first|exact Kd.R_nil _ _ _ _ _|exact Kd.N_nil _ _ _ _ _|exact Kd.V_nil _ _ _ _ _|exact Kd.Q_nil _ _ _ _ _|exact Kd.S_nil _ _ _ _ _,by repeat (first|(with_reducible first|exact HB.out|apply below_alloc|apply pw_below_drewN|apply below_drew1|refine below_set ?_ (IsS76.ge HI310.out)|refine below_set ?_ GE309.out|refine below_set ?_ GE315.out)|exact HB.out)⟩
      ·replace c33:=Bool.eq_false_iff.mpr c33
       subst c33
       have H1 : (some (t311,x316001_2,x311001_2,0)) = some (r1,r2,r3,r4):=by rw [if_neg (show ¬ (false = true) by decide)] at H;exact H
       clear H
       have H:=H1
       clear H1
       simp only [Option.some.injEq,Prod.mk.injEq] at H
       obtain ⟨rfl,rfl,rfl,rfl⟩:=H
       obtain ⟨ASz38_0,cSz38_0,HGz38,hgz38,HSz38_0,hlSz38_0⟩:=HI310.out
       have hcz38_0:=cellS76_0 HGz38
       have hcz38_1:=cellS76_1 HGz38
       have hcz38_2:=cellS76_2 HGz38
       have hfz38_0:=blk_frozen HGz38 0
       have hfz38_1:=blk_frozen HGz38 1
       have hfz38_2:=blk_frozen HGz38 2
       clear HGz38 hgz38
       try go_wp2
       obtain ⟨AT310_0,cT310_0,HGT_,hgT_,hrT_0,hlT_0⟩:=HI310.out
       have BK310:=Aside0.mk HGT_
       clear HGT_ hgT_ HI310
       have n0_:=Aside0.mk (Kd.R_drew HO_316001.out)
       have n1_:=Aside0.mk (blk_drew BK309.out)
       have n2_:=Aside0.mk (blk_drew BK315.out)
       have n3_:=Aside0.mk (blk_drew BK310.out)
       have n4_:=Aside0.mk (below_drew1 HB.out)
       clear HO_316001
       clear BK309
       clear BK315
       clear BK310
       clear HB
       have HO_316001:=n0_
       have BK309:=n1_
       have BK315:=n2_
       have BK310:=n3_
       have HB:=n4_
       clear n0_ n1_ n2_ n3_ n4_
       obtain ⟨Ao41,co41,eo41⟩:=Kd.R_slice HO_316001.out
       (first|subst eo41|(injection eo41 with f1_ f2_ f3_;have f4_:=f1_.symm;have f5_:=f3_.symm;clear f1_ f2_ f3_;subst f4_;subst f5_))
       refine start_ (n:=8) (S:=fun w' => w'.cell? ⟨gb315,0,none⟩ = some (.string t311) ∧ w'.cell? ⟨gb315,1,none⟩ = some (.slice Ao41 x316001_2.length co41) ∧ w'.cell? ⟨gb310,0,none⟩ = some (.slice AT310_0 x311000_2.length cT310_0) ∧ w'.cell? ⟨gb310,1,none⟩ = some (.int .i64 x311001_2) ∧ w'.cell? ⟨gb310,2,none⟩ = some (.bool false)) (ds:=[]) #[false,false,false,false,false,false,false,false] (by kernel_rfl) rfl rfl ⟨(blk_cell BK315.out 0).trans rfl,(blk_cell BK315.out 1).trans rfl,(blk_cell BK310.out 0).trans rfl,(blk_cell BK310.out 1).trans rfl,(blk_cell BK310.out 2).trans rfl⟩ (fun hHeld => ?_);refine with_tabW codec_Event.tab10 codec_Event.bits10 (fun HT_ HW_ => ?_)
       generalize wr.drew = w39 at HO_316001 BK309 BK315 BK310 HB hHeld ⊢
       refine pure_ (i:=1) (N:=some 50) (v:=?_) (a':=?_) #[false,true,false,false,false,false,false,false] rfl rfl (any_of HT_.out (by kernel_rfl)) (fun _ _ _ h => h) (Or.inl ⟨by rfl,?_⟩) ?_ ?_
       rotate_left
       ·intro w'
        go_simp
        with_reducible rfl
       rotate_left
       ·simp only [Act.put,List.setIfInBounds_toArray,List.set_cons_zero,List.set_cons_succ,i64_w,i32_w]
        rfl
       refine pure_ (i:=2) (N:=some 51) (v:=?_) (a':=?_) #[false,true,true,false,false,false,false,false] rfl rfl (any_of HT_.out (by kernel_rfl)) (fun _ _ _ h => h) (Or.inl ⟨by rfl,?_⟩) ?_ ?_
       rotate_left
       ·intro w'
        go_simp
        with_reducible rfl
       rotate_left
       ·simp only [Act.put,List.setIfInBounds_toArray,List.set_cons_zero,List.set_cons_succ,i64_w,i32_w]
        rfl
       refine pure_ (i:=3) (N:=some 52) (v:=?_) (a':=?_) #[false,true,true,true,false,false,false,false] rfl rfl (any_of HT_.out (by kernel_rfl)) (fun _ _ _ h => h) (Or.inl ⟨by rfl,?_⟩) ?_ ?_
       rotate_left
       ·intro w'
        go_simp
        with_reducible rfl
       rotate_left
       ·simp only [Act.put,List.setIfInBounds_toArray,List.set_cons_zero,List.set_cons_succ,i64_w,i32_w]
        rfl
       refine take_ (i:=0) (N:=some 49) (v:=?_) (a':=?_) #[true,true,true,true,false,false,false,false] rfl rfl (take_ofW HT_.out HW_.out (by kernel_rfl)) (fun _ _ _ h => h) (Or.inl ⟨by rfl,?_⟩) hHeld ?_ ?_
       rotate_left
       ·rintro w' ⟨s0,s1,s2,s3,s4⟩
        go_simp
        with_reducible rfl
       rotate_left
       ·simp only [Act.put,List.setIfInBounds_toArray,List.set_cons_zero,List.set_cons_succ,i64_w,i32_w]
        rfl
       refine take_ (i:=4) (N:=some 53) (v:=?_) (a':=?_) #[true,true,true,true,true,false,false,false] rfl rfl (take_ofW HT_.out HW_.out (by kernel_rfl)) (fun _ _ _ h => h) (Or.inl ⟨by rfl,?_⟩) hHeld ?_ ?_
       rotate_left
       ·rintro w' ⟨s0,s1,s2,s3,s4⟩
        go_simp
        with_reducible rfl
       rotate_left
       ·simp only [Act.put,List.setIfInBounds_toArray,List.set_cons_zero,List.set_cons_succ,i64_w,i32_w]
        rfl
       refine one_ (i:=5) (N:=none) #[true,true,true,true,true,true,false,false] rfl rfl (one_of HT_.out (by kernel_rfl)) (by decide) (fun K hK => ?_)
       have hs40 : w39.cell? ⟨gb309,0,none⟩ = some (.string (⟨#[]⟩ : ByteArray)):=(blk_cell BK309.out 0).trans rfl
       have hfs40:=blk_frozen BK309.out 0
       have hns40_1:=NB315_309.out
       have hns40_2:=NB310_309.out
       have hms40_1:=NB309_315.out
       have hms40_2:=NB309_310.out
       have hs42 : w39.cell? ⟨gb309,1,none⟩ = some (.slice none 0 0):=(blk_cell BK309.out 1).trans rfl
       have hfs42:=blk_frozen BK309.out 1
       have hns42_1:=NB315_309.out
       have hns42_2:=NB310_309.out
       have hms42_1:=NB309_315.out
       have hms42_2:=NB309_310.out
       refine skip_ (w1:=?_) (by rfl) rfl ?_ ?_
       rotate_left
       ·go_simp
        rfl
       refine hK.out _ _ ⟨((cell_far (p:=⟨gb309,_,none⟩) NB315_309.out _).trans (((cell_far (p:=⟨gb309,_,none⟩) NB315_309.out _).trans (hHeld.1)))),((cell_far (p:=⟨gb309,_,none⟩) NB315_309.out _).trans (((cell_far (p:=⟨gb309,_,none⟩) NB315_309.out _).trans (hHeld.2.1)))),((cell_far (p:=⟨gb309,_,none⟩) NB310_309.out _).trans (((cell_far (p:=⟨gb309,_,none⟩) NB310_309.out _).trans (hHeld.2.2.1)))),((cell_far (p:=⟨gb309,_,none⟩) NB310_309.out _).trans (((cell_far (p:=⟨gb309,_,none⟩) NB310_309.out _).trans (hHeld.2.2.2.1)))),((cell_far (p:=⟨gb309,_,none⟩) NB310_309.out _).trans (((cell_far (p:=⟨gb309,_,none⟩) NB310_309.out _).trans (hHeld.2.2.2.2))))⟩ (fun hHeld => ?_)
       clear hK K
       refine pure_ (i:=6) (N:=some 3) (v:=?_) (a':=?_) #[true,true,true,true,true,true,true,false] rfl rfl (any_of HT_.out (by kernel_rfl)) (fun _ _ _ h => h) (Or.inl ⟨by rfl,?_⟩) ?_ ?_
       rotate_left
       ·intro w'
        go_simp
        with_reducible rfl
       rotate_left
       ·simp only [Act.put,List.setIfInBounds_toArray,List.set_cons_zero,List.set_cons_succ,i64_w,i32_w]
        rfl
       refine pure_ (i:=7) (N:=some 4) (v:=?_) (a':=?_) #[true,true,true,true,true,true,true,true] rfl rfl (any_of HT_.out (by kernel_rfl)) (fun _ _ _ h => h) (Or.inl ⟨by rfl,?_⟩) ?_ ?_
       rotate_left
       ·intro w'
        go_simp
        with_reducible rfl
       rotate_left
       ·simp only [Act.put,List.setIfInBounds_toArray,List.set_cons_zero,List.set_cons_succ,i64_w,i32_w]
        rfl
       refine done_ (done_of HT_.out (by kernel_rfl)) ?_
       try go_wp2
       refine bodyPost_ret (results_ctt rfl _ _ gb309 26 #[.string t311, .slice Ao41 x316001_2.length co41] (0,0) _ rfl (by (with_reducible repeat (first|refine blk_drewN ?_ _|refine blk_drew ?_|refine blk_alloc ?_ _));refine blk_put (cs:=#[.string t311, .slice none 0 0]) ?_ 1 _ rfl;(with_reducible repeat (first|refine blk_drewN ?_ _|refine blk_drew ?_|refine blk_alloc ?_ _));refine blk_put (cs:=#[.string (⟨#[]⟩ : ByteArray), .slice none 0 0]) ?_ 0 _ rfl;(with_reducible repeat (first|refine blk_drewN ?_ _|refine blk_drew ?_|refine blk_alloc ?_ _));exact BK309.out) Try.underlying26 rfl (by kernel_rfl)) rfl ?_
       exact ⟨_,by first|rfl|(simp [errW_none,errW_some] <;> rfl)|(simp [*,errW_none,errW_some] <;> rfl),by (with_reducible repeat (first|apply Kd.R_alloc|apply Kd.R_drewN|apply Kd.R_drew));exact Kd.R_mono (Kd.R_far (p:=⟨gb309,1,none⟩) (Kd.R_far (p:=⟨gb309,0,none⟩) (Kd.R_types HO_316001.out BK309.out (by decide)) (fun _ hk => hk.2) (.string t311)) (fun _ hk => hk.2) (.slice Ao41 x316001_2.length co41)) (fun _ hk => trivial),by repeat (first|(with_reducible first|exact HB.out|apply below_alloc|apply pw_below_drewN|apply below_drew1|refine below_set ?_ GE309.out|refine below_set ?_ GE315.out|refine below_set ?_ GE310.out)|exact HB.out)⟩

end Go.Proofs.Ythbnblmnamckmaa.PAll
-- Laid by a program of this seat (wip/xprint.py over the kit's print).
namespace Go.Proofs.Ythbnblmnamckmaa.PAll
open Go.RowKit Go.Proofs.YthbnblmnamckmaaW.PrintWords Go.Proofs.YthbnblmnamckmaaW.PrintLast Go.Proofs.YthbnblmnamckmaaW.PrintMore
attribute [local go_sem] max2_int min2_int max_two min_two max_three min_three max_four min_four   -- for this text's walks alone
set_option linter.unusedVariables false
set_option linter.unusedSimpArgs false

/-! ### windlassref3_All: function 34 -/
def windlassref3_All.l0 : Nat → List (S24) → List (S24) → Int → Option (Bool)
 | 0,_,_,_ => none
 | k + 1,x0,x1,x5 => if x5 < (x0.length : Int) then (if 0 ≤ x5 then (if x5 < (x1.length : Int) then ((windlassref3_Same.f k ((rd_T24 x0 x5).f0) ((rd_T24 x0 x5).f1) ((rd_T24 x0 x5).f2) ((rd_T24 x0 x5).f3) ((rd_T24 x0 x5).f4) ((rd_T24 x1 x5).f0) ((rd_T24 x1 x5).f1) ((rd_T24 x1 x5).f2) ((rd_T24 x1 x5).f3) ((rd_T24 x1 x5).f4)).bind fun t335 => (if t335 = true then (windlassref3_All.l0 k x0 x1 (wrap64 (x5 + 1))) else (some false))) else (none)) else (none)) else (some true)
def windlassref3_All.f (k : Nat) (l0 : List (S24)) (l1 : List (S24)) : Option (Bool):=if (l0.length : Int) = (l1.length : Int) then (windlassref3_All.l0 k l0 l1 0) else (some false)
theorem windlassref3_All.mono_l : ∀ k,(∀ y0 y1 y2,LeO (windlassref3_All.l0 k y0 y1 y2) (windlassref3_All.l0 (k + 1) y0 y1 y2))
 | 0 => fun _ _ _ r h => by simp [windlassref3_All.l0] at h
 | k + 1 => by
  have ih0:=windlassref3_All.mono_l k
  ·intro y0 y1 y2
   unfold windlassref3_All.l0
   repeat' first
   | (with_reducible exact ih0 _ _ _)
   | (with_reducible exact windlassref3_Same.mono _ _ _ _ _ _ _ _ _ _ _)
   | (with_reducible exact LeO.refl _)
   | (with_reducible exact LeO.none _)
   | (with_reducible refine LeO.ite ?_ ?_)
   | (with_reducible refine LeO.bind ?_ (fun _ => ?_))
   | exact ih0 _ _ _
   | exact windlassref3_Same.mono _ _ _ _ _ _ _ _ _ _ _
   | exact LeO.none _
   | refine LeO.ite ?_ ?_
   | refine LeO.bind ?_ (fun _ => ?_)
theorem windlassref3_All.mono : ∀ a0 a1 k,LeO (windlassref3_All.f k a0 a1) (windlassref3_All.f (k + 1) a0 a1):=by
 intro a0 a1 k
 have ih0:=windlassref3_All.mono_l k
 unfold windlassref3_All.f
 repeat' first
   | (with_reducible exact ih0 _ _ _)
   | (with_reducible exact windlassref3_Same.mono _ _ _ _ _ _ _ _ _ _ _)
   | (with_reducible exact LeO.refl _)
   | (with_reducible exact LeO.none _)
   | (with_reducible refine LeO.ite ?_ ?_)
   | (with_reducible refine LeO.bind ?_ (fun _ => ?_))
   | exact ih0 _ _ _
   | exact windlassref3_Same.mono _ _ _ _ _ _ _ _ _ _ _
   | exact LeO.none _
   | refine LeO.ite ?_ ?_
   | refine LeO.bind ?_ (fun _ => ?_)
def windlassref3_All.T6 : Bool × List (List Nat × List Nat):=(true,[([],[]),([],[]),([0,1],[0,1]),([2],[2]),([],[]),([],[]),([4,5],[4,5]),([6],[6]),([3,7],[3,7]),([8],[8])])
def windlassref3_All.B6 : List Nat:=[0,0,3,7,0,0,48,112,255,511]
theorem windlassref3_All.tab6 : rtab .any (opsOf Try.f34 6) = windlassref3_All.T6:=by kernel_rfl
theorem windlassref3_All.bits6 : waitsOk windlassref3_All.T6.2 windlassref3_All.B6 = true:=by kernel_rfl
set_option maxHeartbeats 8000000 in
set_option maxRecDepth 100000 in
theorem windlassref3_All.calls (k : Nat) (A0 : Option Addr) (c0 : Nat) (l0 : List (S24)) (A1 : Option Addr) (c1 : Nat) (l1 : List (S24)) (r : Bool) (w : World) (hr0 : Kd.C k24 w A0 l0.length l0) (hc0 : l0.length ≤ c0) (hr1 : Kd.C k24 w A1 l1.length l1) (hc1 : l1.length ≤ c1) (h : windlassref3_All.f k l0 l1 = some r) :
  Calls Try.prog 34 #[.slice A0 l0.length c0, .slice A1 l1.length c1] w fun e w' => e = .returned (.bool r) ∧ Below w.heap.size w w':=by
 have hu24:=Try.underlying24
 have HR0:=Aside0.mk hr0
 have HC0:=Aside0.mk hc0
 clear hr0 hc0
 have HR1:=Aside0.mk hr1
 have HC1:=Aside0.mk hc1
 clear hr1 hc1
 have HB:=Aside0.mk (Below.refl w.heap.size w)
 have H : (if (l0.length : Int) = (l1.length : Int) then (windlassref3_All.l0 k l0 l1 0) else (some false)) = some r:=h
 clear h
 by_cases c3 : (l0.length : Int) = (l1.length : Int)
 ·rw [if_pos c3] at H
  have c3b0 : ((l0.length : Int) == (l1.length : Int)) = true:=beq_iff_eq.mpr c3
  have c3b1 : ((l0.length : Int) != (l1.length : Int)) = false:=bne_eq_false_iff_eq.mpr c3
  have c3b2 : (l0.length == l1.length) = true:=by first|simpa using c3|(simp at c3 ⊢;omega)
  clear c3
  have H':=Aside0.mk H
  clear H
  go_enter Try.func34,Try.ntmps34
  go_wp2
  go_loopg [5] k (fun kq v5 w' => ∃ (x5_1 : Int),v5 = .int .i64 x5_1 ∧ Aside0 (windlassref3_All.l0 kq l0 l1 x5_1 = some r) ∧ Aside0 (kq ≤ k) ∧ Aside0 (Below w.heap.size w w'))
  case atStart => exact ⟨(0),(by first|rfl|(simp;done)|(simp [*];done)),H',⟨Nat.le_refl _⟩,⟨by repeat (first|(with_reducible first|exact HB.out|apply below_alloc|apply pw_below_drewN|apply below_drew1)|exact HB.out)⟩⟩
  case round =>
   clear H'
   try clear c1
   try clear p2
   try clear c3
   try clear c3b0
   try clear c3b1
   try clear c3b2
   obtain ⟨x5_1,rfl,HA,HK1,HB⟩:=hrel
   cases gk with
   | zero => exact absurd HA.out (by simp [windlassref3_All.l0])
   | succ k1 =>
    have H:=HA.out
    clear HA
    simp only [windlassref3_All.l0] at H
    by_cases c4 : x5_1 < (l0.length : Int)
    ·rw [if_pos c4] at H
     have c4b0 : decide (x5_1 < (l0.length : Int)) = true:=decide_eq_true c4
     clear c4
     by_cases c5 : 0 ≤ x5_1
     ·rw [if_pos c5] at H
      have c5b0 : decide (0 ≤ x5_1) = true:=decide_eq_true c5
      clear c5
      by_cases c6 : x5_1 < (l1.length : Int)
      ·rw [if_pos c6] at H
       have c6b0 : decide (x5_1 < (l1.length : Int)) = true:=decide_eq_true c6
       clear c6
       replace H:=Option.bind_eq_some_iff.mp H
       obtain ⟨t335,A70,H⟩:=H
       replace H : (if t335 = true then (windlassref3_All.l0 k1 l0 l1 (wrap64 (x5_1 + 1))) else (some false)) = some r:=H
       have A7:=Aside0.mk A70
       clear A70
       by_cases c8 : t335 = true
       ·subst c8
        have H1 : (windlassref3_All.l0 k1 l0 l1 (wrap64 (x5_1 + 1))) = some r:=by rw [if_pos rfl] at H;exact H
        clear H
        have H:=H1
        clear H1
        have H':=Aside0.mk H
        clear H
        try go_wp2
        have n0_:=Aside0.mk (below_drew1 HB.out)
        clear HB
        have HB:=n0_
        clear n0_
        have p333 : 0 ≤ (x5_1 : Int):=of_decide_eq_true (by first|(with_reducible assumption)|assumption)
        have q333 : x5_1 < (l0.length : Int):=of_decide_eq_true (by first|(with_reducible assumption)|assumption)
        obtain ⟨ad333,A333_4,c333_4,e333,hx333_0,hx333_1,hx333_2,hx333_3,hx333_4,hl333_4,hi333_4⟩:=at_T24 HR0.out x5_1 p333 q333
        have hw333_4:=hx333_4
        have hw333_3:=hx333_3
        have hw333_2:=hx333_2
        have hw333_1:=hx333_1
        have hw333_0:=hx333_0
        cases e333
        replace hx333_0:=(HB.out.cell (World.block_lt_of_cell? w _ hx333_0)).trans hx333_0
        replace hx333_1:=(HB.out.cell (World.block_lt_of_cell? w _ hx333_1)).trans hx333_1
        replace hx333_2:=(HB.out.cell (World.block_lt_of_cell? w _ hx333_2)).trans hx333_2
        replace hx333_3:=(HB.out.cell (World.block_lt_of_cell? w _ hx333_3)).trans hx333_3
        replace hx333_4:=(HB.out.cell (World.block_lt_of_cell? w _ hx333_4)).trans hx333_4
        have HR333_4:=Aside0.mk hi333_4
        have HC333_4:=Aside0.mk hl333_4
        clear hi333_4 hl333_4
        replace p333:=eq_true p333
        replace q333:=eq_true q333
        have p334 : 0 ≤ (x5_1 : Int):=of_decide_eq_true (by first|(with_reducible assumption)|assumption)
        have q334 : x5_1 < (l1.length : Int):=of_decide_eq_true (by first|(with_reducible assumption)|assumption)
        obtain ⟨ad334,A334_4,c334_4,e334,hx334_0,hx334_1,hx334_2,hx334_3,hx334_4,hl334_4,hi334_4⟩:=at_T24 HR1.out x5_1 p334 q334
        have hw334_4:=hx334_4
        have hw334_3:=hx334_3
        have hw334_2:=hx334_2
        have hw334_1:=hx334_1
        have hw334_0:=hx334_0
        cases e334
        replace hx334_0:=(HB.out.cell (World.block_lt_of_cell? w _ hx334_0)).trans hx334_0
        replace hx334_1:=(HB.out.cell (World.block_lt_of_cell? w _ hx334_1)).trans hx334_1
        replace hx334_2:=(HB.out.cell (World.block_lt_of_cell? w _ hx334_2)).trans hx334_2
        replace hx334_3:=(HB.out.cell (World.block_lt_of_cell? w _ hx334_3)).trans hx334_3
        replace hx334_4:=(HB.out.cell (World.block_lt_of_cell? w _ hx334_4)).trans hx334_4
        have HR334_4:=Aside0.mk hi334_4
        have HC334_4:=Aside0.mk hl334_4
        clear hi334_4 hl334_4
        replace p334:=eq_true p334
        replace q334:=eq_true q334
        refine start_ (n:=10) (S:=fun w' => w'.cell? (ad333.add ((x5_1).toNat * 5)) = some (.int .i64 ((rd_T24 l0 x5_1).f0)) ∧ w'.cell? ⟨(ad333.add ((x5_1).toNat * 5)).block,(ad333.add ((x5_1).toNat * 5)).off + 1,none⟩ = some (.int .i64 ((rd_T24 l0 x5_1).f1)) ∧ w'.cell? ⟨(ad333.add ((x5_1).toNat * 5)).block,(ad333.add ((x5_1).toNat * 5)).off + 2,none⟩ = some (.string ((rd_T24 l0 x5_1).f2)) ∧ w'.cell? ⟨(ad333.add ((x5_1).toNat * 5)).block,(ad333.add ((x5_1).toNat * 5)).off + 3,none⟩ = some (.int .i64 ((rd_T24 l0 x5_1).f3)) ∧ w'.cell? ⟨(ad333.add ((x5_1).toNat * 5)).block,(ad333.add ((x5_1).toNat * 5)).off + 4,none⟩ = some (.slice A333_4 ((rd_T24 l0 x5_1).f4).length c333_4) ∧ w'.cell? (ad334.add ((x5_1).toNat * 5)) = some (.int .i64 ((rd_T24 l1 x5_1).f0)) ∧ w'.cell? ⟨(ad334.add ((x5_1).toNat * 5)).block,(ad334.add ((x5_1).toNat * 5)).off + 1,none⟩ = some (.int .i64 ((rd_T24 l1 x5_1).f1)) ∧ w'.cell? ⟨(ad334.add ((x5_1).toNat * 5)).block,(ad334.add ((x5_1).toNat * 5)).off + 2,none⟩ = some (.string ((rd_T24 l1 x5_1).f2)) ∧ w'.cell? ⟨(ad334.add ((x5_1).toNat * 5)).block,(ad334.add ((x5_1).toNat * 5)).off + 3,none⟩ = some (.int .i64 ((rd_T24 l1 x5_1).f3)) ∧ w'.cell? ⟨(ad334.add ((x5_1).toNat * 5)).block,(ad334.add ((x5_1).toNat * 5)).off + 4,none⟩ = some (.slice A334_4 ((rd_T24 l1 x5_1).f4).length c334_4)) (ds:=[]) #[false,false,false,false,false,false,false,false,false,false] (by kernel_rfl) rfl rfl ⟨((HB.out.cell (World.block_lt_of_cell? w _ hw333_0)).trans hw333_0),((HB.out.cell (World.block_lt_of_cell? w _ hw333_1)).trans hw333_1),((HB.out.cell (World.block_lt_of_cell? w _ hw333_2)).trans hw333_2),((HB.out.cell (World.block_lt_of_cell? w _ hw333_3)).trans hw333_3),((HB.out.cell (World.block_lt_of_cell? w _ hw333_4)).trans hw333_4),((HB.out.cell (World.block_lt_of_cell? w _ hw334_0)).trans hw334_0),((HB.out.cell (World.block_lt_of_cell? w _ hw334_1)).trans hw334_1),((HB.out.cell (World.block_lt_of_cell? w _ hw334_2)).trans hw334_2),((HB.out.cell (World.block_lt_of_cell? w _ hw334_3)).trans hw334_3),((HB.out.cell (World.block_lt_of_cell? w _ hw334_4)).trans hw334_4)⟩ (fun hHeld => ?_);refine with_tabW windlassref3_All.tab6 windlassref3_All.bits6 (fun HT_ HW_ => ?_)
        generalize wr.drew = w9 at HB HR333_4 HR334_4 hx333_0 hx333_1 hx333_2 hx333_3 hx333_4 hx334_0 hx334_1 hx334_2 hx334_3 hx334_4 hHeld ⊢
        refine pure_ (i:=0) (N:=some 17) (v:=?_) (a':=?_) #[true,false,false,false,false,false,false,false,false,false] rfl rfl (any_of HT_.out (by kernel_rfl)) (fun _ _ _ h => h) (Or.inl ⟨by rfl,?_⟩) ?_ ?_
        rotate_left
        ·intro w'
         go_simp
         with_reducible rfl
        rotate_left
        ·simp only [Act.put,List.setIfInBounds_toArray,List.set_cons_zero,List.set_cons_succ,i64_w,i32_w]
         rfl
        refine pure_ (i:=1) (N:=some 18) (v:=?_) (a':=?_) #[true,true,false,false,false,false,false,false,false,false] rfl rfl (any_of HT_.out (by kernel_rfl)) (fun _ _ _ h => h) (Or.inl ⟨by rfl,?_⟩) ?_ ?_
        rotate_left
        ·intro w'
         go_simp
         with_reducible rfl
        rotate_left
        ·simp only [Act.put,List.setIfInBounds_toArray,List.set_cons_zero,List.set_cons_succ,i64_w,i32_w]
         rfl
        refine pure_ (i:=2) (N:=some 19) (v:=?_) (a':=?_) #[true,true,true,false,false,false,false,false,false,false] rfl rfl (any_of HT_.out (by kernel_rfl)) (fun _ _ _ h => h) (Or.inl ⟨by rfl,?_⟩) ?_ ?_
        rotate_left
        ·intro w'
         go_simp
         with_reducible rfl
        rotate_left
        ·simp only [Act.put,List.setIfInBounds_toArray,List.set_cons_zero,List.set_cons_succ,i64_w,i32_w]
         rfl
        refine pure_ (i:=4) (N:=some 21) (v:=?_) (a':=?_) #[true,true,true,false,true,false,false,false,false,false] rfl rfl (any_of HT_.out (by kernel_rfl)) (fun _ _ _ h => h) (Or.inl ⟨by rfl,?_⟩) ?_ ?_
        rotate_left
        ·intro w'
         go_simp
         with_reducible rfl
        rotate_left
        ·simp only [Act.put,List.setIfInBounds_toArray,List.set_cons_zero,List.set_cons_succ,i64_w,i32_w]
         rfl
        refine pure_ (i:=5) (N:=some 22) (v:=?_) (a':=?_) #[true,true,true,false,true,true,false,false,false,false] rfl rfl (any_of HT_.out (by kernel_rfl)) (fun _ _ _ h => h) (Or.inl ⟨by rfl,?_⟩) ?_ ?_
        rotate_left
        ·intro w'
         go_simp
         with_reducible rfl
        rotate_left
        ·simp only [Act.put,List.setIfInBounds_toArray,List.set_cons_zero,List.set_cons_succ,i64_w,i32_w]
         rfl
        refine pure_ (i:=6) (N:=some 23) (v:=?_) (a':=?_) #[true,true,true,false,true,true,true,false,false,false] rfl rfl (any_of HT_.out (by kernel_rfl)) (fun _ _ _ h => h) (Or.inl ⟨by rfl,?_⟩) ?_ ?_
        rotate_left
        ·intro w'
         go_simp
         with_reducible rfl
        rotate_left
        ·simp only [Act.put,List.setIfInBounds_toArray,List.set_cons_zero,List.set_cons_succ,i64_w,i32_w]
         rfl
        refine take_ (i:=3) (N:=some 20) (v:=?_) (a':=?_) #[true,true,true,true,true,true,true,false,false,false] rfl rfl (take_ofW HT_.out HW_.out (by kernel_rfl)) (fun _ _ _ h => h) (Or.inl ⟨by rfl,?_⟩) hHeld ?_ ?_
        rotate_left
        ·rintro w' ⟨s0,s1,s2,s3,s4,s5,s6,s7,s8,s9⟩
         go_simp
         with_reducible rfl
        rotate_left
        ·simp only [Act.put,List.setIfInBounds_toArray,List.set_cons_zero,List.set_cons_succ,i64_w,i32_w]
         rfl
        refine take_ (i:=7) (N:=some 24) (v:=?_) (a':=?_) #[true,true,true,true,true,true,true,true,false,false] rfl rfl (take_ofW HT_.out HW_.out (by kernel_rfl)) (fun _ _ _ h => h) (Or.inl ⟨by rfl,?_⟩) hHeld ?_ ?_
        rotate_left
        ·rintro w' ⟨s0,s1,s2,s3,s4,s5,s6,s7,s8,s9⟩
         go_simp
         with_reducible rfl
        rotate_left
        ·simp only [Act.put,List.setIfInBounds_toArray,List.set_cons_zero,List.set_cons_succ,i64_w,i32_w]
         rfl
        refine one_ (i:=8) (N:=some 25) #[true,true,true,true,true,true,true,true,true,false] rfl rfl (one_of HT_.out (by kernel_rfl)) (by decide) (fun K hK => ?_)
        refine goes_ Try.func31 (by kernel_rfl) rfl #[.agg #[.int .i64 ((rd_T24 l0 x5_1).f0), .int .i64 ((rd_T24 l0 x5_1).f1), .string ((rd_T24 l0 x5_1).f2), .int .i64 ((rd_T24 l0 x5_1).f3), .slice A333_4 ((rd_T24 l0 x5_1).f4).length c333_4], .agg #[.int .i64 ((rd_T24 l1 x5_1).f0), .int .i64 ((rd_T24 l1 x5_1).f1), .string ((rd_T24 l1 x5_1).f2), .int .i64 ((rd_T24 l1 x5_1).f3), .slice A334_4 ((rd_T24 l1 x5_1).f4).length c334_4]] (by rfl) rfl rfl (by (try simp only [List.map_toArray,List.map_cons,List.map_nil]);first|done|rfl|(simp only [List.length_drop,List.length_take];rfl)|(go_simp;done)|(go_simp;simp;done)) ?_
        with_reducible refine (windlassref3_Same.calls k1 ((rd_T24 l0 x5_1).f0) ((rd_T24 l0 x5_1).f1) ((rd_T24 l0 x5_1).f2) ((rd_T24 l0 x5_1).f3) _ _ ((rd_T24 l0 x5_1).f4) ((rd_T24 l1 x5_1).f0) ((rd_T24 l1 x5_1).f1) ((rd_T24 l1 x5_1).f2) ((rd_T24 l1 x5_1).f3) _ _ ((rd_T24 l1 x5_1).f4) true _ ?side1 ?side2 ?side3 ?side4 A7.out).mono ?_
        (case side1 => repeat (first|exact (Kd.C_below HR333_4.out HB.out)|(with_reducible refine Kd.C_alloc ?_ _)|(with_reducible refine Kd.C_drewN ?_ _)|(with_reducible refine Kd.C_drew ?_)))
        (case side2 => exact HC333_4.out)
        (case side3 => repeat (first|exact (Kd.C_below HR334_4.out HB.out)|(with_reducible refine Kd.C_alloc ?_ _)|(with_reducible refine Kd.C_drewN ?_ _)|(with_reducible refine Kd.C_drew ?_)))
        (case side4 => exact HC334_4.out)
        rintro e w10 ⟨rfl,hb⟩
        refine ⟨_,rfl,?_⟩
        have n0_:=Aside0.mk (below_step (by repeat (first|(with_reducible first|exact HB.out|apply below_alloc|apply pw_below_drewN|apply below_drew1)|exact HB.out)) hb)
        clear HB
        have HB:=n0_
        clear n0_
        (try clear hb)
        (try clear hb2)
        (try clear hk)
        (try clear hi)
        refine hK.out _ _ ⟨((HB.out.cell (World.block_lt_of_cell? w _ hw333_0)).trans hw333_0),((HB.out.cell (World.block_lt_of_cell? w _ hw333_1)).trans hw333_1),((HB.out.cell (World.block_lt_of_cell? w _ hw333_2)).trans hw333_2),((HB.out.cell (World.block_lt_of_cell? w _ hw333_3)).trans hw333_3),((HB.out.cell (World.block_lt_of_cell? w _ hw333_4)).trans hw333_4),((HB.out.cell (World.block_lt_of_cell? w _ hw334_0)).trans hw334_0),((HB.out.cell (World.block_lt_of_cell? w _ hw334_1)).trans hw334_1),((HB.out.cell (World.block_lt_of_cell? w _ hw334_2)).trans hw334_2),((HB.out.cell (World.block_lt_of_cell? w _ hw334_3)).trans hw334_3),((HB.out.cell (World.block_lt_of_cell? w _ hw334_4)).trans hw334_4)⟩ (fun hHeld => ?_)
        clear hK K
        refine norm_ (a':=?_) ?_ ?_
        rotate_left
        ·show Act.put _ (some 25) _ = _
         simp only [Act.put,List.setIfInBounds_toArray,List.set_cons_zero,List.set_cons_succ,i64_w,i32_w]
         rfl
        refine pure_ (i:=9) (N:=some 26) (v:=?_) (a':=?_) #[true,true,true,true,true,true,true,true,true,true] rfl rfl (any_of HT_.out (by kernel_rfl)) (fun _ _ _ h => h) (Or.inl ⟨by rfl,?_⟩) ?_ ?_
        rotate_left
        ·intro w'
         go_simp
         with_reducible rfl
        rotate_left
        ·simp only [Act.put,List.setIfInBounds_toArray,List.set_cons_zero,List.set_cons_succ,i64_w,i32_w]
         rfl
        refine done_ (done_of HT_.out (by kernel_rfl)) ?_
        try go_wp2
        go_roundg k1
        case measure => have:=HK1.out;omega
        case rel => exact ⟨(wrap64 (x5_1 + 1)),(by first|rfl|(simp;done)|(simp [*];done)),H',⟨by have:=HK1.out;omega⟩,⟨by repeat (first|(with_reducible first|exact HB.out|apply below_alloc|apply pw_below_drewN|apply below_drew1)|exact HB.out)⟩⟩
       ·replace c8:=Bool.eq_false_iff.mpr c8
        subst c8
        have H1 : (some false) = some r:=by rw [if_neg (show ¬ (false = true) by decide)] at H;exact H
        clear H
        have H:=H1
        clear H1
        obtain rfl:=Option.some.inj H
        try go_wp2
        have n0_:=Aside0.mk (below_drew1 HB.out)
        clear HB
        have HB:=n0_
        clear n0_
        have p333 : 0 ≤ (x5_1 : Int):=of_decide_eq_true (by first|(with_reducible assumption)|assumption)
        have q333 : x5_1 < (l0.length : Int):=of_decide_eq_true (by first|(with_reducible assumption)|assumption)
        obtain ⟨ad333,A333_4,c333_4,e333,hx333_0,hx333_1,hx333_2,hx333_3,hx333_4,hl333_4,hi333_4⟩:=at_T24 HR0.out x5_1 p333 q333
        have hw333_4:=hx333_4
        have hw333_3:=hx333_3
        have hw333_2:=hx333_2
        have hw333_1:=hx333_1
        have hw333_0:=hx333_0
        cases e333
        replace hx333_0:=(HB.out.cell (World.block_lt_of_cell? w _ hx333_0)).trans hx333_0
        replace hx333_1:=(HB.out.cell (World.block_lt_of_cell? w _ hx333_1)).trans hx333_1
        replace hx333_2:=(HB.out.cell (World.block_lt_of_cell? w _ hx333_2)).trans hx333_2
        replace hx333_3:=(HB.out.cell (World.block_lt_of_cell? w _ hx333_3)).trans hx333_3
        replace hx333_4:=(HB.out.cell (World.block_lt_of_cell? w _ hx333_4)).trans hx333_4
        have HR333_4:=Aside0.mk hi333_4
        have HC333_4:=Aside0.mk hl333_4
        clear hi333_4 hl333_4
        replace p333:=eq_true p333
        replace q333:=eq_true q333
        have p334 : 0 ≤ (x5_1 : Int):=of_decide_eq_true (by first|(with_reducible assumption)|assumption)
        have q334 : x5_1 < (l1.length : Int):=of_decide_eq_true (by first|(with_reducible assumption)|assumption)
        obtain ⟨ad334,A334_4,c334_4,e334,hx334_0,hx334_1,hx334_2,hx334_3,hx334_4,hl334_4,hi334_4⟩:=at_T24 HR1.out x5_1 p334 q334
        have hw334_4:=hx334_4
        have hw334_3:=hx334_3
        have hw334_2:=hx334_2
        have hw334_1:=hx334_1
        have hw334_0:=hx334_0
        cases e334
        replace hx334_0:=(HB.out.cell (World.block_lt_of_cell? w _ hx334_0)).trans hx334_0
        replace hx334_1:=(HB.out.cell (World.block_lt_of_cell? w _ hx334_1)).trans hx334_1
        replace hx334_2:=(HB.out.cell (World.block_lt_of_cell? w _ hx334_2)).trans hx334_2
        replace hx334_3:=(HB.out.cell (World.block_lt_of_cell? w _ hx334_3)).trans hx334_3
        replace hx334_4:=(HB.out.cell (World.block_lt_of_cell? w _ hx334_4)).trans hx334_4
        have HR334_4:=Aside0.mk hi334_4
        have HC334_4:=Aside0.mk hl334_4
        clear hi334_4 hl334_4
        replace p334:=eq_true p334
        replace q334:=eq_true q334
        refine start_ (n:=10) (S:=fun w' => w'.cell? (ad333.add ((x5_1).toNat * 5)) = some (.int .i64 ((rd_T24 l0 x5_1).f0)) ∧ w'.cell? ⟨(ad333.add ((x5_1).toNat * 5)).block,(ad333.add ((x5_1).toNat * 5)).off + 1,none⟩ = some (.int .i64 ((rd_T24 l0 x5_1).f1)) ∧ w'.cell? ⟨(ad333.add ((x5_1).toNat * 5)).block,(ad333.add ((x5_1).toNat * 5)).off + 2,none⟩ = some (.string ((rd_T24 l0 x5_1).f2)) ∧ w'.cell? ⟨(ad333.add ((x5_1).toNat * 5)).block,(ad333.add ((x5_1).toNat * 5)).off + 3,none⟩ = some (.int .i64 ((rd_T24 l0 x5_1).f3)) ∧ w'.cell? ⟨(ad333.add ((x5_1).toNat * 5)).block,(ad333.add ((x5_1).toNat * 5)).off + 4,none⟩ = some (.slice A333_4 ((rd_T24 l0 x5_1).f4).length c333_4) ∧ w'.cell? (ad334.add ((x5_1).toNat * 5)) = some (.int .i64 ((rd_T24 l1 x5_1).f0)) ∧ w'.cell? ⟨(ad334.add ((x5_1).toNat * 5)).block,(ad334.add ((x5_1).toNat * 5)).off + 1,none⟩ = some (.int .i64 ((rd_T24 l1 x5_1).f1)) ∧ w'.cell? ⟨(ad334.add ((x5_1).toNat * 5)).block,(ad334.add ((x5_1).toNat * 5)).off + 2,none⟩ = some (.string ((rd_T24 l1 x5_1).f2)) ∧ w'.cell? ⟨(ad334.add ((x5_1).toNat * 5)).block,(ad334.add ((x5_1).toNat * 5)).off + 3,none⟩ = some (.int .i64 ((rd_T24 l1 x5_1).f3)) ∧ w'.cell? ⟨(ad334.add ((x5_1).toNat * 5)).block,(ad334.add ((x5_1).toNat * 5)).off + 4,none⟩ = some (.slice A334_4 ((rd_T24 l1 x5_1).f4).length c334_4)) (ds:=[]) #[false,false,false,false,false,false,false,false,false,false] (by kernel_rfl) rfl rfl ⟨((HB.out.cell (World.block_lt_of_cell? w _ hw333_0)).trans hw333_0),((HB.out.cell (World.block_lt_of_cell? w _ hw333_1)).trans hw333_1),((HB.out.cell (World.block_lt_of_cell? w _ hw333_2)).trans hw333_2),((HB.out.cell (World.block_lt_of_cell? w _ hw333_3)).trans hw333_3),((HB.out.cell (World.block_lt_of_cell? w _ hw333_4)).trans hw333_4),((HB.out.cell (World.block_lt_of_cell? w _ hw334_0)).trans hw334_0),((HB.out.cell (World.block_lt_of_cell? w _ hw334_1)).trans hw334_1),((HB.out.cell (World.block_lt_of_cell? w _ hw334_2)).trans hw334_2),((HB.out.cell (World.block_lt_of_cell? w _ hw334_3)).trans hw334_3),((HB.out.cell (World.block_lt_of_cell? w _ hw334_4)).trans hw334_4)⟩ (fun hHeld => ?_);refine with_tabW windlassref3_All.tab6 windlassref3_All.bits6 (fun HT_ HW_ => ?_)
        generalize wr.drew = w11 at HB HR333_4 HR334_4 hx333_0 hx333_1 hx333_2 hx333_3 hx333_4 hx334_0 hx334_1 hx334_2 hx334_3 hx334_4 hHeld ⊢
        refine pure_ (i:=0) (N:=some 17) (v:=?_) (a':=?_) #[true,false,false,false,false,false,false,false,false,false] rfl rfl (any_of HT_.out (by kernel_rfl)) (fun _ _ _ h => h) (Or.inl ⟨by rfl,?_⟩) ?_ ?_
        rotate_left
        ·intro w'
         go_simp
         with_reducible rfl
        rotate_left
        ·simp only [Act.put,List.setIfInBounds_toArray,List.set_cons_zero,List.set_cons_succ,i64_w,i32_w]
         rfl
        refine pure_ (i:=1) (N:=some 18) (v:=?_) (a':=?_) #[true,true,false,false,false,false,false,false,false,false] rfl rfl (any_of HT_.out (by kernel_rfl)) (fun _ _ _ h => h) (Or.inl ⟨by rfl,?_⟩) ?_ ?_
        rotate_left
        ·intro w'
         go_simp
         with_reducible rfl
        rotate_left
        ·simp only [Act.put,List.setIfInBounds_toArray,List.set_cons_zero,List.set_cons_succ,i64_w,i32_w]
         rfl
        refine pure_ (i:=2) (N:=some 19) (v:=?_) (a':=?_) #[true,true,true,false,false,false,false,false,false,false] rfl rfl (any_of HT_.out (by kernel_rfl)) (fun _ _ _ h => h) (Or.inl ⟨by rfl,?_⟩) ?_ ?_
        rotate_left
        ·intro w'
         go_simp
         with_reducible rfl
        rotate_left
        ·simp only [Act.put,List.setIfInBounds_toArray,List.set_cons_zero,List.set_cons_succ,i64_w,i32_w]
         rfl
        refine pure_ (i:=4) (N:=some 21) (v:=?_) (a':=?_) #[true,true,true,false,true,false,false,false,false,false] rfl rfl (any_of HT_.out (by kernel_rfl)) (fun _ _ _ h => h) (Or.inl ⟨by rfl,?_⟩) ?_ ?_
        rotate_left
        ·intro w'
         go_simp
         with_reducible rfl
        rotate_left
        ·simp only [Act.put,List.setIfInBounds_toArray,List.set_cons_zero,List.set_cons_succ,i64_w,i32_w]
         rfl
        refine pure_ (i:=5) (N:=some 22) (v:=?_) (a':=?_) #[true,true,true,false,true,true,false,false,false,false] rfl rfl (any_of HT_.out (by kernel_rfl)) (fun _ _ _ h => h) (Or.inl ⟨by rfl,?_⟩) ?_ ?_
        rotate_left
        ·intro w'
         go_simp
         with_reducible rfl
        rotate_left
        ·simp only [Act.put,List.setIfInBounds_toArray,List.set_cons_zero,List.set_cons_succ,i64_w,i32_w]
         rfl
        refine pure_ (i:=6) (N:=some 23) (v:=?_) (a':=?_) #[true,true,true,false,true,true,true,false,false,false] rfl rfl (any_of HT_.out (by kernel_rfl)) (fun _ _ _ h => h) (Or.inl ⟨by rfl,?_⟩) ?_ ?_
        rotate_left
        ·intro w'
         go_simp
         with_reducible rfl
        rotate_left
        ·simp only [Act.put,List.setIfInBounds_toArray,List.set_cons_zero,List.set_cons_succ,i64_w,i32_w]
         rfl
        refine take_ (i:=3) (N:=some 20) (v:=?_) (a':=?_) #[true,true,true,true,true,true,true,false,false,false] rfl rfl (take_ofW HT_.out HW_.out (by kernel_rfl)) (fun _ _ _ h => h) (Or.inl ⟨by rfl,?_⟩) hHeld ?_ ?_
        rotate_left
        ·rintro w' ⟨s0,s1,s2,s3,s4,s5,s6,s7,s8,s9⟩
         go_simp
         with_reducible rfl
        rotate_left
        ·simp only [Act.put,List.setIfInBounds_toArray,List.set_cons_zero,List.set_cons_succ,i64_w,i32_w]
         rfl
        refine take_ (i:=7) (N:=some 24) (v:=?_) (a':=?_) #[true,true,true,true,true,true,true,true,false,false] rfl rfl (take_ofW HT_.out HW_.out (by kernel_rfl)) (fun _ _ _ h => h) (Or.inl ⟨by rfl,?_⟩) hHeld ?_ ?_
        rotate_left
        ·rintro w' ⟨s0,s1,s2,s3,s4,s5,s6,s7,s8,s9⟩
         go_simp
         with_reducible rfl
        rotate_left
        ·simp only [Act.put,List.setIfInBounds_toArray,List.set_cons_zero,List.set_cons_succ,i64_w,i32_w]
         rfl
        refine one_ (i:=8) (N:=some 25) #[true,true,true,true,true,true,true,true,true,false] rfl rfl (one_of HT_.out (by kernel_rfl)) (by decide) (fun K hK => ?_)
        refine goes_ Try.func31 (by kernel_rfl) rfl #[.agg #[.int .i64 ((rd_T24 l0 x5_1).f0), .int .i64 ((rd_T24 l0 x5_1).f1), .string ((rd_T24 l0 x5_1).f2), .int .i64 ((rd_T24 l0 x5_1).f3), .slice A333_4 ((rd_T24 l0 x5_1).f4).length c333_4], .agg #[.int .i64 ((rd_T24 l1 x5_1).f0), .int .i64 ((rd_T24 l1 x5_1).f1), .string ((rd_T24 l1 x5_1).f2), .int .i64 ((rd_T24 l1 x5_1).f3), .slice A334_4 ((rd_T24 l1 x5_1).f4).length c334_4]] (by rfl) rfl rfl (by (try simp only [List.map_toArray,List.map_cons,List.map_nil]);first|done|rfl|(simp only [List.length_drop,List.length_take];rfl)|(go_simp;done)|(go_simp;simp;done)) ?_
        with_reducible refine (windlassref3_Same.calls k1 ((rd_T24 l0 x5_1).f0) ((rd_T24 l0 x5_1).f1) ((rd_T24 l0 x5_1).f2) ((rd_T24 l0 x5_1).f3) _ _ ((rd_T24 l0 x5_1).f4) ((rd_T24 l1 x5_1).f0) ((rd_T24 l1 x5_1).f1) ((rd_T24 l1 x5_1).f2) ((rd_T24 l1 x5_1).f3) _ _ ((rd_T24 l1 x5_1).f4) false _ ?side1 ?side2 ?side3 ?side4 A7.out).mono ?_
        (case side1 => repeat (first|exact (Kd.C_below HR333_4.out HB.out)|(with_reducible refine Kd.C_alloc ?_ _)|(with_reducible refine Kd.C_drewN ?_ _)|(with_reducible refine Kd.C_drew ?_)))
        (case side2 => exact HC333_4.out)
        (case side3 => repeat (first|exact (Kd.C_below HR334_4.out HB.out)|(with_reducible refine Kd.C_alloc ?_ _)|(with_reducible refine Kd.C_drewN ?_ _)|(with_reducible refine Kd.C_drew ?_)))
        (case side4 => exact HC334_4.out)
        rintro e w12 ⟨rfl,hb⟩
        refine ⟨_,rfl,?_⟩
        have n0_:=Aside0.mk (below_step (by repeat (first|(with_reducible first|exact HB.out|apply below_alloc|apply pw_below_drewN|apply below_drew1)|exact HB.out)) hb)
        clear HB
        have HB:=n0_
        clear n0_
        (try clear hb)
        (try clear hb2)
        (try clear hk)
        (try clear hi)
        refine hK.out _ _ ⟨((HB.out.cell (World.block_lt_of_cell? w _ hw333_0)).trans hw333_0),((HB.out.cell (World.block_lt_of_cell? w _ hw333_1)).trans hw333_1),((HB.out.cell (World.block_lt_of_cell? w _ hw333_2)).trans hw333_2),((HB.out.cell (World.block_lt_of_cell? w _ hw333_3)).trans hw333_3),((HB.out.cell (World.block_lt_of_cell? w _ hw333_4)).trans hw333_4),((HB.out.cell (World.block_lt_of_cell? w _ hw334_0)).trans hw334_0),((HB.out.cell (World.block_lt_of_cell? w _ hw334_1)).trans hw334_1),((HB.out.cell (World.block_lt_of_cell? w _ hw334_2)).trans hw334_2),((HB.out.cell (World.block_lt_of_cell? w _ hw334_3)).trans hw334_3),((HB.out.cell (World.block_lt_of_cell? w _ hw334_4)).trans hw334_4)⟩ (fun hHeld => ?_)
        clear hK K
        refine norm_ (a':=?_) ?_ ?_
        rotate_left
        ·show Act.put _ (some 25) _ = _
         simp only [Act.put,List.setIfInBounds_toArray,List.set_cons_zero,List.set_cons_succ,i64_w,i32_w]
         rfl
        refine pure_ (i:=9) (N:=some 26) (v:=?_) (a':=?_) #[true,true,true,true,true,true,true,true,true,true] rfl rfl (any_of HT_.out (by kernel_rfl)) (fun _ _ _ h => h) (Or.inl ⟨by rfl,?_⟩) ?_ ?_
        rotate_left
        ·intro w'
         go_simp
         with_reducible rfl
        rotate_left
        ·simp only [Act.put,List.setIfInBounds_toArray,List.set_cons_zero,List.set_cons_succ,i64_w,i32_w]
         rfl
        refine done_ (done_of HT_.out (by kernel_rfl)) ?_
        try go_wp2
        go_ret
        exact ⟨by first|rfl|(simp [errW_none,errW_some] <;> rfl)|(simp [*,errW_none,errW_some] <;> rfl),by repeat (first|(with_reducible first|exact HB.out|apply below_alloc|apply pw_below_drewN|apply below_drew1)|exact HB.out)⟩
      ·rw [if_neg c6] at H
       exact absurd H (by simp)
     ·rw [if_neg c5] at H
      exact absurd H (by simp)
    ·rw [if_neg c4] at H
     have c4b0 : decide (x5_1 < (l0.length : Int)) = false:=decide_eq_false c4
     clear c4
     obtain rfl:=Option.some.inj H
     go_wp2
     go_ret
     exact ⟨by first|rfl|(simp [errW_none,errW_some] <;> rfl)|(simp [*,errW_none,errW_some] <;> rfl),by repeat (first|(with_reducible first|exact HB.out|apply below_alloc|apply pw_below_drewN|apply below_drew1)|exact HB.out)⟩
 ·rw [if_neg c3] at H
  have c3b0 : ((l0.length : Int) == (l1.length : Int)) = false:=beq_eq_false_iff_ne.mpr c3
  have c3b1 : ((l0.length : Int) != (l1.length : Int)) = true:=bne_iff_ne.mpr c3
  have c3b2 : (l0.length == l1.length) = false:=by first|simpa using c3|(simp at c3 ⊢;omega)
  obtain rfl:=Option.some.inj H
  go_enter Try.func34,Try.ntmps34
  go_wp2
  go_ret
  exact ⟨by first|rfl|(simp [errW_none,errW_some] <;> rfl)|(simp [*,errW_none,errW_some] <;> rfl),by repeat (first|(with_reducible first|exact HB.out|apply below_alloc|apply pw_below_drewN|apply below_drew1)|exact HB.out)⟩

end Go.Proofs.Ythbnblmnamckmaa.PAll
