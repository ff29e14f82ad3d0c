-- Laid by a program of this seat (wip/merge.py): PAllx6, PAllx7, PAllx8, PAllx9, PAllx15, HPl2, HWk.
import Derived.Test.YtnokieaebnmljaaMHeapPlays0
import Derived.Test.YtnokieaebnmljaaMHeapPlays1
import Derived.Test.YtnokieaebnmljaaMHeapPlays3
-- Laid by a program of this seat (wip/xprint.py over the kit's print).
namespace Go.Proofs.Ytnokieaebnmljaa.PAll
open Go.RowKit Go.Proofs.YtnokieaebnmljaaW.PrintWords Go.Proofs.YtnokieaebnmljaaW.PrintLast Go.Proofs.YtnokieaebnmljaaW.PrintMore
attribute [local go_sem] max2_int min2_int max_two min_two max_three min_three max_four min_four   -- for this text's walks alone
set_option linter.unusedVariables false
set_option linter.unusedSimpArgs false

/-! ### windlasshelp_Small: function 41 -/
mutual
def windlasshelp_Small.j0 : Nat → Bool → Int → Int → ByteArray → Int → List (S35) → Option (Bool)
 | 0,_,_,_,_,_,_ => none
 | k + 1,x14,x191000,x191001,x191002,x191003,x191004 => if x14 = true then (some false) else (windlasshelp_Small.l0 k 0 x191000 x191001 x191002 x191003 x191004)
def windlasshelp_Small.l0 : Nat → Int → Int → Int → ByteArray → Int → List (S35) → Option (Bool)
 | 0,_,_,_,_,_,_ => none
 | k + 1,x3,x191000,x191001,x191002,x191003,x191004 => if x3 < (x191004.length : Int) then (if 0 ≤ x3 then (if (((rd_T35 x191004 x3).f2).size : Int) > 300 then (windlasshelp_Small.j2 k x3 true x191000 x191001 x191002 x191003 x191004) else (windlasshelp_Small.j2 k x3 (decide ((((rd_T35 x191004 x3).f4).length : Int) > 3)) x191000 x191001 x191002 x191003 x191004)) else (none)) else (some true)
def windlasshelp_Small.j2 : Nat → Int → Bool → Int → Int → ByteArray → Int → List (S35) → Option (Bool)
 | 0,_,_,_,_,_,_,_ => none
 | k + 1,x3,x39,x191000,x191001,x191002,x191003,x191004 => if x39 = true then (some false) else (windlasshelp_Small.l1 k x3 0 x191000 x191001 x191002 x191003 x191004)
def windlasshelp_Small.l1 : Nat → Int → Int → Int → Int → ByteArray → Int → List (S35) → Option (Bool)
 | 0,_,_,_,_,_,_,_ => none
 | k + 1,x3,x4,x191000,x191001,x191002,x191003,x191004 => if 0 ≤ x3 then (if x3 < (x191004.length : Int) then (if x4 < (((rd_T35 x191004 x3).f4).length : Int) then (if 0 ≤ x4 then (if (((rd_T35 ((rd_T35 x191004 x3).f4) x4).f4).length : Int) > 0 then (some false) else (if (((rd_T35 ((rd_T35 x191004 x3).f4) x4).f2).size : Int) > 300 then (some false) else (windlasshelp_Small.l1 k x3 (wrap64 (x4 + 1)) x191000 x191001 x191002 x191003 x191004))) else (none)) else (windlasshelp_Small.l0 k (wrap64 (x3 + 1)) x191000 x191001 x191002 x191003 x191004)) else (none)) else (none)
end
def windlasshelp_Small.f (k : Nat) (a0_0 : Int) (a0_1 : Int) (a0_2 : ByteArray) (a0_3 : Int) (l0_4 : List (S35)) : Option (Bool):=if (a0_2.size : Int) > 300 then (windlasshelp_Small.j0 k true a0_0 a0_1 a0_2 a0_3 l0_4) else (windlasshelp_Small.j0 k (decide ((l0_4.length : Int) > 20)) a0_0 a0_1 a0_2 a0_3 l0_4)
set_option maxHeartbeats 8000000 in
set_option maxRecDepth 100000 in
theorem windlasshelp_Small.calls (k : Nat) (a0_0 : Int) (a0_1 : Int) (a0_2 : ByteArray) (a0_3 : Int) (A0_4 : Option Addr) (c0_4 : Nat) (l0_4 : List (S35)) (r : Bool) (w : World) (hr0_4 : Kd.C k35 w A0_4 l0_4.length l0_4) (hc0_4 : l0_4.length ≤ c0_4) (h : windlasshelp_Small.f k a0_0 a0_1 a0_2 a0_3 l0_4 = some r) :
  Calls Try.prog 41 #[.agg #[.int .i64 a0_0, .int .i64 a0_1, .string a0_2, .int .i64 a0_3, .slice A0_4 l0_4.length c0_4]] w fun e w' => e = .returned (.bool r) ∧ Below w.heap.size w w':=by
 have hu35:=Try.underlying35
 have HR0_4:=Aside0.mk hr0_4
 have HC0_4:=Aside0.mk hc0_4
 clear hr0_4 hc0_4
 have HB:=Aside0.mk (Below.refl w.heap.size w)
 have H : (if (a0_2.size : Int) > 300 then (windlasshelp_Small.j0 k true a0_0 a0_1 a0_2 a0_3 l0_4) else (windlasshelp_Small.j0 k (decide ((l0_4.length : Int) > 20)) a0_0 a0_1 a0_2 a0_3 l0_4)) = some r:=h
 clear h
 have HC2:=Aside0.mk H
 clear H
 go_enter Try.func41,Try.ntmps41
 go_upto_region 1 with (first|((with_reducible refine gate_dst (N:=1) rfl ?_);(try (refine gate_guard (by rfl) ?_;dsimp only));refine box_event ?hg (N:=1) ?hd (cs:=#[.int .i64 a0_0, .int .i64 a0_1, .string a0_2, .int .i64 a0_3, .slice A0_4 l0_4.length c0_4]) (t:=35) ?hr ?_;(case hd => rfl);(case hg => rfl);(case hr => first|(go_simp;done)|(go_simp;rfl));intro gb190 hg w3 hbox hb;have BK190:=Aside0.mk (hbox);have GW190:=Aside0.mk ((by rw [hg];exact (below_size (bL0 HB)) : w.heap.size ≤ gb190));have GE190:=Aside0.mk ((by rw [hg];exact (below_size (bL0 HB)) : w.heap.size ≤ gb190));replace HB:=bS HB hb;clear hb hbox hg))
 (try go_frame)
 go_cut [14] (fun v14 wc => ∃ (kq : Nat) (x14_1 : Bool),v14 = .bool x14_1 ∧ Aside0 (windlasshelp_Small.j0 kq x14_1 a0_0 a0_1 a0_2 a0_3 l0_4 = some r) ∧ Aside0 (kq ≤ k) ∧ Aside0 (wc.heap[gb190]? = some (.cells #[.int .i64 a0_0, .int .i64 a0_1, .string a0_2, .int .i64 a0_3,(.slice A0_4 l0_4.length c0_4)] 35 (0,0))) ∧ Aside0 (Below w.heap.size w wc))
 case first =>
  have H:=HC2.out
  clear HC2
  by_cases c4 : (a0_2.size : Int) > 300
  ·rw [if_pos c4] at H
   have c4b0 : decide (300 < (a0_2.size : Int)) = true:=decide_eq_true c4
   have c4b1 : decide (300 < a0_2.size) = true:=decide_eq_true (by omega)
   clear c4
   (first|rw [c4b0]|(simp only [i64_w,i32_w];rw [c4b0])|skip)
   have H':=Aside0.mk H
   clear H
   have hcz5_0 : w3.cell? ⟨gb190,0,none⟩ = some (.int .i64 a0_0):=(blk_cell BK190.out 0).trans rfl
   have hcz5_1 : w3.cell? ⟨gb190,1,none⟩ = some (.int .i64 a0_1):=(blk_cell BK190.out 1).trans rfl
   have hcz5_2 : w3.cell? ⟨gb190,2,none⟩ = some (.string a0_2):=(blk_cell BK190.out 2).trans rfl
   have hcz5_3 : w3.cell? ⟨gb190,3,none⟩ = some (.int .i64 a0_3):=(blk_cell BK190.out 3).trans rfl
   have hcz5_4 : w3.cell? ⟨gb190,4,none⟩ = some (.slice A0_4 l0_4.length c0_4):=(blk_cell BK190.out 4).trans rfl
   have hfz5_0:=blk_frozen BK190.out 0
   have hfz5_1:=blk_frozen BK190.out 1
   have hfz5_2:=blk_frozen BK190.out 2
   have hfz5_3:=blk_frozen BK190.out 3
   have hfz5_4:=blk_frozen BK190.out 4
   go_wp2
   go_meet
   case rel => exact ⟨_,(true),(by first|rfl|(simp;done)|(simp [*];done)),H',⟨by first|omega|exact Nat.le_refl _⟩,⟨by (with_reducible repeat (first|refine blk_drewN ?_ _|refine blk_drew ?_|refine blk_alloc ?_ _));exact BK190.out⟩,⟨by repeat (first|(with_reducible first|exact HB.out|apply below_alloc|apply pw_below_drewN|apply below_drew1|refine below_set ?_ GE190.out)|exact HB.out)⟩⟩
  rw [if_neg c4] at H
  have c4b0 : decide (300 < (a0_2.size : Int)) = false:=decide_eq_false c4
  have c4b1 : decide (300 < a0_2.size) = false:=decide_eq_false (by omega)
  clear c4
  (first|rw [c4b0]|(simp only [i64_w,i32_w];rw [c4b0])|skip)
  have H':=Aside0.mk H
  clear H
  have hcz6_0 : w3.cell? ⟨gb190,0,none⟩ = some (.int .i64 a0_0):=(blk_cell BK190.out 0).trans rfl
  have hcz6_1 : w3.cell? ⟨gb190,1,none⟩ = some (.int .i64 a0_1):=(blk_cell BK190.out 1).trans rfl
  have hcz6_2 : w3.cell? ⟨gb190,2,none⟩ = some (.string a0_2):=(blk_cell BK190.out 2).trans rfl
  have hcz6_3 : w3.cell? ⟨gb190,3,none⟩ = some (.int .i64 a0_3):=(blk_cell BK190.out 3).trans rfl
  have hcz6_4 : w3.cell? ⟨gb190,4,none⟩ = some (.slice A0_4 l0_4.length c0_4):=(blk_cell BK190.out 4).trans rfl
  have hfz6_0:=blk_frozen BK190.out 0
  have hfz6_1:=blk_frozen BK190.out 1
  have hfz6_2:=blk_frozen BK190.out 2
  have hfz6_3:=blk_frozen BK190.out 3
  have hfz6_4:=blk_frozen BK190.out 4
  go_wp2
  go_meet
  case rel => exact ⟨_,(decide ((l0_4.length : Int) > 20)),(by first|rfl|(simp;done)|(simp [*];done)),H',⟨by first|omega|exact Nat.le_refl _⟩,⟨by (with_reducible repeat (first|refine blk_drewN ?_ _|refine blk_drew ?_|refine blk_alloc ?_ _));exact BK190.out⟩,⟨by repeat (first|(with_reducible first|exact HB.out|apply below_alloc|apply pw_below_drewN|apply below_drew1|refine below_set ?_ GE190.out)|exact HB.out)⟩⟩
 case rest =>
  clear HC2
  try clear p2
  try clear c4
  try clear c4b0
  try clear c4b1
  try clear hcz5_0
  try clear hcz5_1
  try clear hcz5_2
  try clear hcz5_3
  try clear hcz5_4
  try clear hcz6_0
  try clear hcz6_1
  try clear hcz6_2
  try clear hcz6_3
  try clear hcz6_4
  try clear hfz5_0
  try clear hfz5_1
  try clear hfz5_2
  try clear hfz5_3
  try clear hfz5_4
  try clear hfz6_0
  try clear hfz6_1
  try clear hfz6_2
  try clear hfz6_3
  try clear hfz6_4
  obtain ⟨kq,x14_1,rfl,HA,HJ1,BK190,HB⟩:=hcut
  cases kq with
  | zero => exact absurd HA.out (by simp [windlasshelp_Small.j0])
  | succ kj1 =>
   have H:=HA.out
   clear HA
   simp only [windlasshelp_Small.j0] at H
   by_cases c7 : x14_1 = true
   ·subst c7
    have H1 : (some false) = some r:=by rw [if_pos rfl] at H;exact H
    clear H
    have H:=H1
    clear H1
    obtain rfl:=Option.some.inj H
    go_wp2
    go_ret
    exact ⟨by first|rfl|(simp [errW_none,errW_some] <;> rfl)|(simp [*,errW_none,errW_some] <;> rfl),by repeat (first|(with_reducible first|exact HB.out|apply below_alloc|apply pw_below_drewN|apply below_drew1|refine below_set ?_ GE190.out)|exact HB.out)⟩
   replace c7:=Bool.eq_false_iff.mpr c7
   subst c7
   have H1 : (windlasshelp_Small.l0 kj1 0 a0_0 a0_1 a0_2 a0_3 l0_4) = some r:=by rw [if_neg (show ¬ (false = true) by decide)] at H;exact H
   clear H
   have H:=H1
   clear H1
   have H':=Aside0.mk H
   clear H
   go_wp2
   go_loopg [3] kj1 (fun kq v3 w' => ∃ (x3_2 : Int),v3 = .int .i64 x3_2 ∧ Aside0 (windlasshelp_Small.l0 kq x3_2 a0_0 a0_1 a0_2 a0_3 l0_4 = some r) ∧ Aside0 (kq ≤ kj1) ∧ Aside0 (w'.heap[gb190]? = some (.cells #[.int .i64 a0_0, .int .i64 a0_1, .string a0_2, .int .i64 a0_3,(.slice A0_4 l0_4.length c0_4)] 35 (0,0))) ∧ Aside0 (Below w.heap.size w w'))
   case atStart => exact ⟨(0),(by first|rfl|(simp;done)|(simp [*];done)),H',⟨Nat.le_refl _⟩,⟨by (with_reducible repeat (first|refine blk_drewN ?_ _|refine blk_drew ?_|refine blk_alloc ?_ _));exact BK190.out⟩,⟨by repeat (first|(with_reducible first|exact HB.out|apply below_alloc|apply pw_below_drewN|apply below_drew1|refine below_set ?_ GE190.out)|exact HB.out)⟩⟩
   case round =>
    clear H'
    try clear p2
    try clear c4
    try clear c4b0
    try clear c4b1
    try clear c7
    try clear hcz5_0
    try clear hcz5_1
    try clear hcz5_2
    try clear hcz5_3
    try clear hcz5_4
    try clear hcz6_0
    try clear hcz6_1
    try clear hcz6_2
    try clear hcz6_3
    try clear hcz6_4
    try clear hfz5_0
    try clear hfz5_1
    try clear hfz5_2
    try clear hfz5_3
    try clear hfz5_4
    try clear hfz6_0
    try clear hfz6_1
    try clear hfz6_2
    try clear hfz6_3
    try clear hfz6_4
    try clear p2
    obtain ⟨x3_2,rfl,HA,HK2,BK190,HB⟩:=hrel
    cases gk with
    | zero => exact absurd HA.out (by simp [windlasshelp_Small.l0])
    | succ k2 =>
     have H:=HA.out
     clear HA
     simp only [windlasshelp_Small.l0] at H
     by_cases c8 : x3_2 < (l0_4.length : Int)
     ·rw [if_pos c8] at H
      have c8b0 : decide (x3_2 < (l0_4.length : Int)) = true:=decide_eq_true c8
      clear c8
      have HC9:=Aside0.mk H
      clear H
      have hcz10_0 : wr.cell? ⟨gb190,0,none⟩ = some (.int .i64 a0_0):=(blk_cell BK190.out 0).trans rfl
      have hcz10_1 : wr.cell? ⟨gb190,1,none⟩ = some (.int .i64 a0_1):=(blk_cell BK190.out 1).trans rfl
      have hcz10_2 : wr.cell? ⟨gb190,2,none⟩ = some (.string a0_2):=(blk_cell BK190.out 2).trans rfl
      have hcz10_3 : wr.cell? ⟨gb190,3,none⟩ = some (.int .i64 a0_3):=(blk_cell BK190.out 3).trans rfl
      have hcz10_4 : wr.cell? ⟨gb190,4,none⟩ = some (.slice A0_4 l0_4.length c0_4):=(blk_cell BK190.out 4).trans rfl
      have hfz10_0:=blk_frozen BK190.out 0
      have hfz10_1:=blk_frozen BK190.out 1
      have hfz10_2:=blk_frozen BK190.out 2
      have hfz10_3:=blk_frozen BK190.out 3
      have hfz10_4:=blk_frozen BK190.out 4
      go_upto_region 6 with (fail)
      go_cut [39] (fun v39 wc => ∃ (kq : Nat) (x39_8 : Bool),v39 = .bool x39_8 ∧ Aside0 (windlasshelp_Small.j2 kq x3_2 x39_8 a0_0 a0_1 a0_2 a0_3 l0_4 = some r) ∧ Aside0 (kq ≤ k2) ∧ Aside0 (wc.heap[gb190]? = some (.cells #[.int .i64 a0_0, .int .i64 a0_1, .string a0_2, .int .i64 a0_3,(.slice A0_4 l0_4.length c0_4)] 35 (0,0))) ∧ Aside0 (Below w.heap.size w wc))
      case first =>
       have H:=HC9.out
       clear HC9
       by_cases c11 : 0 ≤ x3_2
       ·rw [if_pos c11] at H
        have c11b0 : decide (0 ≤ x3_2) = true:=decide_eq_true c11
        clear c11
        (first|rw [c11b0]|(simp only [i64_w,i32_w];rw [c11b0])|skip)
        by_cases c12 : (((rd_T35 l0_4 x3_2).f2).size : Int) > 300
        ·rw [if_pos c12] at H
         have c12b0 : decide (300 < (((rd_T35 l0_4 x3_2).f2).size : Int)) = true:=decide_eq_true c12
         have c12b1 : decide (300 < ((rd_T35 l0_4 x3_2).f2).size) = true:=decide_eq_true (by omega)
         clear c12
         have H':=Aside0.mk H
         clear H
         have hcz13_0 : wr.cell? ⟨gb190,0,none⟩ = some (.int .i64 a0_0):=(blk_cell BK190.out 0).trans rfl
         have hcz13_1 : wr.cell? ⟨gb190,1,none⟩ = some (.int .i64 a0_1):=(blk_cell BK190.out 1).trans rfl
         have hcz13_2 : wr.cell? ⟨gb190,2,none⟩ = some (.string a0_2):=(blk_cell BK190.out 2).trans rfl
         have hcz13_3 : wr.cell? ⟨gb190,3,none⟩ = some (.int .i64 a0_3):=(blk_cell BK190.out 3).trans rfl
         have hcz13_4 : wr.cell? ⟨gb190,4,none⟩ = some (.slice A0_4 l0_4.length c0_4):=(blk_cell BK190.out 4).trans rfl
         have hfz13_0:=blk_frozen BK190.out 0
         have hfz13_1:=blk_frozen BK190.out 1
         have hfz13_2:=blk_frozen BK190.out 2
         have hfz13_3:=blk_frozen BK190.out 3
         have hfz13_4:=blk_frozen BK190.out 4
         have p191 : 0 ≤ (x3_2 : Int):=of_decide_eq_true aX
         have q191 : x3_2 < (l0_4.length : Int):=of_decide_eq_true aX
         obtain ⟨ad191,A191_4,c191_4,e191,hx191_0,hx191_1,hx191_2,hx191_3,hx191_4,hl191_4,hi191_4⟩:=at_T35 HR0_4.out x3_2 p191 q191
         cases e191
         replace hx191_0:=cB HB hx191_0
         replace hx191_1:=cB HB hx191_1
         replace hx191_2:=cB HB hx191_2
         replace hx191_3:=cB HB hx191_3
         replace hx191_4:=cB HB hx191_4
         have HR191_4:=Aside0.mk hi191_4
         have HC191_4:=Aside0.mk hl191_4
         clear hi191_4 hl191_4
         replace p191:=eq_true p191
         replace q191:=eq_true q191
         go_wp2
         go_meet
         case rel => exact ⟨_,(true),(by first|rfl|(simp;done)|(simp [*];done)),H',⟨by have:=HJ1.out;have:=HK2.out;first|omega|exact Nat.le_refl _⟩,⟨by (with_reducible repeat (first|refine blk_drewN ?_ _|refine blk_drew ?_|refine blk_alloc ?_ _));exact BK190.out⟩,⟨by repeat (first|(with_reducible first|exact HB.out|apply below_alloc|apply pw_below_drewN|apply below_drew1|refine below_set ?_ GE190.out)|exact HB.out)⟩⟩
        rw [if_neg c12] at H
        have c12b0 : decide (300 < (((rd_T35 l0_4 x3_2).f2).size : Int)) = false:=decide_eq_false c12
        have c12b1 : decide (300 < ((rd_T35 l0_4 x3_2).f2).size) = false:=decide_eq_false (by omega)
        clear c12
        have H':=Aside0.mk H
        clear H
        have hcz14_0 : wr.cell? ⟨gb190,0,none⟩ = some (.int .i64 a0_0):=(blk_cell BK190.out 0).trans rfl
        have hcz14_1 : wr.cell? ⟨gb190,1,none⟩ = some (.int .i64 a0_1):=(blk_cell BK190.out 1).trans rfl
        have hcz14_2 : wr.cell? ⟨gb190,2,none⟩ = some (.string a0_2):=(blk_cell BK190.out 2).trans rfl
        have hcz14_3 : wr.cell? ⟨gb190,3,none⟩ = some (.int .i64 a0_3):=(blk_cell BK190.out 3).trans rfl
        have hcz14_4 : wr.cell? ⟨gb190,4,none⟩ = some (.slice A0_4 l0_4.length c0_4):=(blk_cell BK190.out 4).trans rfl
        have hfz14_0:=blk_frozen BK190.out 0
        have hfz14_1:=blk_frozen BK190.out 1
        have hfz14_2:=blk_frozen BK190.out 2
        have hfz14_3:=blk_frozen BK190.out 3
        have hfz14_4:=blk_frozen BK190.out 4
        have p191 : 0 ≤ (x3_2 : Int):=of_decide_eq_true aX
        have q191 : x3_2 < (l0_4.length : Int):=of_decide_eq_true aX
        obtain ⟨ad191,A191_4,c191_4,e191,hx191_0,hx191_1,hx191_2,hx191_3,hx191_4,hl191_4,hi191_4⟩:=at_T35 HR0_4.out x3_2 p191 q191
        cases e191
        replace hx191_0:=cB HB hx191_0
        replace hx191_1:=cB HB hx191_1
        replace hx191_2:=cB HB hx191_2
        replace hx191_3:=cB HB hx191_3
        replace hx191_4:=cB HB hx191_4
        have HR191_4:=Aside0.mk hi191_4
        have HC191_4:=Aside0.mk hl191_4
        clear hi191_4 hl191_4
        replace p191:=eq_true p191
        replace q191:=eq_true q191
        have p192 : 0 ≤ (x3_2 : Int):=of_decide_eq_true aX
        have q192 : x3_2 < (l0_4.length : Int):=of_decide_eq_true aX
        obtain ⟨ad192,A192_4,c192_4,e192,hx192_0,hx192_1,hx192_2,hx192_3,hx192_4,hl192_4,hi192_4⟩:=at_T35 HR0_4.out x3_2 p192 q192
        obtain rfl : ad191 = ad192:=(by injection e192)
        replace hx192_0:=cB HB hx192_0
        replace hx192_1:=cB HB hx192_1
        replace hx192_2:=cB HB hx192_2
        replace hx192_3:=cB HB hx192_3
        replace hx192_4:=cB HB hx192_4
        have HR192_4:=Aside0.mk hi192_4
        have HC192_4:=Aside0.mk hl192_4
        clear hi192_4 hl192_4
        replace p192:=eq_true p192
        replace q192:=eq_true q192
        have ea_:=Option.some.inj (hx191_4.symm.trans hx192_4)
        injection ea_ with ea_ en_ ec_
        subst ea_
        subst ec_
        clear en_
        go_wp2
        go_meet
        case rel => exact ⟨_,(decide ((((rd_T35 l0_4 x3_2).f4).length : Int) > 3)),(by first|rfl|(simp;done)|(simp [*];done)),H',⟨by have:=HJ1.out;have:=HK2.out;first|omega|exact Nat.le_refl _⟩,⟨by (with_reducible repeat (first|refine blk_drewN ?_ _|refine blk_drew ?_|refine blk_alloc ?_ _));exact BK190.out⟩,⟨by repeat (first|(with_reducible first|exact HB.out|apply below_alloc|apply pw_below_drewN|apply below_drew1|refine below_set ?_ GE190.out)|exact HB.out)⟩⟩
       rw [if_neg c11] at H
       exact absurd H (by simp)
      case rest =>
       clear HC9
       try clear c1
       try clear p1
       try clear q1
       try clear hx1
       try clear p2
       try clear c4
       try clear c4b0
       try clear c4b1
       try clear c7
       try clear c8
       try clear c8b0
       try clear c11
       try clear c11b0
       try clear c12
       try clear c12b0
       try clear c12b1
       try clear hcz10_0
       try clear hcz10_1
       try clear hcz10_2
       try clear hcz10_3
       try clear hcz10_4
       try clear hcz13_0
       try clear hcz13_1
       try clear hcz13_2
       try clear hcz13_3
       try clear hcz13_4
       try clear hcz14_0
       try clear hcz14_1
       try clear hcz14_2
       try clear hcz14_3
       try clear hcz14_4
       try clear hcz5_0
       try clear hcz5_1
       try clear hcz5_2
       try clear hcz5_3
       try clear hcz5_4
       try clear hcz6_0
       try clear hcz6_1
       try clear hcz6_2
       try clear hcz6_3
       try clear hcz6_4
       try clear hfz10_0
       try clear hfz10_1
       try clear hfz10_2
       try clear hfz10_3
       try clear hfz10_4
       try clear hfz13_0
       try clear hfz13_1
       try clear hfz13_2
       try clear hfz13_3
       try clear hfz13_4
       try clear hfz14_0
       try clear hfz14_1
       try clear hfz14_2
       try clear hfz14_3
       try clear hfz14_4
       try clear hfz5_0
       try clear hfz5_1
       try clear hfz5_2
       try clear hfz5_3
       try clear hfz5_4
       try clear hfz6_0
       try clear hfz6_1
       try clear hfz6_2
       try clear hfz6_3
       try clear hfz6_4
       try clear hx191_0
       try clear hx191_1
       try clear hx191_2
       try clear hx191_3
       try clear hx191_4
       try clear hx192_0
       try clear hx192_1
       try clear hx192_2
       try clear hx192_3
       try clear hx192_4
       try clear p191
       try clear p192
       try clear p2
       try clear q191
       try clear q192
       obtain ⟨kq,x39_8,rfl,HA,HJ8,BK190,HB⟩:=hcut
       cases kq with
       | zero => exact absurd HA.out (by simp [windlasshelp_Small.j2])
       | succ kj8 =>
        have H:=HA.out
        clear HA
        simp only [windlasshelp_Small.j2] at H
        by_cases c15 : x39_8 = true
        ·subst c15
         have H1 : (some false) = some r:=by rw [if_pos rfl] at H;exact H
         clear H
         have H:=H1
         clear H1
         obtain rfl:=Option.some.inj H
         go_wp2
         go_ret
         exact ⟨by first|rfl|(simp [errW_none,errW_some] <;> rfl)|(simp [*,errW_none,errW_some] <;> rfl),by repeat (first|(with_reducible first|exact HB.out|apply below_alloc|apply pw_below_drewN|apply below_drew1|refine below_set ?_ GE190.out)|exact HB.out)⟩
        replace c15:=Bool.eq_false_iff.mpr c15
        subst c15
        have H1 : (windlasshelp_Small.l1 kj8 x3_2 0 a0_0 a0_1 a0_2 a0_3 l0_4) = some r:=by rw [if_neg (show ¬ (false = true) by decide)] at H;exact H
        clear H
        have H:=H1
        clear H1
        have H':=Aside0.mk H
        clear H
        go_wp2
        go_loopg [4] kj8 (fun kq v4 w' => ∃ (x4_4 : Int),v4 = .int .i64 x4_4 ∧ Aside0 (windlasshelp_Small.l1 kq x3_2 x4_4 a0_0 a0_1 a0_2 a0_3 l0_4 = some r) ∧ Aside0 (kq ≤ kj8) ∧ Aside0 (w'.heap[gb190]? = some (.cells #[.int .i64 a0_0, .int .i64 a0_1, .string a0_2, .int .i64 a0_3,(.slice A0_4 l0_4.length c0_4)] 35 (0,0))) ∧ Aside0 (Below w.heap.size w w'))
        case atStart => exact ⟨(0),(by first|rfl|(simp;done)|(simp [*];done)),H',⟨Nat.le_refl _⟩,⟨by (with_reducible repeat (first|refine blk_drewN ?_ _|refine blk_drew ?_|refine blk_alloc ?_ _));exact BK190.out⟩,⟨by repeat (first|(with_reducible first|exact HB.out|apply below_alloc|apply pw_below_drewN|apply below_drew1|refine below_set ?_ GE190.out)|exact HB.out)⟩⟩
        case round =>
         clear H'
         try clear c1
         try clear p1
         try clear q1
         try clear hx1
         try clear p2
         try clear c4
         try clear c4b0
         try clear c4b1
         try clear c7
         try clear c8
         try clear c8b0
         try clear c11
         try clear c11b0
         try clear c12
         try clear c12b0
         try clear c12b1
         try clear c15
         try clear hcz10_0
         try clear hcz10_1
         try clear hcz10_2
         try clear hcz10_3
         try clear hcz10_4
         try clear hcz13_0
         try clear hcz13_1
         try clear hcz13_2
         try clear hcz13_3
         try clear hcz13_4
         try clear hcz14_0
         try clear hcz14_1
         try clear hcz14_2
         try clear hcz14_3
         try clear hcz14_4
         try clear hcz5_0
         try clear hcz5_1
         try clear hcz5_2
         try clear hcz5_3
         try clear hcz5_4
         try clear hcz6_0
         try clear hcz6_1
         try clear hcz6_2
         try clear hcz6_3
         try clear hcz6_4
         try clear hfz10_0
         try clear hfz10_1
         try clear hfz10_2
         try clear hfz10_3
         try clear hfz10_4
         try clear hfz13_0
         try clear hfz13_1
         try clear hfz13_2
         try clear hfz13_3
         try clear hfz13_4
         try clear hfz14_0
         try clear hfz14_1
         try clear hfz14_2
         try clear hfz14_3
         try clear hfz14_4
         try clear hfz5_0
         try clear hfz5_1
         try clear hfz5_2
         try clear hfz5_3
         try clear hfz5_4
         try clear hfz6_0
         try clear hfz6_1
         try clear hfz6_2
         try clear hfz6_3
         try clear hfz6_4
         try clear hx191_0
         try clear hx191_1
         try clear hx191_2
         try clear hx191_3
         try clear hx191_4
         try clear hx192_0
         try clear hx192_1
         try clear hx192_2
         try clear hx192_3
         try clear hx192_4
         try clear p1
         try clear p191
         try clear p192
         try clear p2
         try clear q1
         try clear q191
         try clear q192
         obtain ⟨x4_4,rfl,HA,HK4,BK190,HB⟩:=hrel
         cases gk with
         | zero => exact absurd HA.out (by simp [windlasshelp_Small.l1])
         | succ k4 =>
          have H:=HA.out
          clear HA
          simp only [windlasshelp_Small.l1] at H
          by_cases c16 : 0 ≤ x3_2
          ·rw [if_pos c16] at H
           have c16b0 : decide (0 ≤ x3_2) = true:=decide_eq_true c16
           clear c16
           by_cases c17 : x3_2 < (l0_4.length : Int)
           ·rw [if_pos c17] at H
            have c17b0 : decide (x3_2 < (l0_4.length : Int)) = true:=decide_eq_true c17
            clear c17
            by_cases c18 : x4_4 < (((rd_T35 l0_4 x3_2).f4).length : Int)
            ·rw [if_pos c18] at H
             have c18b0 : decide (x4_4 < (((rd_T35 l0_4 x3_2).f4).length : Int)) = true:=decide_eq_true c18
             clear c18
             by_cases c19 : 0 ≤ x4_4
             ·rw [if_pos c19] at H
              have c19b0 : decide (0 ≤ x4_4) = true:=decide_eq_true c19
              clear c19
              by_cases c20 : (((rd_T35 ((rd_T35 l0_4 x3_2).f4) x4_4).f4).length : Int) > 0
              ·rw [if_pos c20] at H
               have c20b0 : decide (0 < (((rd_T35 ((rd_T35 l0_4 x3_2).f4) x4_4).f4).length : Int)) = true:=decide_eq_true c20
               have c20b1 : decide (0 < ((rd_T35 ((rd_T35 l0_4 x3_2).f4) x4_4).f4).length) = true:=decide_eq_true (by omega)
               clear c20
               obtain rfl:=Option.some.inj H
               have hcz21_0 : wr.cell? ⟨gb190,0,none⟩ = some (.int .i64 a0_0):=(blk_cell BK190.out 0).trans rfl
               have hcz21_1 : wr.cell? ⟨gb190,1,none⟩ = some (.int .i64 a0_1):=(blk_cell BK190.out 1).trans rfl
               have hcz21_2 : wr.cell? ⟨gb190,2,none⟩ = some (.string a0_2):=(blk_cell BK190.out 2).trans rfl
               have hcz21_3 : wr.cell? ⟨gb190,3,none⟩ = some (.int .i64 a0_3):=(blk_cell BK190.out 3).trans rfl
               have hcz21_4 : wr.cell? ⟨gb190,4,none⟩ = some (.slice A0_4 l0_4.length c0_4):=(blk_cell BK190.out 4).trans rfl
               have hfz21_0:=blk_frozen BK190.out 0
               have hfz21_1:=blk_frozen BK190.out 1
               have hfz21_2:=blk_frozen BK190.out 2
               have hfz21_3:=blk_frozen BK190.out 3
               have hfz21_4:=blk_frozen BK190.out 4
               have p193 : 0 ≤ (x3_2 : Int):=of_decide_eq_true aX
               have q193 : x3_2 < (l0_4.length : Int):=of_decide_eq_true aX
               obtain ⟨ad193,A193_4,c193_4,e193,hx193_0,hx193_1,hx193_2,hx193_3,hx193_4,hl193_4,hi193_4⟩:=at_T35 HR0_4.out x3_2 p193 q193
               cases e193
               replace hx193_0:=cB HB hx193_0
               replace hx193_1:=cB HB hx193_1
               replace hx193_2:=cB HB hx193_2
               replace hx193_3:=cB HB hx193_3
               replace hx193_4:=cB HB hx193_4
               have HR193_4:=Aside0.mk hi193_4
               have HC193_4:=Aside0.mk hl193_4
               clear hi193_4 hl193_4
               replace p193:=eq_true p193
               replace q193:=eq_true q193
               have p194 : 0 ≤ (x3_2 : Int):=of_decide_eq_true aX
               have q194 : x3_2 < (l0_4.length : Int):=of_decide_eq_true aX
               obtain ⟨ad194,A194_4,c194_4,e194,hx194_0,hx194_1,hx194_2,hx194_3,hx194_4,hl194_4,hi194_4⟩:=at_T35 HR0_4.out x3_2 p194 q194
               obtain rfl : ad193 = ad194:=(by injection e194)
               replace hx194_0:=cB HB hx194_0
               replace hx194_1:=cB HB hx194_1
               replace hx194_2:=cB HB hx194_2
               replace hx194_3:=cB HB hx194_3
               replace hx194_4:=cB HB hx194_4
               have HR194_4:=Aside0.mk hi194_4
               have HC194_4:=Aside0.mk hl194_4
               clear hi194_4 hl194_4
               replace p194:=eq_true p194
               replace q194:=eq_true q194
               have ea_:=Option.some.inj (hx193_4.symm.trans hx194_4)
               injection ea_ with ea_ en_ ec_
               subst ea_
               subst ec_
               clear en_
               have p195 : 0 ≤ (x4_4 : Int):=of_decide_eq_true aX
               have q195 : x4_4 < (((rd_T35 l0_4 x3_2).f4).length : Int):=of_decide_eq_true aX
               obtain ⟨ad195,A195_4,c195_4,e195,hx195_0,hx195_1,hx195_2,hx195_3,hx195_4,hl195_4,hi195_4⟩:=at_T35 HR194_4.out x4_4 p195 q195
               cases e195
               replace hx195_0:=cB HB hx195_0
               replace hx195_1:=cB HB hx195_1
               replace hx195_2:=cB HB hx195_2
               replace hx195_3:=cB HB hx195_3
               replace hx195_4:=cB HB hx195_4
               have HR195_4:=Aside0.mk hi195_4
               have HC195_4:=Aside0.mk hl195_4
               clear hi195_4 hl195_4
               replace p195:=eq_true p195
               replace q195:=eq_true q195
               go_wp2
               go_ret
               exact ⟨by first|rfl|(simp [errW_none,errW_some] <;> rfl)|(simp [*,errW_none,errW_some] <;> rfl),by repeat (first|(with_reducible first|exact HB.out|apply below_alloc|apply pw_below_drewN|apply below_drew1|refine below_set ?_ GE190.out)|exact HB.out)⟩
              rw [if_neg c20] at H
              have c20b0 : decide (0 < (((rd_T35 ((rd_T35 l0_4 x3_2).f4) x4_4).f4).length : Int)) = false:=decide_eq_false c20
              have c20b1 : decide (0 < ((rd_T35 ((rd_T35 l0_4 x3_2).f4) x4_4).f4).length) = false:=decide_eq_false (by omega)
              clear c20
              by_cases c22 : (((rd_T35 ((rd_T35 l0_4 x3_2).f4) x4_4).f2).size : Int) > 300
              ·rw [if_pos c22] at H
               have c22b0 : decide (300 < (((rd_T35 ((rd_T35 l0_4 x3_2).f4) x4_4).f2).size : Int)) = true:=decide_eq_true c22
               have c22b1 : decide (300 < ((rd_T35 ((rd_T35 l0_4 x3_2).f4) x4_4).f2).size) = true:=decide_eq_true (by omega)
               clear c22
               obtain rfl:=Option.some.inj H
               have hcz23_0 : wr.cell? ⟨gb190,0,none⟩ = some (.int .i64 a0_0):=(blk_cell BK190.out 0).trans rfl
               have hcz23_1 : wr.cell? ⟨gb190,1,none⟩ = some (.int .i64 a0_1):=(blk_cell BK190.out 1).trans rfl
               have hcz23_2 : wr.cell? ⟨gb190,2,none⟩ = some (.string a0_2):=(blk_cell BK190.out 2).trans rfl
               have hcz23_3 : wr.cell? ⟨gb190,3,none⟩ = some (.int .i64 a0_3):=(blk_cell BK190.out 3).trans rfl
               have hcz23_4 : wr.cell? ⟨gb190,4,none⟩ = some (.slice A0_4 l0_4.length c0_4):=(blk_cell BK190.out 4).trans rfl
               have hfz23_0:=blk_frozen BK190.out 0
               have hfz23_1:=blk_frozen BK190.out 1
               have hfz23_2:=blk_frozen BK190.out 2
               have hfz23_3:=blk_frozen BK190.out 3
               have hfz23_4:=blk_frozen BK190.out 4
               have p193 : 0 ≤ (x3_2 : Int):=of_decide_eq_true aX
               have q193 : x3_2 < (l0_4.length : Int):=of_decide_eq_true aX
               obtain ⟨ad193,A193_4,c193_4,e193,hx193_0,hx193_1,hx193_2,hx193_3,hx193_4,hl193_4,hi193_4⟩:=at_T35 HR0_4.out x3_2 p193 q193
               cases e193
               replace hx193_0:=cB HB hx193_0
               replace hx193_1:=cB HB hx193_1
               replace hx193_2:=cB HB hx193_2
               replace hx193_3:=cB HB hx193_3
               replace hx193_4:=cB HB hx193_4
               have HR193_4:=Aside0.mk hi193_4
               have HC193_4:=Aside0.mk hl193_4
               clear hi193_4 hl193_4
               replace p193:=eq_true p193
               replace q193:=eq_true q193
               have p194 : 0 ≤ (x3_2 : Int):=of_decide_eq_true aX
               have q194 : x3_2 < (l0_4.length : Int):=of_decide_eq_true aX
               obtain ⟨ad194,A194_4,c194_4,e194,hx194_0,hx194_1,hx194_2,hx194_3,hx194_4,hl194_4,hi194_4⟩:=at_T35 HR0_4.out x3_2 p194 q194
               obtain rfl : ad193 = ad194:=(by injection e194)
               replace hx194_0:=cB HB hx194_0
               replace hx194_1:=cB HB hx194_1
               replace hx194_2:=cB HB hx194_2
               replace hx194_3:=cB HB hx194_3
               replace hx194_4:=cB HB hx194_4
               have HR194_4:=Aside0.mk hi194_4
               have HC194_4:=Aside0.mk hl194_4
               clear hi194_4 hl194_4
               replace p194:=eq_true p194
               replace q194:=eq_true q194
               have ea_:=Option.some.inj (hx193_4.symm.trans hx194_4)
               injection ea_ with ea_ en_ ec_
               subst ea_
               subst ec_
               clear en_
               have p195 : 0 ≤ (x4_4 : Int):=of_decide_eq_true aX
               have q195 : x4_4 < (((rd_T35 l0_4 x3_2).f4).length : Int):=of_decide_eq_true aX
               obtain ⟨ad195,A195_4,c195_4,e195,hx195_0,hx195_1,hx195_2,hx195_3,hx195_4,hl195_4,hi195_4⟩:=at_T35 HR194_4.out x4_4 p195 q195
               cases e195
               replace hx195_0:=cB HB hx195_0
               replace hx195_1:=cB HB hx195_1
               replace hx195_2:=cB HB hx195_2
               replace hx195_3:=cB HB hx195_3
               replace hx195_4:=cB HB hx195_4
               have HR195_4:=Aside0.mk hi195_4
               have HC195_4:=Aside0.mk hl195_4
               clear hi195_4 hl195_4
               replace p195:=eq_true p195
               replace q195:=eq_true q195
               have p196 : 0 ≤ (x3_2 : Int):=of_decide_eq_true aX
               have q196 : x3_2 < (l0_4.length : Int):=of_decide_eq_true aX
               obtain ⟨ad196,A196_4,c196_4,e196,hx196_0,hx196_1,hx196_2,hx196_3,hx196_4,hl196_4,hi196_4⟩:=at_T35 HR0_4.out x3_2 p196 q196
               obtain rfl : ad193 = ad196:=(by injection e196)
               replace hx196_0:=cB HB hx196_0
               replace hx196_1:=cB HB hx196_1
               replace hx196_2:=cB HB hx196_2
               replace hx196_3:=cB HB hx196_3
               replace hx196_4:=cB HB hx196_4
               have HR196_4:=Aside0.mk hi196_4
               have HC196_4:=Aside0.mk hl196_4
               clear hi196_4 hl196_4
               replace p196:=eq_true p196
               replace q196:=eq_true q196
               have ea_:=Option.some.inj (hx193_4.symm.trans hx196_4)
               injection ea_ with ea_ en_ ec_
               subst ea_
               subst ec_
               clear en_
               have p197 : 0 ≤ (x4_4 : Int):=of_decide_eq_true aX
               have q197 : x4_4 < (((rd_T35 l0_4 x3_2).f4).length : Int):=of_decide_eq_true aX
               obtain ⟨ad197,A197_4,c197_4,e197,hx197_0,hx197_1,hx197_2,hx197_3,hx197_4,hl197_4,hi197_4⟩:=at_T35 HR196_4.out x4_4 p197 q197
               cases e197
               replace hx197_0:=cB HB hx197_0
               replace hx197_1:=cB HB hx197_1
               replace hx197_2:=cB HB hx197_2
               replace hx197_3:=cB HB hx197_3
               replace hx197_4:=cB HB hx197_4
               have HR197_4:=Aside0.mk hi197_4
               have HC197_4:=Aside0.mk hl197_4
               clear hi197_4 hl197_4
               replace p197:=eq_true p197
               replace q197:=eq_true q197
               go_wp2
               go_ret
               exact ⟨by first|rfl|(simp [errW_none,errW_some] <;> rfl)|(simp [*,errW_none,errW_some] <;> rfl),by repeat (first|(with_reducible first|exact HB.out|apply below_alloc|apply pw_below_drewN|apply below_drew1|refine below_set ?_ GE190.out)|exact HB.out)⟩
              rw [if_neg c22] at H
              have c22b0 : decide (300 < (((rd_T35 ((rd_T35 l0_4 x3_2).f4) x4_4).f2).size : Int)) = false:=decide_eq_false c22
              have c22b1 : decide (300 < ((rd_T35 ((rd_T35 l0_4 x3_2).f4) x4_4).f2).size) = false:=decide_eq_false (by omega)
              clear c22
              have H':=Aside0.mk H
              clear H
              have hcz24_0 : wr.cell? ⟨gb190,0,none⟩ = some (.int .i64 a0_0):=(blk_cell BK190.out 0).trans rfl
              have hcz24_1 : wr.cell? ⟨gb190,1,none⟩ = some (.int .i64 a0_1):=(blk_cell BK190.out 1).trans rfl
              have hcz24_2 : wr.cell? ⟨gb190,2,none⟩ = some (.string a0_2):=(blk_cell BK190.out 2).trans rfl
              have hcz24_3 : wr.cell? ⟨gb190,3,none⟩ = some (.int .i64 a0_3):=(blk_cell BK190.out 3).trans rfl
              have hcz24_4 : wr.cell? ⟨gb190,4,none⟩ = some (.slice A0_4 l0_4.length c0_4):=(blk_cell BK190.out 4).trans rfl
              have hfz24_0:=blk_frozen BK190.out 0
              have hfz24_1:=blk_frozen BK190.out 1
              have hfz24_2:=blk_frozen BK190.out 2
              have hfz24_3:=blk_frozen BK190.out 3
              have hfz24_4:=blk_frozen BK190.out 4
              have p193 : 0 ≤ (x3_2 : Int):=of_decide_eq_true aX
              have q193 : x3_2 < (l0_4.length : Int):=of_decide_eq_true aX
              obtain ⟨ad193,A193_4,c193_4,e193,hx193_0,hx193_1,hx193_2,hx193_3,hx193_4,hl193_4,hi193_4⟩:=at_T35 HR0_4.out x3_2 p193 q193
              cases e193
              replace hx193_0:=cB HB hx193_0
              replace hx193_1:=cB HB hx193_1
              replace hx193_2:=cB HB hx193_2
              replace hx193_3:=cB HB hx193_3
              replace hx193_4:=cB HB hx193_4
              have HR193_4:=Aside0.mk hi193_4
              have HC193_4:=Aside0.mk hl193_4
              clear hi193_4 hl193_4
              replace p193:=eq_true p193
              replace q193:=eq_true q193
              have p194 : 0 ≤ (x3_2 : Int):=of_decide_eq_true aX
              have q194 : x3_2 < (l0_4.length : Int):=of_decide_eq_true aX
              obtain ⟨ad194,A194_4,c194_4,e194,hx194_0,hx194_1,hx194_2,hx194_3,hx194_4,hl194_4,hi194_4⟩:=at_T35 HR0_4.out x3_2 p194 q194
              obtain rfl : ad193 = ad194:=(by injection e194)
              replace hx194_0:=cB HB hx194_0
              replace hx194_1:=cB HB hx194_1
              replace hx194_2:=cB HB hx194_2
              replace hx194_3:=cB HB hx194_3
              replace hx194_4:=cB HB hx194_4
              have HR194_4:=Aside0.mk hi194_4
              have HC194_4:=Aside0.mk hl194_4
              clear hi194_4 hl194_4
              replace p194:=eq_true p194
              replace q194:=eq_true q194
              have ea_:=Option.some.inj (hx193_4.symm.trans hx194_4)
              injection ea_ with ea_ en_ ec_
              subst ea_
              subst ec_
              clear en_
              have p195 : 0 ≤ (x4_4 : Int):=of_decide_eq_true aX
              have q195 : x4_4 < (((rd_T35 l0_4 x3_2).f4).length : Int):=of_decide_eq_true aX
              obtain ⟨ad195,A195_4,c195_4,e195,hx195_0,hx195_1,hx195_2,hx195_3,hx195_4,hl195_4,hi195_4⟩:=at_T35 HR194_4.out x4_4 p195 q195
              cases e195
              replace hx195_0:=cB HB hx195_0
              replace hx195_1:=cB HB hx195_1
              replace hx195_2:=cB HB hx195_2
              replace hx195_3:=cB HB hx195_3
              replace hx195_4:=cB HB hx195_4
              have HR195_4:=Aside0.mk hi195_4
              have HC195_4:=Aside0.mk hl195_4
              clear hi195_4 hl195_4
              replace p195:=eq_true p195
              replace q195:=eq_true q195
              have p196 : 0 ≤ (x3_2 : Int):=of_decide_eq_true aX
              have q196 : x3_2 < (l0_4.length : Int):=of_decide_eq_true aX
              obtain ⟨ad196,A196_4,c196_4,e196,hx196_0,hx196_1,hx196_2,hx196_3,hx196_4,hl196_4,hi196_4⟩:=at_T35 HR0_4.out x3_2 p196 q196
              obtain rfl : ad193 = ad196:=(by injection e196)
              replace hx196_0:=cB HB hx196_0
              replace hx196_1:=cB HB hx196_1
              replace hx196_2:=cB HB hx196_2
              replace hx196_3:=cB HB hx196_3
              replace hx196_4:=cB HB hx196_4
              have HR196_4:=Aside0.mk hi196_4
              have HC196_4:=Aside0.mk hl196_4
              clear hi196_4 hl196_4
              replace p196:=eq_true p196
              replace q196:=eq_true q196
              have ea_:=Option.some.inj (hx193_4.symm.trans hx196_4)
              injection ea_ with ea_ en_ ec_
              subst ea_
              subst ec_
              clear en_
              have p197 : 0 ≤ (x4_4 : Int):=of_decide_eq_true aX
              have q197 : x4_4 < (((rd_T35 l0_4 x3_2).f4).length : Int):=of_decide_eq_true aX
              obtain ⟨ad197,A197_4,c197_4,e197,hx197_0,hx197_1,hx197_2,hx197_3,hx197_4,hl197_4,hi197_4⟩:=at_T35 HR196_4.out x4_4 p197 q197
              cases e197
              replace hx197_0:=cB HB hx197_0
              replace hx197_1:=cB HB hx197_1
              replace hx197_2:=cB HB hx197_2
              replace hx197_3:=cB HB hx197_3
              replace hx197_4:=cB HB hx197_4
              have HR197_4:=Aside0.mk hi197_4
              have HC197_4:=Aside0.mk hl197_4
              clear hi197_4 hl197_4
              replace p197:=eq_true p197
              replace q197:=eq_true q197
              go_wp2
              go_roundg k4
              case measure => have:=HJ1.out;have:=HK2.out;have:=HJ8.out;have:=HK4.out;omega
              case rel => exact ⟨(wrap64 (x4_4 + 1)),(by first|rfl|(simp;done)|(simp [*];done)),H',⟨by have:=HJ1.out;have:=HK2.out;have:=HJ8.out;have:=HK4.out;omega⟩,⟨by (with_reducible repeat (first|refine blk_drewN ?_ _|refine blk_drew ?_|refine blk_alloc ?_ _));exact BK190.out⟩,⟨by repeat (first|(with_reducible first|exact HB.out|apply below_alloc|apply pw_below_drewN|apply below_drew1|refine below_set ?_ GE190.out)|exact HB.out)⟩⟩
             rw [if_neg c19] at H
             exact absurd H (by simp)
            rw [if_neg c18] at H
            have c18b0 : decide (x4_4 < (((rd_T35 l0_4 x3_2).f4).length : Int)) = false:=decide_eq_false c18
            clear c18
            have H':=Aside0.mk H
            clear H
            have hcz25_0 : wr.cell? ⟨gb190,0,none⟩ = some (.int .i64 a0_0):=(blk_cell BK190.out 0).trans rfl
            have hcz25_1 : wr.cell? ⟨gb190,1,none⟩ = some (.int .i64 a0_1):=(blk_cell BK190.out 1).trans rfl
            have hcz25_2 : wr.cell? ⟨gb190,2,none⟩ = some (.string a0_2):=(blk_cell BK190.out 2).trans rfl
            have hcz25_3 : wr.cell? ⟨gb190,3,none⟩ = some (.int .i64 a0_3):=(blk_cell BK190.out 3).trans rfl
            have hcz25_4 : wr.cell? ⟨gb190,4,none⟩ = some (.slice A0_4 l0_4.length c0_4):=(blk_cell BK190.out 4).trans rfl
            have hfz25_0:=blk_frozen BK190.out 0
            have hfz25_1:=blk_frozen BK190.out 1
            have hfz25_2:=blk_frozen BK190.out 2
            have hfz25_3:=blk_frozen BK190.out 3
            have hfz25_4:=blk_frozen BK190.out 4
            have p193 : 0 ≤ (x3_2 : Int):=of_decide_eq_true aX
            have q193 : x3_2 < (l0_4.length : Int):=of_decide_eq_true aX
            obtain ⟨ad193,A193_4,c193_4,e193,hx193_0,hx193_1,hx193_2,hx193_3,hx193_4,hl193_4,hi193_4⟩:=at_T35 HR0_4.out x3_2 p193 q193
            cases e193
            replace hx193_0:=cB HB hx193_0
            replace hx193_1:=cB HB hx193_1
            replace hx193_2:=cB HB hx193_2
            replace hx193_3:=cB HB hx193_3
            replace hx193_4:=cB HB hx193_4
            have HR193_4:=Aside0.mk hi193_4
            have HC193_4:=Aside0.mk hl193_4
            clear hi193_4 hl193_4
            replace p193:=eq_true p193
            replace q193:=eq_true q193
            go_wp2
            go_roundg k4
            case measure => have:=HJ1.out;have:=HK2.out;have:=HJ8.out;have:=HK4.out;omega
            case rel => exact ⟨(wrap64 (x3_2 + 1)),(by first|rfl|(simp;done)|(simp [*];done)),H',⟨by have:=HJ1.out;have:=HK2.out;have:=HJ8.out;have:=HK4.out;omega⟩,⟨by (with_reducible repeat (first|refine blk_drewN ?_ _|refine blk_drew ?_|refine blk_alloc ?_ _));exact BK190.out⟩,⟨by repeat (first|(with_reducible first|exact HB.out|apply below_alloc|apply pw_below_drewN|apply below_drew1|refine below_set ?_ GE190.out)|exact HB.out)⟩⟩
           rw [if_neg c17] at H
           exact absurd H (by simp)
          rw [if_neg c16] at H
          exact absurd H (by simp)
     rw [if_neg c8] at H
     have c8b0 : decide (x3_2 < (l0_4.length : Int)) = false:=decide_eq_false c8
     clear c8
     obtain rfl:=Option.some.inj H
     have hcz26_0 : wr.cell? ⟨gb190,0,none⟩ = some (.int .i64 a0_0):=(blk_cell BK190.out 0).trans rfl
     have hcz26_1 : wr.cell? ⟨gb190,1,none⟩ = some (.int .i64 a0_1):=(blk_cell BK190.out 1).trans rfl
     have hcz26_2 : wr.cell? ⟨gb190,2,none⟩ = some (.string a0_2):=(blk_cell BK190.out 2).trans rfl
     have hcz26_3 : wr.cell? ⟨gb190,3,none⟩ = some (.int .i64 a0_3):=(blk_cell BK190.out 3).trans rfl
     have hcz26_4 : wr.cell? ⟨gb190,4,none⟩ = some (.slice A0_4 l0_4.length c0_4):=(blk_cell BK190.out 4).trans rfl
     have hfz26_0:=blk_frozen BK190.out 0
     have hfz26_1:=blk_frozen BK190.out 1
     have hfz26_2:=blk_frozen BK190.out 2
     have hfz26_3:=blk_frozen BK190.out 3
     have hfz26_4:=blk_frozen BK190.out 4
     go_wp2
     go_ret
     exact ⟨by first|rfl|(simp [errW_none,errW_some] <;> rfl)|(simp [*,errW_none,errW_some] <;> rfl),by repeat (first|(with_reducible first|exact HB.out|apply below_alloc|apply pw_below_drewN|apply below_drew1|refine below_set ?_ GE190.out)|exact HB.out)⟩

end Go.Proofs.Ytnokieaebnmljaa.PAll
-- Laid by a program of this seat (wip/xprint.py over the kit's print).
namespace Go.Proofs.Ytnokieaebnmljaa.PAll
open Go.RowKit Go.Proofs.YtnokieaebnmljaaW.PrintWords Go.Proofs.YtnokieaebnmljaaW.PrintLast Go.Proofs.YtnokieaebnmljaaW.PrintMore
attribute [local go_sem] max2_int min2_int max_two min_two max_three min_three max_four min_four   -- for this text's walks alone
set_option linter.unusedVariables false
set_option linter.unusedSimpArgs false

/-! ### windlasslaw4_few: function 16 -/
def windlasslaw4_few.l0 : Nat → List (S47) → Int → Option (Bool)
 | 0,_,_ => none
 | k + 1,x0,x3 => if x3 < (x0.length : Int) then (if 0 ≤ x3 then ((windlasshelp_Small.f k ((rd_T47 x0 x3).f2.f0) ((rd_T47 x0 x3).f2.f1) ((rd_T47 x0 x3).f2.f2) ((rd_T47 x0 x3).f2.f3) ((rd_T47 x0 x3).f2.f4)).bind fun t199 => (if t199 = true then ((windlasshelp_Small.f k ((rd_T47 x0 x3).f3.f0) ((rd_T47 x0 x3).f3.f1) ((rd_T47 x0 x3).f3.f2) ((rd_T47 x0 x3).f3.f3) ((rd_T47 x0 x3).f3.f4)).bind fun t201 => (if t201 = true then (windlasslaw4_few.l0 k x0 (wrap64 (x3 + 1))) else (some false))) else (some false))) else (none)) else (some (decide ((x0.length : Int) ≤ 60)))
def windlasslaw4_few.f (k : Nat) (l0 : List (S47)) : Option (Bool):=windlasslaw4_few.l0 k l0 0
set_option maxHeartbeats 8000000 in
set_option maxRecDepth 100000 in
theorem windlasslaw4_few.calls (k : Nat) (A0 : Option Addr) (c0 : Nat) (l0 : List (S47)) (r : Bool) (w : World) (hr0 : Kd.C k47 w A0 l0.length l0) (hc0 : l0.length ≤ c0) (h : windlasslaw4_few.f k l0 = some r) :
  Calls Try.prog 16 #[.slice A0 l0.length c0] w fun e w' => e = .returned (.bool r) ∧ Below w.heap.size w w':=by
 have hu35:=Try.underlying35
 have HR0:=Aside0.mk hr0
 have HC0:=Aside0.mk hc0
 clear hr0 hc0
 have HB:=Aside0.mk (Below.refl w.heap.size w)
 have H : (windlasslaw4_few.l0 k l0 0) = some r:=h
 clear h
 have H':=Aside0.mk H
 clear H
 go_enter Try.func16,Try.ntmps16
 go_wp2
 go_loopg [3] k (fun kq v3 w' => ∃ (x3_1 : Int),v3 = .int .i64 x3_1 ∧ Aside0 (windlasslaw4_few.l0 kq l0 x3_1 = some r) ∧ Aside0 (kq ≤ k) ∧ Aside0 (Below w.heap.size w w'))
 case atStart => exact ⟨(0),(by first|rfl|(simp;done)|(simp [*];done)),H',⟨Nat.le_refl _⟩,⟨by repeat (first|(with_reducible first|exact HB.out|apply below_alloc|apply pw_below_drewN|apply below_drew1)|exact HB.out)⟩⟩
 case round =>
  clear H'
  try clear c1
  obtain ⟨x3_1,rfl,HA,HK1,HB⟩:=hrel
  cases gk with
  | zero => exact absurd HA.out (by simp [windlasslaw4_few.l0])
  | succ k1 =>
   have H:=HA.out
   clear HA
   simp only [windlasslaw4_few.l0] at H
   by_cases c2 : x3_1 < (l0.length : Int)
   ·rw [if_pos c2] at H
    have c2b0 : decide (x3_1 < (l0.length : Int)) = true:=decide_eq_true c2
    clear c2
    by_cases c3 : 0 ≤ x3_1
    ·rw [if_pos c3] at H
     have c3b0 : decide (0 ≤ x3_1) = true:=decide_eq_true c3
     clear c3
     replace H:=Option.bind_eq_some_iff.mp H
     obtain ⟨t199,A40,H⟩:=H
     replace H : (if t199 = true then ((windlasshelp_Small.f k1 ((rd_T47 l0 x3_1).f3.f0) ((rd_T47 l0 x3_1).f3.f1) ((rd_T47 l0 x3_1).f3.f2) ((rd_T47 l0 x3_1).f3.f3) ((rd_T47 l0 x3_1).f3.f4)).bind fun t201 => (if t201 = true then (windlasslaw4_few.l0 k1 l0 (wrap64 (x3_1 + 1))) else (some false))) else (some false)) = some r:=H
     have A4:=Aside0.mk A40
     clear A40
     by_cases c5 : t199 = true
     ·subst c5
      have H1 : ((windlasshelp_Small.f k1 ((rd_T47 l0 x3_1).f3.f0) ((rd_T47 l0 x3_1).f3.f1) ((rd_T47 l0 x3_1).f3.f2) ((rd_T47 l0 x3_1).f3.f3) ((rd_T47 l0 x3_1).f3.f4)).bind fun t201 => (if t201 = true then (windlasslaw4_few.l0 k1 l0 (wrap64 (x3_1 + 1))) else (some false))) = some r:=by rw [if_pos rfl] at H;exact H
      clear H
      have H:=H1
      clear H1
      replace H:=Option.bind_eq_some_iff.mp H
      obtain ⟨t201,A60,H⟩:=H
      replace H : (if t201 = true then (windlasslaw4_few.l0 k1 l0 (wrap64 (x3_1 + 1))) else (some false)) = some r:=H
      have A6:=Aside0.mk A60
      clear A60
      by_cases c7 : t201 = true
      ·subst c7
       have H1 : (windlasslaw4_few.l0 k1 l0 (wrap64 (x3_1 + 1))) = some r:=by rw [if_pos rfl] at H;exact H
       clear H
       have H:=H1
       clear H1
       have H':=Aside0.mk H
       clear H
       have p198 : 0 ≤ (x3_1 : Int):=of_decide_eq_true aX
       have q198 : x3_1 < (l0.length : Int):=of_decide_eq_true aX
       obtain ⟨ad198,A198_6,c198_6,A198_11,c198_11,e198,hx198_0,hx198_1,hx198_2,hx198_3,hx198_4,hx198_5,hx198_6,hx198_7,hx198_8,hx198_9,hx198_10,hx198_11,hl198_6,hi198_6,hl198_11,hi198_11⟩:=at_T47 HR0.out x3_1 p198 q198
       cases e198
       replace hx198_0:=cB HB hx198_0
       replace hx198_1:=cB HB hx198_1
       replace hx198_2:=cB HB hx198_2
       replace hx198_3:=cB HB hx198_3
       replace hx198_4:=cB HB hx198_4
       replace hx198_5:=cB HB hx198_5
       replace hx198_6:=cB HB hx198_6
       replace hx198_7:=cB HB hx198_7
       replace hx198_8:=cB HB hx198_8
       replace hx198_9:=cB HB hx198_9
       replace hx198_10:=cB HB hx198_10
       replace hx198_11:=cB HB hx198_11
       have HR198_6:=Aside0.mk hi198_6
       have HC198_6:=Aside0.mk hl198_6
       clear hi198_6 hl198_6
       have HR198_11:=Aside0.mk hi198_11
       have HC198_11:=Aside0.mk hl198_11
       clear hi198_11 hl198_11
       replace p198:=eq_true p198
       replace q198:=eq_true q198
       go_wp2_with (first|((with_reducible refine gate_callee (f:=41) rfl ?_);refine goesL_ (some 15) rfl rfl Try.func41 (by kernel_rfl) rfl #[.agg #[.int .i64 ((rd_T47 l0 x3_1).f2.f0), .int .i64 ((rd_T47 l0 x3_1).f2.f1), .string ((rd_T47 l0 x3_1).f2.f2), .int .i64 ((rd_T47 l0 x3_1).f2.f3), .slice A198_6 ((rd_T47 l0 x3_1).f2.f4).length c198_6]] rfl aG ?_;(with_reducible refine (windlasshelp_Small.calls k1 ((rd_T47 l0 x3_1).f2.f0) ((rd_T47 l0 x3_1).f2.f1) ((rd_T47 l0 x3_1).f2.f2) ((rd_T47 l0 x3_1).f2.f3) _ _ ((rd_T47 l0 x3_1).f2.f4) true _ ?side1 ?side2 A4.out).mono ?_);(case side1 => repeat (first|exact (Kd.C_below HR198_6.out HB.out)|(with_reducible refine Kd.C_alloc ?_ _)|(with_reducible refine Kd.C_drewN ?_ _)|(with_reducible refine Kd.C_drew ?_)));(case side2 => exact HC198_6.out);rintro e w8 ⟨rfl,hb⟩;refine ⟨_,rfl,?_⟩;replace HB:=bS HB hb;(try clear hb);(try clear hb2);(try clear hk);(try clear hi);have p200 : 0 ≤ (x3_1 : Int):=of_decide_eq_true aX;have q200 : x3_1 < (l0.length : Int):=of_decide_eq_true aX;obtain ⟨ad200,A200_6,c200_6,A200_11,c200_11,e200,hx200_0,hx200_1,hx200_2,hx200_3,hx200_4,hx200_5,hx200_6,hx200_7,hx200_8,hx200_9,hx200_10,hx200_11,hl200_6,hi200_6,hl200_11,hi200_11⟩:=at_T47 HR0.out x3_1 p200 q200;obtain rfl : ad198 = ad200:=(by injection e200);replace hx200_0:=cB HB hx200_0;replace hx200_1:=cB HB hx200_1;replace hx200_2:=cB HB hx200_2;replace hx200_3:=cB HB hx200_3;replace hx200_4:=cB HB hx200_4;replace hx200_5:=cB HB hx200_5;replace hx200_6:=cB HB hx200_6;replace hx200_7:=cB HB hx200_7;replace hx200_8:=cB HB hx200_8;replace hx200_9:=cB HB hx200_9;replace hx200_10:=cB HB hx200_10;replace hx200_11:=cB HB hx200_11;have HR200_6:=Aside0.mk hi200_6;have HC200_6:=Aside0.mk hl200_6;clear hi200_6 hl200_6;have HR200_11:=Aside0.mk hi200_11;have HC200_11:=Aside0.mk hl200_11;clear hi200_11 hl200_11;replace p200:=eq_true p200;replace q200:=eq_true q200)|(go_at_call 41;(with_reducible refine (windlasshelp_Small.calls k1 ((rd_T47 l0 x3_1).f3.f0) ((rd_T47 l0 x3_1).f3.f1) ((rd_T47 l0 x3_1).f3.f2) ((rd_T47 l0 x3_1).f3.f3) _ _ ((rd_T47 l0 x3_1).f3.f4) true _ ?side1 ?side2 A6.out).mono ?_);(case side1 => repeat (first|exact (Kd.C_below HR200_11.out HB.out)|(with_reducible refine Kd.C_alloc ?_ _)|(with_reducible refine Kd.C_drewN ?_ _)|(with_reducible refine Kd.C_drew ?_)));(case side2 => exact HC200_11.out);rintro e w9 ⟨rfl,hb⟩;replace HB:=bS HB hb;(try clear hb);(try clear hb2);(try clear hk);(try clear hi)))
       go_roundg k1
       case measure => have:=HK1.out;omega
       case rel => exact ⟨(wrap64 (x3_1 + 1)),(by first|rfl|(simp;done)|(simp [*];done)),H',⟨by have:=HK1.out;omega⟩,⟨by repeat (first|(with_reducible first|exact HB.out|apply below_alloc|apply pw_below_drewN|apply below_drew1)|exact HB.out)⟩⟩
      replace c7:=Bool.eq_false_iff.mpr c7
      subst c7
      have H1 : (some false) = some r:=by rw [if_neg (show ¬ (false = true) by decide)] at H;exact H
      clear H
      have H:=H1
      clear H1
      obtain rfl:=Option.some.inj H
      have p198 : 0 ≤ (x3_1 : Int):=of_decide_eq_true aX
      have q198 : x3_1 < (l0.length : Int):=of_decide_eq_true aX
      obtain ⟨ad198,A198_6,c198_6,A198_11,c198_11,e198,hx198_0,hx198_1,hx198_2,hx198_3,hx198_4,hx198_5,hx198_6,hx198_7,hx198_8,hx198_9,hx198_10,hx198_11,hl198_6,hi198_6,hl198_11,hi198_11⟩:=at_T47 HR0.out x3_1 p198 q198
      cases e198
      replace hx198_0:=cB HB hx198_0
      replace hx198_1:=cB HB hx198_1
      replace hx198_2:=cB HB hx198_2
      replace hx198_3:=cB HB hx198_3
      replace hx198_4:=cB HB hx198_4
      replace hx198_5:=cB HB hx198_5
      replace hx198_6:=cB HB hx198_6
      replace hx198_7:=cB HB hx198_7
      replace hx198_8:=cB HB hx198_8
      replace hx198_9:=cB HB hx198_9
      replace hx198_10:=cB HB hx198_10
      replace hx198_11:=cB HB hx198_11
      have HR198_6:=Aside0.mk hi198_6
      have HC198_6:=Aside0.mk hl198_6
      clear hi198_6 hl198_6
      have HR198_11:=Aside0.mk hi198_11
      have HC198_11:=Aside0.mk hl198_11
      clear hi198_11 hl198_11
      replace p198:=eq_true p198
      replace q198:=eq_true q198
      go_wp2_with (first|((with_reducible refine gate_callee (f:=41) rfl ?_);refine goesL_ (some 15) rfl rfl Try.func41 (by kernel_rfl) rfl #[.agg #[.int .i64 ((rd_T47 l0 x3_1).f2.f0), .int .i64 ((rd_T47 l0 x3_1).f2.f1), .string ((rd_T47 l0 x3_1).f2.f2), .int .i64 ((rd_T47 l0 x3_1).f2.f3), .slice A198_6 ((rd_T47 l0 x3_1).f2.f4).length c198_6]] rfl aG ?_;(with_reducible refine (windlasshelp_Small.calls k1 ((rd_T47 l0 x3_1).f2.f0) ((rd_T47 l0 x3_1).f2.f1) ((rd_T47 l0 x3_1).f2.f2) ((rd_T47 l0 x3_1).f2.f3) _ _ ((rd_T47 l0 x3_1).f2.f4) true _ ?side1 ?side2 A4.out).mono ?_);(case side1 => repeat (first|exact (Kd.C_below HR198_6.out HB.out)|(with_reducible refine Kd.C_alloc ?_ _)|(with_reducible refine Kd.C_drewN ?_ _)|(with_reducible refine Kd.C_drew ?_)));(case side2 => exact HC198_6.out);rintro e w10 ⟨rfl,hb⟩;refine ⟨_,rfl,?_⟩;replace HB:=bS HB hb;(try clear hb);(try clear hb2);(try clear hk);(try clear hi);have p200 : 0 ≤ (x3_1 : Int):=of_decide_eq_true aX;have q200 : x3_1 < (l0.length : Int):=of_decide_eq_true aX;obtain ⟨ad200,A200_6,c200_6,A200_11,c200_11,e200,hx200_0,hx200_1,hx200_2,hx200_3,hx200_4,hx200_5,hx200_6,hx200_7,hx200_8,hx200_9,hx200_10,hx200_11,hl200_6,hi200_6,hl200_11,hi200_11⟩:=at_T47 HR0.out x3_1 p200 q200;obtain rfl : ad198 = ad200:=(by injection e200);replace hx200_0:=cB HB hx200_0;replace hx200_1:=cB HB hx200_1;replace hx200_2:=cB HB hx200_2;replace hx200_3:=cB HB hx200_3;replace hx200_4:=cB HB hx200_4;replace hx200_5:=cB HB hx200_5;replace hx200_6:=cB HB hx200_6;replace hx200_7:=cB HB hx200_7;replace hx200_8:=cB HB hx200_8;replace hx200_9:=cB HB hx200_9;replace hx200_10:=cB HB hx200_10;replace hx200_11:=cB HB hx200_11;have HR200_6:=Aside0.mk hi200_6;have HC200_6:=Aside0.mk hl200_6;clear hi200_6 hl200_6;have HR200_11:=Aside0.mk hi200_11;have HC200_11:=Aside0.mk hl200_11;clear hi200_11 hl200_11;replace p200:=eq_true p200;replace q200:=eq_true q200)|(go_at_call 41;(with_reducible refine (windlasshelp_Small.calls k1 ((rd_T47 l0 x3_1).f3.f0) ((rd_T47 l0 x3_1).f3.f1) ((rd_T47 l0 x3_1).f3.f2) ((rd_T47 l0 x3_1).f3.f3) _ _ ((rd_T47 l0 x3_1).f3.f4) false _ ?side1 ?side2 A6.out).mono ?_);(case side1 => repeat (first|exact (Kd.C_below HR200_11.out HB.out)|(with_reducible refine Kd.C_alloc ?_ _)|(with_reducible refine Kd.C_drewN ?_ _)|(with_reducible refine Kd.C_drew ?_)));(case side2 => exact HC200_11.out);rintro e w11 ⟨rfl,hb⟩;replace HB:=bS HB hb;(try clear hb);(try clear hb2);(try clear hk);(try clear hi)))
      go_ret
      exact ⟨by first|rfl|(simp [errW_none,errW_some] <;> rfl)|(simp [*,errW_none,errW_some] <;> rfl),by repeat (first|(with_reducible first|exact HB.out|apply below_alloc|apply pw_below_drewN|apply below_drew1)|exact HB.out)⟩
     replace c5:=Bool.eq_false_iff.mpr c5
     subst c5
     have H1 : (some false) = some r:=by rw [if_neg (show ¬ (false = true) by decide)] at H;exact H
     clear H
     have H:=H1
     clear H1
     obtain rfl:=Option.some.inj H
     have p198 : 0 ≤ (x3_1 : Int):=of_decide_eq_true aX
     have q198 : x3_1 < (l0.length : Int):=of_decide_eq_true aX
     obtain ⟨ad198,A198_6,c198_6,A198_11,c198_11,e198,hx198_0,hx198_1,hx198_2,hx198_3,hx198_4,hx198_5,hx198_6,hx198_7,hx198_8,hx198_9,hx198_10,hx198_11,hl198_6,hi198_6,hl198_11,hi198_11⟩:=at_T47 HR0.out x3_1 p198 q198
     cases e198
     replace hx198_0:=cB HB hx198_0
     replace hx198_1:=cB HB hx198_1
     replace hx198_2:=cB HB hx198_2
     replace hx198_3:=cB HB hx198_3
     replace hx198_4:=cB HB hx198_4
     replace hx198_5:=cB HB hx198_5
     replace hx198_6:=cB HB hx198_6
     replace hx198_7:=cB HB hx198_7
     replace hx198_8:=cB HB hx198_8
     replace hx198_9:=cB HB hx198_9
     replace hx198_10:=cB HB hx198_10
     replace hx198_11:=cB HB hx198_11
     have HR198_6:=Aside0.mk hi198_6
     have HC198_6:=Aside0.mk hl198_6
     clear hi198_6 hl198_6
     have HR198_11:=Aside0.mk hi198_11
     have HC198_11:=Aside0.mk hl198_11
     clear hi198_11 hl198_11
     replace p198:=eq_true p198
     replace q198:=eq_true q198
     go_wp2_with (first|((with_reducible refine gate_callee (f:=41) rfl ?_);refine goesL_ (some 15) rfl rfl Try.func41 (by kernel_rfl) rfl #[.agg #[.int .i64 ((rd_T47 l0 x3_1).f2.f0), .int .i64 ((rd_T47 l0 x3_1).f2.f1), .string ((rd_T47 l0 x3_1).f2.f2), .int .i64 ((rd_T47 l0 x3_1).f2.f3), .slice A198_6 ((rd_T47 l0 x3_1).f2.f4).length c198_6]] rfl aG ?_;(with_reducible refine (windlasshelp_Small.calls k1 ((rd_T47 l0 x3_1).f2.f0) ((rd_T47 l0 x3_1).f2.f1) ((rd_T47 l0 x3_1).f2.f2) ((rd_T47 l0 x3_1).f2.f3) _ _ ((rd_T47 l0 x3_1).f2.f4) false _ ?side1 ?side2 A4.out).mono ?_);(case side1 => repeat (first|exact (Kd.C_below HR198_6.out HB.out)|(with_reducible refine Kd.C_alloc ?_ _)|(with_reducible refine Kd.C_drewN ?_ _)|(with_reducible refine Kd.C_drew ?_)));(case side2 => exact HC198_6.out);rintro e w12 ⟨rfl,hb⟩;refine ⟨_,rfl,?_⟩;replace HB:=bS HB hb;(try clear hb);(try clear hb2);(try clear hk);(try clear hi)))
     go_ret
     exact ⟨by first|rfl|(simp [errW_none,errW_some] <;> rfl)|(simp [*,errW_none,errW_some] <;> rfl),by repeat (first|(with_reducible first|exact HB.out|apply below_alloc|apply pw_below_drewN|apply below_drew1)|exact HB.out)⟩
    rw [if_neg c3] at H
    exact absurd H (by simp)
   rw [if_neg c2] at H
   have c2b0 : decide (x3_1 < (l0.length : Int)) = false:=decide_eq_false c2
   clear c2
   obtain rfl:=Option.some.inj H
   go_wp2
   go_ret
   exact ⟨by first|rfl|(simp [errW_none,errW_some] <;> rfl)|(simp [*,errW_none,errW_some] <;> rfl),by repeat (first|(with_reducible first|exact HB.out|apply below_alloc|apply pw_below_drewN|apply below_drew1)|exact HB.out)⟩

end Go.Proofs.Ytnokieaebnmljaa.PAll
-- Laid by a program of this seat (wip/xprint.py over the kit's print).
namespace Go.Proofs.Ytnokieaebnmljaa.PAll
open Go.RowKit Go.Proofs.YtnokieaebnmljaaW.PrintWords Go.Proofs.YtnokieaebnmljaaW.PrintLast Go.Proofs.YtnokieaebnmljaaW.PrintMore
attribute [local go_sem] max2_int min2_int max_two min_two max_three min_three max_four min_four   -- for this text's walks alone
set_option linter.unusedVariables false
set_option linter.unusedSimpArgs false

/-! ### windlassref4_own: function 42 -/
mutual
def windlassref4_own.l0 : Nat → List (S35) → Int → Int → Int → ByteArray → Int → List (S35) → Option (Int × Int × ByteArray × Int × (List (S35)))
 | 0,_,_,_,_,_,_,_ => none
 | k + 1,x3,x4,x203000,x203001,x203002,x203003,x203004 => if x4 < (x203004.length : Int) then (if 0 ≤ x4 then ((windlassref4_own.f k ((rd_T35 x203004 x4).f0) ((rd_T35 x203004 x4).f1) ((rd_T35 x203004 x4).f2) ((rd_T35 x203004 x4).f3) ((rd_T35 x203004 x4).f4)).bind fun bt205 => (if x3.length < 2199023255552 then (windlassref4_own.l0 k (x3 ++ [(⟨bt205.1,bt205.2.1,bt205.2.2.1,bt205.2.2.2.1,bt205.2.2.2.2⟩ : S35)]) (wrap64 (x4 + 1)) x203000 x203001 x203002 x203003 x203004) else (none))) else (none)) else (some (x203000,x203001,x203002,x203003,x3))
def windlassref4_own.f : Nat → Int → Int → ByteArray → Int → List (S35) → Option (Int × Int × ByteArray × Int × (List (S35)))
 | 0,_,_,_,_,_ => none
 | k + 1,a0_0,a0_1,a0_2,a0_3,l0_4 => windlassref4_own.l0 k ([] : List (S35)) 0 a0_0 a0_1 a0_2 a0_3 l0_4
end
set_option maxHeartbeats 8000000 in
set_option maxRecDepth 100000 in
theorem windlassref4_own.calls (k : Nat) : ∀ (a0_0 : Int) (a0_1 : Int) (a0_2 : ByteArray) (a0_3 : Int) (A0_4 : Option Addr) (c0_4 : Nat) (l0_4 : List (S35)) (r1 : Int) (r2 : Int) (r3 : ByteArray) (r4 : Int) (r5 : List (S35)) (w : World) (hr0_4 : Kd.C k35 w A0_4 l0_4.length l0_4) (hc0_4 : l0_4.length ≤ c0_4) (h : windlassref4_own.f k a0_0 a0_1 a0_2 a0_3 l0_4 = some (r1,r2,r3,r4,r5)),
  Calls Try.prog 42 #[.agg #[.int .i64 a0_0, .int .i64 a0_1, .string a0_2, .int .i64 a0_3, .slice A0_4 l0_4.length c0_4]] w fun e w' => ∃ v4_ : Value,e = .returned (.agg #[.int .i64 r1, .int .i64 r2, .string r3, .int .i64 r4,v4_]) ∧ Kd.R k35 35 w' w.heap.size (fun _ => True) v4_ r5 ∧ Below w.heap.size w w':=by
 induction k using Nat.strongRecOn with
 | _ k ih =>
 intro a0_0 a0_1 a0_2 a0_3 A0_4 c0_4 l0_4 r1 r2 r3 r4 r5 w hr0_4 hc0_4 h
 cases k with
 | zero => exact absurd h (by simp [windlassref4_own.f])
 | succ k =>
 simp only [windlassref4_own.f] at h
 have hu35:=Try.underlying35
 have HR0_4:=Aside0.mk hr0_4
 have HC0_4:=Aside0.mk hc0_4
 clear hr0_4 hc0_4
 have HB:=Aside0.mk (Below.refl w.heap.size w)
 have H : (windlassref4_own.l0 k ([] : List (S35)) 0 a0_0 a0_1 a0_2 a0_3 l0_4) = some (r1,r2,r3,r4,r5):=h
 clear h
 have H':=Aside0.mk H
 clear H
 go_enter Try.func42,Try.ntmps42
 go_wp2_with (first|((with_reducible refine gate_dst (N:=1) rfl ?_);refine box_event ?hg (N:=1) ?hd (cs:=#[.int .i64 a0_0, .int .i64 a0_1, .string a0_2, .int .i64 a0_3, .slice A0_4 l0_4.length c0_4]) (t:=35) ?hr ?_;(case hd => rfl);(case hg => rfl);(case hr => first|(go_simp;done)|(go_simp;rfl));intro gb202 hg w2 hbox hb;have BK202:=Aside0.mk (hbox);have GW202:=Aside0.mk ((by rw [hg];exact (below_size (bL0 HB)) : w.heap.size ≤ gb202));have GE202:=Aside0.mk ((by rw [hg];exact (below_size (bL0 HB)) : w.heap.size ≤ gb202));replace HB:=bS HB hb;clear hb hbox hg)|((with_reducible refine gate_dst (N:=2) rfl ?_);refine box_event ?hg (N:=2) ?hd (cs:=#[.int .i64 0, .int .i64 0, .string (⟨#[]⟩ : ByteArray), .int .i64 0, .slice none 0 0]) (t:=35) ?hr ?_;(case hd => rfl);(case hg => rfl);(case hr => first|(go_simp;done)|(go_simp;rfl));intro gb203 hg w3 hbox hb;have BK203:=Aside0.mk (hbox);have GW203:=Aside0.mk ((by rw [hg];exact (below_size (bL1 HB GE202)) : w.heap.size ≤ gb203));have GE203:=Aside0.mk ((by rw [hg];exact (below_size (bL1 HB GE202)) : w.heap.size ≤ gb203));replace HB:=Aside0.mk (below_step (bL1 HB GE202) hb);have NB202_203:=Aside0.mk ((by rw [hg];exact Nat.ne_of_lt (blk_lt (bK BK202)) : gb202 ≠ gb203));have NB203_202:=Aside0.mk ((by rw [hg];exact Nat.ne_of_gt (blk_lt (bK BK202)) : gb203 ≠ gb202));replace BK202:=bB BK202 hb;clear hb hbox hg))
 go_loopg [3,4] k (fun kq v3 v4 w' => ∃ (x3_1 : List (S35)) (x4_1 : Int),v4 = .int .i64 x4_1 ∧ Aside0 (windlassref4_own.l0 kq x3_1 x4_1 a0_0 a0_1 a0_2 a0_3 l0_4 = some (r1,r2,r3,r4,r5)) ∧ Aside0 (kq ≤ k) ∧ Aside0 (Kd.R k35 35 w' w.heap.size (fun k_ => k_ ≠ gb202 ∧ k_ ≠ gb203) v3 x3_1) ∧ Aside0 (w'.heap[gb202]? = some (.cells #[.int .i64 a0_0, .int .i64 a0_1, .string a0_2, .int .i64 a0_3,(.slice A0_4 l0_4.length c0_4)] 35 (0,0))) ∧ Aside0 (w'.heap[gb203]? = some (.cells #[.int .i64 0, .int .i64 0, .string (⟨#[]⟩ : ByteArray), .int .i64 0,(.slice none 0 0)] 35 (0,0))) ∧ Aside0 (Below w.heap.size w w'))
 case atStart => exact ⟨(([] : List (S35))),(0),(by first|rfl|(simp;done)|(simp [*];done)),H',⟨Nat.le_refl _⟩,⟨by first|exact Kd.R_nil _ _ _ _ _|exact Kd.N_nil _ _ _ _ _|exact Kd.V_nil _ _ _ _ _|exact Kd.Q_nil _ _ _ _ _|exact Kd.S_nil _ _ _ _ _⟩,⟨by (with_reducible repeat (first|refine blk_drewN ?_ _|refine blk_drew ?_|refine blk_alloc ?_ _));exact BK202.out⟩,⟨by (with_reducible repeat (first|refine blk_drewN ?_ _|refine blk_drew ?_|refine blk_alloc ?_ _));exact BK203.out⟩,⟨by repeat (first|(with_reducible first|exact HB.out|apply below_alloc|apply pw_below_drewN|apply below_drew1|refine below_set ?_ GE202.out|refine below_set ?_ GE203.out)|exact HB.out)⟩⟩
 case round =>
  clear H'
  try clear p2
  obtain ⟨x3_1,x4_1,rfl,HA,HK1,HO_3,BK202,BK203,HB⟩:=hrel
  cases gk with
  | zero => exact absurd HA.out (by simp [windlassref4_own.l0])
  | succ k1 =>
   have H:=HA.out
   clear HA
   simp only [windlassref4_own.l0] at H
   by_cases c4 : x4_1 < (l0_4.length : Int)
   ·rw [if_pos c4] at H
    have c4b0 : decide (x4_1 < (l0_4.length : Int)) = true:=decide_eq_true c4
    clear c4
    by_cases c5 : 0 ≤ x4_1
    ·rw [if_pos c5] at H
     have c5b0 : decide (0 ≤ x4_1) = true:=decide_eq_true c5
     clear c5
     replace H:=Option.bind_eq_some_iff.mp H
     obtain ⟨⟨t205,t206,t207,t208,t209⟩,A60,H⟩:=H
     replace H : (if x3_1.length < 2199023255552 then (windlassref4_own.l0 k1 (x3_1 ++ [(⟨t205,t206,t207,t208,t209⟩ : S35)]) (wrap64 (x4_1 + 1)) a0_0 a0_1 a0_2 a0_3 l0_4) else (none)) = some (r1,r2,r3,r4,r5):=H
     have A6:=Aside0.mk A60
     clear A60
     by_cases c7 : x3_1.length < 2199023255552
     ·rw [if_pos c7] at H
      have LMc7:=Aside0.mk c7
      clear c7
      obtain ⟨y212,hy212⟩ : ∃ y_ : List (S35),y_ = (x3_1 ++ [(⟨t205,t206,t207,t208,t209⟩ : S35)]):=⟨_,rfl⟩
      replace H : (windlassref4_own.l0 k1 y212 (wrap64 (x4_1 + 1)) a0_0 a0_1 a0_2 a0_3 l0_4) = some (r1,r2,r3,r4,r5):=by first|(rw [hy212];with_reducible exact H)|(have H2_:=(Option.bind_some _ _).symm.trans H;rw [hy212];with_reducible exact H2_)|(have H2_:=(Option.bind_some _ _).symm.trans H;with_reducible exact H2_)|with_reducible exact H|(rw [hy212];exact H)|exact H
      have Ny212:=Aside0.mk hy212
      clear hy212
      have H':=Aside0.mk H
      clear H
      have hnb8:=NB202_203.out
      have hnc8:=NB203_202.out
      have hcz9_0 : wr.cell? ⟨gb202,0,none⟩ = some (.int .i64 a0_0):=(blk_cell BK202.out 0).trans rfl
      have hcz9_1 : wr.cell? ⟨gb202,1,none⟩ = some (.int .i64 a0_1):=(blk_cell BK202.out 1).trans rfl
      have hcz9_2 : wr.cell? ⟨gb202,2,none⟩ = some (.string a0_2):=(blk_cell BK202.out 2).trans rfl
      have hcz9_3 : wr.cell? ⟨gb202,3,none⟩ = some (.int .i64 a0_3):=(blk_cell BK202.out 3).trans rfl
      have hcz9_4 : wr.cell? ⟨gb202,4,none⟩ = some (.slice A0_4 l0_4.length c0_4):=(blk_cell BK202.out 4).trans rfl
      have hfz9_0:=blk_frozen BK202.out 0
      have hfz9_1:=blk_frozen BK202.out 1
      have hfz9_2:=blk_frozen BK202.out 2
      have hfz9_3:=blk_frozen BK202.out 3
      have hfz9_4:=blk_frozen BK202.out 4
      have p204 : 0 ≤ (x4_1 : Int):=of_decide_eq_true aX
      have q204 : x4_1 < (l0_4.length : Int):=of_decide_eq_true aX
      obtain ⟨ad204,A204_4,c204_4,e204,hx204_0,hx204_1,hx204_2,hx204_3,hx204_4,hl204_4,hi204_4⟩:=at_T35 HR0_4.out x4_1 p204 q204
      cases e204
      replace hx204_0:=cB HB hx204_0
      replace hx204_1:=cB HB hx204_1
      replace hx204_2:=cB HB hx204_2
      replace hx204_3:=cB HB hx204_3
      replace hx204_4:=cB HB hx204_4
      have HR204_4:=Aside0.mk hi204_4
      have HC204_4:=Aside0.mk hl204_4
      clear hi204_4 hl204_4
      replace p204:=eq_true p204
      replace q204:=eq_true q204
      go_wp2_with (first|((with_reducible refine gate_callee (f:=42) rfl ?_);refine goesL_ (some 18) rfl rfl Try.func42 (by kernel_rfl) rfl #[.agg #[.int .i64 ((rd_T35 l0_4 x4_1).f0), .int .i64 ((rd_T35 l0_4 x4_1).f1), .string ((rd_T35 l0_4 x4_1).f2), .int .i64 ((rd_T35 l0_4 x4_1).f3), .slice A204_4 ((rd_T35 l0_4 x4_1).f4).length c204_4]] rfl aG ?_;(with_reducible refine (ih k1 (by have:=HK1.out;omega) ((rd_T35 l0_4 x4_1).f0) ((rd_T35 l0_4 x4_1).f1) ((rd_T35 l0_4 x4_1).f2) ((rd_T35 l0_4 x4_1).f3) _ _ ((rd_T35 l0_4 x4_1).f4) t205 t206 t207 t208 t209 _ ?side1 ?side2 A6.out).mono ?_);(case side1 => repeat (first|exact (Kd.C_below HR204_4.out HB.out)|(with_reducible refine Kd.C_alloc ?_ _)|(with_reducible refine Kd.C_drewN ?_ _)|(with_reducible refine Kd.C_drew ?_)));(case side2 => exact HC204_4.out);rintro e w10 ⟨v210,rfl,ho0,hb⟩;refine ⟨_,rfl,?_⟩;have HO211:=Aside0.mk (Kd.R_lower (Kd.R_newB (Kd.R_newB (Kd.R_new' ho0 (Kd.R_lt (rK HO_3))) (g:=gb202) (o := .cells #[.int .i64 a0_0, .int .i64 a0_1, .string a0_2, .int .i64 a0_3, .slice (some ad204) l0_4.length c0_4] 35 (0,0)) (bK BK202)) (g:=gb203) (o := .cells #[.int .i64 0, .int .i64 0, .string (⟨#[]⟩ : ByteArray), .int .i64 0, .slice none 0 0] 35 (0,0)) (bK BK203)) (below_size (bL2 HB GE202 GE203)));replace HO_3:=Aside0.mk (Kd.R_elder' (rK HO_3) (Kd.R_base ho0) hb);replace BK202:=bB BK202 hb;replace BK203:=bB BK203 hb;replace HB:=Aside0.mk (below_step (bL2 HB GE202 GE203) hb);(try clear hb);(try clear hb2);(try clear hk);(try clear hi);(try clear ho0);obtain ⟨Ao12,co12,eo12⟩:=Kd.R_slice HO211.out;subst eo12)|((with_reducible refine gate_builtin (b := .append) (xs:=#[.tmp 12, .tmp 19]) rfl ?_);at_builtin;refine Kd.R_append k35 (w0:=w) w.heap.size rfl (.tmp 12) (.tmp 19) 33 35 (.agg #[(.int .i64 0),(.int .i64 0),(.string ⟨#[]⟩),(.int .i64 0),(.slice none 0 0)]) 64 rfl Try.underlying33 info35 rfl (by decide) (by omega) u3 x3_1 (⟨t205,t206,t207,t208,t209⟩ : S35) [.int .i64 t205, .int .i64 t206, .string t207, .int .i64 t208, .slice Ao12 t209.length co12] (fun k_ => k_ ≠ gb202 ∧ k_ ≠ gb203) (fun k_ => ((fun k_ => k_ ≠ gb202 ∧ k_ ≠ gb203)) k_ ∧ some k_ ≠ (u3 : Value).ownBlock) rfl rfl ?aP (fun _ hk => hk) ?aF ?aO ?aB ?aS ?aL ?_;(case aP => exact k35_mkM _ _ _ (⟨t205,t206,t207,t208,t209⟩ : S35) (Kd.R_mono (HO211.out) (fun k_ hk => ⟨⟨hk.1.2,hk.2⟩,hk.1.1.2⟩)));(case aB => exact (bL2 HB GE202 GE203));(case aF => exact (fun k_ hk => ⟨Kd.freshB (bK BK202) k_ hk,Kd.freshB (bK BK203) k_ hk⟩));(case aO => exact (by (with_reducible repeat (first|apply Kd.R_alloc|apply Kd.R_drewN|apply Kd.R_drew));exact Kd.R_mono HO_3.out (fun _ hk => ⟨hk.1.1,hk.1.2⟩)));(case aS => exact (below_size (bL2 HB GE202 GE203)));(case aL => have:=LMc7.out;omega);intro v213 w11 ho hb hg hat;rw [← Ny212.out] at ho;have n0_:=Aside0.mk (blk_grown (bK BK202) hg (Kd.R_away HO_3.out (fun _ hk => hk.1.1)));have n1_:=Aside0.mk (blk_grown (bK BK203) hg (Kd.R_away HO_3.out (fun _ hk => hk.1.2)));have n2_:=Aside0.mk (hb);have n3_:=Aside0.mk (ho);clear BK202;clear BK203;clear HB;clear HO_3;clear HO211;have BK202:=n0_;have BK203:=n1_;have HB:=n2_;have HO214:=n3_;clear n0_ n1_ n2_ n3_;clear ho hb hg hat))
      go_roundg k1
      case measure => have:=HK1.out;omega
      case rel => exact ⟨(y212),(wrap64 (x4_1 + 1)),(by first|rfl|(simp;done)|(simp [*];done)),H',⟨by have:=HK1.out;omega⟩,⟨by (with_reducible repeat (first|apply Kd.R_alloc|apply Kd.R_drewN|apply Kd.R_drew));exact HO214.out⟩,⟨by (with_reducible repeat (first|refine blk_drewN ?_ _|refine blk_drew ?_|refine blk_alloc ?_ _));exact BK202.out⟩,⟨by (with_reducible repeat (first|refine blk_drewN ?_ _|refine blk_drew ?_|refine blk_alloc ?_ _));exact BK203.out⟩,⟨by repeat (first|(with_reducible first|exact HB.out|apply below_alloc|apply pw_below_drewN|apply below_drew1|refine below_set ?_ GE202.out|refine below_set ?_ GE203.out)|exact HB.out)⟩⟩
     rw [if_neg c7] at H
     exact absurd H (by simp)
    rw [if_neg c5] at H
    exact absurd H (by simp)
   rw [if_neg c4] at H
   have c4b0 : decide (x4_1 < (l0_4.length : Int)) = false:=decide_eq_false c4
   clear c4
   simp only [Option.some.injEq,Prod.mk.injEq] at H
   obtain ⟨rfl,rfl,rfl,rfl,rfl⟩:=H
   have hnb13:=NB202_203.out
   have hnc13:=NB203_202.out
   have hcz14_0 : wr.cell? ⟨gb202,0,none⟩ = some (.int .i64 a0_0):=(blk_cell BK202.out 0).trans rfl
   have hcz14_1 : wr.cell? ⟨gb202,1,none⟩ = some (.int .i64 a0_1):=(blk_cell BK202.out 1).trans rfl
   have hcz14_2 : wr.cell? ⟨gb202,2,none⟩ = some (.string a0_2):=(blk_cell BK202.out 2).trans rfl
   have hcz14_3 : wr.cell? ⟨gb202,3,none⟩ = some (.int .i64 a0_3):=(blk_cell BK202.out 3).trans rfl
   have hcz14_4 : wr.cell? ⟨gb202,4,none⟩ = some (.slice A0_4 l0_4.length c0_4):=(blk_cell BK202.out 4).trans rfl
   have hfz14_0:=blk_frozen BK202.out 0
   have hfz14_1:=blk_frozen BK202.out 1
   have hfz14_2:=blk_frozen BK202.out 2
   have hfz14_3:=blk_frozen BK202.out 3
   have hfz14_4:=blk_frozen BK202.out 4
   obtain ⟨Ao15,co15,eo15⟩:=Kd.R_slice HO_3.out
   subst eo15
   have hcz16_0 : wr.cell? ⟨gb203,0,none⟩ = some (.int .i64 0):=(blk_cell BK203.out 0).trans rfl
   have hcz16_1 : wr.cell? ⟨gb203,1,none⟩ = some (.int .i64 0):=(blk_cell BK203.out 1).trans rfl
   have hcz16_2 : wr.cell? ⟨gb203,2,none⟩ = some (.string (⟨#[]⟩ : ByteArray)):=(blk_cell BK203.out 2).trans rfl
   have hcz16_3 : wr.cell? ⟨gb203,3,none⟩ = some (.int .i64 0):=(blk_cell BK203.out 3).trans rfl
   have hcz16_4 : wr.cell? ⟨gb203,4,none⟩ = some (.slice none 0 0):=(blk_cell BK203.out 4).trans rfl
   have hfz16_0:=blk_frozen BK203.out 0
   have hfz16_1:=blk_frozen BK203.out 1
   have hfz16_2:=blk_frozen BK203.out 2
   have hfz16_3:=blk_frozen BK203.out 3
   have hfz16_4:=blk_frozen BK203.out 4
   go_wp2
   refine bodyPost_ret (results_cell_row rfl _ _ gb203 35 #[.int .i64 a0_0, .int .i64 a0_1, .string a0_2, .int .i64 a0_3, .slice Ao15 x3_1.length co15] (0,0) _ rfl (by (with_reducible repeat (first|refine blk_drewN ?_ _|refine blk_drew ?_|refine blk_alloc ?_ _));refine blk_put (cs:=#[.int .i64 a0_0, .int .i64 a0_1, .string a0_2, .int .i64 a0_3, .slice none 0 0]) ?_ 4 _ rfl;(with_reducible repeat (first|refine blk_drewN ?_ _|refine blk_drew ?_|refine blk_alloc ?_ _));refine blk_put (cs:=#[.int .i64 a0_0, .int .i64 a0_1, .string a0_2, .int .i64 0, .slice none 0 0]) ?_ 3 _ rfl;(with_reducible repeat (first|refine blk_drewN ?_ _|refine blk_drew ?_|refine blk_alloc ?_ _));refine blk_put (cs:=#[.int .i64 a0_0, .int .i64 a0_1, .string (⟨#[]⟩ : ByteArray), .int .i64 0, .slice none 0 0]) ?_ 2 _ rfl;(with_reducible repeat (first|refine blk_drewN ?_ _|refine blk_drew ?_|refine blk_alloc ?_ _));refine blk_put (cs:=#[.int .i64 a0_0, .int .i64 0, .string (⟨#[]⟩ : ByteArray), .int .i64 0, .slice none 0 0]) ?_ 1 _ rfl;(with_reducible repeat (first|refine blk_drewN ?_ _|refine blk_drew ?_|refine blk_alloc ?_ _));refine blk_put (cs:=#[.int .i64 0, .int .i64 0, .string (⟨#[]⟩ : ByteArray), .int .i64 0, .slice none 0 0]) ?_ 0 _ rfl;(with_reducible repeat (first|refine blk_drewN ?_ _|refine blk_drew ?_|refine blk_alloc ?_ _));refine blk_far ?_ NB203_202.out _;(with_reducible repeat (first|refine blk_drewN ?_ _|refine blk_drew ?_|refine blk_alloc ?_ _));exact BK203.out) Try.underlying35 rfl (by kernel_rfl)) rfl ?_
   exact ⟨_,by first|rfl|(simp [errW_none,errW_some] <;> rfl)|(simp [*,errW_none,errW_some] <;> rfl),by (with_reducible repeat (first|apply Kd.R_alloc|apply Kd.R_drewN|apply Kd.R_drew));exact Kd.R_mono (Kd.R_far (p:=⟨gb203,4,none⟩) (Kd.R_far (p:=⟨gb203,3,none⟩) (Kd.R_far (p:=⟨gb203,2,none⟩) (Kd.R_far (p:=⟨gb203,1,none⟩) (Kd.R_far (p:=⟨gb203,0,none⟩) (Kd.R_far (p:=⟨gb202,4,none⟩) (Kd.R_mono (Kd.R_mono HO_3.out (fun k_ hk => (⟨hk,hk.1⟩ : _ ∧ k_ ≠ gb202))) (fun k_ hk => (⟨hk,hk.1.2⟩ : _ ∧ k_ ≠ gb203))) (fun _ hk => hk.1.2) (.slice Ao15 x3_1.length co15)) (fun _ hk => hk.2) (.int .i64 a0_0)) (fun _ hk => hk.2) (.int .i64 a0_1)) (fun _ hk => hk.2) (.string a0_2)) (fun _ hk => hk.2) (.int .i64 a0_3)) (fun _ hk => hk.2) (.slice Ao15 x3_1.length co15)) (fun _ hk => trivial),by repeat (first|(with_reducible first|exact HB.out|apply below_alloc|apply pw_below_drewN|apply below_drew1|refine below_set ?_ GE202.out|refine below_set ?_ GE203.out)|exact HB.out)⟩

end Go.Proofs.Ytnokieaebnmljaa.PAll
-- Laid by a program of this seat (wip/xprint.py over the kit's print).
namespace Go.Proofs.Ytnokieaebnmljaa.PAll
open Go.RowKit Go.Proofs.YtnokieaebnmljaaW.PrintWords Go.Proofs.YtnokieaebnmljaaW.PrintLast Go.Proofs.YtnokieaebnmljaaW.PrintMore
attribute [local go_sem] max2_int min2_int max_two min_two max_three min_three max_four min_four   -- for this text's walks alone
set_option linter.unusedVariables false
set_option linter.unusedSimpArgs false

/-! ### windlassref4_Copy: function 17 -/
mutual
def windlassref4_Copy.l0 : Nat → Int → List (List (S82)) → List (List (S82)) → Option ((List (List (S82))))
 | 0,_,_,_ => none
 | k + 1,x4,x216000,x218000 => if x4 < (x216000.length : Int) then (windlassref4_Copy.l1 k x4 ([] : List (S82)) 0 x216000 x218000) else (some x218000)
def windlassref4_Copy.l1 : Nat → Int → List (S82) → Int → List (List (S82)) → List (List (S82)) → Option ((List (List (S82))))
 | 0,_,_,_,_,_ => none
 | k + 1,x4,x5,x6,x216000,x218000 => if 0 ≤ x4 then (if x4 < (x216000.length : Int) then (if x6 < ((rd_L4 x216000 x4).length : Int) then (if 0 ≤ x6 then ((windlassref4_own.f k ((rd_T82 (rd_L4 x216000 x4) x6).f0.f0) ((rd_T82 (rd_L4 x216000 x4) x6).f0.f1) ((rd_T82 (rd_L4 x216000 x4) x6).f0.f2) ((rd_T82 (rd_L4 x216000 x4) x6).f0.f3) ((rd_T82 (rd_L4 x216000 x4) x6).f0.f4)).bind fun bt221 => ((windlassref4_own.f k ((rd_T82 (rd_L4 x216000 x4) x6).f1.f0) ((rd_T82 (rd_L4 x216000 x4) x6).f1.f1) ((rd_T82 (rd_L4 x216000 x4) x6).f1.f2) ((rd_T82 (rd_L4 x216000 x4) x6).f1.f3) ((rd_T82 (rd_L4 x216000 x4) x6).f1.f4)).bind fun bt230 => (if x5.length < 1099511627776 then (windlassref4_Copy.l1 k x4 (x5 ++ [(⟨(⟨bt221.1,bt221.2.1,bt221.2.2.1,bt221.2.2.2.1,bt221.2.2.2.2⟩ : S35),(⟨bt230.1,bt230.2.1,bt230.2.2.1,bt230.2.2.2.1,bt230.2.2.2.2⟩ : S35)⟩ : S82)]) (wrap64 (x6 + 1)) x216000 x218000) else (none)))) else (none)) else (if x218000.length < 5864062014805 then (windlassref4_Copy.l0 k (wrap64 (x4 + 1)) x216000 (x218000 ++ [x5])) else (none))) else (none)) else (none)
end
def windlassref4_Copy.f (k : Nat) (l0_0 : List (List (S82))) : Option ((List (List (S82)))):=windlassref4_Copy.l0 k 0 l0_0 ([] : List (List (S82)))
def windlassref4_Copy.T9 : Bool × List (List Nat × List Nat):=(true,[([],[]),([],[]),([1],[1]),([],[]),([2,3],[2,3]),([4],[4]),([],[]),([5,6],[5,6]),([7],[7]),([8],[8]),([9],[9]),([],[]),([11],[11]),([],[]),([12,13],[12,13]),([14],[14]),([],[]),([15,16],[15,16]),([17],[17]),([18],[18]),([19,10],[19]),([10,20],[10,20]),([21],[21]),([0,22,20],[0,22]),([23,23,0,1,2,3,4,5,6,7,8,9,10,11,12,13,14,15,16,17,18,19,20,21,22,23],[0,23])])
def windlassref4_Copy.B9 : List Nat:=[0,0,2,0,14,30,0,126,254,510,1022,0,2048,0,14336,30720,0,129024,260096,522240,1048574,2097150,4194302,8388607,16777215]
theorem windlassref4_Copy.tab9 : rtab .any (opsOf Try.f17 9) = windlassref4_Copy.T9:=by kernel_rfl
theorem windlassref4_Copy.bits9 : waitsOk windlassref4_Copy.T9.2 windlassref4_Copy.B9 = true:=by kernel_rfl
set_option maxHeartbeats 8000000 in
set_option maxRecDepth 100000 in
theorem windlassref4_Copy.calls (k : Nat) (A0_0 : Option Addr) (c0_0 : Nat) (l0_0 : List (List (S82))) (r : List (List (S82))) (w : World) (hr0_0 : Kd.C (Kd.slice 82 k82) w A0_0 l0_0.length l0_0) (hc0_0 : l0_0.length ≤ c0_0) (h : windlassref4_Copy.f k l0_0 = some r) :
  Calls Try.prog 17 #[.agg #[.slice A0_0 l0_0.length c0_0]] w fun e w' => ∃ v0_ : Value,e = .returned (.agg #[v0_]) ∧ Kd.R (Kd.slice 82 k82) 41 w' w.heap.size (fun _ => True) v0_ r ∧ Below w.heap.size w w':=by
 have hu27:=Try.underlying27
 have hu35:=Try.underlying35
 have hu82:=Try.underlying82
 have HR0_0:=Aside0.mk hr0_0
 have HC0_0:=Aside0.mk hc0_0
 clear hr0_0 hc0_0
 have HB:=Aside0.mk (Below.refl w.heap.size w)
 have H : (windlassref4_Copy.l0 k 0 l0_0 ([] : List (List (S82)))) = some r:=h
 clear h
 have H':=Aside0.mk H
 clear H
 go_enter Try.func17,Try.ntmps17
 go_wp2_with (first|((with_reducible refine gate_dst (N:=1) rfl ?_);refine box_event ?hg (N:=1) ?hd (cs:=#[.slice A0_0 l0_0.length c0_0]) (t:=27) ?hr ?_;(case hd => rfl);(case hg => rfl);(case hr => first|(go_simp;done)|(go_simp;rfl));intro gb215 hg w2 hbox hb;have BK215:=Aside0.mk (hbox);have GW215:=Aside0.mk ((by rw [hg];exact (below_size (bL0 HB)) : w.heap.size ≤ gb215));have GE215:=Aside0.mk ((by rw [hg];exact (below_size (bL0 HB)) : w.heap.size ≤ gb215));replace HB:=bS HB hb;clear hb hbox hg)|((with_reducible refine gate_dst (N:=2) rfl ?_);refine box_event ?hg (N:=2) ?hd (cs:=#[.slice none 0 0]) (t:=27) ?hr ?_;(case hd => rfl);(case hg => rfl);(case hr => first|(go_simp;done)|(go_simp;rfl));intro gb216 hg w3 hbox hb;have BK216:=Aside0.mk (hbox);have GW216:=Aside0.mk ((by rw [hg];exact (below_size (bL1 HB GE215)) : w.heap.size ≤ gb216));have GE216:=Aside0.mk ((by rw [hg];exact (below_size (bL1 HB GE215)) : w.heap.size ≤ gb216));replace HB:=Aside0.mk (below_step (bL1 HB GE215) hb);have NB215_216:=Aside0.mk ((by rw [hg];exact Nat.ne_of_lt (blk_lt (bK BK215)) : gb215 ≠ gb216));have NB216_215:=Aside0.mk ((by rw [hg];exact Nat.ne_of_gt (blk_lt (bK BK215)) : gb216 ≠ gb215));replace BK215:=bB BK215 hb;clear hb hbox hg)|((with_reducible refine gate_dst (N:=3) rfl ?_);refine box_event ?hg (N:=3) ?hd (cs:=#[.slice none 0 0]) (t:=27) ?hr ?_;(case hd => rfl);(case hg => rfl);(case hr => first|(go_simp;done)|(go_simp;rfl));intro gb217 hg w4 hbox hb;have BK217:=Aside0.mk (hbox);have GW217:=Aside0.mk ((by rw [hg];exact (below_size (bL2 HB GE215 GE216)) : w.heap.size ≤ gb217));have GE217:=Aside0.mk ((by rw [hg];exact (below_size (bL2 HB GE215 GE216)) : w.heap.size ≤ gb217));replace HB:=Aside0.mk (below_step (bL2 HB GE215 GE216) hb);have NB215_217:=Aside0.mk ((by rw [hg];exact Nat.ne_of_lt (blk_lt (bK BK215)) : gb215 ≠ gb217));have NB217_215:=Aside0.mk ((by rw [hg];exact Nat.ne_of_gt (blk_lt (bK BK215)) : gb217 ≠ gb215));replace BK215:=bB BK215 hb;have NB216_217:=Aside0.mk ((by rw [hg];exact Nat.ne_of_lt (blk_lt (bK BK216)) : gb216 ≠ gb217));have NB217_216:=Aside0.mk ((by rw [hg];exact Nat.ne_of_gt (blk_lt (bK BK216)) : gb217 ≠ gb216));replace BK216:=bB BK216 hb;clear hb hbox hg))
 go_loopg [4] k (fun kq v4 w' => ∃ (x4_1 : Int) (x218000_1 : List (List (S82))) (u218000 : Value),v4 = .int .i64 x4_1 ∧ Aside0 (windlassref4_Copy.l0 kq x4_1 l0_0 x218000_1 = some r) ∧ Aside0 (kq ≤ k) ∧ Aside0 (Kd.R (Kd.slice 82 k82) 41 w' w.heap.size (fun _ => True) u218000 x218000_1) ∧ Aside0 (w'.heap[gb215]? = some (.cells #[(.slice A0_0 l0_0.length c0_0)] 27 (0,0))) ∧ Aside0 (w'.heap[gb216]? = some (.cells #[(.slice none 0 0)] 27 (0,0))) ∧ Aside0 (w'.heap[gb217]? = some (.cells #[u218000] 27 (0,0))) ∧ Aside0 (Below w.heap.size w w'))
 case atStart => exact ⟨(0),(([] : List (List (S82)))),(.slice none 0 0),(by first|rfl|(simp;done)|(simp [*];done)),H',⟨Nat.le_refl _⟩,⟨by first|exact Kd.R_nil _ _ _ _ _|exact Kd.N_nil _ _ _ _ _|exact Kd.V_nil _ _ _ _ _|exact Kd.Q_nil _ _ _ _ _|exact Kd.S_nil _ _ _ _ _⟩,⟨by (with_reducible repeat (first|refine blk_drewN ?_ _|refine blk_drew ?_|refine blk_alloc ?_ _));exact BK215.out⟩,⟨by (with_reducible repeat (first|refine blk_drewN ?_ _|refine blk_drew ?_|refine blk_alloc ?_ _));exact BK216.out⟩,⟨by (with_reducible repeat (first|refine blk_drewN ?_ _|refine blk_drew ?_|refine blk_alloc ?_ _));exact BK217.out⟩,⟨by repeat (first|(with_reducible first|exact HB.out|apply below_alloc|apply pw_below_drewN|apply below_drew1|refine below_set ?_ GE215.out|refine below_set ?_ GE216.out|refine below_set ?_ GE217.out)|exact HB.out)⟩⟩
 case round =>
  clear H'
  try clear c1
  try clear p2
  obtain ⟨x4_1,x218000_1,u218000,rfl,HA,HK1,HO_218000,BK215,BK216,BK217,HB⟩:=hrel
  cases gk with
  | zero => exact absurd HA.out (by simp [windlassref4_Copy.l0])
  | succ k1 =>
   have H:=HA.out
   clear HA
   simp only [windlassref4_Copy.l0] at H
   by_cases c5 : x4_1 < (l0_0.length : Int)
   ·rw [if_pos c5] at H
    have c5b0 : decide (x4_1 < (l0_0.length : Int)) = true:=decide_eq_true c5
    clear c5
    have H':=Aside0.mk H
    clear H
    have hnb6:=NB215_216.out
    have hnc6:=NB216_215.out
    have hnb7:=NB215_217.out
    have hnc7:=NB217_215.out
    have hcz8_0 : wr.cell? ⟨gb215,0,none⟩ = some (.slice A0_0 l0_0.length c0_0):=(blk_cell BK215.out 0).trans rfl
    have hfz8_0:=blk_frozen BK215.out 0
    go_wp2
    go_loopg [5,6] k1 (fun kq v5 v6 w' => ∃ (x5_2 : List (S82)) (x6_2 : Int),v6 = .int .i64 x6_2 ∧ Aside0 (windlassref4_Copy.l1 kq x4_1 x5_2 x6_2 l0_0 x218000_1 = some r) ∧ Aside0 (kq ≤ k1) ∧ Aside0 (Kd.R k82 82 w' w.heap.size (fun _ => True) v5 x5_2) ∧ Aside0 (Kd.R (Kd.slice 82 k82) 41 w' w.heap.size (fun k_ => some k_ ≠ (v5 : Value).ownBlock) u218000 x218000_1) ∧ Aside0 (w'.heap[gb215]? = some (.cells #[(.slice A0_0 l0_0.length c0_0)] 27 (0,0))) ∧ Aside0 (w'.heap[gb216]? = some (.cells #[(.slice none 0 0)] 27 (0,0))) ∧ Aside0 (w'.heap[gb217]? = some (.cells #[u218000] 27 (0,0))) ∧ Aside0 (Below w.heap.size w w'))
    case atStart => exact ⟨(([] : List (S82))),(0),(by first|rfl|(simp;done)|(simp [*];done)),H',⟨Nat.le_refl _⟩,⟨by first|exact Kd.R_nil _ _ _ _ _|exact Kd.N_nil _ _ _ _ _|exact Kd.V_nil _ _ _ _ _|exact Kd.Q_nil _ _ _ _ _|exact Kd.S_nil _ _ _ _ _⟩,⟨by (with_reducible repeat (first|apply Kd.R_alloc|apply Kd.R_drewN|apply Kd.R_drew));exact Kd.R_mono HO_218000.out (fun _ hk => (by simp [Value.ownBlock]))⟩,⟨by (with_reducible repeat (first|refine blk_drewN ?_ _|refine blk_drew ?_|refine blk_alloc ?_ _));exact BK215.out⟩,⟨by (with_reducible repeat (first|refine blk_drewN ?_ _|refine blk_drew ?_|refine blk_alloc ?_ _));exact BK216.out⟩,⟨by (with_reducible repeat (first|refine blk_drewN ?_ _|refine blk_drew ?_|refine blk_alloc ?_ _));exact BK217.out⟩,⟨by repeat (first|(with_reducible first|exact HB.out|apply below_alloc|apply pw_below_drewN|apply below_drew1|refine below_set ?_ GE215.out|refine below_set ?_ GE216.out|refine below_set ?_ GE217.out)|exact HB.out)⟩⟩
    case round =>
     clear H'
     try clear c1
     try clear p2
     try clear c5
     try clear c5b0
     try clear c6
     try clear c7
     try clear hcz8_0
     try clear hfz8_0
     try clear p2
     obtain ⟨x5_2,x6_2,rfl,HA,HK2,HO_5,HO_218000,BK215,BK216,BK217,HB⟩:=hrel
     cases gk with
     | zero => exact absurd HA.out (by simp [windlassref4_Copy.l1])
     | succ k2 =>
      have H:=HA.out
      clear HA
      simp only [windlassref4_Copy.l1] at H
      by_cases c9 : 0 ≤ x4_1
      ·rw [if_pos c9] at H
       have c9b0 : decide (0 ≤ x4_1) = true:=decide_eq_true c9
       clear c9
       by_cases c10 : x4_1 < (l0_0.length : Int)
       ·rw [if_pos c10] at H
        have c10b0 : decide (x4_1 < (l0_0.length : Int)) = true:=decide_eq_true c10
        clear c10
        by_cases c11 : x6_2 < ((rd_L4 l0_0 x4_1).length : Int)
        ·rw [if_pos c11] at H
         have c11b0 : decide (x6_2 < ((rd_L4 l0_0 x4_1).length : Int)) = true:=decide_eq_true c11
         clear c11
         by_cases c12 : 0 ≤ x6_2
         ·rw [if_pos c12] at H
          have c12b0 : decide (0 ≤ x6_2) = true:=decide_eq_true c12
          clear c12
          replace H:=Option.bind_eq_some_iff.mp H
          obtain ⟨⟨t221,t222,t223,t224,t225⟩,A130,H⟩:=H
          replace H : ((windlassref4_own.f k2 ((rd_T82 (rd_L4 l0_0 x4_1) x6_2).f1.f0) ((rd_T82 (rd_L4 l0_0 x4_1) x6_2).f1.f1) ((rd_T82 (rd_L4 l0_0 x4_1) x6_2).f1.f2) ((rd_T82 (rd_L4 l0_0 x4_1) x6_2).f1.f3) ((rd_T82 (rd_L4 l0_0 x4_1) x6_2).f1.f4)).bind fun bt230 => (if x5_2.length < 1099511627776 then (windlassref4_Copy.l1 k2 x4_1 (x5_2 ++ [(⟨(⟨t221,t222,t223,t224,t225⟩ : S35),(⟨bt230.1,bt230.2.1,bt230.2.2.1,bt230.2.2.2.1,bt230.2.2.2.2⟩ : S35)⟩ : S82)]) (wrap64 (x6_2 + 1)) l0_0 x218000_1) else (none))) = some r:=H
          have A13:=Aside0.mk A130
          clear A130
          replace H:=Option.bind_eq_some_iff.mp H
          obtain ⟨⟨t230,t231,t232,t233,t234⟩,A140,H⟩:=H
          replace H : (if x5_2.length < 1099511627776 then (windlassref4_Copy.l1 k2 x4_1 (x5_2 ++ [(⟨(⟨t221,t222,t223,t224,t225⟩ : S35),(⟨t230,t231,t232,t233,t234⟩ : S35)⟩ : S82)]) (wrap64 (x6_2 + 1)) l0_0 x218000_1) else (none)) = some r:=H
          have A14:=Aside0.mk A140
          clear A140
          by_cases c15 : x5_2.length < 1099511627776
          ·rw [if_pos c15] at H
           have LMc15:=Aside0.mk c15
           clear c15
           obtain ⟨y237,hy237⟩ : ∃ y_ : List (S82),y_ = (x5_2 ++ [(⟨(⟨t221,t222,t223,t224,t225⟩ : S35),(⟨t230,t231,t232,t233,t234⟩ : S35)⟩ : S82)]):=⟨_,rfl⟩
           replace H : (windlassref4_Copy.l1 k2 x4_1 y237 (wrap64 (x6_2 + 1)) l0_0 x218000_1) = some r:=by first|(rw [hy237];with_reducible exact H)|(have H2_:=(Option.bind_some _ _).symm.trans H;rw [hy237];with_reducible exact H2_)|(have H2_:=(Option.bind_some _ _).symm.trans H;with_reducible exact H2_)|with_reducible exact H|(rw [hy237];exact H)|exact H
           have Ny237:=Aside0.mk hy237
           clear hy237
           have H':=Aside0.mk H
           clear H
           have hnb16:=NB215_216.out
           have hnc16:=NB216_215.out
           have hnb17:=NB215_217.out
           have hnc17:=NB217_215.out
           have hcz18_0 : wr.cell? ⟨gb215,0,none⟩ = some (.slice A0_0 l0_0.length c0_0):=(blk_cell BK215.out 0).trans rfl
           have hfz18_0:=blk_frozen BK215.out 0
           have p218 : 0 ≤ (x4_1 : Int):=of_decide_eq_true aX
           have q218 : x4_1 < (l0_0.length : Int):=of_decide_eq_true aX
           obtain ⟨ad218,A218_0,c218_0,e218,hx218_0,hl218_0,hi218_0⟩:=at_L4 HR0_0.out x4_1 p218 q218
           cases e218
           replace hx218_0:=cB HB hx218_0
           have HR218_0:=Aside0.mk hi218_0
           have HC218_0:=Aside0.mk hl218_0
           clear hi218_0 hl218_0
           replace p218:=eq_true p218
           replace q218:=eq_true q218
           try go_wp2
           replace HO_5:=Aside0.mk (Kd.R_drew HO_5.out)
           replace HO_218000:=Aside0.mk (Kd.R_drew HO_218000.out)
           replace BK215:=Aside0.mk (blk_drew BK215.out)
           replace BK216:=Aside0.mk (blk_drew BK216.out)
           replace BK217:=Aside0.mk (blk_drew BK217.out)
           replace HB:=Aside0.mk (below_drew1 HB.out)
           have p219 : 0 ≤ (x4_1 : Int):=of_decide_eq_true aX
           have q219 : x4_1 < (l0_0.length : Int):=of_decide_eq_true aX
           obtain ⟨ad219,A219_0,c219_0,e219,hx219_0,hl219_0,hi219_0⟩:=at_L4 HR0_0.out x4_1 p219 q219
           have hw219_0:=hx219_0
           obtain rfl : ad218 = ad219:=(by injection e219)
           replace hx219_0:=cB HB hx219_0
           have HR219_0:=Aside0.mk hi219_0
           have HC219_0:=Aside0.mk hl219_0
           clear hi219_0 hl219_0
           replace p219:=eq_true p219
           replace q219:=eq_true q219
           have p182 : 0 ≤ (x6_2 : Int):=of_decide_eq_true aX
           have q182 : x6_2 < ((rd_L4 l0_0 x4_1).length : Int):=of_decide_eq_true aX
           obtain ⟨ad182,A182_4,c182_4,A182_9,c182_9,e182,hx182_0,hx182_1,hx182_2,hx182_3,hx182_4,hx182_5,hx182_6,hx182_7,hx182_8,hx182_9,hl182_4,hi182_4,hl182_9,hi182_9⟩:=at_T82 HR219_0.out x6_2 p182 q182
           have hw182_9:=hx182_9
           have hw182_8:=hx182_8
           have hw182_7:=hx182_7
           have hw182_6:=hx182_6
           have hw182_5:=hx182_5
           have hw182_4:=hx182_4
           have hw182_3:=hx182_3
           have hw182_2:=hx182_2
           have hw182_1:=hx182_1
           have hw182_0:=hx182_0
           cases e182
           replace hx182_0:=cB HB hx182_0
           replace hx182_1:=cB HB hx182_1
           replace hx182_2:=cB HB hx182_2
           replace hx182_3:=cB HB hx182_3
           replace hx182_4:=cB HB hx182_4
           replace hx182_5:=cB HB hx182_5
           replace hx182_6:=cB HB hx182_6
           replace hx182_7:=cB HB hx182_7
           replace hx182_8:=cB HB hx182_8
           replace hx182_9:=cB HB hx182_9
           have HR182_4:=Aside0.mk hi182_4
           have HC182_4:=Aside0.mk hl182_4
           clear hi182_4 hl182_4
           have HR182_9:=Aside0.mk hi182_9
           have HC182_9:=Aside0.mk hl182_9
           clear hi182_9 hl182_9
           replace p182:=eq_true p182
           replace q182:=eq_true q182
           have p228 : 0 ≤ (x4_1 : Int):=of_decide_eq_true aX
           have q228 : x4_1 < (l0_0.length : Int):=of_decide_eq_true aX
           obtain ⟨ad228,A228_0,c228_0,e228,hx228_0,hl228_0,hi228_0⟩:=at_L4 HR0_0.out x4_1 p228 q228
           have hw228_0:=hx228_0
           obtain rfl : ad218 = ad228:=(by injection e228)
           replace hx228_0:=cB HB hx228_0
           have HR228_0:=Aside0.mk hi228_0
           have HC228_0:=Aside0.mk hl228_0
           clear hi228_0 hl228_0
           replace p228:=eq_true p228
           replace q228:=eq_true q228
           have ea_:=Option.some.inj (hx219_0.symm.trans hx228_0)
           injection ea_ with ea_ en_ ec_
           subst ea_
           subst ec_
           clear en_
           have p191 : 0 ≤ (x6_2 : Int):=of_decide_eq_true aX
           have q191 : x6_2 < ((rd_L4 l0_0 x4_1).length : Int):=of_decide_eq_true aX
           obtain ⟨ad191,A191_4,c191_4,A191_9,c191_9,e191,hx191_0,hx191_1,hx191_2,hx191_3,hx191_4,hx191_5,hx191_6,hx191_7,hx191_8,hx191_9,hl191_4,hi191_4,hl191_9,hi191_9⟩:=at_T82 HR228_0.out x6_2 p191 q191
           have hw191_9:=hx191_9
           have hw191_8:=hx191_8
           have hw191_7:=hx191_7
           have hw191_6:=hx191_6
           have hw191_5:=hx191_5
           have hw191_4:=hx191_4
           have hw191_3:=hx191_3
           have hw191_2:=hx191_2
           have hw191_1:=hx191_1
           have hw191_0:=hx191_0
           cases e191
           replace hx191_0:=cB HB hx191_0
           replace hx191_1:=cB HB hx191_1
           replace hx191_2:=cB HB hx191_2
           replace hx191_3:=cB HB hx191_3
           replace hx191_4:=cB HB hx191_4
           replace hx191_5:=cB HB hx191_5
           replace hx191_6:=cB HB hx191_6
           replace hx191_7:=cB HB hx191_7
           replace hx191_8:=cB HB hx191_8
           replace hx191_9:=cB HB hx191_9
           have ea_:=Option.some.inj (hx182_4.symm.trans hx191_4)
           injection ea_ with ea_ en_ ec_
           subst ea_
           subst ec_
           clear en_
           have ea_:=Option.some.inj (hx182_9.symm.trans hx191_9)
           injection ea_ with ea_ en_ ec_
           subst ea_
           subst ec_
           clear en_
           have HR191_4:=Aside0.mk hi191_4
           have HC191_4:=Aside0.mk hl191_4
           clear hi191_4 hl191_4
           have HR191_9:=Aside0.mk hi191_9
           have HC191_9:=Aside0.mk hl191_9
           clear hi191_9 hl191_9
           replace p191:=eq_true p191
           replace q191:=eq_true q191
           refine start_ (n:=25) (S:=fun w' => w'.cell? ⟨gb215,0,none⟩ = some (.slice (some ad218) l0_0.length c0_0) ∧ w'.cell? (ad218.add (x4_1).toNat) = some (.slice (some ad182) (rd_L4 l0_0 x4_1).length c219_0) ∧ w'.cell? (ad182.add ((x6_2).toNat * 10)) = some (.int .i64 ((rd_T82 (rd_L4 l0_0 x4_1) x6_2).f0.f0)) ∧ w'.cell? ⟨(ad182.add ((x6_2).toNat * 10)).block,(ad182.add ((x6_2).toNat * 10)).off + 1,none⟩ = some (.int .i64 ((rd_T82 (rd_L4 l0_0 x4_1) x6_2).f0.f1)) ∧ w'.cell? ⟨(ad182.add ((x6_2).toNat * 10)).block,(ad182.add ((x6_2).toNat * 10)).off + 2,none⟩ = some (.string ((rd_T82 (rd_L4 l0_0 x4_1) x6_2).f0.f2)) ∧ w'.cell? ⟨(ad182.add ((x6_2).toNat * 10)).block,(ad182.add ((x6_2).toNat * 10)).off + 3,none⟩ = some (.int .i64 ((rd_T82 (rd_L4 l0_0 x4_1) x6_2).f0.f3)) ∧ w'.cell? ⟨(ad182.add ((x6_2).toNat * 10)).block,(ad182.add ((x6_2).toNat * 10)).off + 4,none⟩ = some (.slice A182_4 ((rd_T82 (rd_L4 l0_0 x4_1) x6_2).f0.f4).length c182_4) ∧ w'.cell? ⟨(ad182.add ((x6_2).toNat * 10)).block,(ad182.add ((x6_2).toNat * 10)).off + 5,none⟩ = some (.int .i64 ((rd_T82 (rd_L4 l0_0 x4_1) x6_2).f1.f0)) ∧ w'.cell? ⟨(ad182.add ((x6_2).toNat * 10)).block,(ad182.add ((x6_2).toNat * 10)).off + 6,none⟩ = some (.int .i64 ((rd_T82 (rd_L4 l0_0 x4_1) x6_2).f1.f1)) ∧ w'.cell? ⟨(ad182.add ((x6_2).toNat * 10)).block,(ad182.add ((x6_2).toNat * 10)).off + 7,none⟩ = some (.string ((rd_T82 (rd_L4 l0_0 x4_1) x6_2).f1.f2)) ∧ w'.cell? ⟨(ad182.add ((x6_2).toNat * 10)).block,(ad182.add ((x6_2).toNat * 10)).off + 8,none⟩ = some (.int .i64 ((rd_T82 (rd_L4 l0_0 x4_1) x6_2).f1.f3)) ∧ w'.cell? ⟨(ad182.add ((x6_2).toNat * 10)).block,(ad182.add ((x6_2).toNat * 10)).off + 9,none⟩ = some (.slice A182_9 ((rd_T82 (rd_L4 l0_0 x4_1) x6_2).f1.f4).length c182_9) ∧ w'.cell? (ad218.add (x4_1).toNat) = some (.slice (some ad182) (rd_L4 l0_0 x4_1).length c219_0) ∧ w'.cell? (ad182.add ((x6_2).toNat * 10)) = some (.int .i64 ((rd_T82 (rd_L4 l0_0 x4_1) x6_2).f0.f0)) ∧ w'.cell? ⟨(ad182.add ((x6_2).toNat * 10)).block,(ad182.add ((x6_2).toNat * 10)).off + 1,none⟩ = some (.int .i64 ((rd_T82 (rd_L4 l0_0 x4_1) x6_2).f0.f1)) ∧ w'.cell? ⟨(ad182.add ((x6_2).toNat * 10)).block,(ad182.add ((x6_2).toNat * 10)).off + 2,none⟩ = some (.string ((rd_T82 (rd_L4 l0_0 x4_1) x6_2).f0.f2)) ∧ w'.cell? ⟨(ad182.add ((x6_2).toNat * 10)).block,(ad182.add ((x6_2).toNat * 10)).off + 3,none⟩ = some (.int .i64 ((rd_T82 (rd_L4 l0_0 x4_1) x6_2).f0.f3)) ∧ w'.cell? ⟨(ad182.add ((x6_2).toNat * 10)).block,(ad182.add ((x6_2).toNat * 10)).off + 4,none⟩ = some (.slice A182_4 ((rd_T82 (rd_L4 l0_0 x4_1) x6_2).f0.f4).length c182_4) ∧ w'.cell? ⟨(ad182.add ((x6_2).toNat * 10)).block,(ad182.add ((x6_2).toNat * 10)).off + 5,none⟩ = some (.int .i64 ((rd_T82 (rd_L4 l0_0 x4_1) x6_2).f1.f0)) ∧ w'.cell? ⟨(ad182.add ((x6_2).toNat * 10)).block,(ad182.add ((x6_2).toNat * 10)).off + 6,none⟩ = some (.int .i64 ((rd_T82 (rd_L4 l0_0 x4_1) x6_2).f1.f1)) ∧ w'.cell? ⟨(ad182.add ((x6_2).toNat * 10)).block,(ad182.add ((x6_2).toNat * 10)).off + 7,none⟩ = some (.string ((rd_T82 (rd_L4 l0_0 x4_1) x6_2).f1.f2)) ∧ w'.cell? ⟨(ad182.add ((x6_2).toNat * 10)).block,(ad182.add ((x6_2).toNat * 10)).off + 8,none⟩ = some (.int .i64 ((rd_T82 (rd_L4 l0_0 x4_1) x6_2).f1.f3)) ∧ w'.cell? ⟨(ad182.add ((x6_2).toNat * 10)).block,(ad182.add ((x6_2).toNat * 10)).off + 9,none⟩ = some (.slice A182_9 ((rd_T82 (rd_L4 l0_0 x4_1) x6_2).f1.f4).length c182_9)) (ds:=[]) #[fF,fF,fF,fF,fF,fF,fF,fF,fF,fF,fF,fF,fF,fF,fF,fF,fF,fF,fF,fF,fF,fF,fF,fF,fF] (by kernel_rfl) rfl rfl ⟨(blk_cell BK215.out 0).trans rfl,(cB HB hw219_0),(cB HB hw182_0),(cB HB hw182_1),(cB HB hw182_2),(cB HB hw182_3),(cB HB hw182_4),(cB HB hw182_5),(cB HB hw182_6),(cB HB hw182_7),(cB HB hw182_8),(cB HB hw182_9),(cB HB hw228_0),(cB HB hw191_0),(cB HB hw191_1),(cB HB hw191_2),(cB HB hw191_3),(cB HB hw191_4),(cB HB hw191_5),(cB HB hw191_6),(cB HB hw191_7),(cB HB hw191_8),(cB HB hw191_9)⟩ (fun hHeld => ?_);refine with_tabW windlassref4_Copy.tab9 windlassref4_Copy.bits9 (fun HT_ HW_ => ?_)
           generalize wr.drew = w19 at HO_5 HO_218000 BK215 BK216 BK217 HB HR219_0 HR182_4 HR182_9 HR228_0 HR191_4 HR191_9 hx219_0 hx182_0 hx182_1 hx182_2 hx182_3 hx182_4 hx182_5 hx182_6 hx182_7 hx182_8 hx182_9 hx228_0 hx191_0 hx191_1 hx191_2 hx191_3 hx191_4 hx191_5 hx191_6 hx191_7 hx191_8 hx191_9 hHeld ⊢
           refine pU 0 (some 24) HT_ rfl ?_
           refine pU 1 (some 25) HT_ rfl ?_
           refine pU 3 (some 27) HT_ rfl ?_
           refine pU 6 (some 30) HT_ rfl ?_
           refine pU 11 (some 35) HT_ rfl ?_
           refine pU 13 (some 37) HT_ rfl ?_
           refine pU 16 (some 40) HT_ rfl ?_
           refine tA 2 (some 26) HT_ HW_ hHeld rfl ?_
           refine pU 4 (some 28) HT_ rfl ?_
           refine tA 5 (some 29) HT_ HW_ hHeld rfl ?_
           refine pU 7 (some 31) HT_ rfl ?_
           refine pU 8 (some 32) HT_ rfl ?_
           refine tA 9 (some 33) HT_ HW_ hHeld rfl ?_
           refine tA 12 (some 36) HT_ HW_ hHeld rfl ?_
           refine pU 14 (some 38) HT_ rfl ?_
           refine tA 15 (some 39) HT_ HW_ hHeld rfl ?_
           refine pU 17 (some 41) HT_ rfl ?_
           refine pU 18 (some 42) HT_ rfl ?_
           refine tA 19 (some 43) HT_ HW_ hHeld rfl ?_
           refine oN 10 (some 34) HT_ rfl (fun K hK => ?_)
           refine goes_ Try.func42 (by kernel_rfl) rfl #[.agg #[.int .i64 ((rd_T82 (rd_L4 l0_0 x4_1) x6_2).f0.f0), .int .i64 ((rd_T82 (rd_L4 l0_0 x4_1) x6_2).f0.f1), .string ((rd_T82 (rd_L4 l0_0 x4_1) x6_2).f0.f2), .int .i64 ((rd_T82 (rd_L4 l0_0 x4_1) x6_2).f0.f3), .slice A182_4 ((rd_T82 (rd_L4 l0_0 x4_1) x6_2).f0.f4).length c182_4]] (by rfl) rfl rfl aG ?_
           with_reducible refine (windlassref4_own.calls k2 ((rd_T82 (rd_L4 l0_0 x4_1) x6_2).f0.f0) ((rd_T82 (rd_L4 l0_0 x4_1) x6_2).f0.f1) ((rd_T82 (rd_L4 l0_0 x4_1) x6_2).f0.f2) ((rd_T82 (rd_L4 l0_0 x4_1) x6_2).f0.f3) _ _ ((rd_T82 (rd_L4 l0_0 x4_1) x6_2).f0.f4) t221 t222 t223 t224 t225 _ ?side1 ?side2 A13.out).mono ?_
           (case side1 => repeat (first|exact (Kd.C_below HR182_4.out HB.out)|(with_reducible refine Kd.C_alloc ?_ _)|(with_reducible refine Kd.C_drewN ?_ _)|(with_reducible refine Kd.C_drew ?_)))
           (case side2 => exact HC182_4.out)
           rintro e w20 ⟨v226,rfl,ho0,hb⟩
           refine ⟨_,rfl,?_⟩
           replace HO_5:=Aside0.mk (Kd.R_elder' (rK HO_5) (Kd.R_base ho0) hb)
           replace HO_218000:=Aside0.mk (Kd.R_elder' (rK HO_218000) (Kd.R_base ho0) hb)
           have HO227:=Aside0.mk (Kd.R_lower ho0 (below_size (bL3 HB GE215 GE216 GE217)))
           replace BK215:=bB BK215 hb
           replace BK216:=bB BK216 hb
           replace BK217:=bB BK217 hb
           replace HB:=Aside0.mk (below_step (bL3 HB GE215 GE216 GE217) hb)
           (try clear hb)
           (try clear hb2)
           (try clear hk)
           (try clear hi)
           (try clear ho0)
           refine hK.out _ _ ⟨(blk_cell BK215.out 0).trans rfl,(cB HB hw219_0),(cB HB hw182_0),(cB HB hw182_1),(cB HB hw182_2),(cB HB hw182_3),(cB HB hw182_4),(cB HB hw182_5),(cB HB hw182_6),(cB HB hw182_7),(cB HB hw182_8),(cB HB hw182_9),(cB HB hw228_0),(cB HB hw191_0),(cB HB hw191_1),(cB HB hw191_2),(cB HB hw191_3),(cB HB hw191_4),(cB HB hw191_5),(cB HB hw191_6),(cB HB hw191_7),(cB HB hw191_8),(cB HB hw191_9)⟩ (fun hHeld => ?_)
           clear hK K
           refine nO ?_
           refine oN 20 (some 44) HT_ rfl (fun K hK => ?_)
           refine goes_ Try.func42 (by kernel_rfl) rfl #[.agg #[.int .i64 ((rd_T82 (rd_L4 l0_0 x4_1) x6_2).f1.f0), .int .i64 ((rd_T82 (rd_L4 l0_0 x4_1) x6_2).f1.f1), .string ((rd_T82 (rd_L4 l0_0 x4_1) x6_2).f1.f2), .int .i64 ((rd_T82 (rd_L4 l0_0 x4_1) x6_2).f1.f3), .slice A182_9 ((rd_T82 (rd_L4 l0_0 x4_1) x6_2).f1.f4).length c182_9]] (by rfl) rfl rfl aG ?_
           with_reducible refine (windlassref4_own.calls k2 ((rd_T82 (rd_L4 l0_0 x4_1) x6_2).f1.f0) ((rd_T82 (rd_L4 l0_0 x4_1) x6_2).f1.f1) ((rd_T82 (rd_L4 l0_0 x4_1) x6_2).f1.f2) ((rd_T82 (rd_L4 l0_0 x4_1) x6_2).f1.f3) _ _ ((rd_T82 (rd_L4 l0_0 x4_1) x6_2).f1.f4) t230 t231 t232 t233 t234 _ ?side1 ?side2 A14.out).mono ?_
           (case side1 => repeat (first|exact (Kd.C_below HR191_9.out HB.out)|(with_reducible refine Kd.C_alloc ?_ _)|(with_reducible refine Kd.C_drewN ?_ _)|(with_reducible refine Kd.C_drew ?_)))
           (case side2 => exact HC191_9.out)
           rintro e w21 ⟨v235,rfl,ho0,hb⟩
           refine ⟨_,rfl,?_⟩
           replace HO_5:=Aside0.mk (Kd.R_elder' (rK HO_5) (Kd.R_base ho0) hb)
           replace HO_218000:=Aside0.mk (Kd.R_elder' (rK HO_218000) (Kd.R_base ho0) hb)
           have HO236:=Aside0.mk (Kd.R_lower (Kd.R_new' ho0 (Kd.R_lt (rK HO227))) (below_size (bL3 HB GE215 GE216 GE217)))
           replace HO227:=Aside0.mk (Kd.R_elder' (rK HO227) (Kd.R_base ho0) hb)
           replace BK215:=bB BK215 hb
           replace BK216:=bB BK216 hb
           replace BK217:=bB BK217 hb
           replace HB:=Aside0.mk (below_step (bL3 HB GE215 GE216 GE217) hb)
           (try clear hb)
           (try clear hb2)
           (try clear hk)
           (try clear hi)
           (try clear ho0)
           obtain ⟨Ao22,co22,eo22⟩:=Kd.R_slice HO236.out
           (first|subst eo22|(injection eo22 with f1_ f2_ f3_;have f4_:=f1_.symm;have f5_:=f3_.symm;clear f1_ f2_ f3_;subst f4_;subst f5_))
           obtain ⟨Ao23,co23,eo23⟩:=Kd.R_slice HO227.out
           (first|subst eo23|(injection eo23 with f1_ f2_ f3_;have f4_:=f1_.symm;have f5_:=f3_.symm;clear f1_ f2_ f3_;subst f4_;subst f5_))
           refine hK.out _ _ ⟨(blk_cell BK215.out 0).trans rfl,(cB HB hw219_0),(cB HB hw182_0),(cB HB hw182_1),(cB HB hw182_2),(cB HB hw182_3),(cB HB hw182_4),(cB HB hw182_5),(cB HB hw182_6),(cB HB hw182_7),(cB HB hw182_8),(cB HB hw182_9),(cB HB hw228_0),(cB HB hw191_0),(cB HB hw191_1),(cB HB hw191_2),(cB HB hw191_3),(cB HB hw191_4),(cB HB hw191_5),(cB HB hw191_6),(cB HB hw191_7),(cB HB hw191_8),(cB HB hw191_9)⟩ (fun hHeld => ?_)
           clear hK K
           refine nO ?_
           refine pU 21 (some 45) HT_ rfl ?_
           refine oN 22 (some 46) HT_ rfl (fun K hK => ?_)
           refine value_ (w1:=?_) (v:=?_) (by rfl) rfl ?_ ?_
           rotate_left 2
           ·go_simp
            constructor
            ·rfl
            rfl
           refine hK.out _ _ ⟨(blk_cell (blk_alloc BK215.out _) 0).trans rfl,(World.cell?_alloc_lt _ _ _ (World.block_lt_of_cell? _ _ ((cB HB hw219_0)))).trans ((cB HB hw219_0)),(World.cell?_alloc_lt _ _ _ (World.block_lt_of_cell? _ _ ((cB HB hw182_0)))).trans ((cB HB hw182_0)),(World.cell?_alloc_lt _ _ _ (World.block_lt_of_cell? _ _ ((cB HB hw182_1)))).trans ((cB HB hw182_1)),(World.cell?_alloc_lt _ _ _ (World.block_lt_of_cell? _ _ ((cB HB hw182_2)))).trans ((cB HB hw182_2)),(World.cell?_alloc_lt _ _ _ (World.block_lt_of_cell? _ _ ((cB HB hw182_3)))).trans ((cB HB hw182_3)),(World.cell?_alloc_lt _ _ _ (World.block_lt_of_cell? _ _ ((cB HB hw182_4)))).trans ((cB HB hw182_4)),(World.cell?_alloc_lt _ _ _ (World.block_lt_of_cell? _ _ ((cB HB hw182_5)))).trans ((cB HB hw182_5)),(World.cell?_alloc_lt _ _ _ (World.block_lt_of_cell? _ _ ((cB HB hw182_6)))).trans ((cB HB hw182_6)),(World.cell?_alloc_lt _ _ _ (World.block_lt_of_cell? _ _ ((cB HB hw182_7)))).trans ((cB HB hw182_7)),(World.cell?_alloc_lt _ _ _ (World.block_lt_of_cell? _ _ ((cB HB hw182_8)))).trans ((cB HB hw182_8)),(World.cell?_alloc_lt _ _ _ (World.block_lt_of_cell? _ _ ((cB HB hw182_9)))).trans ((cB HB hw182_9)),(World.cell?_alloc_lt _ _ _ (World.block_lt_of_cell? _ _ ((cB HB hw228_0)))).trans ((cB HB hw228_0)),(World.cell?_alloc_lt _ _ _ (World.block_lt_of_cell? _ _ ((cB HB hw191_0)))).trans ((cB HB hw191_0)),(World.cell?_alloc_lt _ _ _ (World.block_lt_of_cell? _ _ ((cB HB hw191_1)))).trans ((cB HB hw191_1)),(World.cell?_alloc_lt _ _ _ (World.block_lt_of_cell? _ _ ((cB HB hw191_2)))).trans ((cB HB hw191_2)),(World.cell?_alloc_lt _ _ _ (World.block_lt_of_cell? _ _ ((cB HB hw191_3)))).trans ((cB HB hw191_3)),(World.cell?_alloc_lt _ _ _ (World.block_lt_of_cell? _ _ ((cB HB hw191_4)))).trans ((cB HB hw191_4)),(World.cell?_alloc_lt _ _ _ (World.block_lt_of_cell? _ _ ((cB HB hw191_5)))).trans ((cB HB hw191_5)),(World.cell?_alloc_lt _ _ _ (World.block_lt_of_cell? _ _ ((cB HB hw191_6)))).trans ((cB HB hw191_6)),(World.cell?_alloc_lt _ _ _ (World.block_lt_of_cell? _ _ ((cB HB hw191_7)))).trans ((cB HB hw191_7)),(World.cell?_alloc_lt _ _ _ (World.block_lt_of_cell? _ _ ((cB HB hw191_8)))).trans ((cB HB hw191_8)),(World.cell?_alloc_lt _ _ _ (World.block_lt_of_cell? _ _ ((cB HB hw191_9)))).trans ((cB HB hw191_9))⟩ (fun hHeld => ?_)
           clear hK K
           refine nO ?_
           refine oN 23 (some 47) HT_ rfl (fun K hK => ?_)
           refine Kd.R_append_step k82 (w0:=w) w.heap.size (by rfl) (.tmp 24) (.tmp 46) 41 82 (.agg #[(.int .i64 0),(.int .i64 0),(.string ⟨#[]⟩),(.int .i64 0),(.slice none 0 0),(.int .i64 0),(.int .i64 0),(.string ⟨#[]⟩),(.int .i64 0),(.slice none 0 0)]) 128 rfl Try.underlying41 info82 rfl (by decide) (by omega) u5 x5_2 (⟨(⟨t221,t222,t223,t224,t225⟩ : S35),(⟨t230,t231,t232,t233,t234⟩ : S35)⟩ : S82) [.int .i64 t221, .int .i64 t222, .string t223, .int .i64 t224, .slice Ao23 t225.length co23, .int .i64 t230, .int .i64 t231, .string t232, .int .i64 t233, .slice Ao22 t234.length co22] (fun _ => True) (fun k_ => ((fun _ => True)) k_ ∧ some k_ ≠ (u5 : Value).ownBlock) rfl rfl ?aP (fun _ hk => hk) ?aF ?aO ?aB ?aS ?aL ?_
           (case aP => exact k82_mkM _ _ _ (⟨(⟨t221,t222,t223,t224,t225⟩ : S35),(⟨t230,t231,t232,t233,t234⟩ : S35)⟩ : S82) (Kd.R_mono (Kd.R_apart' (HO227.out) (Kd.R_typed HO_5.out) (by decide)) (fun k_ hk => ⟨trivial,hk.2⟩)) (Kd.R_mono (Kd.R_apart' (HO236.out) (Kd.R_typed HO_5.out) (by decide)) (fun k_ hk => ⟨trivial,hk.2⟩)))
           (case aB => exact (bL3 HB GE215 GE216 GE217))
           (case aF => exact (fun _ _ => trivial))
           (case aO => exact (by (with_reducible repeat (first|apply Kd.R_alloc|apply Kd.R_drewN|apply Kd.R_drew));exact Kd.R_mono HO_5.out (fun _ hk => trivial)))
           (case aS => exact (below_size (bL3 HB GE215 GE216 GE217)))
           (case aL => have:=LMc15.out;omega)
           intro v238 w24 ho hb hg hat
           rw [← Ny237.out] at ho
           have n0_:=Aside0.mk (Kd.R_after (ok:=(fun k_ => some k_ ≠ (.slice Ao23 t225.length co23 : Value).ownBlock ∧ some k_ ≠ (.slice Ao22 t234.length co22 : Value).ownBlock)) (by (with_reducible repeat (first|apply Kd.R_alloc|apply Kd.R_drewN|apply Kd.R_drew));exact Kd.R_mono HO_218000.out (fun _ hk => ⟨⟨hk.1.2,hk.2⟩,hk.1.1⟩)) hg hat)
           have n1_:=Aside0.mk (blk_grown (bK BK215) hg (Kd.R_ne HO_5.out BK215.out (by decide)))
           have n2_:=Aside0.mk (blk_grown (bK BK216) hg (Kd.R_ne HO_5.out BK216.out (by decide)))
           have n3_:=Aside0.mk (blk_grown (bK BK217) hg (Kd.R_ne HO_5.out BK217.out (by decide)))
           have n4_:=Aside0.mk (hb)
           have n5_:=Aside0.mk (ho)
           clear HO_218000
           clear BK215
           clear BK216
           clear BK217
           clear HB
           clear HO_5
           clear HO227
           clear HO236
           have HO_218000:=n0_
           have BK215:=n1_
           have BK216:=n2_
           have BK217:=n3_
           have HB:=n4_
           have HO239:=n5_
           clear n0_ n1_ n2_ n3_ n4_ n5_
           clear ho hb hg hat
           refine hK.out _ _ ⟨(blk_cell BK215.out 0).trans rfl,(cB HB hw219_0),(cB HB hw182_0),(cB HB hw182_1),(cB HB hw182_2),(cB HB hw182_3),(cB HB hw182_4),(cB HB hw182_5),(cB HB hw182_6),(cB HB hw182_7),(cB HB hw182_8),(cB HB hw182_9),(cB HB hw228_0),(cB HB hw191_0),(cB HB hw191_1),(cB HB hw191_2),(cB HB hw191_3),(cB HB hw191_4),(cB HB hw191_5),(cB HB hw191_6),(cB HB hw191_7),(cB HB hw191_8),(cB HB hw191_9)⟩ (fun hHeld => ?_)
           clear hK K
           refine nO ?_
           refine pU 24 (some 5) HT_ rfl ?_
           refine done_ (done_of HT_.out (by kernel_rfl)) ?_
           try go_wp2
           go_roundg k2
           case measure => have:=HK1.out;have:=HK2.out;omega
           case rel => exact ⟨(y237),(wrap64 (x6_2 + 1)),(by first|rfl|(simp;done)|(simp [*];done)),H',⟨by have:=HK1.out;have:=HK2.out;omega⟩,⟨by (with_reducible repeat (first|apply Kd.R_alloc|apply Kd.R_drewN|apply Kd.R_drew));exact HO239.out⟩,⟨by (with_reducible repeat (first|apply Kd.R_alloc|apply Kd.R_drewN|apply Kd.R_drew));exact Kd.R_mono HO_218000.out (fun _ hk => hk.2)⟩,⟨by (with_reducible repeat (first|refine blk_drewN ?_ _|refine blk_drew ?_|refine blk_alloc ?_ _));exact BK215.out⟩,⟨by (with_reducible repeat (first|refine blk_drewN ?_ _|refine blk_drew ?_|refine blk_alloc ?_ _));exact BK216.out⟩,⟨by (with_reducible repeat (first|refine blk_drewN ?_ _|refine blk_drew ?_|refine blk_alloc ?_ _));exact BK217.out⟩,⟨by repeat (first|(with_reducible first|exact HB.out|apply below_alloc|apply pw_below_drewN|apply below_drew1|refine below_set ?_ GE215.out|refine below_set ?_ GE216.out|refine below_set ?_ GE217.out)|exact HB.out)⟩⟩
          rw [if_neg c15] at H
          exact absurd H (by simp)
         rw [if_neg c12] at H
         exact absurd H (by simp)
        rw [if_neg c11] at H
        have c11b0 : decide (x6_2 < ((rd_L4 l0_0 x4_1).length : Int)) = false:=decide_eq_false c11
        clear c11
        by_cases c25 : x218000_1.length < 5864062014805
        ·rw [if_pos c25] at H
         have LMc25:=Aside0.mk c25
         clear c25
         obtain ⟨y240,hy240⟩ : ∃ y_ : List (List (S82)),y_ = (x218000_1 ++ [x5_2]):=⟨_,rfl⟩
         replace H : (windlassref4_Copy.l0 k2 (wrap64 (x4_1 + 1)) l0_0 y240) = some r:=by first|(rw [hy240];with_reducible exact H)|(have H2_:=(Option.bind_some _ _).symm.trans H;rw [hy240];with_reducible exact H2_)|(have H2_:=(Option.bind_some _ _).symm.trans H;with_reducible exact H2_)|with_reducible exact H|(rw [hy240];exact H)|exact H
         have Ny240:=Aside0.mk hy240
         clear hy240
         have H':=Aside0.mk H
         clear H
         have hnb26:=NB215_216.out
         have hnc26:=NB216_215.out
         have hnb27:=NB215_217.out
         have hnc27:=NB217_215.out
         have hcz28_0 : wr.cell? ⟨gb215,0,none⟩ = some (.slice A0_0 l0_0.length c0_0):=(blk_cell BK215.out 0).trans rfl
         have hfz28_0:=blk_frozen BK215.out 0
         have p218 : 0 ≤ (x4_1 : Int):=of_decide_eq_true aX
         have q218 : x4_1 < (l0_0.length : Int):=of_decide_eq_true aX
         obtain ⟨ad218,A218_0,c218_0,e218,hx218_0,hl218_0,hi218_0⟩:=at_L4 HR0_0.out x4_1 p218 q218
         cases e218
         replace hx218_0:=cB HB hx218_0
         have HR218_0:=Aside0.mk hi218_0
         have HC218_0:=Aside0.mk hl218_0
         clear hi218_0 hl218_0
         replace p218:=eq_true p218
         replace q218:=eq_true q218
         have hnb29:=NB217_216.out
         have hnc29:=NB216_217.out
         have hcz30_0 : wr.cell? ⟨gb217,0,none⟩ = some (u218000):=(blk_cell BK217.out 0).trans rfl
         have hfz30_0:=blk_frozen BK217.out 0
         obtain ⟨Ao32,co32,eo32⟩:=Kd.R_slice HO_5.out
         subst eo32
         go_wp2_with (first|((with_reducible refine gate_builtin (b := .append) (xs:=#[.tmp 49, .tmp 51]) rfl ?_);at_builtin;refine Kd.R_append (Kd.slice 82 k82) (w0:=w) w.heap.size rfl (.tmp 49) (.tmp 51) 25 41 (.slice none 0 0) 24 rfl Try.underlying25 info41 rfl (by decide) (by omega) u218000 x218000_1 x5_2 [.slice Ao32 x5_2.length co32] (fun _ => True) (fun k_ => ((fun _ => True)) k_ ∧ some k_ ≠ (u218000 : Value).ownBlock) rfl rfl ?aP (fun _ hk => hk) ?aF ?aO ?aB ?aS ?aL ?_;(case aP => exact Kd.M_row (Kd.R_mono (Kd.R_apart' (HO_5.out) (Kd.R_typed HO_218000.out) (by decide)) (fun k_ hk => ⟨trivial,hk.2⟩)));(case aB => exact (bL3 HB GE215 GE216 GE217));(case aF => exact (fun _ _ => trivial));(case aO => exact (by (with_reducible repeat (first|apply Kd.R_alloc|apply Kd.R_drewN|apply Kd.R_drew));exact Kd.R_mono HO_218000.out (fun _ hk => trivial)));(case aS => exact (below_size (bL3 HB GE215 GE216 GE217)));(case aL => have:=LMc25.out;omega);intro v241 w31 ho hb hg hat;rw [← Ny240.out] at ho;have n0_:=Aside0.mk (blk_grown (bK BK215) hg (Kd.R_ne HO_218000.out BK215.out (by decide)));have n1_:=Aside0.mk (blk_grown (bK BK216) hg (Kd.R_ne HO_218000.out BK216.out (by decide)));have n2_:=Aside0.mk (blk_grown (bK BK217) hg (Kd.R_ne HO_218000.out BK217.out (by decide)));have n3_:=Aside0.mk (hb);have n4_:=Aside0.mk (ho);clear BK215;clear BK216;clear BK217;clear HB;clear HO_218000;clear HO_5;have BK215:=n0_;have BK216:=n1_;have BK217:=n2_;have HB:=n3_;have HO242:=n4_;clear n0_ n1_ n2_ n3_ n4_;clear ho hb hg hat;obtain ⟨Ao33,co33,eo33⟩:=Kd.R_slice HO242.out;subst eo33;have hcz34_0 : w31.cell? ⟨gb217,0,none⟩ = some (u218000):=(blk_cell BK217.out 0).trans rfl;have hfz34_0:=blk_frozen BK217.out 0))
         go_roundg k2
         case measure => have:=HK1.out;have:=HK2.out;omega
         case rel => exact ⟨(wrap64 (x4_1 + 1)),(y240),(.slice Ao33 y240.length co33),(by first|rfl|(simp;done)|(simp [*];done)),H',⟨by have:=HK1.out;have:=HK2.out;omega⟩,⟨by (with_reducible repeat (first|apply Kd.R_alloc|apply Kd.R_drewN|apply Kd.R_drew));exact Kd.R_mono (Kd.R_far (p:=⟨gb217,0,none⟩) (Kd.R_types HO242.out BK217.out (by decide)) (fun _ hk => hk.2) (.slice Ao33 y240.length co33)) (fun _ hk => trivial)⟩,⟨by (with_reducible repeat (first|refine blk_drewN ?_ _|refine blk_drew ?_|refine blk_alloc ?_ _));refine blk_far ?_ NB215_217.out _;(with_reducible repeat (first|refine blk_drewN ?_ _|refine blk_drew ?_|refine blk_alloc ?_ _));exact BK215.out⟩,⟨by (with_reducible repeat (first|refine blk_drewN ?_ _|refine blk_drew ?_|refine blk_alloc ?_ _));refine blk_far ?_ NB216_217.out _;(with_reducible repeat (first|refine blk_drewN ?_ _|refine blk_drew ?_|refine blk_alloc ?_ _));exact BK216.out⟩,⟨by (with_reducible repeat (first|refine blk_drewN ?_ _|refine blk_drew ?_|refine blk_alloc ?_ _));refine blk_put (cs:=#[u218000]) ?_ 0 _ rfl;(with_reducible repeat (first|refine blk_drewN ?_ _|refine blk_drew ?_|refine blk_alloc ?_ _));exact BK217.out⟩,⟨by repeat (first|(with_reducible first|exact HB.out|apply below_alloc|apply pw_below_drewN|apply below_drew1|refine below_set ?_ GE215.out|refine below_set ?_ GE216.out|refine below_set ?_ GE217.out)|exact HB.out)⟩⟩
        rw [if_neg c25] at H
        exact absurd H (by simp)
       rw [if_neg c10] at H
       exact absurd H (by simp)
      rw [if_neg c9] at H
      exact absurd H (by simp)
   rw [if_neg c5] at H
   have c5b0 : decide (x4_1 < (l0_0.length : Int)) = false:=decide_eq_false c5
   clear c5
   obtain rfl:=Option.some.inj H
   have hnb35:=NB215_216.out
   have hnc35:=NB216_215.out
   have hnb36:=NB215_217.out
   have hnc36:=NB217_215.out
   have hcz37_0 : wr.cell? ⟨gb215,0,none⟩ = some (.slice A0_0 l0_0.length c0_0):=(blk_cell BK215.out 0).trans rfl
   have hfz37_0:=blk_frozen BK215.out 0
   have hnb38:=NB217_216.out
   have hnc38:=NB216_217.out
   have hcz39_0 : wr.cell? ⟨gb217,0,none⟩ = some (u218000):=(blk_cell BK217.out 0).trans rfl
   have hfz39_0:=blk_frozen BK217.out 0
   obtain ⟨Ao40,co40,eo40⟩:=Kd.R_slice HO_218000.out
   subst eo40
   have hcz41_0 : wr.cell? ⟨gb216,0,none⟩ = some (.slice none 0 0):=(blk_cell BK216.out 0).trans rfl
   have hfz41_0:=blk_frozen BK216.out 0
   go_wp2
   refine bodyPost_ret (results_cell_row rfl _ _ gb216 27 #[.slice Ao40 x218000_1.length co40] (0,0) _ rfl (by (with_reducible repeat (first|refine blk_drewN ?_ _|refine blk_drew ?_|refine blk_alloc ?_ _));refine blk_put (cs:=#[.slice none 0 0]) ?_ 0 _ rfl;(with_reducible repeat (first|refine blk_drewN ?_ _|refine blk_drew ?_|refine blk_alloc ?_ _));exact BK216.out) Try.underlying27 rfl (by kernel_rfl)) rfl ?_
   exact ⟨_,by first|rfl|(simp [errW_none,errW_some] <;> rfl)|(simp [*,errW_none,errW_some] <;> rfl),by (with_reducible repeat (first|apply Kd.R_alloc|apply Kd.R_drewN|apply Kd.R_drew));exact Kd.R_mono (Kd.R_far (p:=⟨gb216,0,none⟩) (Kd.R_types HO_218000.out BK216.out (by decide)) (fun _ hk => hk.2) (.slice Ao40 x218000_1.length co40)) (fun _ hk => trivial),by repeat (first|(with_reducible first|exact HB.out|apply below_alloc|apply pw_below_drewN|apply below_drew1|refine below_set ?_ GE215.out|refine below_set ?_ GE216.out|refine below_set ?_ GE217.out)|exact HB.out)⟩

end Go.Proofs.Ytnokieaebnmljaa.PAll
-- Laid by a program of this seat (wip/xprint.py over the kit's print).
namespace Go.Proofs.Ytnokieaebnmljaa.PAll
open Go.RowKit Go.Proofs.YtnokieaebnmljaaW.PrintWords Go.Proofs.YtnokieaebnmljaaW.PrintLast Go.Proofs.YtnokieaebnmljaaW.PrintMore
attribute [local go_sem] max2_int min2_int max_two min_two max_three min_three max_four min_four   -- for this text's walks alone
set_option linter.unusedVariables false
set_option linter.unusedSimpArgs false

/-! ### windlassref4_Same: function 19 -/
mutual
def windlassref4_Same.l0 : Nat → Int → List (List (S82)) → List (List (S82)) → Option (Bool)
 | 0,_,_,_ => none
 | k + 1,x5,x272000,x273000 => if x5 < (x272000.length : Int) then (if 0 ≤ x5 then (if x5 < (x273000.length : Int) then (if ((rd_L4 x272000 x5).length : Int) = ((rd_L4 x273000 x5).length : Int) then (windlassref4_Same.l1 k x5 0 x272000 x273000) else (some false)) else (none)) else (none)) else (some true)
def windlassref4_Same.l1 : Nat → Int → Int → List (List (S82)) → List (List (S82)) → Option (Bool)
 | 0,_,_,_,_ => none
 | k + 1,x5,x6,x272000,x273000 => if 0 ≤ x5 then (if x5 < (x272000.length : Int) then (if x6 < ((rd_L4 x272000 x5).length : Int) then (if 0 ≤ x6 then (if x5 < (x273000.length : Int) then (if x6 < ((rd_L4 x273000 x5).length : Int) then ((windlassref3_Same.f k ((rd_T82 (rd_L4 x272000 x5) x6).f0.f0) ((rd_T82 (rd_L4 x272000 x5) x6).f0.f1) ((rd_T82 (rd_L4 x272000 x5) x6).f0.f2) ((rd_T82 (rd_L4 x272000 x5) x6).f0.f3) ((rd_T82 (rd_L4 x272000 x5) x6).f0.f4) ((rd_T82 (rd_L4 x273000 x5) x6).f0.f0) ((rd_T82 (rd_L4 x273000 x5) x6).f0.f1) ((rd_T82 (rd_L4 x273000 x5) x6).f0.f2) ((rd_T82 (rd_L4 x273000 x5) x6).f0.f3) ((rd_T82 (rd_L4 x273000 x5) x6).f0.f4)).bind fun t280 => (if t280 = true then ((windlassref3_Same.f k ((rd_T82 (rd_L4 x272000 x5) x6).f1.f0) ((rd_T82 (rd_L4 x272000 x5) x6).f1.f1) ((rd_T82 (rd_L4 x272000 x5) x6).f1.f2) ((rd_T82 (rd_L4 x272000 x5) x6).f1.f3) ((rd_T82 (rd_L4 x272000 x5) x6).f1.f4) ((rd_T82 (rd_L4 x273000 x5) x6).f1.f0) ((rd_T82 (rd_L4 x273000 x5) x6).f1.f1) ((rd_T82 (rd_L4 x273000 x5) x6).f1.f2) ((rd_T82 (rd_L4 x273000 x5) x6).f1.f3) ((rd_T82 (rd_L4 x273000 x5) x6).f1.f4)).bind fun t285 => (windlassref4_Same.j2 k x5 x6 (!t285) x272000 x273000)) else (windlassref4_Same.j2 k x5 x6 true x272000 x273000))) else (none)) else (none)) else (none)) else (windlassref4_Same.l0 k (wrap64 (x5 + 1)) x272000 x273000)) else (none)) else (none)
def windlassref4_Same.j2 : Nat → Int → Int → Bool → List (List (S82)) → List (List (S82)) → Option (Bool)
 | 0,_,_,_,_,_ => none
 | k + 1,x5,x6,x85,x272000,x273000 => if x85 = true then (some false) else (windlassref4_Same.l1 k x5 (wrap64 (x6 + 1)) x272000 x273000)
end
def windlassref4_Same.f (k : Nat) (l0_0 : List (List (S82))) (l1_0 : List (List (S82))) : Option (Bool):=if (l0_0.length : Int) = (l1_0.length : Int) then (windlassref4_Same.l0 k 0 l0_0 l1_0) else (some false)
def windlassref4_Same.T6 : Bool × List (List Nat × List Nat):=(true,[([],[]),([0],[0]),([],[]),([1,2],[1,2]),([3],[3]),([4],[4]),([],[]),([6],[6]),([],[]),([7,8],[7,8]),([9],[9]),([10],[10]),([5,11],[5,11])])
def windlassref4_Same.B6 : List Nat:=[0,1,0,7,15,31,0,64,0,448,960,1984,4095]
theorem windlassref4_Same.tab6 : rtab .any (opsOf Try.f19 6) = windlassref4_Same.T6:=by kernel_rfl
theorem windlassref4_Same.bits6 : waitsOk windlassref4_Same.T6.2 windlassref4_Same.B6 = true:=by kernel_rfl
def windlassref4_Same.T11 : Bool × List (List Nat × List Nat):=(true,[([],[]),([0],[0]),([],[]),([1,2],[1,2]),([3],[3]),([],[]),([4,5],[4,5]),([6],[6]),([7],[7]),([],[]),([9],[9]),([],[]),([10,11],[10,11]),([12],[12]),([],[]),([13,14],[13,14]),([15],[15]),([16],[16]),([8,17],[8,17]),([18],[18]),([19,18],[19]),([20],[20]),([21,20],[20,21]),([20],[20]),([22,23,20],[20,22,23]),([24,20],[20,24]),([20],[20]),([25,26,20],[20,25,26]),([27,20],[20,27]),([28,20],[20,28]),([20],[20]),([30,20],[20,30]),([20],[20]),([31,32,20],[20,31,32]),([33,20],[20,33]),([20],[20]),([34,35,20],[20,34,35]),([36,20],[20,36]),([37,20],[20,37]),([29,38,20,20],[20,29,38]),([39,20],[20,39]),([20,40],[20,40])])
def windlassref4_Same.B11 : List Nat:=[0,1,0,7,15,0,63,127,255,0,512,0,3584,7680,0,32256,65024,130560,262143,524287,1048575,2097151,4194303,2097151,16777215,33554431,2097151,134217727,268435455,536870911,2097151,1075838975,2097151,7518289919,16108224511,2097151,67647832063,136367308799,273806262271,549755813887,1099511627775,2199023255551]
theorem windlassref4_Same.tab11 : rtab .any (opsOf Try.f19 11) = windlassref4_Same.T11:=by kernel_rfl
theorem windlassref4_Same.bits11 : waitsOk windlassref4_Same.T11.2 windlassref4_Same.B11 = true:=by kernel_rfl
set_option maxHeartbeats 8000000 in
set_option maxRecDepth 100000 in
theorem windlassref4_Same.calls (k : Nat) (A0_0 : Option Addr) (c0_0 : Nat) (l0_0 : List (List (S82))) (A1_0 : Option Addr) (c1_0 : Nat) (l1_0 : List (List (S82))) (r : Bool) (w : World) (hr0_0 : Kd.C (Kd.slice 82 k82) w A0_0 l0_0.length l0_0) (hc0_0 : l0_0.length ≤ c0_0) (hr1_0 : Kd.C (Kd.slice 82 k82) w A1_0 l1_0.length l1_0) (hc1_0 : l1_0.length ≤ c1_0) (h : windlassref4_Same.f k l0_0 l1_0 = some r) :
  Calls Try.prog 19 #[.agg #[.slice A0_0 l0_0.length c0_0], .agg #[.slice A1_0 l1_0.length c1_0]] w fun e w' => e = .returned (.bool r) ∧ Below w.heap.size w w':=by
 have hu27:=Try.underlying27
 have hu35:=Try.underlying35
 have HR0_0:=Aside0.mk hr0_0
 have HC0_0:=Aside0.mk hc0_0
 clear hr0_0 hc0_0
 have HR1_0:=Aside0.mk hr1_0
 have HC1_0:=Aside0.mk hc1_0
 clear hr1_0 hc1_0
 have HB:=Aside0.mk (Below.refl w.heap.size w)
 have H : (if (l0_0.length : Int) = (l1_0.length : Int) then (windlassref4_Same.l0 k 0 l0_0 l1_0) else (some false)) = some r:=h
 clear h
 by_cases c3 : (l0_0.length : Int) = (l1_0.length : Int)
 ·rw [if_pos c3] at H
  have c3b0 : ((l0_0.length : Int) == (l1_0.length : Int)) = true:=beq_iff_eq.mpr c3
  have c3b1 : ((l0_0.length : Int) != (l1_0.length : Int)) = false:=bne_eq_false_iff_eq.mpr c3
  have c3b2 : (l0_0.length == l1_0.length) = true:=by first|simpa using c3|(simp at c3 ⊢;omega)
  clear c3
  have H':=Aside0.mk H
  clear H
  go_enter Try.func19,Try.ntmps19
  go_wp2_with (first|((with_reducible refine gate_dst (N:=2) rfl ?_);refine box_event ?hg (N:=2) ?hd (cs:=#[.slice A0_0 l0_0.length c0_0]) (t:=27) ?hr ?_;(case hd => rfl);(case hg => rfl);(case hr => first|(go_simp;done)|(go_simp;rfl));intro gb271 hg w4 hbox hb;have BK271:=Aside0.mk (hbox);have GW271:=Aside0.mk ((by rw [hg];exact (below_size (bL0 HB)) : w.heap.size ≤ gb271));have GE271:=Aside0.mk ((by rw [hg];exact (below_size (bL0 HB)) : w.heap.size ≤ gb271));replace HB:=bS HB hb;clear hb hbox hg)|((with_reducible refine gate_dst (N:=3) rfl ?_);refine box_event ?hg (N:=3) ?hd (cs:=#[.slice A1_0 l1_0.length c1_0]) (t:=27) ?hr ?_;(case hd => rfl);(case hg => rfl);(case hr => first|(go_simp;done)|(go_simp;rfl));intro gb272 hg w5 hbox hb;have BK272:=Aside0.mk (hbox);have GW272:=Aside0.mk ((by rw [hg];exact (below_size (bL1 HB GE271)) : w.heap.size ≤ gb272));have GE272:=Aside0.mk ((by rw [hg];exact (below_size (bL1 HB GE271)) : w.heap.size ≤ gb272));replace HB:=Aside0.mk (below_step (bL1 HB GE271) hb);have NB271_272:=Aside0.mk ((by rw [hg];exact Nat.ne_of_lt (blk_lt (bK BK271)) : gb271 ≠ gb272));have NB272_271:=Aside0.mk ((by rw [hg];exact Nat.ne_of_gt (blk_lt (bK BK271)) : gb272 ≠ gb271));replace BK271:=bB BK271 hb;clear hb hbox hg;have hnb6:=NB271_272.out;have hnc6:=NB272_271.out;have hcz7_0 : w5.cell? ⟨gb271,0,none⟩ = some (.slice A0_0 l0_0.length c0_0):=(blk_cell BK271.out 0).trans rfl;have hfz7_0:=blk_frozen BK271.out 0;have hcz8_0 : w5.cell? ⟨gb272,0,none⟩ = some (.slice A1_0 l1_0.length c1_0):=(blk_cell BK272.out 0).trans rfl;have hfz8_0:=blk_frozen BK272.out 0))
  go_loopg [5] k (fun kq v5 w' => ∃ (x5_1 : Int),v5 = .int .i64 x5_1 ∧ Aside0 (windlassref4_Same.l0 kq x5_1 l0_0 l1_0 = some r) ∧ Aside0 (kq ≤ k) ∧ Aside0 (w'.heap[gb271]? = some (.cells #[(.slice A0_0 l0_0.length c0_0)] 27 (0,0))) ∧ Aside0 (w'.heap[gb272]? = some (.cells #[(.slice A1_0 l1_0.length c1_0)] 27 (0,0))) ∧ Aside0 (Below w.heap.size w w'))
  case atStart => exact ⟨(0),(by first|rfl|(simp;done)|(simp [*];done)),H',⟨Nat.le_refl _⟩,⟨by (with_reducible repeat (first|refine blk_drewN ?_ _|refine blk_drew ?_|refine blk_alloc ?_ _));exact BK271.out⟩,⟨by (with_reducible repeat (first|refine blk_drewN ?_ _|refine blk_drew ?_|refine blk_alloc ?_ _));exact BK272.out⟩,⟨by repeat (first|(with_reducible first|exact HB.out|apply below_alloc|apply pw_below_drewN|apply below_drew1|refine below_set ?_ GE271.out|refine below_set ?_ GE272.out)|exact HB.out)⟩⟩
  case round =>
   clear H'
   try clear c1
   try clear p2
   try clear c3
   try clear c3b0
   try clear c3b1
   try clear c3b2
   try clear c6
   try clear hcz7_0
   try clear hcz8_0
   try clear hfz7_0
   try clear hfz8_0
   obtain ⟨x5_1,rfl,HA,HK1,BK271,BK272,HB⟩:=hrel
   cases gk with
   | zero => exact absurd HA.out (by simp [windlassref4_Same.l0])
   | succ k1 =>
    have H:=HA.out
    clear HA
    simp only [windlassref4_Same.l0] at H
    by_cases c9 : x5_1 < (l0_0.length : Int)
    ·rw [if_pos c9] at H
     have c9b0 : decide (x5_1 < (l0_0.length : Int)) = true:=decide_eq_true c9
     clear c9
     by_cases c10 : 0 ≤ x5_1
     ·rw [if_pos c10] at H
      have c10b0 : decide (0 ≤ x5_1) = true:=decide_eq_true c10
      clear c10
      by_cases c11 : x5_1 < (l1_0.length : Int)
      ·rw [if_pos c11] at H
       have c11b0 : decide (x5_1 < (l1_0.length : Int)) = true:=decide_eq_true c11
       clear c11
       by_cases c12 : ((rd_L4 l0_0 x5_1).length : Int) = ((rd_L4 l1_0 x5_1).length : Int)
       ·rw [if_pos c12] at H
        have c12b0 : (((rd_L4 l0_0 x5_1).length : Int) == ((rd_L4 l1_0 x5_1).length : Int)) = true:=beq_iff_eq.mpr c12
        have c12b1 : (((rd_L4 l0_0 x5_1).length : Int) != ((rd_L4 l1_0 x5_1).length : Int)) = false:=bne_eq_false_iff_eq.mpr c12
        have c12b2 : ((rd_L4 l0_0 x5_1).length == (rd_L4 l1_0 x5_1).length) = true:=by first|simpa using c12|(simp at c12 ⊢;omega)
        clear c12
        have H':=Aside0.mk H
        clear H
        have hnb13:=NB271_272.out
        have hnc13:=NB272_271.out
        have hcz14_0 : wr.cell? ⟨gb271,0,none⟩ = some (.slice A0_0 l0_0.length c0_0):=(blk_cell BK271.out 0).trans rfl
        have hfz14_0:=blk_frozen BK271.out 0
        try go_wp2
        replace BK271:=Aside0.mk (blk_drew BK271.out)
        replace BK272:=Aside0.mk (blk_drew BK272.out)
        replace HB:=Aside0.mk (below_drew1 HB.out)
        have p273 : 0 ≤ (x5_1 : Int):=of_decide_eq_true aX
        have q273 : x5_1 < (l0_0.length : Int):=of_decide_eq_true aX
        obtain ⟨ad273,A273_0,c273_0,e273,hx273_0,hl273_0,hi273_0⟩:=at_L4 HR0_0.out x5_1 p273 q273
        have hw273_0:=hx273_0
        cases e273
        replace hx273_0:=cB HB hx273_0
        have HR273_0:=Aside0.mk hi273_0
        have HC273_0:=Aside0.mk hl273_0
        clear hi273_0 hl273_0
        replace p273:=eq_true p273
        replace q273:=eq_true q273
        have p274 : 0 ≤ (x5_1 : Int):=of_decide_eq_true aX
        have q274 : x5_1 < (l1_0.length : Int):=of_decide_eq_true aX
        obtain ⟨ad274,A274_0,c274_0,e274,hx274_0,hl274_0,hi274_0⟩:=at_L4 HR1_0.out x5_1 p274 q274
        have hw274_0:=hx274_0
        cases e274
        replace hx274_0:=cB HB hx274_0
        have HR274_0:=Aside0.mk hi274_0
        have HC274_0:=Aside0.mk hl274_0
        clear hi274_0 hl274_0
        replace p274:=eq_true p274
        replace q274:=eq_true q274
        refine start_ (n:=13) (S:=fun w' => w'.cell? ⟨gb271,0,none⟩ = some (.slice (some ad273) l0_0.length c0_0) ∧ w'.cell? ⟨gb272,0,none⟩ = some (.slice (some ad274) l1_0.length c1_0) ∧ w'.cell? (ad273.add (x5_1).toNat) = some (.slice A273_0 (rd_L4 l0_0 x5_1).length c273_0) ∧ w'.cell? (ad274.add (x5_1).toNat) = some (.slice A274_0 (rd_L4 l1_0 x5_1).length c274_0)) (ds:=[]) #[fF,fF,fF,fF,fF,fF,fF,fF,fF,fF,fF,fF,fF] (by kernel_rfl) rfl rfl ⟨(blk_cell BK271.out 0).trans rfl,(blk_cell BK272.out 0).trans rfl,(cB HB hw273_0),(cB HB hw274_0)⟩ (fun hHeld => ?_);refine with_tabW windlassref4_Same.tab6 windlassref4_Same.bits6 (fun HT_ HW_ => ?_)
        generalize wr.drew = w15 at BK271 BK272 HB HR273_0 HR274_0 hx273_0 hx274_0 hHeld ⊢
        refine pU 0 (some 21) HT_ rfl ?_
        refine pU 2 (some 23) HT_ rfl ?_
        refine pU 6 (some 27) HT_ rfl ?_
        refine pU 8 (some 29) HT_ rfl ?_
        refine tA 1 (some 22) HT_ HW_ hHeld rfl ?_
        refine pU 3 (some 24) HT_ rfl ?_
        refine tA 4 (some 25) HT_ HW_ hHeld rfl ?_
        refine pU 5 (some 26) HT_ rfl ?_
        refine tA 7 (some 28) HT_ HW_ hHeld rfl ?_
        refine pU 9 (some 30) HT_ rfl ?_
        refine tA 10 (some 31) HT_ HW_ hHeld rfl ?_
        refine pU 11 (some 32) HT_ rfl ?_
        refine pU 12 (some 33) HT_ rfl ?_
        refine done_ (done_of HT_.out (by kernel_rfl)) ?_
        try go_wp2
        go_loopg [6] k1 (fun kq v6 w' => ∃ (x6_2 : Int),v6 = .int .i64 x6_2 ∧ Aside0 (windlassref4_Same.l1 kq x5_1 x6_2 l0_0 l1_0 = some r) ∧ Aside0 (kq ≤ k1) ∧ Aside0 (w'.heap[gb271]? = some (.cells #[(.slice (some ad273) l0_0.length c0_0)] 27 (0,0))) ∧ Aside0 (w'.heap[gb272]? = some (.cells #[(.slice (some ad274) l1_0.length c1_0)] 27 (0,0))) ∧ Aside0 (Below w.heap.size w w'))
        case atStart => exact ⟨(0),(by first|rfl|(simp;done)|(simp [*];done)),H',⟨Nat.le_refl _⟩,⟨by (with_reducible repeat (first|refine blk_drewN ?_ _|refine blk_drew ?_|refine blk_alloc ?_ _));exact BK271.out⟩,⟨by (with_reducible repeat (first|refine blk_drewN ?_ _|refine blk_drew ?_|refine blk_alloc ?_ _));exact BK272.out⟩,⟨by repeat (first|(with_reducible first|exact HB.out|apply below_alloc|apply pw_below_drewN|apply below_drew1|refine below_set ?_ GE271.out|refine below_set ?_ GE272.out)|exact HB.out)⟩⟩
        case round =>
         clear H'
         try clear c1
         try clear c2
         try clear p2
         try clear q2
         try clear hx2
         try clear c3
         try clear c3b0
         try clear c3b1
         try clear c3b2
         try clear c6
         try clear c9
         try clear c9b0
         try clear c10
         try clear c10b0
         try clear c11
         try clear c11b0
         try clear c12
         try clear c12b0
         try clear c12b1
         try clear c12b2
         try clear c13
         try clear hcz14_0
         try clear hcz7_0
         try clear hcz8_0
         try clear hfz14_0
         try clear hfz7_0
         try clear hfz8_0
         try clear hx273_0
         try clear hx274_0
         try clear p2
         try clear p273
         try clear p274
         try clear q273
         try clear q274
         obtain ⟨x6_2,rfl,HA,HK2,BK271,BK272,HB⟩:=hrel
         cases gk with
         | zero => exact absurd HA.out (by simp [windlassref4_Same.l1])
         | succ k2 =>
          have H:=HA.out
          clear HA
          simp only [windlassref4_Same.l1] at H
          by_cases c16 : 0 ≤ x5_1
          ·rw [if_pos c16] at H
           have c16b0 : decide (0 ≤ x5_1) = true:=decide_eq_true c16
           clear c16
           by_cases c17 : x5_1 < (l0_0.length : Int)
           ·rw [if_pos c17] at H
            have c17b0 : decide (x5_1 < (l0_0.length : Int)) = true:=decide_eq_true c17
            clear c17
            by_cases c18 : x6_2 < ((rd_L4 l0_0 x5_1).length : Int)
            ·rw [if_pos c18] at H
             have c18b0 : decide (x6_2 < ((rd_L4 l0_0 x5_1).length : Int)) = true:=decide_eq_true c18
             clear c18
             have HC19:=Aside0.mk H
             clear H
             have hnb20:=NB271_272.out
             have hnc20:=NB272_271.out
             have hcz21_0 : wr.cell? ⟨gb271,0,none⟩ = some (.slice (some ad273) l0_0.length c0_0):=(blk_cell BK271.out 0).trans rfl
             have hfz21_0:=blk_frozen BK271.out 0
             have p275 : 0 ≤ (x5_1 : Int):=of_decide_eq_true aX
             have q275 : x5_1 < (l0_0.length : Int):=of_decide_eq_true aX
             obtain ⟨ad275,A275_0,c275_0,e275,hx275_0,hl275_0,hi275_0⟩:=at_L4 HR0_0.out x5_1 p275 q275
             obtain rfl : ad273 = ad275:=(by injection e275)
             replace hx275_0:=cB HB hx275_0
             have HR275_0:=Aside0.mk hi275_0
             have HC275_0:=Aside0.mk hl275_0
             clear hi275_0 hl275_0
             replace p275:=eq_true p275
             replace q275:=eq_true q275
             go_upto_region 11 with (fail)
             go_cut [85] (fun v85 wc => ∃ (kq : Nat) (x85_18 : Bool),v85 = .bool x85_18 ∧ Aside0 (windlassref4_Same.j2 kq x5_1 x6_2 x85_18 l0_0 l1_0 = some r) ∧ Aside0 (kq ≤ k2) ∧ Aside0 (wc.heap[gb271]? = some (.cells #[(.slice (some ad273) l0_0.length c0_0)] 27 (0,0))) ∧ Aside0 (wc.heap[gb272]? = some (.cells #[(.slice (some ad274) l1_0.length c1_0)] 27 (0,0))) ∧ Aside0 (Below w.heap.size w wc))
             case first =>
              have H:=HC19.out
              clear HC19
              by_cases c22 : 0 ≤ x6_2
              ·rw [if_pos c22] at H
               have c22b0 : decide (0 ≤ x6_2) = true:=decide_eq_true c22
               clear c22
               (first|rw [c22b0]|(simp only [i64_w,i32_w];rw [c22b0])|skip)
               by_cases c23 : x5_1 < (l1_0.length : Int)
               ·rw [if_pos c23] at H
                have c23b0 : decide (x5_1 < (l1_0.length : Int)) = true:=decide_eq_true c23
                clear c23
                by_cases c24 : x6_2 < ((rd_L4 l1_0 x5_1).length : Int)
                ·rw [if_pos c24] at H
                 have c24b0 : decide (x6_2 < ((rd_L4 l1_0 x5_1).length : Int)) = true:=decide_eq_true c24
                 clear c24
                 replace H:=Option.bind_eq_some_iff.mp H
                 obtain ⟨t280,A250,H⟩:=H
                 replace H : (if t280 = true then ((windlassref3_Same.f k2 ((rd_T82 (rd_L4 l0_0 x5_1) x6_2).f1.f0) ((rd_T82 (rd_L4 l0_0 x5_1) x6_2).f1.f1) ((rd_T82 (rd_L4 l0_0 x5_1) x6_2).f1.f2) ((rd_T82 (rd_L4 l0_0 x5_1) x6_2).f1.f3) ((rd_T82 (rd_L4 l0_0 x5_1) x6_2).f1.f4) ((rd_T82 (rd_L4 l1_0 x5_1) x6_2).f1.f0) ((rd_T82 (rd_L4 l1_0 x5_1) x6_2).f1.f1) ((rd_T82 (rd_L4 l1_0 x5_1) x6_2).f1.f2) ((rd_T82 (rd_L4 l1_0 x5_1) x6_2).f1.f3) ((rd_T82 (rd_L4 l1_0 x5_1) x6_2).f1.f4)).bind fun t285 => (windlassref4_Same.j2 k2 x5_1 x6_2 (!t285) l0_0 l1_0)) else (windlassref4_Same.j2 k2 x5_1 x6_2 true l0_0 l1_0)) = some r:=H
                 have A25:=Aside0.mk A250
                 clear A250
                 by_cases c26 : t280 = true
                 ·subst c26
                  have H1 : ((windlassref3_Same.f k2 ((rd_T82 (rd_L4 l0_0 x5_1) x6_2).f1.f0) ((rd_T82 (rd_L4 l0_0 x5_1) x6_2).f1.f1) ((rd_T82 (rd_L4 l0_0 x5_1) x6_2).f1.f2) ((rd_T82 (rd_L4 l0_0 x5_1) x6_2).f1.f3) ((rd_T82 (rd_L4 l0_0 x5_1) x6_2).f1.f4) ((rd_T82 (rd_L4 l1_0 x5_1) x6_2).f1.f0) ((rd_T82 (rd_L4 l1_0 x5_1) x6_2).f1.f1) ((rd_T82 (rd_L4 l1_0 x5_1) x6_2).f1.f2) ((rd_T82 (rd_L4 l1_0 x5_1) x6_2).f1.f3) ((rd_T82 (rd_L4 l1_0 x5_1) x6_2).f1.f4)).bind fun t285 => (windlassref4_Same.j2 k2 x5_1 x6_2 (!t285) l0_0 l1_0)) = some r:=by rw [if_pos rfl] at H;exact H
                  clear H
                  have H:=H1
                  clear H1
                  replace H:=Option.bind_eq_some_iff.mp H
                  obtain ⟨t285,A270,H⟩:=H
                  replace H : (windlassref4_Same.j2 k2 x5_1 x6_2 (!t285) l0_0 l1_0) = some r:=H
                  have A27:=Aside0.mk A270
                  clear A270
                  have H':=Aside0.mk H
                  clear H
                  try go_wp2
                  replace BK271:=Aside0.mk (blk_drew BK271.out)
                  replace BK272:=Aside0.mk (blk_drew BK272.out)
                  replace HB:=Aside0.mk (below_drew1 HB.out)
                  have p276 : 0 ≤ (x5_1 : Int):=of_decide_eq_true aX
                  have q276 : x5_1 < (l0_0.length : Int):=of_decide_eq_true aX
                  obtain ⟨ad276,A276_0,c276_0,e276,hx276_0,hl276_0,hi276_0⟩:=at_L4 HR0_0.out x5_1 p276 q276
                  have hw276_0:=hx276_0
                  obtain rfl : ad273 = ad276:=(by injection e276)
                  replace hx276_0:=cB HB hx276_0
                  have HR276_0:=Aside0.mk hi276_0
                  have HC276_0:=Aside0.mk hl276_0
                  clear hi276_0 hl276_0
                  replace p276:=eq_true p276
                  replace q276:=eq_true q276
                  have p277 : 0 ≤ (x6_2 : Int):=of_decide_eq_true aX
                  have q277 : x6_2 < ((rd_L4 l0_0 x5_1).length : Int):=of_decide_eq_true aX
                  obtain ⟨ad277,A277_4,c277_4,A277_9,c277_9,e277,hx277_0,hx277_1,hx277_2,hx277_3,hx277_4,hx277_5,hx277_6,hx277_7,hx277_8,hx277_9,hl277_4,hi277_4,hl277_9,hi277_9⟩:=at_T82 HR276_0.out x6_2 p277 q277
                  have hw277_9:=hx277_9
                  have hw277_8:=hx277_8
                  have hw277_7:=hx277_7
                  have hw277_6:=hx277_6
                  have hw277_5:=hx277_5
                  have hw277_4:=hx277_4
                  have hw277_3:=hx277_3
                  have hw277_2:=hx277_2
                  have hw277_1:=hx277_1
                  have hw277_0:=hx277_0
                  cases e277
                  replace hx277_0:=cB HB hx277_0
                  replace hx277_1:=cB HB hx277_1
                  replace hx277_2:=cB HB hx277_2
                  replace hx277_3:=cB HB hx277_3
                  replace hx277_4:=cB HB hx277_4
                  replace hx277_5:=cB HB hx277_5
                  replace hx277_6:=cB HB hx277_6
                  replace hx277_7:=cB HB hx277_7
                  replace hx277_8:=cB HB hx277_8
                  replace hx277_9:=cB HB hx277_9
                  have HR277_4:=Aside0.mk hi277_4
                  have HC277_4:=Aside0.mk hl277_4
                  clear hi277_4 hl277_4
                  have HR277_9:=Aside0.mk hi277_9
                  have HC277_9:=Aside0.mk hl277_9
                  clear hi277_9 hl277_9
                  replace p277:=eq_true p277
                  replace q277:=eq_true q277
                  have p278 : 0 ≤ (x5_1 : Int):=of_decide_eq_true aX
                  have q278 : x5_1 < (l1_0.length : Int):=of_decide_eq_true aX
                  obtain ⟨ad278,A278_0,c278_0,e278,hx278_0,hl278_0,hi278_0⟩:=at_L4 HR1_0.out x5_1 p278 q278
                  have hw278_0:=hx278_0
                  obtain rfl : ad274 = ad278:=(by injection e278)
                  replace hx278_0:=cB HB hx278_0
                  have HR278_0:=Aside0.mk hi278_0
                  have HC278_0:=Aside0.mk hl278_0
                  clear hi278_0 hl278_0
                  replace p278:=eq_true p278
                  replace q278:=eq_true q278
                  have p279 : 0 ≤ (x6_2 : Int):=of_decide_eq_true aX
                  have q279 : x6_2 < ((rd_L4 l1_0 x5_1).length : Int):=of_decide_eq_true aX
                  obtain ⟨ad279,A279_4,c279_4,A279_9,c279_9,e279,hx279_0,hx279_1,hx279_2,hx279_3,hx279_4,hx279_5,hx279_6,hx279_7,hx279_8,hx279_9,hl279_4,hi279_4,hl279_9,hi279_9⟩:=at_T82 HR278_0.out x6_2 p279 q279
                  have hw279_9:=hx279_9
                  have hw279_8:=hx279_8
                  have hw279_7:=hx279_7
                  have hw279_6:=hx279_6
                  have hw279_5:=hx279_5
                  have hw279_4:=hx279_4
                  have hw279_3:=hx279_3
                  have hw279_2:=hx279_2
                  have hw279_1:=hx279_1
                  have hw279_0:=hx279_0
                  cases e279
                  replace hx279_0:=cB HB hx279_0
                  replace hx279_1:=cB HB hx279_1
                  replace hx279_2:=cB HB hx279_2
                  replace hx279_3:=cB HB hx279_3
                  replace hx279_4:=cB HB hx279_4
                  replace hx279_5:=cB HB hx279_5
                  replace hx279_6:=cB HB hx279_6
                  replace hx279_7:=cB HB hx279_7
                  replace hx279_8:=cB HB hx279_8
                  replace hx279_9:=cB HB hx279_9
                  have HR279_4:=Aside0.mk hi279_4
                  have HC279_4:=Aside0.mk hl279_4
                  clear hi279_4 hl279_4
                  have HR279_9:=Aside0.mk hi279_9
                  have HC279_9:=Aside0.mk hl279_9
                  clear hi279_9 hl279_9
                  replace p279:=eq_true p279
                  replace q279:=eq_true q279
                  have p281 : 0 ≤ (x5_1 : Int):=of_decide_eq_true aX
                  have q281 : x5_1 < (l0_0.length : Int):=of_decide_eq_true aX
                  obtain ⟨ad281,A281_0,c281_0,e281,hx281_0,hl281_0,hi281_0⟩:=at_L4 HR0_0.out x5_1 p281 q281
                  have hw281_0:=hx281_0
                  obtain rfl : ad273 = ad281:=(by injection e281)
                  replace hx281_0:=cB HB hx281_0
                  have HR281_0:=Aside0.mk hi281_0
                  have HC281_0:=Aside0.mk hl281_0
                  clear hi281_0 hl281_0
                  replace p281:=eq_true p281
                  replace q281:=eq_true q281
                  have eb_:=Option.some.inj (hx276_0.symm.trans hx281_0)
                  injection eb_ with eb_ en_ ec_
                  subst eb_
                  subst ec_
                  clear en_
                  have p282 : 0 ≤ (x6_2 : Int):=of_decide_eq_true aX
                  have q282 : x6_2 < ((rd_L4 l0_0 x5_1).length : Int):=of_decide_eq_true aX
                  obtain ⟨ad282,A282_4,c282_4,A282_9,c282_9,e282,hx282_0,hx282_1,hx282_2,hx282_3,hx282_4,hx282_5,hx282_6,hx282_7,hx282_8,hx282_9,hl282_4,hi282_4,hl282_9,hi282_9⟩:=at_T82 HR281_0.out x6_2 p282 q282
                  have hw282_9:=hx282_9
                  have hw282_8:=hx282_8
                  have hw282_7:=hx282_7
                  have hw282_6:=hx282_6
                  have hw282_5:=hx282_5
                  have hw282_4:=hx282_4
                  have hw282_3:=hx282_3
                  have hw282_2:=hx282_2
                  have hw282_1:=hx282_1
                  have hw282_0:=hx282_0
                  cases e282
                  replace hx282_0:=cB HB hx282_0
                  replace hx282_1:=cB HB hx282_1
                  replace hx282_2:=cB HB hx282_2
                  replace hx282_3:=cB HB hx282_3
                  replace hx282_4:=cB HB hx282_4
                  replace hx282_5:=cB HB hx282_5
                  replace hx282_6:=cB HB hx282_6
                  replace hx282_7:=cB HB hx282_7
                  replace hx282_8:=cB HB hx282_8
                  replace hx282_9:=cB HB hx282_9
                  have eb_:=Option.some.inj (hx277_4.symm.trans hx282_4)
                  injection eb_ with eb_ en_ ec_
                  subst eb_
                  subst ec_
                  clear en_
                  have eb_:=Option.some.inj (hx277_9.symm.trans hx282_9)
                  injection eb_ with eb_ en_ ec_
                  subst eb_
                  subst ec_
                  clear en_
                  have HR282_4:=Aside0.mk hi282_4
                  have HC282_4:=Aside0.mk hl282_4
                  clear hi282_4 hl282_4
                  have HR282_9:=Aside0.mk hi282_9
                  have HC282_9:=Aside0.mk hl282_9
                  clear hi282_9 hl282_9
                  replace p282:=eq_true p282
                  replace q282:=eq_true q282
                  have p283 : 0 ≤ (x5_1 : Int):=of_decide_eq_true aX
                  have q283 : x5_1 < (l1_0.length : Int):=of_decide_eq_true aX
                  obtain ⟨ad283,A283_0,c283_0,e283,hx283_0,hl283_0,hi283_0⟩:=at_L4 HR1_0.out x5_1 p283 q283
                  have hw283_0:=hx283_0
                  obtain rfl : ad274 = ad283:=(by injection e283)
                  replace hx283_0:=cB HB hx283_0
                  have HR283_0:=Aside0.mk hi283_0
                  have HC283_0:=Aside0.mk hl283_0
                  clear hi283_0 hl283_0
                  replace p283:=eq_true p283
                  replace q283:=eq_true q283
                  have eb_:=Option.some.inj (hx278_0.symm.trans hx283_0)
                  injection eb_ with eb_ en_ ec_
                  subst eb_
                  subst ec_
                  clear en_
                  have p284 : 0 ≤ (x6_2 : Int):=of_decide_eq_true aX
                  have q284 : x6_2 < ((rd_L4 l1_0 x5_1).length : Int):=of_decide_eq_true aX
                  obtain ⟨ad284,A284_4,c284_4,A284_9,c284_9,e284,hx284_0,hx284_1,hx284_2,hx284_3,hx284_4,hx284_5,hx284_6,hx284_7,hx284_8,hx284_9,hl284_4,hi284_4,hl284_9,hi284_9⟩:=at_T82 HR283_0.out x6_2 p284 q284
                  have hw284_9:=hx284_9
                  have hw284_8:=hx284_8
                  have hw284_7:=hx284_7
                  have hw284_6:=hx284_6
                  have hw284_5:=hx284_5
                  have hw284_4:=hx284_4
                  have hw284_3:=hx284_3
                  have hw284_2:=hx284_2
                  have hw284_1:=hx284_1
                  have hw284_0:=hx284_0
                  cases e284
                  replace hx284_0:=cB HB hx284_0
                  replace hx284_1:=cB HB hx284_1
                  replace hx284_2:=cB HB hx284_2
                  replace hx284_3:=cB HB hx284_3
                  replace hx284_4:=cB HB hx284_4
                  replace hx284_5:=cB HB hx284_5
                  replace hx284_6:=cB HB hx284_6
                  replace hx284_7:=cB HB hx284_7
                  replace hx284_8:=cB HB hx284_8
                  replace hx284_9:=cB HB hx284_9
                  have eb_:=Option.some.inj (hx279_4.symm.trans hx284_4)
                  injection eb_ with eb_ en_ ec_
                  subst eb_
                  subst ec_
                  clear en_
                  have eb_:=Option.some.inj (hx279_9.symm.trans hx284_9)
                  injection eb_ with eb_ en_ ec_
                  subst eb_
                  subst ec_
                  clear en_
                  have HR284_4:=Aside0.mk hi284_4
                  have HC284_4:=Aside0.mk hl284_4
                  clear hi284_4 hl284_4
                  have HR284_9:=Aside0.mk hi284_9
                  have HC284_9:=Aside0.mk hl284_9
                  clear hi284_9 hl284_9
                  replace p284:=eq_true p284
                  replace q284:=eq_true q284
                  refine start_ (n:=42) (S:=fun w' => w'.cell? ⟨gb271,0,none⟩ = some (.slice (some ad273) l0_0.length c0_0) ∧ w'.cell? ⟨gb272,0,none⟩ = some (.slice (some ad274) l1_0.length c1_0) ∧ w'.cell? (ad273.add (x5_1).toNat) = some (.slice (some ad277) (rd_L4 l0_0 x5_1).length c276_0) ∧ w'.cell? (ad277.add ((x6_2).toNat * 10)) = some (.int .i64 ((rd_T82 (rd_L4 l0_0 x5_1) x6_2).f0.f0)) ∧ w'.cell? ⟨(ad277.add ((x6_2).toNat * 10)).block,(ad277.add ((x6_2).toNat * 10)).off + 1,none⟩ = some (.int .i64 ((rd_T82 (rd_L4 l0_0 x5_1) x6_2).f0.f1)) ∧ w'.cell? ⟨(ad277.add ((x6_2).toNat * 10)).block,(ad277.add ((x6_2).toNat * 10)).off + 2,none⟩ = some (.string ((rd_T82 (rd_L4 l0_0 x5_1) x6_2).f0.f2)) ∧ w'.cell? ⟨(ad277.add ((x6_2).toNat * 10)).block,(ad277.add ((x6_2).toNat * 10)).off + 3,none⟩ = some (.int .i64 ((rd_T82 (rd_L4 l0_0 x5_1) x6_2).f0.f3)) ∧ w'.cell? ⟨(ad277.add ((x6_2).toNat * 10)).block,(ad277.add ((x6_2).toNat * 10)).off + 4,none⟩ = some (.slice A277_4 ((rd_T82 (rd_L4 l0_0 x5_1) x6_2).f0.f4).length c277_4) ∧ w'.cell? ⟨(ad277.add ((x6_2).toNat * 10)).block,(ad277.add ((x6_2).toNat * 10)).off + 5,none⟩ = some (.int .i64 ((rd_T82 (rd_L4 l0_0 x5_1) x6_2).f1.f0)) ∧ w'.cell? ⟨(ad277.add ((x6_2).toNat * 10)).block,(ad277.add ((x6_2).toNat * 10)).off + 6,none⟩ = some (.int .i64 ((rd_T82 (rd_L4 l0_0 x5_1) x6_2).f1.f1)) ∧ w'.cell? ⟨(ad277.add ((x6_2).toNat * 10)).block,(ad277.add ((x6_2).toNat * 10)).off + 7,none⟩ = some (.string ((rd_T82 (rd_L4 l0_0 x5_1) x6_2).f1.f2)) ∧ w'.cell? ⟨(ad277.add ((x6_2).toNat * 10)).block,(ad277.add ((x6_2).toNat * 10)).off + 8,none⟩ = some (.int .i64 ((rd_T82 (rd_L4 l0_0 x5_1) x6_2).f1.f3)) ∧ w'.cell? ⟨(ad277.add ((x6_2).toNat * 10)).block,(ad277.add ((x6_2).toNat * 10)).off + 9,none⟩ = some (.slice A277_9 ((rd_T82 (rd_L4 l0_0 x5_1) x6_2).f1.f4).length c277_9) ∧ w'.cell? (ad274.add (x5_1).toNat) = some (.slice (some ad279) (rd_L4 l1_0 x5_1).length c278_0) ∧ w'.cell? (ad279.add ((x6_2).toNat * 10)) = some (.int .i64 ((rd_T82 (rd_L4 l1_0 x5_1) x6_2).f0.f0)) ∧ w'.cell? ⟨(ad279.add ((x6_2).toNat * 10)).block,(ad279.add ((x6_2).toNat * 10)).off + 1,none⟩ = some (.int .i64 ((rd_T82 (rd_L4 l1_0 x5_1) x6_2).f0.f1)) ∧ w'.cell? ⟨(ad279.add ((x6_2).toNat * 10)).block,(ad279.add ((x6_2).toNat * 10)).off + 2,none⟩ = some (.string ((rd_T82 (rd_L4 l1_0 x5_1) x6_2).f0.f2)) ∧ w'.cell? ⟨(ad279.add ((x6_2).toNat * 10)).block,(ad279.add ((x6_2).toNat * 10)).off + 3,none⟩ = some (.int .i64 ((rd_T82 (rd_L4 l1_0 x5_1) x6_2).f0.f3)) ∧ w'.cell? ⟨(ad279.add ((x6_2).toNat * 10)).block,(ad279.add ((x6_2).toNat * 10)).off + 4,none⟩ = some (.slice A279_4 ((rd_T82 (rd_L4 l1_0 x5_1) x6_2).f0.f4).length c279_4) ∧ w'.cell? ⟨(ad279.add ((x6_2).toNat * 10)).block,(ad279.add ((x6_2).toNat * 10)).off + 5,none⟩ = some (.int .i64 ((rd_T82 (rd_L4 l1_0 x5_1) x6_2).f1.f0)) ∧ w'.cell? ⟨(ad279.add ((x6_2).toNat * 10)).block,(ad279.add ((x6_2).toNat * 10)).off + 6,none⟩ = some (.int .i64 ((rd_T82 (rd_L4 l1_0 x5_1) x6_2).f1.f1)) ∧ w'.cell? ⟨(ad279.add ((x6_2).toNat * 10)).block,(ad279.add ((x6_2).toNat * 10)).off + 7,none⟩ = some (.string ((rd_T82 (rd_L4 l1_0 x5_1) x6_2).f1.f2)) ∧ w'.cell? ⟨(ad279.add ((x6_2).toNat * 10)).block,(ad279.add ((x6_2).toNat * 10)).off + 8,none⟩ = some (.int .i64 ((rd_T82 (rd_L4 l1_0 x5_1) x6_2).f1.f3)) ∧ w'.cell? ⟨(ad279.add ((x6_2).toNat * 10)).block,(ad279.add ((x6_2).toNat * 10)).off + 9,none⟩ = some (.slice A279_9 ((rd_T82 (rd_L4 l1_0 x5_1) x6_2).f1.f4).length c279_9) ∧ w'.cell? (ad273.add (x5_1).toNat) = some (.slice (some ad277) (rd_L4 l0_0 x5_1).length c276_0) ∧ w'.cell? (ad277.add ((x6_2).toNat * 10)) = some (.int .i64 ((rd_T82 (rd_L4 l0_0 x5_1) x6_2).f0.f0)) ∧ w'.cell? ⟨(ad277.add ((x6_2).toNat * 10)).block,(ad277.add ((x6_2).toNat * 10)).off + 1,none⟩ = some (.int .i64 ((rd_T82 (rd_L4 l0_0 x5_1) x6_2).f0.f1)) ∧ w'.cell? ⟨(ad277.add ((x6_2).toNat * 10)).block,(ad277.add ((x6_2).toNat * 10)).off + 2,none⟩ = some (.string ((rd_T82 (rd_L4 l0_0 x5_1) x6_2).f0.f2)) ∧ w'.cell? ⟨(ad277.add ((x6_2).toNat * 10)).block,(ad277.add ((x6_2).toNat * 10)).off + 3,none⟩ = some (.int .i64 ((rd_T82 (rd_L4 l0_0 x5_1) x6_2).f0.f3)) ∧ w'.cell? ⟨(ad277.add ((x6_2).toNat * 10)).block,(ad277.add ((x6_2).toNat * 10)).off + 4,none⟩ = some (.slice A277_4 ((rd_T82 (rd_L4 l0_0 x5_1) x6_2).f0.f4).length c277_4) ∧ w'.cell? ⟨(ad277.add ((x6_2).toNat * 10)).block,(ad277.add ((x6_2).toNat * 10)).off + 5,none⟩ = some (.int .i64 ((rd_T82 (rd_L4 l0_0 x5_1) x6_2).f1.f0)) ∧ w'.cell? ⟨(ad277.add ((x6_2).toNat * 10)).block,(ad277.add ((x6_2).toNat * 10)).off + 6,none⟩ = some (.int .i64 ((rd_T82 (rd_L4 l0_0 x5_1) x6_2).f1.f1)) ∧ w'.cell? ⟨(ad277.add ((x6_2).toNat * 10)).block,(ad277.add ((x6_2).toNat * 10)).off + 7,none⟩ = some (.string ((rd_T82 (rd_L4 l0_0 x5_1) x6_2).f1.f2)) ∧ w'.cell? ⟨(ad277.add ((x6_2).toNat * 10)).block,(ad277.add ((x6_2).toNat * 10)).off + 8,none⟩ = some (.int .i64 ((rd_T82 (rd_L4 l0_0 x5_1) x6_2).f1.f3)) ∧ w'.cell? ⟨(ad277.add ((x6_2).toNat * 10)).block,(ad277.add ((x6_2).toNat * 10)).off + 9,none⟩ = some (.slice A277_9 ((rd_T82 (rd_L4 l0_0 x5_1) x6_2).f1.f4).length c277_9) ∧ w'.cell? (ad274.add (x5_1).toNat) = some (.slice (some ad279) (rd_L4 l1_0 x5_1).length c278_0) ∧ w'.cell? (ad279.add ((x6_2).toNat * 10)) = some (.int .i64 ((rd_T82 (rd_L4 l1_0 x5_1) x6_2).f0.f0)) ∧ w'.cell? ⟨(ad279.add ((x6_2).toNat * 10)).block,(ad279.add ((x6_2).toNat * 10)).off + 1,none⟩ = some (.int .i64 ((rd_T82 (rd_L4 l1_0 x5_1) x6_2).f0.f1)) ∧ w'.cell? ⟨(ad279.add ((x6_2).toNat * 10)).block,(ad279.add ((x6_2).toNat * 10)).off + 2,none⟩ = some (.string ((rd_T82 (rd_L4 l1_0 x5_1) x6_2).f0.f2)) ∧ w'.cell? ⟨(ad279.add ((x6_2).toNat * 10)).block,(ad279.add ((x6_2).toNat * 10)).off + 3,none⟩ = some (.int .i64 ((rd_T82 (rd_L4 l1_0 x5_1) x6_2).f0.f3)) ∧ w'.cell? ⟨(ad279.add ((x6_2).toNat * 10)).block,(ad279.add ((x6_2).toNat * 10)).off + 4,none⟩ = some (.slice A279_4 ((rd_T82 (rd_L4 l1_0 x5_1) x6_2).f0.f4).length c279_4) ∧ w'.cell? ⟨(ad279.add ((x6_2).toNat * 10)).block,(ad279.add ((x6_2).toNat * 10)).off + 5,none⟩ = some (.int .i64 ((rd_T82 (rd_L4 l1_0 x5_1) x6_2).f1.f0)) ∧ w'.cell? ⟨(ad279.add ((x6_2).toNat * 10)).block,(ad279.add ((x6_2).toNat * 10)).off + 6,none⟩ = some (.int .i64 ((rd_T82 (rd_L4 l1_0 x5_1) x6_2).f1.f1)) ∧ w'.cell? ⟨(ad279.add ((x6_2).toNat * 10)).block,(ad279.add ((x6_2).toNat * 10)).off + 7,none⟩ = some (.string ((rd_T82 (rd_L4 l1_0 x5_1) x6_2).f1.f2)) ∧ w'.cell? ⟨(ad279.add ((x6_2).toNat * 10)).block,(ad279.add ((x6_2).toNat * 10)).off + 8,none⟩ = some (.int .i64 ((rd_T82 (rd_L4 l1_0 x5_1) x6_2).f1.f3)) ∧ w'.cell? ⟨(ad279.add ((x6_2).toNat * 10)).block,(ad279.add ((x6_2).toNat * 10)).off + 9,none⟩ = some (.slice A279_9 ((rd_T82 (rd_L4 l1_0 x5_1) x6_2).f1.f4).length c279_9)) (ds:=[]) #[fF,fF,fF,fF,fF,fF,fF,fF,fF,fF,fF,fF,fF,fF,fF,fF,fF,fF,fF,fF,fF,fF,fF,fF,fF,fF,fF,fF,fF,fF,fF,fF,fF,fF,fF,fF,fF,fF,fF,fF,fF,fF] (by kernel_rfl) rfl rfl ⟨(blk_cell BK271.out 0).trans rfl,(blk_cell BK272.out 0).trans rfl,(cB HB hw276_0),(cB HB hw277_0),(cB HB hw277_1),(cB HB hw277_2),(cB HB hw277_3),(cB HB hw277_4),(cB HB hw277_5),(cB HB hw277_6),(cB HB hw277_7),(cB HB hw277_8),(cB HB hw277_9),(cB HB hw278_0),(cB HB hw279_0),(cB HB hw279_1),(cB HB hw279_2),(cB HB hw279_3),(cB HB hw279_4),(cB HB hw279_5),(cB HB hw279_6),(cB HB hw279_7),(cB HB hw279_8),(cB HB hw279_9),(cB HB hw281_0),(cB HB hw282_0),(cB HB hw282_1),(cB HB hw282_2),(cB HB hw282_3),(cB HB hw282_4),(cB HB hw282_5),(cB HB hw282_6),(cB HB hw282_7),(cB HB hw282_8),(cB HB hw282_9),(cB HB hw283_0),(cB HB hw284_0),(cB HB hw284_1),(cB HB hw284_2),(cB HB hw284_3),(cB HB hw284_4),(cB HB hw284_5),(cB HB hw284_6),(cB HB hw284_7),(cB HB hw284_8),(cB HB hw284_9)⟩ (fun hHeld => ?_);refine with_tabW windlassref4_Same.tab11 windlassref4_Same.bits11 (fun HT_ HW_ => ?_)
                  generalize wr.drew = w28 at BK271 BK272 HB HR276_0 HR277_4 HR277_9 HR278_0 HR279_4 HR279_9 HR281_0 HR282_4 HR282_9 HR283_0 HR284_4 HR284_9 hx276_0 hx277_0 hx277_1 hx277_2 hx277_3 hx277_4 hx277_5 hx277_6 hx277_7 hx277_8 hx277_9 hx278_0 hx279_0 hx279_1 hx279_2 hx279_3 hx279_4 hx279_5 hx279_6 hx279_7 hx279_8 hx279_9 hx281_0 hx282_0 hx282_1 hx282_2 hx282_3 hx282_4 hx282_5 hx282_6 hx282_7 hx282_8 hx282_9 hx283_0 hx284_0 hx284_1 hx284_2 hx284_3 hx284_4 hx284_5 hx284_6 hx284_7 hx284_8 hx284_9 hHeld ⊢
                  refine pU 0 (some 44) HT_ rfl ?_
                  refine pU 2 (some 46) HT_ rfl ?_
                  refine pU 5 (some 49) HT_ rfl ?_
                  refine pU 9 (some 53) HT_ rfl ?_
                  refine pU 11 (some 55) HT_ rfl ?_
                  refine pU 14 (some 58) HT_ rfl ?_
                  refine tA 1 (some 45) HT_ HW_ hHeld rfl ?_
                  refine pU 3 (some 47) HT_ rfl ?_
                  refine tA 4 (some 48) HT_ HW_ hHeld rfl ?_
                  refine pU 6 (some 50) HT_ rfl ?_
                  refine pU 7 (some 51) HT_ rfl ?_
                  refine tA 8 (some 52) HT_ HW_ hHeld rfl ?_
                  refine tA 10 (some 54) HT_ HW_ hHeld rfl ?_
                  refine pU 12 (some 56) HT_ rfl ?_
                  refine tA 13 (some 57) HT_ HW_ hHeld rfl ?_
                  refine pU 15 (some 59) HT_ rfl ?_
                  refine pU 16 (some 60) HT_ rfl ?_
                  refine tA 17 (some 61) HT_ HW_ hHeld rfl ?_
                  refine oN 18 (some 62) HT_ rfl (fun K hK => ?_)
                  refine goes_ Try.func24 (by kernel_rfl) rfl #[.agg #[.int .i64 ((rd_T82 (rd_L4 l0_0 x5_1) x6_2).f0.f0), .int .i64 ((rd_T82 (rd_L4 l0_0 x5_1) x6_2).f0.f1), .string ((rd_T82 (rd_L4 l0_0 x5_1) x6_2).f0.f2), .int .i64 ((rd_T82 (rd_L4 l0_0 x5_1) x6_2).f0.f3), .slice A277_4 ((rd_T82 (rd_L4 l0_0 x5_1) x6_2).f0.f4).length c277_4], .agg #[.int .i64 ((rd_T82 (rd_L4 l1_0 x5_1) x6_2).f0.f0), .int .i64 ((rd_T82 (rd_L4 l1_0 x5_1) x6_2).f0.f1), .string ((rd_T82 (rd_L4 l1_0 x5_1) x6_2).f0.f2), .int .i64 ((rd_T82 (rd_L4 l1_0 x5_1) x6_2).f0.f3), .slice A279_4 ((rd_T82 (rd_L4 l1_0 x5_1) x6_2).f0.f4).length c279_4]] (by rfl) rfl rfl aG ?_
                  with_reducible refine (windlassref3_Same.calls k2 ((rd_T82 (rd_L4 l0_0 x5_1) x6_2).f0.f0) ((rd_T82 (rd_L4 l0_0 x5_1) x6_2).f0.f1) ((rd_T82 (rd_L4 l0_0 x5_1) x6_2).f0.f2) ((rd_T82 (rd_L4 l0_0 x5_1) x6_2).f0.f3) _ _ ((rd_T82 (rd_L4 l0_0 x5_1) x6_2).f0.f4) ((rd_T82 (rd_L4 l1_0 x5_1) x6_2).f0.f0) ((rd_T82 (rd_L4 l1_0 x5_1) x6_2).f0.f1) ((rd_T82 (rd_L4 l1_0 x5_1) x6_2).f0.f2) ((rd_T82 (rd_L4 l1_0 x5_1) x6_2).f0.f3) _ _ ((rd_T82 (rd_L4 l1_0 x5_1) x6_2).f0.f4) true _ ?side1 ?side2 ?side3 ?side4 A25.out).mono ?_
                  (case side1 => repeat (first|exact (Kd.C_below HR277_4.out HB.out)|(with_reducible refine Kd.C_alloc ?_ _)|(with_reducible refine Kd.C_drewN ?_ _)|(with_reducible refine Kd.C_drew ?_)))
                  (case side2 => exact HC277_4.out)
                  (case side3 => repeat (first|exact (Kd.C_below HR279_4.out HB.out)|(with_reducible refine Kd.C_alloc ?_ _)|(with_reducible refine Kd.C_drewN ?_ _)|(with_reducible refine Kd.C_drew ?_)))
                  (case side4 => exact HC279_4.out)
                  rintro e w29 ⟨rfl,hb⟩
                  refine ⟨_,rfl,?_⟩
                  replace BK271:=bB BK271 hb
                  replace BK272:=bB BK272 hb
                  replace HB:=Aside0.mk (below_step (bL2 HB GE271 GE272) hb)
                  (try clear hb)
                  (try clear hb2)
                  (try clear hk)
                  (try clear hi)
                  refine hK.out _ _ ⟨(blk_cell BK271.out 0).trans rfl,(blk_cell BK272.out 0).trans rfl,(cB HB hw276_0),(cB HB hw277_0),(cB HB hw277_1),(cB HB hw277_2),(cB HB hw277_3),(cB HB hw277_4),(cB HB hw277_5),(cB HB hw277_6),(cB HB hw277_7),(cB HB hw277_8),(cB HB hw277_9),(cB HB hw278_0),(cB HB hw279_0),(cB HB hw279_1),(cB HB hw279_2),(cB HB hw279_3),(cB HB hw279_4),(cB HB hw279_5),(cB HB hw279_6),(cB HB hw279_7),(cB HB hw279_8),(cB HB hw279_9),(cB HB hw281_0),(cB HB hw282_0),(cB HB hw282_1),(cB HB hw282_2),(cB HB hw282_3),(cB HB hw282_4),(cB HB hw282_5),(cB HB hw282_6),(cB HB hw282_7),(cB HB hw282_8),(cB HB hw282_9),(cB HB hw283_0),(cB HB hw284_0),(cB HB hw284_1),(cB HB hw284_2),(cB HB hw284_3),(cB HB hw284_4),(cB HB hw284_5),(cB HB hw284_6),(cB HB hw284_7),(cB HB hw284_8),(cB HB hw284_9)⟩ (fun hHeld => ?_)
                  clear hK K
                  refine nO ?_
                  refine pU 19 (some 63) HT_ rfl ?_
                  refine pU 20 (some 64) HT_ rfl ?_
                  refine pU 21 (some 65) HT_ rfl ?_
                  refine pU 23 (some 67) HT_ rfl ?_
                  refine pU 26 (some 70) HT_ rfl ?_
                  refine pU 30 (some 74) HT_ rfl ?_
                  refine pU 32 (some 76) HT_ rfl ?_
                  refine pU 35 (some 79) HT_ rfl ?_
                  refine tA 22 (some 66) HT_ HW_ hHeld rfl ?_
                  refine pU 24 (some 68) HT_ rfl ?_
                  refine tA 25 (some 69) HT_ HW_ hHeld rfl ?_
                  refine pU 27 (some 71) HT_ rfl ?_
                  refine pU 28 (some 72) HT_ rfl ?_
                  refine tA 29 (some 73) HT_ HW_ hHeld rfl ?_
                  refine tA 31 (some 75) HT_ HW_ hHeld rfl ?_
                  refine pU 33 (some 77) HT_ rfl ?_
                  refine tA 34 (some 78) HT_ HW_ hHeld rfl ?_
                  refine pU 36 (some 80) HT_ rfl ?_
                  refine pU 37 (some 81) HT_ rfl ?_
                  refine tA 38 (some 82) HT_ HW_ hHeld rfl ?_
                  refine oN 39 (some 83) HT_ rfl (fun K hK => ?_)
                  refine goes_ Try.func24 (by kernel_rfl) rfl #[.agg #[.int .i64 ((rd_T82 (rd_L4 l0_0 x5_1) x6_2).f1.f0), .int .i64 ((rd_T82 (rd_L4 l0_0 x5_1) x6_2).f1.f1), .string ((rd_T82 (rd_L4 l0_0 x5_1) x6_2).f1.f2), .int .i64 ((rd_T82 (rd_L4 l0_0 x5_1) x6_2).f1.f3), .slice A277_9 ((rd_T82 (rd_L4 l0_0 x5_1) x6_2).f1.f4).length c277_9], .agg #[.int .i64 ((rd_T82 (rd_L4 l1_0 x5_1) x6_2).f1.f0), .int .i64 ((rd_T82 (rd_L4 l1_0 x5_1) x6_2).f1.f1), .string ((rd_T82 (rd_L4 l1_0 x5_1) x6_2).f1.f2), .int .i64 ((rd_T82 (rd_L4 l1_0 x5_1) x6_2).f1.f3), .slice A279_9 ((rd_T82 (rd_L4 l1_0 x5_1) x6_2).f1.f4).length c279_9]] (by rfl) rfl rfl aG ?_
                  with_reducible refine (windlassref3_Same.calls k2 ((rd_T82 (rd_L4 l0_0 x5_1) x6_2).f1.f0) ((rd_T82 (rd_L4 l0_0 x5_1) x6_2).f1.f1) ((rd_T82 (rd_L4 l0_0 x5_1) x6_2).f1.f2) ((rd_T82 (rd_L4 l0_0 x5_1) x6_2).f1.f3) _ _ ((rd_T82 (rd_L4 l0_0 x5_1) x6_2).f1.f4) ((rd_T82 (rd_L4 l1_0 x5_1) x6_2).f1.f0) ((rd_T82 (rd_L4 l1_0 x5_1) x6_2).f1.f1) ((rd_T82 (rd_L4 l1_0 x5_1) x6_2).f1.f2) ((rd_T82 (rd_L4 l1_0 x5_1) x6_2).f1.f3) _ _ ((rd_T82 (rd_L4 l1_0 x5_1) x6_2).f1.f4) t285 _ ?side1 ?side2 ?side3 ?side4 A27.out).mono ?_
                  (case side1 => repeat (first|exact (Kd.C_below HR282_9.out HB.out)|(with_reducible refine Kd.C_alloc ?_ _)|(with_reducible refine Kd.C_drewN ?_ _)|(with_reducible refine Kd.C_drew ?_)))
                  (case side2 => exact HC282_9.out)
                  (case side3 => repeat (first|exact (Kd.C_below HR284_9.out HB.out)|(with_reducible refine Kd.C_alloc ?_ _)|(with_reducible refine Kd.C_drewN ?_ _)|(with_reducible refine Kd.C_drew ?_)))
                  (case side4 => exact HC284_9.out)
                  rintro e w30 ⟨rfl,hb⟩
                  refine ⟨_,rfl,?_⟩
                  replace BK271:=bB BK271 hb
                  replace BK272:=bB BK272 hb
                  replace HB:=Aside0.mk (below_step (bL2 HB GE271 GE272) hb)
                  (try clear hb)
                  (try clear hb2)
                  (try clear hk)
                  (try clear hi)
                  refine hK.out _ _ ⟨(blk_cell BK271.out 0).trans rfl,(blk_cell BK272.out 0).trans rfl,(cB HB hw276_0),(cB HB hw277_0),(cB HB hw277_1),(cB HB hw277_2),(cB HB hw277_3),(cB HB hw277_4),(cB HB hw277_5),(cB HB hw277_6),(cB HB hw277_7),(cB HB hw277_8),(cB HB hw277_9),(cB HB hw278_0),(cB HB hw279_0),(cB HB hw279_1),(cB HB hw279_2),(cB HB hw279_3),(cB HB hw279_4),(cB HB hw279_5),(cB HB hw279_6),(cB HB hw279_7),(cB HB hw279_8),(cB HB hw279_9),(cB HB hw281_0),(cB HB hw282_0),(cB HB hw282_1),(cB HB hw282_2),(cB HB hw282_3),(cB HB hw282_4),(cB HB hw282_5),(cB HB hw282_6),(cB HB hw282_7),(cB HB hw282_8),(cB HB hw282_9),(cB HB hw283_0),(cB HB hw284_0),(cB HB hw284_1),(cB HB hw284_2),(cB HB hw284_3),(cB HB hw284_4),(cB HB hw284_5),(cB HB hw284_6),(cB HB hw284_7),(cB HB hw284_8),(cB HB hw284_9)⟩ (fun hHeld => ?_)
                  clear hK K
                  refine nO ?_
                  refine pU 40 (some 84) HT_ rfl ?_
                  refine pU 41 (some 85) HT_ rfl ?_
                  refine done_ (done_of HT_.out (by kernel_rfl)) ?_
                  try go_wp2
                  go_meet
                  case rel => exact ⟨_,(!t285),(by first|rfl|(simp;done)|(simp [*];done)),H',⟨by have:=HK1.out;have:=HK2.out;first|omega|exact Nat.le_refl _⟩,⟨by (with_reducible repeat (first|refine blk_drewN ?_ _|refine blk_drew ?_|refine blk_alloc ?_ _));exact BK271.out⟩,⟨by (with_reducible repeat (first|refine blk_drewN ?_ _|refine blk_drew ?_|refine blk_alloc ?_ _));exact BK272.out⟩,⟨by repeat (first|(with_reducible first|exact HB.out|apply below_alloc|apply pw_below_drewN|apply below_drew1|refine below_set ?_ GE271.out|refine below_set ?_ GE272.out)|exact HB.out)⟩⟩
                 replace c26:=Bool.eq_false_iff.mpr c26
                 subst c26
                 have H1 : (windlassref4_Same.j2 k2 x5_1 x6_2 true l0_0 l1_0) = some r:=by rw [if_neg (show ¬ (false = true) by decide)] at H;exact H
                 clear H
                 have H:=H1
                 clear H1
                 have H':=Aside0.mk H
                 clear H
                 try go_wp2
                 replace BK271:=Aside0.mk (blk_drew BK271.out)
                 replace BK272:=Aside0.mk (blk_drew BK272.out)
                 replace HB:=Aside0.mk (below_drew1 HB.out)
                 have p276 : 0 ≤ (x5_1 : Int):=of_decide_eq_true aX
                 have q276 : x5_1 < (l0_0.length : Int):=of_decide_eq_true aX
                 obtain ⟨ad276,A276_0,c276_0,e276,hx276_0,hl276_0,hi276_0⟩:=at_L4 HR0_0.out x5_1 p276 q276
                 have hw276_0:=hx276_0
                 obtain rfl : ad273 = ad276:=(by injection e276)
                 replace hx276_0:=cB HB hx276_0
                 have HR276_0:=Aside0.mk hi276_0
                 have HC276_0:=Aside0.mk hl276_0
                 clear hi276_0 hl276_0
                 replace p276:=eq_true p276
                 replace q276:=eq_true q276
                 have p277 : 0 ≤ (x6_2 : Int):=of_decide_eq_true aX
                 have q277 : x6_2 < ((rd_L4 l0_0 x5_1).length : Int):=of_decide_eq_true aX
                 obtain ⟨ad277,A277_4,c277_4,A277_9,c277_9,e277,hx277_0,hx277_1,hx277_2,hx277_3,hx277_4,hx277_5,hx277_6,hx277_7,hx277_8,hx277_9,hl277_4,hi277_4,hl277_9,hi277_9⟩:=at_T82 HR276_0.out x6_2 p277 q277
                 have hw277_9:=hx277_9
                 have hw277_8:=hx277_8
                 have hw277_7:=hx277_7
                 have hw277_6:=hx277_6
                 have hw277_5:=hx277_5
                 have hw277_4:=hx277_4
                 have hw277_3:=hx277_3
                 have hw277_2:=hx277_2
                 have hw277_1:=hx277_1
                 have hw277_0:=hx277_0
                 cases e277
                 replace hx277_0:=cB HB hx277_0
                 replace hx277_1:=cB HB hx277_1
                 replace hx277_2:=cB HB hx277_2
                 replace hx277_3:=cB HB hx277_3
                 replace hx277_4:=cB HB hx277_4
                 replace hx277_5:=cB HB hx277_5
                 replace hx277_6:=cB HB hx277_6
                 replace hx277_7:=cB HB hx277_7
                 replace hx277_8:=cB HB hx277_8
                 replace hx277_9:=cB HB hx277_9
                 have HR277_4:=Aside0.mk hi277_4
                 have HC277_4:=Aside0.mk hl277_4
                 clear hi277_4 hl277_4
                 have HR277_9:=Aside0.mk hi277_9
                 have HC277_9:=Aside0.mk hl277_9
                 clear hi277_9 hl277_9
                 replace p277:=eq_true p277
                 replace q277:=eq_true q277
                 have p278 : 0 ≤ (x5_1 : Int):=of_decide_eq_true aX
                 have q278 : x5_1 < (l1_0.length : Int):=of_decide_eq_true aX
                 obtain ⟨ad278,A278_0,c278_0,e278,hx278_0,hl278_0,hi278_0⟩:=at_L4 HR1_0.out x5_1 p278 q278
                 have hw278_0:=hx278_0
                 obtain rfl : ad274 = ad278:=(by injection e278)
                 replace hx278_0:=cB HB hx278_0
                 have HR278_0:=Aside0.mk hi278_0
                 have HC278_0:=Aside0.mk hl278_0
                 clear hi278_0 hl278_0
                 replace p278:=eq_true p278
                 replace q278:=eq_true q278
                 have p279 : 0 ≤ (x6_2 : Int):=of_decide_eq_true aX
                 have q279 : x6_2 < ((rd_L4 l1_0 x5_1).length : Int):=of_decide_eq_true aX
                 obtain ⟨ad279,A279_4,c279_4,A279_9,c279_9,e279,hx279_0,hx279_1,hx279_2,hx279_3,hx279_4,hx279_5,hx279_6,hx279_7,hx279_8,hx279_9,hl279_4,hi279_4,hl279_9,hi279_9⟩:=at_T82 HR278_0.out x6_2 p279 q279
                 have hw279_9:=hx279_9
                 have hw279_8:=hx279_8
                 have hw279_7:=hx279_7
                 have hw279_6:=hx279_6
                 have hw279_5:=hx279_5
                 have hw279_4:=hx279_4
                 have hw279_3:=hx279_3
                 have hw279_2:=hx279_2
                 have hw279_1:=hx279_1
                 have hw279_0:=hx279_0
                 cases e279
                 replace hx279_0:=cB HB hx279_0
                 replace hx279_1:=cB HB hx279_1
                 replace hx279_2:=cB HB hx279_2
                 replace hx279_3:=cB HB hx279_3
                 replace hx279_4:=cB HB hx279_4
                 replace hx279_5:=cB HB hx279_5
                 replace hx279_6:=cB HB hx279_6
                 replace hx279_7:=cB HB hx279_7
                 replace hx279_8:=cB HB hx279_8
                 replace hx279_9:=cB HB hx279_9
                 have HR279_4:=Aside0.mk hi279_4
                 have HC279_4:=Aside0.mk hl279_4
                 clear hi279_4 hl279_4
                 have HR279_9:=Aside0.mk hi279_9
                 have HC279_9:=Aside0.mk hl279_9
                 clear hi279_9 hl279_9
                 replace p279:=eq_true p279
                 replace q279:=eq_true q279
                 refine start_ (n:=42) (S:=fun w' => w'.cell? ⟨gb271,0,none⟩ = some (.slice (some ad273) l0_0.length c0_0) ∧ w'.cell? ⟨gb272,0,none⟩ = some (.slice (some ad274) l1_0.length c1_0) ∧ w'.cell? (ad273.add (x5_1).toNat) = some (.slice (some ad277) (rd_L4 l0_0 x5_1).length c276_0) ∧ w'.cell? (ad277.add ((x6_2).toNat * 10)) = some (.int .i64 ((rd_T82 (rd_L4 l0_0 x5_1) x6_2).f0.f0)) ∧ w'.cell? ⟨(ad277.add ((x6_2).toNat * 10)).block,(ad277.add ((x6_2).toNat * 10)).off + 1,none⟩ = some (.int .i64 ((rd_T82 (rd_L4 l0_0 x5_1) x6_2).f0.f1)) ∧ w'.cell? ⟨(ad277.add ((x6_2).toNat * 10)).block,(ad277.add ((x6_2).toNat * 10)).off + 2,none⟩ = some (.string ((rd_T82 (rd_L4 l0_0 x5_1) x6_2).f0.f2)) ∧ w'.cell? ⟨(ad277.add ((x6_2).toNat * 10)).block,(ad277.add ((x6_2).toNat * 10)).off + 3,none⟩ = some (.int .i64 ((rd_T82 (rd_L4 l0_0 x5_1) x6_2).f0.f3)) ∧ w'.cell? ⟨(ad277.add ((x6_2).toNat * 10)).block,(ad277.add ((x6_2).toNat * 10)).off + 4,none⟩ = some (.slice A277_4 ((rd_T82 (rd_L4 l0_0 x5_1) x6_2).f0.f4).length c277_4) ∧ w'.cell? ⟨(ad277.add ((x6_2).toNat * 10)).block,(ad277.add ((x6_2).toNat * 10)).off + 5,none⟩ = some (.int .i64 ((rd_T82 (rd_L4 l0_0 x5_1) x6_2).f1.f0)) ∧ w'.cell? ⟨(ad277.add ((x6_2).toNat * 10)).block,(ad277.add ((x6_2).toNat * 10)).off + 6,none⟩ = some (.int .i64 ((rd_T82 (rd_L4 l0_0 x5_1) x6_2).f1.f1)) ∧ w'.cell? ⟨(ad277.add ((x6_2).toNat * 10)).block,(ad277.add ((x6_2).toNat * 10)).off + 7,none⟩ = some (.string ((rd_T82 (rd_L4 l0_0 x5_1) x6_2).f1.f2)) ∧ w'.cell? ⟨(ad277.add ((x6_2).toNat * 10)).block,(ad277.add ((x6_2).toNat * 10)).off + 8,none⟩ = some (.int .i64 ((rd_T82 (rd_L4 l0_0 x5_1) x6_2).f1.f3)) ∧ w'.cell? ⟨(ad277.add ((x6_2).toNat * 10)).block,(ad277.add ((x6_2).toNat * 10)).off + 9,none⟩ = some (.slice A277_9 ((rd_T82 (rd_L4 l0_0 x5_1) x6_2).f1.f4).length c277_9) ∧ w'.cell? (ad274.add (x5_1).toNat) = some (.slice (some ad279) (rd_L4 l1_0 x5_1).length c278_0) ∧ w'.cell? (ad279.add ((x6_2).toNat * 10)) = some (.int .i64 ((rd_T82 (rd_L4 l1_0 x5_1) x6_2).f0.f0)) ∧ w'.cell? ⟨(ad279.add ((x6_2).toNat * 10)).block,(ad279.add ((x6_2).toNat * 10)).off + 1,none⟩ = some (.int .i64 ((rd_T82 (rd_L4 l1_0 x5_1) x6_2).f0.f1)) ∧ w'.cell? ⟨(ad279.add ((x6_2).toNat * 10)).block,(ad279.add ((x6_2).toNat * 10)).off + 2,none⟩ = some (.string ((rd_T82 (rd_L4 l1_0 x5_1) x6_2).f0.f2)) ∧ w'.cell? ⟨(ad279.add ((x6_2).toNat * 10)).block,(ad279.add ((x6_2).toNat * 10)).off + 3,none⟩ = some (.int .i64 ((rd_T82 (rd_L4 l1_0 x5_1) x6_2).f0.f3)) ∧ w'.cell? ⟨(ad279.add ((x6_2).toNat * 10)).block,(ad279.add ((x6_2).toNat * 10)).off + 4,none⟩ = some (.slice A279_4 ((rd_T82 (rd_L4 l1_0 x5_1) x6_2).f0.f4).length c279_4) ∧ w'.cell? ⟨(ad279.add ((x6_2).toNat * 10)).block,(ad279.add ((x6_2).toNat * 10)).off + 5,none⟩ = some (.int .i64 ((rd_T82 (rd_L4 l1_0 x5_1) x6_2).f1.f0)) ∧ w'.cell? ⟨(ad279.add ((x6_2).toNat * 10)).block,(ad279.add ((x6_2).toNat * 10)).off + 6,none⟩ = some (.int .i64 ((rd_T82 (rd_L4 l1_0 x5_1) x6_2).f1.f1)) ∧ w'.cell? ⟨(ad279.add ((x6_2).toNat * 10)).block,(ad279.add ((x6_2).toNat * 10)).off + 7,none⟩ = some (.string ((rd_T82 (rd_L4 l1_0 x5_1) x6_2).f1.f2)) ∧ w'.cell? ⟨(ad279.add ((x6_2).toNat * 10)).block,(ad279.add ((x6_2).toNat * 10)).off + 8,none⟩ = some (.int .i64 ((rd_T82 (rd_L4 l1_0 x5_1) x6_2).f1.f3)) ∧ w'.cell? ⟨(ad279.add ((x6_2).toNat * 10)).block,(ad279.add ((x6_2).toNat * 10)).off + 9,none⟩ = some (.slice A279_9 ((rd_T82 (rd_L4 l1_0 x5_1) x6_2).f1.f4).length c279_9)) (ds:=[]) #[fF,fF,fF,fF,fF,fF,fF,fF,fF,fF,fF,fF,fF,fF,fF,fF,fF,fF,fF,fF,fF,fF,fF,fF,fF,fF,fF,fF,fF,fF,fF,fF,fF,fF,fF,fF,fF,fF,fF,fF,fF,fF] (by kernel_rfl) rfl rfl ⟨(blk_cell BK271.out 0).trans rfl,(blk_cell BK272.out 0).trans rfl,(cB HB hw276_0),(cB HB hw277_0),(cB HB hw277_1),(cB HB hw277_2),(cB HB hw277_3),(cB HB hw277_4),(cB HB hw277_5),(cB HB hw277_6),(cB HB hw277_7),(cB HB hw277_8),(cB HB hw277_9),(cB HB hw278_0),(cB HB hw279_0),(cB HB hw279_1),(cB HB hw279_2),(cB HB hw279_3),(cB HB hw279_4),(cB HB hw279_5),(cB HB hw279_6),(cB HB hw279_7),(cB HB hw279_8),(cB HB hw279_9)⟩ (fun hHeld => ?_);refine with_tabW windlassref4_Same.tab11 windlassref4_Same.bits11 (fun HT_ HW_ => ?_)
                 generalize wr.drew = w31 at BK271 BK272 HB HR276_0 HR277_4 HR277_9 HR278_0 HR279_4 HR279_9 hx276_0 hx277_0 hx277_1 hx277_2 hx277_3 hx277_4 hx277_5 hx277_6 hx277_7 hx277_8 hx277_9 hx278_0 hx279_0 hx279_1 hx279_2 hx279_3 hx279_4 hx279_5 hx279_6 hx279_7 hx279_8 hx279_9 hHeld ⊢
                 refine pU 0 (some 44) HT_ rfl ?_
                 refine pU 2 (some 46) HT_ rfl ?_
                 refine pU 5 (some 49) HT_ rfl ?_
                 refine pU 9 (some 53) HT_ rfl ?_
                 refine pU 11 (some 55) HT_ rfl ?_
                 refine pU 14 (some 58) HT_ rfl ?_
                 refine tA 1 (some 45) HT_ HW_ hHeld rfl ?_
                 refine pU 3 (some 47) HT_ rfl ?_
                 refine tA 4 (some 48) HT_ HW_ hHeld rfl ?_
                 refine pU 6 (some 50) HT_ rfl ?_
                 refine pU 7 (some 51) HT_ rfl ?_
                 refine tA 8 (some 52) HT_ HW_ hHeld rfl ?_
                 refine tA 10 (some 54) HT_ HW_ hHeld rfl ?_
                 refine pU 12 (some 56) HT_ rfl ?_
                 refine tA 13 (some 57) HT_ HW_ hHeld rfl ?_
                 refine pU 15 (some 59) HT_ rfl ?_
                 refine pU 16 (some 60) HT_ rfl ?_
                 refine tA 17 (some 61) HT_ HW_ hHeld rfl ?_
                 refine oN 18 (some 62) HT_ rfl (fun K hK => ?_)
                 refine goes_ Try.func24 (by kernel_rfl) rfl #[.agg #[.int .i64 ((rd_T82 (rd_L4 l0_0 x5_1) x6_2).f0.f0), .int .i64 ((rd_T82 (rd_L4 l0_0 x5_1) x6_2).f0.f1), .string ((rd_T82 (rd_L4 l0_0 x5_1) x6_2).f0.f2), .int .i64 ((rd_T82 (rd_L4 l0_0 x5_1) x6_2).f0.f3), .slice A277_4 ((rd_T82 (rd_L4 l0_0 x5_1) x6_2).f0.f4).length c277_4], .agg #[.int .i64 ((rd_T82 (rd_L4 l1_0 x5_1) x6_2).f0.f0), .int .i64 ((rd_T82 (rd_L4 l1_0 x5_1) x6_2).f0.f1), .string ((rd_T82 (rd_L4 l1_0 x5_1) x6_2).f0.f2), .int .i64 ((rd_T82 (rd_L4 l1_0 x5_1) x6_2).f0.f3), .slice A279_4 ((rd_T82 (rd_L4 l1_0 x5_1) x6_2).f0.f4).length c279_4]] (by rfl) rfl rfl aG ?_
                 with_reducible refine (windlassref3_Same.calls k2 ((rd_T82 (rd_L4 l0_0 x5_1) x6_2).f0.f0) ((rd_T82 (rd_L4 l0_0 x5_1) x6_2).f0.f1) ((rd_T82 (rd_L4 l0_0 x5_1) x6_2).f0.f2) ((rd_T82 (rd_L4 l0_0 x5_1) x6_2).f0.f3) _ _ ((rd_T82 (rd_L4 l0_0 x5_1) x6_2).f0.f4) ((rd_T82 (rd_L4 l1_0 x5_1) x6_2).f0.f0) ((rd_T82 (rd_L4 l1_0 x5_1) x6_2).f0.f1) ((rd_T82 (rd_L4 l1_0 x5_1) x6_2).f0.f2) ((rd_T82 (rd_L4 l1_0 x5_1) x6_2).f0.f3) _ _ ((rd_T82 (rd_L4 l1_0 x5_1) x6_2).f0.f4) false _ ?side1 ?side2 ?side3 ?side4 A25.out).mono ?_
                 (case side1 => repeat (first|exact (Kd.C_below HR277_4.out HB.out)|(with_reducible refine Kd.C_alloc ?_ _)|(with_reducible refine Kd.C_drewN ?_ _)|(with_reducible refine Kd.C_drew ?_)))
                 (case side2 => exact HC277_4.out)
                 (case side3 => repeat (first|exact (Kd.C_below HR279_4.out HB.out)|(with_reducible refine Kd.C_alloc ?_ _)|(with_reducible refine Kd.C_drewN ?_ _)|(with_reducible refine Kd.C_drew ?_)))
                 (case side4 => exact HC279_4.out)
                 rintro e w32 ⟨rfl,hb⟩
                 refine ⟨_,rfl,?_⟩
                 replace BK271:=bB BK271 hb
                 replace BK272:=bB BK272 hb
                 replace HB:=Aside0.mk (below_step (bL2 HB GE271 GE272) hb)
                 (try clear hb)
                 (try clear hb2)
                 (try clear hk)
                 (try clear hi)
                 refine hK.out _ _ ⟨(blk_cell BK271.out 0).trans rfl,(blk_cell BK272.out 0).trans rfl,(cB HB hw276_0),(cB HB hw277_0),(cB HB hw277_1),(cB HB hw277_2),(cB HB hw277_3),(cB HB hw277_4),(cB HB hw277_5),(cB HB hw277_6),(cB HB hw277_7),(cB HB hw277_8),(cB HB hw277_9),(cB HB hw278_0),(cB HB hw279_0),(cB HB hw279_1),(cB HB hw279_2),(cB HB hw279_3),(cB HB hw279_4),(cB HB hw279_5),(cB HB hw279_6),(cB HB hw279_7),(cB HB hw279_8),(cB HB hw279_9)⟩ (fun hHeld => ?_)
                 clear hK K
                 refine nO ?_
                 refine pU 19 (some 63) HT_ rfl ?_
                 refine pU 20 (some 64) HT_ rfl ?_
                 refine pO 21 (some 65) HT_ rfl ?_
                 refine pO 22 (some 66) HT_ rfl ?_
                 refine pO 23 (some 67) HT_ rfl ?_
                 refine pO 24 (some 68) HT_ rfl ?_
                 refine pO 25 (some 69) HT_ rfl ?_
                 refine pO 26 (some 70) HT_ rfl ?_
                 refine pO 27 (some 71) HT_ rfl ?_
                 refine pO 28 (some 72) HT_ rfl ?_
                 refine pO 29 (some 73) HT_ rfl ?_
                 refine pO 30 (some 74) HT_ rfl ?_
                 refine pO 31 (some 75) HT_ rfl ?_
                 refine pO 32 (some 76) HT_ rfl ?_
                 refine pO 33 (some 77) HT_ rfl ?_
                 refine pO 34 (some 78) HT_ rfl ?_
                 refine pO 35 (some 79) HT_ rfl ?_
                 refine pO 36 (some 80) HT_ rfl ?_
                 refine pO 37 (some 81) HT_ rfl ?_
                 refine pO 38 (some 82) HT_ rfl ?_
                 refine pO 39 (some 83) HT_ rfl ?_
                 refine pO 40 (some 84) HT_ rfl ?_
                 refine pU 41 (some 85) HT_ rfl ?_
                 refine done_ (done_of HT_.out (by kernel_rfl)) ?_
                 try go_wp2
                 go_meet
                 case rel => exact ⟨_,(true),(by first|rfl|(simp;done)|(simp [*];done)),H',⟨by have:=HK1.out;have:=HK2.out;first|omega|exact Nat.le_refl _⟩,⟨by (with_reducible repeat (first|refine blk_drewN ?_ _|refine blk_drew ?_|refine blk_alloc ?_ _));exact BK271.out⟩,⟨by (with_reducible repeat (first|refine blk_drewN ?_ _|refine blk_drew ?_|refine blk_alloc ?_ _));exact BK272.out⟩,⟨by repeat (first|(with_reducible first|exact HB.out|apply below_alloc|apply pw_below_drewN|apply below_drew1|refine below_set ?_ GE271.out|refine below_set ?_ GE272.out)|exact HB.out)⟩⟩
                rw [if_neg c24] at H
                exact absurd H (by simp)
               rw [if_neg c23] at H
               exact absurd H (by simp)
              rw [if_neg c22] at H
              exact absurd H (by simp)
             case rest =>
              clear HC19
              try clear c1
              try clear c2
              try clear p2
              try clear q2
              try clear hx2
              try clear c22
              try clear c23
              try clear c24
              try clear c26
              try clear c27
              try clear p27
              try clear q27
              try clear hx27
              try clear c28
              try clear hx276_0
              try clear hx277_0
              try clear hx277_1
              try clear hx277_2
              try clear hx277_3
              try clear hx277_4
              try clear hx277_5
              try clear hx277_6
              try clear hx277_7
              try clear hx277_8
              try clear hx277_9
              try clear hx278_0
              try clear hx279_0
              try clear hx279_1
              try clear hx279_2
              try clear hx279_3
              try clear hx279_4
              try clear hx279_5
              try clear hx279_6
              try clear hx279_7
              try clear hx279_8
              try clear hx279_9
              try clear p276
              try clear p277
              try clear p278
              try clear p279
              try clear q276
              try clear q277
              try clear q278
              try clear q279
              obtain ⟨kq,x85_18,rfl,HA,HJ18,BK271,BK272,HB⟩:=hcut
              cases kq with
              | zero => exact absurd HA.out (by simp [windlassref4_Same.j2])
              | succ kj18 =>
               have H:=HA.out
               clear HA
               simp only [windlassref4_Same.j2] at H
               by_cases c33 : x85_18 = true
               ·subst c33
                have H1 : (some false) = some r:=by rw [if_pos rfl] at H;exact H
                clear H
                have H:=H1
                clear H1
                obtain rfl:=Option.some.inj H
                go_wp2
                go_ret
                exact ⟨by first|rfl|(simp [errW_none,errW_some] <;> rfl)|(simp [*,errW_none,errW_some] <;> rfl),by repeat (first|(with_reducible first|exact HB.out|apply below_alloc|apply pw_below_drewN|apply below_drew1|refine below_set ?_ GE271.out|refine below_set ?_ GE272.out)|exact HB.out)⟩
               replace c33:=Bool.eq_false_iff.mpr c33
               subst c33
               have H1 : (windlassref4_Same.l1 kj18 x5_1 (wrap64 (x6_2 + 1)) l0_0 l1_0) = some r:=by rw [if_neg (show ¬ (false = true) by decide)] at H;exact H
               clear H
               have H:=H1
               clear H1
               have H':=Aside0.mk H
               clear H
               go_wp2
               go_roundg kj18
               case measure => have:=HK1.out;have:=HK2.out;have:=HJ18.out;omega
               case rel => exact ⟨(wrap64 (x6_2 + 1)),(by first|rfl|(simp;done)|(simp [*];done)),H',⟨by have:=HK1.out;have:=HK2.out;have:=HJ18.out;omega⟩,⟨by (with_reducible repeat (first|refine blk_drewN ?_ _|refine blk_drew ?_|refine blk_alloc ?_ _));exact BK271.out⟩,⟨by (with_reducible repeat (first|refine blk_drewN ?_ _|refine blk_drew ?_|refine blk_alloc ?_ _));exact BK272.out⟩,⟨by repeat (first|(with_reducible first|exact HB.out|apply below_alloc|apply pw_below_drewN|apply below_drew1|refine below_set ?_ GE271.out|refine below_set ?_ GE272.out)|exact HB.out)⟩⟩
            rw [if_neg c18] at H
            have c18b0 : decide (x6_2 < ((rd_L4 l0_0 x5_1).length : Int)) = false:=decide_eq_false c18
            clear c18
            have H':=Aside0.mk H
            clear H
            have hnb34:=NB271_272.out
            have hnc34:=NB272_271.out
            have hcz35_0 : wr.cell? ⟨gb271,0,none⟩ = some (.slice (some ad273) l0_0.length c0_0):=(blk_cell BK271.out 0).trans rfl
            have hfz35_0:=blk_frozen BK271.out 0
            have p275 : 0 ≤ (x5_1 : Int):=of_decide_eq_true aX
            have q275 : x5_1 < (l0_0.length : Int):=of_decide_eq_true aX
            obtain ⟨ad275,A275_0,c275_0,e275,hx275_0,hl275_0,hi275_0⟩:=at_L4 HR0_0.out x5_1 p275 q275
            obtain rfl : ad273 = ad275:=(by injection e275)
            replace hx275_0:=cB HB hx275_0
            have HR275_0:=Aside0.mk hi275_0
            have HC275_0:=Aside0.mk hl275_0
            clear hi275_0 hl275_0
            replace p275:=eq_true p275
            replace q275:=eq_true q275
            go_wp2
            go_roundg k2
            case measure => have:=HK1.out;have:=HK2.out;omega
            case rel => exact ⟨(wrap64 (x5_1 + 1)),(by first|rfl|(simp;done)|(simp [*];done)),H',⟨by have:=HK1.out;have:=HK2.out;omega⟩,⟨by (with_reducible repeat (first|refine blk_drewN ?_ _|refine blk_drew ?_|refine blk_alloc ?_ _));exact BK271.out⟩,⟨by (with_reducible repeat (first|refine blk_drewN ?_ _|refine blk_drew ?_|refine blk_alloc ?_ _));exact BK272.out⟩,⟨by repeat (first|(with_reducible first|exact HB.out|apply below_alloc|apply pw_below_drewN|apply below_drew1|refine below_set ?_ GE271.out|refine below_set ?_ GE272.out)|exact HB.out)⟩⟩
           rw [if_neg c17] at H
           exact absurd H (by simp)
          rw [if_neg c16] at H
          exact absurd H (by simp)
       rw [if_neg c12] at H
       have c12b0 : (((rd_L4 l0_0 x5_1).length : Int) == ((rd_L4 l1_0 x5_1).length : Int)) = false:=beq_eq_false_iff_ne.mpr c12
       have c12b1 : (((rd_L4 l0_0 x5_1).length : Int) != ((rd_L4 l1_0 x5_1).length : Int)) = true:=bne_iff_ne.mpr c12
       have c12b2 : ((rd_L4 l0_0 x5_1).length == (rd_L4 l1_0 x5_1).length) = false:=by first|simpa using c12|(simp at c12 ⊢;omega)
       obtain rfl:=Option.some.inj H
       have hnb36:=NB271_272.out
       have hnc36:=NB272_271.out
       have hcz37_0 : wr.cell? ⟨gb271,0,none⟩ = some (.slice A0_0 l0_0.length c0_0):=(blk_cell BK271.out 0).trans rfl
       have hfz37_0:=blk_frozen BK271.out 0
       try go_wp2
       replace BK271:=Aside0.mk (blk_drew BK271.out)
       replace BK272:=Aside0.mk (blk_drew BK272.out)
       replace HB:=Aside0.mk (below_drew1 HB.out)
       have p273 : 0 ≤ (x5_1 : Int):=of_decide_eq_true aX
       have q273 : x5_1 < (l0_0.length : Int):=of_decide_eq_true aX
       obtain ⟨ad273,A273_0,c273_0,e273,hx273_0,hl273_0,hi273_0⟩:=at_L4 HR0_0.out x5_1 p273 q273
       have hw273_0:=hx273_0
       cases e273
       replace hx273_0:=cB HB hx273_0
       have HR273_0:=Aside0.mk hi273_0
       have HC273_0:=Aside0.mk hl273_0
       clear hi273_0 hl273_0
       replace p273:=eq_true p273
       replace q273:=eq_true q273
       have p274 : 0 ≤ (x5_1 : Int):=of_decide_eq_true aX
       have q274 : x5_1 < (l1_0.length : Int):=of_decide_eq_true aX
       obtain ⟨ad274,A274_0,c274_0,e274,hx274_0,hl274_0,hi274_0⟩:=at_L4 HR1_0.out x5_1 p274 q274
       have hw274_0:=hx274_0
       cases e274
       replace hx274_0:=cB HB hx274_0
       have HR274_0:=Aside0.mk hi274_0
       have HC274_0:=Aside0.mk hl274_0
       clear hi274_0 hl274_0
       replace p274:=eq_true p274
       replace q274:=eq_true q274
       refine start_ (n:=13) (S:=fun w' => w'.cell? ⟨gb271,0,none⟩ = some (.slice (some ad273) l0_0.length c0_0) ∧ w'.cell? ⟨gb272,0,none⟩ = some (.slice (some ad274) l1_0.length c1_0) ∧ w'.cell? (ad273.add (x5_1).toNat) = some (.slice A273_0 (rd_L4 l0_0 x5_1).length c273_0) ∧ w'.cell? (ad274.add (x5_1).toNat) = some (.slice A274_0 (rd_L4 l1_0 x5_1).length c274_0)) (ds:=[]) #[fF,fF,fF,fF,fF,fF,fF,fF,fF,fF,fF,fF,fF] (by kernel_rfl) rfl rfl ⟨(blk_cell BK271.out 0).trans rfl,(blk_cell BK272.out 0).trans rfl,(cB HB hw273_0),(cB HB hw274_0)⟩ (fun hHeld => ?_);refine with_tabW windlassref4_Same.tab6 windlassref4_Same.bits6 (fun HT_ HW_ => ?_)
       generalize wr.drew = w38 at BK271 BK272 HB HR273_0 HR274_0 hx273_0 hx274_0 hHeld ⊢
       refine pU 0 (some 21) HT_ rfl ?_
       refine pU 2 (some 23) HT_ rfl ?_
       refine pU 6 (some 27) HT_ rfl ?_
       refine pU 8 (some 29) HT_ rfl ?_
       refine tA 1 (some 22) HT_ HW_ hHeld rfl ?_
       refine pU 3 (some 24) HT_ rfl ?_
       refine tA 4 (some 25) HT_ HW_ hHeld rfl ?_
       refine pU 5 (some 26) HT_ rfl ?_
       refine tA 7 (some 28) HT_ HW_ hHeld rfl ?_
       refine pU 9 (some 30) HT_ rfl ?_
       refine tA 10 (some 31) HT_ HW_ hHeld rfl ?_
       refine pU 11 (some 32) HT_ rfl ?_
       refine pU 12 (some 33) HT_ rfl ?_
       refine done_ (done_of HT_.out (by kernel_rfl)) ?_
       try go_wp2
       go_ret
       exact ⟨by first|rfl|(simp [errW_none,errW_some] <;> rfl)|(simp [*,errW_none,errW_some] <;> rfl),by repeat (first|(with_reducible first|exact HB.out|apply below_alloc|apply pw_below_drewN|apply below_drew1|refine below_set ?_ GE271.out|refine below_set ?_ GE272.out)|exact HB.out)⟩
      rw [if_neg c11] at H
      exact absurd H (by simp)
     rw [if_neg c10] at H
     exact absurd H (by simp)
    rw [if_neg c9] at H
    have c9b0 : decide (x5_1 < (l0_0.length : Int)) = false:=decide_eq_false c9
    clear c9
    obtain rfl:=Option.some.inj H
    have hnb39:=NB271_272.out
    have hnc39:=NB272_271.out
    have hcz40_0 : wr.cell? ⟨gb271,0,none⟩ = some (.slice A0_0 l0_0.length c0_0):=(blk_cell BK271.out 0).trans rfl
    have hfz40_0:=blk_frozen BK271.out 0
    go_wp2
    go_ret
    exact ⟨by first|rfl|(simp [errW_none,errW_some] <;> rfl)|(simp [*,errW_none,errW_some] <;> rfl),by repeat (first|(with_reducible first|exact HB.out|apply below_alloc|apply pw_below_drewN|apply below_drew1|refine below_set ?_ GE271.out|refine below_set ?_ GE272.out)|exact HB.out)⟩
 rw [if_neg c3] at H
 have c3b0 : ((l0_0.length : Int) == (l1_0.length : Int)) = false:=beq_eq_false_iff_ne.mpr c3
 have c3b1 : ((l0_0.length : Int) != (l1_0.length : Int)) = true:=bne_iff_ne.mpr c3
 have c3b2 : (l0_0.length == l1_0.length) = false:=by first|simpa using c3|(simp at c3 ⊢;omega)
 obtain rfl:=Option.some.inj H
 go_enter Try.func19,Try.ntmps19
 go_wp2_with (first|((with_reducible refine gate_dst (N:=2) rfl ?_);refine box_event ?hg (N:=2) ?hd (cs:=#[.slice A0_0 l0_0.length c0_0]) (t:=27) ?hr ?_;(case hd => rfl);(case hg => rfl);(case hr => first|(go_simp;done)|(go_simp;rfl));intro gb271 hg w41 hbox hb;have BK271:=Aside0.mk (hbox);have GW271:=Aside0.mk ((by rw [hg];exact (below_size (bL0 HB)) : w.heap.size ≤ gb271));have GE271:=Aside0.mk ((by rw [hg];exact (below_size (bL0 HB)) : w.heap.size ≤ gb271));replace HB:=bS HB hb;clear hb hbox hg)|((with_reducible refine gate_dst (N:=3) rfl ?_);refine box_event ?hg (N:=3) ?hd (cs:=#[.slice A1_0 l1_0.length c1_0]) (t:=27) ?hr ?_;(case hd => rfl);(case hg => rfl);(case hr => first|(go_simp;done)|(go_simp;rfl));intro gb272 hg w42 hbox hb;have BK272:=Aside0.mk (hbox);have GW272:=Aside0.mk ((by rw [hg];exact (below_size (bL1 HB GE271)) : w.heap.size ≤ gb272));have GE272:=Aside0.mk ((by rw [hg];exact (below_size (bL1 HB GE271)) : w.heap.size ≤ gb272));replace HB:=Aside0.mk (below_step (bL1 HB GE271) hb);have NB271_272:=Aside0.mk ((by rw [hg];exact Nat.ne_of_lt (blk_lt (bK BK271)) : gb271 ≠ gb272));have NB272_271:=Aside0.mk ((by rw [hg];exact Nat.ne_of_gt (blk_lt (bK BK271)) : gb272 ≠ gb271));replace BK271:=bB BK271 hb;clear hb hbox hg;have hnb43:=NB271_272.out;have hnc43:=NB272_271.out;have hcz44_0 : w42.cell? ⟨gb271,0,none⟩ = some (.slice A0_0 l0_0.length c0_0):=(blk_cell BK271.out 0).trans rfl;have hfz44_0:=blk_frozen BK271.out 0;have hcz45_0 : w42.cell? ⟨gb272,0,none⟩ = some (.slice A1_0 l1_0.length c1_0):=(blk_cell BK272.out 0).trans rfl;have hfz45_0:=blk_frozen BK272.out 0))
 go_ret
 exact ⟨by first|rfl|(simp [errW_none,errW_some] <;> rfl)|(simp [*,errW_none,errW_some] <;> rfl),by repeat (first|(with_reducible first|exact HB.out|apply below_alloc|apply pw_below_drewN|apply below_drew1|refine below_set ?_ GE271.out|refine below_set ?_ GE272.out)|exact HB.out)⟩

end Go.Proofs.Ytnokieaebnmljaa.PAll
/- A state is the same as itself, on both sides; a copy is what was copied; steps that are few hold small values. -/
namespace Go.Proofs.Ytnokieaebnmljaa.PAll
open Go Go.Proofs Go.RowKit Go.Shelf Go.Proofs.YtnokieaebnmljaaW.PrintWords
set_option linter.unusedVariables false
set_option linter.unusedSimpArgs false
theorem ref_self (k : Nat) (hk : 3030 ≤ k) (v : S35) (hv : dw 3 v) : windlassref3_Same.f k v.f0 v.f1 v.f2 v.f3 v.f4 v.f0 v.f1 v.f2 v.f3 v.f4 = some true := by
  rw [ref_same 3 k v v (by omega) hv hv, (lin_cmpD 3).rf v (dw_dep 3 v hv)]
  rfl
theorem rdL (S : List (List S82)) (m : Nat) (h : m < S.length) : rd_L4 S (m : Int) = S[m] := by simp [rd_L4, List.getD, h]
theorem rdT (l : List S82) (m : Nat) (h : m < l.length) : rd_T82 l (m : Int) = l[m] := by simp [rd_T82, List.getD, h]
theorem rdV (l : List S35) (m : Nat) (h : m < l.length) : rd_T35 l (m : Int) = l[m] := by simp [rd_T35, List.getD, h]
theorem rdS (l : List S47) (m : Nat) (h : m < l.length) : rd_T47 l (m : Int) = l[m] := by simp [rd_T47, List.getD, h]
theorem wrap_s (m : Nat) (h : m ≤ 1000000) : wrap64 ((m : Int) + 1) = ((m + 1 : Nat) : Int) := by unfold wrap64; omega
theorem same_l1 {S : List (List S82)} (h : Good S) (m : Nat) (hm : m < S.length) : ∀ n j k, j + n = S[m].length → 3032 + 2 * n ≤ k → windlassref4_Same.l1 k (m : Int) (j : Int) S S = windlassref4_Same.l0 (k - 2 * n - 1) ((m + 1 : Nat) : Int) S S
  | 0, j, k + 1, hj, hk => by
    have h5 := h.1
    simp only [windlassref4_Same.l1]
    rw [if_pos (by omega), if_pos (by omega), rdL S m hm, if_neg (by omega), wrap_s m (by omega)]
    rfl
  | n + 1, j, k + 2, hj, hk => by
    have hg := h.2 _ (List.getElem_mem hm)
    have h24 := hg.1
    have hjl : j < S[m].length := by omega
    have hd := hg.2.2 _ (List.getElem_mem hjl)
    simp only [windlassref4_Same.l1]
    rw [if_pos (show (0 : Int) ≤ (m : Int) by omega), if_pos (show (m : Int) < (S.length : Int) by omega), rdL S m hm, if_pos (show (j : Int) < (S[m].length : Int) by omega), if_pos (show (0 : Int) ≤ (j : Int) by omega), rdT _ j hjl, ref_self (k + 1) (by omega) _ hd.1, ref_self (k + 1) (by omega) _ hd.2, if_pos (show (m : Int) < (S.length : Int) by omega), if_pos (show (j : Int) < (S[m].length : Int) by omega)]
    simp only [Option.bind_some, if_true, windlassref4_Same.j2, Bool.not_true]
    rw [if_neg (show ¬ (false = true) by decide), wrap_s j (by omega), same_l1 h m hm n (j + 1) k (by omega) (by omega), show k + 2 - 2 * (n + 1) - 1 = k - 2 * n - 1 by omega]
  | _, _, 0, _, hk => by omega
  | _ + 1, _, 1, _, hk => by omega
theorem same_l0 {S : List (List S82)} (h : Good S) : ∀ n m k, m + n = S.length → 3200 + 60 * n ≤ k → windlassref4_Same.l0 k (m : Int) S S = some true
  | 0, m, k + 1, hm, hk => by
    simp only [windlassref4_Same.l0]
    rw [if_neg (by omega)]
  | n + 1, m, k + 1, hm, hk => by
    have h5 := h.1
    have hml : m < S.length := by omega
    have h24 := (h.2 _ (List.getElem_mem hml)).1
    simp only [windlassref4_Same.l0]
    rw [if_pos (by omega), if_pos (by omega), if_pos (by omega), if_true, show (0 : Int) = ((0 : Nat) : Int) from rfl, same_l1 h m hml S[m].length 0 k (by omega) (by omega), same_l0 h n (m + 1) _ (by omega) (by omega)]
  | _, _, 0, _, hk => by omega
theorem plays_same {S : List (List S82)} (h : Good S) : windlassref4_Same.f 5000 S S = some true := by
  unfold windlassref4_Same.f
  have h5 := h.1
  rw [if_pos rfl, show (0 : Int) = ((0 : Nat) : Int) from rfl, same_l0 h S.length 0 5000 (by omega) (by omega)]
theorem zip_self {α : Type} : ∀ (l : List α) (p : α × α), p ∈ l.zip l → p.1 = p.2 ∧ p.1 ∈ l
  | [], _, h => by simp at h
  | a :: l, p, h => by
    rw [List.zip_cons_cons] at h
    rcases List.mem_cons.1 h with rfl | h
    · exact ⟨rfl, by simp⟩
    · obtain ⟨h1, h2⟩ := zip_self l p h
      exact ⟨h1, by simp [h2]⟩
theorem cmpv_self (v : S35) (hv : dw 3 v) : cmpv 5000 v v = some 0 := by
  unfold cmpv
  rw [compare_cmpD 3 5000 v v (by omega) hv hv, (lin_cmpD 3).rf v (dw_dep 3 v hv)]
theorem plays_hsame {S : List (List S82)} (h : Good S) : heap_Same.f 5000 S S = some true := by
  unfold heap_Same.f
  have hd : defs 5000 S S := by
    intro p hp q hq
    obtain ⟨e1, h1⟩ := zip_self S p hp
    rw [← e1] at hq
    obtain ⟨e2, h2⟩ := zip_self p.1 q hq
    have hv := (h.2 _ h1).2.2 _ h2
    unfold defe
    rw [← e2]
    exact ⟨⟨0, cmpv_self _ hv.1⟩, ⟨0, cmpv_self _ hv.2⟩⟩
  rw [if_pos hd]
  congr 1
  unfold eqm
  simp only [beq_self_eq_true, Bool.true_and, List.all_eq_true]
  intro p hp
  obtain ⟨e1, h1⟩ := zip_self S p hp
  unfold eqr
  rw [← e1]
  simp only [beq_self_eq_true, Bool.true_and, List.all_eq_true]
  intro q hq
  obtain ⟨e2, h2⟩ := zip_self p.1 q hq
  have hv := (h.2 _ h1).2.2 _ h2
  unfold eqe eqv
  rw [← e2, cmpv_self _ hv.1, cmpv_self _ hv.2]
  rfl
/-! A copy. -/
theorem own_l0 (d : Nat) (v : S35) (hw : v.f4.length ≤ 1000) (ih : ∀ k x, 1010 * d ≤ k → x ∈ v.f4 → windlassref4_own.f k x.f0 x.f1 x.f2 x.f3 x.f4 = some (x.f0, x.f1, x.f2, x.f3, x.f4)) : ∀ n i k, i + n = v.f4.length → 1010 * d + n + 1 ≤ k → windlassref4_own.l0 k (v.f4.take i) (i : Int) v.f0 v.f1 v.f2 v.f3 v.f4 = some (v.f0, v.f1, v.f2, v.f3, v.f4)
  | 0, i, k + 1, hi, hk => by
    simp only [windlassref4_own.l0]
    rw [if_neg (by omega), List.take_of_length_le (by omega)]
  | n + 1, i, k + 1, hi, hk => by
    have hil : i < v.f4.length := by omega
    simp only [windlassref4_own.l0]
    rw [if_pos (by omega), if_pos (by omega), rdV _ i hil, ih k _ (by omega) (List.getElem_mem hil)]
    simp only [Option.bind_some]
    rw [if_pos (by rw [List.length_take]; omega), wrap_s i (by omega)]
    have et : v.f4.take i ++ [(⟨v.f4[i].f0, v.f4[i].f1, v.f4[i].f2, v.f4[i].f3, v.f4[i].f4⟩ : S35)] = v.f4.take (i + 1) := by
      rw [eta35, List.take_succ_eq_append_getElem hil]
    rw [et]
    exact own_l0 d v hw ih n (i + 1) k (by omega) (by omega)
  | _, _, 0, _, hk => by omega
theorem own_id : ∀ (d k : Nat) (v : S35), 1010 * d ≤ k → dw d v → windlassref4_own.f k v.f0 v.f1 v.f2 v.f3 v.f4 = some (v.f0, v.f1, v.f2, v.f3, v.f4)
  | 0, _, _, _, h => h.elim
  | d + 1, k, v, hk, hv => by
    obtain ⟨k, rfl⟩ : ∃ j, k = j + 1 := ⟨k - 1, by omega⟩
    have hw := hv.1
    simp only [windlassref4_own.f]
    have := own_l0 d v hv.1 (fun k x hk hx => own_id d k x hk (hv.2 x hx)) v.f4.length 0 k (by omega) (by omega)
    simpa using this
theorem eta82 (e : S82) : (⟨e.f0, e.f1⟩ : S82) = e := by cases e; rfl
theorem copy_l1 {S : List (List S82)} (h : Good S) (m : Nat) (hm : m < S.length) (out : List (List S82)) (ho : out.length ≤ 1000) : ∀ n j k, j + n = S[m].length → 3031 + n ≤ k → windlassref4_Copy.l1 k (m : Int) (S[m].take j) (j : Int) S out = windlassref4_Copy.l0 (k - n - 1) ((m + 1 : Nat) : Int) S (out ++ [S[m]])
  | 0, j, k + 1, hj, hk => by
    have h5 := h.1
    simp only [windlassref4_Copy.l1]
    rw [if_pos (by omega), if_pos (by omega), rdL S m hm, if_neg (by omega), if_pos (by omega), wrap_s m (by omega), List.take_of_length_le (by omega)]
    rfl
  | n + 1, j, k + 1, hj, hk => by
    have hg := h.2 _ (List.getElem_mem hm)
    have h24 := hg.1
    have hjl : j < S[m].length := by omega
    have hd := hg.2.2 _ (List.getElem_mem hjl)
    simp only [windlassref4_Copy.l1]
    rw [if_pos (show (0 : Int) ≤ (m : Int) by omega), if_pos (show (m : Int) < (S.length : Int) by omega), rdL S m hm, if_pos (show (j : Int) < (S[m].length : Int) by omega), if_pos (show (0 : Int) ≤ (j : Int) by omega), rdT _ j hjl, own_id 3 k _ (by omega) hd.1, own_id 3 k _ (by omega) hd.2]
    simp only [Option.bind_some]
    rw [if_pos (by rw [List.length_take]; omega), wrap_s j (by omega)]
    have et : S[m].take j ++ [(⟨⟨S[m][j].f0.f0, S[m][j].f0.f1, S[m][j].f0.f2, S[m][j].f0.f3, S[m][j].f0.f4⟩, ⟨S[m][j].f1.f0, S[m][j].f1.f1, S[m][j].f1.f2, S[m][j].f1.f3, S[m][j].f1.f4⟩⟩ : S82)] = S[m].take (j + 1) := by
      rw [eta35, eta35, eta82, List.take_succ_eq_append_getElem hjl]
    rw [et, copy_l1 h m hm out ho n (j + 1) k (by omega) (by omega), show k + 1 - (n + 1) - 1 = k - n - 1 by omega]
  | _, _, 0, _, hk => by omega
theorem copy_l0 {S : List (List S82)} (h : Good S) : ∀ n m k, m + n = S.length → 3100 + 30 * n ≤ k → windlassref4_Copy.l0 k (m : Int) S (S.take m) = some S
  | 0, m, k + 1, hm, hk => by
    simp only [windlassref4_Copy.l0]
    rw [if_neg (by omega), List.take_of_length_le (by omega)]
  | n + 1, m, k + 1, hm, hk => by
    have h5 := h.1
    have hml : m < S.length := by omega
    have h24 := (h.2 _ (List.getElem_mem hml)).1
    simp only [windlassref4_Copy.l0]
    have e1 := copy_l1 h m hml (S.take m) (by rw [List.length_take]; omega) S[m].length 0 k (by omega) (by omega)
    rw [List.take_zero] at e1
    rw [if_pos (by omega), show (0 : Int) = ((0 : Nat) : Int) from rfl, e1, ← List.take_succ_eq_append_getElem hml, copy_l0 h n (m + 1) _ (by omega) (by omega)]
  | _, _, 0, _, hk => by omega
theorem plays_copy {S : List (List S82)} (h : Good S) : windlassref4_Copy.f 5000 S = some S := by
  unfold windlassref4_Copy.f
  have h5 := h.1
  have := copy_l0 h S.length 0 5000 (by omega) (by omega)
  simpa using this
/-! Small values. -/
theorem small_l1 (v : S35) (i : Nat) (hi : i < v.f4.length) (hi2 : v.f4.length ≤ 20) (hi3 : v.f4[i].f4.length ≤ 3) : ∀ n j k, j + n = v.f4[i].f4.length → n ≤ 3 → n + 1 ≤ k → windlasshelp_Small.l1 k (i : Int) (j : Int) v.f0 v.f1 v.f2 v.f3 v.f4 = some false ∨ ((∀ q ∈ v.f4[i].f4.drop j, q.f4 = []) ∧ windlasshelp_Small.l1 k (i : Int) (j : Int) v.f0 v.f1 v.f2 v.f3 v.f4 = windlasshelp_Small.l0 (k - n - 1) ((i + 1 : Nat) : Int) v.f0 v.f1 v.f2 v.f3 v.f4)
  | 0, j, k + 1, hj, hn, hk => by
    refine .inr ⟨by rw [List.drop_of_length_le (by omega)]; simp, ?_⟩
    simp only [windlasshelp_Small.l1]
    rw [if_pos (by omega), if_pos (by omega), rdV _ i hi, if_neg (by omega), wrap_s i (by omega)]
    rfl
  | n + 1, j, k + 1, hj, hn, hk => by
    have hjl : j < v.f4[i].f4.length := by omega
    have key : windlasshelp_Small.l1 (k + 1) (i : Int) (j : Int) v.f0 v.f1 v.f2 v.f3 v.f4 = if ((v.f4[i].f4[j].f4.length : Nat) : Int) > 0 then some false else if ((v.f4[i].f4[j].f2.size : Nat) : Int) > 300 then some false else windlasshelp_Small.l1 k (i : Int) ((j + 1 : Nat) : Int) v.f0 v.f1 v.f2 v.f3 v.f4 := by
      simp only [windlasshelp_Small.l1]
      rw [if_pos (show (0 : Int) ≤ (i : Int) by omega), if_pos (show (i : Int) < (v.f4.length : Int) by omega), rdV _ i hi, if_pos (show (j : Int) < (v.f4[i].f4.length : Int) by omega), if_pos (show (0 : Int) ≤ (j : Int) by omega), rdV _ j hjl, wrap_s j (by omega)]
    rw [key]
    by_cases h1 : ((v.f4[i].f4[j].f4.length : Nat) : Int) > 0
    · exact .inl (by rw [if_pos h1])
    · by_cases h2 : ((v.f4[i].f4[j].f2.size : Nat) : Int) > 300
      · exact .inl (by rw [if_neg h1, if_pos h2])
      · rw [if_neg h1, if_neg h2]
        rcases small_l1 v i hi hi2 hi3 n (j + 1) k (by omega) (by omega) (by omega) with h | ⟨h3, h4⟩
        · exact .inl h
        · refine .inr ⟨?_, by rw [h4]; congr 1; omega⟩
          rw [List.drop_eq_getElem_cons hjl]
          intro q hq
          rcases List.mem_cons.1 hq with rfl | hq
          · exact List.length_eq_zero_iff.1 (by omega)
          · exact h3 q hq
  | _, _, 0, _, _, hk => by omega
theorem small_l0 (v : S35) (hw : v.f4.length ≤ 20) : ∀ n i k, i + n = v.f4.length → 10 * n + 1 ≤ k → ∃ b, windlasshelp_Small.l0 k (i : Int) v.f0 v.f1 v.f2 v.f3 v.f4 = some b ∧ (b = true → ∀ x ∈ v.f4.drop i, x.f4.length ≤ 3 ∧ ∀ q ∈ x.f4, q.f4 = [])
  | 0, i, k + 1, hi, hk => by
    refine ⟨true, ?_, fun _ => by rw [List.drop_of_length_le (by omega)]; simp⟩
    simp only [windlasshelp_Small.l0]
    rw [if_neg (by omega)]
  | n + 1, i, k + 1, hi, hk => by
    have hil : i < v.f4.length := by omega
    obtain ⟨k, rfl⟩ : ∃ j, k = j + 1 := ⟨k - 1, by omega⟩
    by_cases h1 : ((v.f4[i].f2.size : Nat) : Int) > 300
    · refine ⟨false, ?_, fun h => by cases h⟩
      simp only [windlasshelp_Small.l0, windlasshelp_Small.j2]
      rw [if_pos (by omega), if_pos (by omega), rdV _ i hil, if_pos h1]
      rfl
    by_cases h2 : ((v.f4[i].f4.length : Nat) : Int) > 3
    · refine ⟨false, ?_, fun h => by cases h⟩
      simp only [windlasshelp_Small.l0, windlasshelp_Small.j2]
      rw [if_pos (by omega), if_pos (by omega), rdV _ i hil, if_neg h1, decide_eq_true h2]
      rfl
    have key : windlasshelp_Small.l0 (k + 1 + 1) (i : Int) v.f0 v.f1 v.f2 v.f3 v.f4 = windlasshelp_Small.l1 k (i : Int) ((0 : Nat) : Int) v.f0 v.f1 v.f2 v.f3 v.f4 := by
      simp only [windlasshelp_Small.l0, windlasshelp_Small.j2]
      rw [if_pos (by omega), if_pos (by omega), rdV _ i hil, if_neg h1, decide_eq_false h2]
      rfl
    rw [key]
    rcases small_l1 v i hil hw (by omega) v.f4[i].f4.length 0 k (by omega) (by omega) (by omega) with h | ⟨h3, h4⟩
    · exact ⟨false, h, fun h => by cases h⟩
    · obtain ⟨b, hb, hb2⟩ := small_l0 v hw n (i + 1) (k - v.f4[i].f4.length - 1) (by omega) (by omega)
      refine ⟨b, by rw [h4, hb], fun hbt x hx => ?_⟩
      rw [List.drop_eq_getElem_cons hil] at hx
      rcases List.mem_cons.1 hx with rfl | hx
      · exact ⟨by omega, by simpa using h3⟩
      · exact hb2 hbt x hx
  | _, _, 0, _, hk => by omega
theorem small_dw (v : S35) (k : Nat) (hk : 300 ≤ k) : ∃ b, windlasshelp_Small.f k v.f0 v.f1 v.f2 v.f3 v.f4 = some b ∧ (b = true → dw 3 v) := by
  obtain ⟨k, rfl⟩ : ∃ j, k = j + 1 := ⟨k - 1, by omega⟩
  unfold windlasshelp_Small.f
  by_cases h1 : ((v.f2.size : Nat) : Int) > 300
  · rw [if_pos h1]
    exact ⟨false, by simp [windlasshelp_Small.j0], fun h => by cases h⟩
  by_cases h2 : ((v.f4.length : Nat) : Int) > 20
  · rw [if_neg h1, decide_eq_true h2]
    exact ⟨false, by simp [windlasshelp_Small.j0], fun h => by cases h⟩
  rw [if_neg h1, decide_eq_false h2]
  obtain ⟨b, hb, hb2⟩ := small_l0 v (by omega) v.f4.length 0 k (by omega) (by omega)
  refine ⟨b, ?_, fun hbt => ?_⟩
  · simp only [windlasshelp_Small.j0]
    rw [if_neg (show ¬ (false = true) by decide)]
    exact hb
  · have := hb2 hbt
    rw [List.drop_zero] at this
    refine ⟨by omega, fun x hx => ⟨by have := (this x hx).1; omega, fun q hq => ?_⟩⟩
    have h0 := (this x hx).2 q hq
    unfold dw
    rw [h0]
    simp
theorem few_l0 (l : List S47) (hl : l.length ≤ 4611686018427387904) : ∀ n i k, i + n = l.length → 301 + n ≤ k → ∃ b, windlasslaw4_few.l0 k l (i : Int) = some b ∧ (b = true → l.length ≤ 60 ∧ ∀ x ∈ l.drop i, dw 3 x.f2 ∧ dw 3 x.f3)
  | 0, i, k + 1, hi, hk => by
    refine ⟨decide ((l.length : Int) ≤ 60), ?_, fun h => ⟨by have := of_decide_eq_true h; omega, by rw [List.drop_of_length_le (by omega)]; simp⟩⟩
    simp only [windlasslaw4_few.l0]
    rw [if_neg (by omega)]
  | n + 1, i, k + 1, hi, hk => by
    have hil : i < l.length := by omega
    obtain ⟨b1, e1, d1⟩ := small_dw l[i].f2 k (by omega)
    obtain ⟨b2, e2, d2⟩ := small_dw l[i].f3 k (by omega)
    have ew : wrap64 ((i : Int) + 1) = ((i + 1 : Nat) : Int) := by unfold wrap64; omega
    simp only [windlasslaw4_few.l0]
    rw [if_pos (by omega), if_pos (by omega), rdS _ i hil, e1, e2, ew]
    simp only [Option.bind_some]
    cases b1 with
    | false => exact ⟨false, rfl, fun h => by cases h⟩
    | true =>
      cases b2 with
      | false => exact ⟨false, rfl, fun h => by cases h⟩
      | true =>
        obtain ⟨b, hb, hb2⟩ := few_l0 l hl n (i + 1) k (by omega) (by omega)
        refine ⟨b, hb, fun hbt => ⟨(hb2 hbt).1, fun x hx => ?_⟩⟩
        rw [List.drop_eq_getElem_cons hil] at hx
        rcases List.mem_cons.1 hx with rfl | hx
        · exact ⟨d1 rfl, d2 rfl⟩
        · exact (hb2 hbt).2 x hx
  | _, _, 0, _, hk => by omega
theorem plays_few (l : List S47) (hl : l.length ≤ 4611686018427387904) : ∃ b, windlasslaw4_few.f (301 + l.length) l = some b ∧ (b = true → l.length ≤ 60 ∧ ∀ x ∈ l, dw 3 x.f2 ∧ dw 3 x.f3) := by
  obtain ⟨b, h1, h2⟩ := few_l0 l hl l.length 0 (301 + l.length) (by omega) (by omega)
  exact ⟨b, h1, by simpa using h2⟩
/-- The state at first: so many maps, all empty. -/
theorem good_start (n : Nat) (hn : n ≤ 5) : Good (List.replicate n []) := ⟨by simpa using hn, fun l hl => by rw [(List.mem_replicate.1 hl).2]; exact GoodL.nil⟩
end Go.Proofs.Ytnokieaebnmljaa.PAll
/- A call's boxes and the states and values that it knows, all in one word; what HeapPlays calls, by that word. -/
namespace Go.Proofs.Ytnokieaebnmljaa.PAll
open Go Go.Proofs Go.RowKit Go.Shelf Go.Proofs.YtnokieaebnmljaaW.PrintWords Go.Proofs.YtnokieaebnmljaaW.PrintLast Go.Proofs.YtnokieaebnmljaaW.PrintMore Go.Proofs.Ytnokieaebnmljaa.Bx
set_option linter.unusedVariables false
set_option linter.unusedSimpArgs false
abbrev Away (bs : List Bx) : Nat → Prop := fun k => k ∉ bs.map (·.1)
abbrev VL := List (Value × List (List S82))
abbrev UL := List (Value × List S35)
structure Pl (w W : World) (bs : List Bx) (vl : VL) (ul : UL) : Prop where
  env : Env w W bs
  vs : ∀ p ∈ vl, Kd.V (Kd.slice 82 k82) 41 W w.heap.size (Away bs) p.1 p.2
  us : ∀ p ∈ ul, Kd.V k35 35 W w.heap.size (Away bs) p.1 p.2
section
variable {w W W1 : World} {bs : List Bx} {vl : VL} {ul : UL} {g j i : Nat} {cs : Array Value} {t : TypeId} {v : Value}
theorem Pl.start (w : World) : Pl w w [] [] [] := ⟨Env.start w, by simp, by simp⟩
theorem Pl.below (h : Pl w W bs vl ul) : Below w.heap.size w W := h.env.below
theorem Pl.size (h : Pl w W bs vl ul) : w.heap.size ≤ W.heap.size := h.env.size
theorem Pl.at (h : Pl w W bs vl ul) (i : Nat) (hi : bs[i]? = some (g, cs, t)) : w.heap.size ≤ g ∧ W.heap[g]? = some (.cells cs t (0, 0)) := h.env.at i hi
theorem Pl.cell (h : Pl w W bs vl ul) (i j : Nat) (hi : bs[i]? = some (g, cs, t)) (hj : cs[j]? = some v) : W.cell? ⟨g, j, none⟩ = some v := h.env.cell i j hi hj
theorem Pl.frz (h : Pl w W bs vl ul) (i j : Nat) (hi : bs[i]? = some (g, cs, t)) : W.frozen? ⟨g, j, none⟩ = false := h.env.frz i j hi
theorem Pl.old (h : Pl w W bs vl ul) {a : Addr} (hc : w.cell? a = some v) : W.cell? a = some v := h.env.old hc
theorem Pl.load (h : Pl w W bs vl ul) {P : Program} (i : Nat) (hi : bs[i]? = some (g, cs, t)) (ty off : Nat) {d : TypeDesc} (hu : P.underlying ty = some d) (hd : d.isRow = true) (vs : List Value) (hn : (P.info? ty).map (·.size) = some vs.length) (hv : (cs.toList.drop off).take vs.length = vs) :
    (Instr.loadAt ty (.pointer (some ⟨g, off, none⟩))).run P W = .ok (.agg vs.toArray) W := h.env.load i hi ty off hu hd vs hn hv
theorem Pl.fresh (h : Pl w W bs vl ul) (k : Nat) (hk : W.heap.size ≤ k) : Away bs k := by
  intro hm
  obtain ⟨b, hb, rfl⟩ := List.mem_map.1 hm
  have := h.env.mem hb
  omega
theorem Pl.call (h : Pl w W bs vl ul) (hb : Below W.heap.size W W1) : Pl w W1 bs vl ul :=
  ⟨h.env.call hb, fun p hp => Kd.V_below (h.vs p hp) hb, fun p hp => Kd.V_below (h.us p hp) hb⟩
theorem Pl.box (h : Pl w W bs vl ul) (hg : g = W.heap.size) (hx : W1.heap[g]? = some (.cells cs t (0, 0))) (hb : Below W.heap.size W W1) : Pl w W1 ((g, cs, t) :: bs) vl ul :=
  have ha : ∀ k, (Away bs k ∧ k < W.heap.size) → Away ((g, cs, t) :: bs) k := fun k hk hm => by
    simp only [List.map_cons, List.mem_cons] at hm
    rcases hm with hm | hm
    · have := hk.2; omega
    · exact hk.1 hm
  ⟨h.env.box hg hx hb, fun p hp => Kd.V_mono (Kd.V_old (h.vs p hp) hb) ha, fun p hp => Kd.V_mono (Kd.V_old (h.us p hp) hb) ha⟩
theorem Pl.set (h : Pl w W bs vl ul) (i : Nat) (hi : bs[i]? = some (g, cs, t)) (j : Nat) (v : Value) : Pl w (W.setCell ⟨g, j, none⟩ v) (bs.set i (g, cs.setIfInBounds j v, t)) vl ul := by
  have hm : (bs.set i (g, cs.setIfInBounds j v, t)).map (·.1) = bs.map (·.1) := set_fst bs i g (cs, t) (cs.setIfInBounds j v, t) hi
  have hg : ∀ k, Away bs k → k ≠ g := fun k hk e => hk (List.mem_map.2 ⟨_, List.mem_of_getElem? hi, e.symm⟩)
  refine ⟨h.env.set i hi j v, fun p hp => ?_, fun p hp => ?_⟩
  · unfold Away; rw [hm]; exact Kd.V_far (p := ⟨g, j, none⟩) (h.vs p hp) hg v
  · unfold Away; rw [hm]; exact Kd.V_far (p := ⟨g, j, none⟩) (h.us p hp) hg v
theorem Pl.row (h : Pl w W bs vl ul) (i : Nat) (hi : bs[i]? = some (g, cs, t)) (cs' : Array Value) : Pl w (W.setRow g cs') (bs.set i (g, cs', t)) vl ul := by
  have hm : (bs.set i (g, cs', t)).map (·.1) = bs.map (·.1) := set_fst bs i g (cs, t) (cs', t) hi
  have hg : ∀ k, Away bs k → k < W.heap.size → (W.setRow g cs').heap[k]? = W.heap[k]? := fun k hk _ => setRow_other W g k cs' (fun e => hk (List.mem_map.2 ⟨_, List.mem_of_getElem? hi, e.symm⟩))
  refine ⟨h.env.row i hi cs', fun p hp => ?_, fun p hp => ?_⟩
  · unfold Away; rw [hm]; exact Kd.V_step (h.vs p hp) hg
  · unfold Away; rw [hm]; exact Kd.V_step (h.us p hp) hg
theorem Pl.sub (h : Pl w W bs vl ul) {bs' : List Bx} (hs : bs'.Sublist bs) : Pl w W bs' vl ul :=
  have ha : ∀ k, Away bs k → Away bs' k := fun k hk hm => hk ((hs.map _).subset hm)
  ⟨h.env.sub hs, fun p hp => Kd.V_mono (h.vs p hp) ha, fun p hp => Kd.V_mono (h.us p hp) ha⟩
theorem Pl.perm (h : Pl w W bs vl ul) {bs' : List Bx} (hs : bs'.Perm bs) : Pl w W bs' vl ul :=
  have ha : ∀ k, Away bs k → Away bs' k := fun k hk hm => hk ((hs.map _).subset hm)
  ⟨⟨h.env.below, fun b hb => h.env.blk b (hs.subset hb), (hs.map _).nodup_iff.2 h.env.nd⟩, fun p hp => Kd.V_mono (h.vs p hp) ha, fun p hp => Kd.V_mono (h.us p hp) ha⟩
theorem Pl.re (h : Pl w W bs vl ul) {vl' : VL} {ul' : UL} (hv : ∀ p ∈ vl', p ∈ vl) (hu : ∀ p ∈ ul', p ∈ ul) : Pl w W bs vl' ul' := ⟨h.env, fun p hp => h.vs p (hv p hp), fun p hp => h.us p (hu p hp)⟩
theorem Pl.addV (h : Pl w W bs vl ul) {base : Nat} {ok : Nat → Prop} {l : List (List S82)} (hV : Kd.V (Kd.slice 82 k82) 41 W base ok v l) (hok : ∀ k, ok k → Away bs k) : Pl w W bs ((v, l) :: vl) ul :=
  ⟨h.env, fun p hp => by
    rcases List.mem_cons.1 hp with rfl | hp
    · exact Kd.V_mono hV hok
    · exact h.vs p hp, h.us⟩
theorem Pl.addU (h : Pl w W bs vl ul) {base : Nat} {ok : Nat → Prop} {l : List S35} (hV : Kd.V k35 35 W base ok v l) (hok : ∀ k, ok k → Away bs k) : Pl w W bs vl ((v, l) :: ul) :=
  ⟨h.env, h.vs, fun p hp => by
    rcases List.mem_cons.1 hp with rfl | hp
    · exact Kd.V_mono hV hok
    · exact h.us p hp⟩
/-- A value that the call was handed. -/
theorem Pl.arg (h : Pl w W bs vl ul) {A : Option Addr} {c : Nat} {l : List S35} (hC : Kd.C k35 w A l.length l) (hc : l.length ≤ c) : Pl w W bs vl ((.slice A l.length c, l) :: ul) := by
  have hV : Kd.V k35 35 w w.heap.size (fun k => k < w.heap.size) (.slice A l.length c) l := Kd.V_mk hc (Kd.C_F heap35 hC)
  refine h.addU (Kd.V_below hV h.below) (fun k hk hm => ?_)
  obtain ⟨b, hb, rfl⟩ := List.mem_map.1 hm
  have := (h.env.blk b hb).1
  omega
theorem Pl.vv (h : Pl w W bs vl ul) (i : Nat) {l : List (List S82)} (hi : vl[i]? = some (v, l)) : Kd.V (Kd.slice 82 k82) 41 W w.heap.size (Away bs) v l := h.vs _ (List.mem_of_getElem? hi)
theorem Pl.uu (h : Pl w W bs vl ul) (i : Nat) {l : List S35} (hi : ul[i]? = some (v, l)) : Kd.V k35 35 W w.heap.size (Away bs) v l := h.us _ (List.mem_of_getElem? hi)
variable {A Ak Av : Option Addr} {n c nk ck nv cv : Nat} {S T : List (List S82)} {key val : S35} {m r : Int}
theorem c_put (h : Pl w W bs vl ul) (i j1 j2 : Nat) (hi : vl[i]? = some (.slice A n c, S)) (h1 : ul[j1]? = some (.slice Ak nk ck, key.f4)) (h2 : ul[j2]? = some (.slice Av nv cv, val.f4)) (hf : heap_Put.f 5000 S m key.f0 key.f1 key.f2 key.f3 key.f4 val.f0 val.f1 val.f2 val.f3 val.f4 = some (T, r)) :
    Calls Try.prog 10 #[.agg #[.slice A n c], .int .i64 m, .agg #[.int .i64 key.f0, .int .i64 key.f1, .string key.f2, .int .i64 key.f3, .slice Ak nk ck], .agg #[.int .i64 val.f0, .int .i64 val.f1, .string val.f2, .int .i64 val.f3, .slice Av nv cv]] W fun e W' => ∃ A' n' c', e = .returned (.tuple #[.agg #[.slice A' n' c'], .int .i64 r]) ∧ Pl w W' bs ((.slice A' n' c', T) :: vl) ul := by
  have hv := h.vv i hi
  have hk := h.uu j1 h1
  have hl := h.uu j2 h2
  obtain ⟨rfl, _, _⟩ := Kd.V_at hv
  obtain ⟨rfl, _, _⟩ := Kd.V_at hk
  obtain ⟨rfl, _, _⟩ := Kd.V_at hl
  refine (heap_Put.calls 5000 (Away bs) A c S m _ _ _ _ (Away bs) Ak ck key.f4 _ _ _ _ (Away bs) Av cv val.f4 T r W hv hk hl hf).mono ?_
  rintro e W' ⟨v0, rfl, hN, hb⟩
  have hV := Kd.N_V (base' := 0) hN
  obtain ⟨A', c', rfl⟩ := Kd.V_slice hV
  exact ⟨A', _, c', rfl, (h.call hb).addV hV (fun k hk => by
    rcases hk with (hk | hk | hk) | hk
    · exact hk
    · exact hk
    · exact hk
    · exact h.fresh k hk)⟩
theorem c_rput (h : Pl w W bs vl ul) (i j1 j2 : Nat) (hi : vl[i]? = some (.slice A n c, S)) (h1 : ul[j1]? = some (.slice Ak nk ck, key.f4)) (h2 : ul[j2]? = some (.slice Av nv cv, val.f4)) (hf : windlassref4_Put.f 5000 S m key.f0 key.f1 key.f2 key.f3 key.f4 val.f0 val.f1 val.f2 val.f3 val.f4 = some (T, r)) :
    Calls Try.prog 18 #[.agg #[.slice A n c], .int .i64 m, .agg #[.int .i64 key.f0, .int .i64 key.f1, .string key.f2, .int .i64 key.f3, .slice Ak nk ck], .agg #[.int .i64 val.f0, .int .i64 val.f1, .string val.f2, .int .i64 val.f3, .slice Av nv cv]] W fun e W' => ∃ A' n' c', e = .returned (.tuple #[.agg #[.slice A' n' c'], .int .i64 r]) ∧ Pl w W' bs ((.slice A' n' c', T) :: vl) ul := by
  have hv := h.vv i hi
  have hk := h.uu j1 h1
  have hl := h.uu j2 h2
  obtain ⟨rfl, _, _⟩ := Kd.V_at hv
  obtain ⟨rfl, _, _⟩ := Kd.V_at hk
  obtain ⟨rfl, _, _⟩ := Kd.V_at hl
  refine (windlassref4_Put.calls 5000 (Away bs) A c S m _ _ _ _ (Away bs) Ak ck key.f4 _ _ _ _ (Away bs) Av cv val.f4 T r W hv hk hl hf).mono ?_
  rintro e W' ⟨v0, rfl, hN, hb⟩
  have hV := Kd.N_V (base' := 0) hN
  obtain ⟨A', c', rfl⟩ := Kd.V_slice hV
  exact ⟨A', _, c', rfl, (h.call hb).addV hV (fun k hk => by
    rcases hk with (hk | hk | hk) | hk
    · exact hk
    · exact hk
    · exact hk
    · exact h.fresh k hk)⟩
theorem c_del (h : Pl w W bs vl ul) (i j1 : Nat) (hi : vl[i]? = some (.slice A n c, S)) (h1 : ul[j1]? = some (.slice Ak nk ck, key.f4)) (hf : heap_Del.f 5000 S m key.f0 key.f1 key.f2 key.f3 key.f4 = some T) :
    Calls Try.prog 12 #[.agg #[.slice A n c], .int .i64 m, .agg #[.int .i64 key.f0, .int .i64 key.f1, .string key.f2, .int .i64 key.f3, .slice Ak nk ck]] W fun e W' => ∃ A' n' c', e = .returned (.agg #[.slice A' n' c']) ∧ Pl w W' bs ((.slice A' n' c', T) :: vl) ul := by
  have hv := h.vv i hi
  have hk := h.uu j1 h1
  obtain ⟨rfl, _, _⟩ := Kd.V_at hv
  obtain ⟨_, hkc, hkC⟩ := Kd.V_reads' hk
  obtain ⟨rfl, _, _⟩ := Kd.V_at hk
  refine (heap_Del.calls 5000 (Away bs) A c S m _ _ _ _ Ak ck key.f4 T W hv hkC hkc hf).mono ?_
  rintro e W' ⟨v0, rfl, hV, hb⟩
  obtain ⟨A', c', rfl⟩ := Kd.V_slice hV
  exact ⟨A', _, c', rfl, (h.call hb).addV hV (fun k hk => hk.elim id (h.fresh k))⟩
theorem c_rdel (h : Pl w W bs vl ul) (i j1 : Nat) (hi : vl[i]? = some (.slice A n c, S)) (h1 : ul[j1]? = some (.slice Ak nk ck, key.f4)) (hf : windlassref4_Del.f 5000 S m key.f0 key.f1 key.f2 key.f3 key.f4 = some T) :
    Calls Try.prog 20 #[.agg #[.slice A n c], .int .i64 m, .agg #[.int .i64 key.f0, .int .i64 key.f1, .string key.f2, .int .i64 key.f3, .slice Ak nk ck]] W fun e W' => ∃ A' n' c', e = .returned (.agg #[.slice A' n' c']) ∧ Pl w W' bs ((.slice A' n' c', T) :: vl) ul := by
  have hv := h.vv i hi
  have hk := h.uu j1 h1
  obtain ⟨rfl, _, _⟩ := Kd.V_at hv
  obtain ⟨_, hkc, hkC⟩ := Kd.V_reads' hk
  obtain ⟨rfl, _, _⟩ := Kd.V_at hk
  refine (windlassref4_Del.calls 5000 (Away bs) A c S m _ _ _ _ Ak ck key.f4 T W hv hkC hkc hf).mono ?_
  rintro e W' ⟨v0, rfl, hV, hb⟩
  obtain ⟨A', c', rfl⟩ := Kd.V_slice hV
  exact ⟨A', _, c', rfl, (h.call hb).addV hV (fun k hk => hk.elim id (h.fresh k))⟩
theorem c_copy (h : Pl w W bs vl ul) (i : Nat) (hi : vl[i]? = some (.slice A n c, S)) (hg : Good S) :
    Calls Try.prog 17 #[.agg #[.slice A n c]] W fun e W' => ∃ A' n' c', e = .returned (.agg #[.slice A' n' c']) ∧ Pl w W' bs ((.slice A' n' c', S) :: vl) ul := by
  have hv := h.vv i hi
  obtain ⟨rfl, _, _⟩ := Kd.V_at hv
  obtain ⟨_, hc, hC⟩ := Kd.V_reads' hv
  refine (windlassref4_Copy.calls 5000 A c S S W hC hc (plays_copy hg)).mono ?_
  rintro e W' ⟨v0, rfl, hR, hb⟩
  have hV := Kd.R_V (base' := 0) (Kd.R_bound hR)
  obtain ⟨A', c', rfl⟩ := Kd.V_slice hV
  exact ⟨A', _, c', rfl, (h.call hb).addV hV (fun k hk => h.fresh k hk.2.1)⟩
theorem c_get (h : Pl w W bs vl ul) (i j1 : Nat) {b : Bool} (hi : vl[i]? = some (.slice A n c, S)) (h1 : ul[j1]? = some (.slice Ak nk ck, key.f4)) (hf : heap_Get.f 5000 S m key.f0 key.f1 key.f2 key.f3 key.f4 = some (val.f0, val.f1, val.f2, val.f3, val.f4, b)) :
    Calls Try.prog 14 #[.agg #[.slice A n c], .int .i64 m, .agg #[.int .i64 key.f0, .int .i64 key.f1, .string key.f2, .int .i64 key.f3, .slice Ak nk ck]] W fun e W' => ∃ A' n' c', e = .returned (.tuple #[.agg #[.int .i64 val.f0, .int .i64 val.f1, .string val.f2, .int .i64 val.f3, .slice A' n' c'], .bool b]) ∧ Pl w W' bs vl ((.slice A' n' c', val.f4) :: ul) := by
  have hv := h.vv i hi
  obtain ⟨rfl, _, _⟩ := Kd.V_at hv
  have hk := h.uu j1 h1
  obtain ⟨_, hkc, hkC⟩ := Kd.V_reads' hk
  obtain ⟨rfl, _, _⟩ := Kd.V_at hk
  refine (heap_Get.calls 5000 (Away bs) A c S m _ _ _ _ Ak ck key.f4 val.f0 val.f1 val.f2 val.f3 val.f4 b W hv hkC hkc hf).mono ?_
  rintro e W' ⟨v0, rfl, hV, hb⟩
  obtain ⟨A', c', rfl⟩ := Kd.V_slice hV
  exact ⟨A', _, c', rfl, (h.call hb).addU hV (fun k hk => hk.elim id (h.fresh k))⟩
theorem c_rget (h : Pl w W bs vl ul) (i j1 : Nat) {b : Bool} (hi : vl[i]? = some (.slice A n c, S)) (h1 : ul[j1]? = some (.slice Ak nk ck, key.f4)) (hf : windlassref4_Get.f 5000 S m key.f0 key.f1 key.f2 key.f3 key.f4 = some (val.f0, val.f1, val.f2, val.f3, val.f4, b)) :
    Calls Try.prog 21 #[.agg #[.slice A n c], .int .i64 m, .agg #[.int .i64 key.f0, .int .i64 key.f1, .string key.f2, .int .i64 key.f3, .slice Ak nk ck]] W fun e W' => ∃ A' n' c', e = .returned (.tuple #[.agg #[.int .i64 val.f0, .int .i64 val.f1, .string val.f2, .int .i64 val.f3, .slice A' n' c'], .bool b]) ∧ Pl w W' bs vl ((.slice A' n' c', val.f4) :: ul) := by
  have hv := h.vv i hi
  obtain ⟨rfl, _, _⟩ := Kd.V_at hv
  have hk := h.uu j1 h1
  obtain ⟨_, hkc, hkC⟩ := Kd.V_reads' hk
  obtain ⟨rfl, _, _⟩ := Kd.V_at hk
  refine (windlassref4_Get.calls 5000 (Away bs) A c S m _ _ _ _ Ak ck key.f4 val.f0 val.f1 val.f2 val.f3 val.f4 b W hv hkC hkc hf).mono ?_
  rintro e W' ⟨v0, rfl, hV, hb⟩
  obtain ⟨A', c', rfl⟩ := Kd.V_slice hV
  exact ⟨A', _, c', rfl, (h.call hb).addU hV (fun k hk => hk.elim id (h.fresh k))⟩
theorem c_next (h : Pl w W bs vl ul) (i j1 : Nat) {b : Bool} (hi : vl[i]? = some (.slice A n c, S)) (h1 : ul[j1]? = some (.slice Ak nk ck, key.f4)) (hf : heap_Next.f 5000 S m key.f0 key.f1 key.f2 key.f3 key.f4 = some (val.f0, val.f1, val.f2, val.f3, val.f4, b)) :
    Calls Try.prog 15 #[.agg #[.slice A n c], .int .i64 m, .agg #[.int .i64 key.f0, .int .i64 key.f1, .string key.f2, .int .i64 key.f3, .slice Ak nk ck]] W fun e W' => ∃ A' n' c', e = .returned (.tuple #[.agg #[.int .i64 val.f0, .int .i64 val.f1, .string val.f2, .int .i64 val.f3, .slice A' n' c'], .bool b]) ∧ Pl w W' bs vl ((.slice A' n' c', val.f4) :: ul) := by
  have hv := h.vv i hi
  obtain ⟨rfl, _, _⟩ := Kd.V_at hv
  have hk := h.uu j1 h1
  obtain ⟨_, hkc, hkC⟩ := Kd.V_reads' hk
  obtain ⟨rfl, _, _⟩ := Kd.V_at hk
  refine (heap_Next.calls 5000 (Away bs) A c S m _ _ _ _ Ak ck key.f4 val.f0 val.f1 val.f2 val.f3 val.f4 b W hv hkC hkc hf).mono ?_
  rintro e W' ⟨v0, rfl, hV, hb⟩
  obtain ⟨A', c', rfl⟩ := Kd.V_slice hV
  exact ⟨A', _, c', rfl, (h.call hb).addU hV (fun k hk => hk.elim id (h.fresh k))⟩
theorem c_rnext (h : Pl w W bs vl ul) (i j1 : Nat) {b : Bool} (hi : vl[i]? = some (.slice A n c, S)) (h1 : ul[j1]? = some (.slice Ak nk ck, key.f4)) (hf : windlassref4_Next.f 5000 S m key.f0 key.f1 key.f2 key.f3 key.f4 = some (val.f0, val.f1, val.f2, val.f3, val.f4, b)) :
    Calls Try.prog 22 #[.agg #[.slice A n c], .int .i64 m, .agg #[.int .i64 key.f0, .int .i64 key.f1, .string key.f2, .int .i64 key.f3, .slice Ak nk ck]] W fun e W' => ∃ A' n' c', e = .returned (.tuple #[.agg #[.int .i64 val.f0, .int .i64 val.f1, .string val.f2, .int .i64 val.f3, .slice A' n' c'], .bool b]) ∧ Pl w W' bs vl ((.slice A' n' c', val.f4) :: ul) := by
  have hv := h.vv i hi
  obtain ⟨rfl, _, _⟩ := Kd.V_at hv
  have hk := h.uu j1 h1
  obtain ⟨_, hkc, hkC⟩ := Kd.V_reads' hk
  obtain ⟨rfl, _, _⟩ := Kd.V_at hk
  refine (windlassref4_Next.calls 5000 (Away bs) A c S m _ _ _ _ Ak ck key.f4 val.f0 val.f1 val.f2 val.f3 val.f4 b W hv hkC hkc hf).mono ?_
  rintro e W' ⟨v0, rfl, hV, hb⟩
  obtain ⟨A', c', rfl⟩ := Kd.V_slice hV
  exact ⟨A', _, c', rfl, (h.call hb).addU hV (fun k hk => hk.elim id (h.fresh k))⟩
theorem c_first (h : Pl w W bs vl ul) (i : Nat) {b : Bool} (hi : vl[i]? = some (.slice A n c, S)) (hf : heap_First.f S m = some (val.f0, val.f1, val.f2, val.f3, val.f4, b)) :
    Calls Try.prog 13 #[.agg #[.slice A n c], .int .i64 m] W fun e W' => ∃ A' n' c', e = .returned (.tuple #[.agg #[.int .i64 val.f0, .int .i64 val.f1, .string val.f2, .int .i64 val.f3, .slice A' n' c'], .bool b]) ∧ Pl w W' bs vl ((.slice A' n' c', val.f4) :: ul) := by
  have hv := h.vv i hi
  obtain ⟨rfl, _, _⟩ := Kd.V_at hv
  refine (heap_First.calls (Away bs) A c S m val.f0 val.f1 val.f2 val.f3 val.f4 b W hv hf).mono ?_
  rintro e W' ⟨v0, rfl, hV, hb⟩
  obtain ⟨A', c', rfl⟩ := Kd.V_slice hV
  exact ⟨A', _, c', rfl, (h.call hb).addU hV (fun k hk => hk.elim id (h.fresh k))⟩
theorem c_rfirst (h : Pl w W bs vl ul) (i : Nat) {b : Bool} (hi : vl[i]? = some (.slice A n c, S)) (hf : windlassref4_First.f S m = some (val.f0, val.f1, val.f2, val.f3, val.f4, b)) :
    Calls Try.prog 23 #[.agg #[.slice A n c], .int .i64 m] W fun e W' => ∃ A' n' c', e = .returned (.tuple #[.agg #[.int .i64 val.f0, .int .i64 val.f1, .string val.f2, .int .i64 val.f3, .slice A' n' c'], .bool b]) ∧ Pl w W' bs vl ((.slice A' n' c', val.f4) :: ul) := by
  have hv := h.vv i hi
  obtain ⟨rfl, _, _⟩ := Kd.V_at hv
  refine (windlassref4_First.calls (Away bs) A c S m val.f0 val.f1 val.f2 val.f3 val.f4 b W hv hf).mono ?_
  rintro e W' ⟨v0, rfl, hV, hb⟩
  obtain ⟨A', c', rfl⟩ := Kd.V_slice hV
  exact ⟨A', _, c', rfl, (h.call hb).addU hV (fun k hk => hk.elim id (h.fresh k))⟩
theorem c_vsame (h : Pl w W bs vl ul) (i j : Nat) {A2 : Option Addr} {n2 c2 : Nat} (hi : ul[i]? = some (.slice A n c, val.f4)) (hj : ul[j]? = some (.slice A2 n2 c2, val.f4)) (hv : dw 3 val) :
    Calls Try.prog 24 #[.agg #[.int .i64 val.f0, .int .i64 val.f1, .string val.f2, .int .i64 val.f3, .slice A n c], .agg #[.int .i64 val.f0, .int .i64 val.f1, .string val.f2, .int .i64 val.f3, .slice A2 n2 c2]] W fun e W' => e = .returned (.bool true) ∧ Pl w W' bs vl ul := by
  have h1 := h.uu i hi
  have h2 := h.uu j hj
  obtain ⟨_, c1, C1⟩ := Kd.V_reads' h1
  obtain ⟨_, c2, C2⟩ := Kd.V_reads' h2
  obtain ⟨rfl, _, _⟩ := Kd.V_at h1
  obtain ⟨rfl, _, _⟩ := Kd.V_at h2
  refine (windlassref3_Same.calls 5000 _ _ _ _ _ _ _ _ _ _ _ _ _ _ true W C1 c1 C2 c2 (ref_self 5000 (by omega) val hv)).mono ?_
  rintro e W' ⟨rfl, hb⟩
  exact ⟨rfl, h.call hb⟩
theorem c_same (h : Pl w W bs vl ul) (i j : Nat) {A2 : Option Addr} {n2 c2 : Nat} (hi : vl[i]? = some (.slice A n c, S)) (hj : vl[j]? = some (.slice A2 n2 c2, S)) (hg : Good S) :
    Calls Try.prog 19 #[.agg #[.slice A n c], .agg #[.slice A2 n2 c2]] W fun e W' => e = .returned (.bool true) ∧ Pl w W' bs vl ul := by
  have h1 := h.vv i hi
  have h2 := h.vv j hj
  obtain ⟨_, c1, C1⟩ := Kd.V_reads' h1
  obtain ⟨_, c2, C2⟩ := Kd.V_reads' h2
  obtain ⟨rfl, _, _⟩ := Kd.V_at h1
  obtain ⟨rfl, _, _⟩ := Kd.V_at h2
  refine (windlassref4_Same.calls 5000 A c S A2 _ S true W C1 c1 C2 c2 (plays_same hg)).mono ?_
  rintro e W' ⟨rfl, hb⟩
  exact ⟨rfl, h.call hb⟩
theorem c_hsame (h : Pl w W bs vl ul) (i j : Nat) {A2 : Option Addr} {n2 c2 : Nat} (hi : vl[i]? = some (.slice A n c, S)) (hj : vl[j]? = some (.slice A2 n2 c2, S)) (hg : Good S) :
    Calls Try.prog 25 #[.agg #[.slice A n c], .agg #[.slice A2 n2 c2]] W fun e W' => e = .returned (.bool true) ∧ Pl w W' bs vl ul := by
  have h1 := h.vv i hi
  have h2 := h.vv j hj
  obtain ⟨_, c1, C1⟩ := Kd.V_reads' h1
  obtain ⟨_, c2, C2⟩ := Kd.V_reads' h2
  obtain ⟨rfl, _, _⟩ := Kd.V_at h1
  obtain ⟨rfl, _, _⟩ := Kd.V_at h2
  refine (heap_Same.calls 5000 A c S A2 _ S W C1 c1 C2 c2 (plays_hsame hg)).mono ?_
  rintro e W' ⟨rfl, hb⟩
  exact ⟨rfl, h.call hb⟩
end
end Go.Proofs.Ytnokieaebnmljaa.PAll
